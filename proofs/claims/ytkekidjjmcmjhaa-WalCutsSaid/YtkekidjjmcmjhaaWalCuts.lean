/- WalCuts: a file that is cut anywhere says just the records that are whole. -/
import Derived.Test.YtkekidjjmcmjhaaWalZ
import Derived.Test.YtkekidjjmcmjhaaOpenW
import Derived.Deep.CutBlock
namespace Go.Proofs.Ytkekidjjmcmjhaa
open Go.RowKit Go.Shelf
set_option maxRecDepth 100000
attribute [local irreducible] Der

/-- The state ahead of a round. -/
structure CutI (w wr : World) (A : List Nat) (b m q : Nat) (g : Option Nat) (s : DS) (recs : List (List Int)) (acc : Value) (ga : Option Nat) (k : Nat) : Prop where
  wal : WalIs wr A b m q g ⟨400, [] :: recs, false⟩ s
  log : LogOn s 400 ([] :: recs)
  cm : Cm s
  room : s.room = 940
  ops : s.ops ≤ 4 + 2 * k
  others : ∀ y, y ≠ 0 → s.fl y = none
  rows : RowIs wr A acc ga recs
  apart : ∀ k, ga = some k → k ≠ b ∧ k ≠ m ∧ k ≠ q ∧ g ≠ some k
  len : recs.length ≤ k
  short : ∀ p ∈ recs, p.length ≤ 300
  bel : Below w.heap.size w wr
  new : ∀ a ∈ A, w.heap.size ≤ a
theorem CutI.below {w wr wr' : World} {A : List Nat} {b m q : Nat} {g : Option Nat} {s : DS} {recs : List (List Int)} {acc : Value} {ga : Option Nat} {k : Nat} (h : CutI w wr A b m q g s recs acc ga k) (hb : Below wr.heap.size wr wr') : CutI w wr' A b m q g s recs acc ga k :=
  ⟨h.wal.below hb, h.log, h.cm, h.room, h.ops, h.others, h.rows.below h.wal.disk.lt hb, h.apart, h.len, h.short, h.bel.trans (hb.mono h.bel.size), h.new⟩

set_option maxRecDepth 100000 in
set_option maxHeartbeats 8000000 in
theorem f_WalCuts (v : Value) (ps : List (Value × List Int)) (at_ : Int) (w : World) (h : BytsV w v ps) :
    Calls Try.prog 3 #[v, .int .i64 at_] w fun e w' => e = .returned (.bool true) ∧ Below w.heap.size w w' := by
  obtain ⟨⟨hsl, -⟩, hby⟩ := h
  obtain ⟨av, cv, rfl, hc1, hc2, hcell⟩ := hsl.form
  have HC := Lib.hid (fun (W : World) (hW : Below w.heap.size w W) (k : Nat) (hk : k < ps.length) => (show ∃ bb off, av = some ⟨bb, off, none⟩ ∧ W.cell? ⟨bb, off + k, none⟩ = some ps[k].1 ∧ Byt W ps[k].1 ps[k].2 ∧ Byte ps[k].2 from by
    obtain ⟨bb, off, e, hlt, hc⟩ := hcell (by intro e; have := congrArg List.length e; simp at this; rw [this] at hk; simp at hk)
    have h1 := hby ps[k] (List.getElem_mem _)
    refine ⟨bb, off, e, (hW.cell (p := ⟨bb, off + k, none⟩) hlt).trans ?_, h1.1.grown hW, h1.2⟩
    rw [hc k (by simpa using hk)]; simp))
  clear hsl hby hcell
  obtain ⟨i0, hi, hz0, hz1, hz2⟩ := info_parts (show (Try.prog.info? 28).map (fun i => (i.zero, i.size, i.bytes)) = some (some (.slice none 0 0), 1, 24) by kernel_rfl)
  go_enter Try.func3, Try.ntmps3
  go_wp2_with fail
  refine (f_wakes _).mono ?_
  rintro e w1 ⟨rfl, hb1⟩
  go_wp2_with fail
  refine (f_fresh _).mono ?_
  rintro e w2 ⟨A0, b, m, q, g0, s0, rfl, hW, hL, hC, hroom, hops, hfl, hb2, hq, hb, hm, hg, hA⟩
  have hI0 : CutI w w2 A0 b m q g0 s0 [] (.slice none 0 0) none 0 := ⟨hW, hL, hC, hroom, by simpa using hops, fun y hy => by rw [hfl, updF_ne _ _ hy], RowIs.nil _ _, fun k hk => (by cases hk), by simp, fun p hp => (by cases hp), hb1.trans (hb2.mono hb1.size), fun a ha => by have := hA a ha; have := hb1.size; omega⟩
  have I0 := Lib.hid hI0
  have hbq : w.heap.size ≤ q ∧ w.heap.size ≤ b ∧ w.heap.size ≤ m := by have := hb1.size; omega
  clear hI0 hW hL hC hfl hb1 hb2 hA hg hroom hops
  go_upto_block 0 with fail
  go_cut [8, 9, 10, 11] from 32 to 67 (fun acc _ _ _ wc => ∃ (A : List Nat) (g : Option Nat) (s : DS) (recs : List (List Int)) (ga : Option Nat) (k : Nat), k ≤ 20 ∧ CutI w wc A b m q g s recs acc ga k)
  case first =>
    go_wp2_with fail
    go_loopw [8, 32] (fun acc i wr => ∃ (k : Nat) (A : List Nat) (g : Option Nat) (s : DS) (recs : List (List Int)) (ga : Option Nat), k ≤ 20 ∧ k ≤ ps.length ∧ i = .int .i64 k ∧ CutI w wr A b m q g s recs acc ga k) (fun _ i _ => ps.length - (intOf i).toNat)
    case atStart => exact ⟨0, A0, g0, s0, [], none, by omega, Nat.zero_le _, rfl, I0.out⟩
    case round =>
      obtain ⟨k, A, g, s, recs, ga, hk, hkl, rfl, hI⟩ := hrel
      obtain ⟨acc, hacc⟩ : ∃ x, x = u8 := ⟨_, rfl⟩
      subst hacc
      have HI := Lib.hid hI
      clear hI
      by_cases hlt : k < ps.length
      · obtain ⟨bb, off, rfl, hck, hbt, hby⟩ := HC.out wr HI.out.bel k hlt
        by_cases h20 : k = 20
        · subst h20
          go_wp2
          go_meet
          case rel => exact ⟨A, g, s, recs, ga, 20, by omega, HI.out⟩
        · have HBT := Lib.hid hbt
          have HBY := Lib.hid hby
          obtain ⟨xv, hxv⟩ : ∃ x, ps[k].1 = x := ⟨_, rfl⟩
          obtain ⟨xl, hxl⟩ : ∃ x, ps[k].2 = x := ⟨_, rfl⟩
          rw [hxv] at hck
          rw [hxv, hxl] at HBT
          rw [hxl] at HBY
          obtain ⟨ax, cx, rfl, -⟩ := HBT.out.open
          clear hbt hby hxv hxl
          go_wp2_with fail
          refine (f_some _ xl _ HBT.out).mono ?_
          rintro e w3 ⟨⟨v3, rfl, own3⟩, hb3⟩
          obtain ⟨l2, hl2⟩ : ∃ l, xl.take 300 = l := ⟨_, rfl⟩
          have hlen2 : l2.length ≤ 300 := by rw [← hl2, List.length_take]; omega
          have hbl2 : Byte l2 := by rw [← hl2]; exact HBY.out.take 300
          rw [hl2] at own3
          have I3 := Lib.hid (HI.out.below hb3)
          have OWN3 := Lib.hid own3
          have BY3 := Lib.hid (Byt.of_owns own3 rfl)
          have O3 := Lib.hid (own_slice own3)
          obtain ⟨a3, c3, rfl, -⟩ := BY3.out.open
          have s3 := hb3.size
          have hbw := HI.out.bel.size
          clear own3 hb3 HBT HBY hl2
          have hcost : ((costL ([] :: recs) : Nat) : Int) ≤ 400 := I3.out.log.cost
          go_wp2_with fail
          refine (f_WalLeft I3.out.wal ⟨by show (0 : Int) ≤ 400; omega, by show (400 : Int) ≤ 1000000; omega⟩ (by show costL ([] :: recs) ≤ _; omega)).mono ?_
          rintro e w4 ⟨rfl, hb4⟩
          have I4 := Lib.hid (I3.out.below hb4)
          have BY4 := Lib.hid (BY3.out.grown hb4)
          have s4 := hb4.size
          have hxa : ∀ ad n c, Value.slice a3 l2.length c3 = .slice (some ad) n c → wr.heap.size ≤ ad.block ∧ ad.block < w3.heap.size := fun ad n c e => by
            obtain ⟨p', k', c', e2, h2⟩ := O3.out
            rw [e] at e2
            simp only [Value.slice.injEq] at e2
            exact h2 ad e2.1.symm
          have XA := Lib.hid hxa
          have hbA := I4.out.wal.disk.hb
          have hmA := I4.out.wal.disk.hm
          have hqA := I4.out.wal.said.hq
          have hAl := HI.out.wal.disk.lt
          have hbl := hAl b hbA
          have hml := hAl m hmA
          have hql := hAl q hqA
          have HAL := Lib.hid hAl
          clear hb4 hxa hAl
          dsimp only
          by_cases hf : fitB 400 ([] :: recs) l2.length = true
          · have hl2 : s.len 2 = 0 := by unfold DS.len DS.at; rw [I4.out.others 2 (by decide)]; rfl
            have hl3 : s.len 3 = 0 := by unfold DS.len DS.at; rw [I4.out.others 3 (by decide)]; rfl
            obtain ⟨e1, e2, q3, q4, q5, q6, q7⟩ := wapp_calm (ws := ⟨400, [] :: recs, false⟩) (s := s) (bs := l2) I4.out.log rfl hbl2 hf (by rw [hl2, hl3, I4.out.room]; show ((0 + 0 : Nat) : Int) + 400 + 20 ≤ 940; decide) I4.out.cm
            have hfit : ((costL ([] :: recs) + 12 + l2.length : Nat) : Int) ≤ 400 := fit_bd (ws := ⟨400, [] :: recs, false⟩) hf
            have hcapp : costL (([] :: recs) ++ [l2]) = costL ([] :: recs) + 12 + l2.length := by rw [costL_app]; simp only [costL]; omega
            have E1 := Lib.hid e1
            have E2 := Lib.hid e2
            have Q4 := Lib.hid q4
            have Q3 := Lib.hid q3
            have Q6 := Lib.hid q6
            have HCA := Lib.hid hcapp
            obtain ⟨C, hC⟩ : ∃ C, costL ([] :: recs) = C := ⟨_, rfl⟩
            have HCC := Lib.hid hC
            rw [hC] at hcost hfit
            rw [hC]
            clear e1 e2 q3 q4 q6 hf hcapp hl2 hl3 hC
            go_wp2_with fail
            refine (f_WalAppend I4.out.wal I4.out.log.ok (by have := I4.out.ops; omega) (by show costL ([] :: recs) ≤ _; rw [HCC.out]; omega) _ l2 BY4.out (by omega) hbl2 (fun ad n c e => by have := XA.out ad n c e; omega)).mono ?_
            rintro e w5 ⟨rfl, A5, g5, hA5, hg5, hW5, t5⟩
            rw [E2.out] at hW5
            rw [E1.out]
            replace hW5 : WalIs w5 A5 b m q g5 ⟨400, [] :: (recs ++ [l2]), false⟩ (wappS ⟨400, [] :: recs, false⟩ s l2) := hW5
            have hLA : ∀ a ∈ b :: m :: q :: g.toList, a ∈ A := fun a ha => by
              simp only [List.mem_cons, Option.mem_toList] at ha
              rcases ha with rfl | rfl | rfl | ha
              · exact hbA
              · exact hmA
              · exact hqA
              · exact (I4.out.wal.said.hg a ha).1
            have hLl : ∀ a ∈ b :: m :: q :: g.toList, a < wr.heap.size := fun a ha => HAL.out a (hLA a ha)
            have hrow5 : RowIs w5 A5 acc ga recs := I4.out.rows.turn t5.size hA5 (fun k hk hkA => t5.block k hk (fun e => hkA (hLA k e))) (fun k hk => t5.block k (I4.out.wal.disk.lt k (I4.out.rows.2.1 k hk)) (fun hc => by
              obtain ⟨h1, h2, h3, h4⟩ := I4.out.apart k hk
              simp only [List.mem_cons, Option.mem_toList] at hc
              rcases hc with hc | hc | hc | hc
              · exact h1 hc
              · exact h2 hc
              · exact h3 hc
              · exact h4 hc))
            have hbw5 : Below w.heap.size w w5 := I4.out.bel.trans (t5.below (by have := I4.out.bel.size; omega) (fun a ha => I4.out.new a (hLA a ha)))
            have hnew5 : ∀ a ∈ A5, w.heap.size ≤ a := fun a ha => by
              rcases hA5.2 a ha with h1 | h1
              · exact I4.out.new a h1
              · have := I4.out.bel.size; omega
            have hgg : ∀ k, ga = some k → g5 ≠ some k := fun k hk hc => by
              rcases hg5 with h1 | ⟨k', h1, h2⟩
              · exact (I4.out.apart k hk).2.2.2 (h1 ▸ hc)
              · rw [h1] at hc
                have := Option.some.inj hc
                have := I4.out.wal.disk.lt k (I4.out.rows.2.1 k hk)
                omega
            have hby5 : Byt w5 (.slice a3 l2.length c3) l2 := BY4.out.turn t5.size (fun ad n c e => t5.block _ (by have := XA.out ad n c e; omega) (fun hc => by have := hLl _ hc; have := XA.out ad n c e; omega))
            have hxa5 : ∀ ad n c, Value.slice a3 l2.length c3 = .slice (some ad) n c → ad.block < w5.heap.size ∧ ad.block ∉ A5 := fun ad n c e => by
              have h1 := XA.out ad n c e
              have h2 := t5.size
              refine ⟨by omega, fun hc => ?_⟩
              rcases hA5.2 _ hc with h3 | h3
              · have := HAL.out _ h3; omega
              · omega
            obtain ⟨s', hs'⟩ : ∃ t, wappS ⟨400, [] :: recs, false⟩ s l2 = t := ⟨_, rfl⟩
            rw [hs'] at hW5 Q3 Q4 q5 Q6 q7
            obtain ⟨hv5, hga5, ps5, f1, f2, f3⟩ := hrow5
            have hpl5 : ps5.length = recs.length := by rw [← f1, List.length_map]
            have hpl6 : ps5.length ≤ 20 := by have := I4.out.len; omega
            have hrow5' : (w5.alloc (.cells #[.slice a3 l2.length c3] 28)).ownsRow 0 28 1 acc ps5.length (ps5.map Prod.fst) := f2.alloc _
            have b5 : Below w5.heap.size w5 (w5.alloc (.cells #[.slice a3 l2.length c3] 28)) := (Below.refl _ _).alloc (Nat.le_refl _) _
            have W5 := Lib.hid (hW5.below b5)
            have ROW := Lib.hid (fun (v6 : Value) (w6 : World) hg6 own6 hat6 => RowIs.grow (w := w5.alloc (.cells #[.slice a3 l2.length c3] 28)) (w' := w6) (v' := v6) hv5 hga5 f1 (fun p hp => ⟨(f3 p hp).1.grown b5, fun ad n c e => ⟨Nat.lt_of_lt_of_le ((f3 p hp).2 ad n c e).1 b5.size, ((f3 p hp).2 ad n c e).2⟩⟩) (hby5.grown b5) (fun ad n c e => ⟨Nat.lt_of_lt_of_le (hxa5 ad n c e).1 b5.size, (hxa5 ad n c e).2⟩) hg6 own6 hat6)
            have HV5 := Lib.hid hv5
            have HGA5 := Lib.hid hga5
            have HNEW := Lib.hid hnew5
            have HGG := Lib.hid hgg
            have HBW := Lib.hid (hbw5.trans (b5.mono hbw5.size))
            have hs5 : w5.heap.size < (w5.alloc (.cells #[.slice a3 l2.length c3] 28)).heap.size := by simp
            have hws5 := hbw5.size
            have hw45 := t5.size
            clear hW5 hby5 hxa5 hv5 hga5 f1 f2 f3 hnew5 hgg b5 hbw5 hLA hLl t5 hA5 hg5 hs'
            go_wp2_with (at_builtin; refine wpList_append_own_at _ rfl _ _ 22 rfl 0 28 i0 (.slice none 0 0) 1 24 Try.underlying22 hi hz0 hz1 hz2 rfl (by decide) _ _ _ rfl hrow5' ⟨w5.heap.size, 0, none⟩ 1 1 [.slice a3 l2.length c3] rfl rfl (by intro a u ha; match a, ha with | 0, ha => simp at ha; subst ha; simp [Addr.add]) (by intro u hu; simp at hu; subst hu; rfl) (by unfold maxLen; omega) (by omega) (by omega) ?_; intro v6 w6 own6 hg6 _ hat6; refine Hid.out ?_)
            refine Lib.hid ?_
            replace hat6 : v6.ownBlock = acc.ownBlock ∨ v6.ownBlock = some (w5.alloc (.cells #[.slice a3 l2.length c3] 28)).heap.size := hat6
            replace hg6 : (w5.alloc (.cells #[.slice a3 l2.length c3] 28)).grownBy w6 acc.ownBlock := hg6
            have hrow6 := ROW.out v6 w6 hg6 own6 hat6
            obtain ⟨WA, hWA⟩ : ∃ x, w5.alloc (.cells #[.slice a3 l2.length c3] 28) = x := ⟨_, rfl⟩
            rw [hWA] at hg6 hat6 W5 HBW hs5
            have s6 := hg6.size
            have sW := HBW.out.size
            have hL5 : ∀ a ∈ ga.toList, a ∈ A5 := fun a ha => HGA5.out a (by simpa using ha)
            have hlA5 := W5.out.disk.lt
            have hext : Ext WA.heap.size A5 (v6.ownBlock.toList ++ A5) := ⟨fun a ha => List.mem_append_right _ ha, fun a ha => by
              rcases List.mem_append.1 ha with h1 | h1
              · rcases hat6 with h2 | h2
                · exact .inl (hL5 a (by rw [← HV5.out, ← h2]; exact h1))
                · rw [h2] at h1; simp at h1; exact .inr (by omega)
              · exact .inl h1⟩
            have hown6 : ∀ k, v6.ownBlock = some k → k < w6.heap.size := fun k hk => (own6.lt k hk).2
            have hl6 : ∀ a ∈ v6.ownBlock.toList ++ A5, a < w6.heap.size := fun a ha => by
              rcases List.mem_append.1 ha with h1 | h1
              · exact hown6 a (by simpa using h1)
              · have := hlA5 a h1; omega
            have t6 : Tw WA.heap.size ga.toList WA w6 := ⟨hg6.os, hg6.tape, hg6.output, hg6.size, fun k hk hkL => hg6.block k hk (fun e => hkL (by rw [← HV5.out, ← e]; simp))⟩
            have hap : ∀ k, ga = some k → k ≠ b ∧ k ≠ m ∧ k ≠ q ∧ g5 ≠ some k := fun k hk => ⟨(I4.out.apart k hk).1, (I4.out.apart k hk).2.1, (I4.out.apart k hk).2.2.1, HGG.out k hk⟩
            have hW6 := W5.out.ext (A' := v6.ownBlock.toList ++ A5) t6 hL5 (fun hc => (hap b (by simpa using hc)).1 rfl) (fun hc => (hap m (by simpa using hc)).2.1 rfl) (fun hc => (hap q (by simpa using hc)).2.2.1 rfl) (fun k hk hc => (hap k (by simpa using hc)).2.2.2 hk) hext hl6
            have I6 : CutI w w6 (v6.ownBlock.toList ++ A5) b m q g5 s' (recs ++ [l2]) v6 v6.ownBlock (k + 1) :=
              ⟨hW6, Q4.out, Q3.out, q5.trans I4.out.room, by have := I4.out.ops; push_cast; omega, fun y hy => (Q6.out y hy).trans (I4.out.others y hy), hrow6, fun k hk => by
                rcases hat6 with h2 | h2
                · exact hap k (by rw [← HV5.out, ← h2]; exact hk)
                · rw [h2] at hk
                  have := Option.some.inj hk
                  refine ⟨by omega, by omega, by omega, fun hc => ?_⟩
                  have := hlA5 k (W5.out.said.hg k hc).1
                  omega, by rw [List.length_append]; simp; exact I4.out.len, fun p hp => by
                rcases List.mem_append.1 hp with h1 | h1
                · exact I4.out.short p h1
                · simp only [List.mem_cons, List.not_mem_nil, or_false] at h1
                  rw [h1]; exact hlen2, HBW.out.trans (t6.below sW (fun a ha => HNEW.out a (hL5 a ha))), fun a ha => by
                rcases hext.2 a ha with h1 | h1
                · exact HNEW.out a h1
                · omega⟩
            have HI6 := Lib.hid I6
            have hleft : (400 : Int) - (costL ([] :: (recs ++ [l2])) : Nat) = 400 - C - 12 - l2.length := by
              have h1 := HCA.out
              have h2 := HCC.out
              rw [List.cons_append] at h1
              rw [h1, h2]; push_cast; omega
            have hc6 : costL ([] :: (recs ++ [l2])) ≤ 400 := by have := I6.log.cost; omega
            have x1 : IntKind.i64.wrap ((400 : Int) - C - 12) = 400 - C - 12 := wr64 (by omega) (by omega)
            have x2 : IntKind.i64.wrap ((400 : Int) - C - 12 - l2.length) = 400 - C - 12 - l2.length := wr64 (by omega) (by omega)
            have HLE := Lib.hid hleft
            clear I6 hW6 hap t6 hl6 hown6 hext hL5 hrow6 hg6 hat6 own6 hrow5' hWA hlA5 hleft
            go_wp2_with fail
            refine (f_WalLeft HI6.out.wal ⟨by show (0 : Int) ≤ 400; omega, by show (400 : Int) ≤ 1000000; omega⟩ (by show costL ([] :: (recs ++ [l2])) ≤ _; omega)).mono ?_
            rintro e w7 ⟨rfl, hb7⟩
            have HI7 := Lib.hid (HI6.out.below hb7)
            clear hb7
            dsimp only
            rw [HLE.out]
            go_wp2
            go_roundw
            case rel => exact ⟨k + 1, _, g5, s', recs ++ [l2], _, by omega, by omega, by go_num, HI7.out⟩
            case measure => simp [intOf]; omega
          · have hno : ¬ ((costL ([] :: recs) + 12 + l2.length : Nat) : Int) ≤ 400 := fun hc => hf (decide_eq_true hc)
            have hff : fitB 400 ([] :: recs) l2.length = false := by simpa using hf
            have hk0 : askedE ⟨400, [] :: recs, false⟩ l2.length = 0 := by unfold askedE; rw [if_neg (by simp), if_neg (by omega)]
            have e1 : wappE ⟨400, [] :: recs, false⟩ s l2 = 6 := by unfold wappE; rw [hk0, hff]; simp
            have e2 : wappW ⟨400, [] :: recs, false⟩ s l2 = ⟨400, [] :: recs, false⟩ := by unfold wappW; rw [hk0, hff]; simp
            have e3 : wappS ⟨400, [] :: recs, false⟩ s l2 = s := by unfold wappS; rw [hk0, hff]; simp
            have E1 := Lib.hid e1
            have E2 := Lib.hid e2
            have E3 := Lib.hid e3
            obtain ⟨C, hC⟩ : ∃ C, costL ([] :: recs) = C := ⟨_, rfl⟩
            have HCC := Lib.hid hC
            rw [hC] at hcost hno
            rw [hC]
            clear e1 e2 e3 hf hff hk0 hC
            go_wp2_with fail
            refine (f_WalAppend I4.out.wal I4.out.log.ok (by have := I4.out.ops; omega) (by show costL ([] :: recs) ≤ _; rw [HCC.out]; omega) _ l2 BY4.out (by omega) hbl2 (fun ad n c e => by have := XA.out ad n c e; omega)).mono ?_
            rintro e w5 ⟨rfl, A5, g5, hA5, hg5, hW5, t5⟩
            rw [E2.out, E3.out] at hW5
            rw [E1.out]
            have hLA : ∀ a ∈ b :: m :: q :: g.toList, a ∈ A := fun a ha => by
              simp only [List.mem_cons, Option.mem_toList] at ha
              rcases ha with rfl | rfl | rfl | ha
              · exact hbA
              · exact hmA
              · exact hqA
              · exact (I4.out.wal.said.hg a ha).1
            have hLl : ∀ a ∈ b :: m :: q :: g.toList, a < wr.heap.size := fun a ha => HAL.out a (hLA a ha)
            have hrow5 : RowIs w5 A5 acc ga recs := I4.out.rows.turn t5.size hA5 (fun k hk hkA => t5.block k hk (fun e => hkA (hLA k e))) (fun k hk => t5.block k (I4.out.wal.disk.lt k (I4.out.rows.2.1 k hk)) (fun hc => by
              obtain ⟨h1, h2, h3, h4⟩ := I4.out.apart k hk
              simp only [List.mem_cons, Option.mem_toList] at hc
              rcases hc with hc | hc | hc | hc
              · exact h1 hc
              · exact h2 hc
              · exact h3 hc
              · exact h4 hc))
            have hbw5 : Below w.heap.size w w5 := I4.out.bel.trans (t5.below (by have := I4.out.bel.size; omega) (fun a ha => I4.out.new a (hLA a ha)))
            have hnew5 : ∀ a ∈ A5, w.heap.size ≤ a := fun a ha => by
              rcases hA5.2 a ha with h1 | h1
              · exact I4.out.new a h1
              · have := I4.out.bel.size; omega
            have hgg : ∀ k, ga = some k → g5 ≠ some k := fun k hk hc => by
              rcases hg5 with h1 | ⟨k', h1, h2⟩
              · exact (I4.out.apart k hk).2.2.2 (h1 ▸ hc)
              · rw [h1] at hc
                have := Option.some.inj hc
                have := I4.out.wal.disk.lt k (I4.out.rows.2.1 k hk)
                omega
            have I5 : CutI w w5 A5 b m q g5 s recs acc ga (k + 1) := ⟨hW5, I4.out.log, I4.out.cm, I4.out.room, by have := I4.out.ops; push_cast; omega, I4.out.others, hrow5, fun k hk => ⟨(I4.out.apart k hk).1, (I4.out.apart k hk).2.1, (I4.out.apart k hk).2.2.1, hgg k hk⟩, by have := I4.out.len; omega, I4.out.short, hbw5, hnew5⟩
            have HI5 := Lib.hid I5
            clear I5 hrow5 hbw5 hnew5 hgg hLA hLl t5 hA5 hg5 hW5
            go_wp2
            go_roundw
            case rel => exact ⟨k + 1, A5, g5, s, recs, ga, by omega, by omega, by go_num, HI5.out⟩
            case measure => simp [intOf]; omega
      · go_wp2
        go_meet
        case rel => exact ⟨A, g, s, recs, ga, k, by omega, HI.out⟩
  case rest =>
    obtain ⟨A, g, s, recs, ga, k, hk, hI⟩ := hcut
    have hcost : ((costL ([] :: recs) : Nat) : Int) ≤ 400 := hI.log.cost
    have hat : (s.at 0).bs = fileB 400 ([] :: recs) := by unfold DS.at; rw [hI.log.log]; rfl
    have o1 := read_out (x := 0) hI.log.dead (by omega) (by omega) hI.log.log
    obtain ⟨hz, -⟩ := o1.calm hI.cm
    dsimp only at hz
    have hrl := hI.len
    have hby : ∀ p ∈ ([] : List Int) :: recs, p.length ≤ 1000000 ∧ Byte p := fun p hp => ⟨by
      rcases List.mem_cons.1 hp with rfl | h1
      · simp
      · have := hI.short p h1; omega, hI.log.byte p hp⟩
    have HBY := Lib.hid hby
    have HI := Lib.hid hI
    have HZ := Lib.hid hz
    have HAT := Lib.hid hat
    have HFB := Lib.hid (fileB_byte (most := 400) hI.log.byte)
    have HFL := Lib.hid (fileB_len 400 ([] :: recs))
    obtain ⟨F, hF⟩ : ∃ F, fileB 400 ([] :: recs) = F := ⟨_, rfl⟩
    rw [hF] at HAT HFB HFL
    have hFl : 32 ≤ F.length ∧ F.length ≤ 420 := by have := HFL.out; simp only [costL, List.length_nil] at this hcost; omega
    have HF := Lib.hid hF
    clear hI o1 hz hat hF hby
    go_wp2_with fail
    refine (f_Read HI.out.wal.disk HI.out.log.ok (by have := HI.out.ops; omega) 0 (w64 (by omega) (by omega))).mono ?_
    rintro e w3 ⟨v3, rfl, hv3, hd3, t3, hva3⟩
    rw [HZ.out] at hv3 ⊢
    rw [if_pos rfl, HAT.out] at hv3
    have hW3 := HI.out.wal.disked hd3 t3
    have hrow3 : RowIs w3 A _ ga recs := HI.out.rows.turn t3.size (Ext.refl _ _) (fun k hk hkA => t3.block k hk (fun hm => by simp at hm; rcases hm with rfl | rfl; exact hkA HI.out.wal.disk.hb; exact hkA HI.out.wal.disk.hm)) (fun k hk => t3.block k (HI.out.wal.disk.lt k (HI.out.rows.2.1 k hk)) (by have := HI.out.apart k hk; simp; exact ⟨this.1, this.2.1⟩))
    have hbw3 : Below w.heap.size w w3 := HI.out.bel.trans (t3.below HI.out.bel.size (fun a ha => by simp at ha; omega))
    obtain ⟨a3, c3, rfl, hl3, hm3, -⟩ := hv3.open
    have HROW := Lib.hid hrow3.rows
    obtain ⟨ar, cr, rfl, hr1, hr2⟩ := hrow3.rows.form
    have HV3 := Lib.hid hv3
    have HVA := Lib.hid hva3
    have HW3 := Lib.hid hW3
    have HBW := Lib.hid hbw3
    have sw3 := hbw3.size
    clear hrow3 hv3 hva3 hW3 hbw3 hd3 t3
    go_wp2_with fail
    refine (f_has HW3.out rfl (by omega) HBY.out _ _ [] recs (Byt.nil _) HROW.out (fun c hc => by cases hc) (fun p hp => (HBY.out p (by simp [hp])).2) (by omega)).mono ?_
    rintro e w4 ⟨rfl, hb4⟩
    rw [show decide (([] : List Int) = [] ∧ recs = recs) = true from by simp]
    have HB4 := Lib.hid hb4
    have s4 := hb4.size
    clear hb4
    go_wp2_with fail
    have hX : 0 ≤ IntKind.u64.wrap at_ := by unfold IntKind.wrap; simp [IntKind.bits, IntKind.signed]; omega
    obtain ⟨N, hN, hNl⟩ : ∃ N : Nat, wrap64 ((IntKind.u64.wrap at_).tmod ((F.length : Int) + 1)) = (N : Int) ∧ N ≤ F.length := by
      rw [Int.tmod_eq_emod_of_nonneg hX]
      have h1 := Int.emod_nonneg (IntKind.u64.wrap at_) (show ((F.length : Int) + 1) ≠ 0 by omega)
      have h2 := Int.emod_lt_of_pos (IntKind.u64.wrap at_) (show (0:Int) < (F.length : Int) + 1 by omega)
      refine ⟨((IntKind.u64.wrap at_) % ((F.length : Int) + 1)).toNat, ?_, by omega⟩
      unfold wrap64; omega
    rw [hN]
    clear hX hN
    refine (f_New 65536 _ (by omega) (by omega)).mono ?_
    rintro e w5 ⟨rfl, hd5, hb5⟩
    have HD5 := Lib.hid hd5
    have HB5 := Lib.hid hb5
    have s5 := hb5.size
    have hbl5 := hd5.blt
    have r1 := run_cutB a3 F.length c3 N hNl hl3 hm3
    have HCUT := Lib.hid (((HV3.out.grown HB4.out).grown hb5).cut hNl)
    have hNlen : (F.take N).length = N := by rw [List.length_take]; omega
    clear hd5 hb5
    go_wp2_with fail
    refine (f_Append HD5.out (new_ok (by omega) (by omega)) (by simp [newS]) 0 (w64 (by omega) (by omega)) _ (F.take N) HCUT.out (by omega) (fun ad n c e => by
      simp only [Value.slice.injEq] at e
      have := HVA.out ad F.length c3 (by rw [e.1])
      omega)).mono ?_
    rintro e w6 ⟨rfl, hd6, t6⟩
    have o2 := app_out (s := newS 65536) (x := 0) (bs := F.take N) rfl (by omega) (by omega) (by rw [hNlen]; show ((0 : Nat) : Int) + N ≤ 65536; omega)
    obtain ⟨hz2, hc2⟩ := o2.calm ⟨rfl, rfl, rfl⟩
    have g2 := (o2.good hz2).1
    have hok6 := append_ok (new_ok (room := 65536) (by omega) (by omega)) 0 (F.take N) (HFB.out.take N)
    have hop6 := (append_ops (newS 65536) 0 (F.take N)).1
    obtain ⟨s6, hs6⟩ : ∃ t, appendS (newS 65536) 0 (F.take N) = t := ⟨_, rfl⟩
    dsimp only [appR] at hz2 hc2 g2
    rw [hs6] at hd6 hc2 g2 hok6 hop6
    rw [hz2]
    have hfl6 : s6.fl 0 = some ⟨F.take N, 0, false⟩ := by rw [g2, updF_same]; simp [appF, DS.at, newS, f0]
    have hop6' : s6.ops ≤ 1 := by simpa [newS] using hop6
    have HD6 := Lib.hid hd6
    have HBW6 := Lib.hid (((HBW.out.trans (HB4.out.mono sw3)).trans (HB5.out.mono (by omega))).trans (t6.below (by omega) (by simp; omega)))
    have sw6 := t6.size
    have HC2 := Lib.hid hc2
    have HFL6 := Lib.hid hfl6
    have HOK6 := Lib.hid hok6
    have HCUT6 := Lib.hid ((HV3.out.grown HB4.out).grown HB5.out)
    have HROW6 := Lib.hid (((HROW.out.below HB4.out).below HB5.out))
    clear o2 hz2 hc2 g2 hok6 hop6 hs6 hd6 hfl6 r1
    go_wp2_with fail
    refine (f_Open HD6.out HOK6.out (by omega)).mono ?_
    rintro e w7 ⟨t7, A7, hA7, hpost⟩
    have HBW7 := Lib.hid (HBW6.out.trans (t7.below (by omega) (by simp; omega)))
    have hbs6 : (s6.at 0).bs = F.take N := by unfold DS.at; rw [HFL6.out]; rfl
    by_cases h32 : N < 32
    · obtain ⟨k1, -, -⟩ := open_no HC2.out HFL6.out (by
        show readOK (F.take N) = false
        rw [← HF.out]
        exact cut_no h32 (by decide) hcost (fun p hp => by have := HI.out.short p hp; omega))
      rcases hpost with ⟨-, rfl, -⟩ | ⟨h1, -⟩
      · rw [k1]
        clear t7 hA7 k1
        go_wp2
        go_ret
        exact ⟨rfl, HBW7.out⟩
      · rw [k1] at h1; exact absurd h1 (by decide)
    · obtain ⟨r, hcut, hr⟩ := cut_yes (most := 400) (recs := recs) (n := N) (by omega) (fun p hp => by have := HI.out.short p hp; omega)
      rw [HF.out] at hcut
      obtain ⟨T, hT⟩ : ∃ T, wholeN recs (N - 32) = T := ⟨_, rfl⟩
      rw [hT] at hcut hr
      have hTl : T ≤ recs.length := by rw [← hT]; exact wholeN_le _ _
      have hct : costL (recs.take T) ≤ costL recs := costL_take _ _
      have hcc : ((costL ([] :: recs.take T) : Nat) : Int) ≤ 400 := by simp only [costL] at hcost ⊢; omega
      have o3 := open_out (s := s6) (most := 400) (parts := [] :: recs.take T) (r := r) (sy := 0) (kp := false) HC2.out.dead (by rw [← hcut]; exact HFL6.out) (by omega) (by decide) hcc hr (by simp)
      obtain ⟨k1, -⟩ := o3.calm HC2.out
      obtain ⟨hmb, hpb⟩ := partsB_file (most := 400) (parts := [] :: recs.take T) (r := r) (by decide) hcc hr
      rw [← hcut] at hmb hpb
      rcases hpost with ⟨h1, -⟩ | ⟨-, q7, g7, hq7, hg7, rfl, hW7⟩
      · exact absurd k1 h1
      · rw [hbs6, hmb, hpb] at hW7
        have HW7 := Lib.hid hW7
        have hcnt : cntN recs 32 N = T := by rw [cntN_whole _ _ _ (by omega), hT]
        have HCN := Lib.hid hcnt
        have HROW7 := Lib.hid ((HROW.out.below HB4.out).below ((HB5.out.trans (t6.below (n' := w4.heap.size) (by omega) (by simp))).trans (t7.below (n' := w4.heap.size) (by omega) (by simp))))
        clear hcut hr hct hcc o3 k1 hmb hpb hg7 hW7 t7 hA7 hT hcnt t6
        go_wp2_with fail
        go_loopw [17, 18, 118] (fun e c i wr => ∃ (j C : Nat), j ≤ recs.length ∧ i = .int .i64 j ∧ e = .int .i64 ((32 + costL (recs.take j) : Nat) : Int) ∧ c = .int .i64 C ∧ C ≤ j ∧ C + cntN (recs.drop j) (32 + costL (recs.take j)) N = T ∧ wr = w7) (fun _ _ i _ => recs.length - (intOf i).toNat)
        case atStart => exact ⟨0, 0, Nat.zero_le _, rfl, rfl, rfl, Nat.le_refl _, by simpa [costL] using HCN.out, rfl⟩
        case round =>
          obtain ⟨j, C, hj, rfl, rfl, rfl, hCj, hcn, rfl⟩ := hrel
          have HCNT := Lib.hid hcn
          clear hcn
          by_cases hlt : j < recs.length
          · obtain ⟨bb, off, x, rfl, hck, hx⟩ := HROW7.out.get j hlt
            have HX := Lib.hid hx
            have hpj := HI.out.short recs[j] (List.getElem_mem _)
            have hcj : costL (recs.take (j + 1)) = costL (recs.take j) + (12 + recs[j].length) := by rw [← List.take_append_getElem hlt, costL_app]; simp [costL]
            have hcj2 : costL (recs.take (j + 1)) ≤ costL recs := costL_take _ _
            have hcr : costL recs ≤ 400 := by simp only [costL] at hcost; omega
            have hdj : recs.drop j = recs[j] :: recs.drop (j + 1) := List.drop_eq_getElem_cons hlt
            have HDJ := Lib.hid hdj
            obtain ⟨pj, hpje⟩ : ∃ p, recs[j] = p := ⟨_, rfl⟩
            rw [hpje] at HX hpj hcj HDJ
            obtain ⟨ax, cx, rfl, -⟩ := HX.out.open
            obtain ⟨E, hE⟩ : ∃ E : Nat, 32 + costL (recs.take j) = E := ⟨_, rfl⟩
            have hE2 : 32 + costL (recs.take (j + 1)) = E + 12 + pj.length := by omega
            have hc := HCNT.out
            rw [HDJ.out, hE, cntN] at hc
            have HE2 := Lib.hid hE2
            have hEl : E + 12 + pj.length ≤ 432 := by omega
            have HCJ := Lib.hid hc
            have y1 : IntKind.i64.wrap (12 + (pj.length : Int)) = 12 + pj.length := wr64 (by omega) (by omega)
            have y2 : IntKind.i64.wrap ((E : Int) + (12 + (pj.length : Int))) = E + (12 + pj.length) := wr64 (by omega) (by omega)
            rw [hE]
            clear hx hcj hcj2 hcr hdj hpje hE hE2 hc HCNT
            by_cases hin : E + 12 + pj.length ≤ N
            · have hc := HCJ.out
              rw [if_pos hin] at hc
              have HC2' := Lib.hid hc
              clear hc HCJ
              go_wp2
              go_roundw
              case rel => exact ⟨j + 1, C + 1, by omega, by go_num, by rw [HE2.out]; go_num, by go_num, by omega, by rw [HE2.out]; have := HC2'.out; omega, trivial⟩
              case measure => simp [intOf]; omega
            · have hc := HCJ.out
              rw [if_neg hin] at hc
              have HC2' := Lib.hid hc
              clear hc HCJ
              go_wp2
              go_roundw
              case rel => exact ⟨j + 1, C, by omega, by go_num, by rw [HE2.out]; go_num, rfl, by omega, by rw [HE2.out]; have := HC2'.out; omega, trivial⟩
              case measure => simp [intOf]; omega
          · obtain rfl : j = recs.length := by omega
            have hCT : C = T := by
              have := HCNT.out
              rw [List.drop_length] at this
              simpa [cntN] using this
            subst hCT
            have r2 := run_cutR ar recs.length cr C hTl hr1 hr2
            have HRT := Lib.hid (HROW7.out.cut hTl)
            clear HCNT HCN
            go_wp2_with fail
            refine (f_has HW7.out rfl (by rw [List.length_take]; omega) (fun p hp => HBY.out p (by
              rcases List.mem_cons.1 hp with h1 | h1
              · simp [h1]
              · exact List.mem_cons_of_mem _ (List.mem_of_mem_take h1))) _ _ [] (recs.take C) (Byt.nil _) HRT.out (fun c hc => by cases hc) (fun p hp => (HBY.out p (by simp [List.mem_of_mem_take hp])).2) (by rw [List.length_take]; omega)).mono ?_
            rintro e w8 ⟨rfl, hb8⟩
            rw [show decide (([] : List Int) = [] ∧ recs.take C = recs.take C) = true from by simp]
            have HBW8 := Lib.hid (HBW7.out.trans (hb8.mono HBW7.out.size))
            clear hb8
            go_wp2
            go_ret
            exact ⟨rfl, HBW8.out⟩
end Go.Proofs.Ytkekidjjmcmjhaa
