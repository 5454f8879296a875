/- The walk of MaskMakes: what it asks comes out true. -/
import Derived.Test.YtbanmngngfanhaaRefF
import Derived.Test.YtbanmngngfanhaaMaskSets
namespace Go.Proofs.Ytbanmngngfanhaa
open Go.RowKit
attribute [local irreducible] Der

theorem Sl.news {w : World} {ad : Addr} {n len cap : Nat} {cs pre : List Value} (h : Sl w (.slice (some ad) n cap) len cs) (hp : pre <+: cs) {w' : World} (hb : Below w.heap.size w w') :
    ∀ j u, pre[j]? = some u → w'.cell? (ad.add j) = some u := by
  intro j u hu
  obtain ⟨a, cap', hv, _, _, hc⟩ := h.form
  obtain ⟨rest, hr⟩ := hp
  have hpre : cs[j]? = some u := by
    rw [← hr, List.getElem?_append_left (List.getElem?_eq_some_iff.1 hu).1]; exact hu
  obtain ⟨hj, he⟩ := List.getElem?_eq_some_iff.1 hpre
  obtain ⟨b, off, ha, hlt, hcell⟩ := hc (by intro e; rw [e] at hj; simp at hj)
  simp only [Value.slice.injEq] at hv
  rw [← hv.1] at ha
  obtain rfl : ad = ⟨b, off, none⟩ := by simpa using ha
  have e : (⟨b, off, none⟩ : Addr).add j = ⟨b, off + j, none⟩ := by unfold Addr.add; split <;> simp_all
  rw [e, hb.cell (p := ⟨b, off + j, none⟩) hlt, hcell j hj, he]
theorem map_pre (l : List Int) (k : Nat) : (l.take k).map (Value.int .i64) <+: l.map (Value.int .i64) := by
  rw [List.map_take]; exact List.take_prefix _ _
theorem ints_one (l : List Int) : ∀ u ∈ l.map (Value.int .i64), u.oneCell' = true := by
  intro u hu
  obtain ⟨x, _, rfl⟩ := List.mem_map.1 hu
  rfl
def slotB (n : Int) : Bool := decide (0 ≤ n ∧ n < 96)
theorem slots_take (l : List Int) (j : Nat) (h : j < l.length) : (l.take (j + 1)).all slotB = ((l.take j).all slotB && slotB l[j]) := by
  rw [List.take_succ_eq_append_getElem h, List.all_append]; simp
theorem ofF_yes {l : List Int} (h : l.all slotB = true) : ofF l = (ofAll l, 0) := by
  unfold ofF; rw [if_pos]; intro x hx; exact of_decide_eq_true (List.all_eq_true.1 h x hx)
theorem ofF_no {l : List Int} (h : l.all slotB = false) : ofF l = (mZero, 2) := by
  unfold ofF; rw [if_neg]; intro hall
  rw [List.all_eq_false] at h
  obtain ⟨x, hx, hn⟩ := h
  exact hn (decide_eq_true (hall x hx))
theorem all_slots {l : List Int} (h : l.all slotB = true) : ∀ x ∈ l, isSlot x := fun x hx => of_decide_eq_true (List.all_eq_true.1 h x hx)

/-- append([]int{}, x[:m]...), x nil or with an address: the call's own row of the first m. -/
theorem append_copy {w : World} {ops : Array Oper} {rest : List Oper} {o : Oper} {act : Act} {Q : Exit → Act → World → Prop} (hgd : o.guard = none) (s x : Operand)
    (ho : o.op = .call { callee := .builtin .append, args := #[s, x], argTypes := #[31, 31] }) (p : Option Addr) (m c : Nat) (L : List Int) (hL : L.length = m) (hm : m ≤ 1000)
    (hs : act.eval s = .slice (some ⟨w.heap.size, 0, none⟩) 0 0) (hx : act.eval x = .slice p m c) (hp : p = none → m = 0 ∧ c = 0)
    (hnews : ∀ ad, p = some ad → ∀ j u, (L.map (Value.int .i64))[j]? = some u → (w.alloc (.cells #[] 3)).cell? (ad.add j) = some u)
    (h : ∀ a' cap' w', L.length ≤ cap' → cap' ≤ 9223372036854775807 → Ints w' (.slice a' L.length cap') L → Below w.heap.size w w' → wpList Try.prog ops Q rest (act.put o.dst (.slice a' L.length cap')) w') : wpList Try.prog ops Q (o :: rest) act (w.alloc (.cells #[] 3)) := by
  obtain ⟨i0, hi, hz0, hz1, hz2⟩ := info_parts info_int
  have own := World.ownsRow_made (e := 3) (size := 1) w #[] 0 (Nat.le_refl _) (by decide) rfl
  have hB : Below w.heap.size w (w.alloc (.cells #[] 3)) := (Below.refl _ _).alloc (Nat.le_refl _) _
  cases p with
  | none =>
    obtain ⟨rfl, rfl⟩ := hp rfl
    have e : L = [] := List.eq_nil_of_length_eq_zero hL
    subst e
    refine wpList_append_own_none hgd s x 31 ho w.heap.size 3 i0 1 Try.underlying31 hi _ _ _ hs own hx ?_
    have hI : Ints (w.alloc (.cells #[] 3)) (.slice (some ⟨w.heap.size, 0, none⟩) 0 0) [] := Ints.of_owns own
    exact h _ 0 _ (Nat.le_refl _) (by omega) hI hB
  | some ad =>
    refine wpList_append_own _ hgd s x 31 ho w.heap.size 3 i0 (.int .i64 0) 1 8 Try.underlying31 hi hz0 hz1 hz2 rfl (by decide) _ _ _ hs own ad m c (L.map (Value.int .i64)) hx (by rw [List.length_map]; omega) (hnews ad rfl) (ints_one _) (by unfold maxLen; omega) (by omega) (by simp) ?_
    intro v' w2 hown' hgrow _
    have hM : Ints w2 v' L := Ints.of_owns (by simpa using hown')
    have hb2 : Below w.heap.size w w2 := hB.grown hgrow (by simp) (fun q hq => by have e : w.heap.size = q := Option.some.inj hq; omega)
    obtain ⟨a', cap', rfl, hl', hm', _⟩ := hM.open
    exact h a' cap' w2 hl' hm' hM hb2

set_option maxHeartbeats 4000000 in
set_option maxRecDepth 100000 in
theorem f_MaskMakes (v : Value) (l : List Int) (a b : BitVec 64) (w : World) (h : Ints w v l) (hv : NilOr v) : Calls Try.prog 5 #[v, MV a b] w fun e w' => e = .returned (.bool true) ∧ Below w.heap.size w w' := by
  obtain ⟨p, cap, rfl, hl, hm, hcell⟩ := h.open
  have Hc := Lib.hid h
  clear hcell h
  have Hv := Lib.hid (show p = none → l.length = 0 ∧ cap = 0 by
    rintro rfl
    rcases hv with hv | ⟨ad, n, c, hv⟩
    · simp only [Value.slice.injEq, true_and] at hv; exact hv
    · simp at hv)
  clear hv
  obtain ⟨m, hm30⟩ : ∃ m : Nat, (if 30 < (l.length : Int) then 30 else (l.length : Int)) = m := ⟨min l.length 30, by split <;> omega⟩
  have m1 : m ≤ l.length := by split at hm30 <;> omega
  have m2 : m ≤ 30 := by split at hm30 <;> omega
  have m3 : m ≤ cap := by omega
  have Hv2 := Lib.hid (show p = none → m = 0 ∧ cap = 0 from fun e => by have := Hv.out e; omega)
  have HLen := Lib.hid (show (l.take m).length = m by rw [List.length_take]; omega)
  have HP := Lib.hid (map_pre l m)
  go_enter Try.func5, Try.ntmps5
  go_wp2_with fail
  refine (f_wakes _).mono ?_
  rintro e w1 ⟨rfl, hb1⟩
  have z1w0 : w.heap.size < w1.heap.size := (by have := hb1.size; (try simp at this); omega)
  have q1w0 := fun o => hb1.cell (p := ⟨w.heap.size, o, none⟩) (by first | omega | (simp; done) | (simp; omega))
  have r1w0 := fun o => hb1.frozen (p := ⟨w.heap.size, o, none⟩) (by first | omega | (simp; done) | (simp; omega))
  have hbx : Below (w.heap.size + 1) (w.alloc (.cells #[.int .u64 (U a), .int .u64 (U b)] 27)) w1 := by ((have shb1 := hb1.size); (try simp at shb1); (repeat' (first | (with_reducible exact Below.refl _ _) | (with_reducible refine Below.setCell ?_ ?_ _) | (with_reducible refine Below.alloc ?_ ?_ _) | (with_reducible refine Below.drew ?_) | (with_reducible refine Below.trans ?_ (Below.mono hb1 ?_)) | go_size)))
  have hbw : Below w.heap.size w w1 := by ((have shb1 := hb1.size); (try simp at shb1); (repeat' (first | (with_reducible exact Below.refl _ _) | (with_reducible refine Below.setCell ?_ ?_ _) | (with_reducible refine Below.alloc ?_ ?_ _) | (with_reducible refine Below.drew ?_) | (with_reducible refine Below.trans ?_ (Below.mono hb1 ?_)) | go_size)))
  obtain ⟨L, hL⟩ : ∃ L, l.take m = L := ⟨_, rfl⟩
  rw [hL] at HLen HP
  clear hL
  go_wp2_with (at_builtin; refine append_copy rfl _ _ rfl p m cap L HLen.out (by omega) rfl rfl Hv2.out (fun ad e => by subst e; exact Sl.news Hc.out HP.out (hbw.alloc hbw.size _)) ?_; intro a' cap' w2 hl' hm' hM hb2')
  have hb2 : Below (w.heap.size + 1) (w.alloc (.cells #[.int .u64 (U a), .int .u64 (U b)] 27)) w2 := by ((have shb2' := hb2'.size); (try simp at shb2'); (have shbx := hbx.size); (try simp at shbx); (repeat' (first | (with_reducible exact Below.refl _ _) | (with_reducible refine Below.setCell ?_ ?_ _) | (with_reducible refine Below.alloc ?_ ?_ _) | (with_reducible refine Below.drew ?_) | (with_reducible refine Below.trans ?_ (Below.mono hb2' ?_)) | (with_reducible refine Below.trans ?_ (Below.mono hbx ?_)) | go_size)))
  obtain ⟨a'', cap'', hv'', -, -, hcell'⟩ := hM.open
  simp only [Value.slice.injEq] at hv''
  obtain ⟨rfl, -, rfl⟩ := hv''
  have Hcell := Lib.hid hcell'
  have HM := Lib.hid hM
  clear hcell' hM hm30 hb1 hbw
  have z2w0 : w.heap.size < w2.heap.size := (by have := hb2.size; (try simp at this); omega)
  have q2w0 := fun o => hb2.cell (p := ⟨w.heap.size, o, none⟩) (by first | omega | (simp; done) | (simp; omega))
  have r2w0 := fun o => hb2.frozen (p := ⟨w.heap.size, o, none⟩) (by first | omega | (simp; done) | (simp; omega))
  go_loopw [5, 29] (fun x i wr => ∃ k : Nat, k ≤ L.length ∧ i = .int .i64 k ∧ x = .bool ((L.take k).all slotB) ∧ Below w2.heap.size w2 wr) (fun _ i _ => L.length - (intOf i).toNat)
  case atStart => exact ⟨0, Nat.zero_le _, rfl, rfl, Below.refl _ _⟩
  case round =>
    obtain ⟨wo, hwo⟩ : ∃ wo, wo = wr := ⟨_, rfl⟩
    subst hwo
    obtain ⟨k, hk, rfl, rfl, hbo⟩ := hrel
    have zow0 : w.heap.size < wo.heap.size := (by have := hbo.size; (try simp at this); omega)
    have qow0 := fun o => hbo.cell (p := ⟨w.heap.size, o, none⟩) (by first | omega | (simp; done) | (simp; omega))
    have row0 := fun o => hbo.frozen (p := ⟨w.heap.size, o, none⟩) (by first | omega | (simp; done) | (simp; omega))
    generalize hX : ((L.take k).all slotB) = X at *
    by_cases hlt2 : k < L.length
    · have hstep := slots_take L k hlt2
      rw [hX] at hstep
      obtain ⟨y, hy, g, off, rfl, hlt, g1⟩ : ∃ y, L[k] = y ∧ ∃ g off, a' = some ⟨g, off, none⟩ ∧ g < w2.heap.size ∧ w2.cell? ⟨g, off + k, none⟩ = some (.int .i64 y) := ⟨_, rfl, Hcell.out k hlt2⟩
      rw [hy] at hstep
      have e1 := (hbo.cell (p := ⟨g, off + k, none⟩) hlt).trans g1
      clear g1 hX
      cases X
      · have Hs := Lib.hid hstep
        clear hstep
        go_wp2
        go_roundw
        case rel => exact ⟨k + 1, by omega, by go_num, by rw [Hs.out]; rfl, by ((have shbo := hbo.size); (try simp at shbo); (repeat' (first | (with_reducible exact Below.refl _ _) | (with_reducible refine Below.setCell ?_ ?_ _) | (with_reducible refine Below.alloc ?_ ?_ _) | (with_reducible refine Below.drew ?_) | (with_reducible refine Below.trans ?_ (Below.mono hbo ?_)) | go_size)))⟩
        case measure => simp [intOf]; omega
      · obtain ⟨Y, hY⟩ : ∃ Y, slotB y = Y := ⟨_, rfl⟩
        rw [hY] at hstep
        have Hs := Lib.hid hstep
        have HY := Lib.hid (show decide (0 ≤ y ∧ y < 96) = Y from hY)
        clear hstep hY
        go_wp2_with (go_at_call 18; refine (r_Slot _ _).mono ?_; rintro e wx ⟨rfl, rfl⟩; rw [HY.out])
        go_roundw
        case rel => exact ⟨k + 1, by omega, by go_num, by rw [Hs.out]; rfl, by ((have shbo := hbo.size); (try simp at shbo); (repeat' (first | (with_reducible exact Below.refl _ _) | (with_reducible refine Below.setCell ?_ ?_ _) | (with_reducible refine Below.alloc ?_ ?_ _) | (with_reducible refine Below.drew ?_) | (with_reducible refine Below.trans ?_ (Below.mono hbo ?_)) | go_size)))⟩
        case measure => simp [intOf]; omega
    · have : k = L.length := by omega
      subst this
      rw [List.take_length] at hX
      cases X
      · have HO := Lib.hid (ofF_no hX)
        clear hX
        go_wp2_with fail
        refine (f_Of _ L _ (HM.out.grown hbo)).mono ?_
        rintro e w3 ⟨he, hb3⟩
        unfold OfPost at he
        rw [HO.out] at he
        simp only [mZero, U_zero, MV] at he
        subst he
        have z3w0 : w.heap.size < w3.heap.size := (by have := hb3.size; (try simp at this); omega)
        have q3w0 := fun o => hb3.cell (p := ⟨w.heap.size, o, none⟩) (by first | omega | (simp; done) | (simp; omega))
        have r3w0 := fun o => hb3.frozen (p := ⟨w.heap.size, o, none⟩) (by first | omega | (simp; done) | (simp; omega))
        go_wp2
        refine wp_grow [] 24 (by kernel_rfl) (by kernel_rfl) (by rfl) (by rfl) ?_
        simp only [List.take_succ_cons, List.take_zero, List.drop_succ_cons, List.drop_zero]
        repeat (first
          | (apply Der.quiet; (rfl); (rfl); (intro w' hw' hctx; have hc' := bcell hw'; have yw0 := fun o => hw'.cell (p := ⟨w.heap.size, o, none⟩) (by first | omega | (simp; done) | (simp; omega)); have yw30 := fun o => hw'.cell (p := ⟨w3.heap.size, o, none⟩) (by first | omega | (simp; done) | (simp; omega)); clear hctx; go_simp; first | exact rfl | exact ⟨rfl, rfl⟩); simp only [Act.put, List.setIfInBounds_toArray, List.set_cons_succ, List.set_cons_zero, Nat.reduceAdd])
          | (apply Der.skip; (rfl); simp only [Act.put, List.setIfInBounds_toArray, List.set_cons_succ, List.set_cons_zero, Nat.reduceAdd]))
        refine Der.nil (fun w4 hgw4 hctx => ?_)
        clear hctx
        have hb4 : Below _ _ w4 := hgw4
        clear hgw4
        have z4w0 : w.heap.size < w4.heap.size := (by have := hb4.size; (try simp at this); omega)
        have q4w0 := fun o => hb4.cell (p := ⟨w.heap.size, o, none⟩) (by first | omega | (simp; done) | (simp; omega))
        have r4w0 := fun o => hb4.frozen (p := ⟨w.heap.size, o, none⟩) (by first | omega | (simp; done) | (simp; omega))
        have hB4 : Below (w.heap.size + 1) (w.alloc (.cells #[.int .u64 (U a), .int .u64 (U b)] 27)) w4 := by ((have shb4 := hb4.size); (try simp at shb4); (have shb3 := hb3.size); (try simp at shb3); (have shbo := hbo.size); (try simp at shbo); (have shb2 := hb2.size); (try simp at shb2); (repeat' (first | (with_reducible exact Below.refl _ _) | (with_reducible refine Below.setCell ?_ ?_ _) | (with_reducible refine Below.alloc ?_ ?_ _) | (with_reducible refine Below.drew ?_) | (with_reducible refine Below.trans ?_ (Below.mono hb4 ?_)) | (with_reducible refine Below.trans ?_ (Below.mono hb3 ?_)) | (with_reducible refine Below.trans ?_ (Below.mono hbo ?_)) | (with_reducible refine Below.trans ?_ (Below.mono hb2 ?_)) | go_size)))
        have hB42 : Below w2.heap.size w2 w4 := by ((have shb4 := hb4.size); (try simp at shb4); (have shb3 := hb3.size); (try simp at shb3); (have shbo := hbo.size); (try simp at shbo); (repeat' (first | (with_reducible exact Below.refl _ _) | (with_reducible refine Below.setCell ?_ ?_ _) | (with_reducible refine Below.alloc ?_ ?_ _) | (with_reducible refine Below.drew ?_) | (with_reducible refine Below.trans ?_ (Below.mono hb4 ?_)) | (with_reducible refine Below.trans ?_ (Below.mono hb3 ?_)) | (with_reducible refine Below.trans ?_ (Below.mono hbo ?_)) | go_size)))
        rcases chk_or b with hck | hck
        · have HC := Lib.hid (show decide (chk b = 0) = true from decide_eq_true hck)
          have HK := Lib.hid hck
          clear hck
          go_wp2_with (first | (go_at_call 20; refine (r_Right _ _ _).mono ?_; rintro e w5 ⟨rfl, hb5⟩; have z5w0 : w.heap.size < w5.heap.size := (by have := hb5.size; (try simp at this); omega); have q5w0 := fun o => hb5.cell (p := ⟨w.heap.size, o, none⟩) (by first | omega | (simp; done) | (simp; omega)); have r5w0 := fun o => hb5.frozen (p := ⟨w.heap.size, o, none⟩) (by first | omega | (simp; done) | (simp; omega)); rw [HC.out]) | (go_at_call 21; refine (f_Check _ _ _).mono ?_; rintro e w6 ⟨rfl, hb6⟩; have z6w0 : w.heap.size < w6.heap.size := (by have := hb6.size; (try simp at this); omega); have q6w0 := fun o => hb6.cell (p := ⟨w.heap.size, o, none⟩) (by first | omega | (simp; done) | (simp; omega)); have r6w0 := fun o => hb6.frozen (p := ⟨w.heap.size, o, none⟩) (by first | omega | (simp; done) | (simp; omega)); rw [HK.out]))
          go_loopw [86] (fun i wr => ∃ k : Nat, k ≤ L.length ∧ i = .int .i64 k ∧ Below w4.heap.size w4 wr) (fun i _ => L.length - (intOf i).toNat)
          case atStart => exact ⟨0, Nat.zero_le _, rfl, by ((have shb6 := hb6.size); (try simp at shb6); (have shb5 := hb5.size); (try simp at shb5); (repeat' (first | (with_reducible exact Below.refl _ _) | (with_reducible refine Below.setCell ?_ ?_ _) | (with_reducible refine Below.alloc ?_ ?_ _) | (with_reducible refine Below.drew ?_) | (with_reducible refine Below.trans ?_ (Below.mono hb6 ?_)) | (with_reducible refine Below.trans ?_ (Below.mono hb5 ?_)) | go_size)))⟩
          case round =>
            obtain ⟨k, hk, rfl, hbr⟩ := hrel
            have zrw0 : w.heap.size < wr.heap.size := (by have := hbr.size; (try simp at this); omega)
            have qrw0 := fun o => hbr.cell (p := ⟨w.heap.size, o, none⟩) (by first | omega | (simp; done) | (simp; omega))
            have rrw0 := fun o => hbr.frozen (p := ⟨w.heap.size, o, none⟩) (by first | omega | (simp; done) | (simp; omega))
            by_cases hlt4 : k < L.length
            · obtain ⟨y, g, off, rfl, hlt, g1⟩ : ∃ y, ∃ g off, a' = some ⟨g, off, none⟩ ∧ g < w2.heap.size ∧ w2.cell? ⟨g, off + k, none⟩ = some (.int .i64 y) := ⟨_, Hcell.out k hlt4⟩
              have hB5 : Below w2.heap.size w2 wr := by ((have shbr := hbr.size); (try simp at shbr); (have shB42 := hB42.size); (try simp at shB42); (repeat' (first | (with_reducible exact Below.refl _ _) | (with_reducible refine Below.setCell ?_ ?_ _) | (with_reducible refine Below.alloc ?_ ?_ _) | (with_reducible refine Below.drew ?_) | (with_reducible refine Below.trans ?_ (Below.mono hbr ?_)) | (with_reducible refine Below.trans ?_ (Below.mono hB42 ?_)) | go_size)))
              have e1 := (hB5.cell (p := ⟨g, off + k, none⟩) hlt).trans g1
              clear g1
              by_cases hs : isSlot y
              · obtain ⟨s0, s1⟩ := hs
                have HS := Lib.hid (show isSlot y from ⟨s0, s1⟩)
                have HD := Lib.hid (show decide (0 ≤ y ∧ y < 96) = true from decide_eq_true ⟨s0, s1⟩)
                have HW := Lib.hid (set_without (a, b) y HK.out s0 s1)
                go_wp2_with (first | (go_at_call 22; refine (f_With_ok _ _ _ HK.out HS.out _).mono ?_; rintro e w7 ⟨rfl, hb7⟩; have z7w0 : w.heap.size < w7.heap.size := (by have := hb7.size; (try simp at this); omega); have q7w0 := fun o => hb7.cell (p := ⟨w.heap.size, o, none⟩) (by first | omega | (simp; done) | (simp; omega)); have r7w0 := fun o => hb7.frozen (p := ⟨w.heap.size, o, none⟩) (by first | omega | (simp; done) | (simp; omega))) | (go_at_call 23; refine (f_Without_ok _ _ _ HK.out HS.out _).mono ?_; rintro e w8 ⟨rfl, hb8⟩; have z8w0 : w.heap.size < w8.heap.size := (by have := hb8.size; (try simp at this); omega); have q8w0 := fun o => hb8.cell (p := ⟨w.heap.size, o, none⟩) (by first | omega | (simp; done) | (simp; omega)); have r8w0 := fun o => hb8.frozen (p := ⟨w.heap.size, o, none⟩) (by first | omega | (simp; done) | (simp; omega)); have z8w70 : w7.heap.size < w8.heap.size := (by have := hb8.size; (try simp at this); omega); have q8w70 := fun o => hb8.cell (p := ⟨w7.heap.size, o, none⟩) (by first | omega | (simp; done) | (simp; omega)); have r8w70 := fun o => hb8.frozen (p := ⟨w7.heap.size, o, none⟩) (by first | omega | (simp; done) | (simp; omega))) | (go_at_call 18; refine (r_Slot _ _).mono ?_; rintro e wx ⟨rfl, rfl⟩; rw [HD.out]))
                refine wp_grow [(10, .val (MV (a ||| bit0 y) (b ||| bit1 y))), (17, .val (MV (a &&& ~~~ bit0 y) (b &&& ~~~ bit1 y)))] 20 (by kernel_rfl) (by kernel_rfl) (by rfl) (by rfl) ?_
                simp only [List.take_succ_cons, List.take_zero, List.drop_succ_cons, List.drop_zero]
                repeat (first
                  | (apply Der.quiet; (rfl); (rfl); (intro w' hw' hctx; have hc' := bcell hw'; have yw0 := fun o => hw'.cell (p := ⟨w.heap.size, o, none⟩) (by first | omega | (simp; done) | (simp; omega)); have yw70 := fun o => hw'.cell (p := ⟨w7.heap.size, o, none⟩) (by first | omega | (simp; done) | (simp; omega)); have yw80 := fun o => hw'.cell (p := ⟨w8.heap.size, o, none⟩) (by first | omega | (simp; done) | (simp; omega)); clear hctx; go_simp; first | exact rfl | exact ⟨rfl, rfl⟩); simp only [Act.put, List.setIfInBounds_toArray, List.set_cons_succ, List.set_cons_zero, Nat.reduceAdd])
                  | (apply Der.skip; (rfl); simp only [Act.put, List.setIfInBounds_toArray, List.set_cons_succ, List.set_cons_zero, Nat.reduceAdd]))
                apply Der.val
                · rfl
                · rfl
                · (intro w' hw' hctx; go_simp; refine (r_With _ _ y s0 s1 _).mono ?_; rintro e w2 ⟨rfl, hb⟩; exact ⟨_, rfl, rfl, hb⟩)
                simp only [Act.put, List.setIfInBounds_toArray, List.set_cons_succ, List.set_cons_zero, Nat.reduceAdd]
                repeat (first
                  | (apply Der.quiet; (rfl); (rfl); (intro w' hw' hctx; have hc' := bcell hw'; have yw0 := fun o => hw'.cell (p := ⟨w.heap.size, o, none⟩) (by first | omega | (simp; done) | (simp; omega)); have yw70 := fun o => hw'.cell (p := ⟨w7.heap.size, o, none⟩) (by first | omega | (simp; done) | (simp; omega)); have yw80 := fun o => hw'.cell (p := ⟨w8.heap.size, o, none⟩) (by first | omega | (simp; done) | (simp; omega)); clear hctx; go_simp; first | exact rfl | exact ⟨rfl, rfl⟩); simp only [Act.put, List.setIfInBounds_toArray, List.set_cons_succ, List.set_cons_zero, Nat.reduceAdd])
                  | (apply Der.skip; (rfl); simp only [Act.put, List.setIfInBounds_toArray, List.set_cons_succ, List.set_cons_zero, Nat.reduceAdd]))
                apply Der.val
                · rfl
                · rfl
                · (intro w' hw' hctx; go_simp; refine (r_Without _ _ y _).mono ?_; rintro e w2 ⟨rfl, hb⟩; exact ⟨_, rfl, by rw [HW.out], hb⟩)
                simp only [Act.put, List.setIfInBounds_toArray, List.set_cons_succ, List.set_cons_zero, Nat.reduceAdd]
                repeat (first
                  | (apply Der.quiet; (rfl); (rfl); (intro w' hw' hctx; have hc' := bcell hw'; have yw0 := fun o => hw'.cell (p := ⟨w.heap.size, o, none⟩) (by first | omega | (simp; done) | (simp; omega)); have yw70 := fun o => hw'.cell (p := ⟨w7.heap.size, o, none⟩) (by first | omega | (simp; done) | (simp; omega)); have yw80 := fun o => hw'.cell (p := ⟨w8.heap.size, o, none⟩) (by first | omega | (simp; done) | (simp; omega)); clear hctx; go_simp; first | exact rfl | exact ⟨rfl, rfl⟩); simp only [Act.put, List.setIfInBounds_toArray, List.set_cons_succ, List.set_cons_zero, Nat.reduceAdd])
                  | (apply Der.skip; (rfl); simp only [Act.put, List.setIfInBounds_toArray, List.set_cons_succ, List.set_cons_zero, Nat.reduceAdd]))
                refine Der.nil (fun w9 hgw9 hctx => ?_)
                clear hctx
                have hb9 : Below _ _ w9 := hgw9
                clear hgw9
                have z9w0 : w.heap.size < w9.heap.size := (by have := hb9.size; (try simp at this); omega)
                have q9w0 := fun o => hb9.cell (p := ⟨w.heap.size, o, none⟩) (by first | omega | (simp; done) | (simp; omega))
                have r9w0 := fun o => hb9.frozen (p := ⟨w.heap.size, o, none⟩) (by first | omega | (simp; done) | (simp; omega))
                go_wp2
                go_roundw
                case rel => exact ⟨k + 1, by omega, by go_num, by ((have shb9 := hb9.size); (try simp at shb9); (have shb8 := hb8.size); (try simp at shb8); (have shb7 := hb7.size); (try simp at shb7); (have shbr := hbr.size); (try simp at shbr); (repeat' (first | (with_reducible exact Below.refl _ _) | (with_reducible refine Below.setCell ?_ ?_ _) | (with_reducible refine Below.alloc ?_ ?_ _) | (with_reducible refine Below.drew ?_) | (with_reducible refine Below.trans ?_ (Below.mono hb9 ?_)) | (with_reducible refine Below.trans ?_ (Below.mono hb8 ?_)) | (with_reducible refine Below.trans ?_ (Below.mono hb7 ?_)) | (with_reducible refine Below.trans ?_ (Below.mono hbr ?_)) | go_size)))⟩
                case measure => simp [intOf]; omega
              · have HS := Lib.hid hs
                have HD := Lib.hid (show decide (0 ≤ y ∧ y < 96) = false from decide_eq_false hs)
                clear hs
                go_wp2_with (first | (go_at_call 22; refine (f_With_arg _ _ _ HK.out HS.out _).mono ?_; rintro e w7 ⟨rfl, hb7⟩; have z7w0 : w.heap.size < w7.heap.size := (by have := hb7.size; (try simp at this); omega); have q7w0 := fun o => hb7.cell (p := ⟨w.heap.size, o, none⟩) (by first | omega | (simp; done) | (simp; omega)); have r7w0 := fun o => hb7.frozen (p := ⟨w.heap.size, o, none⟩) (by first | omega | (simp; done) | (simp; omega))) | (go_at_call 23; refine (f_Without_arg _ _ _ HK.out HS.out _).mono ?_; rintro e w8 ⟨rfl, hb8⟩; have z8w0 : w.heap.size < w8.heap.size := (by have := hb8.size; (try simp at this); omega); have q8w0 := fun o => hb8.cell (p := ⟨w.heap.size, o, none⟩) (by first | omega | (simp; done) | (simp; omega)); have r8w0 := fun o => hb8.frozen (p := ⟨w.heap.size, o, none⟩) (by first | omega | (simp; done) | (simp; omega)); have z8w70 : w7.heap.size < w8.heap.size := (by have := hb8.size; (try simp at this); omega); have q8w70 := fun o => hb8.cell (p := ⟨w7.heap.size, o, none⟩) (by first | omega | (simp; done) | (simp; omega)); have r8w70 := fun o => hb8.frozen (p := ⟨w7.heap.size, o, none⟩) (by first | omega | (simp; done) | (simp; omega))) | (go_at_call 18; refine (r_Slot _ _).mono ?_; rintro e wx ⟨rfl, rfl⟩; rw [HD.out]))
                go_roundw
                case rel => exact ⟨k + 1, by omega, by go_num, by ((have shb8 := hb8.size); (try simp at shb8); (have shb7 := hb7.size); (try simp at shb7); (have shbr := hbr.size); (try simp at shbr); (repeat' (first | (with_reducible exact Below.refl _ _) | (with_reducible refine Below.setCell ?_ ?_ _) | (with_reducible refine Below.alloc ?_ ?_ _) | (with_reducible refine Below.drew ?_) | (with_reducible refine Below.trans ?_ (Below.mono hb8 ?_)) | (with_reducible refine Below.trans ?_ (Below.mono hb7 ?_)) | (with_reducible refine Below.trans ?_ (Below.mono hbr ?_)) | go_size)))⟩
                case measure => simp [intOf]; omega
            · have : k = L.length := by omega
              subst this
              go_wp2
              go_ret
              exact ⟨rfl, by ((have shbr := hbr.size); (try simp at shbr); (have shB4 := hB4.size); (try simp at shB4); (repeat' (first | (with_reducible exact Below.refl _ _) | (with_reducible refine Below.setCell ?_ ?_ _) | (with_reducible refine Below.alloc ?_ ?_ _) | (with_reducible refine Below.drew ?_) | (with_reducible refine Below.trans ?_ (Below.mono hbr ?_)) | (with_reducible refine Below.trans ?_ (Below.mono hB4 ?_)) | go_size)))⟩
        · have HC := Lib.hid (show decide (chk b = 0) = false from decide_eq_false (by omega))
          have HK := Lib.hid hck
          clear hck
          go_wp2_with (first | (go_at_call 20; refine (r_Right _ _ _).mono ?_; rintro e w5 ⟨rfl, hb5⟩; have z5w0 : w.heap.size < w5.heap.size := (by have := hb5.size; (try simp at this); omega); have q5w0 := fun o => hb5.cell (p := ⟨w.heap.size, o, none⟩) (by first | omega | (simp; done) | (simp; omega)); have r5w0 := fun o => hb5.frozen (p := ⟨w.heap.size, o, none⟩) (by first | omega | (simp; done) | (simp; omega)); rw [HC.out]) | (go_at_call 21; refine (f_Check _ _ _).mono ?_; rintro e w6 ⟨rfl, hb6⟩; have z6w0 : w.heap.size < w6.heap.size := (by have := hb6.size; (try simp at this); omega); have q6w0 := fun o => hb6.cell (p := ⟨w.heap.size, o, none⟩) (by first | omega | (simp; done) | (simp; omega)); have r6w0 := fun o => hb6.frozen (p := ⟨w.heap.size, o, none⟩) (by first | omega | (simp; done) | (simp; omega)); rw [HK.out]))
          go_loopw [86] (fun i wr => ∃ k : Nat, k ≤ L.length ∧ i = .int .i64 k ∧ Below w4.heap.size w4 wr) (fun i _ => L.length - (intOf i).toNat)
          case atStart => exact ⟨0, Nat.zero_le _, rfl, by ((have shb6 := hb6.size); (try simp at shb6); (have shb5 := hb5.size); (try simp at shb5); (repeat' (first | (with_reducible exact Below.refl _ _) | (with_reducible refine Below.setCell ?_ ?_ _) | (with_reducible refine Below.alloc ?_ ?_ _) | (with_reducible refine Below.drew ?_) | (with_reducible refine Below.trans ?_ (Below.mono hb6 ?_)) | (with_reducible refine Below.trans ?_ (Below.mono hb5 ?_)) | go_size)))⟩
          case round =>
            obtain ⟨k, hk, rfl, hbr⟩ := hrel
            have zrw0 : w.heap.size < wr.heap.size := (by have := hbr.size; (try simp at this); omega)
            have qrw0 := fun o => hbr.cell (p := ⟨w.heap.size, o, none⟩) (by first | omega | (simp; done) | (simp; omega))
            have rrw0 := fun o => hbr.frozen (p := ⟨w.heap.size, o, none⟩) (by first | omega | (simp; done) | (simp; omega))
            by_cases hlt4 : k < L.length
            · obtain ⟨y, g, off, rfl, hlt, g1⟩ : ∃ y, ∃ g off, a' = some ⟨g, off, none⟩ ∧ g < w2.heap.size ∧ w2.cell? ⟨g, off + k, none⟩ = some (.int .i64 y) := ⟨_, Hcell.out k hlt4⟩
              have hB5 : Below w2.heap.size w2 wr := by ((have shbr := hbr.size); (try simp at shbr); (have shB42 := hB42.size); (try simp at shB42); (repeat' (first | (with_reducible exact Below.refl _ _) | (with_reducible refine Below.setCell ?_ ?_ _) | (with_reducible refine Below.alloc ?_ ?_ _) | (with_reducible refine Below.drew ?_) | (with_reducible refine Below.trans ?_ (Below.mono hbr ?_)) | (with_reducible refine Below.trans ?_ (Below.mono hB42 ?_)) | go_size)))
              have e1 := (hB5.cell (p := ⟨g, off + k, none⟩) hlt).trans g1
              clear g1
              go_wp2_with (first | (go_at_call 22; refine (f_With_bad _ _ _ HK.out _).mono ?_; rintro e w7 ⟨rfl, hb7⟩; have z7w0 : w.heap.size < w7.heap.size := (by have := hb7.size; (try simp at this); omega); have q7w0 := fun o => hb7.cell (p := ⟨w.heap.size, o, none⟩) (by first | omega | (simp; done) | (simp; omega)); have r7w0 := fun o => hb7.frozen (p := ⟨w.heap.size, o, none⟩) (by first | omega | (simp; done) | (simp; omega))) | (go_at_call 23; refine (f_Without_bad _ _ _ HK.out _).mono ?_; rintro e w8 ⟨rfl, hb8⟩; have z8w0 : w.heap.size < w8.heap.size := (by have := hb8.size; (try simp at this); omega); have q8w0 := fun o => hb8.cell (p := ⟨w.heap.size, o, none⟩) (by first | omega | (simp; done) | (simp; omega)); have r8w0 := fun o => hb8.frozen (p := ⟨w.heap.size, o, none⟩) (by first | omega | (simp; done) | (simp; omega)); have z8w70 : w7.heap.size < w8.heap.size := (by have := hb8.size; (try simp at this); omega); have q8w70 := fun o => hb8.cell (p := ⟨w7.heap.size, o, none⟩) (by first | omega | (simp; done) | (simp; omega)); have r8w70 := fun o => hb8.frozen (p := ⟨w7.heap.size, o, none⟩) (by first | omega | (simp; done) | (simp; omega))))
              go_roundw
              case rel => exact ⟨k + 1, by omega, by go_num, by ((have shb8 := hb8.size); (try simp at shb8); (have shb7 := hb7.size); (try simp at shb7); (have shbr := hbr.size); (try simp at shbr); (repeat' (first | (with_reducible exact Below.refl _ _) | (with_reducible refine Below.setCell ?_ ?_ _) | (with_reducible refine Below.alloc ?_ ?_ _) | (with_reducible refine Below.drew ?_) | (with_reducible refine Below.trans ?_ (Below.mono hb8 ?_)) | (with_reducible refine Below.trans ?_ (Below.mono hb7 ?_)) | (with_reducible refine Below.trans ?_ (Below.mono hbr ?_)) | go_size)))⟩
              case measure => simp [intOf]; omega
            · have : k = L.length := by omega
              subst this
              go_wp2
              go_ret
              exact ⟨rfl, by ((have shbr := hbr.size); (try simp at shbr); (have shB4 := hB4.size); (try simp at shB4); (repeat' (first | (with_reducible exact Below.refl _ _) | (with_reducible refine Below.setCell ?_ ?_ _) | (with_reducible refine Below.alloc ?_ ?_ _) | (with_reducible refine Below.drew ?_) | (with_reducible refine Below.trans ?_ (Below.mono hbr ?_)) | (with_reducible refine Below.trans ?_ (Below.mono hB4 ?_)) | go_size)))⟩
      · have HO := Lib.hid (ofF_yes hX)
        have HA := Lib.hid (all_slots hX)
        clear hX
        go_wp2_with fail
        refine (f_Of _ L _ (HM.out.grown hbo)).mono ?_
        rintro e w3 ⟨he, hb3⟩
        unfold OfPost at he
        rw [HO.out] at he
        subst he
        have z3w0 : w.heap.size < w3.heap.size := (by have := hb3.size; (try simp at this); omega)
        have q3w0 := fun o => hb3.cell (p := ⟨w.heap.size, o, none⟩) (by first | omega | (simp; done) | (simp; omega))
        have r3w0 := fun o => hb3.frozen (p := ⟨w.heap.size, o, none⟩) (by first | omega | (simp; done) | (simp; omega))
        have HM3 := Lib.hid (HM.out.grown (show Below w2.heap.size w2 w3 by ((have shb3 := hb3.size); (try simp at shb3); (have shbo := hbo.size); (try simp at shbo); (repeat' (first | (with_reducible exact Below.refl _ _) | (with_reducible refine Below.setCell ?_ ?_ _) | (with_reducible refine Below.alloc ?_ ?_ _) | (with_reducible refine Below.drew ?_) | (with_reducible refine Below.trans ?_ (Below.mono hb3 ?_)) | (with_reducible refine Below.trans ?_ (Below.mono hbo ?_)) | go_size)))))
        go_wp2
        refine wp_grow [(7, .val (MV (ofAll L).1 (ofAll L).2))] 24 (by kernel_rfl) (by kernel_rfl) (by rfl) (by rfl) ?_
        simp only [List.take_succ_cons, List.take_zero, List.drop_succ_cons, List.drop_zero]
        repeat (first
          | (apply Der.quiet; (rfl); (rfl); (intro w' hw' hctx; have hc' := bcell hw'; have yw0 := fun o => hw'.cell (p := ⟨w.heap.size, o, none⟩) (by first | omega | (simp; done) | (simp; omega)); have yw30 := fun o => hw'.cell (p := ⟨w3.heap.size, o, none⟩) (by first | omega | (simp; done) | (simp; omega)); clear hctx; go_simp; first | exact rfl | exact ⟨rfl, rfl⟩); simp only [Act.put, List.setIfInBounds_toArray, List.set_cons_succ, List.set_cons_zero, Nat.reduceAdd])
          | (apply Der.skip; (rfl); simp only [Act.put, List.setIfInBounds_toArray, List.set_cons_succ, List.set_cons_zero, Nat.reduceAdd]))
        apply Der.val
        · rfl
        · rfl
        · (intro w' hw' hctx; go_simp; refine (r_Of _ L _ ((HM3.out.grown ((Below.refl _ _).alloc (Nat.le_refl _) _).drew).grown hw') HA.out).mono ?_; rintro e w2 ⟨rfl, hb⟩; exact ⟨_, rfl, rfl, hb⟩)
        simp only [Act.put, List.setIfInBounds_toArray, List.set_cons_succ, List.set_cons_zero, Nat.reduceAdd]
        repeat (first
          | (apply Der.quiet; (rfl); (rfl); (intro w' hw' hctx; have hc' := bcell hw'; have yw0 := fun o => hw'.cell (p := ⟨w.heap.size, o, none⟩) (by first | omega | (simp; done) | (simp; omega)); have yw30 := fun o => hw'.cell (p := ⟨w3.heap.size, o, none⟩) (by first | omega | (simp; done) | (simp; omega)); clear hctx; go_simp; first | exact rfl | exact ⟨rfl, rfl⟩); simp only [Act.put, List.setIfInBounds_toArray, List.set_cons_succ, List.set_cons_zero, Nat.reduceAdd])
          | (apply Der.skip; (rfl); simp only [Act.put, List.setIfInBounds_toArray, List.set_cons_succ, List.set_cons_zero, Nat.reduceAdd]))
        refine Der.nil (fun w4 hgw4 hctx => ?_)
        clear hctx
        have hb4 : Below _ _ w4 := hgw4
        clear hgw4
        have z4w0 : w.heap.size < w4.heap.size := (by have := hb4.size; (try simp at this); omega)
        have q4w0 := fun o => hb4.cell (p := ⟨w.heap.size, o, none⟩) (by first | omega | (simp; done) | (simp; omega))
        have r4w0 := fun o => hb4.frozen (p := ⟨w.heap.size, o, none⟩) (by first | omega | (simp; done) | (simp; omega))
        have hB4 : Below (w.heap.size + 1) (w.alloc (.cells #[.int .u64 (U a), .int .u64 (U b)] 27)) w4 := by ((have shb4 := hb4.size); (try simp at shb4); (have shb3 := hb3.size); (try simp at shb3); (have shbo := hbo.size); (try simp at shbo); (have shb2 := hb2.size); (try simp at shb2); (repeat' (first | (with_reducible exact Below.refl _ _) | (with_reducible refine Below.setCell ?_ ?_ _) | (with_reducible refine Below.alloc ?_ ?_ _) | (with_reducible refine Below.drew ?_) | (with_reducible refine Below.trans ?_ (Below.mono hb4 ?_)) | (with_reducible refine Below.trans ?_ (Below.mono hb3 ?_)) | (with_reducible refine Below.trans ?_ (Below.mono hbo ?_)) | (with_reducible refine Below.trans ?_ (Below.mono hb2 ?_)) | go_size)))
        have hB42 : Below w2.heap.size w2 w4 := by ((have shb4 := hb4.size); (try simp at shb4); (have shb3 := hb3.size); (try simp at shb3); (have shbo := hbo.size); (try simp at shbo); (repeat' (first | (with_reducible exact Below.refl _ _) | (with_reducible refine Below.setCell ?_ ?_ _) | (with_reducible refine Below.alloc ?_ ?_ _) | (with_reducible refine Below.drew ?_) | (with_reducible refine Below.trans ?_ (Below.mono hb4 ?_)) | (with_reducible refine Below.trans ?_ (Below.mono hb3 ?_)) | (with_reducible refine Below.trans ?_ (Below.mono hbo ?_)) | go_size)))
        rcases chk_or b with hck | hck
        · have HC := Lib.hid (show decide (chk b = 0) = true from decide_eq_true hck)
          have HK := Lib.hid hck
          clear hck
          go_wp2_with (first | (go_at_call 20; refine (r_Right _ _ _).mono ?_; rintro e w5 ⟨rfl, hb5⟩; have z5w0 : w.heap.size < w5.heap.size := (by have := hb5.size; (try simp at this); omega); have q5w0 := fun o => hb5.cell (p := ⟨w.heap.size, o, none⟩) (by first | omega | (simp; done) | (simp; omega)); have r5w0 := fun o => hb5.frozen (p := ⟨w.heap.size, o, none⟩) (by first | omega | (simp; done) | (simp; omega)); rw [HC.out]) | (go_at_call 21; refine (f_Check _ _ _).mono ?_; rintro e w6 ⟨rfl, hb6⟩; have z6w0 : w.heap.size < w6.heap.size := (by have := hb6.size; (try simp at this); omega); have q6w0 := fun o => hb6.cell (p := ⟨w.heap.size, o, none⟩) (by first | omega | (simp; done) | (simp; omega)); have r6w0 := fun o => hb6.frozen (p := ⟨w.heap.size, o, none⟩) (by first | omega | (simp; done) | (simp; omega)); rw [HK.out]))
          go_loopw [86] (fun i wr => ∃ k : Nat, k ≤ L.length ∧ i = .int .i64 k ∧ Below w4.heap.size w4 wr) (fun i _ => L.length - (intOf i).toNat)
          case atStart => exact ⟨0, Nat.zero_le _, rfl, by ((have shb6 := hb6.size); (try simp at shb6); (have shb5 := hb5.size); (try simp at shb5); (repeat' (first | (with_reducible exact Below.refl _ _) | (with_reducible refine Below.setCell ?_ ?_ _) | (with_reducible refine Below.alloc ?_ ?_ _) | (with_reducible refine Below.drew ?_) | (with_reducible refine Below.trans ?_ (Below.mono hb6 ?_)) | (with_reducible refine Below.trans ?_ (Below.mono hb5 ?_)) | go_size)))⟩
          case round =>
            obtain ⟨k, hk, rfl, hbr⟩ := hrel
            have zrw0 : w.heap.size < wr.heap.size := (by have := hbr.size; (try simp at this); omega)
            have qrw0 := fun o => hbr.cell (p := ⟨w.heap.size, o, none⟩) (by first | omega | (simp; done) | (simp; omega))
            have rrw0 := fun o => hbr.frozen (p := ⟨w.heap.size, o, none⟩) (by first | omega | (simp; done) | (simp; omega))
            by_cases hlt4 : k < L.length
            · obtain ⟨y, g, off, rfl, hlt, g1⟩ : ∃ y, ∃ g off, a' = some ⟨g, off, none⟩ ∧ g < w2.heap.size ∧ w2.cell? ⟨g, off + k, none⟩ = some (.int .i64 y) := ⟨_, Hcell.out k hlt4⟩
              have hB5 : Below w2.heap.size w2 wr := by ((have shbr := hbr.size); (try simp at shbr); (have shB42 := hB42.size); (try simp at shB42); (repeat' (first | (with_reducible exact Below.refl _ _) | (with_reducible refine Below.setCell ?_ ?_ _) | (with_reducible refine Below.alloc ?_ ?_ _) | (with_reducible refine Below.drew ?_) | (with_reducible refine Below.trans ?_ (Below.mono hbr ?_)) | (with_reducible refine Below.trans ?_ (Below.mono hB42 ?_)) | go_size)))
              have e1 := (hB5.cell (p := ⟨g, off + k, none⟩) hlt).trans g1
              clear g1
              by_cases hs : isSlot y
              · obtain ⟨s0, s1⟩ := hs
                have HS := Lib.hid (show isSlot y from ⟨s0, s1⟩)
                have HD := Lib.hid (show decide (0 ≤ y ∧ y < 96) = true from decide_eq_true ⟨s0, s1⟩)
                have HW := Lib.hid (set_without (a, b) y HK.out s0 s1)
                go_wp2_with (first | (go_at_call 22; refine (f_With_ok _ _ _ HK.out HS.out _).mono ?_; rintro e w7 ⟨rfl, hb7⟩; have z7w0 : w.heap.size < w7.heap.size := (by have := hb7.size; (try simp at this); omega); have q7w0 := fun o => hb7.cell (p := ⟨w.heap.size, o, none⟩) (by first | omega | (simp; done) | (simp; omega)); have r7w0 := fun o => hb7.frozen (p := ⟨w.heap.size, o, none⟩) (by first | omega | (simp; done) | (simp; omega))) | (go_at_call 23; refine (f_Without_ok _ _ _ HK.out HS.out _).mono ?_; rintro e w8 ⟨rfl, hb8⟩; have z8w0 : w.heap.size < w8.heap.size := (by have := hb8.size; (try simp at this); omega); have q8w0 := fun o => hb8.cell (p := ⟨w.heap.size, o, none⟩) (by first | omega | (simp; done) | (simp; omega)); have r8w0 := fun o => hb8.frozen (p := ⟨w.heap.size, o, none⟩) (by first | omega | (simp; done) | (simp; omega)); have z8w70 : w7.heap.size < w8.heap.size := (by have := hb8.size; (try simp at this); omega); have q8w70 := fun o => hb8.cell (p := ⟨w7.heap.size, o, none⟩) (by first | omega | (simp; done) | (simp; omega)); have r8w70 := fun o => hb8.frozen (p := ⟨w7.heap.size, o, none⟩) (by first | omega | (simp; done) | (simp; omega))) | (go_at_call 18; refine (r_Slot _ _).mono ?_; rintro e wx ⟨rfl, rfl⟩; rw [HD.out]))
                refine wp_grow [(10, .val (MV (a ||| bit0 y) (b ||| bit1 y))), (17, .val (MV (a &&& ~~~ bit0 y) (b &&& ~~~ bit1 y)))] 20 (by kernel_rfl) (by kernel_rfl) (by rfl) (by rfl) ?_
                simp only [List.take_succ_cons, List.take_zero, List.drop_succ_cons, List.drop_zero]
                repeat (first
                  | (apply Der.quiet; (rfl); (rfl); (intro w' hw' hctx; have hc' := bcell hw'; have yw0 := fun o => hw'.cell (p := ⟨w.heap.size, o, none⟩) (by first | omega | (simp; done) | (simp; omega)); have yw70 := fun o => hw'.cell (p := ⟨w7.heap.size, o, none⟩) (by first | omega | (simp; done) | (simp; omega)); have yw80 := fun o => hw'.cell (p := ⟨w8.heap.size, o, none⟩) (by first | omega | (simp; done) | (simp; omega)); clear hctx; go_simp; first | exact rfl | exact ⟨rfl, rfl⟩); simp only [Act.put, List.setIfInBounds_toArray, List.set_cons_succ, List.set_cons_zero, Nat.reduceAdd])
                  | (apply Der.skip; (rfl); simp only [Act.put, List.setIfInBounds_toArray, List.set_cons_succ, List.set_cons_zero, Nat.reduceAdd]))
                apply Der.val
                · rfl
                · rfl
                · (intro w' hw' hctx; go_simp; refine (r_With _ _ y s0 s1 _).mono ?_; rintro e w2 ⟨rfl, hb⟩; exact ⟨_, rfl, rfl, hb⟩)
                simp only [Act.put, List.setIfInBounds_toArray, List.set_cons_succ, List.set_cons_zero, Nat.reduceAdd]
                repeat (first
                  | (apply Der.quiet; (rfl); (rfl); (intro w' hw' hctx; have hc' := bcell hw'; have yw0 := fun o => hw'.cell (p := ⟨w.heap.size, o, none⟩) (by first | omega | (simp; done) | (simp; omega)); have yw70 := fun o => hw'.cell (p := ⟨w7.heap.size, o, none⟩) (by first | omega | (simp; done) | (simp; omega)); have yw80 := fun o => hw'.cell (p := ⟨w8.heap.size, o, none⟩) (by first | omega | (simp; done) | (simp; omega)); clear hctx; go_simp; first | exact rfl | exact ⟨rfl, rfl⟩); simp only [Act.put, List.setIfInBounds_toArray, List.set_cons_succ, List.set_cons_zero, Nat.reduceAdd])
                  | (apply Der.skip; (rfl); simp only [Act.put, List.setIfInBounds_toArray, List.set_cons_succ, List.set_cons_zero, Nat.reduceAdd]))
                apply Der.val
                · rfl
                · rfl
                · (intro w' hw' hctx; go_simp; refine (r_Without _ _ y _).mono ?_; rintro e w2 ⟨rfl, hb⟩; exact ⟨_, rfl, by rw [HW.out], hb⟩)
                simp only [Act.put, List.setIfInBounds_toArray, List.set_cons_succ, List.set_cons_zero, Nat.reduceAdd]
                repeat (first
                  | (apply Der.quiet; (rfl); (rfl); (intro w' hw' hctx; have hc' := bcell hw'; have yw0 := fun o => hw'.cell (p := ⟨w.heap.size, o, none⟩) (by first | omega | (simp; done) | (simp; omega)); have yw70 := fun o => hw'.cell (p := ⟨w7.heap.size, o, none⟩) (by first | omega | (simp; done) | (simp; omega)); have yw80 := fun o => hw'.cell (p := ⟨w8.heap.size, o, none⟩) (by first | omega | (simp; done) | (simp; omega)); clear hctx; go_simp; first | exact rfl | exact ⟨rfl, rfl⟩); simp only [Act.put, List.setIfInBounds_toArray, List.set_cons_succ, List.set_cons_zero, Nat.reduceAdd])
                  | (apply Der.skip; (rfl); simp only [Act.put, List.setIfInBounds_toArray, List.set_cons_succ, List.set_cons_zero, Nat.reduceAdd]))
                refine Der.nil (fun w9 hgw9 hctx => ?_)
                clear hctx
                have hb9 : Below _ _ w9 := hgw9
                clear hgw9
                have z9w0 : w.heap.size < w9.heap.size := (by have := hb9.size; (try simp at this); omega)
                have q9w0 := fun o => hb9.cell (p := ⟨w.heap.size, o, none⟩) (by first | omega | (simp; done) | (simp; omega))
                have r9w0 := fun o => hb9.frozen (p := ⟨w.heap.size, o, none⟩) (by first | omega | (simp; done) | (simp; omega))
                go_wp2
                go_roundw
                case rel => exact ⟨k + 1, by omega, by go_num, by ((have shb9 := hb9.size); (try simp at shb9); (have shb8 := hb8.size); (try simp at shb8); (have shb7 := hb7.size); (try simp at shb7); (have shbr := hbr.size); (try simp at shbr); (repeat' (first | (with_reducible exact Below.refl _ _) | (with_reducible refine Below.setCell ?_ ?_ _) | (with_reducible refine Below.alloc ?_ ?_ _) | (with_reducible refine Below.drew ?_) | (with_reducible refine Below.trans ?_ (Below.mono hb9 ?_)) | (with_reducible refine Below.trans ?_ (Below.mono hb8 ?_)) | (with_reducible refine Below.trans ?_ (Below.mono hb7 ?_)) | (with_reducible refine Below.trans ?_ (Below.mono hbr ?_)) | go_size)))⟩
                case measure => simp [intOf]; omega
              · have HS := Lib.hid hs
                have HD := Lib.hid (show decide (0 ≤ y ∧ y < 96) = false from decide_eq_false hs)
                clear hs
                go_wp2_with (first | (go_at_call 22; refine (f_With_arg _ _ _ HK.out HS.out _).mono ?_; rintro e w7 ⟨rfl, hb7⟩; have z7w0 : w.heap.size < w7.heap.size := (by have := hb7.size; (try simp at this); omega); have q7w0 := fun o => hb7.cell (p := ⟨w.heap.size, o, none⟩) (by first | omega | (simp; done) | (simp; omega)); have r7w0 := fun o => hb7.frozen (p := ⟨w.heap.size, o, none⟩) (by first | omega | (simp; done) | (simp; omega))) | (go_at_call 23; refine (f_Without_arg _ _ _ HK.out HS.out _).mono ?_; rintro e w8 ⟨rfl, hb8⟩; have z8w0 : w.heap.size < w8.heap.size := (by have := hb8.size; (try simp at this); omega); have q8w0 := fun o => hb8.cell (p := ⟨w.heap.size, o, none⟩) (by first | omega | (simp; done) | (simp; omega)); have r8w0 := fun o => hb8.frozen (p := ⟨w.heap.size, o, none⟩) (by first | omega | (simp; done) | (simp; omega)); have z8w70 : w7.heap.size < w8.heap.size := (by have := hb8.size; (try simp at this); omega); have q8w70 := fun o => hb8.cell (p := ⟨w7.heap.size, o, none⟩) (by first | omega | (simp; done) | (simp; omega)); have r8w70 := fun o => hb8.frozen (p := ⟨w7.heap.size, o, none⟩) (by first | omega | (simp; done) | (simp; omega))) | (go_at_call 18; refine (r_Slot _ _).mono ?_; rintro e wx ⟨rfl, rfl⟩; rw [HD.out]))
                go_roundw
                case rel => exact ⟨k + 1, by omega, by go_num, by ((have shb8 := hb8.size); (try simp at shb8); (have shb7 := hb7.size); (try simp at shb7); (have shbr := hbr.size); (try simp at shbr); (repeat' (first | (with_reducible exact Below.refl _ _) | (with_reducible refine Below.setCell ?_ ?_ _) | (with_reducible refine Below.alloc ?_ ?_ _) | (with_reducible refine Below.drew ?_) | (with_reducible refine Below.trans ?_ (Below.mono hb8 ?_)) | (with_reducible refine Below.trans ?_ (Below.mono hb7 ?_)) | (with_reducible refine Below.trans ?_ (Below.mono hbr ?_)) | go_size)))⟩
                case measure => simp [intOf]; omega
            · have : k = L.length := by omega
              subst this
              go_wp2
              go_ret
              exact ⟨rfl, by ((have shbr := hbr.size); (try simp at shbr); (have shB4 := hB4.size); (try simp at shB4); (repeat' (first | (with_reducible exact Below.refl _ _) | (with_reducible refine Below.setCell ?_ ?_ _) | (with_reducible refine Below.alloc ?_ ?_ _) | (with_reducible refine Below.drew ?_) | (with_reducible refine Below.trans ?_ (Below.mono hbr ?_)) | (with_reducible refine Below.trans ?_ (Below.mono hB4 ?_)) | go_size)))⟩
        · have HC := Lib.hid (show decide (chk b = 0) = false from decide_eq_false (by omega))
          have HK := Lib.hid hck
          clear hck
          go_wp2_with (first | (go_at_call 20; refine (r_Right _ _ _).mono ?_; rintro e w5 ⟨rfl, hb5⟩; have z5w0 : w.heap.size < w5.heap.size := (by have := hb5.size; (try simp at this); omega); have q5w0 := fun o => hb5.cell (p := ⟨w.heap.size, o, none⟩) (by first | omega | (simp; done) | (simp; omega)); have r5w0 := fun o => hb5.frozen (p := ⟨w.heap.size, o, none⟩) (by first | omega | (simp; done) | (simp; omega)); rw [HC.out]) | (go_at_call 21; refine (f_Check _ _ _).mono ?_; rintro e w6 ⟨rfl, hb6⟩; have z6w0 : w.heap.size < w6.heap.size := (by have := hb6.size; (try simp at this); omega); have q6w0 := fun o => hb6.cell (p := ⟨w.heap.size, o, none⟩) (by first | omega | (simp; done) | (simp; omega)); have r6w0 := fun o => hb6.frozen (p := ⟨w.heap.size, o, none⟩) (by first | omega | (simp; done) | (simp; omega)); rw [HK.out]))
          go_loopw [86] (fun i wr => ∃ k : Nat, k ≤ L.length ∧ i = .int .i64 k ∧ Below w4.heap.size w4 wr) (fun i _ => L.length - (intOf i).toNat)
          case atStart => exact ⟨0, Nat.zero_le _, rfl, by ((have shb6 := hb6.size); (try simp at shb6); (have shb5 := hb5.size); (try simp at shb5); (repeat' (first | (with_reducible exact Below.refl _ _) | (with_reducible refine Below.setCell ?_ ?_ _) | (with_reducible refine Below.alloc ?_ ?_ _) | (with_reducible refine Below.drew ?_) | (with_reducible refine Below.trans ?_ (Below.mono hb6 ?_)) | (with_reducible refine Below.trans ?_ (Below.mono hb5 ?_)) | go_size)))⟩
          case round =>
            obtain ⟨k, hk, rfl, hbr⟩ := hrel
            have zrw0 : w.heap.size < wr.heap.size := (by have := hbr.size; (try simp at this); omega)
            have qrw0 := fun o => hbr.cell (p := ⟨w.heap.size, o, none⟩) (by first | omega | (simp; done) | (simp; omega))
            have rrw0 := fun o => hbr.frozen (p := ⟨w.heap.size, o, none⟩) (by first | omega | (simp; done) | (simp; omega))
            by_cases hlt4 : k < L.length
            · obtain ⟨y, g, off, rfl, hlt, g1⟩ : ∃ y, ∃ g off, a' = some ⟨g, off, none⟩ ∧ g < w2.heap.size ∧ w2.cell? ⟨g, off + k, none⟩ = some (.int .i64 y) := ⟨_, Hcell.out k hlt4⟩
              have hB5 : Below w2.heap.size w2 wr := by ((have shbr := hbr.size); (try simp at shbr); (have shB42 := hB42.size); (try simp at shB42); (repeat' (first | (with_reducible exact Below.refl _ _) | (with_reducible refine Below.setCell ?_ ?_ _) | (with_reducible refine Below.alloc ?_ ?_ _) | (with_reducible refine Below.drew ?_) | (with_reducible refine Below.trans ?_ (Below.mono hbr ?_)) | (with_reducible refine Below.trans ?_ (Below.mono hB42 ?_)) | go_size)))
              have e1 := (hB5.cell (p := ⟨g, off + k, none⟩) hlt).trans g1
              clear g1
              go_wp2_with (first | (go_at_call 22; refine (f_With_bad _ _ _ HK.out _).mono ?_; rintro e w7 ⟨rfl, hb7⟩; have z7w0 : w.heap.size < w7.heap.size := (by have := hb7.size; (try simp at this); omega); have q7w0 := fun o => hb7.cell (p := ⟨w.heap.size, o, none⟩) (by first | omega | (simp; done) | (simp; omega)); have r7w0 := fun o => hb7.frozen (p := ⟨w.heap.size, o, none⟩) (by first | omega | (simp; done) | (simp; omega))) | (go_at_call 23; refine (f_Without_bad _ _ _ HK.out _).mono ?_; rintro e w8 ⟨rfl, hb8⟩; have z8w0 : w.heap.size < w8.heap.size := (by have := hb8.size; (try simp at this); omega); have q8w0 := fun o => hb8.cell (p := ⟨w.heap.size, o, none⟩) (by first | omega | (simp; done) | (simp; omega)); have r8w0 := fun o => hb8.frozen (p := ⟨w.heap.size, o, none⟩) (by first | omega | (simp; done) | (simp; omega)); have z8w70 : w7.heap.size < w8.heap.size := (by have := hb8.size; (try simp at this); omega); have q8w70 := fun o => hb8.cell (p := ⟨w7.heap.size, o, none⟩) (by first | omega | (simp; done) | (simp; omega)); have r8w70 := fun o => hb8.frozen (p := ⟨w7.heap.size, o, none⟩) (by first | omega | (simp; done) | (simp; omega))))
              go_roundw
              case rel => exact ⟨k + 1, by omega, by go_num, by ((have shb8 := hb8.size); (try simp at shb8); (have shb7 := hb7.size); (try simp at shb7); (have shbr := hbr.size); (try simp at shbr); (repeat' (first | (with_reducible exact Below.refl _ _) | (with_reducible refine Below.setCell ?_ ?_ _) | (with_reducible refine Below.alloc ?_ ?_ _) | (with_reducible refine Below.drew ?_) | (with_reducible refine Below.trans ?_ (Below.mono hb8 ?_)) | (with_reducible refine Below.trans ?_ (Below.mono hb7 ?_)) | (with_reducible refine Below.trans ?_ (Below.mono hbr ?_)) | go_size)))⟩
              case measure => simp [intOf]; omega
            · have : k = L.length := by omega
              subst this
              go_wp2
              go_ret
              exact ⟨rfl, by ((have shbr := hbr.size); (try simp at shbr); (have shB4 := hB4.size); (try simp at shB4); (repeat' (first | (with_reducible exact Below.refl _ _) | (with_reducible refine Below.setCell ?_ ?_ _) | (with_reducible refine Below.alloc ?_ ?_ _) | (with_reducible refine Below.drew ?_) | (with_reducible refine Below.trans ?_ (Below.mono hbr ?_)) | (with_reducible refine Below.trans ?_ (Below.mono hB4 ?_)) | go_size)))⟩
end Go.Proofs.Ytbanmngngfanhaa
