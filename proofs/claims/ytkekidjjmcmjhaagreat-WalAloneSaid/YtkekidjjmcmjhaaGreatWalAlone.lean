/- WalAlone: another file stays as it is, whatever is done to the log. -/
import Derived.Test.YtkekidjjmcmjhaaGreatWalEv
import Derived.Deep.CutBlock
namespace Go.Proofs.YtkekidjjmcmjhaaGreat
open Go.RowKit Go.Shelf
set_option maxRecDepth 100000
attribute [local irreducible] Der

/-- The state ahead of a round. -/
structure AloI (w wr : World) (A : List Nat) (b m q : Nat) (g : Option Nat) (parts : List (List Int)) (s : DS) (own : List Int) (ov : Value) (k : Nat) : Prop where
  wal : WalIs wr A b m q g ⟨400, parts, false⟩ s
  log : LogOn s 400 parts
  cm : Cm s
  room : s.room = 940
  ops : s.ops ≤ 20 + 8 * k
  f2 : s.fl 2 = none
  f3 : s.fl 3 = some ⟨own, own.length, true⟩
  byt : Byt wr ov own
  off : ∀ ad n c, ov = .slice (some ad) n c → ad.block < wr.heap.size ∧ ad.block ∉ A
  bel : Below w.heap.size w wr
  new : ∀ a ∈ A, w.heap.size ≤ a
section
variable {w wr w3 w4 : World} {A A' L : List Nat} {b m q q' : Nat} {g g' : Option Nat} {parts parts' : List (List Int)} {s s' : DS} {own : List Int} {ov : Value} {k k' : Nat}
theorem AloI.below (h : AloI w wr A b m q g parts s own ov k) (hb : Below wr.heap.size wr w3) : AloI w w3 A b m q g parts s own ov k :=
  ⟨h.wal.below hb, h.log, h.cm, h.room, h.ops, h.f2, h.f3, h.byt.grown hb, fun ad n c e => ⟨Nat.lt_of_lt_of_le (h.off ad n c e).1 hb.size, (h.off ad n c e).2⟩, h.bel.trans (hb.mono h.bel.size), h.new⟩
theorem AloI.step (h : AloI w wr A b m q g parts s own ov k) (hA : Ext wr.heap.size A A') (hW : WalIs w4 A' b m q' g' ⟨400, parts', false⟩ s') (ht : Tw wr.heap.size L wr w4) (hL : ∀ a ∈ L, a ∈ A) (hlog : LogOn s' 400 parts') (hcm : Cm s') (hr : s'.room = s.room) (ho : s'.ops ≤ 20 + 8 * k') (h2 : s'.fl 2 = s.fl 2) (h3 : s'.fl 3 = s.fl 3) : AloI w w4 A' b m q' g' parts' s' own ov k' := by
  have hs := ht.size
  have hw := h.bel.size
  refine ⟨hW, hlog, hcm, hr.trans h.room, ho, h2.trans h.f2, h3.trans h.f3, h.byt.turn hs (fun ad n c e => ht.block _ (h.off ad n c e).1 (fun hc => (h.off ad n c e).2 (hL _ hc))), fun ad n c e => ⟨Nat.lt_of_lt_of_le (h.off ad n c e).1 hs, fun hc => ?_⟩, h.bel.trans (ht.below hw (fun a ha => h.new a (hL a ha))), fun a ha => ?_⟩
  · rcases hA.2 _ hc with h5 | h5
    · exact (h.off ad n c e).2 h5
    · have := (h.off ad n c e).1; omega
  · rcases hA.2 a ha with h5 | h5
    · exact h.new a h5
    · omega
theorem AloI.mono (h : AloI w wr A b m q g parts s own ov k) (hk : k ≤ k') : AloI w wr A b m q g parts s own ov k' :=
  ⟨h.wal, h.log, h.cm, h.room, by have := h.ops; omega, h.f2, h.f3, h.byt, h.off, h.bel, h.new⟩
theorem AloI.bmqg (h : AloI w wr A b m q g parts s own ov k) : ∀ a ∈ b :: m :: q :: g.toList, a ∈ A := fun a ha => by
  simp only [List.mem_cons, Option.mem_toList] at ha
  rcases ha with rfl | rfl | rfl | ha
  · exact h.wal.disk.hb
  · exact h.wal.disk.hm
  · exact h.wal.said.hq
  · exact (h.wal.said.hg a ha).1
theorem AloI.allSy (h : AloI w wr A b m q g parts s own ov k) : AllSy s := fun x f hf => by
  have hx := h.log.ok.name x f hf
  have hx4 : x = 0 ∨ x = 1 ∨ x = 2 ∨ x = 3 := by omega
  rcases hx4 with rfl | rfl | rfl | rfl
  · rw [h.log.log] at hf; cases hf; rfl
  · rw [h.log.new] at hf; cases hf
  · rw [h.f2] at hf; cases hf
  · rw [h.f3] at hf; cases hf; rfl
/-- Append on a calm disk. -/
theorem AloI.app {bs : List Int} {e : Ending} (h : AloI w wr A b m q g parts s own ov k) (hb : Byte bs) (hn : bs.length ≤ 300) (ho : own.length ≤ 60) (hp : WapPost wr A b m q g (wappE ⟨400, parts, false⟩ s bs) (wappW ⟨400, parts, false⟩ s bs) (wappS ⟨400, parts, false⟩ s bs) e w4) :
    (∃ x, e = .returned (.int .i64 x)) ∧ ∃ A' g' parts' s', AloI w w4 A' b m q g' parts' s' own ov (k + 1) := by
  obtain ⟨rfl, A', g', hA, -, hW, ht⟩ := hp
  refine ⟨⟨_, rfl⟩, ?_⟩
  have hops := h.ops
  cases hf : fitB 400 parts bs.length
  · have hk0 : askedE ⟨400, parts, false⟩ bs.length = 0 := by unfold askedE; rw [if_neg (by simp), if_neg (by omega)]
    have e2 : wappW ⟨400, parts, false⟩ s bs = ⟨400, parts, false⟩ := by unfold wappW; rw [hk0, hf]; simp
    have e3 : wappS ⟨400, parts, false⟩ s bs = s := by unfold wappS; rw [hk0, hf]; simp
    rw [e2, e3] at hW
    exact ⟨A', g', parts, s, h.step hA hW ht h.bmqg h.log h.cm rfl (by push_cast; omega) rfl rfl⟩
  · have l2 : s.len 2 = 0 := by unfold DS.len DS.at; rw [h.f2]; rfl
    have l3 : s.len 3 = own.length := by unfold DS.len DS.at; rw [h.f3]; rfl
    obtain ⟨e1, e2, q3, q4, q5, q6, q7⟩ := wapp_calm (ws := ⟨400, parts, false⟩) (s := s) (bs := bs) h.log rfl hb hf (by rw [l2, l3, h.room]; show ((0 + own.length : Nat) : Int) + 400 + 20 ≤ 940; omega) h.cm
    rw [e2] at hW
    exact ⟨A', g', _, _, h.step hA hW ht h.bmqg q4 q3 q5 (by push_cast; omega) (q6 2 (by decide)) (q6 3 (by decide))⟩
/-- Checkpoint on a calm disk. -/
theorem AloI.chk {bs : List Int} {e : Ending} (h : AloI w wr A b m q g parts s own ov k) (hb : Byte bs) (hn : bs.length ≤ 300) (ho : own.length ≤ 60) (hp : WapPost wr A b m q g (wchkE ⟨400, parts, false⟩ s bs) (wchkW ⟨400, parts, false⟩ s bs) (wchkS ⟨400, parts, false⟩ s bs) e w4) :
    (∃ x, e = .returned (.int .i64 x)) ∧ ∃ A' g' parts' s', AloI w w4 A' b m q g' parts' s' own ov (k + 1) := by
  obtain ⟨rfl, A', g', hA, -, hW, ht⟩ := hp
  refine ⟨⟨_, rfl⟩, ?_⟩
  have hops := h.ops
  have l2 : s.len 2 = 0 := by unfold DS.len DS.at; rw [h.f2]; rfl
  have l3 : s.len 3 = own.length := by unfold DS.len DS.at; rw [h.f3]; rfl
  obtain ⟨e1, e2, q3, q4, q5, q6, q7⟩ := wchk_calm (ws := ⟨400, parts, false⟩) (s := s) (bs := bs) h.log rfl hb (by omega) (by show (12 + bs.length : Int) ≤ 400; omega) (by rw [l2, l3, h.room]; show ((0 + own.length : Nat) : Int) + 2 * (400 + 20) ≤ 940; omega) h.cm
  rw [e2] at hW
  exact ⟨A', g', _, _, h.step hA hW ht h.bmqg q4 q3 q5 (by push_cast; omega) (q6 2 (by decide)) (q6 3 (by decide))⟩
/-- A crash. -/
theorem AloI.crash {keep : List Bool} (h : AloI w wr A b m q g parts s own ov k) (hd : Disk w4 A b m (crashS s keep)) (ht : Tw wr.heap.size [b, m] wr w4) : AloI w w4 A b m q g parts (crashS s keep) own ov k := by
  have hF := crash_sy h.log.ok h.allSy keep
  exact h.step (Ext.refl _ _) (h.wal.disked hd ht) ht (fun a ha => h.bmqg a (by simp at ha; rcases ha with rfl | rfl <;> simp)) ⟨crash_ok h.log.ok keep, rfl, by rw [hF]; exact h.log.log, by rw [hF]; exact h.log.new, h.log.lim, h.log.cost, h.log.one, h.log.byte⟩ ⟨rfl, rfl, rfl⟩ rfl h.ops (by rw [hF]) (by rw [hF])
/-- The log, opened anew. -/
theorem AloI.opened {e : Ending} (h : AloI w wr A b m q g parts s own ov k) (hp : OpenPost wr A b m s e w4) : ∃ q' A' g' s', e = .returned (.tuple #[SP q', .int .i64 0]) ∧ AloI w w4 A' b m q' g' parts s' own ov (k + 1) := by
  obtain ⟨ht, A', hA, hp⟩ := hp
  obtain ⟨e1, q3, q4, q5, q6, q7, q8, q9⟩ := open_calm h.log h.cm
  have hops := h.ops
  rcases hp with ⟨h1, -⟩ | ⟨-, q', g', -, -, rfl, hW⟩
  · exact absurd e1 h1
  · rw [q8, q9] at hW
    exact ⟨q', A', g', _, rfl, h.step hA hW ht (fun a ha => h.bmqg a (by simp at ha; rcases ha with rfl | rfl <;> simp)) q4 q3 q5 (by push_cast; omega) (by rw [q6]) (by rw [q6])⟩
end
set_option maxRecDepth 100000 in
set_option maxHeartbeats 8000000 in
theorem f_WalAlone (v : Value) (l : List Evt) (vb : Value) (bb : List Int) (w : World) (h : EvsV w v l) (hb : Byt w vb bb) (hbb : Byte bb) :
    Calls Tryz.prog 4 #[v, vb] w fun e w' => e = .returned (.bool true) ∧ Below w.heap.size w w' := by
  obtain ⟨av, cv, rfl, hc1, hc2, hcell⟩ := h.open
  have HC := Lib.hid hcell
  have HE := Lib.hid h.2
  have HVB := Lib.hid hb
  obtain ⟨ab, cb, rfl, hb1, hb2, -⟩ := hb.open
  obtain ⟨N, hN⟩ : ∃ m : Nat, min (bb.length : Int) 60 = (m : Int) := ⟨min bb.length 60, by omega⟩
  have hNl : N ≤ (bb.take 300).length := by rw [List.length_take]; omega
  have hN60 : N ≤ 60 := by omega
  clear h hb hcell
  go_enter Tryz.func4, Tryz.ntmps4
  go_wp2_with fail
  refine (f_wakes _).mono ?_
  rintro e w1 ⟨rfl, hb1'⟩
  go_wp2_with fail
  refine (f_fresh _).mono ?_
  rintro e w2 ⟨A0, b, m, q, g0, s0, rfl, hW, hL, hC, hroom, hops, hfl, hb2', hq, hb, hm, hg, hA⟩
  have bw2 : Below w.heap.size w w2 := hb1'.trans (hb2'.mono hb1'.size)
  have hA' : ∀ a ∈ A0, w.heap.size ≤ a := fun a ha => by have := hA a ha; have := hb1'.size; omega
  have HW := Lib.hid hW
  have HL := Lib.hid hL
  have HCM := Lib.hid hC
  have HFL := Lib.hid hfl
  have HAA := Lib.hid hA'
  clear hb1' hb2' hA hA' hg hW hL hC hfl hq hb hm
  go_wp2_with fail
  refine (f_some _ bb _ (HVB.out.grown bw2)).mono ?_
  rintro e w3 ⟨⟨v3, rfl, own3⟩, hb3⟩
  obtain ⟨L3, hL3⟩ : ∃ x, bb.take 300 = x := ⟨_, rfl⟩
  have hbL3 : Byte L3 := by rw [← hL3]; exact hbb.take 300
  rw [hL3] at own3 hNl
  obtain ⟨p3, k3, c3', e3, hp3⟩ := own_slice own3
  have BY3 := Lib.hid (Byt.of_owns own3 rfl)
  obtain ⟨a3, c3, rfl, hl3, hm3, -⟩ := BY3.out.open
  have HP3 := Lib.hid (fun ad n c (e : Value.slice a3 N c3 = .slice (some ad) n c) => (show w2.heap.size ≤ ad.block ∧ ad.block < w3.heap.size by
    simp only [Value.slice.injEq] at e e3
    exact hp3 ad (by rw [← e3.1, e.1])))
  have HBO := Lib.hid (BY3.out.cut hNl)
  obtain ⟨own, hown⟩ : ∃ x, L3.take N = x := ⟨_, rfl⟩
  have hol : own.length = N := by rw [← hown, List.length_take]; omega
  have hob : Byte own := by rw [← hown]; exact hbL3.take N
  rw [hown] at HBO
  have r1 := run_cutB a3 L3.length c3 N hNl hl3 hm3
  have s3 := hb3.size
  have hw2s := bw2.size
  have hbA := HW.out.disk.hb
  have hmA := HW.out.disk.hm
  have HW3 := Lib.hid (HW.out.below hb3)
  have hlA := Lib.hid HW.out.disk.lt
  have hb2l := HW.out.disk.blt
  have hm2l := HW.out.disk.mlt
  have BW3 := Lib.hid (bw2.trans (hb3.mono hw2s))
  clear own3 hp3 e3 hb3 hL3 hown bw2
  go_wp2_with fail
  refine (f_Append HW3.out.disk HL.out.ok (by omega) 3 (w64 (by omega) (by omega)) _ own HBO.out (by omega) (fun ad n c e => by have := HP3.out ad n c e; omega)).mono ?_
  rintro e w4 ⟨rfl, hd4, t4⟩
  have hu : s0.used = 32 := by
    have h2 : s0.len 2 = 0 := by rw [len_fl HFL.out, updF_ne _ _ (by decide)]; rfl
    have h3 : s0.len 3 = 0 := by rw [len_fl HFL.out, updF_ne _ _ (by decide)]; rfl
    rw [used_eq HL.out, h2, h3]; simp [costL]
  have o4 := app_out (s := s0) (x := 3) (bs := own) HL.out.dead (by omega) (by omega) (by rw [hu, hroom]; omega)
  obtain ⟨z4, c4⟩ := o4.calm HCM.out
  have f4 := (o4.good z4).1
  have k4 := append_ok HL.out.ok 3 own hob
  have p4 := (append_ops s0 3 own).1
  have r4 := o4.room
  obtain ⟨s4, hs4⟩ : ∃ t, appendS s0 3 own = t := ⟨_, rfl⟩
  dsimp only [appR] at z4 c4 f4 r4
  rw [hs4] at hd4 c4 f4 k4 p4 r4
  have hat0 : s0.at 3 = f0 := by rw [at_fl HFL.out, updF_ne _ _ (by decide)]; rfl
  have hap : appF (s0.at 3) own = ⟨own, 0, false⟩ := by rw [hat0]; simp [appF, f0]
  rw [hap] at f4
  rw [z4]
  have W4 := Lib.hid (HW3.out.disked hd4 t4)
  have s4' := t4.size
  have C4 := Lib.hid c4
  have F4 := Lib.hid f4
  have K4 := Lib.hid k4
  have T4 := Lib.hid t4
  clear o4 z4 c4 f4 k4 hs4 hap hat0 hu hd4 t4
  go_wp2_with fail
  refine (f_Sync W4.out.disk K4.out (by omega) 3 (w64 (by omega) (by omega))).mono ?_
  rintro e w5 ⟨rfl, hd5, t5⟩
  have o5 := sync_out (s := s4) (x := 3) (f := ⟨own, 0, false⟩) C4.out.dead (by omega) (by omega) (by rw [F4.out, updF_same])
  obtain ⟨z5, c5⟩ := o5.calm C4.out
  have f5 := (o5.good z5).1
  have k5 := sync_ok K4.out 3
  have p5 := (withS_ops s4 3 ask0 syncF).1
  have r5 := o5.room
  obtain ⟨s5, hs5⟩ : ∃ t, withS s4 3 ask0 syncF = t := ⟨_, rfl⟩
  dsimp only [syncR] at z5 c5 f5 r5
  rw [hs5] at hd5 c5 f5 k5 p5 r5
  rw [show syncF ⟨own, 0, false⟩ = ⟨own, own.length, true⟩ from rfl, F4.out, updF_upd] at f5
  rw [z5]
  have W5 := W4.out.disked hd5 t5
  have hl4 : Tw w3.heap.size [b, m] w3 w5 := T4.out.trans (t5.mono s4' (fun a ha => .inl ha))
  have s5' := hl4.size
  have hI : AloI w w5 A0 b m q g0 [[]] s5 own (.slice a3 N c3) 0 := ⟨W5, ⟨k5, c5.dead, by rw [f5, updF_ne _ _ (by decide)]; exact HL.out.log, by rw [f5, updF_ne _ _ (by decide)]; exact HL.out.new, HL.out.lim, HL.out.cost, HL.out.one, HL.out.byte⟩, c5, by rw [r5, r4, hroom], by omega, by rw [f5, updF_ne _ _ (by decide), HFL.out, updF_ne _ _ (by decide)], by rw [f5, updF_same], HBO.out.turn s5' (fun ad n c e => hl4.block _ (by have := HP3.out ad n c e; omega) (by have := HP3.out ad n c e; simp; omega)), fun ad n c e => ⟨by have := HP3.out ad n c e; omega, fun hc => by have := HP3.out ad n c e; have := hlA.out _ hc; omega⟩, BW3.out.trans (hl4.below (by have := BW3.out.size; omega) (fun a ha => by simp at ha; rcases ha with rfl | rfl; exact HAA.out _ hbA; exact HAA.out _ hmA)), HAA.out⟩
  have I0 := Lib.hid hI
  clear hI o5 z5 c5 f5 k5 hs5 hd5 t5 W5 hl4 r5 p5 r1 r4 p4 HP3 HBO HW3 HW HL HCM HFL
  go_upto_block 0 with fail
  go_cut [5, 9, 10, 11, 12, 13] from 42 to 90 (fun v5 _ _ _ _ _ wc => ∃ (q : Nat) (A : List Nat) (g : Option Nat) (parts : List (List Int)) (s : DS) (k : Nat), v5 = SP q ∧ k ≤ 30 ∧ AloI w wc A b m q g parts s own (.slice a3 N c3) k)
  case first =>
    go_wp2_with fail
    go_loopw [5, 42] (fun v5 i wr => ∃ (q : Nat) (A : List Nat) (g : Option Nat) (parts : List (List Int)) (s : DS) (k : Nat), v5 = SP q ∧ k ≤ 30 ∧ k ≤ l.length ∧ i = .int .i64 k ∧ AloI w wr A b m q g parts s own (.slice a3 N c3) k) (fun _ i _ => l.length - (intOf i).toNat)
    case atStart => exact ⟨q, A0, g0, [[]], s5, 0, rfl, by omega, Nat.zero_le _, rfl, I0.out⟩
    case round =>
      obtain ⟨q, A, g, parts, s, k, rfl, hk, hkl, rfl, hI⟩ := hrel
      have HI := Lib.hid hI
      clear hI
      by_cases hlt : k < l.length
      · obtain ⟨bo, off, rfl, hlo, g1, g2, g3, g4⟩ := HC.out k hlt
        have hbr := HI.out.bel
        have e1 := (hbr.cell (p := ⟨bo, off + k * 4, none⟩) hlo).trans g1
        have e2 := (hbr.cell (p := ⟨bo, off + k * 4 + 1, none⟩) hlo).trans g2
        have e3 := (hbr.cell (p := ⟨bo, off + k * 4 + 2, none⟩) hlo).trans g3
        have e4 := (hbr.cell (p := ⟨bo, off + k * 4 + 3, none⟩) hlo).trans g4
        have hO := (HE.out l[k] (List.getElem_mem hlt)).grown hbr
        have HO := Lib.hid hO
        obtain ⟨ab', cb', ebv, -⟩ := hO.b.open
        obtain ⟨ak', ck', ekv, hk1, hk2, -⟩ := hO.kp.1.open
        rw [ebv] at e3
        rw [ekv] at e4
        obtain ⟨ev, hev⟩ : ∃ e, l[k] = e := ⟨_, rfl⟩
        rw [hev] at e1 e2 e3 e4 ebv ekv HO hk1
        have EB := Lib.hid ebv
        have EK := Lib.hid ekv
        obtain ⟨kd, hkd⟩ : ∃ x, ev.k = x := ⟨_, rfl⟩
        rw [hkd] at e1
        have hsr := hbr.size
        clear hO g1 g2 g3 g4 hev ebv ekv hbr
        have hba : ∀ o : Obj, Below wr.heap.size wr (wr.alloc o) := fun o => (Below.refl _ _).alloc (Nat.le_refl _) _
        have HBA := Lib.hid hba
        have HBS := Lib.hid (show Byte ev.bs from HO.out.byte)
        have hml' : min (ev.keep.length : Int) 200 = ((min ev.keep.length 200 : Nat) : Int) := by omega
        obtain ⟨M, hM⟩ : ∃ M : Nat, min ev.keep.length 200 = M := ⟨_, rfl⟩
        rw [hM] at hml'
        have hMl : M ≤ ev.keep.length ∧ M ≤ 200 := by omega
        have hbyt := HO.out.b
        have hkp := HO.out.kp.1
        rw [EB.out] at hbyt
        rw [EK.out] at hkp
        have HBYT := Lib.hid hbyt
        have HKP := Lib.hid hkp
        clear hba hbyt hkp EB EK HO hM
        by_cases h30 : k = 30
        · subst h30
          go_wp2
          go_meet
          case rel => exact ⟨q, A, g, parts, s, 30, rfl, by omega, HI.out.below (HBA.out _)⟩
        · by_cases h5 : (IntKind.u64.wrap kd).tmod 12 < 5
          · go_wp2_with fail
            refine (f_some _ ev.bs _ (HBYT.out.grown (HBA.out _))).mono ?_
            rintro e w6 ⟨⟨v6, rfl, own6⟩, hb6⟩
            obtain ⟨L6, hL6⟩ : ∃ x, ev.bs.take 300 = x := ⟨_, rfl⟩
            have hbL6 : Byte L6 := by rw [← hL6]; exact HBS.out.take 300
            have hlen6 : L6.length ≤ 300 := by rw [← hL6, List.length_take]; omega
            rw [hL6] at own6
            have BY6 := Lib.hid (Byt.of_owns own6 rfl)
            obtain ⟨p6, k6, c6', e6, hp6⟩ := own_slice own6
            obtain ⟨a6, c6, rfl, -⟩ := BY6.out.open
            have HP6 := Lib.hid (fun ad n c (e : Value.slice a6 L6.length c6 = .slice (some ad) n c) => (show wr.heap.size ≤ ad.block ∧ ad.block < w6.heap.size by
              simp only [Value.slice.injEq] at e e6
              have := hp6 ad (by rw [← e6.1, e.1])
              simp only [World.size_alloc] at this
              omega))
            have I6 := Lib.hid (HI.out.below ((HBA.out _).trans (hb6.mono (by simp))))
            have hbl6 := HI.out.wal.disk.blt
            have hml6 := HI.out.wal.disk.mlt
            have hql6 := HI.out.wal.said.blt
            clear own6 hb6 e6 hp6 hL6
            go_wp2_with fail
            refine (f_WalAppend I6.out.wal I6.out.log.ok (by have := I6.out.ops; omega) (by have := I6.out.log.cost; show costL parts ≤ _; omega) _ L6 BY6.out (by omega) hbL6 (fun ad n c e => by have := HP6.out ad n c e; omega)).mono ?_
            rintro e w7 hp
            obtain ⟨⟨x, rfl⟩, A7, g7, parts7, s7, h7⟩ := I6.out.app hbL6 hlen6 (by omega) hp
            have H7 := Lib.hid h7
            clear h7 hp
            go_wp2
            go_roundw
            case rel => exact ⟨q, A7, g7, parts7, s7, k + 1, rfl, by omega, by omega, by go_num, H7.out⟩
            case measure => simp [intOf]; omega
          · by_cases h7 : (IntKind.u64.wrap kd).tmod 12 < 7
            · go_wp2_with fail
              refine (f_some _ ev.bs _ (HBYT.out.grown (HBA.out _))).mono ?_
              rintro e w6 ⟨⟨v6, rfl, own6⟩, hb6⟩
              obtain ⟨L6, hL6⟩ : ∃ x, ev.bs.take 300 = x := ⟨_, rfl⟩
              have hbL6 : Byte L6 := by rw [← hL6]; exact HBS.out.take 300
              have hlen6 : L6.length ≤ 300 := by rw [← hL6, List.length_take]; omega
              rw [hL6] at own6
              have BY6 := Lib.hid (Byt.of_owns own6 rfl)
              obtain ⟨p6, k6, c6', e6, hp6⟩ := own_slice own6
              obtain ⟨a6, c6, rfl, -⟩ := BY6.out.open
              have HP6 := Lib.hid (fun ad n c (e : Value.slice a6 L6.length c6 = .slice (some ad) n c) => (show wr.heap.size ≤ ad.block ∧ ad.block < w6.heap.size by
                simp only [Value.slice.injEq] at e e6
                have := hp6 ad (by rw [← e6.1, e.1])
                simp only [World.size_alloc] at this
                omega))
              have I6 := Lib.hid (HI.out.below ((HBA.out _).trans (hb6.mono (by simp))))
              have hbl6 := HI.out.wal.disk.blt
              have hml6 := HI.out.wal.disk.mlt
              have hql6 := HI.out.wal.said.blt
              clear own6 hb6 e6 hp6 hL6
              go_wp2_with fail
              refine (f_WalCheckpoint I6.out.wal I6.out.log.ok (by have := I6.out.ops; omega) (by show (0 : Int) ≤ 400; omega) (by show (400 : Int) ≤ 1000000; omega) _ L6 BY6.out (by omega) hbL6 (fun ad n c e => by have := HP6.out ad n c e; omega)).mono ?_
              rintro e w7 hp
              obtain ⟨⟨x, rfl⟩, A7, g7, parts7, s7, h7⟩ := I6.out.chk hbL6 hlen6 (by omega) hp
              have H7 := Lib.hid h7
              clear h7 hp
              go_wp2
              go_roundw
              case rel => exact ⟨q, A7, g7, parts7, s7, k + 1, rfl, by omega, by omega, by go_num, H7.out⟩
              case measure => simp [intOf]; omega
            · by_cases h9 : (IntKind.u64.wrap kd).tmod 12 = 9
              · have r2 := run_cutK ak' ev.keep.length ck' M hMl.1 hk1 hk2
                go_wp2_with fail
                have I5 := Lib.hid (HI.out.below (HBA.out (.cells #[.int .i64 kd, .int .i64 ev.n, .slice ab' ev.bs.length cb', .slice ak' ev.keep.length ck'] 51)))
                have hkc : Bools _ (.slice ak' M ck') (ev.keep.take M) := Bools.cut (Sl.grown HKP.out (HBA.out (.cells #[.int .i64 kd, .int .i64 ev.n, .slice ab' ev.bs.length cb', .slice ak' ev.keep.length ck'] 51))) hMl.1
                refine (f_Crash I5.out.wal.disk I5.out.log.ok _ (ev.keep.take M) hkc (by rw [List.length_take]; omega)).mono ?_
                rintro e w6 ⟨rfl, hd6, t6⟩
                have I6 := Lib.hid (I5.out.crash hd6 t6)
                clear hd6 t6 hkc r2
                go_wp2_with fail
                refine (f_Open I6.out.wal.disk I6.out.log.ok (by have := I6.out.ops; omega)).mono ?_
                rintro e w7 hp
                obtain ⟨q7, A7, g7, s7, rfl, h7'⟩ := I6.out.opened hp
                have H7 := Lib.hid h7'
                clear h7' hp
                go_wp2
                go_roundw
                case rel => exact ⟨q7, A7, g7, parts, s7, k + 1, rfl, by omega, by omega, by go_num, H7.out⟩
                case measure => simp [intOf]; omega
              · go_wp2
                go_roundw
                case rel => exact ⟨q, A, g, parts, s, k + 1, rfl, by omega, by omega, by go_num, (HI.out.below (HBA.out _)).mono (by omega)⟩
                case measure => simp [intOf]; omega
      · go_wp2
        go_meet
        case rel => exact ⟨q, A, g, parts, s, k, rfl, by omega, HI.out⟩
  case rest =>
    obtain ⟨q, A, g, parts, s, k, rfl, hk, hI⟩ := hcut
    have HI := Lib.hid hI
    clear hI
    go_wp2_with fail
    refine (f_Read HI.out.wal.disk HI.out.log.ok (by have := HI.out.ops; omega) 3 (w64 (by omega) (by omega))).mono ?_
    rintro e w6 ⟨v6, rfl, hv6, hd6, t6, -⟩
    have o6 := read_out (x := 3) HI.out.log.dead (by omega) (by omega) HI.out.f3
    obtain ⟨z6, -⟩ := o6.calm HI.out.cm
    have f6 := (o6.good z6).1
    dsimp only at z6 f6
    rw [upd_self HI.out.f3] at f6
    have hat : (s.at 3).bs = own := by unfold DS.at; rw [HI.out.f3]; rfl
    rw [z6] at hv6 ⊢
    rw [if_pos rfl, hat] at hv6
    obtain ⟨a6, c6, rfl, -⟩ := hv6.open
    have hLA : ∀ a ∈ [b, m], a ∈ A := fun a ha => HI.out.bmqg a (by simp at ha; rcases ha with rfl | rfl <;> simp)
    have hown6 : Byt w6 (.slice a3 N c3) own := HI.out.byt.turn t6.size (fun ad n c e => t6.block _ (HI.out.off ad n c e).1 (fun hc => (HI.out.off ad n c e).2 (hLA _ hc)))
    have bw6 : Below w.heap.size w w6 := HI.out.bel.trans (t6.below HI.out.bel.size (fun a ha => HI.out.new a (hLA a ha)))
    rw [hol] at hv6
    have HV6 := Lib.hid hv6
    have HO6 := Lib.hid hown6
    have HD6 := Lib.hid hd6
    have BW6 := Lib.hid bw6
    have l1 : (withS s 3 ask0 id).len 1 = 0 := by rw [len_fl f6, HI.out.log.new]; rfl
    have L1 := Lib.hid l1
    clear hv6 hown6 hd6 bw6 o6 z6 f6 t6 hat l1
    go_wp2_with fail
    refine (f_bytesEqD HV6.out HO6.out hob hob).mono ?_
    rintro e w' ⟨rfl, rfl⟩
    rw [decide_eq_true (rfl : own = own)]
    go_wp2_with fail
    refine (f_Size HD6.out 1 (w64 (by omega) (by omega))).mono ?_
    rintro e w7 ⟨rfl, hb7⟩
    rw [L1.out]
    have BW7 := Lib.hid (BW6.out.trans (hb7.mono BW6.out.size))
    clear hb7
    go_wp2
    go_ret
    exact ⟨rfl, BW7.out⟩
end Go.Proofs.YtkekidjjmcmjhaaGreat
