/- The laws' fresh and has. -/
import Derived.Test.YtkekidjjmcmjhaaGreatWalV
namespace Go.Proofs.YtkekidjjmcmjhaaGreat
open Go.RowKit Go.Shelf
set_option maxRecDepth 100000
attribute [local irreducible] Der

theorem RowsAt.below {W W' : World} {v : Value} {l : List (List Int)} (h : RowsAt W v l) (hb : Below W.heap.size W W') : RowsAt W' v l := by
  obtain ⟨ps, h1, h2, h3⟩ := h
  exact ⟨ps, h1, h2.grown hb, fun p hp => (h3 p hp).grown hb⟩
theorem RowsAt.form {W : World} {v : Value} {l : List (List Int)} (h : RowsAt W v l) : ∃ a c, v = .slice a l.length c ∧ l.length ≤ c ∧ c ≤ 9223372036854775807 := by
  obtain ⟨ps, h1, h2, h3⟩ := h
  obtain ⟨a, c, e, e2, e3, -⟩ := h2.form
  exact ⟨a, c, by rw [← h1, List.length_map]; exact e, by rw [← h1, List.length_map]; exact e2, e3⟩
theorem RowsAt.get {W : World} {a : Option Addr} {n c : Nat} {l : List (List Int)} (h : RowsAt W (.slice a n c) l) (k : Nat) (hk : k < l.length) : ∃ bb off x, a = some ⟨bb, off, none⟩ ∧ W.cell? ⟨bb, off + k, none⟩ = some x ∧ Byt W x l[k] := by
  obtain ⟨ps, h1, h2, h3⟩ := h
  obtain ⟨a', c', e, e2, e3, h4⟩ := h2.form
  simp only [Value.slice.injEq] at e
  subst h1
  rw [List.length_map] at hk
  obtain ⟨bb, off, e4, -, h5⟩ := h4 (by intro e5; have := congrArg List.length e5; simp at this; rw [this] at hk; simp at hk)
  refine ⟨bb, off, ps[k].1, by rw [e.1, e4], by rw [h5 k (by simpa using hk)]; simp, ?_⟩
  have := h3 ps[k] (List.getElem_mem _)
  simpa using this

theorem f_fresh (w : World) : Calls Tryz.prog 19 #[] w fun e w' => ∃ A b m q g s, e = .returned (.tuple #[SP q, DP b, .bool true]) ∧ WalIs w' A b m q g ⟨400, [[]], false⟩ s ∧
    LogOn s 400 [[]] ∧ Cm s ∧ s.room = 940 ∧ s.ops ≤ 4 ∧ s.fl = updF (fun _ => none) 0 (some ⟨fileB 400 [[]], (fileB 400 [[]]).length, true⟩) ∧ Below w.heap.size w w' ∧ w.heap.size ≤ q ∧ w.heap.size ≤ b ∧ w.heap.size ≤ m ∧ (∀ k, g = some k → w.heap.size ≤ k) ∧ ∀ a ∈ A, w.heap.size ≤ a := by
  obtain ⟨a1, a2, a3, a4, a5, a6⟩ := fmt_new (room := 940) (most := 400) (by decide) (by omega) (by omega) (by omega)
  have HA1 := Lib.hid a1
  obtain ⟨S1, hS1⟩ : ∃ t, formatS (newS 940) 400 = t := ⟨_, rfl⟩
  rw [hS1] at a2 a3 a4 a5 a6
  have hlog : LogOn S1 400 [[]] := ⟨a3, a2.dead, by rw [a6, updF_same], by rw [a6, updF_ne _ _ (by decide)], by decide, by simp [costL], by simp, fun p hp => by simp at hp; subst hp; intro c hc; cases hc⟩
  have HS1 := Lib.hid hS1
  have HL := Lib.hid hlog
  have A2 := Lib.hid a2
  have A6 := Lib.hid a6
  clear a1 a2 a3 a6 hlog hS1
  go_enter Tryz.func19, Tryz.ntmps19
  go_wp2_with fail
  refine (f_New 940 _ (by omega) (by omega)).mono ?_
  rintro e w1 ⟨rfl, hd1, hb1⟩
  have s1 := hb1.size
  have HD1 := Lib.hid hd1
  have hbl := hd1.blt
  clear hd1
  go_wp2_with fail
  refine (f_Format (most := 400) HD1.out (new_ok (by omega) (by omega)) (by simp [newS])).mono ?_
  rintro e w2 ⟨t2, A2', hA2, (⟨h1, -⟩ | ⟨-, q, g, hq, hg, rfl, hW⟩)⟩
  · exact absurd HA1.out h1
  rw [HS1.out] at hW
  have HW := Lib.hid hW
  have T2 := Lib.hid ((Tw.of_below hb1 : Tw w.heap.size [] w w1).trans (t2.mono s1 (fun a ha => by simp at ha; exact .inr (by omega))))
  have HGL := Lib.hid (fun k (hk : g = some k) => (show w.heap.size ≤ k by
    rcases hg with h9 | ⟨k', h9, h8⟩
    · rw [h9] at hk; cases hk
    · rw [h9] at hk; cases hk; omega))
  have HAA := Lib.hid (fun a (ha : a ∈ A2') => (show w.heap.size ≤ a by
    rcases hA2.2 a ha with h9 | h9
    · simp at h9; omega
    · omega))
  clear hW t2 hA2 hg
  go_wp2
  go_returns
  exact ⟨A2', _, _, q, g, S1, rfl, HW.out, HL.out, A2.out, a5, a4, A6.out, T2.out.below (Nat.le_refl _) (by simp), by omega, by omega, by omega, HGL.out, HAA.out⟩

theorem f_eqB {l1 l2 : List Int} {v1 v2 : Value} {w : World} {y : Bool} (h : Byt w v1 l1) (h2 : Byt w v2 l2) (b1 : Byte l1) (b2 : Byte l2) (hy : decide (l1 = l2) = y) : Calls Tryz.prog 15 #[v1, v2] w fun e w' => e = .returned (.bool y) ∧ Below w.heap.size w w' :=
  (f_bytesEqD h h2 b1 b2).mono fun e w' ⟨h3, h4⟩ => ⟨by rw [h3, hy], h4 ▸ Below.refl _ _⟩
section
variable {w w' : World} {A A' : List Nat} {q b m : Nat} {g : Option Nat} {s : DS} {ws : WS}

set_option maxHeartbeats 8000000 in
theorem f_has (h : WalIs w A b m q g ws s) {p0 : List Int} {rest : List (List Int)} (hp : ws.parts = p0 :: rest) (hn : rest.length ≤ 100000) (hb : ∀ p ∈ ws.parts, p.length ≤ 1000000 ∧ Byte p) (vs vr : Value) (snap : List Int) (recs : List (List Int)) (hs : Byt w vs snap) (hr : RowsAt w vr recs) (bs : Byte snap) (br : ∀ p ∈ recs, Byte p) (hrn : recs.length ≤ 100000) :
    Calls Tryz.prog 28 #[SP q, vs, vr] w fun e w' => e = .returned (.bool (decide (p0 = snap ∧ rest = recs))) ∧ Below w.heap.size w w' := by
  have HH := Lib.hid h
  have HS := Lib.hid hs
  obtain ⟨av, cs, rfl, -⟩ := hs.open
  obtain ⟨ar, cr, rfl, hr1, hr2⟩ := hr.form
  have HR := Lib.hid hr
  have HB := Lib.hid hb
  have HP := Lib.hid hp
  have hb0 := hb p0 (by rw [hp]; simp)
  have HB0 := Lib.hid hb0.2
  have hl0 := hb0.1
  have hlen : ((ws.parts.length : Int) - 1) = rest.length := by rw [hp]; simp
  have HLEN := Lib.hid hlen
  have hpl : ws.parts.length ≤ 1000000 := by rw [hp]; simp; omega
  obtain ⟨Y, hY⟩ : ∃ Y, decide (p0 = snap ∧ rest = recs) = Y := ⟨_, rfl⟩
  rw [hY]
  have HY := Lib.hid hY
  clear h hs hr hb hp hb0 hlen hY
  go_enter Tryz.func28, Tryz.ntmps28
  go_wp2_with fail
  refine (f_WalAll HH.out HP.out hn (fun p hp => (HB.out p (by rw [HP.out]; simp [hp])).1)).mono ?_
  rintro e w1 ⟨⟨v1, rfl, own1⟩, hb1⟩
  obtain ⟨a1, c1, rfl⟩ := own1.len
  have O1 := Lib.hid own1
  have s1 := hb1.size
  clear own1
  go_wp2_with fail
  refine (f_WalSnap (HH.out.below hb1) HP.out hl0).mono ?_
  rintro e w2 ⟨⟨v2, rfl, own2⟩, hb2⟩
  have b2 := hb1.trans (hb2.mono s1)
  have s2 := hb2.size
  have O2 := Lib.hid (Byt.of_owns own2 rfl)
  obtain ⟨a2, c2, rfl, -⟩ := O2.out.open
  clear own2
  go_wp2_with fail
  refine (f_bytesEqD O2.out (HS.out.grown b2) HB0.out bs).mono ?_
  rintro e w' ⟨rfl, rfl⟩
  by_cases h1 : p0 = snap
  · rw [decide_eq_true h1]
    have H1 := Lib.hid h1
    clear h1
    by_cases h2 : rest.length = recs.length
    · have h3 : recs.length = rest.length := h2.symm
      rw [h3] at hr1
      have HR1 := Lib.hid (h3 ▸ HR.out : RowsAt w (.slice ar rest.length cr) recs)
      rw [h3]
      have H2 := Lib.hid h2
      clear h2 h3 HR
      go_wp2_with fail
      refine (f_WalLen (HH.out.below b2) hpl).mono ?_
      rintro e w3 ⟨rfl, hb3⟩
      rw [HLEN.out]
      have b3 := b2.trans (hb3.mono b2.size)
      have HB3 := Lib.hid b3
      have O3 := Lib.hid (O1.out.below (hb2.trans (hb3.mono s2)))
      have s3 := hb3.size
      clear hb1 hb2 hb3 b2 b3 O1 O2
      go_wp2_with fail
      go_loopw [32] (fun i wr => ∃ k : Nat, k ≤ rest.length ∧ i = .int .i64 k ∧ rest.take k = recs.take k ∧ Below w3.heap.size w3 wr) (fun i _ => rest.length - (intOf i).toNat)
      case atStart => exact ⟨0, Nat.zero_le _, rfl, rfl, Below.refl _ _⟩
      case round =>
        obtain ⟨k, hk, rfl, hpre, hB⟩ := hrel
        have HPRE := Lib.hid hpre
        have HBB := Lib.hid hB
        have hsB := hB.size
        clear hpre hB
        by_cases hlt : k < rest.length
        · have hlt2 : k < recs.length := by rw [← H2.out]; exact hlt
          obtain ⟨bb1, off1, x1, rfl, k1, y1⟩ := (O3.out.below HBB.out).rows.get k hlt
          obtain ⟨bb2, off2, x2, rfl, k2, y2⟩ := (HR1.out.below (HB3.out.trans (HBB.out.mono HB3.out.size))).get k hlt2
          have z1 := World.block_lt_of_cell? wr _ k1
          have z2 := World.block_lt_of_cell? wr _ k2
          dsimp only at z1 z2
          obtain ⟨ax1, cx1, rfl, -⟩ := y1.open
          obtain ⟨ax2, cx2, rfl, -⟩ := y2.open
          have Y1 := Lib.hid y1
          have Y2 := Lib.hid y2
          have bl1 := Lib.hid (HB.out rest[k] (by rw [HP.out]; exact List.mem_cons_of_mem _ (List.getElem_mem _))).2
          have bl2 := Lib.hid (br recs[k] (List.getElem_mem _))
          obtain ⟨E, hE⟩ : ∃ E, decide (rest[k] = recs[k]) = E := ⟨_, rfl⟩
          have HE := Lib.hid hE
          obtain ⟨l1, hl1⟩ : ∃ l, rest[k] = l := ⟨_, rfl⟩
          obtain ⟨l2, hl2⟩ : ∃ l, recs[k] = l := ⟨_, rfl⟩
          rw [hl1] at Y1 k1 bl1 HE
          rw [hl2] at Y2 k2 bl2 HE
          have HL1 := Lib.hid hl1
          have HL2 := Lib.hid hl2
          clear y1 y2 hE hl1 hl2
          go_wp2_with fail
          refine wp_grow [(8, .val (.bool E))] 10 (by kernel_rfl) (by kernel_rfl) (by rfl) (by rfl) ?_
          simp only [List.take_succ_cons, List.take_zero, List.drop_succ_cons, List.drop_zero]
          repeat (first
            | (apply Der.quiet; (rfl); (rfl); (intro w' hw' hctx; have hc' := bcell hw'; have k1' := (hw'.cell (p := ⟨bb1, off1 + k, none⟩) z1).trans k1; have k2' := (hw'.cell (p := ⟨bb2, off2 + k, none⟩) z2).trans k2; clear hctx; go_simp; first | exact rfl | exact ⟨rfl, rfl⟩); simp only [Act.put, List.setIfInBounds_toArray, List.set_cons_succ, List.set_cons_zero, Nat.reduceAdd])
            | (apply Der.skip; (rfl); simp only [Act.put, List.setIfInBounds_toArray, List.set_cons_succ, List.set_cons_zero, Nat.reduceAdd]))
          apply Der.val
          · rfl
          · rfl
          · (intro w' hw' hctx; go_simp; refine (f_eqB (Y1.out.grown ((Below.refl _ _).drew.trans hw')) (Y2.out.grown ((Below.refl _ _).drew.trans hw')) bl1.out bl2.out HE.out).mono ?_; rintro e w2 ⟨rfl, hb⟩; exact ⟨_, rfl, rfl, hb⟩)
          simp only [Act.put, List.setIfInBounds_toArray, List.set_cons_succ, List.set_cons_zero, Nat.reduceAdd]
          repeat (first
            | (apply Der.quiet; (rfl); (rfl); (intro w' hw' hctx; have hc' := bcell hw'; clear hctx; go_simp; first | exact rfl | exact ⟨rfl, rfl⟩); simp only [Act.put, List.setIfInBounds_toArray, List.set_cons_succ, List.set_cons_zero, Nat.reduceAdd])
            | (apply Der.skip; (rfl); simp only [Act.put, List.setIfInBounds_toArray, List.set_cons_succ, List.set_cons_zero, Nat.reduceAdd]))
          refine Der.nil (fun w4 hgw4 hctx => ?_)
          clear hctx
          have hb4 : Below _ _ w4 := hgw4
          clear hgw4
          have b4 : Below w3.heap.size w3 w4 := HBB.out.trans (((Below.refl _ _).drew.trans hb4).mono hsB)
          have HB4 := Lib.hid b4
          clear b4 hb4
          cases E
          · have hYf : Y = false := by
              rw [← HY.out]
              refine decide_eq_false (fun hc => ?_)
              have h5 := of_decide_eq_false HE.out
              apply h5
              rw [← HL1.out, ← HL2.out]
              simp only [hc.2]
            subst hYf
            clear HY
            go_wp2
            go_ret
            exact ⟨rfl, HB3.out.trans (HB4.out.mono HB3.out.size)⟩
          · have h5 : l1 = l2 := of_decide_eq_true HE.out
            go_wp2
            go_roundw
            case rel => exact ⟨k + 1, by omega, by go_num, by rw [← List.take_append_getElem hlt, ← List.take_append_getElem hlt2, HPRE.out, HL1.out, HL2.out, h5], HB4.out⟩
            case measure => simp [intOf]; omega
        · have hke : k = rest.length := by omega
          have hYt : Y = true := by
            rw [← HY.out]
            refine decide_eq_true ⟨H1.out, ?_⟩
            have h5 := HPRE.out
            rw [List.take_of_length_le (by omega), List.take_of_length_le (by have := H2.out; omega)] at h5
            exact h5
          subst hYt
          clear HY HPRE
          go_wp2
          go_ret
          exact ⟨rfl, HB3.out.trans (HBB.out.mono HB3.out.size)⟩
    · have hYf : Y = false := by
        rw [← HY.out]
        exact decide_eq_false (fun hc => h2 (by rw [hc.2]))
      subst hYf
      clear HY
      have h2' : ¬ ((rest.length : Int) = (recs.length : Int)) := by omega
      go_wp2
      go_ret
      exact ⟨rfl, b2⟩
  · rw [decide_eq_false h1]
    have hYf : Y = false := by
      rw [← HY.out]
      exact decide_eq_false (fun hc => h1 hc.1)
    subst hYf
    clear HY
    go_wp2
    go_ret
    exact ⟨rfl, b2⟩
end
end Go.Proofs.YtkekidjjmcmjhaaGreat
