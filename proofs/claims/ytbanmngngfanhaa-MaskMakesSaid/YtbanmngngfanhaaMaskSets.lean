/- The walk of MaskSets: what it asks comes out true. -/
import Derived.Test.YtbanmngngfanhaaSetLaws
import Derived.Laws.AppendOwnNone
namespace Go.Proofs.Ytbanmngngfanhaa
open Go.RowKit

theorem info_mask : (Try.prog.info? 27).map (fun i => (i.zero, i.size, i.bytes)) = some (some (.agg #[.int .u64 0, .int .u64 0]), 2, 16) := by kernel_rfl
def NilOr (v : Value) : Prop := v = .slice none 0 0 ∨ ∃ ad n c, v = .slice (some ad) n c
theorem Masks.news {w : World} {ad : Addr} {n cap : Nat} {l : List M} (h : Masks w (.slice (some ad) n cap) l) (k : Nat) {w' : World} (hb : Below w.heap.size w w') :
    ∀ j u, (cellsM (l.take k))[j]? = some u → w'.cell? (ad.add j) = some u := by
  intro j u hu
  obtain ⟨a, cap', hv, _, _, hc⟩ := h.form
  have hpre : (cellsM l)[j]? = some u := by
    have e : cellsM l = cellsM (l.take k) ++ cellsM (l.drop k) := by unfold cellsM; rw [← List.flatMap_append, List.take_append_drop]
    rw [e, List.getElem?_append_left (List.getElem?_eq_some_iff.1 hu).1]; exact hu
  obtain ⟨hj, he⟩ := List.getElem?_eq_some_iff.1 hpre
  obtain ⟨b, off, ha, hlt, hcell⟩ := hc (by intro e; rw [e] at hj; simp at hj)
  simp only [Value.slice.injEq] at hv
  rw [← hv.1] at ha
  obtain rfl : ad = ⟨b, off, none⟩ := by simpa using ha
  have e : (⟨b, off, none⟩ : Addr).add j = ⟨b, off + j, none⟩ := by unfold Addr.add; split <;> simp_all
  rw [e, hb.cell (p := ⟨b, off + j, none⟩) hlt, hcell j hj, he]
theorem cellsM_one (l : List M) : ∀ u ∈ cellsM l, u.oneCell' = true := by
  intro u hu
  unfold cellsM at hu
  obtain ⟨m, _, hm⟩ := List.mem_flatMap.1 hu
  simp at hm
  rcases hm with rfl | rfl <;> rfl
theorem Masks.of_owns {w : World} {B n : Nat} {v : Value} {l : List M} (h : w.ownsRow B 27 2 v n (cellsM l)) : Masks w v l := by
  have hn : l.length = n := by have := h.1; rw [cellsM_length] at this; omega
  subst hn
  rcases h.2 with ⟨rfl, h0⟩ | ⟨g, cap, cur, rfl, hB, hg, hl, hm, hs, hx⟩
  · have := List.eq_nil_of_length_eq_zero h0
    subst this
    exact Sl.nilS w
  · have hlt : g < w.heap.size := (Array.getElem?_eq_some_iff.1 hg).1
    have hm' : cap ≤ 9223372036854775807 := by unfold maxLen at hm; omega
    refine Sl.of_cells hlt hl hm' fun i hi => ?_
    have := h.cells (g := g) rfl i _ (List.getElem?_eq_getElem hi)
    have e : (⟨g, 0, none⟩ : Addr).add i = ⟨g, i, none⟩ := by unfold Addr.add; split <;> simp_all
    rw [e] at this
    exact this

theorem not_law (y1 y2 : BitVec 64) : ofAll (minusL ((andAll []).1, (andAll []).2) (y1, y2) 96) = (ones &&& ~~~ y1, low32 &&& ~~~ y2) := by
  have := set_not (y1, y2)
  rw [set_and] at this
  exact this

set_option maxHeartbeats 4000000 in
theorem f_MaskSets (v : Value) (l : List M) (w : World) (h : Masks w v l) (hv : NilOr v) : Calls Try.prog 4 #[v] w fun e w' => e = .returned (.bool true) ∧ Below w.heap.size w w' := by
  obtain ⟨a, cap, rfl, hl, hm, hcell⟩ := h.open
  have Hc := Lib.hid h
  clear hcell h
  obtain ⟨i0, hi, hz0, hz1, hz2⟩ := info_parts info_mask
  rcases hv with hv | ⟨ad, n, c, hv⟩
  · simp only [Value.slice.injEq] at hv
    obtain ⟨rfl, h0, rfl⟩ := hv
    have : l = [] := List.eq_nil_of_length_eq_zero h0
    subst this
    clear h0
    go_enter Try.func4, Try.ntmps4
    go_wp2_with fail
    refine (f_wakes _).mono ?_
    rintro e w1 ⟨rfl, hb1⟩
    go_wp2_with (at_builtin; refine wpList_append_own_none rfl _ _ 34 rfl w1.heap.size 27 i0 2 Try.underlying34 hi _ _ _ rfl (World.ownsRow_made w1 #[] 0 (Nat.le_refl _) (by decide) rfl) rfl ?_)
    have hM : Masks (w1.alloc (.cells #[] 27)) (.slice (some ⟨w1.heap.size, 0, none⟩) 0 0) [] := Masks.of_owns (World.ownsRow_made w1 #[] 0 (Nat.le_refl _) (by decide) rfl)
    have hB2 : Below w.heap.size w (w1.alloc (.cells #[] 27)) := by ((have shb1 := hb1.size); (try simp at shb1); (repeat' (first | (with_reducible exact Below.refl _ _) | (with_reducible refine Below.setCell ?_ ?_ _) | (with_reducible refine Below.alloc ?_ ?_ _) | (with_reducible refine Below.drew ?_) | (with_reducible refine Below.trans ?_ (Below.mono hb1 ?_)) | go_size)))
    generalize w1.alloc (.cells #[] 27) = w2 at *
    generalize (Value.slice (some ⟨w1.heap.size, 0, none⟩) 0 0) = v' at *
    obtain ⟨L, hL⟩ : ∃ L, ([] : List M) = L := ⟨_, rfl⟩
    rw [hL] at hM
    clear hL
    have HM := Lib.hid hM
    obtain ⟨a', cap', rfl, hl', hm', hcell'⟩ := hM.open
    have Hcell := Lib.hid hcell'
    clear hM hcell'
    have E1 := Lib.hid (set_and L)
    have E2 := Lib.hid (set_or L)
    have E3 := Lib.hid (fun x y => set_minus x y)
    have E4 := Lib.hid not_law
    refine (f_And _ L _ HM.out).mono ?_
    rintro e w3 ⟨rfl, hb3⟩
    go_wp2_with fail
    refine (r_And _ L _ (HM.out.grown hb3)).mono ?_
    rintro e w4 ⟨rfl, hb4⟩
    rw [E1.out]
    go_wp2_with fail
    refine (f_Or _ L _ (HM.out.grown (show Below w2.heap.size w2 w4 by ((have shb4 := hb4.size); (try simp at shb4); (have shb3 := hb3.size); (try simp at shb3); (repeat' (first | (with_reducible exact Below.refl _ _) | (with_reducible refine Below.setCell ?_ ?_ _) | (with_reducible refine Below.alloc ?_ ?_ _) | (with_reducible refine Below.drew ?_) | (with_reducible refine Below.trans ?_ (Below.mono hb4 ?_)) | (with_reducible refine Below.trans ?_ (Below.mono hb3 ?_)) | go_size)))))).mono ?_
    rintro e w5 ⟨rfl, hb5⟩
    go_wp2_with fail
    refine (r_Or _ L _ (HM.out.grown (show Below w2.heap.size w2 w5 by ((have shb5 := hb5.size); (try simp at shb5); (have shb4 := hb4.size); (try simp at shb4); (have shb3 := hb3.size); (try simp at shb3); (repeat' (first | (with_reducible exact Below.refl _ _) | (with_reducible refine Below.setCell ?_ ?_ _) | (with_reducible refine Below.alloc ?_ ?_ _) | (with_reducible refine Below.drew ?_) | (with_reducible refine Below.trans ?_ (Below.mono hb5 ?_)) | (with_reducible refine Below.trans ?_ (Below.mono hb4 ?_)) | (with_reducible refine Below.trans ?_ (Below.mono hb3 ?_)) | go_size)))))).mono ?_
    rintro e w6 ⟨rfl, hb6⟩
    rw [E2.out]
    have hB6 : Below w2.heap.size w2 w6 := by ((have shb6 := hb6.size); (try simp at shb6); (have shb5 := hb5.size); (try simp at shb5); (have shb4 := hb4.size); (try simp at shb4); (have shb3 := hb3.size); (try simp at shb3); (repeat' (first | (with_reducible exact Below.refl _ _) | (with_reducible refine Below.setCell ?_ ?_ _) | (with_reducible refine Below.alloc ?_ ?_ _) | (with_reducible refine Below.drew ?_) | (with_reducible refine Below.trans ?_ (Below.mono hb6 ?_)) | (with_reducible refine Below.trans ?_ (Below.mono hb5 ?_)) | (with_reducible refine Below.trans ?_ (Below.mono hb4 ?_)) | (with_reducible refine Below.trans ?_ (Below.mono hb3 ?_)) | go_size)))
    go_wp2
    go_loopw [28] (fun i wr => ∃ k : Nat, k ≤ L.length ∧ i = .int .i64 k ∧ Below w2.heap.size w2 wr) (fun i _ => L.length - (intOf i).toNat)
    case atStart => exact ⟨0, Nat.zero_le _, rfl, hB6⟩
    case round =>
      obtain ⟨k, hk, rfl, hBr⟩ := hrel
      have hsz := hBr.size
      by_cases hlt2 : k < L.length
      · have G := Hcell.out k hlt2
        have G0 : ∃ y : M, ∃ b off, a' = some ⟨b, off, none⟩ ∧ b < w2.heap.size ∧ w2.cell? ⟨b, off + 0 * 2, none⟩ = some (.int .u64 (U y.1)) ∧ w2.cell? ⟨b, off + 0 * 2 + 1, none⟩ = some (.int .u64 (U y.2)) := ⟨_, Hcell.out 0 (by omega)⟩
        obtain ⟨⟨y1, y2⟩, b, off, rfl, hlt, g1, g2⟩ : ∃ y : M, ∃ b off, a' = some ⟨b, off, none⟩ ∧ b < w2.heap.size ∧ w2.cell? ⟨b, off + k * 2, none⟩ = some (.int .u64 (U y.1)) ∧ w2.cell? ⟨b, off + k * 2 + 1, none⟩ = some (.int .u64 (U y.2)) := ⟨_, Hcell.out k hlt2⟩
        obtain ⟨⟨x1, x2⟩, b', off', hbo, -, g3, g4⟩ := G0
        simp only [Option.some.injEq, Addr.mk.injEq, and_true] at hbo
        obtain ⟨rfl, rfl⟩ := hbo
        have e1 := (hBr.cell (p := ⟨b, off + k * 2, none⟩) hlt).trans g1
        have e2 := (hBr.cell (p := ⟨b, off + k * 2 + 1, none⟩) hlt).trans g2
        have e3 := (hBr.cell (p := ⟨b, off + 0 * 2, none⟩) hlt).trans g3
        have e4 := (hBr.cell (p := ⟨b, off + 0 * 2 + 1, none⟩) hlt).trans g4
        simp only [Nat.zero_mul, Nat.add_zero] at e3 e4
        have hbw : b < wr.heap.size := by omega
        have hpos : 0 < L.length := by omega
        clear g1 g2 g3 g4
        go_wp2
        refine wp_grow [(4, .val (MV (mAnd (mMinus (x1, x2) (y1, y2)) mAll).1 (mAnd (mMinus (x1, x2) (y1, y2)) mAll).2)), (9, .val (MV (mAnd (mMinus (x1, x2) (y1, y2)) mAll).1 (mAnd (mMinus (x1, x2) (y1, y2)) mAll).2)), (13, .val (MV (ones &&& ~~~ y1) (low32 &&& ~~~ y2))), (14, .val (MV (andAll []).1 (andAll []).2)), (16, .val (MV (ones &&& ~~~ y1) (low32 &&& ~~~ y2)))] 19 (by kernel_rfl) (by kernel_rfl) (by rfl) (by rfl) ?_
        simp only [List.take_succ_cons, List.take_zero, List.drop_succ_cons, List.drop_zero]
        repeat (first
          | (apply Der.quiet; (rfl); (rfl); (intro w' hw' hctx; have hc' := bcell hw'; have ywr0 := fun o => hw'.cell (p := ⟨wr.heap.size, o, none⟩) (by first | omega | (simp; done) | (simp; omega)); have yb := fun o => hw'.cell (p := ⟨b, o, none⟩) (by simp; omega); clear hctx; go_simp; first | exact rfl | exact ⟨rfl, rfl⟩); simp only [Act.put, List.setIfInBounds_toArray, List.set_cons_succ, List.set_cons_zero, Nat.reduceAdd])
          | (apply Der.skip; (rfl); simp only [Act.put, List.setIfInBounds_toArray, List.set_cons_succ, List.set_cons_zero, Nat.reduceAdd]))
        apply Der.val
        · rfl
        · rfl
        · (intro w' hw' hctx; go_simp; refine (f_Minus _ _ _ _ _).mono ?_; rintro e w2 ⟨rfl, hb⟩; exact ⟨_, rfl, rfl, hb⟩)
        simp only [Act.put, List.setIfInBounds_toArray, List.set_cons_succ, List.set_cons_zero, Nat.reduceAdd]
        repeat (first
          | (apply Der.quiet; (rfl); (rfl); (intro w' hw' hctx; have hc' := bcell hw'; have ywr0 := fun o => hw'.cell (p := ⟨wr.heap.size, o, none⟩) (by first | omega | (simp; done) | (simp; omega)); have yb := fun o => hw'.cell (p := ⟨b, o, none⟩) (by simp; omega); clear hctx; go_simp; first | exact rfl | exact ⟨rfl, rfl⟩); simp only [Act.put, List.setIfInBounds_toArray, List.set_cons_succ, List.set_cons_zero, Nat.reduceAdd])
          | (apply Der.skip; (rfl); simp only [Act.put, List.setIfInBounds_toArray, List.set_cons_succ, List.set_cons_zero, Nat.reduceAdd]))
        apply Der.val
        · rfl
        · rfl
        · (intro w' hw' hctx; go_simp; refine (r_Minus _ _ _ _ _).mono ?_; rintro e w2 ⟨rfl, hb⟩; exact ⟨_, rfl, by rw [E3.out], hb⟩)
        simp only [Act.put, List.setIfInBounds_toArray, List.set_cons_succ, List.set_cons_zero, Nat.reduceAdd]
        repeat (first
          | (apply Der.quiet; (rfl); (rfl); (intro w' hw' hctx; have hc' := bcell hw'; have ywr0 := fun o => hw'.cell (p := ⟨wr.heap.size, o, none⟩) (by first | omega | (simp; done) | (simp; omega)); have yb := fun o => hw'.cell (p := ⟨b, o, none⟩) (by simp; omega); clear hctx; go_simp; first | exact rfl | exact ⟨rfl, rfl⟩); simp only [Act.put, List.setIfInBounds_toArray, List.set_cons_succ, List.set_cons_zero, Nat.reduceAdd])
          | (apply Der.skip; (rfl); simp only [Act.put, List.setIfInBounds_toArray, List.set_cons_succ, List.set_cons_zero, Nat.reduceAdd]))
        apply Der.val
        · rfl
        · rfl
        · (intro w' hw' hctx; go_simp; refine (f_Not _ _ _).mono ?_; rintro e w2 ⟨rfl, hb⟩; exact ⟨_, rfl, rfl, hb⟩)
        simp only [Act.put, List.setIfInBounds_toArray, List.set_cons_succ, List.set_cons_zero, Nat.reduceAdd]
        apply Der.val
        · rfl
        · rfl
        · (intro w' hw' hctx; go_simp; refine (r_And _ [] _ (Sl.nilS _)).mono ?_; rintro e w2 ⟨rfl, hb⟩; exact ⟨_, rfl, by rw [set_and], hb⟩)
        simp only [Act.put, List.setIfInBounds_toArray, List.set_cons_succ, List.set_cons_zero, Nat.reduceAdd]
        repeat (first
          | (apply Der.quiet; (rfl); (rfl); (intro w' hw' hctx; have hc' := bcell hw'; have ywr0 := fun o => hw'.cell (p := ⟨wr.heap.size, o, none⟩) (by first | omega | (simp; done) | (simp; omega)); clear hctx; go_simp; first | exact rfl | exact ⟨rfl, rfl⟩); simp only [Act.put, List.setIfInBounds_toArray, List.set_cons_succ, List.set_cons_zero, Nat.reduceAdd])
          | (apply Der.skip; (rfl); simp only [Act.put, List.setIfInBounds_toArray, List.set_cons_succ, List.set_cons_zero, Nat.reduceAdd]))
        apply Der.val
        · rfl
        · rfl
        · (intro w' hw' hctx; go_simp; refine (r_Minus _ _ _ _ _).mono ?_; rintro e w2 ⟨rfl, hb⟩; exact ⟨_, rfl, by rw [E4.out], hb⟩)
        simp only [Act.put, List.setIfInBounds_toArray, List.set_cons_succ, List.set_cons_zero, Nat.reduceAdd]
        repeat (first
          | (apply Der.quiet; (rfl); (rfl); (intro w' hw' hctx; have hc' := bcell hw'; have ywr0 := fun o => hw'.cell (p := ⟨wr.heap.size, o, none⟩) (by first | omega | (simp; done) | (simp; omega)); clear hctx; go_simp; first | exact rfl | exact ⟨rfl, rfl⟩); simp only [Act.put, List.setIfInBounds_toArray, List.set_cons_succ, List.set_cons_zero, Nat.reduceAdd])
          | (apply Der.skip; (rfl); simp only [Act.put, List.setIfInBounds_toArray, List.set_cons_succ, List.set_cons_zero, Nat.reduceAdd]))
        refine Der.nil (fun w7 hgw7 hctx => ?_)
        clear hctx
        have hb7 : Below _ _ w7 := hgw7
        clear hgw7
        go_wp2
        go_roundw
        case rel => exact ⟨k + 1, by omega, by go_num, by ((have shb7 := hb7.size); (try simp at shb7); (have shBr := hBr.size); (try simp at shBr); (repeat' (first | (with_reducible exact Below.refl _ _) | (with_reducible refine Below.setCell ?_ ?_ _) | (with_reducible refine Below.alloc ?_ ?_ _) | (with_reducible refine Below.drew ?_) | (with_reducible refine Below.trans ?_ (Below.mono hb7 ?_)) | (with_reducible refine Below.trans ?_ (Below.mono hBr ?_)) | go_size)))⟩
        case measure => simp [intOf]; omega
      · have : k = L.length := by omega
        subst this
        go_wp2
        go_ret
        exact ⟨rfl, by ((have shBr := hBr.size); (try simp at shBr); (have shB2 := hB2.size); (try simp at shB2); (repeat' (first | (with_reducible exact Below.refl _ _) | (with_reducible refine Below.setCell ?_ ?_ _) | (with_reducible refine Below.alloc ?_ ?_ _) | (with_reducible refine Below.drew ?_) | (with_reducible refine Below.trans ?_ (Below.mono hBr ?_)) | (with_reducible refine Below.trans ?_ (Below.mono hB2 ?_)) | go_size)))⟩
  · simp only [Value.slice.injEq] at hv
    obtain ⟨rfl, rfl, rfl⟩ := hv
    go_enter Try.func4, Try.ntmps4
    go_wp2_with fail
    refine (f_wakes _).mono ?_
    rintro e w1 ⟨rfl, hb1⟩
    by_cases h8 : l.length ≤ 8
    · go_wp2_with (at_builtin; refine wpList_append_own _ rfl _ _ 34 rfl w1.heap.size 27 i0 (.agg #[.int .u64 0, .int .u64 0]) 2 16 Try.underlying34 hi hz0 hz1 hz2 rfl (by decide) _ _ _ rfl (World.ownsRow_made w1 #[] 0 (Nat.le_refl _) (by decide) rfl) ad l.length cap (cellsM (l.take 8)) rfl (by rw [cellsM_length, List.length_take]; omega) (Hc.out.news 8 (hb1.alloc hb1.size _)) (cellsM_one _) (by unfold maxLen; omega) (by omega) (by simp) ?_; intro v' w2 hown' hgrow _)
      have hM : Masks w2 v' (l.take 8) := Masks.of_owns (by simpa using hown')
      have hB2 : Below w.heap.size w w2 := (show Below w.heap.size w (w1.alloc _) by ((have shb1 := hb1.size); (try simp at shb1); (repeat' (first | (with_reducible exact Below.refl _ _) | (with_reducible refine Below.setCell ?_ ?_ _) | (with_reducible refine Below.alloc ?_ ?_ _) | (with_reducible refine Below.drew ?_) | (with_reducible refine Below.trans ?_ (Below.mono hb1 ?_)) | go_size)))).grown hgrow (by have := hb1.size; simp; omega) (fun q hq => by have e : w1.heap.size = q := Option.some.inj hq; have := hb1.size; omega)
      clear hown' hgrow
      obtain ⟨L, hL⟩ : ∃ L, l.take 8 = L := ⟨_, rfl⟩
      rw [hL] at hM
      clear hL
      have HM := Lib.hid hM
      obtain ⟨a', cap', rfl, hl', hm', hcell'⟩ := hM.open
      have Hcell := Lib.hid hcell'
      clear hM hcell'
      have E1 := Lib.hid (set_and L)
      have E2 := Lib.hid (set_or L)
      have E3 := Lib.hid (fun x y => set_minus x y)
      have E4 := Lib.hid not_law
      refine (f_And _ L _ HM.out).mono ?_
      rintro e w3 ⟨rfl, hb3⟩
      go_wp2_with fail
      refine (r_And _ L _ (HM.out.grown hb3)).mono ?_
      rintro e w4 ⟨rfl, hb4⟩
      rw [E1.out]
      go_wp2_with fail
      refine (f_Or _ L _ (HM.out.grown (show Below w2.heap.size w2 w4 by ((have shb4 := hb4.size); (try simp at shb4); (have shb3 := hb3.size); (try simp at shb3); (repeat' (first | (with_reducible exact Below.refl _ _) | (with_reducible refine Below.setCell ?_ ?_ _) | (with_reducible refine Below.alloc ?_ ?_ _) | (with_reducible refine Below.drew ?_) | (with_reducible refine Below.trans ?_ (Below.mono hb4 ?_)) | (with_reducible refine Below.trans ?_ (Below.mono hb3 ?_)) | go_size)))))).mono ?_
      rintro e w5 ⟨rfl, hb5⟩
      go_wp2_with fail
      refine (r_Or _ L _ (HM.out.grown (show Below w2.heap.size w2 w5 by ((have shb5 := hb5.size); (try simp at shb5); (have shb4 := hb4.size); (try simp at shb4); (have shb3 := hb3.size); (try simp at shb3); (repeat' (first | (with_reducible exact Below.refl _ _) | (with_reducible refine Below.setCell ?_ ?_ _) | (with_reducible refine Below.alloc ?_ ?_ _) | (with_reducible refine Below.drew ?_) | (with_reducible refine Below.trans ?_ (Below.mono hb5 ?_)) | (with_reducible refine Below.trans ?_ (Below.mono hb4 ?_)) | (with_reducible refine Below.trans ?_ (Below.mono hb3 ?_)) | go_size)))))).mono ?_
      rintro e w6 ⟨rfl, hb6⟩
      rw [E2.out]
      have hB6 : Below w2.heap.size w2 w6 := by ((have shb6 := hb6.size); (try simp at shb6); (have shb5 := hb5.size); (try simp at shb5); (have shb4 := hb4.size); (try simp at shb4); (have shb3 := hb3.size); (try simp at shb3); (repeat' (first | (with_reducible exact Below.refl _ _) | (with_reducible refine Below.setCell ?_ ?_ _) | (with_reducible refine Below.alloc ?_ ?_ _) | (with_reducible refine Below.drew ?_) | (with_reducible refine Below.trans ?_ (Below.mono hb6 ?_)) | (with_reducible refine Below.trans ?_ (Below.mono hb5 ?_)) | (with_reducible refine Below.trans ?_ (Below.mono hb4 ?_)) | (with_reducible refine Below.trans ?_ (Below.mono hb3 ?_)) | go_size)))
      go_wp2
      go_loopw [28] (fun i wr => ∃ k : Nat, k ≤ L.length ∧ i = .int .i64 k ∧ Below w2.heap.size w2 wr) (fun i _ => L.length - (intOf i).toNat)
      case atStart => exact ⟨0, Nat.zero_le _, rfl, hB6⟩
      case round =>
        obtain ⟨k, hk, rfl, hBr⟩ := hrel
        have hsz := hBr.size
        by_cases hlt2 : k < L.length
        · have G := Hcell.out k hlt2
          have G0 : ∃ y : M, ∃ b off, a' = some ⟨b, off, none⟩ ∧ b < w2.heap.size ∧ w2.cell? ⟨b, off + 0 * 2, none⟩ = some (.int .u64 (U y.1)) ∧ w2.cell? ⟨b, off + 0 * 2 + 1, none⟩ = some (.int .u64 (U y.2)) := ⟨_, Hcell.out 0 (by omega)⟩
          obtain ⟨⟨y1, y2⟩, b, off, rfl, hlt, g1, g2⟩ : ∃ y : M, ∃ b off, a' = some ⟨b, off, none⟩ ∧ b < w2.heap.size ∧ w2.cell? ⟨b, off + k * 2, none⟩ = some (.int .u64 (U y.1)) ∧ w2.cell? ⟨b, off + k * 2 + 1, none⟩ = some (.int .u64 (U y.2)) := ⟨_, Hcell.out k hlt2⟩
          obtain ⟨⟨x1, x2⟩, b', off', hbo, -, g3, g4⟩ := G0
          simp only [Option.some.injEq, Addr.mk.injEq, and_true] at hbo
          obtain ⟨rfl, rfl⟩ := hbo
          have e1 := (hBr.cell (p := ⟨b, off + k * 2, none⟩) hlt).trans g1
          have e2 := (hBr.cell (p := ⟨b, off + k * 2 + 1, none⟩) hlt).trans g2
          have e3 := (hBr.cell (p := ⟨b, off + 0 * 2, none⟩) hlt).trans g3
          have e4 := (hBr.cell (p := ⟨b, off + 0 * 2 + 1, none⟩) hlt).trans g4
          simp only [Nat.zero_mul, Nat.add_zero] at e3 e4
          have hbw : b < wr.heap.size := by omega
          have hpos : 0 < L.length := by omega
          clear g1 g2 g3 g4
          go_wp2
          refine wp_grow [(4, .val (MV (mAnd (mMinus (x1, x2) (y1, y2)) mAll).1 (mAnd (mMinus (x1, x2) (y1, y2)) mAll).2)), (9, .val (MV (mAnd (mMinus (x1, x2) (y1, y2)) mAll).1 (mAnd (mMinus (x1, x2) (y1, y2)) mAll).2)), (13, .val (MV (ones &&& ~~~ y1) (low32 &&& ~~~ y2))), (14, .val (MV (andAll []).1 (andAll []).2)), (16, .val (MV (ones &&& ~~~ y1) (low32 &&& ~~~ y2)))] 19 (by kernel_rfl) (by kernel_rfl) (by rfl) (by rfl) ?_
          simp only [List.take_succ_cons, List.take_zero, List.drop_succ_cons, List.drop_zero]
          repeat (first
            | (apply Der.quiet; (rfl); (rfl); (intro w' hw' hctx; have hc' := bcell hw'; have ywr0 := fun o => hw'.cell (p := ⟨wr.heap.size, o, none⟩) (by first | omega | (simp; done) | (simp; omega)); have yb := fun o => hw'.cell (p := ⟨b, o, none⟩) (by simp; omega); clear hctx; go_simp; first | exact rfl | exact ⟨rfl, rfl⟩); simp only [Act.put, List.setIfInBounds_toArray, List.set_cons_succ, List.set_cons_zero, Nat.reduceAdd])
            | (apply Der.skip; (rfl); simp only [Act.put, List.setIfInBounds_toArray, List.set_cons_succ, List.set_cons_zero, Nat.reduceAdd]))
          apply Der.val
          · rfl
          · rfl
          · (intro w' hw' hctx; go_simp; refine (f_Minus _ _ _ _ _).mono ?_; rintro e w2 ⟨rfl, hb⟩; exact ⟨_, rfl, rfl, hb⟩)
          simp only [Act.put, List.setIfInBounds_toArray, List.set_cons_succ, List.set_cons_zero, Nat.reduceAdd]
          repeat (first
            | (apply Der.quiet; (rfl); (rfl); (intro w' hw' hctx; have hc' := bcell hw'; have ywr0 := fun o => hw'.cell (p := ⟨wr.heap.size, o, none⟩) (by first | omega | (simp; done) | (simp; omega)); have yb := fun o => hw'.cell (p := ⟨b, o, none⟩) (by simp; omega); clear hctx; go_simp; first | exact rfl | exact ⟨rfl, rfl⟩); simp only [Act.put, List.setIfInBounds_toArray, List.set_cons_succ, List.set_cons_zero, Nat.reduceAdd])
            | (apply Der.skip; (rfl); simp only [Act.put, List.setIfInBounds_toArray, List.set_cons_succ, List.set_cons_zero, Nat.reduceAdd]))
          apply Der.val
          · rfl
          · rfl
          · (intro w' hw' hctx; go_simp; refine (r_Minus _ _ _ _ _).mono ?_; rintro e w2 ⟨rfl, hb⟩; exact ⟨_, rfl, by rw [E3.out], hb⟩)
          simp only [Act.put, List.setIfInBounds_toArray, List.set_cons_succ, List.set_cons_zero, Nat.reduceAdd]
          repeat (first
            | (apply Der.quiet; (rfl); (rfl); (intro w' hw' hctx; have hc' := bcell hw'; have ywr0 := fun o => hw'.cell (p := ⟨wr.heap.size, o, none⟩) (by first | omega | (simp; done) | (simp; omega)); have yb := fun o => hw'.cell (p := ⟨b, o, none⟩) (by simp; omega); clear hctx; go_simp; first | exact rfl | exact ⟨rfl, rfl⟩); simp only [Act.put, List.setIfInBounds_toArray, List.set_cons_succ, List.set_cons_zero, Nat.reduceAdd])
            | (apply Der.skip; (rfl); simp only [Act.put, List.setIfInBounds_toArray, List.set_cons_succ, List.set_cons_zero, Nat.reduceAdd]))
          apply Der.val
          · rfl
          · rfl
          · (intro w' hw' hctx; go_simp; refine (f_Not _ _ _).mono ?_; rintro e w2 ⟨rfl, hb⟩; exact ⟨_, rfl, rfl, hb⟩)
          simp only [Act.put, List.setIfInBounds_toArray, List.set_cons_succ, List.set_cons_zero, Nat.reduceAdd]
          apply Der.val
          · rfl
          · rfl
          · (intro w' hw' hctx; go_simp; refine (r_And _ [] _ (Sl.nilS _)).mono ?_; rintro e w2 ⟨rfl, hb⟩; exact ⟨_, rfl, by rw [set_and], hb⟩)
          simp only [Act.put, List.setIfInBounds_toArray, List.set_cons_succ, List.set_cons_zero, Nat.reduceAdd]
          repeat (first
            | (apply Der.quiet; (rfl); (rfl); (intro w' hw' hctx; have hc' := bcell hw'; have ywr0 := fun o => hw'.cell (p := ⟨wr.heap.size, o, none⟩) (by first | omega | (simp; done) | (simp; omega)); clear hctx; go_simp; first | exact rfl | exact ⟨rfl, rfl⟩); simp only [Act.put, List.setIfInBounds_toArray, List.set_cons_succ, List.set_cons_zero, Nat.reduceAdd])
            | (apply Der.skip; (rfl); simp only [Act.put, List.setIfInBounds_toArray, List.set_cons_succ, List.set_cons_zero, Nat.reduceAdd]))
          apply Der.val
          · rfl
          · rfl
          · (intro w' hw' hctx; go_simp; refine (r_Minus _ _ _ _ _).mono ?_; rintro e w2 ⟨rfl, hb⟩; exact ⟨_, rfl, by rw [E4.out], hb⟩)
          simp only [Act.put, List.setIfInBounds_toArray, List.set_cons_succ, List.set_cons_zero, Nat.reduceAdd]
          repeat (first
            | (apply Der.quiet; (rfl); (rfl); (intro w' hw' hctx; have hc' := bcell hw'; have ywr0 := fun o => hw'.cell (p := ⟨wr.heap.size, o, none⟩) (by first | omega | (simp; done) | (simp; omega)); clear hctx; go_simp; first | exact rfl | exact ⟨rfl, rfl⟩); simp only [Act.put, List.setIfInBounds_toArray, List.set_cons_succ, List.set_cons_zero, Nat.reduceAdd])
            | (apply Der.skip; (rfl); simp only [Act.put, List.setIfInBounds_toArray, List.set_cons_succ, List.set_cons_zero, Nat.reduceAdd]))
          refine Der.nil (fun w7 hgw7 hctx => ?_)
          clear hctx
          have hb7 : Below _ _ w7 := hgw7
          clear hgw7
          go_wp2
          go_roundw
          case rel => exact ⟨k + 1, by omega, by go_num, by ((have shb7 := hb7.size); (try simp at shb7); (have shBr := hBr.size); (try simp at shBr); (repeat' (first | (with_reducible exact Below.refl _ _) | (with_reducible refine Below.setCell ?_ ?_ _) | (with_reducible refine Below.alloc ?_ ?_ _) | (with_reducible refine Below.drew ?_) | (with_reducible refine Below.trans ?_ (Below.mono hb7 ?_)) | (with_reducible refine Below.trans ?_ (Below.mono hBr ?_)) | go_size)))⟩
          case measure => simp [intOf]; omega
        · have : k = L.length := by omega
          subst this
          go_wp2
          go_ret
          exact ⟨rfl, by ((have shBr := hBr.size); (try simp at shBr); (have shB2 := hB2.size); (try simp at shB2); (repeat' (first | (with_reducible exact Below.refl _ _) | (with_reducible refine Below.setCell ?_ ?_ _) | (with_reducible refine Below.alloc ?_ ?_ _) | (with_reducible refine Below.drew ?_) | (with_reducible refine Below.trans ?_ (Below.mono hBr ?_)) | (with_reducible refine Below.trans ?_ (Below.mono hB2 ?_)) | go_size)))⟩
    · go_wp2_with (at_builtin; refine wpList_append_own _ rfl _ _ 34 rfl w1.heap.size 27 i0 (.agg #[.int .u64 0, .int .u64 0]) 2 16 Try.underlying34 hi hz0 hz1 hz2 rfl (by decide) _ _ _ rfl (World.ownsRow_made w1 #[] 0 (Nat.le_refl _) (by decide) rfl) ad 8 cap (cellsM (l.take 8)) rfl (by rw [cellsM_length, List.length_take]; omega) (Hc.out.news 8 (hb1.alloc hb1.size _)) (cellsM_one _) (by unfold maxLen; omega) (by omega) (by simp) ?_; intro v' w2 hown' hgrow _)
      have hM : Masks w2 v' (l.take 8) := Masks.of_owns (by simpa using hown')
      have hB2 : Below w.heap.size w w2 := (show Below w.heap.size w (w1.alloc _) by ((have shb1 := hb1.size); (try simp at shb1); (repeat' (first | (with_reducible exact Below.refl _ _) | (with_reducible refine Below.setCell ?_ ?_ _) | (with_reducible refine Below.alloc ?_ ?_ _) | (with_reducible refine Below.drew ?_) | (with_reducible refine Below.trans ?_ (Below.mono hb1 ?_)) | go_size)))).grown hgrow (by have := hb1.size; simp; omega) (fun q hq => by have e : w1.heap.size = q := Option.some.inj hq; have := hb1.size; omega)
      clear hown' hgrow
      obtain ⟨L, hL⟩ : ∃ L, l.take 8 = L := ⟨_, rfl⟩
      rw [hL] at hM
      clear hL
      have HM := Lib.hid hM
      obtain ⟨a', cap', rfl, hl', hm', hcell'⟩ := hM.open
      have Hcell := Lib.hid hcell'
      clear hM hcell'
      have E1 := Lib.hid (set_and L)
      have E2 := Lib.hid (set_or L)
      have E3 := Lib.hid (fun x y => set_minus x y)
      have E4 := Lib.hid not_law
      refine (f_And _ L _ HM.out).mono ?_
      rintro e w3 ⟨rfl, hb3⟩
      go_wp2_with fail
      refine (r_And _ L _ (HM.out.grown hb3)).mono ?_
      rintro e w4 ⟨rfl, hb4⟩
      rw [E1.out]
      go_wp2_with fail
      refine (f_Or _ L _ (HM.out.grown (show Below w2.heap.size w2 w4 by ((have shb4 := hb4.size); (try simp at shb4); (have shb3 := hb3.size); (try simp at shb3); (repeat' (first | (with_reducible exact Below.refl _ _) | (with_reducible refine Below.setCell ?_ ?_ _) | (with_reducible refine Below.alloc ?_ ?_ _) | (with_reducible refine Below.drew ?_) | (with_reducible refine Below.trans ?_ (Below.mono hb4 ?_)) | (with_reducible refine Below.trans ?_ (Below.mono hb3 ?_)) | go_size)))))).mono ?_
      rintro e w5 ⟨rfl, hb5⟩
      go_wp2_with fail
      refine (r_Or _ L _ (HM.out.grown (show Below w2.heap.size w2 w5 by ((have shb5 := hb5.size); (try simp at shb5); (have shb4 := hb4.size); (try simp at shb4); (have shb3 := hb3.size); (try simp at shb3); (repeat' (first | (with_reducible exact Below.refl _ _) | (with_reducible refine Below.setCell ?_ ?_ _) | (with_reducible refine Below.alloc ?_ ?_ _) | (with_reducible refine Below.drew ?_) | (with_reducible refine Below.trans ?_ (Below.mono hb5 ?_)) | (with_reducible refine Below.trans ?_ (Below.mono hb4 ?_)) | (with_reducible refine Below.trans ?_ (Below.mono hb3 ?_)) | go_size)))))).mono ?_
      rintro e w6 ⟨rfl, hb6⟩
      rw [E2.out]
      have hB6 : Below w2.heap.size w2 w6 := by ((have shb6 := hb6.size); (try simp at shb6); (have shb5 := hb5.size); (try simp at shb5); (have shb4 := hb4.size); (try simp at shb4); (have shb3 := hb3.size); (try simp at shb3); (repeat' (first | (with_reducible exact Below.refl _ _) | (with_reducible refine Below.setCell ?_ ?_ _) | (with_reducible refine Below.alloc ?_ ?_ _) | (with_reducible refine Below.drew ?_) | (with_reducible refine Below.trans ?_ (Below.mono hb6 ?_)) | (with_reducible refine Below.trans ?_ (Below.mono hb5 ?_)) | (with_reducible refine Below.trans ?_ (Below.mono hb4 ?_)) | (with_reducible refine Below.trans ?_ (Below.mono hb3 ?_)) | go_size)))
      go_wp2
      go_loopw [28] (fun i wr => ∃ k : Nat, k ≤ L.length ∧ i = .int .i64 k ∧ Below w2.heap.size w2 wr) (fun i _ => L.length - (intOf i).toNat)
      case atStart => exact ⟨0, Nat.zero_le _, rfl, hB6⟩
      case round =>
        obtain ⟨k, hk, rfl, hBr⟩ := hrel
        have hsz := hBr.size
        by_cases hlt2 : k < L.length
        · have G := Hcell.out k hlt2
          have G0 : ∃ y : M, ∃ b off, a' = some ⟨b, off, none⟩ ∧ b < w2.heap.size ∧ w2.cell? ⟨b, off + 0 * 2, none⟩ = some (.int .u64 (U y.1)) ∧ w2.cell? ⟨b, off + 0 * 2 + 1, none⟩ = some (.int .u64 (U y.2)) := ⟨_, Hcell.out 0 (by omega)⟩
          obtain ⟨⟨y1, y2⟩, b, off, rfl, hlt, g1, g2⟩ : ∃ y : M, ∃ b off, a' = some ⟨b, off, none⟩ ∧ b < w2.heap.size ∧ w2.cell? ⟨b, off + k * 2, none⟩ = some (.int .u64 (U y.1)) ∧ w2.cell? ⟨b, off + k * 2 + 1, none⟩ = some (.int .u64 (U y.2)) := ⟨_, Hcell.out k hlt2⟩
          obtain ⟨⟨x1, x2⟩, b', off', hbo, -, g3, g4⟩ := G0
          simp only [Option.some.injEq, Addr.mk.injEq, and_true] at hbo
          obtain ⟨rfl, rfl⟩ := hbo
          have e1 := (hBr.cell (p := ⟨b, off + k * 2, none⟩) hlt).trans g1
          have e2 := (hBr.cell (p := ⟨b, off + k * 2 + 1, none⟩) hlt).trans g2
          have e3 := (hBr.cell (p := ⟨b, off + 0 * 2, none⟩) hlt).trans g3
          have e4 := (hBr.cell (p := ⟨b, off + 0 * 2 + 1, none⟩) hlt).trans g4
          simp only [Nat.zero_mul, Nat.add_zero] at e3 e4
          have hbw : b < wr.heap.size := by omega
          have hpos : 0 < L.length := by omega
          clear g1 g2 g3 g4
          go_wp2
          refine wp_grow [(4, .val (MV (mAnd (mMinus (x1, x2) (y1, y2)) mAll).1 (mAnd (mMinus (x1, x2) (y1, y2)) mAll).2)), (9, .val (MV (mAnd (mMinus (x1, x2) (y1, y2)) mAll).1 (mAnd (mMinus (x1, x2) (y1, y2)) mAll).2)), (13, .val (MV (ones &&& ~~~ y1) (low32 &&& ~~~ y2))), (14, .val (MV (andAll []).1 (andAll []).2)), (16, .val (MV (ones &&& ~~~ y1) (low32 &&& ~~~ y2)))] 19 (by kernel_rfl) (by kernel_rfl) (by rfl) (by rfl) ?_
          simp only [List.take_succ_cons, List.take_zero, List.drop_succ_cons, List.drop_zero]
          repeat (first
            | (apply Der.quiet; (rfl); (rfl); (intro w' hw' hctx; have hc' := bcell hw'; have ywr0 := fun o => hw'.cell (p := ⟨wr.heap.size, o, none⟩) (by first | omega | (simp; done) | (simp; omega)); have yb := fun o => hw'.cell (p := ⟨b, o, none⟩) (by simp; omega); clear hctx; go_simp; first | exact rfl | exact ⟨rfl, rfl⟩); simp only [Act.put, List.setIfInBounds_toArray, List.set_cons_succ, List.set_cons_zero, Nat.reduceAdd])
            | (apply Der.skip; (rfl); simp only [Act.put, List.setIfInBounds_toArray, List.set_cons_succ, List.set_cons_zero, Nat.reduceAdd]))
          apply Der.val
          · rfl
          · rfl
          · (intro w' hw' hctx; go_simp; refine (f_Minus _ _ _ _ _).mono ?_; rintro e w2 ⟨rfl, hb⟩; exact ⟨_, rfl, rfl, hb⟩)
          simp only [Act.put, List.setIfInBounds_toArray, List.set_cons_succ, List.set_cons_zero, Nat.reduceAdd]
          repeat (first
            | (apply Der.quiet; (rfl); (rfl); (intro w' hw' hctx; have hc' := bcell hw'; have ywr0 := fun o => hw'.cell (p := ⟨wr.heap.size, o, none⟩) (by first | omega | (simp; done) | (simp; omega)); have yb := fun o => hw'.cell (p := ⟨b, o, none⟩) (by simp; omega); clear hctx; go_simp; first | exact rfl | exact ⟨rfl, rfl⟩); simp only [Act.put, List.setIfInBounds_toArray, List.set_cons_succ, List.set_cons_zero, Nat.reduceAdd])
            | (apply Der.skip; (rfl); simp only [Act.put, List.setIfInBounds_toArray, List.set_cons_succ, List.set_cons_zero, Nat.reduceAdd]))
          apply Der.val
          · rfl
          · rfl
          · (intro w' hw' hctx; go_simp; refine (r_Minus _ _ _ _ _).mono ?_; rintro e w2 ⟨rfl, hb⟩; exact ⟨_, rfl, by rw [E3.out], hb⟩)
          simp only [Act.put, List.setIfInBounds_toArray, List.set_cons_succ, List.set_cons_zero, Nat.reduceAdd]
          repeat (first
            | (apply Der.quiet; (rfl); (rfl); (intro w' hw' hctx; have hc' := bcell hw'; have ywr0 := fun o => hw'.cell (p := ⟨wr.heap.size, o, none⟩) (by first | omega | (simp; done) | (simp; omega)); have yb := fun o => hw'.cell (p := ⟨b, o, none⟩) (by simp; omega); clear hctx; go_simp; first | exact rfl | exact ⟨rfl, rfl⟩); simp only [Act.put, List.setIfInBounds_toArray, List.set_cons_succ, List.set_cons_zero, Nat.reduceAdd])
            | (apply Der.skip; (rfl); simp only [Act.put, List.setIfInBounds_toArray, List.set_cons_succ, List.set_cons_zero, Nat.reduceAdd]))
          apply Der.val
          · rfl
          · rfl
          · (intro w' hw' hctx; go_simp; refine (f_Not _ _ _).mono ?_; rintro e w2 ⟨rfl, hb⟩; exact ⟨_, rfl, rfl, hb⟩)
          simp only [Act.put, List.setIfInBounds_toArray, List.set_cons_succ, List.set_cons_zero, Nat.reduceAdd]
          apply Der.val
          · rfl
          · rfl
          · (intro w' hw' hctx; go_simp; refine (r_And _ [] _ (Sl.nilS _)).mono ?_; rintro e w2 ⟨rfl, hb⟩; exact ⟨_, rfl, by rw [set_and], hb⟩)
          simp only [Act.put, List.setIfInBounds_toArray, List.set_cons_succ, List.set_cons_zero, Nat.reduceAdd]
          repeat (first
            | (apply Der.quiet; (rfl); (rfl); (intro w' hw' hctx; have hc' := bcell hw'; have ywr0 := fun o => hw'.cell (p := ⟨wr.heap.size, o, none⟩) (by first | omega | (simp; done) | (simp; omega)); clear hctx; go_simp; first | exact rfl | exact ⟨rfl, rfl⟩); simp only [Act.put, List.setIfInBounds_toArray, List.set_cons_succ, List.set_cons_zero, Nat.reduceAdd])
            | (apply Der.skip; (rfl); simp only [Act.put, List.setIfInBounds_toArray, List.set_cons_succ, List.set_cons_zero, Nat.reduceAdd]))
          apply Der.val
          · rfl
          · rfl
          · (intro w' hw' hctx; go_simp; refine (r_Minus _ _ _ _ _).mono ?_; rintro e w2 ⟨rfl, hb⟩; exact ⟨_, rfl, by rw [E4.out], hb⟩)
          simp only [Act.put, List.setIfInBounds_toArray, List.set_cons_succ, List.set_cons_zero, Nat.reduceAdd]
          repeat (first
            | (apply Der.quiet; (rfl); (rfl); (intro w' hw' hctx; have hc' := bcell hw'; have ywr0 := fun o => hw'.cell (p := ⟨wr.heap.size, o, none⟩) (by first | omega | (simp; done) | (simp; omega)); clear hctx; go_simp; first | exact rfl | exact ⟨rfl, rfl⟩); simp only [Act.put, List.setIfInBounds_toArray, List.set_cons_succ, List.set_cons_zero, Nat.reduceAdd])
            | (apply Der.skip; (rfl); simp only [Act.put, List.setIfInBounds_toArray, List.set_cons_succ, List.set_cons_zero, Nat.reduceAdd]))
          refine Der.nil (fun w7 hgw7 hctx => ?_)
          clear hctx
          have hb7 : Below _ _ w7 := hgw7
          clear hgw7
          go_wp2
          go_roundw
          case rel => exact ⟨k + 1, by omega, by go_num, by ((have shb7 := hb7.size); (try simp at shb7); (have shBr := hBr.size); (try simp at shBr); (repeat' (first | (with_reducible exact Below.refl _ _) | (with_reducible refine Below.setCell ?_ ?_ _) | (with_reducible refine Below.alloc ?_ ?_ _) | (with_reducible refine Below.drew ?_) | (with_reducible refine Below.trans ?_ (Below.mono hb7 ?_)) | (with_reducible refine Below.trans ?_ (Below.mono hBr ?_)) | go_size)))⟩
          case measure => simp [intOf]; omega
        · have : k = L.length := by omega
          subst this
          go_wp2
          go_ret
          exact ⟨rfl, by ((have shBr := hBr.size); (try simp at shBr); (have shB2 := hB2.size); (try simp at shB2); (repeat' (first | (with_reducible exact Below.refl _ _) | (with_reducible refine Below.setCell ?_ ?_ _) | (with_reducible refine Below.alloc ?_ ?_ _) | (with_reducible refine Below.drew ?_) | (with_reducible refine Below.trans ?_ (Below.mono hBr ?_)) | (with_reducible refine Below.trans ?_ (Below.mono hB2 ?_)) | go_size)))⟩
end Go.Proofs.Ytbanmngngfanhaa
