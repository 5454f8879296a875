/- slices.Equal, slices.EqualFunc, and the document's Same, over vectors, masks and rows of vectors. -/
import Derived.Test.YtlfmffjlmhpcdaaFind
namespace Go.Proofs.Ytlfmffjlmhpcdaa
open Go.RowKit
set_option maxRecDepth 100000
attribute [local irreducible] Der

theorem takeq_succ {α : Type} {l m : List α} {k : Nat} (h : k < l.length) (h' : k < m.length) (ht : l.take k = m.take k) (he : l[k] = m[k]) : l.take (k + 1) = m.take (k + 1) := by
  rw [List.take_succ_eq_append_getElem h, List.take_succ_eq_append_getElem h', ht, he]
theorem takeq_ne {α : Type} [DecidableEq α] {l m : List α} {k : Nat} (h : k < l.length) (h' : k < m.length) (he : ¬ l[k] = m[k]) : decide (l = m) = false :=
  decide_eq_false fun e => he (by subst e; rfl)
theorem eq_of_take {α : Type} [DecidableEq α] {l m : List α} (hlen : l.length = m.length) (h : l.take l.length = m.take l.length) : decide (l = m) = true :=
  decide_eq_true (by rw [List.take_length] at h; rw [h, hlen, List.take_length])

set_option maxHeartbeats 1000000 in
theorem eqI (v u : Value) (l m : List Int) (w : World) (h : VecV w v l) (h' : VecV w u m) : Calls Try.prog 90 #[v, u] w fun e w' => e = .returned (.bool (decide (l = m))) ∧ Below w.heap.size w w' := by
  obtain ⟨p, cap, rfl, hl, hm, hcell⟩ := h.open
  have Hcell := Lib.hid hcell
  obtain ⟨p', cap', rfl, hl', hm', hcell'⟩ := h'.open
  have Hcell' := Lib.hid hcell'
  clear hcell hcell' h h'
  by_cases hlen : l.length = m.length
  · have HM := Lib.hid hlen
    have HT := Lib.hid (fun h => eq_of_take (l := l) (m := m) hlen h)
    have HS := Lib.hid (fun (k : Nat) (h : k < l.length) (h' : k < m.length) (ht : l.take k = m.take k) (he : l[k] = m[k]) => takeq_succ h h' ht he)
    have HNE := Lib.hid (fun (k : Nat) (h : k < l.length) (h' : k < m.length) (he : ¬ l[k] = m[k]) => takeq_ne h h' he)
    rw [← hlen] at hl' ⊢
    clear hlen
    go_enter Try.func90, Try.ntmps90
    go_wp2
    go_loopw [13] (fun i wr => ∃ k : Nat, k ≤ l.length ∧ i = .int .i64 k ∧ l.take k = m.take k ∧ Below w.heap.size w wr) (fun i _ => l.length - (intOf i).toNat)
    case atStart => exact ⟨0, Nat.zero_le _, rfl, rfl, Below.refl _ _⟩
    case round =>
      obtain ⟨k, hk, rfl, htk, hbr⟩ := hrel
      have HK := Lib.hid htk
      clear htk
      have hsz := hbr.size
      by_cases hlt2 : k < l.length
      · have hl2 : k < l.length := hlt2
        have hm2 : k < m.length := by rw [← HM.out]; exact hlt2
        have HX := Lib.hid (HS.out k hl2 hm2 HK.out)
        have HY := Lib.hid (HNE.out k hl2 hm2)
        obtain ⟨g,off,rfl,hlt,g1⟩ := Hcell.out k hl2
        obtain ⟨g',off',rfl,hlt',h1⟩ := Hcell'.out k hm2
        clear HT HS HNE Hcell Hcell'
        generalize l[k] = x at *
        generalize m[k] = y at *
        have z1 : g < wr.heap.size := by omega
        have z2 : g' < wr.heap.size := by omega
        have e1 := (hbr.cell (p := ⟨g, off + k, none⟩) hlt).trans g1
        have e2 := (hbr.cell (p := ⟨g', off' + k, none⟩) hlt').trans h1
        clear g1 h1 hm2
        by_cases hxy : x = y
        · have HX2 := Lib.hid (HX.out hxy)
          subst hxy
          go_wp2
          refine wp_grow [] 9 (by kernel_rfl) (by kernel_rfl) (by rfl) (by rfl) ?_
          simp only [List.take_succ_cons, List.take_zero, List.drop_succ_cons, List.drop_zero]
          repeat (first
            | (apply Der.quiet; (rfl); (rfl); (intro w' hw' hctx; have hc' := bcell hw'; have y1 := fun o => hw'.cell (p := ⟨g, o, none⟩) (by simp; omega); have y2 := fun o => hw'.cell (p := ⟨g', o, none⟩) (by simp; omega); clear hctx; go_simp; first | exact rfl | exact ⟨rfl, rfl⟩); simp only [Act.put, List.setIfInBounds_toArray, List.set_cons_succ, List.set_cons_zero, Nat.reduceAdd])
            | (apply Der.skip; (rfl); simp only [Act.put, List.setIfInBounds_toArray, List.set_cons_succ, List.set_cons_zero, Nat.reduceAdd]))
          refine Der.nil (fun w2 hgw2 hctx => ?_)
          clear hctx
          have hb2 : Below _ _ w2 := hgw2
          clear hgw2
          go_wp2
          go_roundw
          case rel => exact ⟨k + 1, by omega, by go_num, HX2.out, by ((have shb2 := hb2.size); (try simp at shb2); (have shbr := hbr.size); (try simp at shbr); (repeat' (first | (with_reducible exact Below.refl _ _) | (with_reducible refine Below.setCell ?_ ?_ _) | (with_reducible refine Below.alloc ?_ ?_ _) | (with_reducible refine Below.drew ?_) | (with_reducible refine Below.trans ?_ (Below.mono hb2 ?_)) | (with_reducible refine Below.trans ?_ (Below.mono hbr ?_)) | go_size)))⟩
          case measure => simp [intOf]; omega
        · have HY2 := Lib.hid (HY.out hxy)
          have hxb : (x == y) = false := by simp [hxy]
          clear hxy
          go_wp2
          refine wp_grow [] 9 (by kernel_rfl) (by kernel_rfl) (by rfl) (by rfl) ?_
          simp only [List.take_succ_cons, List.take_zero, List.drop_succ_cons, List.drop_zero]
          repeat (first
            | (apply Der.quiet; (rfl); (rfl); (intro w' hw' hctx; have hc' := bcell hw'; have y1 := fun o => hw'.cell (p := ⟨g, o, none⟩) (by simp; omega); have y2 := fun o => hw'.cell (p := ⟨g', o, none⟩) (by simp; omega); clear hctx; go_simp; first | exact rfl | exact ⟨rfl, rfl⟩); simp only [Act.put, List.setIfInBounds_toArray, List.set_cons_succ, List.set_cons_zero, Nat.reduceAdd])
            | (apply Der.skip; (rfl); simp only [Act.put, List.setIfInBounds_toArray, List.set_cons_succ, List.set_cons_zero, Nat.reduceAdd]))
          refine Der.nil (fun w2 hgw2 hctx => ?_)
          clear hctx
          have hb2 : Below _ _ w2 := hgw2
          clear hgw2
          go_wp2
          go_ret
          refine ⟨?_, ?_⟩
          · rw [HY2.out]; rfl
          · ((have shb2 := hb2.size); (try simp at shb2); (have shbr := hbr.size); (try simp at shbr); (repeat' (first | (with_reducible exact Below.refl _ _) | (with_reducible refine Below.setCell ?_ ?_ _) | (with_reducible refine Below.alloc ?_ ?_ _) | (with_reducible refine Below.drew ?_) | (with_reducible refine Below.trans ?_ (Below.mono hb2 ?_)) | (with_reducible refine Below.trans ?_ (Below.mono hbr ?_)) | go_size)))
      · have : k = l.length := by omega
        subst this
        have HT2 := Lib.hid (HT.out HK.out)
        go_wp2
        go_ret
        exact ⟨by rw [HT2.out]; rfl, hbr⟩
  · have HB := Lib.hid (show decide (l = m) = false from decide_eq_false (fun e => hlen (by rw [e])))
    have hne : ¬ (l.length : Int) = (m.length : Int) := by omega
    clear hlen
    go_enter Try.func90, Try.ntmps90
    go_wp2
    go_ret
    exact ⟨by rw [HB.out]; rfl, Below.refl _ _⟩
set_option maxHeartbeats 1000000 in
theorem eqM (v u : Value) (l m : List M) (w : World) (h : Masks w v l) (h' : Masks w u m) : Calls Try.prog 47 #[v, u] w fun e w' => e = .returned (.bool (decide (l = m))) ∧ Below w.heap.size w w' := by
  obtain ⟨p, cap, rfl, hl, hm, hcell⟩ := h.open
  have Hcell := Lib.hid hcell
  obtain ⟨p', cap', rfl, hl', hm', hcell'⟩ := h'.open
  have Hcell' := Lib.hid hcell'
  clear hcell hcell' h h'
  by_cases hlen : l.length = m.length
  · have HM := Lib.hid hlen
    have HT := Lib.hid (fun h => eq_of_take (l := l) (m := m) hlen h)
    have HS := Lib.hid (fun (k : Nat) (h : k < l.length) (h' : k < m.length) (ht : l.take k = m.take k) (he : l[k] = m[k]) => takeq_succ h h' ht he)
    have HNE := Lib.hid (fun (k : Nat) (h : k < l.length) (h' : k < m.length) (he : ¬ l[k] = m[k]) => takeq_ne h h' he)
    rw [← hlen] at hl' ⊢
    clear hlen
    go_enter Try.func47, Try.ntmps47
    go_wp2
    go_loopw [13] (fun i wr => ∃ k : Nat, k ≤ l.length ∧ i = .int .i64 k ∧ l.take k = m.take k ∧ Below w.heap.size w wr) (fun i _ => l.length - (intOf i).toNat)
    case atStart => exact ⟨0, Nat.zero_le _, rfl, rfl, Below.refl _ _⟩
    case round =>
      obtain ⟨k, hk, rfl, htk, hbr⟩ := hrel
      have HK := Lib.hid htk
      clear htk
      have hsz := hbr.size
      by_cases hlt2 : k < l.length
      · have hl2 : k < l.length := hlt2
        have hm2 : k < m.length := by rw [← HM.out]; exact hlt2
        have HX := Lib.hid (HS.out k hl2 hm2 HK.out)
        have HY := Lib.hid (HNE.out k hl2 hm2)
        obtain ⟨g,off,rfl,hlt,g1,g2⟩ := Hcell.out k hl2
        obtain ⟨g',off',rfl,hlt',h1,h2⟩ := Hcell'.out k hm2
        clear HT HS HNE Hcell Hcell'
        generalize l[k] = x at *
        generalize m[k] = y at *
        have z1 : g < wr.heap.size := by omega
        have z2 : g' < wr.heap.size := by omega
        have e1 := (hbr.cell (p := ⟨g, off + k * 2, none⟩) hlt).trans g1
        have e2 := (hbr.cell (p := ⟨g', off' + k * 2, none⟩) hlt').trans h1
        have e3 := (hbr.cell (p := ⟨g, off + k * 2 + 1, none⟩) hlt).trans g2
        have e4 := (hbr.cell (p := ⟨g', off' + k * 2 + 1, none⟩) hlt').trans h2
        clear g1 h1 g2 h2 hm2
        obtain ⟨x1, x2⟩ := x
        obtain ⟨y1, y2⟩ := y
        by_cases hxy : x1 = y1 ∧ x2 = y2
        · have HX2 := Lib.hid (HX.out (by rw [hxy.1, hxy.2]))
          obtain ⟨rfl, rfl⟩ := hxy
          go_wp2
          refine wp_grow [] 9 (by kernel_rfl) (by kernel_rfl) (by rfl) (by rfl) ?_
          simp only [List.take_succ_cons, List.take_zero, List.drop_succ_cons, List.drop_zero]
          repeat (first
            | (apply Der.quiet; (rfl); (rfl); (intro w' hw' hctx; have hc' := bcell hw'; have y1 := fun o => hw'.cell (p := ⟨g, o, none⟩) (by simp; omega); have y2 := fun o => hw'.cell (p := ⟨g', o, none⟩) (by simp; omega); clear hctx; go_simp; first | exact rfl | exact ⟨rfl, rfl⟩); simp only [Act.put, List.setIfInBounds_toArray, List.set_cons_succ, List.set_cons_zero, Nat.reduceAdd])
            | (apply Der.skip; (rfl); simp only [Act.put, List.setIfInBounds_toArray, List.set_cons_succ, List.set_cons_zero, Nat.reduceAdd]))
          refine Der.nil (fun w2 hgw2 hctx => ?_)
          clear hctx
          have hb2 : Below _ _ w2 := hgw2
          clear hgw2
          go_wp2
          go_roundw
          case rel => exact ⟨k + 1, by omega, by go_num, HX2.out, by ((have shb2 := hb2.size); (try simp at shb2); (have shbr := hbr.size); (try simp at shbr); (repeat' (first | (with_reducible exact Below.refl _ _) | (with_reducible refine Below.setCell ?_ ?_ _) | (with_reducible refine Below.alloc ?_ ?_ _) | (with_reducible refine Below.drew ?_) | (with_reducible refine Below.trans ?_ (Below.mono hb2 ?_)) | (with_reducible refine Below.trans ?_ (Below.mono hbr ?_)) | go_size)))⟩
          case measure => simp [intOf]; omega
        · have HY2 := Lib.hid (HY.out (fun e => hxy ⟨congrArg Prod.fst e, congrArg Prod.snd e⟩))
          have hxb : (x1 == y1 && x2 == y2) = false := by
            cases h1 : x1 == y1 <;> cases h2 : x2 == y2 <;> simp_all
          clear hxy
          go_wp2
          refine wp_grow [] 9 (by kernel_rfl) (by kernel_rfl) (by rfl) (by rfl) ?_
          simp only [List.take_succ_cons, List.take_zero, List.drop_succ_cons, List.drop_zero]
          repeat (first
            | (apply Der.quiet; (rfl); (rfl); (intro w' hw' hctx; have hc' := bcell hw'; have y1 := fun o => hw'.cell (p := ⟨g, o, none⟩) (by simp; omega); have y2 := fun o => hw'.cell (p := ⟨g', o, none⟩) (by simp; omega); clear hctx; go_simp; first | exact rfl | exact ⟨rfl, rfl⟩); simp only [Act.put, List.setIfInBounds_toArray, List.set_cons_succ, List.set_cons_zero, Nat.reduceAdd])
            | (apply Der.skip; (rfl); simp only [Act.put, List.setIfInBounds_toArray, List.set_cons_succ, List.set_cons_zero, Nat.reduceAdd]))
          refine Der.nil (fun w2 hgw2 hctx => ?_)
          clear hctx
          have hb2 : Below _ _ w2 := hgw2
          clear hgw2
          go_wp2
          go_ret
          refine ⟨?_, ?_⟩
          · rw [HY2.out]; rfl
          · ((have shb2 := hb2.size); (try simp at shb2); (have shbr := hbr.size); (try simp at shbr); (repeat' (first | (with_reducible exact Below.refl _ _) | (with_reducible refine Below.setCell ?_ ?_ _) | (with_reducible refine Below.alloc ?_ ?_ _) | (with_reducible refine Below.drew ?_) | (with_reducible refine Below.trans ?_ (Below.mono hb2 ?_)) | (with_reducible refine Below.trans ?_ (Below.mono hbr ?_)) | go_size)))
      · have : k = l.length := by omega
        subst this
        have HT2 := Lib.hid (HT.out HK.out)
        go_wp2
        go_ret
        exact ⟨by rw [HT2.out]; rfl, hbr⟩
  · have HB := Lib.hid (show decide (l = m) = false from decide_eq_false (fun e => hlen (by rw [e])))
    have hne : ¬ (l.length : Int) = (m.length : Int) := by omega
    clear hlen
    go_enter Try.func47, Try.ntmps47
    go_wp2
    go_ret
    exact ⟨by rw [HB.out]; rfl, Below.refl _ _⟩
set_option maxHeartbeats 1000000 in
theorem r5Same (v u : Value) (l m : List Int) (w : World) (h : VecV w v l) (h' : VecV w u m) : Calls Try.prog 48 #[v, u] w fun e w' => e = .returned (.bool (decide (l = m))) ∧ Below w.heap.size w w' := by
  obtain ⟨p, cap, rfl, hl, hm, hcell⟩ := h.open
  have Hcell := Lib.hid hcell
  obtain ⟨p', cap', rfl, hl', hm', hcell'⟩ := h'.open
  have Hcell' := Lib.hid hcell'
  clear hcell hcell' h h'
  by_cases hlen : l.length = m.length
  · have HM := Lib.hid hlen
    have HT := Lib.hid (fun h => eq_of_take (l := l) (m := m) hlen h)
    have HS := Lib.hid (fun (k : Nat) (h : k < l.length) (h' : k < m.length) (ht : l.take k = m.take k) (he : l[k] = m[k]) => takeq_succ h h' ht he)
    have HNE := Lib.hid (fun (k : Nat) (h : k < l.length) (h' : k < m.length) (he : ¬ l[k] = m[k]) => takeq_ne h h' he)
    rw [← hlen] at hl' ⊢
    clear hlen
    go_enter Try.func48, Try.ntmps48
    go_wp2
    go_loopw [5] (fun i wr => ∃ k : Nat, k ≤ l.length ∧ i = .int .i64 k ∧ l.take k = m.take k ∧ Below w.heap.size w wr) (fun i _ => l.length - (intOf i).toNat)
    case atStart => exact ⟨0, Nat.zero_le _, rfl, rfl, Below.refl _ _⟩
    case round =>
      obtain ⟨k, hk, rfl, htk, hbr⟩ := hrel
      have HK := Lib.hid htk
      clear htk
      have hsz := hbr.size
      by_cases hlt2 : k < l.length
      · have hl2 : k < l.length := hlt2
        have hm2 : k < m.length := by rw [← HM.out]; exact hlt2
        have HX := Lib.hid (HS.out k hl2 hm2 HK.out)
        have HY := Lib.hid (HNE.out k hl2 hm2)
        obtain ⟨g,off,rfl,hlt,g1⟩ := Hcell.out k hl2
        obtain ⟨g',off',rfl,hlt',h1⟩ := Hcell'.out k hm2
        clear HT HS HNE Hcell Hcell'
        generalize l[k] = x at *
        generalize m[k] = y at *
        have z1 : g < wr.heap.size := by omega
        have z2 : g' < wr.heap.size := by omega
        have e1 := (hbr.cell (p := ⟨g, off + k, none⟩) hlt).trans g1
        have e2 := (hbr.cell (p := ⟨g', off' + k, none⟩) hlt').trans h1
        clear g1 h1 hm2
        by_cases hxy : x = y
        · have HX2 := Lib.hid (HX.out hxy)
          subst hxy
          go_wp2
          refine wp_grow [] 9 (by kernel_rfl) (by kernel_rfl) (by rfl) (by rfl) ?_
          simp only [List.take_succ_cons, List.take_zero, List.drop_succ_cons, List.drop_zero]
          repeat (first
            | (apply Der.quiet; (rfl); (rfl); (intro w' hw' hctx; have hc' := bcell hw'; have y1 := fun o => hw'.cell (p := ⟨g, o, none⟩) (by simp; omega); have y2 := fun o => hw'.cell (p := ⟨g', o, none⟩) (by simp; omega); clear hctx; go_simp; first | exact rfl | exact ⟨rfl, rfl⟩); simp only [Act.put, List.setIfInBounds_toArray, List.set_cons_succ, List.set_cons_zero, Nat.reduceAdd])
            | (apply Der.skip; (rfl); simp only [Act.put, List.setIfInBounds_toArray, List.set_cons_succ, List.set_cons_zero, Nat.reduceAdd]))
          refine Der.nil (fun w2 hgw2 hctx => ?_)
          clear hctx
          have hb2 : Below _ _ w2 := hgw2
          clear hgw2
          go_wp2
          go_roundw
          case rel => exact ⟨k + 1, by omega, by go_num, HX2.out, by ((have shb2 := hb2.size); (try simp at shb2); (have shbr := hbr.size); (try simp at shbr); (repeat' (first | (with_reducible exact Below.refl _ _) | (with_reducible refine Below.setCell ?_ ?_ _) | (with_reducible refine Below.alloc ?_ ?_ _) | (with_reducible refine Below.drew ?_) | (with_reducible refine Below.trans ?_ (Below.mono hb2 ?_)) | (with_reducible refine Below.trans ?_ (Below.mono hbr ?_)) | go_size)))⟩
          case measure => simp [intOf]; omega
        · have HY2 := Lib.hid (HY.out hxy)
          have hxb : (x == y) = false := by simp [hxy]
          clear hxy
          go_wp2
          refine wp_grow [] 9 (by kernel_rfl) (by kernel_rfl) (by rfl) (by rfl) ?_
          simp only [List.take_succ_cons, List.take_zero, List.drop_succ_cons, List.drop_zero]
          repeat (first
            | (apply Der.quiet; (rfl); (rfl); (intro w' hw' hctx; have hc' := bcell hw'; have y1 := fun o => hw'.cell (p := ⟨g, o, none⟩) (by simp; omega); have y2 := fun o => hw'.cell (p := ⟨g', o, none⟩) (by simp; omega); clear hctx; go_simp; first | exact rfl | exact ⟨rfl, rfl⟩); simp only [Act.put, List.setIfInBounds_toArray, List.set_cons_succ, List.set_cons_zero, Nat.reduceAdd])
            | (apply Der.skip; (rfl); simp only [Act.put, List.setIfInBounds_toArray, List.set_cons_succ, List.set_cons_zero, Nat.reduceAdd]))
          refine Der.nil (fun w2 hgw2 hctx => ?_)
          clear hctx
          have hb2 : Below _ _ w2 := hgw2
          clear hgw2
          go_wp2
          go_ret
          refine ⟨?_, ?_⟩
          · rw [HY2.out]; rfl
          · ((have shb2 := hb2.size); (try simp at shb2); (have shbr := hbr.size); (try simp at shbr); (repeat' (first | (with_reducible exact Below.refl _ _) | (with_reducible refine Below.setCell ?_ ?_ _) | (with_reducible refine Below.alloc ?_ ?_ _) | (with_reducible refine Below.drew ?_) | (with_reducible refine Below.trans ?_ (Below.mono hb2 ?_)) | (with_reducible refine Below.trans ?_ (Below.mono hbr ?_)) | go_size)))
      · have : k = l.length := by omega
        subst this
        have HT2 := Lib.hid (HT.out HK.out)
        go_wp2
        go_ret
        exact ⟨by rw [HT2.out]; rfl, hbr⟩
  · have HB := Lib.hid (show decide (l = m) = false from decide_eq_false (fun e => hlen (by rw [e])))
    have hne : ¬ (l.length : Int) = (m.length : Int) := by omega
    clear hlen
    go_enter Try.func48, Try.ntmps48
    go_wp2
    go_ret
    exact ⟨by rw [HB.out]; rfl, Below.refl _ _⟩
theorem f_vecSame (v u : Value) (l m : List Int) (w : World) (h : VecV w v l) (h' : VecV w u m) : Calls Try.prog 46 #[v, u] w fun e w' => e = .returned (.bool (decide (l = m))) ∧ Below w.heap.size w w' := by
  have H := fun w => Lib.hid (eqI v u l m w)
  have H1 := Lib.hid h
  have H2 := Lib.hid h'
  clear h h'
  go_enter Try.func46, Try.ntmps46
  go_wp2_with fail
  refine ((H _).out H1.out H2.out).mono ?_
  rintro e w1 ⟨rfl, hb1⟩
  go_wp2
  go_ret
  exact ⟨rfl, hb1⟩
/-- Are two rows alike, place by place? -/
def all2 {α β : Type} (q : α → β → Bool) : List α → List β → Bool
  | [], [] => true
  | x :: l, y :: m => q x y && all2 q l m
  | _, _ => false
theorem all2_take {α β : Type} (q : α → β → Bool) : ∀ (l : List α) (m : List β), l.length = m.length → (∀ k (h : k < l.length) (h' : k < m.length), q l[k] m[k] = true) → all2 q l m = true
  | [], [], _, _ => rfl
  | x :: l, y :: m, hl, h => by
    unfold all2
    rw [h 0 (by simp) (by simp) |> fun e : q x y = true => e, all2_take q l m (by simpa using hl) (fun k h1 h2 => h (k + 1) (by simpa using h1) (by simpa using h2))]; rfl
  | [], y :: m, hl, _ => by simp at hl
  | x :: l, [], hl, _ => by simp at hl
theorem all2_no {α β : Type} (q : α → β → Bool) : ∀ (l : List α) (m : List β) (k : Nat) (h : k < l.length) (h' : k < m.length), q l[k] m[k] = false → all2 q l m = false
  | [], _, k, h, _, _ => by simp at h
  | _, [], k, _, h', _ => by simp at h'
  | x :: l, y :: m, 0, _, _, he => by unfold all2; have he' : q x y = false := he; rw [he']; rfl
  | x :: l, y :: m, k + 1, h, h', he => by
    unfold all2
    rw [all2_no q l m k (by simpa using h) (by simpa using h') he]; simp
theorem all2_len {α β : Type} (q : α → β → Bool) : ∀ (l : List α) (m : List β), l.length ≠ m.length → all2 q l m = false
  | [], [], h => absurd rfl h
  | x :: l, y :: m, h => by unfold all2; rw [all2_len q l m (by simpa using h)]; simp
  | [], y :: m, _ => rfl
  | x :: l, [], _ => rfl
/-- The calls of function k give q x y at each pair that is handed to it. -/
def RelOn {α β : Type} (k : Nat) (lb : Array Value) (arg : α → Value) (arg' : β → Value) (q : α → β → Bool) (l : List α) (m : List β) (w : World) : Prop :=
  ∀ x ∈ l, ∀ y ∈ m, ∀ w', Below w.heap.size w w' → Calls Try.prog k (#[arg x, arg' y] ++ lb) w' fun e w'' => e = .returned (.bool (q x y)) ∧ Below w'.heap.size w' w''
set_option maxHeartbeats 1000000 in
theorem eqfV (f : Nat) (lb : Array Value) (eg : ∀ args w, (callFunc f args).run Try.prog w = .ok (.enter f args) w) (q : PV → PV → Bool) (v u : Value) (l m : List PV) (w : World) (h : VecsV w v l) (h' : VecsV w u m) (hq : RelOn f lb argV argV q l m w) :
    Calls Try.prog 45 #[v, u, .func (.func f) #[] lb] w fun e w' => e = .returned (.bool (all2 q l m)) ∧ Below w.heap.size w w' := by
  obtain ⟨p, cap, rfl, hl, hm, hcell⟩ := h.open
  have Hcell := Lib.hid hcell
  obtain ⟨p', cap', rfl, hl', hm', hcell'⟩ := h'.open
  have Hcell' := Lib.hid hcell'
  have HQ := Lib.hid hq
  clear hcell hcell' h h' hq
  by_cases hlen : l.length = m.length
  · have HM := Lib.hid hlen
    have HT := Lib.hid (fun h => all2_take q l m hlen h)
    have HNE := Lib.hid (fun k h h' he => all2_no q l m k h h' he)
    rw [← hlen] at hl' ⊢
    clear hlen
    go_enter Try.func45, Try.ntmps45
    go_wp2
    go_loopw [17] (fun i wr => ∃ k : Nat, k ≤ l.length ∧ i = .int .i64 k ∧ (∀ j, j < k → ∀ (h : j < l.length) (h' : j < m.length), q l[j] m[j] = true) ∧ Below w.heap.size w wr) (fun i _ => l.length - (intOf i).toNat)
    case atStart => exact ⟨0, Nat.zero_le _, rfl, fun j hj => absurd hj (Nat.not_lt_zero _), Below.refl _ _⟩
    case round =>
      obtain ⟨k, hk, rfl, htk, hbr⟩ := hrel
      have HK := Lib.hid htk
      clear htk
      have hsz := hbr.size
      by_cases hlt2 : k < l.length
      · have hl2 : k < l.length := hlt2
        have hm2 : k < m.length := by rw [← HM.out]; exact hlt2
        have HQk := Lib.hid (HQ.out l[k] (List.getElem_mem hl2) m[k] (List.getElem_mem hm2))
        have HX := Lib.hid (fun (hh : q l[k] m[k] = true) (j : Nat) (hj : j < k + 1) (h : j < l.length) (h' : j < m.length) => (show q l[j] m[j] = true by
          rcases Nat.lt_or_ge j k with hjk | hjk
          · exact HK.out j hjk h h'
          · have : j = k := by omega
            subst this; exact hh))
        have HY := Lib.hid (HNE.out k hl2 hm2)
        obtain ⟨g,off,rfl,hlt,g1⟩ := Hcell.out k hl2
        obtain ⟨g',off',rfl,hlt',h1⟩ := Hcell'.out k hm2
        clear HT HNE Hcell Hcell' HQ
        cases hh : q l[k] m[k]
        · have HH := Lib.hid hh
          have HY2 := Lib.hid (HY.out hh)
          clear hh HX HY
          generalize l[k] = x at *
          generalize m[k] = y at *
          have e1 := (hbr.cell (p := ⟨g, off + k, none⟩) hlt).trans g1
          have e2 := (hbr.cell (p := ⟨g', off' + k, none⟩) hlt').trans h1
          clear g1 h1 hm2
          go_wp2_with fail
          refine (HQk.out _ hbr).mono ?_
          rintro e w2 ⟨rfl, hb2⟩
          rw [HH.out]
          go_wp2
          go_ret
          refine ⟨?_, ?_⟩
          · rw [HY2.out]; rfl
          · ((have shb2 := hb2.size); (try simp at shb2); (have shbr := hbr.size); (try simp at shbr); (repeat' (first | (with_reducible exact Below.refl _ _) | (with_reducible refine Below.setCell ?_ ?_ _) | (with_reducible refine Below.alloc ?_ ?_ _) | (with_reducible refine Below.drew ?_) | (with_reducible refine Below.trans ?_ (Below.mono hb2 ?_)) | (with_reducible refine Below.trans ?_ (Below.mono hbr ?_)) | go_size)))
        · have HH := Lib.hid hh
          have HX2 := Lib.hid (HX.out hh)
          clear hh HX HY
          generalize l[k] = x at *
          generalize m[k] = y at *
          have e1 := (hbr.cell (p := ⟨g, off + k, none⟩) hlt).trans g1
          have e2 := (hbr.cell (p := ⟨g', off' + k, none⟩) hlt').trans h1
          clear g1 h1 hm2
          go_wp2_with fail
          refine (HQk.out _ hbr).mono ?_
          rintro e w2 ⟨rfl, hb2⟩
          rw [HH.out]
          go_wp2
          go_roundw
          case rel => exact ⟨k + 1, by omega, by go_num, HX2.out, by ((have shb2 := hb2.size); (try simp at shb2); (have shbr := hbr.size); (try simp at shbr); (repeat' (first | (with_reducible exact Below.refl _ _) | (with_reducible refine Below.setCell ?_ ?_ _) | (with_reducible refine Below.alloc ?_ ?_ _) | (with_reducible refine Below.drew ?_) | (with_reducible refine Below.trans ?_ (Below.mono hb2 ?_)) | (with_reducible refine Below.trans ?_ (Below.mono hbr ?_)) | go_size)))⟩
          case measure => simp [intOf]; omega
      · have : k = l.length := by omega
        subst this
        have HT2 := Lib.hid (HT.out (fun j h h' => HK.out j h h h'))
        go_wp2
        go_ret
        exact ⟨by rw [HT2.out]; rfl, hbr⟩
  · have HB := Lib.hid (all2_len q l m hlen)
    have hne : ¬ (l.length : Int) = (m.length : Int) := by omega
    clear hlen
    go_enter Try.func45, Try.ntmps45
    go_wp2
    go_ret
    exact ⟨by rw [HB.out]; rfl, Below.refl _ _⟩
end Go.Proofs.Ytlfmffjlmhpcdaa
