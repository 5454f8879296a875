/- The walk of MaskTells: what it asks comes out true. -/
import Derived.Test.YtbanmngngfanhaaDoorSlotsF
import Derived.Test.YtbanmngngfanhaaDoorTellA
namespace Go.Proofs.YtbanmngngfanhaaDoor
open Go.RowKit
attribute [local irreducible] Der

theorem r_Has_no (a b : BitVec 64) (n : Int) (h : ¬ isSlot n) (w : World) : Calls Tryd.prog 13 #[MV a b, .int .i64 n] w fun e w' => e = .returned (.bool false) ∧ Below w.heap.size w w' := by
  by_cases h0 : 0 ≤ n
  · have h1 : 96 ≤ n := by unfold isSlot at h; omega
    clear h
    go_enter Tryd.func13, Tryd.ntmps13
    go_wp2
    go_ret
    refine ⟨rfl, ?_⟩
    ((repeat' (first | (with_reducible exact Below.refl _ _) | (with_reducible refine Below.setCell ?_ ?_ _) | (with_reducible refine Below.alloc ?_ ?_ _) | (with_reducible refine Below.drew ?_) | (with_reducible refine Below.trans ?_ (Below.mono (by assumption) ?_)) | go_size)))
  · have h1 : n < 0 := by omega
    clear h
    go_enter Tryd.func13, Tryd.ntmps13
    go_wp2
    go_ret
    refine ⟨rfl, ?_⟩
    ((repeat' (first | (with_reducible exact Below.refl _ _) | (with_reducible refine Below.setCell ?_ ?_ _) | (with_reducible refine Below.alloc ?_ ?_ _) | (with_reducible refine Below.drew ?_) | (with_reducible refine Below.trans ?_ (Below.mono (by assumption) ?_)) | go_size)))
theorem undrew {w w' : World} (h : Below w.drew.heap.size w.drew w') : Below w.heap.size w w' := ⟨h.os, h.tape, h.output, h.size, h.block⟩
def hasN (m : M) (n : Int) : Bool := decide (0 ≤ n ∧ n < 96) && hasM m n
theorem hasN_no {m : M} {n : Int} (h : ¬ isSlot n) : hasN m n = false := by unfold hasN; rw [decide_eq_false (show ¬ (0 ≤ n ∧ n < 96) from h)]; rfl
theorem hasN_yes {m : M} {n : Int} (h : isSlot n) : hasN m n = hasM m n := by unfold hasN; rw [decide_eq_true (show 0 ≤ n ∧ n < 96 from h)]; rfl
theorem f_Has_any (a b : BitVec 64) (n : Int) (w : World) : Calls Tryd.prog 12 #[MV a b, .int .i64 n] w fun e w' => e = .returned (.bool (hasN (a, b) n)) ∧ Below w.heap.size w w' := by
  by_cases h : isSlot n
  · rw [hasN_yes h]; exact f_Has_yes a b n h w
  · rw [hasN_no h]; exact f_Has_no a b n h w
theorem r_Has_any (a b : BitVec 64) (n : Int) (w : World) : Calls Tryd.prog 13 #[MV a b, .int .i64 n] w fun e w' => e = .returned (.bool (hasN (a, b) n)) ∧ Below w.heap.size w w' := by
  by_cases h : isSlot n
  · rw [hasN_yes h]; exact r_Has a b n h.1 h.2 w
  · rw [hasN_no h]; exact r_Has_no a b n h w

set_option maxRecDepth 100000 in
set_option maxHeartbeats 1000000 in
theorem f_MaskTells (v u : Value) (l : List M) (ps : List Int) (w : World) (h : Masks w v l) (h' : Ints w u ps) (hps : ∀ x ∈ ps, -9223372036854775808 ≤ x ∧ x ≤ 9223372036854775807) (h0 : 0 < w.heap.size) (ht : Tab w) :
    Calls Tryd.prog 3 #[v, u] w fun e w' => e = .returned (.bool true) ∧ Below w.heap.size w w' := by
  obtain ⟨a, cap, rfl, hl, hm, hcell⟩ := h.open
  obtain ⟨a', cap', rfl, hl', hm', hcell'⟩ := h'.open
  have Hc := Lib.hid hcell
  have Hc' := Lib.hid hcell'
  have HP := Lib.hid hps
  have HT := Lib.hid ht
  clear hcell hcell' h h' ht hps
  go_enter Tryd.func3, Tryd.ntmps3
  go_wp2_with fail
  refine (f_wakes _).mono ?_
  rintro e w1 ⟨rfl, hb1⟩
  go_wp2
  go_loopw [18] (fun i wr => ∃ k : Nat, k ≤ l.length ∧ i = .int .i64 k ∧ Below w.heap.size w wr) (fun i _ => l.length - (intOf i).toNat)
  case atStart => exact ⟨0, Nat.zero_le _, rfl, hb1⟩
  case round =>
    obtain ⟨k, hk, rfl, hBr⟩ := hrel
    have hsz := hBr.size
    by_cases hlt2 : k < l.length
    · obtain ⟨⟨y1, y2⟩, b, off, rfl, hlt, g1, g2⟩ : ∃ y : M, ∃ b off, a = some ⟨b, off, none⟩ ∧ b < w.heap.size ∧ w.cell? ⟨b, off + k * 2, none⟩ = some (.int .u64 (U y.1)) ∧ w.cell? ⟨b, off + k * 2 + 1, none⟩ = some (.int .u64 (U y.2)) := ⟨_, Hc.out k hlt2⟩
      have e1 := (hBr.cell (p := ⟨b, off + k * 2, none⟩) hlt).trans g1
      have e2 := (hBr.cell (p := ⟨b, off + k * 2 + 1, none⟩) hlt).trans g2
      clear g1 g2
      by_cases h8 : (k : Int) = 8
      · have h8' : k = 8 := by omega
        subst h8'
        clear h8
        go_wp2
        go_ret
        exact ⟨rfl, by ((have shBr := hBr.size); (try simp at shBr); (repeat' (first | (with_reducible exact Below.refl _ _) | (with_reducible refine Below.setCell ?_ ?_ _) | (with_reducible refine Below.alloc ?_ ?_ _) | (with_reducible refine Below.drew ?_) | (with_reducible refine Below.trans ?_ (Below.mono hBr ?_)) | go_size)))⟩
      · have h8' : ((k : Int) == 8) = false := by simpa using h8
        clear h8
        obtain ⟨wo, hwo⟩ : ∃ wo, wo = wr := ⟨_, rfl⟩
        subst hwo
        have hT0 := HT.out.grown h0 hBr
        go_wp2_with fail
        refine (f_Slots _ _ _ (by simp) (hT0.grown (by omega) ((Below.refl _ _).alloc (Nat.le_refl _) _))).mono ?_
        rintro e w2 ⟨⟨sv, rfl, hrow⟩, hb2⟩
        have hI := Lib.hid (Ints.of_owns hrow)
        clear hrow
        have z2wo0 : wo.heap.size < w2.heap.size := (by have := hb2.size; (try simp at this); omega)
        have q2wo0 := fun o => hb2.cell (p := ⟨wo.heap.size, o, none⟩) (by first | omega | (simp; done) | (simp; omega))
        have r2wo0 := fun o => hb2.frozen (p := ⟨wo.heap.size, o, none⟩) (by first | omega | (simp; done) | (simp; omega))
        obtain ⟨wz, hwz⟩ : ∃ wz, wz = wo := ⟨_, rfl⟩
        obtain ⟨L, hL⟩ : ∃ L, slotsK (y1, y2) 96 = L := ⟨_, rfl⟩
        have HL := Lib.hid hL
        have HC := Lib.hid (cnt_list (y1, y2))
        rw [hL] at hI HC
        clear hL
        subst hwz
        go_wp2
        refine wp_grow [(2, .rel (fun v w => Ints w v L) (fun _ _ _ h hg => h.grown hg)), (3, .val (.bool true)), (7, .val (.int .i64 (L.length : Nat))), (9, .rel (fun v w => Ints w v L) (fun _ _ _ h hg => h.grown hg))] 13 (by kernel_rfl) (by kernel_rfl) (by rfl) (by rfl) ?_
        simp only [List.take_succ_cons, List.take_zero, List.drop_succ_cons, List.drop_zero]
        repeat (first
          | (apply Der.quiet; (rfl); (rfl); (intro w' hw' hctx; have hc' := bcell hw'; have ywz0 := fun o => hw'.cell (p := ⟨wz.heap.size, o, none⟩) (by first | omega | (simp; done) | (simp; omega)); clear hctx; go_simp; first | exact rfl | exact ⟨rfl, rfl⟩); simp only [Act.put, List.setIfInBounds_toArray, List.set_cons_succ, List.set_cons_zero, Nat.reduceAdd])
          | (apply Der.skip; (rfl); simp only [Act.put, List.setIfInBounds_toArray, List.set_cons_succ, List.set_cons_zero, Nat.reduceAdd]))
        refine Der.rel (by rfl) (by rfl) (fun w' hw' hctx => ?_) (fun v3 => ?_)
        · (go_simp; refine (r_Slots _ _ _).mono ?_; rintro e w3 ⟨⟨x, rfl, hx⟩, hb⟩; rw [HL.out] at hx; exact ⟨x, rfl, Ints.of_owns hx, hb⟩)
        simp only [Act.put, List.setIfInBounds_toArray, List.set_cons_succ, List.set_cons_zero, Nat.reduceAdd]
        apply Der.val
        · rfl
        · rfl
        · (intro w' hw' hctx; go_simp; refine (r_SameInts _ _ _ _ _ (hI.out.grown (undrew hw')) (hctx 2 _ _ (by kernel_rfl) rfl rfl)).mono ?_; rintro e w2 ⟨rfl, hb⟩; exact ⟨_, rfl, congrArg Value.bool (decide_eq_true rfl), hb⟩)
        simp only [Act.put, List.setIfInBounds_toArray, List.set_cons_succ, List.set_cons_zero, Nat.reduceAdd]
        repeat (first
          | (apply Der.quiet; (rfl); (rfl); (intro w' hw' hctx; have hc' := bcell hw'; have ywz0 := fun o => hw'.cell (p := ⟨wz.heap.size, o, none⟩) (by first | omega | (simp; done) | (simp; omega)); clear hctx; go_simp; first | exact rfl | exact ⟨rfl, rfl⟩); simp only [Act.put, List.setIfInBounds_toArray, List.set_cons_succ, List.set_cons_zero, Nat.reduceAdd])
          | (apply Der.skip; (rfl); simp only [Act.put, List.setIfInBounds_toArray, List.set_cons_succ, List.set_cons_zero, Nat.reduceAdd]))
        apply Der.val
        · rfl
        · rfl
        · (intro w' hw' hctx; go_simp; refine (f_Count _ _ _).mono ?_; rintro e w2 ⟨rfl, hb⟩; exact ⟨_, rfl, congrArg (Value.int .i64) HC.out, hb⟩)
        simp only [Act.put, List.setIfInBounds_toArray, List.set_cons_succ, List.set_cons_zero, Nat.reduceAdd]
        repeat (first
          | (apply Der.quiet; (rfl); (rfl); (intro w' hw' hctx; have hc' := bcell hw'; have ywz0 := fun o => hw'.cell (p := ⟨wz.heap.size, o, none⟩) (by first | omega | (simp; done) | (simp; omega)); clear hctx; go_simp; first | exact rfl | exact ⟨rfl, rfl⟩); simp only [Act.put, List.setIfInBounds_toArray, List.set_cons_succ, List.set_cons_zero, Nat.reduceAdd])
          | (apply Der.skip; (rfl); simp only [Act.put, List.setIfInBounds_toArray, List.set_cons_succ, List.set_cons_zero, Nat.reduceAdd]))
        refine Der.rel (by rfl) (by rfl) (fun w' hw' hctx => ?_) (fun v4 => ?_)
        · (go_simp; refine (r_Slots _ _ _).mono ?_; rintro e w3 ⟨⟨x, rfl, hx⟩, hb⟩; rw [HL.out] at hx; exact ⟨x, rfl, Ints.of_owns hx, hb⟩)
        simp only [Act.put, List.setIfInBounds_toArray, List.set_cons_succ, List.set_cons_zero, Nat.reduceAdd]
        (first
          | (apply Der.quiet; (rfl); (rfl); (intro w' hw' hctx; have hc' := bcell hw'; obtain ⟨_, _, e9, -, -, -⟩ := (show Ints w' v4 L from hctx 9 _ _ (by kernel_rfl) rfl rfl).open; subst e9; clear hctx; go_simp; first | exact rfl | exact ⟨rfl, rfl⟩); simp only [Act.put, List.setIfInBounds_toArray, List.set_cons_succ, List.set_cons_zero, Nat.reduceAdd])
          | (apply Der.skip; (rfl); simp only [Act.put, List.setIfInBounds_toArray, List.set_cons_succ, List.set_cons_zero, Nat.reduceAdd]))
        repeat (first
          | (apply Der.quiet; (rfl); (rfl); (intro w' hw' hctx; have hc' := bcell hw'; have ywz0 := fun o => hw'.cell (p := ⟨wz.heap.size, o, none⟩) (by first | omega | (simp; done) | (simp; omega)); clear hctx; go_simp; first | exact rfl | exact ⟨rfl, rfl⟩); simp only [Act.put, List.setIfInBounds_toArray, List.set_cons_succ, List.set_cons_zero, Nat.reduceAdd])
          | (apply Der.skip; (rfl); simp only [Act.put, List.setIfInBounds_toArray, List.set_cons_succ, List.set_cons_zero, Nat.reduceAdd]))
        refine Der.nil (fun w3 hgw3 hctx => ?_)
        clear hctx
        have hb3 : Below _ _ w3 := hgw3
        clear hgw3
        have z3wz0 : wz.heap.size < w3.heap.size := (by have := hb3.size; (try simp at this); omega)
        have q3wz0 := fun o => hb3.cell (p := ⟨wz.heap.size, o, none⟩) (by first | omega | (simp; done) | (simp; omega))
        have r3wz0 := fun o => hb3.frozen (p := ⟨wz.heap.size, o, none⟩) (by first | omega | (simp; done) | (simp; omega))
        have hB3 : Below wz.heap.size wz w3 := by ((have shb3 := hb3.size); (try simp at shb3); (have shb2 := hb2.size); (try simp at shb2); (repeat' (first | (with_reducible exact Below.refl _ _) | (with_reducible refine Below.setCell ?_ ?_ _) | (with_reducible refine Below.alloc ?_ ?_ _) | (with_reducible refine Below.drew ?_) | (with_reducible refine Below.trans ?_ (Below.mono hb3 ?_)) | (with_reducible refine Below.trans ?_ (Below.mono hb2 ?_)) | go_size)))
        have hB3' : Below w.heap.size w w3 := by ((have shB3 := hB3.size); (try simp at shB3); (have shBr := hBr.size); (try simp at shBr); (repeat' (first | (with_reducible exact Below.refl _ _) | (with_reducible refine Below.setCell ?_ ?_ _) | (with_reducible refine Below.alloc ?_ ?_ _) | (with_reducible refine Below.drew ?_) | (with_reducible refine Below.trans ?_ (Below.mono hB3 ?_)) | (with_reducible refine Below.trans ?_ (Below.mono hBr ?_)) | go_size)))
        have hT3 := HT.out.grown h0 hB3'
        have hm0 : w3.cell? ⟨wz.heap.size, 0, none⟩ = some (.int .u64 (U y1)) := by rw [q3wz0]; go_simp
        have hm1 : w3.cell? ⟨wz.heap.size, 1, none⟩ = some (.int .u64 (U y2)) := by rw [q3wz0]; go_simp
        have hcz := Lib.hid (fun (x : Int) (q : Int) (hq : (if x < 0 then 0 else x) = q) => place_list (y1, y2) x q hq)
        clear q3wz0 r3wz0 q2wo0 r2wo0 hb3 hb2 hT0 e1 e2
        go_wp2
        go_loopw [42] (fun i wr => ∃ j : Nat, j ≤ ps.length ∧ i = .int .i64 j ∧ Below w3.heap.size w3 wr) (fun i _ => ps.length - (intOf i).toNat)
        case atStart => exact ⟨0, Nat.zero_le _, rfl, Below.refl _ _⟩
        case round =>
          obtain ⟨j, hj, rfl, hB4⟩ := hrel
          have hs4 := hB4.size
          have n0 := (hB4.cell (p := ⟨wz.heap.size, 0, none⟩) z3wz0).trans hm0
          have n1 := (hB4.cell (p := ⟨wz.heap.size, 1, none⟩) z3wz0).trans hm1
          have hT4 := hT3.grown (by omega) hB4
          by_cases hltj : j < ps.length
          · obtain ⟨x, b', off', hx, rfl, hlt', g1⟩ : ∃ x, ∃ b off, ps[j] = x ∧ a' = some ⟨b, off, none⟩ ∧ b < w.heap.size ∧ w.cell? ⟨b, off + j, none⟩ = some (.int .i64 x) := by
              obtain ⟨b', off', h1, h2, h3⟩ := Hc'.out j hltj
              exact ⟨_, b', off', rfl, h1, h2, h3⟩
            have hx2 := HP.out x (hx ▸ List.getElem_mem hltj)
            have e1 := ((hB3'.trans (hB4.mono (by omega))).cell (p := ⟨b', off' + j, none⟩) hlt').trans g1
            clear g1 hx
            by_cases h20 : (j : Int) = 20
            · have h20' : j = 20 := by omega
              subst h20'
              clear h20
              go_wp2
              go_roundw
              case rel => exact ⟨k + 1, by omega, by go_num, by ((have shB4 := hB4.size); (try simp at shB4); (have shB3' := hB3'.size); (try simp at shB3'); (repeat' (first | (with_reducible exact Below.refl _ _) | (with_reducible refine Below.setCell ?_ ?_ _) | (with_reducible refine Below.alloc ?_ ?_ _) | (with_reducible refine Below.drew ?_) | (with_reducible refine Below.trans ?_ (Below.mono hB4 ?_)) | (with_reducible refine Below.trans ?_ (Below.mono hB3' ?_)) | go_size)))⟩
              case measure => simp [intOf]; omega
            · have h20' : ((j : Int) == 20) = false := by simpa using h20
              clear h20
              obtain ⟨q, hq⟩ : ∃ q, (if x < 0 then 0 else x) = q := ⟨_, rfl⟩
              have q0 : 0 ≤ q := by split at hq <;> omega
              have q1 : q ≤ 9223372036854775807 := by split at hq <;> omega
              have hpl' := hcz.out x q hq
              rw [HL.out] at hpl'
              obtain ⟨Y, hY⟩ : ∃ Y : Int, ((cntL L x L.length : Nat) : Int) = Y := ⟨_, rfl⟩
              rw [hY] at hpl'
              have hpl := Lib.hid hpl'
              have HY := Lib.hid hY
              obtain ⟨X, hX⟩ : ∃ X, hasN (y1, y2) x = X := ⟨_, rfl⟩
              have HX := Lib.hid hX
              clear hpl' hY hX
              have HQ := Lib.hid hq
              clear hq
              go_wp2_with fail
              refine (f_Next _ _ _ q HQ.out hx2.2 _ (by omega) hT4).mono ?_
              rintro e w5 ⟨rfl, hb5⟩
              have z5wz0 : wz.heap.size < w5.heap.size := (by have := hb5.size; (try simp at this); omega)
              have q5wz0 := fun o => hb5.cell (p := ⟨wz.heap.size, o, none⟩) (by first | omega | (simp; done) | (simp; omega))
              have r5wz0 := fun o => hb5.frozen (p := ⟨wz.heap.size, o, none⟩) (by first | omega | (simp; done) | (simp; omega))
              go_wp2_with fail
              refine (r_Next _ _ _ _).mono ?_
              rintro e w6 ⟨rfl, hb6⟩
              rw [HL.out]
              have z6wz0 : wz.heap.size < w6.heap.size := (by have := hb6.size; (try simp at this); omega)
              have q6wz0 := fun o => hb6.cell (p := ⟨wz.heap.size, o, none⟩) (by first | omega | (simp; done) | (simp; omega))
              have r6wz0 := fun o => hb6.frozen (p := ⟨wz.heap.size, o, none⟩) (by first | omega | (simp; done) | (simp; omega))
              generalize hN : nextF L x = N at *
              obtain ⟨N1, N2⟩ := N
              go_wp2
              refine wp_grow [(11, .val (.bool X)), (14, .val (.bool X)), (20, .val (.int .i64 Y)), (23, .val (.int .i64 Y))] 26 (by kernel_rfl) (by kernel_rfl) (by rfl) (by rfl) ?_
              simp only [List.take_succ_cons, List.take_zero, List.drop_succ_cons, List.drop_zero]
              repeat (first
                | (apply Der.quiet; (rfl); (rfl); (intro w' hw' hctx; have hc' := bcell hw'; have ywz0 := fun o => hw'.cell (p := ⟨wz.heap.size, o, none⟩) (by first | omega | (simp; done) | (simp; omega)); clear hctx; go_simp; first | exact rfl | exact ⟨rfl, rfl⟩); simp only [Act.put, List.setIfInBounds_toArray, List.set_cons_succ, List.set_cons_zero, Nat.reduceAdd])
                | (apply Der.skip; (rfl); simp only [Act.put, List.setIfInBounds_toArray, List.set_cons_succ, List.set_cons_zero, Nat.reduceAdd]))
              apply Der.val
              · rfl
              · rfl
              · (intro w' hw' hctx; go_simp; refine (f_Has_any _ _ _ _).mono ?_; rintro e w2 ⟨rfl, hb⟩; exact ⟨_, rfl, congrArg Value.bool HX.out, hb⟩)
              simp only [Act.put, List.setIfInBounds_toArray, List.set_cons_succ, List.set_cons_zero, Nat.reduceAdd]
              repeat (first
                | (apply Der.quiet; (rfl); (rfl); (intro w' hw' hctx; have hc' := bcell hw'; have ywz0 := fun o => hw'.cell (p := ⟨wz.heap.size, o, none⟩) (by first | omega | (simp; done) | (simp; omega)); clear hctx; go_simp; first | exact rfl | exact ⟨rfl, rfl⟩); simp only [Act.put, List.setIfInBounds_toArray, List.set_cons_succ, List.set_cons_zero, Nat.reduceAdd])
                | (apply Der.skip; (rfl); simp only [Act.put, List.setIfInBounds_toArray, List.set_cons_succ, List.set_cons_zero, Nat.reduceAdd]))
              apply Der.val
              · rfl
              · rfl
              · (intro w' hw' hctx; go_simp; refine (r_Has_any _ _ _ _).mono ?_; rintro e w2 ⟨rfl, hb⟩; exact ⟨_, rfl, congrArg Value.bool HX.out, hb⟩)
              simp only [Act.put, List.setIfInBounds_toArray, List.set_cons_succ, List.set_cons_zero, Nat.reduceAdd]
              repeat (first
                | (apply Der.quiet; (rfl); (rfl); (intro w' hw' hctx; have hc' := bcell hw'; have ywz0 := fun o => hw'.cell (p := ⟨wz.heap.size, o, none⟩) (by first | omega | (simp; done) | (simp; omega)); clear hctx; go_simp; first | exact rfl | exact ⟨rfl, rfl⟩); simp only [Act.put, List.setIfInBounds_toArray, List.set_cons_succ, List.set_cons_zero, Nat.reduceAdd])
                | (apply Der.skip; (rfl); simp only [Act.put, List.setIfInBounds_toArray, List.set_cons_succ, List.set_cons_zero, Nat.reduceAdd]))
              apply Der.val
              · rfl
              · rfl
              · (intro w' hw' hctx; go_simp; refine (f_Place _ _ _ q HQ.out q0 q1 _).mono ?_; rintro e w2 ⟨rfl, hb⟩; exact ⟨_, rfl, congrArg (Value.int .i64) hpl.out, hb⟩)
              simp only [Act.put, List.setIfInBounds_toArray, List.set_cons_succ, List.set_cons_zero, Nat.reduceAdd]
              repeat (first
                | (apply Der.quiet; (rfl); (rfl); (intro w' hw' hctx; have hc' := bcell hw'; have ywz0 := fun o => hw'.cell (p := ⟨wz.heap.size, o, none⟩) (by first | omega | (simp; done) | (simp; omega)); clear hctx; go_simp; first | exact rfl | exact ⟨rfl, rfl⟩); simp only [Act.put, List.setIfInBounds_toArray, List.set_cons_succ, List.set_cons_zero, Nat.reduceAdd])
                | (apply Der.skip; (rfl); simp only [Act.put, List.setIfInBounds_toArray, List.set_cons_succ, List.set_cons_zero, Nat.reduceAdd]))
              apply Der.val
              · rfl
              · rfl
              · (intro w' hw' hctx; go_simp; refine (r_Place _ _ _ _).mono ?_; rintro e w2 ⟨rfl, hb⟩; exact ⟨_, rfl, congrArg (Value.int .i64) (by rw [HL.out]; exact HY.out), hb⟩)
              simp only [Act.put, List.setIfInBounds_toArray, List.set_cons_succ, List.set_cons_zero, Nat.reduceAdd]
              repeat (first
                | (apply Der.quiet; (rfl); (rfl); (intro w' hw' hctx; have hc' := bcell hw'; have ywz0 := fun o => hw'.cell (p := ⟨wz.heap.size, o, none⟩) (by first | omega | (simp; done) | (simp; omega)); clear hctx; go_simp; first | exact rfl | exact ⟨rfl, rfl⟩); simp only [Act.put, List.setIfInBounds_toArray, List.set_cons_succ, List.set_cons_zero, Nat.reduceAdd])
                | (apply Der.skip; (rfl); simp only [Act.put, List.setIfInBounds_toArray, List.set_cons_succ, List.set_cons_zero, Nat.reduceAdd]))
              refine Der.nil (fun w7 hgw7 hctx => ?_)
              clear hctx
              have hb7 : Below _ _ w7 := hgw7
              clear hgw7
              go_wp2
              go_roundw
              case rel => exact ⟨j + 1, by omega, by go_num, by ((have shb7 := hb7.size); (try simp at shb7); (have shb6 := hb6.size); (try simp at shb6); (have shb5 := hb5.size); (try simp at shb5); (have shB4 := hB4.size); (try simp at shB4); (repeat' (first | (with_reducible exact Below.refl _ _) | (with_reducible refine Below.setCell ?_ ?_ _) | (with_reducible refine Below.alloc ?_ ?_ _) | (with_reducible refine Below.drew ?_) | (with_reducible refine Below.trans ?_ (Below.mono hb7 ?_)) | (with_reducible refine Below.trans ?_ (Below.mono hb6 ?_)) | (with_reducible refine Below.trans ?_ (Below.mono hb5 ?_)) | (with_reducible refine Below.trans ?_ (Below.mono hB4 ?_)) | go_size)))⟩
              case measure => simp [intOf]; omega
          · have : j = ps.length := by omega
            subst this
            go_wp2
            go_roundw
            case rel => exact ⟨k + 1, by omega, by go_num, by ((have shB4 := hB4.size); (try simp at shB4); (have shB3' := hB3'.size); (try simp at shB3'); (repeat' (first | (with_reducible exact Below.refl _ _) | (with_reducible refine Below.setCell ?_ ?_ _) | (with_reducible refine Below.alloc ?_ ?_ _) | (with_reducible refine Below.drew ?_) | (with_reducible refine Below.trans ?_ (Below.mono hB4 ?_)) | (with_reducible refine Below.trans ?_ (Below.mono hB3' ?_)) | go_size)))⟩
            case measure => simp [intOf]; omega
    · have : k = l.length := by omega
      subst this
      go_wp2
      go_ret
      exact ⟨rfl, hBr⟩
end Go.Proofs.YtbanmngngfanhaaDoor
