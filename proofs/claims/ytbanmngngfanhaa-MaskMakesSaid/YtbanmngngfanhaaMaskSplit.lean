/- The walk of MaskSplit: what it asks comes out true. -/
import Derived.Test.YtbanmngngfanhaaMaskE
namespace Go.Proofs.Ytbanmngngfanhaa
open Go.RowKit

def rangeM (a b : Int) : M := (lowBits b &&& ~~~ lowBits a, lowBits (b - 64) &&& ~~~ lowBits (a - 64))
def belowM (n : Int) : M := (lowBits n, lowBits (n - 64))

theorem ones_bit (i : Nat) (h : i < 64) : ones.getLsbD i = true := by unfold ones; rw [BitVec.getLsbD_allOnes]; simp [h]
theorem low32_bit (i : Nat) (h : i < 64) : low32.getLsbD i = decide (i < 32) := by
  have : low32 = BitVec.ofNat 64 (2 ^ 32 - 1) := by decide
  rw [this, BitVec.getLsbD_ofNat, Nat.testBit_two_pow_sub_one]; simp [h]
theorem lowBits_bit (k : Int) (i : Nat) (h : i < 64) : (lowBits k).getLsbD i = decide ((i : Int) < k) := by
  unfold lowBits
  split
  · rw [ones_bit i h]; symm; simp; omega
  · split
    · rw [BitVec.getLsbD_ofNat, Nat.testBit_two_pow_sub_one]; simp [h]; try omega
    · simp; try omega
/-- The plain law beneath: whatever is below a number, and what is not, are all. -/
theorem split_law (m : M) (q : Int) :
    andAll [rangeM 0 q, rangeM q 96] = mZero ∧ orF [rangeM 0 q, rangeM q 96] = andAll [] ∧ andAll [m, rangeM 0 q] = mAnd (mAnd m (belowM q)) mAll ∧
    orF [andAll [m, rangeM 0 q], andAll [m, rangeM q 96]] = andAll [m] := by
  refine ⟨?_, ?_, ?_, ?_⟩
  all_goals
    simp only [andAll, orF, orAll, List.foldl_cons, List.foldl_nil, mAnd, mOr, mZero, mAll, rangeM, belowM]
    refine Prod.ext ?_ ?_
    all_goals
      apply BitVec.eq_of_getLsbD_eq
      intro i hi
      simp only [BitVec.getLsbD_and, BitVec.getLsbD_or, BitVec.getLsbD_not, ones_bit i hi, low32_bit i hi, lowBits_bit _ i hi, BitVec.getLsbD_zero, hi, decide_true, Bool.true_and, Bool.false_or]
      rw [Bool.eq_iff_iff]
      cases m.1.getLsbD i <;> cases m.2.getLsbD i <;> simp <;> try omega
theorem split_q (n : Int) : 0 ≤ wrap64 ((IntKind.u64.wrap n).tmod 97) ∧ wrap64 ((IntKind.u64.wrap n).tmod 97) ≤ 96 := by
  rw [IntKind.wrap_u64, tmod_of_emod]; unfold wrap64; omega

set_option maxHeartbeats 1000000 in
theorem f_MaskSplit (a b : BitVec 64) (n : Int) (w : World) : Calls Try.prog 7 #[MV a b, .int .i64 n] w fun e w' => e = .returned (.bool true) ∧ Below w.heap.size w w' := by
  go_enter Try.func7, Try.ntmps7
  go_wp2_with fail
  refine (f_wakes _).mono ?_
  rintro e w1 ⟨rfl, hb1⟩
  have z1w0 : w.heap.size < w1.heap.size := (by have := hb1.size; (try simp at this); omega)
  have q1w0 := fun o => hb1.cell (p := ⟨w.heap.size, o, none⟩) (by first | omega | (simp; done) | (simp; omega))
  have r1w0 := fun o => hb1.frozen (p := ⟨w.heap.size, o, none⟩) (by first | omega | (simp; done) | (simp; omega))
  go_wp2_with fail
  obtain ⟨q0, q1⟩ := split_q n
  generalize wrap64 ((IntKind.u64.wrap n).tmod 97) = q at *
  have law := Lib.hid (split_law (a, b) q)
  refine (f_Range 0 q (by omega) q0 q1 _).mono ?_
  rintro e w2 ⟨rfl, hb2⟩
  have z2w0 : w.heap.size < w2.heap.size := (by have := hb2.size; (try simp at this); omega)
  have q2w0 := fun o => hb2.cell (p := ⟨w.heap.size, o, none⟩) (by first | omega | (simp; done) | (simp; omega))
  have r2w0 := fun o => hb2.frozen (p := ⟨w.heap.size, o, none⟩) (by first | omega | (simp; done) | (simp; omega))
  go_wp2_with fail
  refine (f_Range q 96 q0 q1 (by omega) _).mono ?_
  rintro e w3 ⟨rfl, hb3⟩
  have z3w0 : w.heap.size < w3.heap.size := (by have := hb3.size; (try simp at this); omega)
  have q3w0 := fun o => hb3.cell (p := ⟨w.heap.size, o, none⟩) (by first | omega | (simp; done) | (simp; omega))
  have r3w0 := fun o => hb3.frozen (p := ⟨w.heap.size, o, none⟩) (by first | omega | (simp; done) | (simp; omega))
  have z3w20 : w2.heap.size < w3.heap.size := (by have := hb3.size; (try simp at this); omega)
  have q3w20 := fun o => hb3.cell (p := ⟨w2.heap.size, o, none⟩) (by first | omega | (simp; done) | (simp; omega))
  have r3w20 := fun o => hb3.frozen (p := ⟨w2.heap.size, o, none⟩) (by first | omega | (simp; done) | (simp; omega))
  go_wp2_with fail
  refine (f_And _ [rangeM 0 q, rangeM q 96] _ (Sl.fresh _ 27 2 _ (by simp) (by omega))).mono ?_
  rintro e w4 ⟨rfl, hb4⟩
  have z4w0 : w.heap.size < w4.heap.size := (by have := hb4.size; (try simp at this); omega)
  have q4w0 := fun o => hb4.cell (p := ⟨w.heap.size, o, none⟩) (by first | omega | (simp; done) | (simp; omega))
  have r4w0 := fun o => hb4.frozen (p := ⟨w.heap.size, o, none⟩) (by first | omega | (simp; done) | (simp; omega))
  have z4w20 : w2.heap.size < w4.heap.size := (by have := hb4.size; (try simp at this); omega)
  have q4w20 := fun o => hb4.cell (p := ⟨w2.heap.size, o, none⟩) (by first | omega | (simp; done) | (simp; omega))
  have r4w20 := fun o => hb4.frozen (p := ⟨w2.heap.size, o, none⟩) (by first | omega | (simp; done) | (simp; omega))
  have z4w30 : w3.heap.size < w4.heap.size := (by have := hb4.size; (try simp at this); omega)
  have q4w30 := fun o => hb4.cell (p := ⟨w3.heap.size, o, none⟩) (by first | omega | (simp; done) | (simp; omega))
  have r4w30 := fun o => hb4.frozen (p := ⟨w3.heap.size, o, none⟩) (by first | omega | (simp; done) | (simp; omega))
  rw [law.out.1, mZero]
  go_wp2_with fail
  refine (f_Or _ [rangeM 0 q, rangeM q 96] _ (Sl.fresh _ 27 2 _ (by simp) (by omega))).mono ?_
  rintro e w5 ⟨rfl, hb5⟩
  have z5w0 : w.heap.size < w5.heap.size := (by have := hb5.size; (try simp at this); omega)
  have q5w0 := fun o => hb5.cell (p := ⟨w.heap.size, o, none⟩) (by first | omega | (simp; done) | (simp; omega))
  have r5w0 := fun o => hb5.frozen (p := ⟨w.heap.size, o, none⟩) (by first | omega | (simp; done) | (simp; omega))
  have z5w20 : w2.heap.size < w5.heap.size := (by have := hb5.size; (try simp at this); omega)
  have q5w20 := fun o => hb5.cell (p := ⟨w2.heap.size, o, none⟩) (by first | omega | (simp; done) | (simp; omega))
  have r5w20 := fun o => hb5.frozen (p := ⟨w2.heap.size, o, none⟩) (by first | omega | (simp; done) | (simp; omega))
  have z5w30 : w3.heap.size < w5.heap.size := (by have := hb5.size; (try simp at this); omega)
  have q5w30 := fun o => hb5.cell (p := ⟨w3.heap.size, o, none⟩) (by first | omega | (simp; done) | (simp; omega))
  have r5w30 := fun o => hb5.frozen (p := ⟨w3.heap.size, o, none⟩) (by first | omega | (simp; done) | (simp; omega))
  rw [law.out.2.1]
  go_wp2_with fail
  refine (f_And _ [] _ (Sl.nilS _)).mono ?_
  rintro e w6 ⟨rfl, hb6⟩
  have z6w0 : w.heap.size < w6.heap.size := (by have := hb6.size; (try simp at this); omega)
  have q6w0 := fun o => hb6.cell (p := ⟨w.heap.size, o, none⟩) (by first | omega | (simp; done) | (simp; omega))
  have r6w0 := fun o => hb6.frozen (p := ⟨w.heap.size, o, none⟩) (by first | omega | (simp; done) | (simp; omega))
  have z6w20 : w2.heap.size < w6.heap.size := (by have := hb6.size; (try simp at this); omega)
  have q6w20 := fun o => hb6.cell (p := ⟨w2.heap.size, o, none⟩) (by first | omega | (simp; done) | (simp; omega))
  have r6w20 := fun o => hb6.frozen (p := ⟨w2.heap.size, o, none⟩) (by first | omega | (simp; done) | (simp; omega))
  have z6w30 : w3.heap.size < w6.heap.size := (by have := hb6.size; (try simp at this); omega)
  have q6w30 := fun o => hb6.cell (p := ⟨w3.heap.size, o, none⟩) (by first | omega | (simp; done) | (simp; omega))
  have r6w30 := fun o => hb6.frozen (p := ⟨w3.heap.size, o, none⟩) (by first | omega | (simp; done) | (simp; omega))
  go_wp2
  obtain ⟨-, -, l3, l4⟩ := law.out
  have e1 : cntF (andAll [(a, b), rangeM 0 q]).1 (andAll [(a, b), rangeM 0 q]).2 = cntF (a &&& lowBits q) (b &&& lowBits (q - 64)) := by
    rw [l3]; unfold cntF mAnd mAll belowM; congr 2 <;> simp [BitVec.and_assoc]
  have E1 := Lib.hid e1
  have L4 := Lib.hid l4
  clear e1 l3 l4
  obtain ⟨X, hX⟩ : ∃ X : Int, cntF (a &&& lowBits q) (b &&& lowBits (q - 64)) = X := ⟨_, rfl⟩
  obtain ⟨Y, hY⟩ : ∃ Y : M, andAll [(a, b)] = Y := ⟨_, rfl⟩
  rw [hX] at E1
  rw [hY] at L4
  have HX := Lib.hid hX
  have HY := Lib.hid hY
  clear hX hY
  have m1 : (if q < 0 then 0 else q) = q := by rw [if_neg (by omega)]
  refine wp_grow [(2, .rel (fun v w => Masks w v [(a, b), rangeM 0 q]) (fun _ _ _ h hg => h.grown hg)), (3, .val (MV (andAll [(a, b), rangeM 0 q]).1 (andAll [(a, b), rangeM 0 q]).2)), (4, .val (.int .i64 X)), (7, .val (.int .i64 X)), (12, .rel (fun v w => Masks w v [(a, b), rangeM 0 q]) (fun _ _ _ h hg => h.grown hg)), (13, .val (MV (andAll [(a, b), rangeM 0 q]).1 (andAll [(a, b), rangeM 0 q]).2)), (16, .rel (fun v w => Masks w v [(a, b), rangeM q 96]) (fun _ _ _ h hg => h.grown hg)), (17, .val (MV (andAll [(a, b), rangeM q 96]).1 (andAll [(a, b), rangeM q 96]).2)), (18, .rel (fun v w => Masks w v [andAll [(a, b), rangeM 0 q], andAll [(a, b), rangeM q 96]]) (fun _ _ _ h hg => h.grown hg)), (19, .val (MV Y.1 Y.2)), (21, .rel (fun v w => Masks w v [(a, b)]) (fun _ _ _ h hg => h.grown hg)), (22, .val (MV Y.1 Y.2))] 25 (by kernel_rfl) (by kernel_rfl) (by rfl) (by rfl) ?_
  simp only [List.take_succ_cons, List.take_zero, List.drop_succ_cons, List.drop_zero]
  repeat (first
    | (apply Der.quiet; (rfl); (rfl); (intro w' hw' hctx; have hc' := bcell hw'; have y1 := fun o => hw'.cell (p := ⟨w.heap.size, o, none⟩) (by simp; omega); have y2 := fun o => hw'.cell (p := ⟨w2.heap.size, o, none⟩) (by simp; omega); have y3 := fun o => hw'.cell (p := ⟨w3.heap.size, o, none⟩) (by simp; omega); clear hctx; go_simp; first | exact rfl | exact ⟨rfl, rfl⟩); simp only [Act.put, List.setIfInBounds_toArray, List.set_cons_succ, List.set_cons_zero, Nat.reduceAdd])
    | (apply Der.skip; (rfl); simp only [Act.put, List.setIfInBounds_toArray, List.set_cons_succ, List.set_cons_zero, Nat.reduceAdd]))
  refine Der.rel (by rfl) (by rfl) (fun w' hw' hctx => ?_) (fun s1 => ?_)
  · (go_simp; exact ⟨Sl.fresh w' _ 2 _ rfl (by omega), (Below.refl _ _).alloc (Nat.le_refl _) _⟩)
  simp only [Act.put, List.setIfInBounds_toArray, List.set_cons_succ, List.set_cons_zero, Nat.reduceAdd]
  apply Der.val
  · rfl
  · rfl
  · (intro w' hw' hctx; go_simp; refine (f_And _ _ _ (hctx 2 _ _ (by kernel_rfl) rfl rfl)).mono ?_; rintro e w2 ⟨rfl, hb⟩; exact ⟨_, rfl, rfl, hb⟩)
  simp only [Act.put, List.setIfInBounds_toArray, List.set_cons_succ, List.set_cons_zero, Nat.reduceAdd]
  apply Der.val
  · rfl
  · rfl
  · (intro w' hw' hctx; go_simp; refine (f_Count _ _ _).mono ?_; rintro e w2 ⟨rfl, hb⟩; exact ⟨_, rfl, congrArg (Value.int .i64) E1.out, hb⟩)
  simp only [Act.put, List.setIfInBounds_toArray, List.set_cons_succ, List.set_cons_zero, Nat.reduceAdd]
  repeat (first
    | (apply Der.quiet; (rfl); (rfl); (intro w' hw' hctx; have hc' := bcell hw'; have y1 := fun o => hw'.cell (p := ⟨w.heap.size, o, none⟩) (by simp; omega); have y2 := fun o => hw'.cell (p := ⟨w2.heap.size, o, none⟩) (by simp; omega); have y3 := fun o => hw'.cell (p := ⟨w3.heap.size, o, none⟩) (by simp; omega); clear hctx; go_simp; first | exact rfl | exact ⟨rfl, rfl⟩); simp only [Act.put, List.setIfInBounds_toArray, List.set_cons_succ, List.set_cons_zero, Nat.reduceAdd])
    | (apply Der.skip; (rfl); simp only [Act.put, List.setIfInBounds_toArray, List.set_cons_succ, List.set_cons_zero, Nat.reduceAdd]))
  apply Der.val
  · rfl
  · rfl
  · (intro w' hw' hctx; go_simp; refine (f_Place _ _ _ q m1 q0 (by omega) _).mono ?_; rintro e w2 ⟨rfl, hb⟩; exact ⟨_, rfl, congrArg (Value.int .i64) HX.out, hb⟩)
  simp only [Act.put, List.setIfInBounds_toArray, List.set_cons_succ, List.set_cons_zero, Nat.reduceAdd]
  repeat (first
    | (apply Der.quiet; (rfl); (rfl); (intro w' hw' hctx; have hc' := bcell hw'; have y1 := fun o => hw'.cell (p := ⟨w.heap.size, o, none⟩) (by simp; omega); have y2 := fun o => hw'.cell (p := ⟨w2.heap.size, o, none⟩) (by simp; omega); have y3 := fun o => hw'.cell (p := ⟨w3.heap.size, o, none⟩) (by simp; omega); clear hctx; go_simp; first | exact rfl | exact ⟨rfl, rfl⟩); simp only [Act.put, List.setIfInBounds_toArray, List.set_cons_succ, List.set_cons_zero, Nat.reduceAdd])
    | (apply Der.skip; (rfl); simp only [Act.put, List.setIfInBounds_toArray, List.set_cons_succ, List.set_cons_zero, Nat.reduceAdd]))
  refine Der.rel (by rfl) (by rfl) (fun w' hw' hctx => ?_) (fun s2 => ?_)
  · (go_simp; exact ⟨Sl.fresh w' _ 2 _ rfl (by omega), (Below.refl _ _).alloc (Nat.le_refl _) _⟩)
  simp only [Act.put, List.setIfInBounds_toArray, List.set_cons_succ, List.set_cons_zero, Nat.reduceAdd]
  apply Der.val
  · rfl
  · rfl
  · (intro w' hw' hctx; go_simp; refine (f_And _ _ _ (hctx 12 _ _ (by kernel_rfl) rfl rfl)).mono ?_; rintro e w2 ⟨rfl, hb⟩; exact ⟨_, rfl, rfl, hb⟩)
  simp only [Act.put, List.setIfInBounds_toArray, List.set_cons_succ, List.set_cons_zero, Nat.reduceAdd]
  repeat (first
    | (apply Der.quiet; (rfl); (rfl); (intro w' hw' hctx; have hc' := bcell hw'; have y1 := fun o => hw'.cell (p := ⟨w.heap.size, o, none⟩) (by simp; omega); have y2 := fun o => hw'.cell (p := ⟨w2.heap.size, o, none⟩) (by simp; omega); have y3 := fun o => hw'.cell (p := ⟨w3.heap.size, o, none⟩) (by simp; omega); clear hctx; go_simp; first | exact rfl | exact ⟨rfl, rfl⟩); simp only [Act.put, List.setIfInBounds_toArray, List.set_cons_succ, List.set_cons_zero, Nat.reduceAdd])
    | (apply Der.skip; (rfl); simp only [Act.put, List.setIfInBounds_toArray, List.set_cons_succ, List.set_cons_zero, Nat.reduceAdd]))
  refine Der.rel (by rfl) (by rfl) (fun w' hw' hctx => ?_) (fun s3 => ?_)
  · (go_simp; exact ⟨Sl.fresh w' _ 2 _ rfl (by omega), (Below.refl _ _).alloc (Nat.le_refl _) _⟩)
  simp only [Act.put, List.setIfInBounds_toArray, List.set_cons_succ, List.set_cons_zero, Nat.reduceAdd]
  apply Der.val
  · rfl
  · rfl
  · (intro w' hw' hctx; go_simp; refine (f_And _ _ _ (hctx 16 _ _ (by kernel_rfl) rfl rfl)).mono ?_; rintro e w2 ⟨rfl, hb⟩; exact ⟨_, rfl, rfl, hb⟩)
  simp only [Act.put, List.setIfInBounds_toArray, List.set_cons_succ, List.set_cons_zero, Nat.reduceAdd]
  refine Der.rel (by rfl) (by rfl) (fun w' hw' hctx => ?_) (fun s4 => ?_)
  · (go_simp; exact ⟨Sl.fresh w' _ 2 _ rfl (by omega), (Below.refl _ _).alloc (Nat.le_refl _) _⟩)
  simp only [Act.put, List.setIfInBounds_toArray, List.set_cons_succ, List.set_cons_zero, Nat.reduceAdd]
  apply Der.val
  · rfl
  · rfl
  · (intro w' hw' hctx; go_simp; refine (f_Or _ _ _ (hctx 18 _ _ (by kernel_rfl) rfl rfl)).mono ?_; rintro e w2 ⟨rfl, hb⟩; exact ⟨_, rfl, by rw [L4.out], hb⟩)
  simp only [Act.put, List.setIfInBounds_toArray, List.set_cons_succ, List.set_cons_zero, Nat.reduceAdd]
  repeat (first
    | (apply Der.quiet; (rfl); (rfl); (intro w' hw' hctx; have hc' := bcell hw'; have y1 := fun o => hw'.cell (p := ⟨w.heap.size, o, none⟩) (by simp; omega); have y2 := fun o => hw'.cell (p := ⟨w2.heap.size, o, none⟩) (by simp; omega); have y3 := fun o => hw'.cell (p := ⟨w3.heap.size, o, none⟩) (by simp; omega); clear hctx; go_simp; first | exact rfl | exact ⟨rfl, rfl⟩); simp only [Act.put, List.setIfInBounds_toArray, List.set_cons_succ, List.set_cons_zero, Nat.reduceAdd])
    | (apply Der.skip; (rfl); simp only [Act.put, List.setIfInBounds_toArray, List.set_cons_succ, List.set_cons_zero, Nat.reduceAdd]))
  refine Der.rel (by rfl) (by rfl) (fun w' hw' hctx => ?_) (fun s5 => ?_)
  · (go_simp; exact ⟨Sl.fresh w' _ 1 _ rfl (by omega), (Below.refl _ _).alloc (Nat.le_refl _) _⟩)
  simp only [Act.put, List.setIfInBounds_toArray, List.set_cons_succ, List.set_cons_zero, Nat.reduceAdd]
  apply Der.val
  · rfl
  · rfl
  · (intro w' hw' hctx; go_simp; refine (f_And _ _ _ (hctx 21 _ _ (by kernel_rfl) rfl rfl)).mono ?_; rintro e w2 ⟨rfl, hb⟩; exact ⟨_, rfl, by rw [HY.out], hb⟩)
  simp only [Act.put, List.setIfInBounds_toArray, List.set_cons_succ, List.set_cons_zero, Nat.reduceAdd]
  repeat (first
    | (apply Der.quiet; (rfl); (rfl); (intro w' hw' hctx; have hc' := bcell hw'; have y1 := fun o => hw'.cell (p := ⟨w.heap.size, o, none⟩) (by simp; omega); have y2 := fun o => hw'.cell (p := ⟨w2.heap.size, o, none⟩) (by simp; omega); have y3 := fun o => hw'.cell (p := ⟨w3.heap.size, o, none⟩) (by simp; omega); clear hctx; go_simp; first | exact rfl | exact ⟨rfl, rfl⟩); simp only [Act.put, List.setIfInBounds_toArray, List.set_cons_succ, List.set_cons_zero, Nat.reduceAdd])
    | (apply Der.skip; (rfl); simp only [Act.put, List.setIfInBounds_toArray, List.set_cons_succ, List.set_cons_zero, Nat.reduceAdd]))
  refine Der.nil (fun w7 hgw7 hctx => ?_)
  clear hctx
  have hb7 : Below _ _ w7 := hgw7
  clear hgw7
  go_wp2
  go_ret
  refine ⟨rfl, ?_⟩
  ((have shb7 := hb7.size); (try simp at shb7); (have shb6 := hb6.size); (try simp at shb6); (have shb5 := hb5.size); (try simp at shb5); (have shb4 := hb4.size); (try simp at shb4); (have shb3 := hb3.size); (try simp at shb3); (have shb2 := hb2.size); (try simp at shb2); (have shb1 := hb1.size); (try simp at shb1); (repeat' (first | (with_reducible exact Below.refl _ _) | (with_reducible refine Below.setCell ?_ ?_ _) | (with_reducible refine Below.alloc ?_ ?_ _) | (with_reducible refine Below.drew ?_) | (with_reducible refine Below.trans ?_ (Below.mono hb7 ?_)) | (with_reducible refine Below.trans ?_ (Below.mono hb6 ?_)) | (with_reducible refine Below.trans ?_ (Below.mono hb5 ?_)) | (with_reducible refine Below.trans ?_ (Below.mono hb4 ?_)) | (with_reducible refine Below.trans ?_ (Below.mono hb3 ?_)) | (with_reducible refine Below.trans ?_ (Below.mono hb2 ?_)) | (with_reducible refine Below.trans ?_ (Below.mono hb1 ?_)) | go_size)))
end Go.Proofs.Ytbanmngngfanhaa
