/- The contracts of Has; of the document's Next, Place, SameInts. -/
import Derived.Test.YtlfmffjlmhpcdaaRefB
namespace Go.Proofs.Ytlfmffjlmhpcdaa
open Go.RowKit
set_option maxRecDepth 100000
attribute [local irreducible] Der

theorem and_bitW (a : BitVec 64) (n : Int) : (a &&& bitW n == 0#64) = !a.getLsbD (n % 64).toNat := by
  have hk : (n % 64).toNat < 64 := by omega
  cases h : a.getLsbD (n % 64).toNat
  · have : a &&& bitW n = 0#64 := by
      apply BitVec.eq_of_getLsbD_eq
      intro i hi
      rw [BitVec.getLsbD_and, bitW_bit n i hi, BitVec.getLsbD_zero]
      by_cases e : (n % 64).toNat = i
      · subst e; rw [h]; rfl
      · simp [e]
    simp [this]
  · have : ¬ a &&& bitW n = 0#64 := by
      intro e
      have := congrArg (fun x => BitVec.getLsbD x (n % 64).toNat) e
      simp only [BitVec.getLsbD_and, bitW_bit n _ hk, h, BitVec.getLsbD_zero] at this
      simp at this
    simp [this]
theorem has_bits (a b : BitVec 64) (n : Int) : ((a &&& bit0 n == 0#64) && (b &&& bit1 n == 0#64)) = !hasM (a, b) n := by
  unfold bit0 bit1 hasM
  by_cases h : n < 64
  · simp only [if_pos h, and_bitW, BitVec.and_zero]; simp
  · simp only [if_neg h, and_bitW, BitVec.and_zero]; simp
theorem f_slot' (n : Int) (w : World) : Calls Try.prog 62 #[.int .i64 n] w fun e w' => e = .returned (.bool (decide (0 ≤ n ∧ n < 96))) ∧ Below w.heap.size w w' :=
  (f_slot n w).mono fun _ _ h => ⟨h.1, h.2 ▸ Below.refl _ _⟩
theorem f_Has_no (a b : BitVec 64) (n : Int) (h : ¬ isSlot n) (w : World) : Calls Try.prog 28 #[MV a b, .int .i64 n] w fun e w' => e = .returned (.bool false) ∧ Below w.heap.size w w' := by
  have hd : (decide (0 ≤ n ∧ n < 96)) = false := decide_eq_false h
  have HD := Lib.hid (congrArg Value.bool hd)
  clear hd h
  go_enter Try.func28, Try.ntmps28
  go_wp2
  refine wp_grow [(1, .val (.bool false))] 10 (by kernel_rfl) (by kernel_rfl) (by rfl) (by rfl) ?_
  simp only [List.take_succ_cons, List.take_zero, List.drop_succ_cons, List.drop_zero]
  repeat (first
    | (apply Der.quiet; (rfl); (rfl); (intro w' hw' hctx; have hc' := bcell hw'; have yw0 := fun o => hw'.cell (p := ⟨w.heap.size, o, none⟩) (by first | omega | (simp; done) | (simp; omega)); clear hctx; go_simp; first | exact rfl | exact ⟨rfl, rfl⟩); simp only [Act.put, List.setIfInBounds_toArray, List.set_cons_succ, List.set_cons_zero, Nat.reduceAdd])
    | (apply Der.skip; (rfl); simp only [Act.put, List.setIfInBounds_toArray, List.set_cons_succ, List.set_cons_zero, Nat.reduceAdd]))
  apply Der.val
  · rfl
  · rfl
  · (intro w' hw' hctx; go_simp; refine (f_slot' _ _).mono ?_; rintro e w2 ⟨rfl, hb⟩; exact ⟨_, rfl, HD.out, hb⟩)
  simp only [Act.put, List.setIfInBounds_toArray, List.set_cons_succ, List.set_cons_zero, Nat.reduceAdd]
  repeat (first
    | (apply Der.quiet; (rfl); (rfl); (intro w' hw' hctx; have hc' := bcell hw'; have yw0 := fun o => hw'.cell (p := ⟨w.heap.size, o, none⟩) (by first | omega | (simp; done) | (simp; omega)); clear hctx; go_simp; first | exact rfl | exact ⟨rfl, rfl⟩); simp only [Act.put, List.setIfInBounds_toArray, List.set_cons_succ, List.set_cons_zero, Nat.reduceAdd])
    | (apply Der.skip; (rfl); simp only [Act.put, List.setIfInBounds_toArray, List.set_cons_succ, List.set_cons_zero, Nat.reduceAdd]))
  refine Der.nil (fun w2 hgw2 hctx => ?_)
  clear hctx
  have hb2 : Below _ _ w2 := hgw2
  clear hgw2
  go_wp2
  go_ret
  refine ⟨rfl, ?_⟩
  ((have shb2 := hb2.size); (try simp at shb2); (repeat' (first | (with_reducible exact Below.refl _ _) | (with_reducible refine Below.setCell ?_ ?_ _) | (with_reducible refine Below.alloc ?_ ?_ _) | (with_reducible refine Below.drew ?_) | (with_reducible refine Below.trans ?_ (Below.mono hb2 ?_)) | go_size)))
theorem f_Has_yes (a b : BitVec 64) (n : Int) (h : isSlot n) (w : World) : Calls Try.prog 28 #[MV a b, .int .i64 n] w fun e w' => e = .returned (.bool (hasM (a, b) n)) ∧ Below w.heap.size w w' := by
  have hd : (decide (0 ≤ n ∧ n < 96)) = true := decide_eq_true h
  have HD := Lib.hid (congrArg Value.bool hd)
  obtain ⟨s0, s1⟩ := h
  clear hd
  have hb := has_bits a b n
  generalize hX : (a &&& bit0 n == 0#64) = X at *
  generalize hY : (b &&& bit1 n == 0#64) = Y at *
  have HB := Lib.hid hb
  clear hb
  go_enter Try.func28, Try.ntmps28
  go_wp2
  refine wp_grow [(1, .val (.bool true)), (5, .val (MV (bit0 n) (bit1 n))), (6, .val (MV (a &&& bit0 n) (b &&& bit1 n)))] 10 (by kernel_rfl) (by kernel_rfl) (by rfl) (by rfl) ?_
  simp only [List.take_succ_cons, List.take_zero, List.drop_succ_cons, List.drop_zero]
  repeat (first
    | (apply Der.quiet; (rfl); (rfl); (intro w' hw' hctx; have hc' := bcell hw'; have yw0 := fun o => hw'.cell (p := ⟨w.heap.size, o, none⟩) (by first | omega | (simp; done) | (simp; omega)); clear hctx; go_simp; first | exact rfl | exact ⟨rfl, rfl⟩); simp only [Act.put, List.setIfInBounds_toArray, List.set_cons_succ, List.set_cons_zero, Nat.reduceAdd])
    | (apply Der.skip; (rfl); simp only [Act.put, List.setIfInBounds_toArray, List.set_cons_succ, List.set_cons_zero, Nat.reduceAdd]))
  apply Der.val
  · rfl
  · rfl
  · (intro w' hw' hctx; go_simp; refine (f_slot' _ _).mono ?_; rintro e w2 ⟨rfl, hb⟩; exact ⟨_, rfl, HD.out, hb⟩)
  simp only [Act.put, List.setIfInBounds_toArray, List.set_cons_succ, List.set_cons_zero, Nat.reduceAdd]
  repeat (first
    | (apply Der.quiet; (rfl); (rfl); (intro w' hw' hctx; have hc' := bcell hw'; have yw0 := fun o => hw'.cell (p := ⟨w.heap.size, o, none⟩) (by first | omega | (simp; done) | (simp; omega)); clear hctx; go_simp; first | exact rfl | exact ⟨rfl, rfl⟩); simp only [Act.put, List.setIfInBounds_toArray, List.set_cons_succ, List.set_cons_zero, Nat.reduceAdd])
    | (apply Der.skip; (rfl); simp only [Act.put, List.setIfInBounds_toArray, List.set_cons_succ, List.set_cons_zero, Nat.reduceAdd]))
  apply Der.val
  · rfl
  · rfl
  · (intro w' hw' hctx; go_simp; refine (f_bit _ s0 s1 _).mono ?_; rintro e w2 ⟨rfl, hb⟩; exact ⟨_, rfl, rfl, hb⟩)
  simp only [Act.put, List.setIfInBounds_toArray, List.set_cons_succ, List.set_cons_zero, Nat.reduceAdd]
  apply Der.val
  · rfl
  · rfl
  · (intro w' hw' hctx; go_simp; refine (f_and _ _ _ _ _).mono ?_; rintro e w2 ⟨rfl, hb⟩; exact ⟨_, rfl, rfl, hb⟩)
  simp only [Act.put, List.setIfInBounds_toArray, List.set_cons_succ, List.set_cons_zero, Nat.reduceAdd]
  repeat (first
    | (apply Der.quiet; (rfl); (rfl); (intro w' hw' hctx; have hc' := bcell hw'; have yw0 := fun o => hw'.cell (p := ⟨w.heap.size, o, none⟩) (by first | omega | (simp; done) | (simp; omega)); clear hctx; go_simp; first | exact rfl | exact ⟨rfl, rfl⟩); simp only [Act.put, List.setIfInBounds_toArray, List.set_cons_succ, List.set_cons_zero, Nat.reduceAdd])
    | (apply Der.skip; (rfl); simp only [Act.put, List.setIfInBounds_toArray, List.set_cons_succ, List.set_cons_zero, Nat.reduceAdd]))
  refine Der.nil (fun w2 hgw2 hctx => ?_)
  clear hctx
  have hb2 : Below _ _ w2 := hgw2
  clear hgw2
  go_wp2
  go_ret
  refine ⟨?_, ?_⟩
  · have e : hasM (a, b) n = !(X && Y) := by rw [HB.out]; simp
    rw [e]
    first | rfl | (cases X <;> cases Y <;> rfl)
  · ((have shb2 := hb2.size); (try simp at shb2); (repeat' (first | (with_reducible exact Below.refl _ _) | (with_reducible refine Below.setCell ?_ ?_ _) | (with_reducible refine Below.alloc ?_ ?_ _) | (with_reducible refine Below.drew ?_) | (with_reducible refine Below.trans ?_ (Below.mono hb2 ?_)) | go_size)))
end Go.Proofs.Ytlfmffjlmhpcdaa
