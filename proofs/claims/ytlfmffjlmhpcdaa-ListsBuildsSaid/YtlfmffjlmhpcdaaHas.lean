/- The contracts of Has, whatever the number. -/
import Derived.Test.YtlfmffjlmhpcdaaTellA
namespace Go.Proofs.Ytlfmffjlmhpcdaa
open Go.RowKit
set_option maxRecDepth 100000
attribute [local irreducible] Der

theorem r_Has_no (a b : BitVec 64) (n : Int) (h : ¬ isSlot n) (w : World) : Calls Try.prog 50 #[MV a b, .int .i64 n] w fun e w' => e = .returned (.bool false) ∧ Below w.heap.size w w' := by
  by_cases h0 : 0 ≤ n
  · have h1 : 96 ≤ n := by unfold isSlot at h; omega
    clear h
    go_enter Try.func50, Try.ntmps50
    go_wp2
    go_ret
    refine ⟨rfl, ?_⟩
    ((repeat' (first | (with_reducible exact Below.refl _ _) | (with_reducible refine Below.setCell ?_ ?_ _) | (with_reducible refine Below.alloc ?_ ?_ _) | (with_reducible refine Below.drew ?_) | (with_reducible refine Below.trans ?_ (Below.mono (by assumption) ?_)) | go_size)))
  · have h1 : n < 0 := by omega
    clear h
    go_enter Try.func50, Try.ntmps50
    go_wp2
    go_ret
    refine ⟨rfl, ?_⟩
    ((repeat' (first | (with_reducible exact Below.refl _ _) | (with_reducible refine Below.setCell ?_ ?_ _) | (with_reducible refine Below.alloc ?_ ?_ _) | (with_reducible refine Below.drew ?_) | (with_reducible refine Below.trans ?_ (Below.mono (by assumption) ?_)) | go_size)))
def hasN (m : M) (n : Int) : Bool := decide (0 ≤ n ∧ n < 96) && hasM m n
theorem hasN_no {m : M} {n : Int} (h : ¬ isSlot n) : hasN m n = false := by unfold hasN; rw [decide_eq_false (show ¬ (0 ≤ n ∧ n < 96) from h)]; rfl
theorem hasN_yes {m : M} {n : Int} (h : isSlot n) : hasN m n = hasM m n := by unfold hasN; rw [decide_eq_true (show 0 ≤ n ∧ n < 96 from h)]; rfl
theorem f_Has_any (a b : BitVec 64) (n : Int) (w : World) : Calls Try.prog 28 #[MV a b, .int .i64 n] w fun e w' => e = .returned (.bool (hasN (a, b) n)) ∧ Below w.heap.size w w' := by
  by_cases h : isSlot n
  · rw [hasN_yes h]; exact f_Has_yes a b n h w
  · rw [hasN_no h]; exact f_Has_no a b n h w
theorem r_Has_any (a b : BitVec 64) (n : Int) (w : World) : Calls Try.prog 50 #[MV a b, .int .i64 n] w fun e w' => e = .returned (.bool (hasN (a, b) n)) ∧ Below w.heap.size w w' := by
  by_cases h : isSlot n
  · rw [hasN_yes h]; exact r_Has a b n h.1 h.2 w
  · rw [hasN_no h]; exact r_Has_no a b n h w

end Go.Proofs.Ytlfmffjlmhpcdaa
