/- The contracts of the document's answer for layer 10: And, Or. -/
import Derived.Test.YtlfmffjlmhpcdaaRefC
namespace Go.Proofs.Ytlfmffjlmhpcdaa
open Go.RowKit
set_option maxRecDepth 100000

def andL (l : List M) (k : Nat) : List Int := (seqL 0 k).filter fun n => l.all fun m => hasM m n
theorem andL_hit (l : List M) (k : Nat) (h : (l.all fun m => hasM m k) = true) : ofAll (andL l (k + 1)) = mOr (ofAll (andL l k)) (mBit k) := by
  unfold andL; rw [seqL_succ, List.filter_append, Int.zero_add, List.filter_cons_of_pos (p := fun n : Int => l.all fun m => hasM m n) h, List.filter_nil, ofAll_append]
theorem andL_miss (l : List M) (k : Nat) (h : (l.all fun m => hasM m k) = false) : andL l (k + 1) = andL l k := by
  unfold andL; rw [seqL_succ, List.filter_append, Int.zero_add, List.filter_cons_of_neg (by simp only [h]; decide)]; simp
theorem all_take (l : List M) (p : M → Bool) (j : Nat) (h : j < l.length) : (l.take (j + 1)).all p = ((l.take j).all p && p l[j]) := by
  rw [List.take_succ_eq_append_getElem h, List.all_append]; simp

end Go.Proofs.Ytlfmffjlmhpcdaa
