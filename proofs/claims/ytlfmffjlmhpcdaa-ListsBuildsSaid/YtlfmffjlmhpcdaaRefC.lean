/- The contracts of the document's answer for layer 10: Minus, Or, And. -/
import Derived.Test.YtlfmffjlmhpcdaaRefB
import Derived.Test.YtlfmffjlmhpcdaaRefA
namespace Go.Proofs.Ytlfmffjlmhpcdaa
open Go.RowKit
set_option maxRecDepth 100000

def minusL (a b : M) (j : Nat) : List Int := ((slotsK a 96).take j).filter fun n => !hasM b n
theorem minusL_hit (a b : M) (j : Nat) (h : j < (slotsK a 96).length) (hh : hasM b (slotsK a 96)[j] = false) : ofAll (minusL a b (j + 1)) = mOr (ofAll (minusL a b j)) (mBit (slotsK a 96)[j]) := by
  unfold minusL; rw [List.take_succ_eq_append_getElem h, List.filter_append, List.filter_cons_of_pos (by simp [hh]), List.filter_nil, ofAll_append]
theorem minusL_miss (a b : M) (j : Nat) (h : j < (slotsK a 96).length) (hh : hasM b (slotsK a 96)[j] = true) : minusL a b (j + 1) = minusL a b j := by
  unfold minusL; rw [List.take_succ_eq_append_getElem h, List.filter_append, List.filter_cons_of_neg (by simp [hh])]; simp

end Go.Proofs.Ytlfmffjlmhpcdaa
