/- The bits of ranges of slots. -/
import Derived.Test.YtlfmffjlmhpcdaaMaskE
namespace Go.Proofs.Ytlfmffjlmhpcdaa
open Go.RowKit

def rangeM (a b : Int) : M := (lowBits b &&& ~~~ lowBits a, lowBits (b - 64) &&& ~~~ lowBits (a - 64))
def belowM (n : Int) : M := (lowBits n, lowBits (n - 64))

theorem ones_bit (i : Nat) (h : i < 64) : ones.getLsbD i = true := by unfold ones; rw [BitVec.getLsbD_allOnes]; simp [h]
theorem low32_bit (i : Nat) (h : i < 64) : low32.getLsbD i = decide (i < 32) := by
  have : low32 = BitVec.ofNat 64 (2 ^ 32 - 1) := by decide
  rw [this, BitVec.getLsbD_ofNat, Nat.testBit_two_pow_sub_one]; simp [h]
theorem lowBits_bit (k : Int) (i : Nat) (h : i < 64) : (lowBits k).getLsbD i = decide ((i : Int) < k) := by
  unfold lowBits
  split
  · rw [ones_bit i h]; symm; simp; omega
  · split
    · rw [BitVec.getLsbD_ofNat, Nat.testBit_two_pow_sub_one]; simp [h]; try omega
    · simp; try omega
end Go.Proofs.Ytlfmffjlmhpcdaa
