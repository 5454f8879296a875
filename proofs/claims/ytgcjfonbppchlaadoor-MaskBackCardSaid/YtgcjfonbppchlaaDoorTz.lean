/- The lowest bit of a word: where it is, what clears it, and what the table of TrailingZeros64 says of it. -/
import Derived.Test.YtgcjfonbppchlaaDoorRowZ
namespace Go.Proofs.YtgcjfonbppchlaaDoor
set_option maxRecDepth 100000

/-- k is the place of the lowest bit. -/
def lowAt (x : BitVec 64) (k : Nat) : Prop := k < 64 ∧ x.getLsbD k = true ∧ ∀ j, j < k → x.getLsbD j = false
theorem lowAt_exists {x : BitVec 64} (h : ¬ x = 0#64) : ∃ k, lowAt x k := by
  have he : ∃ k, x.getLsbD k = true := by
    refine Classical.byContradiction fun hn => h ?_
    apply BitVec.eq_of_getLsbD_eq
    intro i _
    rw [BitVec.getLsbD_zero]
    cases hb : x.getLsbD i
    · rfl
    · exact absurd ⟨i, hb⟩ hn
  obtain ⟨k0, hk0⟩ := he
  induction k0 using Nat.strongRecOn with
  | _ k ih =>
    by_cases hs : ∃ j, j < k ∧ x.getLsbD j = true
    · obtain ⟨j, hj, hx⟩ := hs
      exact ih j hj hx
    · refine ⟨k, BitVec.lt_of_getLsbD hk0, hk0, fun j hj => ?_⟩
      cases hb : x.getLsbD j
      · rfl
      · exact absurd ⟨j, hj, hb⟩ hs
theorem neg_bit {x : BitVec 64} {k : Nat} (h : lowAt x k) (i : Nat) (hi : i < 64) : (-x).getLsbD i = (x.getLsbD i ^^ decide (k < i)) := by
  rw [BitVec.getLsbD_neg]
  have e : (∃ j, j < i ∧ x.getLsbD j = true) ↔ k < i := by
    constructor
    · rintro ⟨j, hj, hx⟩
      rcases Nat.lt_or_ge j k with hl | hl
      · rw [h.2.2 j hl] at hx; cases hx
      · omega
    · intro hk; exact ⟨k, hk, h.2.1⟩
  simp only [e, hi, decide_true, Bool.true_and]
theorem low_and_neg {x : BitVec 64} {k : Nat} (h : lowAt x k) : x &&& -x = BitVec.twoPow 64 k := by
  apply BitVec.eq_of_getLsbD_eq
  intro i hi
  rw [BitVec.getLsbD_and, neg_bit h i hi, BitVec.getLsbD_twoPow]
  rcases Nat.lt_trichotomy i k with hl | rfl | hl
  · rw [h.2.2 i hl]; simp; omega
  · rw [h.2.1]; simp [hi]
  · have hn : ¬ k = i := by omega
    cases x.getLsbD i <;> simp [hl, hn]
theorem clear_low {x : BitVec 64} {k : Nat} (h : lowAt x k) (i : Nat) (hi : i < 64) : (x &&& (x - 1#64)).getLsbD i = (x.getLsbD i && !decide (i = k)) := by
  rw [← BitVec.not_neg, BitVec.getLsbD_and, BitVec.getLsbD_not, neg_bit h i hi]
  rcases Nat.lt_trichotomy i k with hl | rfl | hl
  · rw [h.2.2 i hl]; simp
  · rw [h.2.1]; simp [hi]
  · have hn : ¬ i = k := by omega
    cases x.getLsbD i <;> simp [hl, hn, hi]
def tzTab : List Nat := [0, 1, 56, 2, 57, 49, 28, 3, 61, 58, 42, 50, 38, 29, 17, 4, 62, 47, 59, 36, 45, 43, 51, 22, 53, 39, 33, 30, 24, 18, 12, 5, 63, 55, 48, 27, 60, 41, 37, 16, 46, 35, 44, 21, 52, 32, 23, 11, 54, 26, 40, 15, 34, 20, 31, 10, 25, 14, 19, 9, 13, 8, 7, 6]
theorem tz_all : ∀ k : Fin 64, ((BitVec.twoPow 64 k.val * 285870213051353865#64) >>> 58).toNat < 64 ∧ tzTab[((BitVec.twoPow 64 k.val * 285870213051353865#64) >>> 58).toNat]? = some k.val := by decide +kernel
theorem tz_table {x : BitVec 64} {k : Nat} (h : lowAt x k) : (((x &&& -x) * 285870213051353865#64) >>> 58).toNat < 64 ∧ tzTab[(((x &&& -x) * 285870213051353865#64) >>> 58).toNat]? = some k := by
  rw [low_and_neg h]
  exact tz_all ⟨k, h.1⟩
end Go.Proofs.YtgcjfonbppchlaaDoor
