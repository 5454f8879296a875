/- MaskAlgebra: the plain laws. -/
import Derived.Test.YtbanmngngfanhaaMaskE
import Derived.Test.YtbanmngngfanhaaPop
import Derived.Test.YtbanmngngfanhaaMaskSplit
namespace Go.Proofs.Ytbanmngngfanhaa
open Go.RowKit

def mNot (m : M) : M := (ones &&& ~~~m.1, low32 &&& ~~~m.2)
def minusF (m n : M) : M := ((m.1 &&& ~~~n.1) &&& ones, (m.2 &&& ~~~n.2) &&& low32)
def cntM (m : M) : Int := cntF m.1 m.2
/-- A mask that may be. -/
def Sub (m : M) : Prop := m.2 &&& low32 = m.2
theorem Sub.bit {m : M} (h : Sub m) (i : Nat) (hi : i < 64) : m.2.getLsbD i = true → i < 32 := by
  intro hb
  have : (m.2 &&& low32).getLsbD i = m.2.getLsbD i := by rw [h]
  rw [BitVec.getLsbD_and, low32_bit i hi, hb] at this
  simpa using this
theorem sub_and (m : M) : Sub (andAll [andAll [], m]) := by
  unfold Sub
  simp only [andAll, List.foldl_cons, List.foldl_nil, mAnd, mAll]
  apply BitVec.eq_of_getLsbD_eq
  intro i hi
  simp only [BitVec.getLsbD_and, low32_bit i hi]
  cases m.2.getLsbD i <;> simp

theorem algebra_law (A B C : M) (hA : Sub A) (hB : Sub B) (hC : Sub C) :
    mNot (mNot A) = A ∧ mNot (orF [A, B, C]) = andAll [mNot A, mNot B, mNot C] ∧ minusF A B = andAll [A, mNot B] ∧
    andAll [A, orF [B, C]] = orF [andAll [A, B], andAll [A, C]] ∧ orF [A, B] = orF [B, A] ∧ orF [] = mZero := by
  refine ⟨?_, ?_, ?_, ?_, ?_, ?_⟩
  all_goals
    simp only [andAll, orF, orAll, List.foldl_cons, List.foldl_nil, mAnd, mOr, mZero, mAll, mNot, minusF]
    refine Prod.ext ?_ ?_
    all_goals
      apply BitVec.eq_of_getLsbD_eq
      intro i hi
      have sA : A.2.getLsbD i = true → decide (i < 32) = true := fun h => decide_eq_true (hA.bit i hi h)
      have sB : B.2.getLsbD i = true → decide (i < 32) = true := fun h => decide_eq_true (hB.bit i hi h)
      have sC : C.2.getLsbD i = true → decide (i < 32) = true := fun h => decide_eq_true (hC.bit i hi h)
      simp only [BitVec.getLsbD_and, BitVec.getLsbD_or, BitVec.getLsbD_not, ones_bit i hi, low32_bit i hi, BitVec.getLsbD_zero, hi, decide_true, Bool.true_and, Bool.false_or]
      generalize A.1.getLsbD i = a1 at *
      generalize A.2.getLsbD i = a2 at *
      generalize B.1.getLsbD i = b1 at *
      generalize B.2.getLsbD i = b2 at *
      generalize C.1.getLsbD i = c1 at *
      generalize C.2.getLsbD i = c2 at *
      generalize decide (i < 32) = t at *
      clear hA hB hC hi
      cases a1 <;> cases a2 <;> cases b1 <;> cases b2 <;> cases c1 <;> cases c2 <;> cases t <;> first | rfl | exact absurd (sA rfl) Bool.false_ne_true | exact absurd (sB rfl) Bool.false_ne_true | exact absurd (sC rfl) Bool.false_ne_true

theorem countP_split {α : Type} (p q : α → Bool) : ∀ l : List α, l.countP p + l.countP q = l.countP (fun x => p x || q x) + l.countP (fun x => p x && q x)
  | [] => rfl
  | x :: l => by
    have := countP_split p q l
    simp only [List.countP_cons]
    cases p x <;> cases q x <;> simp <;> omega
theorem popc_split (a b : BitVec 64) : popc a + popc b = popc (a ||| b) + popc (a &&& b) := by
  unfold popc
  rw [countP_split]
  congr 1 <;> (apply List.countP_congr; intro i _; simp)
theorem popc_ones : popc ones = 64 := by decide +kernel
theorem popc_low32 : popc low32 = 32 := by decide +kernel
theorem popc_zero : popc 0#64 = 0 := by decide +kernel
theorem cnt_split (A B : M) : cntM A + cntM B = cntM (orF [A, B]) + cntM (andAll [A, B]) := by
  unfold cntM cntF
  simp only [pcE_popc]
  have h1 := popc_split (A.1 &&& ones) (B.1 &&& ones)
  have h2 := popc_split (A.2 &&& low32) (B.2 &&& low32)
  have e1 : (orF [A, B]).1 &&& ones = (A.1 &&& ones) ||| (B.1 &&& ones) := by
    simp only [orF, orAll, List.foldl_cons, List.foldl_nil, mAnd, mOr, mZero, mAll]
    apply BitVec.eq_of_getLsbD_eq
    intro i hi
    simp only [BitVec.getLsbD_and, BitVec.getLsbD_or, ones_bit i hi, BitVec.getLsbD_zero]
    cases A.1.getLsbD i <;> cases B.1.getLsbD i <;> rfl
  have e2 : (orF [A, B]).2 &&& low32 = (A.2 &&& low32) ||| (B.2 &&& low32) := by
    simp only [orF, orAll, List.foldl_cons, List.foldl_nil, mAnd, mOr, mZero, mAll]
    apply BitVec.eq_of_getLsbD_eq
    intro i hi
    simp only [BitVec.getLsbD_and, BitVec.getLsbD_or, low32_bit i hi, BitVec.getLsbD_zero]
    cases A.2.getLsbD i <;> cases B.2.getLsbD i <;> simp
  have e3 : (andAll [A, B]).1 &&& ones = (A.1 &&& ones) &&& (B.1 &&& ones) := by
    simp only [andAll, List.foldl_cons, List.foldl_nil, mAnd, mAll]
    apply BitVec.eq_of_getLsbD_eq
    intro i hi
    simp only [BitVec.getLsbD_and, ones_bit i hi]
    cases A.1.getLsbD i <;> cases B.1.getLsbD i <;> rfl
  have e4 : (andAll [A, B]).2 &&& low32 = (A.2 &&& low32) &&& (B.2 &&& low32) := by
    simp only [andAll, List.foldl_cons, List.foldl_nil, mAnd, mAll]
    apply BitVec.eq_of_getLsbD_eq
    intro i hi
    simp only [BitVec.getLsbD_and, low32_bit i hi]
    cases A.2.getLsbD i <;> cases B.2.getLsbD i <;> simp
  rw [e1, e2, e3, e4]
  omega
theorem cnt_not (A : M) : cntM A + cntM (mNot A) = 96 := by
  unfold cntM cntF
  simp only [pcE_popc]
  have h1 := popc_split (A.1 &&& ones) ((mNot A).1 &&& ones)
  have h2 := popc_split (A.2 &&& low32) ((mNot A).2 &&& low32)
  have e1 : (A.1 &&& ones) ||| ((mNot A).1 &&& ones) = ones := by
    simp only [mNot]
    apply BitVec.eq_of_getLsbD_eq
    intro i hi
    simp only [BitVec.getLsbD_and, BitVec.getLsbD_or, BitVec.getLsbD_not, ones_bit i hi, hi]
    cases A.1.getLsbD i <;> simp
  have e2 : (A.2 &&& low32) ||| ((mNot A).2 &&& low32) = low32 := by
    simp only [mNot]
    apply BitVec.eq_of_getLsbD_eq
    intro i hi
    simp only [BitVec.getLsbD_and, BitVec.getLsbD_or, BitVec.getLsbD_not, low32_bit i hi, hi]
    cases A.2.getLsbD i <;> simp
  have e3 : (A.1 &&& ones) &&& ((mNot A).1 &&& ones) = 0#64 := by
    simp only [mNot]
    apply BitVec.eq_of_getLsbD_eq
    intro i hi
    simp only [BitVec.getLsbD_and, BitVec.getLsbD_not, ones_bit i hi, hi, BitVec.getLsbD_zero]
    cases A.1.getLsbD i <;> simp
  have e4 : (A.2 &&& low32) &&& ((mNot A).2 &&& low32) = 0#64 := by
    simp only [mNot]
    apply BitVec.eq_of_getLsbD_eq
    intro i hi
    simp only [BitVec.getLsbD_and, BitVec.getLsbD_not, low32_bit i hi, hi, BitVec.getLsbD_zero]
    cases A.2.getLsbD i <;> simp
  rw [e1, e3, popc_ones, popc_zero] at h1
  rw [e2, e4, popc_low32, popc_zero] at h2
  omega
theorem sub_chk {A : M} (h : Sub A) : chk A.2 = 0 := by
  unfold chk
  rw [if_pos]
  apply BitVec.eq_of_getLsbD_eq
  intro i hi
  have := h.bit i hi
  simp only [BitVec.getLsbD_and, BitVec.getLsbD_not, low32_bit i hi, hi, BitVec.getLsbD_zero]
  cases hx : A.2.getLsbD i <;> simp_all
end Go.Proofs.Ytbanmngngfanhaa
