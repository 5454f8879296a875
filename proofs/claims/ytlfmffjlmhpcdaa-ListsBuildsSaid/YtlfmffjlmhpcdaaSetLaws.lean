/- The plain laws beneath MaskSets: what the masks answer is what the document answers, slot by slot. -/
import Derived.Test.YtlfmffjlmhpcdaaRefE
namespace Go.Proofs.Ytlfmffjlmhpcdaa
open Go.RowKit
set_option maxRecDepth 100000

theorem fold_or1 (l : List Int) (z : M) (i : Nat) (h : i < 64) (hl : ∀ x ∈ l, isSlot x) : (l.foldl (fun m n => mOr m (mBit n)) z).1.getLsbD i = (z.1.getLsbD i || decide ((i : Int) ∈ l)) := by
  induction l generalizing z with
  | nil => simp
  | cons x l ih =>
    rw [List.foldl_cons, ih _ (fun y hy => hl y (List.mem_cons_of_mem _ hy))]
    have hx := hl x (by simp)
    simp only [mOr, mBit, BitVec.getLsbD_or, bit0_bit x i h hx.1, List.mem_cons]
    cases z.1.getLsbD i <;> simp
theorem fold_or2 (l : List Int) (z : M) (i : Nat) (h : i < 64) (hl : ∀ x ∈ l, isSlot x) : (l.foldl (fun m n => mOr m (mBit n)) z).2.getLsbD i = (z.2.getLsbD i || decide ((i : Int) + 64 ∈ l)) := by
  induction l generalizing z with
  | nil => simp
  | cons x l ih =>
    rw [List.foldl_cons, ih _ (fun y hy => hl y (List.mem_cons_of_mem _ hy))]
    have hx := hl x (by simp)
    have e : ((i : Int) = x - 64) = ((i : Int) + 64 = x) := by apply propext; omega
    simp only [mOr, mBit, BitVec.getLsbD_or, bit1_bit x i h hx.2, List.mem_cons, e]
    cases z.2.getLsbD i <;> simp
theorem ofAll_bit1 (l : List Int) (i : Nat) (h : i < 64) (hl : ∀ x ∈ l, isSlot x) : (ofAll l).1.getLsbD i = decide ((i : Int) ∈ l) := by
  unfold ofAll; rw [fold_or1 l mZero i h hl]; simp [mZero]
theorem ofAll_bit2 (l : List Int) (i : Nat) (h : i < 64) (hl : ∀ x ∈ l, isSlot x) : (ofAll l).2.getLsbD i = decide ((i : Int) + 64 ∈ l) := by
  unfold ofAll; rw [fold_or2 l mZero i h hl]; simp [mZero]
theorem mem_seqL (x : Int) (k : Nat) : x ∈ seqL 0 k ↔ 0 ≤ x ∧ x < k := by
  unfold seqL
  rw [List.mem_map]
  constructor
  · rintro ⟨a, ha, rfl⟩
    have := List.mem_range.1 ha
    omega
  · rintro ⟨h0, h1⟩
    exact ⟨x.toNat, List.mem_range.2 (by omega), by omega⟩
theorem hasM_1 (m : M) (i : Nat) (h : i < 64) : hasM m i = m.1.getLsbD i := by
  unfold hasM; rw [if_pos (by omega), show ((i : Int) % 64).toNat = i by omega]
theorem hasM_2 (m : M) (i : Nat) (h : i < 64) : hasM m ((i : Int) + 64) = m.2.getLsbD i := by
  unfold hasM; rw [if_neg (by omega), show (((i : Int) + 64) % 64).toNat = i by omega]
theorem mem_slotsK (m : M) (x : Int) (k : Nat) : x ∈ slotsK m k ↔ (0 ≤ x ∧ x < k) ∧ hasM m x = true := by
  unfold slotsK; rw [List.mem_filter, mem_seqL]
theorem mem_andL (l : List M) (x : Int) (k : Nat) : x ∈ andL l k ↔ (0 ≤ x ∧ x < k) ∧ ∀ m ∈ l, hasM m x = true := by
  unfold andL; rw [List.mem_filter, mem_seqL, List.all_eq_true]
theorem mem_minusL (a b : M) (x : Int) : x ∈ minusL a b 96 ↔ ((0 ≤ x ∧ x < 96) ∧ hasM a x = true) ∧ hasM b x = false := by
  unfold minusL; rw [List.take_of_length_le (slotsK_le a 96), List.mem_filter, mem_slotsK]; simp
theorem mem_orL (l : List M) (x : Int) : x ∈ orL l l.length ↔ (0 ≤ x ∧ x < 96) ∧ ∃ m ∈ l, hasM m x = true := by
  unfold orL; rw [List.take_length, List.mem_flatMap]
  simp only [mem_slotsK]
  constructor
  · rintro ⟨m, hm, h, h2⟩; exact ⟨h, m, hm, h2⟩
  · rintro ⟨h, m, hm, h2⟩; exact ⟨m, hm, h, h2⟩
theorem andL_slot (l : List M) : ∀ x ∈ andL l 96, isSlot x := fun x hx => ((mem_andL l x 96).1 hx).1
theorem minusL_slot (a b : M) : ∀ x ∈ minusL a b 96, isSlot x := fun x hx => ((mem_minusL a b x).1 hx).1.1
theorem orL_slot (l : List M) : ∀ x ∈ orL l l.length, isSlot x := fun x hx => ((mem_orL l x).1 hx).1

theorem and_bits (l : List M) (z : M) (i : Nat) : (l.foldl mAnd z).1.getLsbD i = (z.1.getLsbD i && l.all fun m => m.1.getLsbD i) ∧ (l.foldl mAnd z).2.getLsbD i = (z.2.getLsbD i && l.all fun m => m.2.getLsbD i) := by
  induction l generalizing z with
  | nil => simp
  | cons x l ih =>
    rw [List.foldl_cons, (ih _).1, (ih _).2]
    simp only [mAnd, BitVec.getLsbD_and, List.all_cons, Bool.and_assoc]
    exact ⟨trivial, trivial⟩
theorem or_bits (l : List M) (z : M) (i : Nat) : (l.foldl mOr z).1.getLsbD i = (z.1.getLsbD i || l.any fun m => m.1.getLsbD i) ∧ (l.foldl mOr z).2.getLsbD i = (z.2.getLsbD i || l.any fun m => m.2.getLsbD i) := by
  induction l generalizing z with
  | nil => simp
  | cons x l ih =>
    rw [List.foldl_cons, (ih _).1, (ih _).2]
    simp only [mOr, BitVec.getLsbD_or, List.any_cons, Bool.or_assoc]
    exact ⟨trivial, trivial⟩

theorem set_and (l : List M) : ofAll (andL l 96) = andAll l := by
  refine Prod.ext ?_ ?_
  · apply BitVec.eq_of_getLsbD_eq
    intro i hi
    rw [ofAll_bit1 _ i hi (andL_slot l), andAll, (and_bits l mAll i).1, mAll, ones_bit i hi, Bool.true_and, Bool.eq_iff_iff, decide_eq_true_eq, mem_andL, List.all_eq_true]
    constructor
    · rintro ⟨-, h⟩ m hm; have := h m hm; rwa [hasM_1 m i hi] at this
    · intro h; exact ⟨⟨by omega, by omega⟩, fun m hm => by rw [hasM_1 m i hi]; exact h m hm⟩
  · apply BitVec.eq_of_getLsbD_eq
    intro i hi
    rw [ofAll_bit2 _ i hi (andL_slot l), andAll, (and_bits l mAll i).2, mAll, low32_bit i hi, Bool.eq_iff_iff, decide_eq_true_eq, mem_andL, Bool.and_eq_true, List.all_eq_true, decide_eq_true_eq]
    constructor
    · rintro ⟨h0, h⟩; exact ⟨by omega, fun m hm => by have := h m hm; rwa [hasM_2 m i hi] at this⟩
    · rintro ⟨h0, h⟩; exact ⟨⟨by omega, by omega⟩, fun m hm => by rw [hasM_2 m i hi]; exact h m hm⟩
theorem set_or (l : List M) : ofAll (orL l l.length) = orF l := by
  refine Prod.ext ?_ ?_
  · apply BitVec.eq_of_getLsbD_eq
    intro i hi
    rw [ofAll_bit1 _ i hi (orL_slot l)]
    simp only [orF, mAnd, mAll, orAll, BitVec.getLsbD_and, ones_bit i hi, Bool.and_true]
    rw [(or_bits l mZero i).1]
    simp only [mZero, BitVec.getLsbD_zero, Bool.false_or]
    rw [Bool.eq_iff_iff, decide_eq_true_eq, mem_orL, List.any_eq_true]
    constructor
    · rintro ⟨-, m, hm, h⟩; exact ⟨m, hm, by rwa [hasM_1 m i hi] at h⟩
    · rintro ⟨m, hm, h⟩; exact ⟨⟨by omega, by omega⟩, m, hm, by rw [hasM_1 m i hi]; exact h⟩
  · apply BitVec.eq_of_getLsbD_eq
    intro i hi
    rw [ofAll_bit2 _ i hi (orL_slot l)]
    simp only [orF, mAnd, mAll, orAll, BitVec.getLsbD_and, low32_bit i hi]
    rw [(or_bits l mZero i).2]
    simp only [mZero, BitVec.getLsbD_zero, Bool.false_or]
    rw [Bool.eq_iff_iff, decide_eq_true_eq, mem_orL, Bool.and_eq_true, List.any_eq_true, decide_eq_true_eq]
    constructor
    · rintro ⟨h0, m, hm, h⟩; exact ⟨⟨m, hm, by rwa [hasM_2 m i hi] at h⟩, by omega⟩
    · rintro ⟨⟨m, hm, h⟩, h0⟩; exact ⟨⟨by omega, by omega⟩, m, hm, by rw [hasM_2 m i hi]; exact h⟩
theorem set_minus (a b : M) : ofAll (minusL a b 96) = mAnd (mMinus a b) mAll := by
  refine Prod.ext ?_ ?_
  · apply BitVec.eq_of_getLsbD_eq
    intro i hi
    rw [ofAll_bit1 _ i hi (minusL_slot a b)]
    simp only [mAnd, mAll, mMinus, BitVec.getLsbD_and, BitVec.getLsbD_not, ones_bit i hi, Bool.and_true, hi, decide_true, Bool.true_and]
    rw [Bool.eq_iff_iff, decide_eq_true_eq, mem_minusL, hasM_1 a i hi, hasM_1 b i hi]
    cases a.1.getLsbD i <;> cases b.1.getLsbD i <;> simp <;> omega
  · apply BitVec.eq_of_getLsbD_eq
    intro i hi
    rw [ofAll_bit2 _ i hi (minusL_slot a b)]
    simp only [mAnd, mAll, mMinus, BitVec.getLsbD_and, BitVec.getLsbD_not, low32_bit i hi, hi, decide_true, Bool.true_and]
    rw [Bool.eq_iff_iff, decide_eq_true_eq, mem_minusL, hasM_2 a i hi, hasM_2 b i hi]
    cases a.2.getLsbD i <;> cases b.2.getLsbD i <;> simp <;> omega
theorem set_not (m : M) : ofAll (minusL (ofAll (andL [] 96)) m 96) = (ones &&& ~~~ m.1, low32 &&& ~~~ m.2) := by
  rw [set_minus, set_and]
  simp only [andAll, List.foldl_nil, mAnd, mMinus, mAll]
  refine Prod.ext ?_ ?_
  all_goals
    apply BitVec.eq_of_getLsbD_eq
    intro i hi
    simp only [BitVec.getLsbD_and, BitVec.getLsbD_not, low32_bit i hi, ones_bit i hi]
    cases decide (i < 32) <;> simp
end Go.Proofs.Ytlfmffjlmhpcdaa
