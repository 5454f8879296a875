/- The contracts of the document's answer for layer 10: Minus, Or, And. -/
import Derived.Test.YtgcjfonbppchlaaDoorRowZ
namespace Go.Proofs.YtgcjfonbppchlaaDoor
open Go.RowKit
set_option maxRecDepth 100000

def minusL (a b : M) (j : Nat) : List Int := ((slotsK a 96).take j).filter fun n => !hasM b n
theorem minusL_hit (a b : M) (j : Nat) (h : j < (slotsK a 96).length) (hh : hasM b (slotsK a 96)[j] = false) : ofAll (minusL a b (j + 1)) = mOr (ofAll (minusL a b j)) (mBit (slotsK a 96)[j]) := by
  unfold minusL; rw [List.take_succ_eq_append_getElem h, List.filter_append, List.filter_cons_of_pos (by simp [hh]), List.filter_nil, ofAll_append]
theorem minusL_miss (a b : M) (j : Nat) (h : j < (slotsK a 96).length) (hh : hasM b (slotsK a 96)[j] = true) : minusL a b (j + 1) = minusL a b j := by
  unfold minusL; rw [List.take_succ_eq_append_getElem h, List.filter_append, List.filter_cons_of_neg (by simp [hh])]; simp

end Go.Proofs.YtgcjfonbppchlaaDoor

/- The contracts of the document's answer for layer 10: And, Or. -/
namespace Go.Proofs.YtgcjfonbppchlaaDoor
open Go.RowKit
set_option maxRecDepth 100000

def andL (l : List M) (k : Nat) : List Int := (seqL 0 k).filter fun n => l.all fun m => hasM m n
theorem andL_hit (l : List M) (k : Nat) (h : (l.all fun m => hasM m k) = true) : ofAll (andL l (k + 1)) = mOr (ofAll (andL l k)) (mBit k) := by
  unfold andL; rw [seqL_succ, List.filter_append, Int.zero_add, List.filter_cons_of_pos (p := fun n : Int => l.all fun m => hasM m n) h, List.filter_nil, ofAll_append]
theorem andL_miss (l : List M) (k : Nat) (h : (l.all fun m => hasM m k) = false) : andL l (k + 1) = andL l k := by
  unfold andL; rw [seqL_succ, List.filter_append, Int.zero_add, List.filter_cons_of_neg (by simp only [h]; decide)]; simp
theorem all_take (l : List M) (p : M → Bool) (j : Nat) (h : j < l.length) : (l.take (j + 1)).all p = ((l.take j).all p && p l[j]) := by
  rw [List.take_succ_eq_append_getElem h, List.all_append]; simp

end Go.Proofs.YtgcjfonbppchlaaDoor

/- The contract of the document's answer for layer 10: Or. -/
namespace Go.Proofs.YtgcjfonbppchlaaDoor
open Go.RowKit
set_option maxRecDepth 100000

def orL (l : List M) (k : Nat) : List Int := (l.take k).flatMap fun m => slotsK m 96
theorem orL_succ (l : List M) (k : Nat) (h : k < l.length) : orL l (k + 1) = orL l k ++ slotsK l[k] 96 := by
  unfold orL; rw [List.take_succ_eq_append_getElem h, List.flatMap_append]; simp
theorem ofAll_snoc2 (P L : List Int) (j : Nat) (h : j < L.length) : ofAll (P ++ L.take (j + 1)) = mOr (ofAll (P ++ L.take j)) (mBit L[j]) := by
  rw [List.take_succ_eq_append_getElem h, ← List.append_assoc, ofAll_append]

end Go.Proofs.YtgcjfonbppchlaaDoor

/- The plain laws beneath MaskSets: what the masks answer is what the document answers, slot by slot. -/
namespace Go.Proofs.YtgcjfonbppchlaaDoor
open Go.RowKit
set_option maxRecDepth 100000

theorem fold_or1 (l : List Int) (z : M) (i : Nat) (h : i < 64) (hl : ∀ x ∈ l, isSlot x) : (l.foldl (fun m n => mOr m (mBit n)) z).1.getLsbD i = (z.1.getLsbD i || decide ((i : Int) ∈ l)) := by
  induction l generalizing z with
  | nil => simp
  | cons x l ih =>
    rw [List.foldl_cons, ih _ (fun y hy => hl y (List.mem_cons_of_mem _ hy))]
    have hx := hl x (by simp)
    simp only [mOr, mBit, BitVec.getLsbD_or, bit0_bit x i h hx.1, List.mem_cons]
    cases z.1.getLsbD i <;> simp
theorem fold_or2 (l : List Int) (z : M) (i : Nat) (h : i < 64) (hl : ∀ x ∈ l, isSlot x) : (l.foldl (fun m n => mOr m (mBit n)) z).2.getLsbD i = (z.2.getLsbD i || decide ((i : Int) + 64 ∈ l)) := by
  induction l generalizing z with
  | nil => simp
  | cons x l ih =>
    rw [List.foldl_cons, ih _ (fun y hy => hl y (List.mem_cons_of_mem _ hy))]
    have hx := hl x (by simp)
    have e : ((i : Int) = x - 64) = ((i : Int) + 64 = x) := by apply propext; omega
    simp only [mOr, mBit, BitVec.getLsbD_or, bit1_bit x i h hx.2, List.mem_cons, e]
    cases z.2.getLsbD i <;> simp
theorem ofAll_bit1 (l : List Int) (i : Nat) (h : i < 64) (hl : ∀ x ∈ l, isSlot x) : (ofAll l).1.getLsbD i = decide ((i : Int) ∈ l) := by
  unfold ofAll; rw [fold_or1 l mZero i h hl]; simp [mZero]
theorem ofAll_bit2 (l : List Int) (i : Nat) (h : i < 64) (hl : ∀ x ∈ l, isSlot x) : (ofAll l).2.getLsbD i = decide ((i : Int) + 64 ∈ l) := by
  unfold ofAll; rw [fold_or2 l mZero i h hl]; simp [mZero]
theorem mem_seqL (x : Int) (k : Nat) : x ∈ seqL 0 k ↔ 0 ≤ x ∧ x < k := by
  unfold seqL
  rw [List.mem_map]
  constructor
  · rintro ⟨a, ha, rfl⟩
    have := List.mem_range.1 ha
    omega
  · rintro ⟨h0, h1⟩
    exact ⟨x.toNat, List.mem_range.2 (by omega), by omega⟩
theorem hasM_1 (m : M) (i : Nat) (h : i < 64) : hasM m i = m.1.getLsbD i := by
  unfold hasM; rw [if_pos (by omega), show ((i : Int) % 64).toNat = i by omega]
theorem hasM_2 (m : M) (i : Nat) (h : i < 64) : hasM m ((i : Int) + 64) = m.2.getLsbD i := by
  unfold hasM; rw [if_neg (by omega), show (((i : Int) + 64) % 64).toNat = i by omega]
theorem mem_slotsK (m : M) (x : Int) (k : Nat) : x ∈ slotsK m k ↔ (0 ≤ x ∧ x < k) ∧ hasM m x = true := by
  unfold slotsK; rw [List.mem_filter, mem_seqL]
theorem mem_andL (l : List M) (x : Int) (k : Nat) : x ∈ andL l k ↔ (0 ≤ x ∧ x < k) ∧ ∀ m ∈ l, hasM m x = true := by
  unfold andL; rw [List.mem_filter, mem_seqL, List.all_eq_true]
theorem mem_minusL (a b : M) (x : Int) : x ∈ minusL a b 96 ↔ ((0 ≤ x ∧ x < 96) ∧ hasM a x = true) ∧ hasM b x = false := by
  unfold minusL; rw [List.take_of_length_le (slotsK_le a 96), List.mem_filter, mem_slotsK]; simp
theorem mem_orL (l : List M) (x : Int) : x ∈ orL l l.length ↔ (0 ≤ x ∧ x < 96) ∧ ∃ m ∈ l, hasM m x = true := by
  unfold orL; rw [List.take_length, List.mem_flatMap]
  simp only [mem_slotsK]
  constructor
  · rintro ⟨m, hm, h, h2⟩; exact ⟨h, m, hm, h2⟩
  · rintro ⟨h, m, hm, h2⟩; exact ⟨m, hm, h, h2⟩
theorem andL_slot (l : List M) : ∀ x ∈ andL l 96, isSlot x := fun x hx => ((mem_andL l x 96).1 hx).1
theorem minusL_slot (a b : M) : ∀ x ∈ minusL a b 96, isSlot x := fun x hx => ((mem_minusL a b x).1 hx).1.1
theorem orL_slot (l : List M) : ∀ x ∈ orL l l.length, isSlot x := fun x hx => ((mem_orL l x).1 hx).1

theorem and_bits (l : List M) (z : M) (i : Nat) : (l.foldl mAnd z).1.getLsbD i = (z.1.getLsbD i && l.all fun m => m.1.getLsbD i) ∧ (l.foldl mAnd z).2.getLsbD i = (z.2.getLsbD i && l.all fun m => m.2.getLsbD i) := by
  induction l generalizing z with
  | nil => simp
  | cons x l ih =>
    rw [List.foldl_cons, (ih _).1, (ih _).2]
    simp only [mAnd, BitVec.getLsbD_and, List.all_cons, Bool.and_assoc]
    exact ⟨trivial, trivial⟩
theorem or_bits (l : List M) (z : M) (i : Nat) : (l.foldl mOr z).1.getLsbD i = (z.1.getLsbD i || l.any fun m => m.1.getLsbD i) ∧ (l.foldl mOr z).2.getLsbD i = (z.2.getLsbD i || l.any fun m => m.2.getLsbD i) := by
  induction l generalizing z with
  | nil => simp
  | cons x l ih =>
    rw [List.foldl_cons, (ih _).1, (ih _).2]
    simp only [mOr, BitVec.getLsbD_or, List.any_cons, Bool.or_assoc]
    exact ⟨trivial, trivial⟩

theorem set_and (l : List M) : ofAll (andL l 96) = andAll l := by
  refine Prod.ext ?_ ?_
  · apply BitVec.eq_of_getLsbD_eq
    intro i hi
    rw [ofAll_bit1 _ i hi (andL_slot l), andAll, (and_bits l mAll i).1, mAll, ones_bit i hi, Bool.true_and, Bool.eq_iff_iff, decide_eq_true_eq, mem_andL, List.all_eq_true]
    constructor
    · rintro ⟨-, h⟩ m hm; have := h m hm; rwa [hasM_1 m i hi] at this
    · intro h; exact ⟨⟨by omega, by omega⟩, fun m hm => by rw [hasM_1 m i hi]; exact h m hm⟩
  · apply BitVec.eq_of_getLsbD_eq
    intro i hi
    rw [ofAll_bit2 _ i hi (andL_slot l), andAll, (and_bits l mAll i).2, mAll, low32_bit i hi, Bool.eq_iff_iff, decide_eq_true_eq, mem_andL, Bool.and_eq_true, List.all_eq_true, decide_eq_true_eq]
    constructor
    · rintro ⟨h0, h⟩; exact ⟨by omega, fun m hm => by have := h m hm; rwa [hasM_2 m i hi] at this⟩
    · rintro ⟨h0, h⟩; exact ⟨⟨by omega, by omega⟩, fun m hm => by rw [hasM_2 m i hi]; exact h m hm⟩
theorem set_or (l : List M) : ofAll (orL l l.length) = orF l := by
  refine Prod.ext ?_ ?_
  · apply BitVec.eq_of_getLsbD_eq
    intro i hi
    rw [ofAll_bit1 _ i hi (orL_slot l)]
    simp only [orF, mAnd, mAll, orAll, BitVec.getLsbD_and, ones_bit i hi, Bool.and_true]
    rw [(or_bits l mZero i).1]
    simp only [mZero, BitVec.getLsbD_zero, Bool.false_or]
    rw [Bool.eq_iff_iff, decide_eq_true_eq, mem_orL, List.any_eq_true]
    constructor
    · rintro ⟨-, m, hm, h⟩; exact ⟨m, hm, by rwa [hasM_1 m i hi] at h⟩
    · rintro ⟨m, hm, h⟩; exact ⟨⟨by omega, by omega⟩, m, hm, by rw [hasM_1 m i hi]; exact h⟩
  · apply BitVec.eq_of_getLsbD_eq
    intro i hi
    rw [ofAll_bit2 _ i hi (orL_slot l)]
    simp only [orF, mAnd, mAll, orAll, BitVec.getLsbD_and, low32_bit i hi]
    rw [(or_bits l mZero i).2]
    simp only [mZero, BitVec.getLsbD_zero, Bool.false_or]
    rw [Bool.eq_iff_iff, decide_eq_true_eq, mem_orL, Bool.and_eq_true, List.any_eq_true, decide_eq_true_eq]
    constructor
    · rintro ⟨h0, m, hm, h⟩; exact ⟨⟨m, hm, by rwa [hasM_2 m i hi] at h⟩, by omega⟩
    · rintro ⟨⟨m, hm, h⟩, h0⟩; exact ⟨⟨by omega, by omega⟩, m, hm, by rw [hasM_2 m i hi]; exact h⟩
theorem set_minus (a b : M) : ofAll (minusL a b 96) = mAnd (mMinus a b) mAll := by
  refine Prod.ext ?_ ?_
  · apply BitVec.eq_of_getLsbD_eq
    intro i hi
    rw [ofAll_bit1 _ i hi (minusL_slot a b)]
    simp only [mAnd, mAll, mMinus, BitVec.getLsbD_and, BitVec.getLsbD_not, ones_bit i hi, Bool.and_true, hi, decide_true, Bool.true_and]
    rw [Bool.eq_iff_iff, decide_eq_true_eq, mem_minusL, hasM_1 a i hi, hasM_1 b i hi]
    cases a.1.getLsbD i <;> cases b.1.getLsbD i <;> simp <;> omega
  · apply BitVec.eq_of_getLsbD_eq
    intro i hi
    rw [ofAll_bit2 _ i hi (minusL_slot a b)]
    simp only [mAnd, mAll, mMinus, BitVec.getLsbD_and, BitVec.getLsbD_not, low32_bit i hi, hi, decide_true, Bool.true_and]
    rw [Bool.eq_iff_iff, decide_eq_true_eq, mem_minusL, hasM_2 a i hi, hasM_2 b i hi]
    cases a.2.getLsbD i <;> cases b.2.getLsbD i <;> simp <;> omega
theorem set_not (m : M) : ofAll (minusL (ofAll (andL [] 96)) m 96) = (ones &&& ~~~ m.1, low32 &&& ~~~ m.2) := by
  rw [set_minus, set_and]
  simp only [andAll, List.foldl_nil, mAnd, mMinus, mAll]
  refine Prod.ext ?_ ?_
  all_goals
    apply BitVec.eq_of_getLsbD_eq
    intro i hi
    simp only [BitVec.getLsbD_and, BitVec.getLsbD_not, low32_bit i hi, ones_bit i hi]
    cases decide (i < 32) <;> simp
end Go.Proofs.YtgcjfonbppchlaaDoor

/- The contracts of With, Without, of the document's Slot, Right, With, Without. -/
namespace Go.Proofs.YtgcjfonbppchlaaDoor
open Go.RowKit
set_option maxRecDepth 100000

theorem slots_all (m : M) : ofAll (slotsK m 96) = mAnd m mAll := by
  have hs := slotsK_slot m
  refine Prod.ext ?_ ?_
  · apply BitVec.eq_of_getLsbD_eq
    intro i hi
    rw [ofAll_bit1 _ i hi hs]
    simp only [mAnd, mAll, BitVec.getLsbD_and, ones_bit i hi, Bool.and_true]
    rw [Bool.eq_iff_iff, decide_eq_true_eq, mem_slotsK, hasM_1 m i hi]
    cases m.1.getLsbD i <;> simp <;> omega
  · apply BitVec.eq_of_getLsbD_eq
    intro i hi
    rw [ofAll_bit2 _ i hi hs]
    simp only [mAnd, mAll, BitVec.getLsbD_and, low32_bit i hi]
    rw [Bool.eq_iff_iff, decide_eq_true_eq, mem_slotsK, hasM_2 m i hi]
    cases m.2.getLsbD i <;> simp <;> omega
theorem chk_low (b : BitVec 64) : (b &&& low32 == b) = decide (chk b = 0) := by
  unfold chk
  have key : (b &&& low32 = b) ↔ (b &&& ~~~low32 = 0#64) := by
    constructor
    · intro h
      apply BitVec.eq_of_getLsbD_eq
      intro i hi
      have := congrArg (fun x => BitVec.getLsbD x i) h
      simp only [BitVec.getLsbD_and] at this
      simp only [BitVec.getLsbD_and, BitVec.getLsbD_not, BitVec.getLsbD_zero]
      cases hb : b.getLsbD i <;> cases hl : low32.getLsbD i <;> simp_all
    · intro h
      apply BitVec.eq_of_getLsbD_eq
      intro i hi
      have := congrArg (fun x => BitVec.getLsbD x i) h
      simp only [BitVec.getLsbD_and, BitVec.getLsbD_not, BitVec.getLsbD_zero] at this
      simp only [BitVec.getLsbD_and]
      cases hb : b.getLsbD i <;> cases hl : low32.getLsbD i <;> simp_all
  by_cases h : b &&& ~~~low32 = 0#64
  · rw [if_pos h]; simp [key.2 h]
  · rw [if_neg h]; simp; exact fun e => h (key.1 e)
theorem chk_or (b : BitVec 64) : chk b = 0 ∨ chk b = 200 := by unfold chk; split <;> simp

def withoutL (a : M) (n : Int) (j : Nat) : List Int := ((slotsK a 96).take j).filter fun x => !(x == n)
theorem withoutL_hit (a : M) (n : Int) (j : Nat) (h : j < (slotsK a 96).length) (hh : ¬ (slotsK a 96)[j] = n) : ofAll (withoutL a n (j + 1)) = mOr (ofAll (withoutL a n j)) (mBit (slotsK a 96)[j]) := by
  unfold withoutL; rw [List.take_succ_eq_append_getElem h, List.filter_append, List.filter_cons_of_pos (by simp [hh]), List.filter_nil, ofAll_append]
theorem withoutL_miss (a : M) (n : Int) (j : Nat) (h : j < (slotsK a 96).length) (hh : (slotsK a 96)[j] = n) : withoutL a n (j + 1) = withoutL a n j := by
  unfold withoutL; rw [List.take_succ_eq_append_getElem h, List.filter_append, List.filter_cons_of_neg (by simp [hh])]; simp
theorem mem_withoutL (a : M) (n x : Int) : x ∈ withoutL a n 96 ↔ ((0 ≤ x ∧ x < 96) ∧ hasM a x = true) ∧ ¬ x = n := by
  unfold withoutL; rw [List.take_of_length_le (slotsK_le a 96), List.mem_filter, mem_slotsK]; simp
theorem chk_bit {b : BitVec 64} (h : chk b = 0) (i : Nat) (hb : b.getLsbD i = true) : i < 32 := by
  have e : b &&& low32 = b := by have := chk_low b; rw [h] at this; simpa using this
  have h64 : i < 64 := BitVec.lt_of_getLsbD hb
  have := congrArg (fun x => BitVec.getLsbD x i) e
  simp only [BitVec.getLsbD_and, low32_bit i h64, hb] at this
  simpa using this
theorem set_without (m : M) (n : Int) (h : chk m.2 = 0) (h0 : 0 ≤ n) (h1 : n < 96) : ofAll (withoutL m n 96) = (m.1 &&& ~~~ bit0 n, m.2 &&& ~~~ bit1 n) := by
  have hs : ∀ x ∈ withoutL m n 96, isSlot x := fun x hx => ((mem_withoutL m n x).1 hx).1.1
  refine Prod.ext ?_ ?_
  · apply BitVec.eq_of_getLsbD_eq
    intro i hi
    rw [ofAll_bit1 _ i hi hs]
    simp only [BitVec.getLsbD_and, BitVec.getLsbD_not, bit0_bit n i hi h0, hi, decide_true, Bool.true_and]
    rw [Bool.eq_iff_iff, decide_eq_true_eq, mem_withoutL, hasM_1 m i hi]
    cases m.1.getLsbD i <;> simp <;> omega
  · apply BitVec.eq_of_getLsbD_eq
    intro i hi
    rw [ofAll_bit2 _ i hi hs]
    have hb := chk_bit h i
    simp only [BitVec.getLsbD_and, BitVec.getLsbD_not, bit1_bit n i hi h1, hi, decide_true, Bool.true_and]
    rw [Bool.eq_iff_iff, decide_eq_true_eq, mem_withoutL, hasM_2 m i hi]
    revert hb
    cases m.2.getLsbD i <;> simp <;> omega

end Go.Proofs.YtgcjfonbppchlaaDoor
