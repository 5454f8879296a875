/- The plain law of MaskBack: a mask is that of its slots; Slots, Next and Place tell the same. -/
import Derived.Test.YtgcjfonbppchlaaDoorSortK
import Derived.Test.YtgcjfonbppchlaaDoorRefZ
import Derived.Test.YtgcjfonbppchlaaDoorTellZ
namespace Go.Proofs.YtgcjfonbppchlaaDoor
open Go.RowKit Go.Sort
set_option maxRecDepth 100000

/-- The numbers that the law gathers, of the first k. -/
def backL (l : List Int) : Nat → List Int
  | 0 => []
  | k + 1 => match l[k]? with
    | some n => if (0 ≤ n ∧ n < 96) ∧ k < 60 then backL l k ++ [n] else backL l k
    | none => backL l k
theorem backL_hit {l : List Int} {k : Nat} (hk : k < l.length) (h : 0 ≤ l[k] ∧ l[k] < 96) (h60 : k < 60) : backL l (k + 1) = backL l k ++ [l[k]] := by
  show (match l[k]? with | some n => if (0 ≤ n ∧ n < 96) ∧ k < 60 then backL l k ++ [n] else backL l k | none => backL l k) = _
  rw [List.getElem?_eq_getElem hk]
  simp only
  rw [if_pos ⟨h, h60⟩]
theorem backL_miss {l : List Int} {k : Nat} (hk : k < l.length) (h : ¬ ((0 ≤ l[k] ∧ l[k] < 96) ∧ k < 60)) : backL l (k + 1) = backL l k := by
  show (match l[k]? with | some n => if (0 ≤ n ∧ n < 96) ∧ k < 60 then backL l k ++ [n] else backL l k | none => backL l k) = _
  rw [List.getElem?_eq_getElem hk]
  simp only
  rw [if_neg h]
theorem backL_len (l : List Int) : ∀ k, (backL l k).length ≤ k ∧ (backL l k).length ≤ 60
  | 0 => ⟨Nat.le_refl _, by simp [backL]⟩
  | k + 1 => by
    obtain ⟨h1, h2⟩ := backL_len l k
    unfold backL
    split
    · split
      · rename_i hh
        rw [List.length_append]
        simp
        omega
      · omega
    · omega
theorem backL_slot (l : List Int) : ∀ k, ∀ x ∈ backL l k, isSlot x
  | 0, x, hx => by simp [backL] at hx
  | k + 1, x, hx => by
    have ih := backL_slot l k
    unfold backL at hx
    split at hx
    · split at hx
      · rename_i hh
        rcases List.mem_append.1 hx with h | h
        · exact ih x h
        · rw [List.mem_singleton.1 h]; exact hh.1
      · exact ih x hx
    · exact ih x hx
theorem strict_eq : ∀ (l m : List Int), l.Pairwise (· < ·) → m.Pairwise (· < ·) → (∀ x, x ∈ l ↔ x ∈ m) → l = m
  | [], m, _, _, h => by
    cases m with
    | nil => rfl
    | cons y t => exact absurd ((h y).2 (by simp)) (by simp)
  | x :: l, [], _, _, h => absurd ((h x).1 (by simp)) (by simp)
  | x :: l, y :: m, hl, hm, h => by
    rw [List.pairwise_cons] at hl hm
    have hxy : x = y := by
      have h1 := (h x).1 (by simp)
      have h2 := (h y).2 (by simp)
      rcases List.mem_cons.1 h1 with h1 | h1
      · exact h1
      · rcases List.mem_cons.1 h2 with h2 | h2
        · exact h2.symm
        · have a1 := hm.1 x h1
          have a2 := hl.1 y h2
          omega
    subst hxy
    congr 1
    refine strict_eq l m hl.2 hm.2 fun z => ⟨fun hz => ?_, fun hz => ?_⟩
    · rcases List.mem_cons.1 ((h z).1 (List.mem_cons_of_mem _ hz)) with e | e
      · have := hl.1 z hz; omega
      · exact e
    · rcases List.mem_cons.1 ((h z).2 (List.mem_cons_of_mem _ hz)) with e | e
      · have := hm.1 z hz; omega
      · exact e
theorem seqL_strict (k : Nat) : (seqL 0 k).Pairwise (· < ·) := by
  unfold seqL
  rw [List.pairwise_map]
  exact List.pairwise_lt_range.imp fun h => by omega
theorem slots_strict (m : M) : (slotsK m 96).Pairwise (· < ·) := by
  unfold slotsK
  exact (seqL_strict 96).filter _
theorem sortL_le (l : List Int) : (sortL l).Pairwise (· ≤ ·) := by
  have h := List.pairwise_mergeSort (le := fun x y : Int => decide (x ≤ y)) (fun a b c h1 h2 => by simp at h1 h2 ⊢; omega) (fun a b => by simp; omega) l
  exact h.imp fun h => by simpa using h
theorem sorted_le {d : List Int} (h : d.Pairwise (· ≤ ·)) {i j : Nat} (hij : i ≤ j) (hj : j < d.length) : d[i]'(by omega) ≤ d[j] := by
  rcases Nat.lt_or_ge i j with h1 | h1
  · exact List.pairwise_iff_getElem.1 h i j (by omega) hj h1
  · have : i = j := by omega
    subst this; exact Int.le_refl _
theorem get_bang (d : List Int) {j : Nat} (hj : j < d.length) : d.toArray[j]! = d[j] := by simp [hj]
theorem compact_strict {d : List Int} (h : d.Pairwise (· ≤ ·)) : (Lib.compact d).Pairwise (· < ·) := by
  unfold Lib.compact Lib.compactUpTo
  rw [List.pairwise_map]
  have h1 : ((List.range d.length).filter (Lib.keeps d.toArray)).Pairwise (· < ·) := List.pairwise_lt_range.filter _
  refine h1.imp_of_mem fun {i j} hi hj hij => ?_
  rw [List.mem_filter, List.mem_range] at hi hj
  obtain ⟨hj1, hj2⟩ := hj
  have hk : j = 0 ∨ d.toArray[j]! ≠ d.toArray[j - 1]! := by simpa [Lib.keeps] using hj2
  rcases hk with hk | hk
  · omega
  · rw [get_bang d hj1, get_bang d (show j - 1 < d.length by omega)] at hk
    rw [get_bang d hj1, get_bang d hi.1]
    have a1 := sorted_le h (show i ≤ j - 1 by omega) (show j - 1 < d.length by omega)
    have a2 := sorted_le h (show j - 1 ≤ j by omega) hj1
    omega
theorem compact_mem {d : List Int} (x : Int) : x ∈ Lib.compact d ↔ x ∈ d := by
  unfold Lib.compact Lib.compactUpTo
  rw [List.mem_map]
  constructor
  · rintro ⟨j, hj, rfl⟩
    rw [List.mem_filter, List.mem_range] at hj
    rw [get_bang d hj.1]
    exact List.getElem_mem _
  · intro hx
    obtain ⟨j, hj, rfl⟩ := List.mem_iff_getElem.1 hx
    have key : ∀ j (hj : j < d.length), ∃ a, a ∈ (List.range d.length).filter (Lib.keeps d.toArray) ∧ d.toArray[a]! = d[j] := by
      intro j
      induction j with
      | zero =>
        intro hj
        exact ⟨0, List.mem_filter.2 ⟨List.mem_range.2 hj, by simp [Lib.keeps]⟩, get_bang d hj⟩
      | succ j ih =>
        intro hj
        cases hk : Lib.keeps d.toArray (j + 1)
        · have he : d.toArray[j + 1]! = d.toArray[j]! := by
            have : ¬ (j + 1 = 0 ∨ d.toArray[j + 1]! ≠ d.toArray[j]!) := by simpa [Lib.keeps] using hk
            exact Classical.byContradiction fun h => this (.inr h)
          obtain ⟨a, ha, hb⟩ := ih (by omega)
          refine ⟨a, ha, ?_⟩
          rw [hb, ← get_bang d hj, he, get_bang d (show j < d.length by omega)]
        · exact ⟨j + 1, List.mem_filter.2 ⟨List.mem_range.2 hj, hk⟩, get_bang d hj⟩
    exact key j hj
theorem hasM_of (l : List Int) (hl : ∀ x ∈ l, isSlot x) (s : Int) (hs : isSlot s) : hasM (ofAll l) s = decide (s ∈ l) := by
  obtain ⟨h0, h1⟩ := hs
  by_cases h : s < 64
  · obtain ⟨i, rfl⟩ : ∃ i : Nat, s = i := ⟨s.toNat, by omega⟩
    rw [hasM_1 _ i (by omega), ofAll_bit1 l i (by omega) hl]
  · obtain ⟨i, rfl⟩ : ∃ i : Nat, s = (i : Int) + 64 := ⟨(s - 64).toNat, by omega⟩
    rw [hasM_2 _ i (by omega), ofAll_bit2 l i (by omega) hl]
/-- A mask is that of its slots: they are what was handed in, sorted, each once. -/
theorem back_slots (l : List Int) (hl : ∀ x ∈ l, isSlot x) : slotsK (ofAll l) 96 = Lib.compact (sortL l) := by
  refine strict_eq _ _ (slots_strict _) (compact_strict (sortL_le l)) fun x => ?_
  rw [compact_mem, mem_slotsK]
  unfold sortL
  rw [List.mem_mergeSort]
  constructor
  · rintro ⟨hs, hx⟩
    rw [hasM_of l hl x ⟨by omega, by omega⟩] at hx
    simpa using hx
  · intro hx
    have hs := hl x hx
    exact ⟨by have := hs.1; have := hs.2; omega, by rw [hasM_of l hl x hs]; simpa using hx⟩
/-- Where Next is asked from, behind k slots. -/
def fromK (L : List Int) (k : Nat) : Int := match k with | 0 => 0 | k + 1 => match L[k]? with | some x => x + 1 | none => 0
theorem take_lt {L : List Int} (h : L.Pairwise (· < ·)) {k : Nat} (hk : k < L.length) : ∀ x ∈ L.take k, x < L[k] := by
  intro x hx
  obtain ⟨i, hi, rfl⟩ := List.mem_iff_getElem.1 hx
  rw [List.length_take] at hi
  rw [List.getElem_take]
  exact List.pairwise_iff_getElem.1 h i k (by omega) hk (by omega)
theorem next_k {L : List Int} (h : L.Pairwise (· < ·)) (hs : ∀ x ∈ L, 0 ≤ x) {k : Nat} (hk : k < L.length) : nextF L (fromK L k) = (L[k], true) := by
  refine nextF_hit L _ k hk ?_ ?_
  · intro x hx
    cases k with
    | zero => simp at hx
    | succ k =>
      unfold fromK
      simp only [List.getElem?_eq_getElem (show k < L.length by omega)]
      rw [List.take_succ_eq_append_getElem (show k < L.length by omega)] at hx
      rcases List.mem_append.1 hx with h1 | h1
      · have := take_lt h (show k < L.length by omega) x h1; omega
      · have := List.mem_singleton.1 h1; omega
  · cases k with
    | zero => exact hs _ (List.getElem_mem hk)
    | succ k =>
      unfold fromK
      simp only [List.getElem?_eq_getElem (show k < L.length by omega)]
      have := List.pairwise_iff_getElem.1 h k (k + 1) (by omega) hk (by omega)
      omega
theorem next_end {L : List Int} (h : L.Pairwise (· < ·)) : nextF L (fromK L L.length) = (0, false) := by
  refine nextF_none L _ fun x hx => ?_
  obtain ⟨i, hi, rfl⟩ := List.mem_iff_getElem.1 hx
  have e : L.length = (L.length - 1) + 1 := by omega
  rw [e]
  unfold fromK
  simp only [List.getElem?_eq_getElem (show L.length - 1 < L.length by omega)]
  rcases Nat.lt_or_ge i (L.length - 1) with h1 | h1
  · have := List.pairwise_iff_getElem.1 h i (L.length - 1) hi (by omega) h1; omega
  · have e2 : i = L.length - 1 := by omega
    subst e2; omega
theorem from_succ {L : List Int} {k : Nat} (hk : k < L.length) : fromK L (k + 1) = L[k] + 1 := by
  unfold fromK; simp only [List.getElem?_eq_getElem hk]
theorem place_k {L : List Int} (h : L.Pairwise (· < ·)) {k : Nat} (hk : k < L.length) : cntL L L[k] L.length = k := by
  unfold cntL
  rw [List.take_length]
  have e : L = L.take k ++ L[k] :: L.drop (k + 1) := by rw [← List.drop_eq_getElem_cons hk, List.take_append_drop]
  have h1 : (L.take k).filter (fun x => decide (x < L[k])) = L.take k := List.filter_eq_self.2 fun x hx => decide_eq_true (take_lt h hk x hx)
  have h2 : (L[k] :: L.drop (k + 1)).filter (fun x => decide (x < L[k])) = [] := by
    refine List.filter_eq_nil_iff.2 fun x hx => ?_
    rw [← List.drop_eq_getElem_cons hk] at hx
    obtain ⟨i, hi, rfl⟩ := List.mem_iff_getElem.1 hx
    rw [List.length_drop] at hi
    rw [List.getElem_drop]
    rcases Nat.eq_zero_or_pos i with h0 | h0
    · subst h0; simp
    · have := List.pairwise_iff_getElem.1 h k (k + i) hk (by omega) (by omega)
      simp; omega
  have h3 : L.filter (fun x => decide (x < L[k])) = (L.take k).filter (fun x => decide (x < L[k])) ++ (L[k] :: L.drop (k + 1)).filter (fun x => decide (x < L[k])) := by
    rw [← List.filter_append, ← e]
  rw [h3, h1, h2, List.append_nil, List.length_take]
  omega
theorem place_end {L : List Int} (hs : ∀ x ∈ L, x < 96) : cntL L 96 L.length = L.length := by
  unfold cntL
  rw [List.take_length, List.filter_eq_self.2 fun x hx => decide_eq_true (hs x hx)]
end Go.Proofs.YtgcjfonbppchlaaDoor
