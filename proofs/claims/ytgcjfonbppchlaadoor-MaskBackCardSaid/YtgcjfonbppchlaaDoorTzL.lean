/- The rows of slots that the iterator of a mask gives: the lowest bit first, then what is left. -/
import Derived.Test.YtgcjfonbppchlaaDoorTz
import Derived.Test.YtgcjfonbppchlaaDoorTellZ
namespace Go.Proofs.YtgcjfonbppchlaaDoor
set_option maxRecDepth 100000

/-- The places of a word's bits, rising. -/
def lowsL (x : BitVec 64) : List Nat := (List.range 64).filter fun i => x.getLsbD i
theorem lowsL_zero : lowsL 0#64 = [] := by
  unfold lowsL; rw [List.filter_eq_nil_iff]; intro i _; simp
theorem lowsL_step {x : BitVec 64} {k : Nat} (h : lowAt x k) : lowsL x = k :: lowsL (x &&& (x - 1#64)) := by
  unfold lowsL
  have hr : List.range 64 = List.range k ++ k :: ((List.range (63 - k)).map fun i => k + (i + 1)) := by
    have h64 : 64 = k + ((63 - k) + 1) := by have := h.1; omega
    have e := List.range_add (n := k) (m := (63 - k) + 1)
    rw [← h64] at e
    rw [e, List.range_succ_eq_map, List.map_cons, List.map_map, Nat.add_zero]
    rfl
  have hlo : ∀ y : BitVec 64, (∀ j, j < k → y.getLsbD j = false) → (List.range k).filter (fun i => y.getLsbD i) = [] := by
    intro y hy
    rw [List.filter_eq_nil_iff]
    intro i hi
    rw [hy i (List.mem_range.1 hi)]; simp
  have hy : ∀ j, j < k → (x &&& (x - 1#64)).getLsbD j = false := by
    intro j hj
    rw [clear_low h j (by have := h.1; omega), h.2.2 j hj]; rfl
  have hk : (x &&& (x - 1#64)).getLsbD k = false := by rw [clear_low h k h.1]; simp
  rw [hr, List.filter_append, List.filter_append, hlo x h.2.2, hlo _ hy, List.filter_cons_of_pos h.2.1, List.filter_cons_of_neg (by rw [hk]; simp)]
  simp only [List.nil_append]
  congr 1
  refine List.filter_congr fun i hi => ?_
  obtain ⟨j, hj, rfl⟩ := List.mem_map.1 hi
  have := List.mem_range.1 hj
  rw [clear_low h _ (by omega), show decide (k + (j + 1) = k) = false from decide_eq_false (by omega)]; simp
/-- What the iterator gives is the row of the mask's slots. -/
theorem slots_lows (m : M) : slotsK m 96 = (lowsL (m.1 &&& ones)).map (fun (i : Nat) => (i : Int)) ++ (lowsL (m.2 &&& low32)).map (fun (i : Nat) => ((64 + i : Nat) : Int)) := by
  have hsplit : List.range 96 = List.range 64 ++ (List.range 32).map (64 + ·) := List.range_add (n := 64) (m := 32)
  have h2 : lowsL (m.2 &&& low32) = (List.range 32).filter fun i => m.2.getLsbD i := by
    unfold lowsL
    rw [show List.range 64 = List.range 32 ++ (List.range 32).map (32 + ·) from List.range_add (n := 32) (m := 32), List.filter_append]
    have hz : ((List.range 32).map (32 + ·)).filter (fun i => (m.2 &&& low32).getLsbD i) = [] := by
      rw [List.filter_eq_nil_iff]
      intro i hi
      obtain ⟨j, hj, rfl⟩ := List.mem_map.1 hi
      have := List.mem_range.1 hj
      simp [BitVec.getLsbD_and, low32_bit (32 + j) (by omega)]
    rw [hz, List.append_nil]
    refine List.filter_congr fun i hi => ?_
    have := List.mem_range.1 hi
    simp [BitVec.getLsbD_and, low32_bit i (by omega), this]
  have h1 : lowsL (m.1 &&& ones) = (List.range 64).filter fun i => m.1.getLsbD i := by
    unfold lowsL
    refine List.filter_congr fun i hi => ?_
    simp [BitVec.getLsbD_and, ones_bit i (List.mem_range.1 hi)]
  rw [h1, h2]
  unfold slotsK seqL
  rw [hsplit, List.map_append, List.filter_append, List.map_map, List.filter_map, List.filter_map]
  refine congr (congrArg _ ?_) ?_
  · have e : (List.range 64).filter (hasM m ∘ fun (i : Nat) => 0 + (i : Int)) = (List.range 64).filter fun i => m.1.getLsbD i :=
      List.filter_congr fun i hi => by simp only [Function.comp, Int.zero_add]; exact hasW1 m i (List.mem_range.1 hi)
    rw [e]; simp
  · have e : (List.range 32).filter (hasM m ∘ ((fun (i : Nat) => 0 + (i : Int)) ∘ fun x => 64 + x)) = (List.range 32).filter fun i => m.2.getLsbD i :=
      List.filter_congr fun i hi => by simp only [Function.comp, Int.zero_add]; exact hasW2 m i (by have := List.mem_range.1 hi; omega)
    rw [e]; simp [Function.comp_def]
end Go.Proofs.YtgcjfonbppchlaaDoor
