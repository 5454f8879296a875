/- The plain laws beneath MaskTells: how many slots a mask has, how many below a number. -/
import Derived.Test.YtlfmffjlmhpcdaaTellB
import Derived.Test.YtlfmffjlmhpcdaaPop
namespace Go.Proofs.Ytlfmffjlmhpcdaa
open Go.RowKit
set_option maxRecDepth 100000

theorem hasW1 (m : M) (i : Nat) (h : i < 64) : hasM m i = m.1.getLsbD i := by
  unfold hasM; rw [if_pos (by omega), show ((i : Int) % 64).toNat = i by omega]
theorem hasW2 (m : M) (i : Nat) (h : i < 64) : hasM m ((64 + i : Nat) : Int) = m.2.getLsbD i := by
  unfold hasM; rw [if_neg (by omega), show (((64 + i : Nat) : Int) % 64).toNat = i by omega]
theorem slots_len (m : M) : (slotsK m 96).length = popc (m.1 &&& ones) + popc (m.2 &&& low32) := by
  unfold slotsK seqL
  rw [← List.countP_eq_length_filter, List.countP_map, show List.range 96 = List.range 64 ++ (List.range 32).map (64 + ·) from List.range_add (n := 64) (m := 32), List.countP_append, List.countP_map]
  have h2 : popc (m.2 &&& low32) = (List.range 32).countP fun i => m.2.getLsbD i := by
    unfold popc
    rw [show List.range 64 = List.range 32 ++ (List.range 32).map (32 + ·) from List.range_add (n := 32) (m := 32), List.countP_append, List.countP_map]
    have hz : List.countP ((fun i => (m.2 &&& low32).getLsbD i) ∘ fun x => 32 + x) (List.range 32) = 0 := by
      refine List.countP_eq_zero.2 fun i hi => ?_
      have := List.mem_range.1 hi
      simp [BitVec.getLsbD_and, low32_bit (32 + i) (by omega)]
    rw [hz, Nat.add_zero]
    refine List.countP_congr fun i hi => ?_
    have := List.mem_range.1 hi
    simp [BitVec.getLsbD_and, low32_bit i (by omega), this]
  rw [h2]
  unfold popc
  refine congr (congrArg _ ?_) ?_
  · refine List.countP_congr fun i hi => ?_
    have := List.mem_range.1 hi
    have e : hasM m (0 + (i : Int)) = m.1.getLsbD i := by rw [Int.zero_add]; exact hasW1 m i this
    simp only [Function.comp, e, BitVec.getLsbD_and, ones_bit i this, Bool.and_true]
  · refine List.countP_congr fun i hi => ?_
    have := List.mem_range.1 hi
    have e : hasM m (0 + ((64 + i : Nat) : Int)) = m.2.getLsbD i := by rw [Int.zero_add]; exact hasW2 m i (by omega)
    simp only [Function.comp, e]
theorem cnt_list (m : M) : cntF m.1 m.2 = ((slotsK m 96).length : Nat) := by
  unfold cntF; rw [pcE_popc, pcE_popc, slots_len]; simp
theorem has_below (m : M) (q : Int) (x : Int) (h0 : 0 ≤ x) (h1 : x < 96) : hasM (mAnd m (belowM q)) x = (hasM m x && decide (x < q)) := by
  unfold hasM mAnd belowM
  by_cases h : x < 64
  · simp only [if_pos h, BitVec.getLsbD_and]
    rw [lowBits_bit _ _ (by omega), show (((x % 64).toNat : Nat) : Int) = x by omega]
  · simp only [if_neg h, BitVec.getLsbD_and]
    rw [lowBits_bit _ _ (by omega)]
    have e : ((((x % 64).toNat : Nat) : Int) < q - 64) = (x < q) := by apply propext; omega
    simp only [e]
theorem place_list (m : M) (n q : Int) (hq : (if n < 0 then 0 else n) = q) : cntF (m.1 &&& lowBits q) (m.2 &&& lowBits (q - 64)) = (cntL (slotsK m 96) n (slotsK m 96).length : Nat) := by
  have h := cnt_list (mAnd m (belowM q))
  refine Eq.trans h ?_
  congr 1
  unfold cntL
  rw [List.take_length]
  unfold slotsK
  rw [List.filter_filter]
  congr 1
  refine List.filter_congr fun x hx => ?_
  unfold seqL at hx
  obtain ⟨i, hi, rfl⟩ := List.mem_map.1 hx
  have := List.mem_range.1 hi
  rw [has_below m q _ (by omega) (by omega), Bool.and_comm]
  have e : (0 + (i : Int) < q) = (0 + (i : Int) < n) := by apply propext; split at hq <;> omega
  simp only [e]
end Go.Proofs.Ytlfmffjlmhpcdaa
