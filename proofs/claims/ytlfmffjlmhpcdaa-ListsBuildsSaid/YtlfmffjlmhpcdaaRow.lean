/- Rows that a call gathers by append; the bits of single slots. -/
import Derived.Test.YtlfmffjlmhpcdaaBits
import Derived.OwnWalk
import Derived.Laws.AppendOwn
namespace Go.Proofs.Ytlfmffjlmhpcdaa
open Go.RowKit
set_option maxRecDepth 100000

theorem info_int : (Try.prog.info? 3).map (fun i => (i.zero, i.size, i.bytes)) = some (some (.int .i64 0), 1, 8) := by kernel_rfl
theorem Ints.of_owns {w : World} {B n : Nat} {v : Value} {l : List Int} (h : w.ownsRow B 3 1 v n (l.map (Value.int .i64))) : Ints w v l := by
  have hn : l.length = n := by have := h.1; simpa using this
  subst hn
  rcases h.2 with ⟨rfl, h0⟩ | ⟨g, cap, cur, rfl, hB, hg, hl, hm, hs, hx⟩
  · have := List.eq_nil_of_length_eq_zero h0
    subst this
    exact Sl.nilS w
  · have hlt : g < w.heap.size := (Array.getElem?_eq_some_iff.1 hg).1
    have hm' : cap ≤ 9223372036854775807 := by unfold maxLen at hm; omega
    refine Sl.of_cells hlt hl hm' fun i hi => ?_
    have := h.cells (g := g) rfl i _ (List.getElem?_eq_getElem hi)
    have e : (⟨g, 0, none⟩ : Addr).add i = ⟨g, i, none⟩ := by unfold Addr.add; split <;> simp_all
    rw [e] at this
    exact this
theorem gather {B e : Nat} {w0 w w1 : World} {v : Value} {n : Nat} {xs : List Value} {o : Obj} (hB : Below B w0 w) (hb : B ≤ w.heap.size) (hown : w.ownsRow B e 1 v n xs) (hg : (w.alloc o).grownBy w1 v.ownBlock) :
    Below B w0 w1 ∧ B ≤ w1.heap.size := by
  have h1 : Below B w0 w1 := (hB.alloc hb o).grown hg (by simp; omega) (fun k hk => (hown.lt k hk).1)
  exact ⟨h1, by have := hg.size; simp at this; omega⟩

theorem bitW_bit (n : Int) (i : Nat) (h : i < 64) : (bitW n).getLsbD i = decide ((n % 64).toNat = i) := by
  unfold bitW; rw [BitVec.getLsbD_ofNat, Nat.testBit_two_pow]; simp [h]
theorem bit0_bit (n : Int) (i : Nat) (h : i < 64) (h0 : 0 ≤ n) : (bit0 n).getLsbD i = decide ((i : Int) = n) := by
  unfold bit0
  split
  · rw [bitW_bit n i h]; simp; omega
  · simp; omega
theorem bit1_bit (n : Int) (i : Nat) (h : i < 64) (h1 : n < 96) : (bit1 n).getLsbD i = decide ((i : Int) = n - 64) := by
  unfold bit1
  split
  · simp; omega
  · rw [bitW_bit n i h]; simp; omega

def seqL (a : Int) (j : Nat) : List Int := (List.range j).map fun (i : Nat) => a + (i : Int)
theorem seqL_succ (a : Int) (j : Nat) : seqL a (j + 1) = seqL a j ++ [a + j] := by unfold seqL; rw [List.range_succ, List.map_append]; rfl
theorem seqL_length (a : Int) (j : Nat) : (seqL a j).length = j := by unfold seqL; simp
theorem seqL_slot (a : Int) (j : Nat) (h0 : 0 ≤ a) (h1 : a + j ≤ 96) : ∀ x ∈ seqL a j, isSlot x := by
  intro x hx
  unfold seqL at hx
  obtain ⟨i, hi, rfl⟩ := List.mem_map.1 hx
  have := List.mem_range.1 hi
  constructor <;> omega
theorem ofAll_append (l : List Int) (x : Int) : ofAll (l ++ [x]) = mOr (ofAll l) (mBit x) := by unfold ofAll; rw [List.foldl_append]; rfl
theorem range_law (a : Int) (j : Nat) (h0 : 0 ≤ a) (h1 : a + j ≤ 96) : ofAll (seqL a j) = rangeM a (a + j) := by
  induction j with
  | zero =>
    show mZero = _
    unfold mZero rangeM
    refine Prod.ext ?_ ?_
    all_goals
      apply BitVec.eq_of_getLsbD_eq
      intro i hi
      simp [hi]
  | succ j ih =>
    rw [seqL_succ, ofAll_append, ih (by omega)]
    unfold mOr rangeM mBit
    refine Prod.ext ?_ ?_
    all_goals
      apply BitVec.eq_of_getLsbD_eq
      intro i hi
      simp only [BitVec.getLsbD_and, BitVec.getLsbD_or, BitVec.getLsbD_not, lowBits_bit _ i hi, bit0_bit _ i hi (show 0 ≤ a + (j : Int) by omega), bit1_bit _ i hi (show a + (j : Int) < 96 by omega), hi, decide_true, Bool.true_and]
      rw [Bool.eq_iff_iff]
      simp
      omega
end Go.Proofs.Ytlfmffjlmhpcdaa
