/- lists.Build: the lists of centroids that agree with an arena. -/
import Derived.Test.YtlfmffjlmhpcdaaSame
import Derived.Laws.OwnMore
namespace Go.Proofs.Ytlfmffjlmhpcdaa
open Go.RowKit
set_option maxRecDepth 100000
attribute [local irreducible] Der

theorem made_masks (n : Nat) : (madeCells (Value.cells (.agg #[.int .u64 0, .int .u64 0])) (n * 2)).toList = cellsM (List.replicate n mZero) := by
  apply List.ext_getElem
  · rw [cellsM_length]; simp [madeCells]; omega
  · intro i h1 h2
    rw [cellsM_length, List.length_replicate] at h2
    have hi : i / 2 < (List.replicate n mZero).length := by rw [List.length_replicate]; omega
    obtain ⟨g1, g2⟩ := cellsM_get (List.replicate n mZero) (i / 2) hi
    have e : i = 2 * (i / 2) ∨ i = 2 * (i / 2) + 1 := by omega
    simp only [List.getElem_replicate, mZero, U_zero] at g1 g2
    rcases e with e | e
    · have h3 : (cellsM (List.replicate n mZero))[i]? = some (.int .u64 0) := by rw [e]; exact g1
      rw [List.getElem?_eq_getElem (by rw [cellsM_length, List.length_replicate]; omega)] at h3
      rw [Option.some.inj h3]
      simp [madeCells, Value.cells]
      have : i % 2 = 0 := by omega
      simp [this]
    · have h3 : (cellsM (List.replicate n mZero))[i]? = some (.int .u64 0) := by rw [e]; exact g2
      rw [List.getElem?_eq_getElem (by rw [cellsM_length, List.length_replicate]; omega)] at h3
      rw [Option.some.inj h3]
      simp [madeCells, Value.cells]
      have : i % 2 = 1 := by omega
      simp [this]
theorem run_make_masks (W : World) (n base : Nat) (hn : n ≤ 1000) (hb : base ≤ W.heap.size) : ∃ w', (Instr.makeSlice 23 (.int .i64 (n : Int)) (.int .i64 (n : Int))).run Try.prog W = .ok (.slice (some ⟨W.heap.size, 0, none⟩) n n) w' ∧
    w'.ownsRow base 49 2 (.slice (some ⟨W.heap.size, 0, none⟩) n n) n (cellsM (List.replicate n mZero)) ∧ Below W.heap.size W w' := by
  obtain ⟨i0, hi, hz0, hz1, hz2⟩ := info_parts info_mask'
  obtain ⟨w', h1, h2, h3⟩ := run_makeSlice_full (P := Try.prog) (w := W) base 23 49 i0 _ 2 Try.underlying23 hi hz0 hz1 .i64 .i64 n (by omega) (by rw [hz2]; omega) (by unfold maxLen; omega) hb
  refine ⟨w', h1, ?_, ?_⟩
  · rw [made_masks] at h2; exact h2
  · exact ⟨h3.os, h3.tape, h3.output, h3.size, fun i hi => h3.block i hi (by simp)⟩
/-- Where a cell's vector belongs. -/
def placeC (cs : List PV) (c : Cel) : Nat := bestK (farD cs c.vec) (cs.length - 1)
/-- The masks that are built of the first k cells. -/
def buildM (cs : List PV) (cells : List Cel) : Nat → List M
  | 0 => List.replicate cs.length mZero
  | k + 1 => match cells[k]? with
    | some c => if c.used then withL (putD (placeC cs c) (k : Int)) (buildM cs cells k) cs.length else buildM cs cells k
    | none => buildM cs cells k
theorem buildM_length (cs : List PV) (cells : List Cel) : ∀ k, (buildM cs cells k).length = cs.length
  | 0 => by simp [buildM]
  | k + 1 => by
    unfold buildM
    split
    · split
      · exact withL_length _ _ _
      · exact buildM_length cs cells k
    · exact buildM_length cs cells k
theorem buildM_used {cs : List PV} {cells : List Cel} {k : Nat} (h : k < cells.length) (hu : cells[k].used = true) : buildM cs cells (k + 1) = withL (putD (placeC cs cells[k]) (k : Int)) (buildM cs cells k) (buildM cs cells k).length := by
  rw [buildM_length]
  show (match cells[k]? with | some c => if c.used then withL (putD (placeC cs c) (k : Int)) (buildM cs cells k) cs.length else buildM cs cells k | none => buildM cs cells k) = _
  rw [List.getElem?_eq_getElem h]
  simp [hu]
theorem buildM_free {cs : List PV} {cells : List Cel} {k : Nat} (h : k < cells.length) (hu : cells[k].used = false) : buildM cs cells (k + 1) = buildM cs cells k := by
  show (match cells[k]? with | some c => if c.used then withL (putD (placeC cs c) (k : Int)) (buildM cs cells k) cs.length else buildM cs cells k | none => buildM cs cells k) = _
  rw [List.getElem?_eq_getElem h]
  simp [hu]
theorem chk_or_bit {b : BitVec 64} (h : chk b = 0) {s : Int} (hs : isSlot s) : chk (b ||| bit1 s) = 0 := by
  have e1 : b &&& ~~~low32 = 0#64 := by unfold chk at h; split at h; assumption; omega
  have e2 : bit1 s &&& ~~~low32 = 0#64 := by
    apply BitVec.eq_of_getLsbD_eq
    intro i hi
    rw [BitVec.getLsbD_and, BitVec.getLsbD_not, bit1_bit s i hi hs.2, low32_bit i hi, BitVec.getLsbD_zero]
    have h2 := hs.2
    by_cases hc : (i : Int) = s - 64
    · have : i < 32 := by omega
      simp [this]
    · simp [hc]
  have e3 : (b ||| bit1 s) &&& ~~~low32 = 0#64 := by
    apply BitVec.eq_of_getLsbD_eq
    intro i hi
    have g1 := congrArg (fun x => BitVec.getLsbD x i) e1
    have g2 := congrArg (fun x => BitVec.getLsbD x i) e2
    simp only [BitVec.getLsbD_and, BitVec.getLsbD_or, BitVec.getLsbD_zero] at g1 g2 ⊢
    cases hx : b.getLsbD i <;> cases hy : (bit1 s).getLsbD i <;> simp_all
  unfold chk; rw [if_pos e3]
theorem mAt_withL (d : Nat → M → M) (ms : List M) (n i : Nat) (h : i < n) : mAt (withL d ms n) i = d i (mAt ms i) := by
  unfold mAt withL
  rw [List.getElem?_map, List.getElem?_range h]
  rfl
theorem buildM_chk (cs : List PV) (cells : List Cel) (h96 : cells.length ≤ 96) : ∀ k i, k ≤ cells.length → i < cs.length → chk (mAt (buildM cs cells k) i).2 = 0
  | 0, i, _, hi => by
    have : mAt (buildM cs cells 0) i = mZero := by unfold mAt buildM; rw [List.getElem?_replicate, if_pos hi]; rfl
    rw [this]; decide
  | k + 1, i, hk, hi => by
    have ih := buildM_chk cs cells h96 k i (by omega) hi
    have hk' : k < cells.length := by omega
    cases hu : cells[k].used
    · rw [buildM_free hk' hu]; exact ih
    · rw [buildM_used hk' hu, buildM_length, mAt_withL _ _ _ _ hi]
      unfold putD
      split
      · exact chk_or_bit ih ⟨by omega, by omega⟩
      · exact ih
end Go.Proofs.Ytlfmffjlmhpcdaa
