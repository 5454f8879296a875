/- The bits of ranges of slots. -/
import Derived.Test.YtgcjfonbppchlaaDoorMaskZ
import Derived.OwnWalk
import Derived.Laws.AppendOwn
namespace Go.Proofs.YtgcjfonbppchlaaDoor
open Go.RowKit
set_option maxRecDepth 100000

def rangeM (a b : Int) : M := (lowBits b &&& ~~~ lowBits a, lowBits (b - 64) &&& ~~~ lowBits (a - 64))
def belowM (n : Int) : M := (lowBits n, lowBits (n - 64))

theorem ones_bit (i : Nat) (h : i < 64) : ones.getLsbD i = true := by unfold ones; rw [BitVec.getLsbD_allOnes]; simp [h]
theorem low32_bit (i : Nat) (h : i < 64) : low32.getLsbD i = decide (i < 32) := by
  have : low32 = BitVec.ofNat 64 (2 ^ 32 - 1) := by decide
  rw [this, BitVec.getLsbD_ofNat, Nat.testBit_two_pow_sub_one]; simp [h]
theorem lowBits_bit (k : Int) (i : Nat) (h : i < 64) : (lowBits k).getLsbD i = decide ((i : Int) < k) := by
  unfold lowBits
  split
  · rw [ones_bit i h]; symm; simp; omega
  · split
    · rw [BitVec.getLsbD_ofNat, Nat.testBit_two_pow_sub_one]; simp [h]; try omega
    · simp; try omega
end Go.Proofs.YtgcjfonbppchlaaDoor

/- Rows that a call gathers by append; the bits of single slots. -/
namespace Go.Proofs.YtgcjfonbppchlaaDoor
open Go.RowKit
set_option maxRecDepth 100000

theorem info_int : (Tryd.prog.info? 3).map (fun i => (i.zero, i.size, i.bytes)) = some (some (.int .i64 0), 1, 8) := by kernel_rfl
theorem Ints.of_owns {w : World} {B n : Nat} {v : Value} {l : List Int} (h : w.ownsRow B 3 1 v n (l.map (Value.int .i64))) : Ints w v l := by
  have hn : l.length = n := by have := h.1; simpa using this
  subst hn
  rcases h.2 with ⟨rfl, h0⟩ | ⟨g, cap, cur, rfl, hB, hg, hl, hm, hs, hx⟩
  · have := List.eq_nil_of_length_eq_zero h0
    subst this
    exact Sl.nilS w
  · have hlt : g < w.heap.size := (Array.getElem?_eq_some_iff.1 hg).1
    have hm' : cap ≤ 9223372036854775807 := by unfold maxLen at hm; omega
    refine Sl.of_cells hlt hl hm' fun i hi => ?_
    have := h.cells (g := g) rfl i _ (List.getElem?_eq_getElem hi)
    have e : (⟨g, 0, none⟩ : Addr).add i = ⟨g, i, none⟩ := by unfold Addr.add; split <;> simp_all
    rw [e] at this
    exact this
theorem gather {B e : Nat} {w0 w w1 : World} {v : Value} {n : Nat} {xs : List Value} {o : Obj} (hB : Below B w0 w) (hb : B ≤ w.heap.size) (hown : w.ownsRow B e 1 v n xs) (hg : (w.alloc o).grownBy w1 v.ownBlock) :
    Below B w0 w1 ∧ B ≤ w1.heap.size := by
  have h1 : Below B w0 w1 := (hB.alloc hb o).grown hg (by simp; omega) (fun k hk => (hown.lt k hk).1)
  exact ⟨h1, by have := hg.size; simp at this; omega⟩

theorem bitW_bit (n : Int) (i : Nat) (h : i < 64) : (bitW n).getLsbD i = decide ((n % 64).toNat = i) := by
  unfold bitW; rw [BitVec.getLsbD_ofNat, Nat.testBit_two_pow]; simp [h]
theorem bit0_bit (n : Int) (i : Nat) (h : i < 64) (h0 : 0 ≤ n) : (bit0 n).getLsbD i = decide ((i : Int) = n) := by
  unfold bit0
  split
  · rw [bitW_bit n i h]; simp; omega
  · simp; omega
theorem bit1_bit (n : Int) (i : Nat) (h : i < 64) (h1 : n < 96) : (bit1 n).getLsbD i = decide ((i : Int) = n - 64) := by
  unfold bit1
  split
  · simp; omega
  · rw [bitW_bit n i h]; simp; omega

def seqL (a : Int) (j : Nat) : List Int := (List.range j).map fun (i : Nat) => a + (i : Int)
theorem seqL_succ (a : Int) (j : Nat) : seqL a (j + 1) = seqL a j ++ [a + j] := by unfold seqL; rw [List.range_succ, List.map_append]; rfl
theorem seqL_length (a : Int) (j : Nat) : (seqL a j).length = j := by unfold seqL; simp
theorem seqL_slot (a : Int) (j : Nat) (h0 : 0 ≤ a) (h1 : a + j ≤ 96) : ∀ x ∈ seqL a j, isSlot x := by
  intro x hx
  unfold seqL at hx
  obtain ⟨i, hi, rfl⟩ := List.mem_map.1 hx
  have := List.mem_range.1 hi
  constructor <;> omega
theorem ofAll_append (l : List Int) (x : Int) : ofAll (l ++ [x]) = mOr (ofAll l) (mBit x) := by unfold ofAll; rw [List.foldl_append]; rfl
theorem range_law (a : Int) (j : Nat) (h0 : 0 ≤ a) (h1 : a + j ≤ 96) : ofAll (seqL a j) = rangeM a (a + j) := by
  induction j with
  | zero =>
    show mZero = _
    unfold mZero rangeM
    refine Prod.ext ?_ ?_
    all_goals
      apply BitVec.eq_of_getLsbD_eq
      intro i hi
      simp [hi]
  | succ j ih =>
    rw [seqL_succ, ofAll_append, ih (by omega)]
    unfold mOr rangeM mBit
    refine Prod.ext ?_ ?_
    all_goals
      apply BitVec.eq_of_getLsbD_eq
      intro i hi
      simp only [BitVec.getLsbD_and, BitVec.getLsbD_or, BitVec.getLsbD_not, lowBits_bit _ i hi, bit0_bit _ i hi (show 0 ≤ a + (j : Int) by omega), bit1_bit _ i hi (show a + (j : Int) < 96 by omega), hi, decide_true, Bool.true_and]
      rw [Bool.eq_iff_iff]
      simp
      omega
end Go.Proofs.YtgcjfonbppchlaaDoor

/- The contracts of the document's answer for layer 10: with, Has, Of. -/
namespace Go.Proofs.YtgcjfonbppchlaaDoor
open Go.RowKit
set_option maxRecDepth 100000

end Go.Proofs.YtgcjfonbppchlaaDoor

/- The contracts of the document's answer for layer 10: Has, Slots. -/
namespace Go.Proofs.YtgcjfonbppchlaaDoor
open Go.RowKit
set_option maxRecDepth 100000

/-- Has a mask a slot? -/
def hasM (m : M) (n : Int) : Bool := if n < 64 then m.1.getLsbD (n % 64).toNat else m.2.getLsbD (n % 64).toNat
theorem shr_one (a : BitVec 64) (k : Nat) : (shrW k a &&& 1#64) = if a.getLsbD k then 1#64 else 0#64 := by
  apply BitVec.eq_of_getLsbD_eq
  intro i hi
  unfold shrW
  rw [BitVec.getLsbD_and, BitVec.getLsbD_ushiftRight]
  rcases Nat.eq_zero_or_pos i with rfl | h
  · cases h : a.getLsbD k <;> simp
  · have e : (1#64).getLsbD i = false := by simp [BitVec.getLsbD_one]; omega
    rw [e]
    cases h : a.getLsbD k <;> simp <;> omega
theorem U_has (a : BitVec 64) (n : Int) : (bits .and .u64 (U a / 2 ^ (n % 64).toNat) 1 == 1) = a.getLsbD (n % 64).toNat := by
  have e1 : (1 : Int) = U 1#64 := by decide
  have e2 : (2 : Int) ^ (n % 64).toNat = ((2 ^ (n % 64).toNat : Nat) : Int) := by simp
  rw [e2, U_shr, e1, bits_and_U, U_beq, shr_one]
  cases a.getLsbD (n % 64).toNat <;> decide

theorem owns_below {w w' : World} {B e size n : Nat} {v : Value} {xs : List Value} (h : w.ownsRow B e size v n xs) (hb : Below w.heap.size w w') : w'.ownsRow B e size v n xs :=
  h.kept (row := none) ⟨hb.os, hb.tape, hb.output, hb.size, fun k hk _ => hb.block k hk⟩ (Classical.em _)
/-- The slots that a mask has, below k. -/
def slotsK (m : M) (k : Nat) : List Int := (seqL 0 k).filter (hasM m)
theorem slotsK_hit (m : M) (k : Nat) (h : hasM m k = true) : slotsK m (k + 1) = slotsK m k ++ [(k : Int)] := by
  unfold slotsK; rw [seqL_succ, List.filter_append, Int.zero_add, List.filter_cons_of_pos h]; rfl
theorem slotsK_miss (m : M) (k : Nat) (h : hasM m k = false) : slotsK m (k + 1) = slotsK m k := by
  unfold slotsK; rw [seqL_succ, List.filter_append, Int.zero_add, List.filter_cons_of_neg (by simp [h])]; simp
theorem slotsK_le (m : M) (k : Nat) : (slotsK m k).length ≤ k := by
  have := List.length_filter_le (hasM m) (seqL 0 k); rw [seqL_length] at this; exact this
theorem slotsK_slot (m : M) : ∀ x ∈ slotsK m 96, isSlot x := by
  intro x hx
  exact seqL_slot 0 96 (by omega) (by omega) x (List.mem_filter.1 hx).1

/-- What an owned row of numbers reads as. -/
theorem owns_open {w : World} {B n : Nat} {v : Value} {l : List Int} (h : w.ownsRow B 3 1 v n (l.map (Value.int .i64))) : ∃ a cap, v = .slice a l.length cap ∧ l.length ≤ cap ∧ cap ≤ 9223372036854775807 ∧
    ∀ i (hi : i < l.length), ∃ g, a = some ⟨g, 0, none⟩ ∧ B ≤ g ∧ g < w.heap.size ∧ w.cell? ⟨g, i, none⟩ = some (.int .i64 l[i]) := by
  have hn : l.length = n := by have := h.1; simpa using this
  subst hn
  rcases h.2 with ⟨rfl, h0⟩ | ⟨g, cap, cur, rfl, hB, hg, hl, hm, hs, hx⟩
  · exact ⟨none, 0, by rw [h0], by omega, by omega, fun i hi => by omega⟩
  · have hlt : g < w.heap.size := (Array.getElem?_eq_some_iff.1 hg).1
    have hm' : cap ≤ 9223372036854775807 := by unfold maxLen at hm; omega
    refine ⟨_, cap, rfl, hl, hm', fun i hi => ⟨g, rfl, hB, hlt, ?_⟩⟩
    have := h.cells (g := g) rfl i (.int .i64 l[i]) (by simp [hi])
    have e : (⟨g, 0, none⟩ : Addr).add i = ⟨g, i, none⟩ := by unfold Addr.add; split <;> simp_all
    rw [e] at this
    exact this
theorem but_refl (w : World) (row : Option Nat) : w.grownBy w row := ⟨rfl, rfl, rfl, Nat.le_refl _, fun _ _ _ => rfl⟩
theorem but_below {w w' w'' : World} {row : Option Nat} (h : w.grownBy w' row) (hb : Below w'.heap.size w' w'') : w.grownBy w'' row :=
  ⟨hb.os.trans h.os, hb.tape.trans h.tape, hb.output.trans h.output, Nat.le_trans h.size hb.size, fun k hk hr => (hb.block k (Nat.lt_of_lt_of_le hk h.size)).trans (h.block k hk hr)⟩
theorem but_setCell {w w' : World} {n o : Nat} (h : w.grownBy w' (some n)) (u : Value) : w.grownBy (w'.setCell ⟨n, o, none⟩ u) (some n) :=
  ⟨h.os, h.tape, h.output, by have := h.size; simpa [World.setCell] using this, fun k hk hr => (Below.heap_setCell _ _ _ _ (fun e => hr (by rw [e]))).trans (h.block k hk hr)⟩
theorem but_alloc {w w' : World} {row : Option Nat} (h : w.grownBy w' row) (o : Obj) : w.grownBy (w'.alloc o) row :=
  but_below h ((Below.refl _ _).alloc (Nat.le_refl _) _)
theorem but_drew {w w' : World} {row : Option Nat} (h : w.grownBy w' row) : w.grownBy w'.drew row :=
  but_below h (Below.refl _ _).drew
theorem but_cell {w w' : World} {n : Nat} (h : w.grownBy w' (some n)) {p : Addr} (h1 : p.block < w.heap.size) (h2 : p.block ≠ n) : w'.cell? p = w.cell? p :=
  World.cell?_of_block (w := w) (h.block p.block h1 (by simp [h2]))
theorem but_frozen {w w' : World} {n : Nat} (h : w.grownBy w' (some n)) {p : Addr} (h1 : p.block < w.heap.size) (h2 : p.block ≠ n) : w'.frozen? p = w.frozen? p :=
  World.frozen?_of_block (w := w) (h.block p.block h1 (by simp [h2]))
end Go.Proofs.YtgcjfonbppchlaaDoor
