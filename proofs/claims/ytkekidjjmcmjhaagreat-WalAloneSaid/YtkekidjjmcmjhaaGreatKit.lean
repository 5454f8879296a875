/- Small lemmas about walks that every text of this family uses: regions whose order is drawn, worlds behind a call, numbers of 64 bits. No program is named here. -/
import Derived.WalkKit
import Derived.Handy
import Derived.Shelf.Abstract
import Derived.WalkLawsBesides
import Derived.Lib.Hide
import Derived.Deep.RegionHeld3
import Derived.Deep.DrawnRows
import Derived.Deep.QuietTactic
import Derived.BigQuiet
import Derived.StillTailTactics
import Derived.Deep.DeepFit
namespace Go.Proofs.YtkekidjjmcmjhaaGreat
open Go.RowKit
set_option maxRecDepth 100000

theorem wp_tail {P : Program} {id : Nat} {Q : Exit → Act → World → Prop} {a : Act} {w : World} {l : List Oper} (n : Nat) (hm : P.follows .mixedOrders = true) (hB : Region.lexTailB .any l.toArray n = true)
    (h : wpStill P l.toArray w.drew (fun a' => wpList P l.toArray Q (l.drop n) a' w.drew) (l.take n) a) : (Code.region id l.toArray true).wp P Q a w :=
  wp_region_still_tail n hm hB h

theorem bcell {W w1 : World} (hb : Below W.heap.size W w1) : (∀ b o, b < W.heap.size → w1.cell? ⟨b, o, none⟩ = W.cell? ⟨b, o, none⟩) ∧ (∀ b o, b < W.heap.size → w1.frozen? ⟨b, o, none⟩ = W.frozen? ⟨b, o, none⟩) :=
  ⟨fun b o h => hb.cell (p := ⟨b, o, none⟩) h, fun b o h => hb.frozen (p := ⟨b, o, none⟩) h⟩

@[go_sem] theorem lt_add1 {a b : Nat} (h : a < b) : (a < b + 1) = True := eq_true (by omega)
@[go_sem] theorem ne_of_lt1 {a b : Nat} (h : a < b) : (a = b) = False := eq_false (by omega)
@[go_sem] theorem ne_of_lt2 {a b : Nat} (h : b < a) : (a = b) = False := eq_false (by omega)
@[go_sem] theorem lt_of_lt1 {a b : Nat} (h : a + 1 < b) : (a < b) = True := eq_true (by omega)

/-- A store into a cell, read back: without a side goal, so that the walk's simp need not go deep. -/
@[go_sem high] theorem cell_setCell_map (w : World) (a : Addr) (v : Value) : (w.setCell a v).cell? a = (w.cell? a).map fun _ => v := by
  cases h : w.cell? a with
  | some u => exact World.cell?_setCell_same w a v h
  | none =>
    unfold World.cell? World.setCell at *
    simp only [Array.getElem?_modify, if_true, Option.map_none]
    cases ho : w.heap[a.block]? with
    | none => rfl
    | some o =>
      rw [ho] at h
      cases o <;> simp_all

/-- A word of 64 bits as the number that the model holds. -/
def U (a : BitVec 64) : Int := a.toNat
theorem U_nonneg (a : BitVec 64) : 0 ≤ U a := Int.natCast_nonneg _
theorem U_lt (a : BitVec 64) : U a < 18446744073709551616 := by unfold U; have := a.isLt; omega
theorem ofInt_U (a : BitVec 64) : BitVec.ofInt 64 (U a) = a := by unfold U; simp
theorem U_inj {a b : BitVec 64} : U a = U b ↔ a = b := by
  unfold U; constructor
  · intro h; apply BitVec.eq_of_toNat_eq; omega
  · intro h; rw [h]
theorem bits_and_U (a b : BitVec 64) : bits .and .u64 (U a) (U b) = U (a &&& b) := by
  unfold U; rw [u64_and_nat _ _ a.isLt b.isLt, BitVec.toNat_and]
theorem bits_or_U (a b : BitVec 64) : bits .or .u64 (U a) (U b) = U (a ||| b) := by
  unfold U; rw [u64_or_nat _ _ a.isLt b.isLt, BitVec.toNat_or]
theorem bits_andNot_U (a b : BitVec 64) : bits .andNot .u64 (U a) (U b) = U (a &&& ~~~b) := by
  unfold U; rw [u64_andNot_nat _ _ a.isLt b.isLt, BitVec.toNat_and, BitVec.toNat_not]
@[go_sem] theorem U_beq (a b : BitVec 64) : (U a == U b) = (a == b) := by
  rw [Bool.eq_iff_iff]; simp [U_inj]
theorem U_zero : U 0#64 = 0 := rfl
@[go_sem] theorem U_beq_zero (a : BitVec 64) : (U a == 0) = (a == 0#64) := by rw [← U_zero, U_beq]
theorem run_equalIn_arr2 {P : Program} (d t e : Nat) (k k' : IntKind) (x y z u : Int) (w : World) (ht : P.underlying t = some (.array 2 e)) (he : P.underlying e = some (.int k')) (hs : ∀ w, (sizeOf e).run P w = .ok 1 w) (ha : ∀ w, (isAgg e).run P w = .ok false w) :
    (Op.equalIn (d + 1 + 1) t (.agg #[.int k x, .int k y]) (.agg #[.int k z, .int k u])).run P w = .ok (x == z && y == u) w := by
  have h3 := fun a b w => run_equalIn_int (P := P) w d e k k' a b he
  unfold Op.equalIn
  simp only [Sem.run_bind, run_underlying ht, Result.andThen_ok, hs]
  simp [List.range'_succ, part, go_sem, h3, ha]
  by_cases h1 : x = z <;> by_cases h2 : y = u <;> simp [h1, h2]
/-- A number of the model's as a word. -/
theorem exists_U {n : Int} (h : (Lit.int .u64 n).wf = true) : ∃ a : BitVec 64, n = U a := by
  have h1 : 0 ≤ n ∧ n < 18446744073709551616 := by
    have h2 := h
    simp only [Lit.wf, Bool.and_eq_true, decide_eq_true_eq] at h2
    have e1 : IntKind.u64.min = 0 := by decide
    have e2 : IntKind.u64.max = 18446744073709551615 := by decide
    omega
  refine ⟨BitVec.ofNat 64 n.toNat, ?_⟩
  unfold U
  simp only [BitVec.toNat_ofNat]
  omega
end Go.Proofs.YtkekidjjmcmjhaaGreat
