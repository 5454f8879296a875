/- The contract of math/bits.TrailingZeros64. -/
import Derived.Test.YtgcjfonbppchlaaDoorTzL
namespace Go.Proofs.YtgcjfonbppchlaaDoor
open Go.RowKit
set_option maxRecDepth 100000

/-- The table of TrailingZeros64 lies in block 0. -/
def Tab (w : World) : Prop := ∀ i v : Nat, tzTab[i]? = some v → w.cell? ⟨0, i, none⟩ = some (.int .u8 (v : Int))
theorem Tab.grown {w w' : World} (h : Tab w) (h0 : 0 < w.heap.size) (hb : Below w.heap.size w w') : Tab w' := fun i v hv => (hb.cell (p := ⟨0, i, none⟩) h0).trans (h i v hv)
def negW (x : BitVec 64) : BitVec 64 := -x
def mulW (x : BitVec 64) : BitVec 64 := x * 285870213051353865#64
theorem U_neg (x : BitVec 64) : IntKind.u64.wrap (-U x) = U (negW x) := by
  unfold U negW; rw [IntKind.wrap_u64, BitVec.toNat_neg]; have := x.isLt; omega
theorem U_mulc (x : BitVec 64) : IntKind.u64.wrap (U x * 285870213051353865) = U (mulW x) := by
  unfold U mulW
  rw [IntKind.wrap_u64, BitVec.toNat_mul]
  have e : (285870213051353865#64).toNat = 285870213051353865 := by decide
  rw [e]
  omega
theorem U_sh58 (y : BitVec 64) : U y / 288230376151711744 = U (shrW 58 y) := by
  have e := U_shr 58 y
  have e2 : ((2 ^ 58 : Nat) : Int) = 288230376151711744 := by decide
  rw [e2] at e
  exact e
def tzI (x : BitVec 64) : BitVec 64 := shrW 58 (mulW (x &&& negW x))
section
attribute [local go_sem] U_neg U_mulc U_sh58 bits_and_U
theorem f_Trailing (x : BitVec 64) (k : Nat) (h : lowAt x k) (w : World) (ht : Tab w) : Calls Tryd.prog 41 #[.int .u64 (U x)] w fun e w' => e = .returned (.int .i64 k) ∧ w' = w := by
  have hx : (x == 0#64) = false := by
    have : ¬ x = 0#64 := by rintro rfl; have := h.2.1; simp at this
    simp [this]
  have hx2 : (U x == 0) = false := by
    have e : (0 : Int) = U 0#64 := by decide
    rw [e, U_beq]; exact hx
  obtain ⟨j1, j2⟩ := tz_table h
  have hk := h.1
  obtain ⟨J, hJ⟩ : ∃ J : Nat, (((x &&& -x) * 285870213051353865#64) >>> 58).toNat = J := ⟨_, rfl⟩
  rw [hJ] at j1 j2
  have hc := ht J k j2
  have hi : U (shrW 58 (mulW (x &&& negW x))) = (J : Int) := congrArg (fun n : Nat => (n : Int)) hJ
  clear ht h j2 hJ
  go_enter Tryd.func41, Tryd.ntmps41
  go_wp2
  go_ret
  exact ⟨rfl, rfl⟩
end
end Go.Proofs.YtgcjfonbppchlaaDoor
