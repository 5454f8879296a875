/- The table of math/bits, as the statement lists it, in memory; rows of numbers with their bounds. -/
import Derived.Test.YtgcjfonbppchlaaDoorRows
import Derived.Test.YtgcjfonbppchlaaDoorOpen
import Derived.Test.YtgcjfonbppchlaaDoorTzW
import Derived.LaidMore
import Derived.Stop.Joined
namespace Go.Proofs.YtgcjfonbppchlaaDoor
open Go.ChangeShapes Go.WideShapes Go.ChangeAt Go.RowKit
set_option maxRecDepth 100000

abbrev laidT {H : Type} : List (String × DataW H) := [("math/bits.deBruijn64tab", Rows.laid_math_bits_deBruijn64tab)]
theorem gTab : Tryd.prog.globalNamed "math/bits.deBruijn64tab" = some 0 := by kernel_rfl
theorem tTab : (Tryd.prog.globals[0]?).map (·.type) = some 72 := by kernel_rfl
theorem byte_cells : Tryd.prog.cellsOf 5 = 1 := by kernel_rfl
theorem door_met (os : Os) (args : Array Value) : laidMetH Tryd.prog laidT ((World.doorLaid Tryd.prog 400 os).forCall (fun _ _ => 0) ⟨#[], args, []⟩).memory :=
  laidMetH_of_parts3 (fuel := 8) (laidMet_of_run' 8 (by kernel_rfl) (by kernel_rfl)) (by kernel_rfl) (by kernel_rfl)
theorem laid_eq {H : Type} : (Rows.laid_math_bits_deBruijn64tab : DataW H) = .agg (tzTab.map fun (v : Nat) => .lit (.int .u8 (v : Int))) := by
  unfold Rows.laid_math_bits_deBruijn64tab tzTab; rfl
theorem tab_of_laid {W : World} (h : laidMetH Tryd.prog laidT W) : Tab W ∧ 0 < W.heap.size := by
  rw [MakeChecks.laidMetH_plain _ _ _ (by kernel_rfl)] at h
  obtain ⟨ps, ⟨g0, t0, cs0, f0, p0, q0, hg0, ht0, hv0, hd0, -⟩, -⟩ := h
  obtain rfl := Option.some.inj (gTab.symm.trans hg0)
  obtain rfl := Option.some.inj (tTab.symm.trans ht0)
  obtain ⟨xs, m, rfl, hx, hlen, hn, hel⟩ := DataW.trod_array Tryd.underlying72 hd0
  rw [byte_cells] at hel
  have hxs : xs.map (·.1) = tzTab.map fun (v : Nat) => .lit (.int .u8 (v : Int)) := by
    have := (Prod.mk.inj hx).1
    rw [laid_eq] at this
    injection this with h1
    exact h1.symm
  have main : Tab W := by
    intro i v hv
    have hi : i < 64 := by have := (List.getElem?_eq_some_iff.1 hv).1; simpa [tzTab] using this
    have hxi : i < xs.length := by omega
    have e := hel i hi
    rw [List.getElem?_eq_getElem hxi] at e
    obtain ⟨n, hc, hxn, -⟩ := DataW.trod_int Tryd.underlying5 e
    have h1 : (xs.map (·.1))[i]? = some (.lit (.int .u8 (v : Int))) := by rw [hxs]; simp [hv]
    rw [List.getElem?_map, List.getElem?_eq_getElem hxi] at h1
    rw [hxn] at h1
    simp only [Option.map_some, Option.some.injEq] at h1
    have hnv : n = (v : Int) := by
      injection h1 with h2; injection h2
    have hcell := World.var?_cell hg0 hv0 i
    have hci : cs0[i]? = some (.int .u8 n) := by
      have h3 := congrArg List.head? hc
      rw [List.head?_take, if_neg (by omega), List.head?_drop] at h3
      simpa using h3
    rw [hci, hnv] at hcell
    exact hcell
  refine ⟨main, ?_⟩
  have := World.block_lt_of_cell? W _ (main 0 0 rfl)
  exact this

section
variable {H : Type} {enc : TypeId × Value → H} {w : World} {base : Nat} {spare : Nat → Bool} {held : Bool}
theorem open_masks {r : Reach} {b0 : Nat} {v : Value} {d : DataW H} {p : List MemPlace} (hv : Value.okWide Tryd.prog w r b0 51 v) (h : DataW.Trod enc Tryd.prog w base spare held 51 v d p) :
    ∃ l : List M, Masks w v l :=
  Sl.of_trod (C := 2) (fun m : M => [.int .u64 (U m.1), .int .u64 (U m.2)]) (fun _ => rfl) (by omega) Tryd.underlying51 mask_cells (fun h => mask_of_trod h) hv h
theorem open_intsB {r : Reach} {b0 : Nat} {v : Value} {d : DataW H} {p : List MemPlace} (hv : Value.okWide Tryd.prog w r b0 22 v) (h : DataW.Trod enc Tryd.prog w base spare held 22 v d p) :
    ∃ l : List Int, Ints w v l ∧ ∀ x ∈ l, -9223372036854775808 ≤ x ∧ x ≤ 9223372036854775807 := by
  obtain ⟨l, hl⟩ := Sl.of_trod (C := 1) (fun x : {n : Int // (Lit.int .i64 n).wf = true} => [.int .i64 x.1]) (fun _ => rfl) (by omega) Tryd.underlying22 int_cells (fun h => int_of_trod h) hv h
  refine ⟨l.map (·.1), ?_, fun x hx => ?_⟩
  · rw [flatMap_one (fun x : {n : Int // (Lit.int .i64 n).wf = true} => Value.int .i64 x.1)] at hl
    unfold Ints
    rw [List.length_map, List.map_map]
    exact hl
  · obtain ⟨y, -, rfl⟩ := List.mem_map.1 hx
    exact wf_i64 y.2
end
end Go.Proofs.YtgcjfonbppchlaaDoor
