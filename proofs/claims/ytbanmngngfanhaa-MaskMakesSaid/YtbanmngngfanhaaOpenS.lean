/- Rows of numbers, of masks, of pairs, as a statement's arguments hold them. -/
import Derived.Test.YtbanmngngfanhaaOpen
import Derived.Test.YtbanmngngfanhaaMaskRanges
namespace Go.Proofs.Ytbanmngngfanhaa
open Go.ChangeShapes Go.WideShapes Go.ChangeAt Go.RowKit

theorem pair_cells : Try.prog.cellsOf 24 = 2 := by kernel_rfl
section
variable {H : Type} {enc : TypeId × Value → H} {w : World} {base : Nat} {spare : Nat → Bool} {held : Bool}

theorem pair_of_trod {fuel : Nat} {cs : List Value} {x : DataW H × List MemPlace} (h : DataW.trod enc Try.prog w base spare held fuel 24 cs = some x) : ∃ m : Int × Int, cs = [.int .i64 m.1, .int .i64 m.2] := by
  obtain ⟨xs, n, _, _, hl, hx, he⟩ := DataW.trod_array Try.underlying24 h
  rw [pair_cells] at hl
  match cs, hl with
  | [c0, c1], _ =>
    have e0 := he 0 (by omega)
    have e1 := he 1 (by omega)
    rw [int_cells] at e0 e1
    match xs, hx with
    | [x0, x1], _ =>
      simp at e0 e1
      obtain ⟨a, ha⟩ := int_of_trod e0
      obtain ⟨b, hb⟩ := int_of_trod e1
      simp at ha hb
      exact ⟨(a.1, b.1), by rw [ha, hb]⟩
theorem open_pairs {r : Reach} {b0 : Nat} {v : Value} {d : DataW H} {p : List MemPlace} (hv : Value.okWide Try.prog w r b0 22 v) (h : DataW.Trod enc Try.prog w base spare held 22 v d p) :
    ∃ l : List (Int × Int), Pairs w v l :=
  Sl.of_trod (C := 2) (fun m : Int × Int => [.int .i64 m.1, .int .i64 m.2]) (fun _ => rfl) (by omega) Try.underlying22 pair_cells (fun h => pair_of_trod h) hv h
theorem open_masks {r : Reach} {b0 : Nat} {v : Value} {d : DataW H} {p : List MemPlace} (hv : Value.okWide Try.prog w r b0 34 v) (h : DataW.Trod enc Try.prog w base spare held 34 v d p) :
    ∃ l : List M, Masks w v l :=
  Sl.of_trod (C := 2) (fun m : M => [.int .u64 (U m.1), .int .u64 (U m.2)]) (fun _ => rfl) (by omega) Try.underlying34 mask_cells (fun h => mask_of_trod h) hv h
theorem open_ints {r : Reach} {b0 : Nat} {v : Value} {d : DataW H} {p : List MemPlace} (hv : Value.okWide Try.prog w r b0 31 v) (h : DataW.Trod enc Try.prog w base spare held 31 v d p) :
    ∃ l : List Int, Ints w v l := by
  obtain ⟨l, hl⟩ := Sl.of_trod (C := 1) (fun x : Int => [.int .i64 x]) (fun _ => rfl) (by omega) Try.underlying31 int_cells (fun h => let ⟨a, ha⟩ := int_of_trod h; ⟨a.1, ha⟩) hv h
  refine ⟨l, ?_⟩
  rw [flatMap_one] at hl
  exact hl
end
end Go.Proofs.Ytbanmngngfanhaa
