/- Rows of numbers among a statement's arguments: nil, or with an address. -/
import Derived.Test.YtlfmffjlmhpcdaaOpen
import Derived.Test.YtlfmffjlmhpcdaaOpenC
namespace Go.Proofs.Ytlfmffjlmhpcdaa
open Go.ChangeShapes Go.WideShapes Go.ChangeAt Go.RowKit
set_option maxRecDepth 100000

theorem nilA_of_trod {H : Type} {enc : TypeId × Value → H} {w : World} {base : Nat} {spare : Nat → Bool} {held : Bool} {t e : TypeId} (ht : Try.prog.underlying t = some (.slice e))
    {r : Reach} {b0 : Nat} {v : Value} {d : DataW H} {p : List MemPlace} (hv : Value.okWide Try.prog w r b0 t v) (h : DataW.Trod enc Try.prog w base spare held t v d p) : NilA v := by
  obtain ⟨a, len, cap, rfl⟩ := okWide_slice ht hv
  obtain ⟨fuel, hf'⟩ := h
  rcases Go.Deep.open_slice ht hf' with ⟨hcs, _⟩ | ⟨x, l, c, m, n, D, Pl, hcs, _, hl, hm, hmm, _, hx⟩
  · simp [Value.cells] at hcs
    obtain ⟨rfl, rfl, rfl⟩ := hcs
    exact .inl rfl
  · simp [Value.cells] at hcs
    obtain ⟨rfl, rfl, rfl⟩ := hcs
    exact .inr ⟨_, _, _, rfl⟩
theorem open_intsN {H : Type} {enc : TypeId × Value → H} {w : World} {base : Nat} {spare : Nat → Bool} {held : Bool} {r : Reach} {b0 : Nat} {v : Value} {d : DataW H} {p : List MemPlace} (hv : Value.okWide Try.prog w r b0 46 v) (h : DataW.Trod enc Try.prog w base spare held 46 v d p) :
    ∃ l : List Int, Ints w v l ∧ NilA v := by
  obtain ⟨l, hl⟩ := Sl.of_trod (C := 1) (fun x : Int => [.int .i64 x]) (fun _ => rfl) (by omega) Try.underlying46 int_cells (fun h => let ⟨a, ha⟩ := int_of_trod h; ⟨a.1, ha⟩) hv h
  refine ⟨l, ?_, nilA_of_trod Try.underlying46 hv h⟩
  rw [flatMap_one] at hl
  exact hl
end Go.Proofs.Ytlfmffjlmhpcdaa
