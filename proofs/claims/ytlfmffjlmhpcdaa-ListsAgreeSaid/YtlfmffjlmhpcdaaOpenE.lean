/- Deeds, among a statement's arguments. -/
import Derived.Test.YtlfmffjlmhpcdaaOpenD
import Derived.Test.YtlfmffjlmhpcdaaOpenI
namespace Go.Proofs.Ytlfmffjlmhpcdaa
open Go.ChangeShapes Go.WideShapes Go.ChangeAt Go.RowKit
set_option maxRecDepth 100000

theorem deed_cells : Try.prog.cellsOf 66 = 4 := by kernel_rfl
theorem intsl_cells : Try.prog.cellsOf 46 = 1 := by kernel_rfl
section
variable {H : Type} {enc : TypeId × Value → H} {w : World} {base : Nat} {spare : Nat → Bool} {held : Bool}
theorem trod_struct4 {t : TypeId} {f0 f1 f2 f3 : Field} {fuel : Nat} {cs : List Value} {x : DataW H × List MemPlace} (ht : Try.prog.underlying t = some (.struct #[f0, f1, f2, f3])) (h : DataW.trod enc Try.prog w base spare held fuel t cs = some x) :
    ∃ y0 y1 y2 y3 n, cs.length = Try.prog.cellsOf t ∧ DataW.trod enc Try.prog w base spare held n f0.type ((cs.drop f0.offset).take (Try.prog.cellsOf f0.type)) = some y0 ∧
      DataW.trod enc Try.prog w base spare held n f1.type ((cs.drop f1.offset).take (Try.prog.cellsOf f1.type)) = some y1 ∧ DataW.trod enc Try.prog w base spare held n f2.type ((cs.drop f2.offset).take (Try.prog.cellsOf f2.type)) = some y2 ∧
      DataW.trod enc Try.prog w base spare held n f3.type ((cs.drop f3.offset).take (Try.prog.cellsOf f3.type)) = some y3 := by
  obtain ⟨xs, n, _, rfl, hl, hlen, hf⟩ := DataW.trod_struct ht h
  match xs, hlen with
  | [y0, y1, y2, y3], _ => exact ⟨y0, y1, y2, y3, n, hl, by simpa using hf 0 f0 rfl, by simpa using hf 1 f1 rfl, by simpa using hf 2 f2 rfl, by simpa using hf 3 f3 rfl⟩
theorem four_of {cs : List Value} (h : cs.length = 4) : ∃ a b c d, cs = [a, b, c, d] := by
  match cs, h with
  | [a, b, c, d], _ => exact ⟨a, b, c, d, rfl⟩
theorem int_of_read' {fuel : Nat} {cs : List Value} {x : DataW H × List MemPlace} (h : DataW.trod enc Try.prog w base spare held fuel 3 cs = some x) : ∃ a : Int, cs = [.int .i64 a] := by
  obtain ⟨n, rfl, _, _⟩ := DataW.trod_int Try.underlying3 h
  exact ⟨n, rfl⟩
theorem ints_of_read {fuel : Nat} {cs : List Value} {x : DataW H × List MemPlace} (h : DataW.trod enc Try.prog w base spare held fuel 46 cs = some x) : ∃ (v : Value) (l : List Int), cs = [v] ∧ Ints w v l := by
  obtain ⟨v, l, rfl, h1, -⟩ := Sl.of_read (C := 1) (fun x : Int => [.int .i64 x]) (fun _ => rfl) (by omega) Try.underlying46 int_cells int_of_read' h
  refine ⟨v, l, rfl, ?_⟩
  rw [flatMap_one] at h1
  exact h1
theorem open_deed {r : Reach} {b0 : Nat} {v : Value} {d : DataW H} {p : List MemPlace} (hv : Value.okWide Try.prog w r b0 66 v) (h : DataW.Trod enc Try.prog w base spare held 66 v d p) :
    ∃ (s : Int) (vv vs vp : Value) (vec ss ps : List Int), v = .agg #[.int .i64 s, vv, vs, vp] ∧ VecV w vv vec ∧ Ints w vs ss ∧ Ints w vp ps := by
  obtain ⟨cs0, rfl, hs⟩ := okWide_struct Try.underlying66 hv
  obtain ⟨fuel, hf⟩ := h
  rw [deed_cells] at hs
  obtain ⟨a, b, c, e, hab⟩ := four_of (cs := cs0.toList) (by simpa using hs)
  have hcs : cs0 = #[a, b, c, e] := Array.toList_inj.1 (by simpa using hab)
  subst hcs
  obtain ⟨y0, y1, y2, y3, n, _, h0, h1, h2, h3⟩ := trod_struct4 Try.underlying66 hf
  simp only [Value.cells] at h0 h1 h2 h3
  rw [int_cells] at h0
  rw [vec_cells] at h1
  rw [intsl_cells] at h2 h3
  simp at h0 h1 h2 h3
  obtain ⟨n0, e0⟩ := int_of_read' h0
  obtain ⟨q, e1⟩ := vec_of_read h1
  obtain ⟨vs, ss, e2, g2⟩ := ints_of_read h2
  obtain ⟨vp, ps, e3, g3⟩ := ints_of_read h3
  simp at e0 e1 e2 e3
  subst e0; subst e1; subst e2; subst e3
  exact ⟨_, _, _, _, _, ss, ps, rfl, q.2, g2, g3⟩
end
end Go.Proofs.Ytlfmffjlmhpcdaa
