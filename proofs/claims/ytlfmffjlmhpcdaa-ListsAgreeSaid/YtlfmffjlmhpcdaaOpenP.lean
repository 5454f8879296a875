/- What is put, among a statement's arguments. -/
import Derived.Test.YtlfmffjlmhpcdaaOpenE
namespace Go.Proofs.Ytlfmffjlmhpcdaa
open Go.ChangeShapes Go.WideShapes Go.ChangeAt Go.RowKit
set_option maxRecDepth 100000

theorem put_cells : Try.prog.cellsOf 77 = 5 := by kernel_rfl
theorem open_put {H : Type} {enc : TypeId × Value → H} {w : World} {base : Nat} {spare : Nat → Bool} {held : Bool} {r : Reach} {b0 : Nat} {v : Value} {d : DataW H} {p : List MemPlace} (hv : Value.okWide Try.prog w r b0 77 v) (h : DataW.Trod enc Try.prog w base spare held 77 v d p) :
    ∃ (id b e : Int) (vv : Value) (vec : List Int) (q : Int), v = .agg #[.int .u64 id, .int .u64 b, .int .u64 e, vv, .int .i64 q] ∧ VecV w vv vec := by
  obtain ⟨cs0, rfl, hs⟩ := okWide_struct Try.underlying77 hv
  obtain ⟨fuel, hf⟩ := h
  rw [put_cells] at hs
  obtain ⟨x0, x1, x2, x3, x4, hab⟩ := five_of (cs := cs0.toList) (by simpa using hs)
  have hcs : cs0 = #[x0, x1, x2, x3, x4] := Array.toList_inj.1 (by simpa using hab)
  subst hcs
  obtain ⟨y0, y1, y2, n, _, h0, h1, h2⟩ := trod_struct3' Try.underlying77 hf
  simp only [Value.cells] at h0 h1 h2
  rw [word_cells] at h0
  rw [ver_cells] at h1
  rw [int_cells] at h2
  simp at h0 h1 h2
  obtain ⟨n0, e0⟩ := u64_of_read h0
  obtain ⟨b, e, sv, vec, e1, hvv⟩ := ver_of_read h1
  obtain ⟨n2, e2⟩ := int_of_read' h2
  simp at e0 e1 e2
  obtain ⟨rfl, rfl, rfl⟩ := e1
  subst e0; subst e2
  exact ⟨_, _, _, _, vec, _, rfl, hvv⟩
end Go.Proofs.Ytlfmffjlmhpcdaa
