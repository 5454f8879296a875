/- Rows of vectors, and arenas, as arguments. -/
import Derived.Test.YtlfmffjlmhpcdaaOpenC
namespace Go.Proofs.Ytlfmffjlmhpcdaa
open Go.ChangeShapes Go.WideShapes Go.ChangeAt Go.RowKit
set_option maxRecDepth 100000

theorem bool_cells : Try.prog.cellsOf 4 = 1 := by kernel_rfl
theorem ver_cells : Try.prog.cellsOf 58 = 3 := by kernel_rfl
theorem cell_cells : Try.prog.cellsOf 60 = 5 := by kernel_rfl
theorem cells_cells : Try.prog.cellsOf 35 = 1 := by kernel_rfl
theorem arena_cells : Try.prog.cellsOf 37 = 1 := by kernel_rfl
section
variable {H : Type} {enc : TypeId × Value → H} {w : World} {base : Nat} {spare : Nat → Bool} {held : Bool}
theorem trod_struct3' {t : TypeId} {f0 f1 f2 : Field} {fuel : Nat} {cs : List Value} {x : DataW H × List MemPlace} (ht : Try.prog.underlying t = some (.struct #[f0, f1, f2])) (h : DataW.trod enc Try.prog w base spare held fuel t cs = some x) :
    ∃ y0 y1 y2 n, cs.length = Try.prog.cellsOf t ∧ DataW.trod enc Try.prog w base spare held n f0.type ((cs.drop f0.offset).take (Try.prog.cellsOf f0.type)) = some y0 ∧
      DataW.trod enc Try.prog w base spare held n f1.type ((cs.drop f1.offset).take (Try.prog.cellsOf f1.type)) = some y1 ∧ DataW.trod enc Try.prog w base spare held n f2.type ((cs.drop f2.offset).take (Try.prog.cellsOf f2.type)) = some y2 := by
  obtain ⟨xs, n, _, rfl, hl, hlen, hf⟩ := DataW.trod_struct ht h
  match xs, hlen with
  | [y0, y1, y2], _ => exact ⟨y0, y1, y2, n, hl, by simpa using hf 0 f0 rfl, by simpa using hf 1 f1 rfl, by simpa using hf 2 f2 rfl⟩
theorem u64_of_read {fuel : Nat} {cs : List Value} {x : DataW H × List MemPlace} (h : DataW.trod enc Try.prog w base spare held fuel 47 cs = some x) : ∃ a : Int, cs = [.int .u64 a] := by
  obtain ⟨n, rfl, _, _⟩ := DataW.trod_int Try.underlying47 h
  exact ⟨n, rfl⟩
theorem three_of {cs : List Value} (h : cs.length = 3) : ∃ a b c, cs = [a, b, c] := by
  match cs, h with
  | [a, b, c], _ => exact ⟨a, b, c, rfl⟩
theorem five_of {cs : List Value} (h : cs.length = 5) : ∃ a b c d e, cs = [a, b, c, d, e] := by
  match cs, h with
  | [a, b, c, d, e], _ => exact ⟨a, b, c, d, e, rfl⟩
theorem ver_of_read {fuel : Nat} {cs : List Value} {x : DataW H × List MemPlace} (h : DataW.trod enc Try.prog w base spare held fuel 58 cs = some x) :
    ∃ (b e : Int) (sv : Value) (vec : List Int), cs = [.int .u64 b, .int .u64 e, sv] ∧ VecV w sv vec := by
  obtain ⟨y0, y1, y2, n, hl, h0, h1, h2⟩ := trod_struct3' Try.underlying58 h
  rw [ver_cells] at hl
  obtain ⟨a, b, c, rfl⟩ := three_of hl
  simp only at h0 h1 h2
  rw [word_cells] at h0 h1
  rw [vec_cells] at h2
  simp at h0 h1 h2
  obtain ⟨n0, e0⟩ := u64_of_read h0
  obtain ⟨n1, e1⟩ := u64_of_read h1
  obtain ⟨p, e2⟩ := vec_of_read h2
  simp at e0 e1 e2
  subst e0; subst e1; subst e2
  exact ⟨_, _, _, _, rfl, p.2⟩
theorem cell_of_read {fuel : Nat} {cs : List Value} {x : DataW H × List MemPlace} (h : DataW.trod enc Try.prog w base spare held fuel 60 cs = some x) : ∃ c : {c : Cel // VecV w c.sv c.vec}, cs = c.1.cells := by
  obtain ⟨y0, y1, y2, n, hl, h0, h1, h2⟩ := trod_struct3' Try.underlying60 h
  rw [cell_cells] at hl
  obtain ⟨a, b, c, d, e, rfl⟩ := five_of hl
  simp only at h0 h1 h2
  rw [bool_cells] at h0
  rw [word_cells] at h1
  rw [ver_cells] at h2
  simp at h0 h1 h2
  obtain ⟨u, e0, -⟩ := DataW.trod_bool Try.underlying4 h0
  obtain ⟨n1, e1⟩ := u64_of_read h1
  obtain ⟨b', e', sv, vec, e2, hv⟩ := ver_of_read h2
  simp at e0 e1 e2
  obtain ⟨rfl, rfl, rfl⟩ := e2
  subst e0; subst e1
  exact ⟨⟨⟨u, n1, b', e', e, vec⟩, hv⟩, rfl⟩
theorem open_vecs {r : Reach} {b0 : Nat} {v : Value} {d : DataW H} {p : List MemPlace} (hv : Value.okWide Try.prog w r b0 22 v) (h : DataW.Trod enc Try.prog w base spare held 22 v d p) : ∃ cs : List PV, VecsV w v cs := by
  obtain ⟨a, len, cap, rfl⟩ := okWide_slice Try.underlying22 hv
  obtain ⟨fuel, hf⟩ := h
  obtain ⟨v', cs, e, g⟩ := vecs_of_read hf
  simp [Value.cells] at e
  subst e
  exact ⟨cs, g⟩
theorem open_arena {r : Reach} {b0 : Nat} {v : Value} {d : DataW H} {p : List MemPlace} (hv : Value.okWide Try.prog w r b0 37 v) (h : DataW.Trod enc Try.prog w base spare held 37 v d p) :
    ∃ (va : Value) (l : List Cel), v = .agg #[va] ∧ CelsV w va l := by
  obtain ⟨cs0, rfl, hs⟩ := okWide_struct Try.underlying37 hv
  obtain ⟨fuel, hf⟩ := h
  rw [arena_cells] at hs
  obtain ⟨a, hab⟩ : ∃ a, cs0.toList = [a] := List.length_eq_one_iff.1 (by simpa using hs)
  have hcs : cs0 = #[a] := Array.toList_inj.1 (by simpa using hab)
  subst hcs
  obtain ⟨y0, n, _, _, h1⟩ := trod_struct1 Try.underlying37 hf
  simp only [Value.cells] at h1
  rw [cells_cells] at h1
  simp at h1
  obtain ⟨va, l, e1, g1, g2⟩ := Sl.of_read (C := 5) (fun c : {c : Cel // VecV w c.sv c.vec} => c.1.cells) (fun _ => rfl) (by omega) Try.underlying35 cell_cells cell_of_read h1
  simp at e1
  subst e1
  refine ⟨_, l.map (·.1), rfl, ⟨?_, g2⟩, ?_⟩
  · rw [List.length_map, List.flatMap_map]; exact g1
  · intro c hc
    obtain ⟨q, _, rfl⟩ := List.mem_map.1 hc
    exact q.2
end
end Go.Proofs.Ytlfmffjlmhpcdaa
