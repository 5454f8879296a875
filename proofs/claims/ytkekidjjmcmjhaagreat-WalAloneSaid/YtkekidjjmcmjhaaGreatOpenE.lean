/- What the arguments of the statements on logs hold: rows of events. -/
import Derived.Test.YtkekidjjmcmjhaaGreatOpenW
import Derived.Test.YtkekidjjmcmjhaaGreatWalEv
namespace Go.Proofs.YtkekidjjmcmjhaaGreat
open Go.ChangeShapes Go.WideShapes Go.ChangeAt Go.RowKit
set_option maxRecDepth 100000

theorem int_cells : Tryz.prog.cellsOf 3 = 1 := by kernel_rfl
theorem bool_cells : Tryz.prog.cellsOf 4 = 1 := by kernel_rfl
theorem bools_cells : Tryz.prog.cellsOf 49 = 1 := by kernel_rfl
theorem ev_cells : Tryz.prog.cellsOf 51 = 4 := by kernel_rfl

section
variable {H : Type} {enc : TypeId × Value → H} {w : World} {base : Nat} {spare : Nat → Bool} {held : Bool}
theorem int_of_read {fuel : Nat} {cs : List Value} {x : DataW H × List MemPlace} (h : DataW.trod enc Tryz.prog w base spare held fuel 3 cs = some x) : ∃ a : {n : Int // W64 n}, cs = [.int .i64 a.1] := by
  obtain ⟨n, rfl, _, hw⟩ := DataW.trod_int Tryz.underlying3 h
  exact ⟨⟨n, hw⟩, rfl⟩
theorem bool_of_read {fuel : Nat} {cs : List Value} {x : DataW H × List MemPlace} (h : DataW.trod enc Tryz.prog w base spare held fuel 4 cs = some x) : ∃ a : Bool, cs = [.bool a] := by
  obtain ⟨u, e0, -⟩ := DataW.trod_bool Tryz.underlying4 h
  exact ⟨u, e0⟩
theorem bools_of_read {fuel : Nat} {cs : List Value} {x : DataW H × List MemPlace} (h : DataW.trod enc Tryz.prog w base spare held fuel 49 cs = some x) : ∃ (v : Value) (l : List Bool), cs = [v] ∧ BoolN w v l := by
  obtain ⟨v, l, rfl, h1, h2⟩ := Sl.of_read (C := 1) (fun a : Bool => [.bool a]) (fun _ => rfl) (by omega) Tryz.underlying49 bool_cells bool_of_read h
  refine ⟨v, l, rfl, ⟨?_, h2⟩⟩
  rw [flat_map Value.bool] at h1
  exact h1
theorem four_of {cs : List Value} (h : cs.length = 4) : ∃ a b c d, cs = [a, b, c, d] := by
  match cs, h with
  | [a, b, c, d], _ => exact ⟨a, b, c, d, rfl⟩
theorem trod_struct4 {t : TypeId} {f0 f1 f2 f3 : Field} {fuel : Nat} {cs : List Value} {x : DataW H × List MemPlace} (ht : Tryz.prog.underlying t = some (.struct #[f0, f1, f2, f3])) (h : DataW.trod enc Tryz.prog w base spare held fuel t cs = some x) :
    ∃ y0 y1 y2 y3 n, cs.length = Tryz.prog.cellsOf t ∧ DataW.trod enc Tryz.prog w base spare held n f0.type ((cs.drop f0.offset).take (Tryz.prog.cellsOf f0.type)) = some y0 ∧
      DataW.trod enc Tryz.prog w base spare held n f1.type ((cs.drop f1.offset).take (Tryz.prog.cellsOf f1.type)) = some y1 ∧ DataW.trod enc Tryz.prog w base spare held n f2.type ((cs.drop f2.offset).take (Tryz.prog.cellsOf f2.type)) = some y2 ∧
      DataW.trod enc Tryz.prog w base spare held n f3.type ((cs.drop f3.offset).take (Tryz.prog.cellsOf f3.type)) = some y3 := by
  obtain ⟨xs, n, _, rfl, hl, hlen, hf⟩ := DataW.trod_struct ht h
  match xs, hlen with
  | [y0, y1, y2, y3], _ => exact ⟨y0, y1, y2, y3, n, hl, by simpa using hf 0 f0 rfl, by simpa using hf 1 f1 rfl, by simpa using hf 2 f2 rfl, by simpa using hf 3 f3 rfl⟩
theorem ev_of_read {fuel : Nat} {cs : List Value} {x : DataW H × List MemPlace} (h : DataW.trod enc Tryz.prog w base spare held fuel 51 cs = some x) : ∃ o : {o : Evt // EvIs w o}, cs = o.1.cells := by
  obtain ⟨y0, y1, y2, y3, n, hl, h0, h1, h2, h3⟩ := trod_struct4 Tryz.underlying51 h
  rw [ev_cells] at hl
  obtain ⟨a, b, c, d, rfl⟩ := four_of hl
  simp only at h0 h1 h2 h3
  rw [int_cells] at h0 h1
  rw [bytes_cells] at h2
  rw [bools_cells] at h3
  simp at h0 h1 h2 h3
  obtain ⟨n0, e0⟩ := int_of_read h0
  obtain ⟨n1, e1⟩ := int_of_read h1
  obtain ⟨v2, l2, e2, g2, g2'⟩ := bytes_of_read h2
  obtain ⟨v3, l3, e3, g3⟩ := bools_of_read h3
  simp at e0 e1 e2 e3
  subst e0; subst e1; subst e2; subst e3
  exact ⟨⟨⟨n0.1, n1.1, c, d, l2, l3⟩, ⟨g2, g3, g2'.1⟩⟩, rfl⟩
theorem open_events {r : Reach} {b0 : Nat} {v : Value} {d : DataW H} {p : List MemPlace} (hv : Value.okWide Tryz.prog w r b0 45 v) (h : DataW.Trod enc Tryz.prog w base spare held 45 v d p) : ∃ l : List Evt, EvsV w v l := by
  obtain ⟨a, len, cap, rfl⟩ := okWide_slice Tryz.underlying45 hv
  obtain ⟨fuel, hf⟩ := h
  obtain ⟨v', l, e, g1, g2⟩ := Sl.of_read (C := 4) (fun o : {o : Evt // EvIs w o} => o.1.cells) (fun _ => rfl) (by omega) Tryz.underlying45 ev_cells ev_of_read hf
  simp [Value.cells] at e
  subst e
  refine ⟨l.map (·.1), ⟨?_, g2⟩, ?_⟩
  · rw [List.length_map, List.flatMap_map]; exact g1
  · intro c hc
    obtain ⟨q, _, rfl⟩ := List.mem_map.1 hc
    exact q.2
end
end Go.Proofs.YtkekidjjmcmjhaaGreat
