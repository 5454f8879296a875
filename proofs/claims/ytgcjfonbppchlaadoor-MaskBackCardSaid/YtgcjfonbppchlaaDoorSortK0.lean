/- What the library's sort leaves of a fresh row: another row in the same place. No function is named here. -/
import Derived.Test.YtgcjfonbppchlaaDoorRowZ
import Derived.Sort.Grow
import Derived.Lib.SlicesCompact
namespace Go.Proofs.YtgcjfonbppchlaaDoor
open Go.RowKit Go.Sort
set_option maxRecDepth 100000

theorem holds_own {w : World} {B n : Nat} {g cap : Nat} {l : List Int} (h : w.ownsRow B 3 1 (.slice (some ⟨g, 0, none⟩) n cap) n (l.map (Value.int .i64))) : Holds (Value.int .i64) w g 0 l.toArray := by
  intro j hj
  have hj' : j < l.length := by simpa using hj
  have h1 := h.cellAt j (by have := h.1; simp at this; omega)
  refine ⟨?_, ?_⟩
  · rw [Nat.zero_add, h1]
    simp [hj']
  · rw [Nat.zero_add]; exact h.frozenAt j
theorem putRow_block (w : World) (q g : Nat) (d : Array Int) (k : Nat) (hk : k ≠ g) : (putRow (Value.int .i64) (Go.Sort.ahead w q) g 0 d).heap[k]? = w.heap[k]? := by
  show (w.heap.modify g _)[k]? = _
  rw [Array.getElem?_modify, if_neg (Ne.symm hk)]
theorem putRow_at (w : World) (q g : Nat) (d : Array Int) {cur : Array Value} {e : TypeId} (h : w.heap[g]? = some (.cells cur e (0, 0))) : (putRow (Value.int .i64) (Go.Sort.ahead w q) g 0 d).heap[g]? = some (.cells (putCells (Value.int .i64) 0 d cur) e (0, 0)) := by
  show (w.heap.modify g _)[g]? = _
  rw [Array.getElem?_modify, if_pos rfl, h]
  rfl
theorem own_putRow {w : World} {B n : Nat} {g cap : Nat} {l d : List Int} (q : Nat) (hd : d.length = l.length) (h : w.ownsRow B 3 1 (.slice (some ⟨g, 0, none⟩) n cap) n (l.map (Value.int .i64))) :
    (putRow (Value.int .i64) (Go.Sort.ahead w q) g 0 d.toArray).ownsRow B 3 1 (.slice (some ⟨g, 0, none⟩) n cap) n (d.map (Value.int .i64)) ∧ w.grownBy (putRow (Value.int .i64) (Go.Sort.ahead w q) g 0 d.toArray) (some g) := by
  have hn : l.length = n := by have := h.1; simpa using this
  refine ⟨⟨by simp; omega, ?_⟩, ⟨rfl, rfl, rfl, ?_, fun k _ hk => putRow_block w q g _ k (fun e => hk (by rw [e]))⟩⟩
  · rcases h.2 with ⟨e, _⟩ | ⟨g', cap', cur, e, hB, hc, hl, hm, hs, hx⟩
    · cases e
    · injection e with e1 _ e2
      obtain rfl : g = g' := by injection e1 with e1; injection e1
      subst e2
      refine .inr ⟨g, cap, _, rfl, hB, putRow_at w q g _ hc, hl, hm, by unfold putCells; rw [Array.size_mapIdx]; exact hs, ?_⟩
      apply List.ext_getElem
      · simp [putCells]; omega
      · intro i h1 h2
        have hi : i < d.length := by simpa using h2
        rw [List.getElem_take]
        simp [putCells, hi]
  · show w.heap.size ≤ (w.heap.modify g _).size
    rw [Array.size_modify]; exact Nat.le_refl _
theorem own_grow {w : World} {B e size n : Nat} {v : Value} {xs : List Value} (h : w.ownsRow B e size v n xs) (os : Array Obj) : (grow w os).ownsRow B e size v n xs :=
  h.kept (row := none) ⟨rfl, rfl, rfl, by simp [grow], fun k hk _ => by simp [grow, Array.getElem?_append_left hk]⟩ (by
    by_cases hv : v.ownBlock = none
    · exact .inl hv
    · exact .inr hv)
theorem by_grow {w w' : World} {row : Option Nat} (h : w.grownBy w' row) (os : Array Obj) : w.grownBy (grow w' os) row :=
  ⟨h.os, h.tape, h.output, by have := h.size; simp [grow]; omega, fun k hk hr => by
    rw [← h.block k hk hr]
    exact Array.getElem?_append_left (Nat.lt_of_lt_of_le hk h.size)⟩
end Go.Proofs.YtgcjfonbppchlaaDoor
