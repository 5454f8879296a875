/- slices.Sort, Compact and Equal over rows of numbers, by the shelf's contracts. -/
import Derived.Test.YtgcjfonbppchlaaDoorSortK0
import Derived.Test.YtgcjfonbppchlaaDoorShelf
namespace Go.Proofs.YtgcjfonbppchlaaDoor
open Go.RowKit Go.Sort
set_option maxRecDepth 100000

def sortL (l : List Int) : List Int := l.mergeSort fun x y => decide (x ≤ y)
theorem sortL_length (l : List Int) : (sortL l).length = l.length := List.length_mergeSort l
theorem own_shrink {w : World} {B n m : Nat} {g cap : Nat} {l : List Int} (hm : m ≤ n) (h : w.ownsRow B 3 1 (.slice (some ⟨g, 0, none⟩) n cap) n (l.map (Value.int .i64))) :
    w.ownsRow B 3 1 (.slice (some ⟨g, 0, none⟩) m cap) m ((l.take m).map (Value.int .i64)) := by
  have hn : l.length = n := by have := h.1; simpa using this
  refine ⟨by simp; omega, ?_⟩
  rcases h.2 with ⟨e, _⟩ | ⟨g', cap', cur, e, hB, hc, hl, hmx, hs, hx⟩
  · cases e
  · injection e with e1 _ e2
    obtain rfl : g = g' := by injection e1 with e1; injection e1
    subst e2
    refine .inr ⟨g, cap, cur, rfl, hB, hc, Nat.le_trans hm hl, hmx, hs, ?_⟩
    rw [List.map_take, ← hx, List.take_take, Nat.mul_one, Nat.mul_one, Nat.min_eq_left hm]
theorem f_Sort (v : Value) (l : List Int) (B n : Nat) (hn : n ≤ 1000000) (w : World) (h : w.ownsRow B 3 1 v n (l.map (Value.int .i64))) :
    Calls Tryd.prog 6 #[v] w fun e w' => e = .returned (.tuple #[]) ∧ w'.ownsRow B 3 1 v n ((sortL l).map (Value.int .i64)) ∧ w.grownBy w' v.ownBlock := by
  have hl : l.length = n := by have := h.1; simpa using this
  rcases h.2 with ⟨rfl, h0⟩ | ⟨g, cap, cur, rfl, hB, hc, hle, hm, hs, hx⟩
  · subst h0
    have e : l = [] := List.eq_nil_of_length_eq_zero hl
    subst e
    refine (Tryd.slices_Sort_int_none none 0 w).mono ?_
    rintro e w' ⟨rfl, rfl⟩
    have e0 : sortL [] = [] := by simp [sortL]
    rw [e0]
    exact ⟨rfl, World.ownsRow_nil _ _ _ _, rfl, rfl, rfl, Nat.le_refl _, fun _ _ _ => rfl⟩
  · have hlt : g < w.heap.size := (Array.getElem?_eq_some_iff.1 hc).1
    subst hl
    refine (Tryd.slices_Sort_int g 0 cap l w (holds_own h) hlt (by omega)).mono ?_
    rintro e w' ⟨rfl, q, os, rfl⟩
    obtain ⟨h1, h2⟩ := own_putRow (d := sortL l) q (sortL_length l) h
    exact ⟨rfl, own_grow h1 os, by_grow h2 os⟩
theorem compact_le (l : List Int) : (Lib.compact l).length ≤ l.length := by
  unfold Lib.compact Lib.compactUpTo
  rw [List.length_map]
  have := List.length_filter_le (Lib.keeps l.toArray) (List.range l.length)
  rw [List.length_range] at this
  exact this
theorem f_Compact (v : Value) (l : List Int) (B n : Nat) (hn : n ≤ 1000000) (w : World) (h : w.ownsRow B 3 1 v n (l.map (Value.int .i64))) :
    Calls Tryd.prog 9 #[v] w fun e w' => (∃ v', e = .returned v' ∧ w'.ownsRow B 3 1 v' (Lib.compact l).length ((Lib.compact l).map (Value.int .i64))) ∧ w.grownBy w' v.ownBlock := by
  have hl : l.length = n := by have := h.1; simpa using this
  rcases h.2 with ⟨rfl, h0⟩ | ⟨g, cap, cur, rfl, hB, hc, hle, hm, hs, hx⟩
  · subst h0
    have e : l = [] := List.eq_nil_of_length_eq_zero hl
    subst e
    refine (Tryd.slices_Compact_int_empty none 0 w).mono ?_
    rintro e w' ⟨rfl, rfl⟩
    exact ⟨⟨_, rfl, World.ownsRow_nil _ _ _ _⟩, rfl, rfl, rfl, Nat.le_refl _, fun _ _ _ => rfl⟩
  · subst hl
    refine (Tryd.slices_Compact_int g 0 cap l w (holds_own h) (by omega) hle).mono ?_
    rintro e w' ⟨rfl, q, rfl⟩
    have hcl := compact_le l
    obtain ⟨h1, h2⟩ := own_putRow (d := Lib.compact l ++ List.replicate (l.length - (Lib.compact l).length) 0) q (by simp; omega) h
    have h3 := own_shrink hcl h1
    rw [List.take_append_of_le_length (Nat.le_refl _), List.take_length] at h3
    exact ⟨⟨_, rfl, h3⟩, h2⟩
theorem f_EqualI (v u : Value) (l m : List Int) (hl : l.length ≤ 1000000) (hm : m.length ≤ 1000000) (w : World) (h : Ints w v l) (h' : Ints w u m) :
    Calls Tryd.prog 7 #[v, u] w fun e w' => e = .returned (.bool (decide (l = m))) ∧ Below w.heap.size w w' := by
  obtain ⟨a, c, rfl, hlc, -, lcell⟩ := h.open
  obtain ⟨b, d, rfl, hmd, -, mcell⟩ := h'.open
  by_cases hlen : l.length = m.length
  · by_cases h0 : l.length = 0
    · have e1 : l = [] := List.eq_nil_of_length_eq_zero h0
      have e2 : m = [] := List.eq_nil_of_length_eq_zero (by omega)
      subst e1; subst e2
      refine (Tryd.slices_Equal_int_empty a b c 0 d w (by omega)).mono ?_
      rintro e w' ⟨rfl, rfl⟩
      exact ⟨by simp, Below.refl _ _⟩
    · obtain ⟨ga, oa, rfl, -, -⟩ := lcell 0 (by omega)
      obtain ⟨gb, ob, rfl, -, -⟩ := mcell 0 (by omega)
      refine (Tryd.slices_Equal_int ga oa l.length c gb ob m.length d l m w (Nat.le_refl _) (Nat.le_refl _) (by omega) (by omega) (fun j hj => ?_) (fun j hj => ?_)).mono ?_
      · obtain ⟨g, o, e, -, h1⟩ := lcell j hj
        injection e with e
        injection e with e1 e2
        subst e1; subst e2
        rw [h1]; simp [hj]
      · obtain ⟨g, o, e, -, h1⟩ := mcell j hj
        injection e with e
        injection e with e1 e2
        subst e1; subst e2
        rw [h1]; simp [hj]
      · rintro e w' ⟨rfl, q, rfl⟩
        refine ⟨?_, ⟨rfl, rfl, rfl, Nat.le_refl _, fun _ _ => rfl⟩⟩
        rw [List.take_length, List.take_length]
        have : (l == m) = decide (l = m) := by rw [Bool.eq_iff_iff]; simp
        rw [this]
  · refine (Tryd.slices_Equal_int_lens a b l.length c m.length d w hlen).mono ?_
    rintro e w' ⟨rfl, rfl⟩
    refine ⟨?_, Below.refl _ _⟩
    rw [decide_eq_false (fun h => hlen (by rw [h]))]
end Go.Proofs.YtgcjfonbppchlaaDoor
