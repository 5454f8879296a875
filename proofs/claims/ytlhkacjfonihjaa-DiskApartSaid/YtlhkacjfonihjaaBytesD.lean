/- bytes.Equal, bytes.HasPrefix of rows that hold the same, or a beginning. -/
import Derived.Test.YtlhkacjfonihjaaWhole
import Derived.Test.YtlhkacjfonihjaaDShelf
namespace Go.Proofs.Ytlhkacjfonihjaa
open Go.RowKit
set_option maxRecDepth 100000

theorem Byt.bytesIn {w : World} {a : Option Addr} {n c : Nat} {l : List Int} (h : Byt w (.slice a n c) l) : Lib.BytesIn w a n l := by
  obtain ⟨a', cap, e, h1, h2, h3⟩ := h.1.form
  simp only [Value.slice.injEq] at e
  obtain ⟨rfl, rfl, rfl⟩ := e
  intro hn
  obtain ⟨b, off, ha, -, hc⟩ := h3 (by intro e; simp at e; subst e; simp at hn)
  refine ⟨b, off, ha, fun i hi => ?_⟩
  rw [hc i (by simpa using hi)]
  simp [List.getD_eq_getElem?_getD, List.getElem?_eq_getElem hi]
theorem f_bytesEq {w : World} {v1 v2 : Value} {l : List Int} (h1 : Byt w v1 l) (h2 : Byt w v2 l) : Calls Try.prog 21 #[v1, v2] w fun e w' => e = .returned (.bool true) ∧ w' = w := by
  obtain ⟨a1, c1, rfl, -⟩ := h1.open
  obtain ⟨a2, c2, rfl, -⟩ := h2.open
  refine (Try.bytes_Equal_all a1 a2 l.length c1 l.length c2 l l w rfl rfl h1.bytesIn h2.bytesIn).mono fun e w' ⟨he, hw⟩ => ⟨?_, hw⟩
  rw [he]; simp
theorem f_bytesEqB {w : World} {v1 v2 : Value} {l : List Int} (h1 : Byt w v1 l) (h2 : Byt w v2 l) : Calls Try.prog 21 #[v1, v2] w fun e w' => e = .returned (.bool true) ∧ Below w.heap.size w w' :=
  (f_bytesEq h1 h2).mono fun _ _ ⟨he, hw⟩ => ⟨he, hw ▸ Below.refl _ _⟩
theorem Below.drewn2 {n : Nat} {w w' : World} (q : Nat) (h : Below n w w') : Below n w (w'.drewN q) := ⟨h.os, h.tape, h.output, h.size, h.block⟩
theorem f_eqInts {w : World} {a1 a2 : Option Addr} {c1 c2 : Nat} {l : List Int} (hl : l.length ≤ 4) (h1 : l ≠ [] → ∃ g, a1 = some ⟨g, 0, none⟩ ∧ ∀ i (hi : i < l.length), w.cell? ⟨g, i, none⟩ = some (.int .i64 l[i])) (h2 : l ≠ [] → ∃ g, a2 = some ⟨g, 0, none⟩ ∧ ∀ i (hi : i < l.length), w.cell? ⟨g, i, none⟩ = some (.int .i64 l[i])) :
    Calls Try.prog 20 #[.slice a1 l.length c1, .slice a2 l.length c2] w fun e w' => e = .returned (.bool true) ∧ Below w.heap.size w w' := by
  by_cases hn : l = []
  · subst hn
    exact (Try.slices_Equal_int_empty a1 a2 c1 0 c2 w (by omega)).mono fun e w' ⟨he, hw⟩ => ⟨by rw [he]; rfl, hw ▸ Below.refl _ _⟩
  · obtain ⟨g1, rfl, k1⟩ := h1 hn
    obtain ⟨g2, rfl, k2⟩ := h2 hn
    refine (Try.slices_Equal_int g1 0 l.length c1 g2 0 l.length c2 l l w (Nat.le_refl _) (Nat.le_refl _) (by omega) (by omega) (fun j hj => ?_) (fun j hj => ?_)).mono ?_
    · rw [Nat.zero_add, k1 j hj, List.getD_eq_getElem?_getD, List.getElem?_eq_getElem hj]; rfl
    · rw [Nat.zero_add, k2 j hj, List.getD_eq_getElem?_getD, List.getElem?_eq_getElem hj]; rfl
    · rintro e w' ⟨he, q, rfl⟩
      exact ⟨by rw [he]; simp, Below.drewn2 q (Below.refl _ _)⟩
end Go.Proofs.Ytlhkacjfonihjaa
