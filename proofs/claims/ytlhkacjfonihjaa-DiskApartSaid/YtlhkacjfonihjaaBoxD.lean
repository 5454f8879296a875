/- Boxes that hold four rows; beginnings of rows. -/
import Derived.Test.YtlhkacjfonihjaaBytesD
import Derived.Test.YtlhkacjfonihjaaLivesLaw
namespace Go.Proofs.Ytlhkacjfonihjaa
open Go.RowKit
set_option maxRecDepth 100000

theorem f_prefixB {w : World} {v1 v2 : Value} {l1 l2 : List Int} (h1 : Byt w v1 l1) (h2 : Byt w v2 l2) (hp : l2 <+: l1) : Calls Try.prog 23 #[v1, v2] w fun e w' => e = .returned (.bool true) ∧ Below w.heap.size w w' := by
  obtain ⟨a1, c1, rfl, k1, -⟩ := h1.open
  obtain ⟨a2, c2, rfl, k2, -⟩ := h2.open
  refine (Try.bytes_HasPrefix_all a1 a2 l1.length c1 l2.length c2 l1 l2 w rfl rfl k1 h1.bytesIn h2.bytesIn).mono fun e w' ⟨he, hw⟩ => ⟨?_, hw ▸ Below.refl _ _⟩
  rw [he]
  have : Lib.hasPrefix (Lib.bytesOf l1) (Lib.bytesOf l2) = true := by
    unfold Lib.hasPrefix
    rw [List.isPrefixOf_iff_prefix]
    exact hp.map _
  rw [this]

/-- A box that holds four rows; all of it lies in the blocks from n on, below u. -/
def BoxW (n u : Nat) (w : World) (g : Nat) (F : Int → List Int) : Prop := u ≤ w.heap.size ∧ (n ≤ g ∧ g < u) ∧ ∀ j : Nat, j < 4 → ∃ a c, w.cell? ⟨g, j, none⟩ = some (.slice a (F j).length c) ∧ Byt w (.slice a (F j).length c) (F j) ∧ ∀ ad, a = some ad → n ≤ ad.block ∧ ad.block < u
section
variable {n u g : Nat} {w w' : World} {F : Int → List Int} {L : List Nat}
theorem BoxW.tw (h : BoxW n u w g F) (ht : Tw w.heap.size L w w') (hL : ∀ a ∈ L, a < n ∨ u ≤ a) : BoxW n u w' g F := by
  obtain ⟨h1, h2, h3⟩ := h
  have key : ∀ k, n ≤ k → k < u → w'.heap[k]? = w.heap[k]? := fun k k1 k2 => ht.block k (by omega) fun hk => by have := hL k hk; omega
  refine ⟨Nat.le_trans h1 ht.size, h2, fun j hj => ?_⟩
  obtain ⟨a, c, c1, c2, c3⟩ := h3 j hj
  refine ⟨a, c, (World.cell?_of_block (a := ⟨g, j, none⟩) (key g h2.1 h2.2)).trans c1, c2.turn ht.size fun ad k c' e => ?_, c3⟩
  simp only [Value.slice.injEq] at e
  have := c3 ad e.1
  exact key _ this.1 this.2
theorem BoxW.below (h : BoxW n u w g F) (hb : Below w.heap.size w w') : BoxW n u w' g F :=
  h.tw (L := []) (Tw.of_below hb) (by simp)
theorem BoxW.at (h : BoxW n u w g F) (j : Nat) (hj : j < 4) : ∃ a c, w.cell? ⟨g, j, none⟩ = some (.slice a (F j).length c) ∧ Byt w (.slice a (F j).length c) (F j) := by
  obtain ⟨a, c, h1, h2, -⟩ := h.2.2 j hj
  exact ⟨a, c, h1, h2⟩
/-- What is whole, laid into a box. -/
theorem Four.open {v : Value} {s : DS} (h : Four n w v s) (hn : n ≤ w.heap.size) : ∃ a0 c0 a1 c1 a2 c2 a3 c3, v = .agg #[.slice a0 (s.at 0).bs.length c0, .slice a1 (s.at 1).bs.length c1, .slice a2 (s.at 2).bs.length c2, .slice a3 (s.at 3).bs.length c3] ∧
    BoxW n (w.heap.size + 1) (w.alloc (.cells #[.slice a0 (s.at 0).bs.length c0, .slice a1 (s.at 1).bs.length c1, .slice a2 (s.at 2).bs.length c2, .slice a3 (s.at 3).bs.length c3] 41)) w.heap.size (fun x => (s.at x).bs) := by
  obtain ⟨v0, v1, v2, v3, rfl, B0, B1, B2, B3⟩ := h
  obtain ⟨x0, y0, rfl, -⟩ := B0.1.open
  obtain ⟨x1, y1, rfl, -⟩ := B1.1.open
  obtain ⟨x2, y2, rfl, -⟩ := B2.1.open
  obtain ⟨x3, y3, rfl, -⟩ := B3.1.open
  refine ⟨x0, y0, x1, y1, x2, y2, x3, y3, rfl, by simp, ⟨hn, by omega⟩, fun j hj => ?_⟩
  have hb : Below w.heap.size w (w.alloc (.cells #[.slice x0 (s.at 0).bs.length y0, .slice x1 (s.at 1).bs.length y1, .slice x2 (s.at 2).bs.length y2, .slice x3 (s.at 3).bs.length y3] 41)) := (Below.refl _ _).alloc (Nat.le_refl _) _
  have fin : ∀ a k c l, ByO n w (.slice a k c) l → ∀ ad, a = some ad → n ≤ ad.block ∧ ad.block < w.heap.size + 1 := fun a k c l hB ad e => by
    have := hB.2 ad k c (by rw [e])
    omega
  have : j = 0 ∨ j = 1 ∨ j = 2 ∨ j = 3 := by omega
  rcases this with rfl | rfl | rfl | rfl
  · exact ⟨x0, y0, by go_simp, (B0.below hb).1, fin _ _ _ _ B0⟩
  · exact ⟨x1, y1, by go_simp, (B1.below hb).1, fin _ _ _ _ B1⟩
  · exact ⟨x2, y2, by go_simp, (B2.below hb).1, fin _ _ _ _ B2⟩
  · exact ⟨x3, y3, by go_simp, (B3.below hb).1, fin _ _ _ _ B3⟩
end

theorem info_boolD : (Try.prog.info? 4).map (fun i => (i.zero, i.size, i.bytes)) = some (some (.bool false), 1, 1) := by kernel_rfl
theorem made_bools (n : Nat) : (madeCells #[Value.bool false] n).toList = List.replicate n (Value.bool false) := by
  apply List.ext_getElem
  · simp [madeCells]
  · intro i h1 h2
    simp [madeCells, Nat.mod_one]
theorem make_bools (W : World) (n : Nat) (hn : n ≤ 1000000) : ∃ w' : World, (Instr.makeSlice 32 (.int .i64 n) (.int .i64 n)).run Try.prog W = .ok (.slice (some ⟨W.heap.size, 0, none⟩) n n) w' ∧
    w'.ownsRow W.heap.size 4 1 (.slice (some ⟨W.heap.size, 0, none⟩) n n) n ((List.replicate n false).map Value.bool) ∧ Below W.heap.size W w' ∧ W.heap.size < w'.heap.size := by
  obtain ⟨i0, hi, hz0, hz1, hz2⟩ := info_parts info_boolD
  obtain ⟨w', h1, h2, h3⟩ := run_makeSlice_full (P := Try.prog) (w := W) W.heap.size 32 4 i0 _ 1 Try.underlying32 hi hz0 hz1 .i64 .i64 n (by omega) (by rw [hz2]; omega) (by unfold maxLen; omega) (Nat.le_refl _)
  have h4 : w'.ownsRow W.heap.size 4 1 (.slice (some ⟨W.heap.size, 0, none⟩) n n) n ((List.replicate n false).map Value.bool) := by
    have e : ((List.replicate n false).map Value.bool) = (List.replicate n (Value.bool false)) := by simp
    rw [e]
    rw [← made_bools]
    simpa [Value.cells] using h2
  exact ⟨w', h1, h4, ⟨h3.os, h3.tape, h3.output, h3.size, fun i hi => h3.block i hi (by simp)⟩, (h4.lt W.heap.size rfl).2⟩
end Go.Proofs.Ytlhkacjfonihjaa
