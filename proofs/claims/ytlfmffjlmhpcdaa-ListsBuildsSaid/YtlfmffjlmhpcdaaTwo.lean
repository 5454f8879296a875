/- The document's arena: quiverref09.New, quiverref09.With. -/
import Derived.Test.YtlfmffjlmhpcdaaAgrees
namespace Go.Proofs.Ytlfmffjlmhpcdaa
open Go.RowKit
set_option maxRecDepth 100000
attribute [local irreducible] Der

def freeC : Cel := ⟨false, 0, 0, 0, .slice none 0 0, []⟩
theorem made_cells : (madeCells (Value.cells (.agg #[.bool false, .int .u64 0, .int .u64 0, .int .u64 0, .slice none 0 0])) (96 * 5)).toList = (List.replicate 96 freeC).flatMap Cel.cells := by kernel_rfl
theorem run_make_cells (W : World) (base : Nat) (hb : base ≤ W.heap.size) : ∃ w', (Instr.makeSlice 35 (.int .i64 96) (.int .i64 96)).run Try.prog W = .ok (.slice (some ⟨W.heap.size, 0, none⟩) 96 96) w' ∧
    w'.ownsRow base 60 5 (.slice (some ⟨W.heap.size, 0, none⟩) 96 96) 96 ((List.replicate 96 freeC).flatMap Cel.cells) ∧ Below W.heap.size W w' := by
  obtain ⟨i0, hi, hz0, hz1, hz2⟩ := info_parts info_cell
  obtain ⟨w', h1, h2, h3⟩ := run_makeSlice_full (P := Try.prog) (w := W) base 35 60 i0 _ 5 Try.underlying35 hi hz0 hz1 .i64 .i64 96 (by omega) (by rw [hz2]; omega) (by unfold maxLen; omega) hb
  refine ⟨w', h1, ?_, ?_⟩
  · rw [made_cells] at h2; exact h2
  · exact ⟨h3.os, h3.tape, h3.output, h3.size, fun i hi => h3.block i hi (by simp)⟩
theorem CelsV.of_own {w : World} {B n : Nat} {v : Value} {l : List Cel} (h : w.ownsRow B 60 5 v n (l.flatMap Cel.cells)) (hn : n = l.length) (hi : ∀ c ∈ l, VecV w c.sv c.vec) : CelsV w v l := by
  subst hn
  exact ⟨⟨Sl.of_owns h, NilA.of_owns h⟩, hi⟩
set_option maxHeartbeats 1000000 in
theorem r9New (w : World) : Calls Try.prog 84 #[] w fun e w' => (∃ v, e = .returned (.agg #[v]) ∧ w'.ownsRow w.heap.size 60 5 v 96 ((List.replicate 96 freeC).flatMap Cel.cells)) ∧ Below w.heap.size w w' := by
  go_enter Try.func84, Try.ntmps84
  have HR := Lib.hid (run_make_cells (w.alloc (.cells #[.slice none 0 0] 37)) (w.heap.size + 1) (by simp))
  obtain ⟨w1, hr, ho, hb⟩ := HR.out
  have HO := Lib.hid ho
  have c0 : w1.cell? ⟨w.heap.size, 0, none⟩ = some (.slice none 0 0) := (hb.cell (p := ⟨w.heap.size, 0, none⟩) (by simp)).trans (by go_simp)
  have f0 : w1.frozen? ⟨w.heap.size, 0, none⟩ = false := (hb.frozen (p := ⟨w.heap.size, 0, none⟩) (by simp)).trans (by go_simp)
  have hb1 : Below w.heap.size w w1 := by ((have shb := hb.size); (try simp at shb); (repeat' (first | (with_reducible exact Below.refl _ _) | (with_reducible refine Below.setCell ?_ ?_ _) | (with_reducible refine Below.alloc ?_ ?_ _) | (with_reducible refine Below.drew ?_) | (with_reducible refine Below.trans ?_ (Below.mono hb ?_)) | go_size)))
  have hs : (w.alloc (.cells #[.slice none 0 0] 37)).heap.size = w.heap.size + 1 := by simp
  rw [hs] at hr HO
  clear ho HR
  go_wp2
  refine bodyPost_ret (v := .agg #[.slice (some ⟨w.heap.size + 1, 0, none⟩) 96 96]) (by simp only [results, Try.results84]; go_simp) rfl ⟨⟨_, rfl, own_weaken (own_setCell HO.out (by simp) _) (by omega)⟩, ?_⟩
  ((have shb1 := hb1.size); (try simp at shb1); (repeat' (first | (with_reducible exact Below.refl _ _) | (with_reducible refine Below.setCell ?_ ?_ _) | (with_reducible refine Below.alloc ?_ ?_ _) | (with_reducible refine Below.drew ?_) | (with_reducible refine Below.trans ?_ (Below.mono hb1 ?_)) | go_size)))
theorem flat_set {l : List Cel} {k : Nat} (h : k < l.length) (c : Cel) : (((((l.flatMap Cel.cells).set (k * 5) (.bool c.used)).set (k * 5 + 1) (.int .u64 c.id)).set (k * 5 + 2) (.int .u64 c.b)).set (k * 5 + 3) (.int .u64 c.e)).set (k * 5 + 4) c.sv = (l.set k c).flatMap Cel.cells := by
  induction l generalizing k with
  | nil => simp at h
  | cons x l ih =>
    cases k with
    | zero => simp [Cel.cells, List.flatMap_cons]
    | succ k =>
      have hk : k < l.length := by simpa using h
      rw [List.set_cons_succ, List.flatMap_cons, List.flatMap_cons, ← ih hk]
      have e : ∀ j, (k + 1) * 5 + j = (k * 5 + j) + 5 := by intro j; omega
      have e0 : (k + 1) * 5 = (k * 5) + 5 := by omega
      simp only [e0, Cel.cells, List.cons_append, List.nil_append, List.set_cons_succ]
theorem cellC_one (c : Cel) (h : c.sv.oneCell' = true) : ∀ u ∈ c.cells, u.oneCell' = true := by
  intro u hu
  simp only [Cel.cells, List.mem_cons, List.not_mem_nil, or_false] at hu
  rcases hu with rfl | rfl | rfl | rfl | rfl <;> first | rfl | exact h
theorem own_at {w : World} {B e size n g c : Nat} {xs : List Value} (h : w.ownsRow B e size (.slice (some ⟨g, 0, none⟩) n c) n xs) (j : Nat) (hj : j < n * size) : ∃ u, w.cell? ⟨g, j, none⟩ = some u := by
  have h1 := h.cellAt j hj
  rw [List.getElem?_eq_getElem (by rw [h.1]; exact hj)] at h1
  exact ⟨_, h1⟩
set_option maxHeartbeats 2000000 in
theorem r9With (vx : Value) (cells : List Cel) (k : Nat) (hk : k < cells.length) (h1000 : cells.length ≤ 1000) (c : Cel) (w : World) (hx : CelsV w vx cells) (hc : VecV w c.sv c.vec) : Calls Try.prog 83 #[.agg #[vx], .int .i64 (k : Int), argC c] w fun e w' =>
    (∃ v, e = .returned (.agg #[v]) ∧ w'.ownsRow w.heap.size 60 5 v cells.length ((cells.set k c).flatMap Cel.cells)) ∧ Below w.heap.size w w' := by
  obtain ⟨used, id, cb, ce, sv, vec⟩ := c
  simp only at hc
  unfold argC
  obtain ⟨av, cs', rfl, -⟩ := hc.form
  have HX := Lib.hid (fun W (hb : Below w.heap.size w W) => hx.grown hb)
  have HI := Lib.hid hx.2
  have HS := Lib.hid (flat_set hk ⟨used, id, cb, ce, .slice av vec.length cs', vec⟩)
  obtain ⟨a, cap, rfl, -⟩ := hx.open
  have hflat := flatMap_len Cel.cells 5 (fun _ => rfl) cells
  obtain ⟨W0, hW0⟩ : ∃ W0, W0 = (((w.alloc (.cells #[.slice a cells.length cap] 37)).alloc (.cells #[.bool used, .int .u64 id, .int .u64 cb, .int .u64 ce, .slice av vec.length cs'] 60)).alloc (.cells #[.slice none 0 0] 37)) := ⟨_, rfl⟩
  have hs0 : W0.heap.size = w.heap.size + 1 + 1 + 1 := by rw [hW0]; simp
  have k0 : (W0.alloc (.cells #[] 60)).cell? ⟨w.heap.size + 1, 0, none⟩ = some (.bool used) := by rw [hW0]; clear hW0; go_simp
  have k1 : (W0.alloc (.cells #[] 60)).cell? ⟨w.heap.size + 1, 1, none⟩ = some (.int .u64 id) := by rw [hW0]; clear hW0; go_simp
  have k2 : (W0.alloc (.cells #[] 60)).cell? ⟨w.heap.size + 1, 2, none⟩ = some (.int .u64 cb) := by rw [hW0]; clear hW0; go_simp
  have k3 : (W0.alloc (.cells #[] 60)).cell? ⟨w.heap.size + 1, 3, none⟩ = some (.int .u64 ce) := by rw [hW0]; clear hW0; go_simp
  have k4 : (W0.alloc (.cells #[] 60)).cell? ⟨w.heap.size + 1, 4, none⟩ = some (.slice av vec.length cs') := by rw [hW0]; clear hW0; go_simp
  have k5 : (W0.alloc (.cells #[] 60)).cell? ⟨w.heap.size + 1 + 1, 0, none⟩ = some (.slice none 0 0) := by rw [hW0]; clear hW0; go_simp
  have k6 : (W0.alloc (.cells #[] 60)).frozen? ⟨w.heap.size + 1 + 1, 0, none⟩ = false := by rw [hW0]; clear hW0; go_simp
  have k7 : (W0.alloc (.cells #[] 60)).cell? ⟨w.heap.size, 0, none⟩ = some (.slice a cells.length cap) := by rw [hW0]; clear hW0; go_simp
  have hB0 : Below w.heap.size w W0 := by rw [hW0]; ((repeat' (first | (with_reducible exact Below.refl _ _) | (with_reducible refine Below.setCell ?_ ?_ _) | (with_reducible refine Below.alloc ?_ ?_ _) | (with_reducible refine Below.drew ?_) | (with_reducible refine Below.trans ?_ (Below.mono (by assumption) ?_)) | go_size)))
  have own := World.ownsRow_lit (base := w.heap.size + 1 + 1 + 1) (size := 5) (e := 60) W0 #[] 0 (by omega) (by decide) rfl
  have hB1 : Below w.heap.size w (W0.alloc (.cells #[] 60)) := hB0.alloc hB0.size _
  have HSl := Lib.hid (Sl.grown hx.1.1 hB1)
  have HN := Lib.hid hx.1.2
  clear hx hc
  rw [hs0] at own
  have hsz : (W0.alloc (.cells #[] 60)).heap.size = w.heap.size + 4 := by simp; omega
  clear hs0 hB0
  subst hW0
  have HK := Lib.hid (And.intro k0 (And.intro k1 (And.intro k2 (And.intro k3 (And.intro k4 (And.intro k5 (And.intro k6 hsz)))))))
  clear k0 k1 k2 k3 k4 k5 k6 k7 hsz
  have HB1 := Lib.hid hB1
  clear hB1
  go_enter Try.func83, Try.ntmps83
  go_wp2_with (at_builtin; refine append_any rfl _ _ 35 rfl (w.heap.size + 1 + 1 + 1) 60 (.agg #[.bool false, .int .u64 0, .int .u64 0, .int .u64 0, .slice none 0 0]) 5 56 Try.underlying35 info_cell rfl (by decide) _ 0 _ rfl own _ cells.length (cells.flatMap Cel.cells) rfl HSl.out HN.out hflat (Cels.one HI.out) (by unfold maxLen; omega) (by omega) (by first | (simp; done) | (simp; omega)) ?_; intro v' w2 hown' hgrow; refine Hid.out ?_)
  refine Lib.hid ?_
  obtain ⟨k0, k1, k2, k3, k4, k5, k6, hsz⟩ := HK.out
  obtain ⟨g, cp, rfl⟩ := own_addr hown' (by omega)
  have hg := (hown'.lt g rfl)
  have hne : ∀ r, some (w.heap.size + 1 + 1 + 1) = some r → ∀ b, b < w.heap.size + 3 → b ≠ r := fun r e b hb => by have e2 : w.heap.size + 1 + 1 + 1 = r := Option.some.inj e; omega
  have j0 := (own_cell hgrow (p := ⟨w.heap.size + 1, 0, none⟩) (by rw [hsz]; simp) (fun r e => hne r e _ (by simp))).trans k0
  have j1 := (own_cell hgrow (p := ⟨w.heap.size + 1, 1, none⟩) (by rw [hsz]; simp) (fun r e => hne r e _ (by simp))).trans k1
  have j2 := (own_cell hgrow (p := ⟨w.heap.size + 1, 2, none⟩) (by rw [hsz]; simp) (fun r e => hne r e _ (by simp))).trans k2
  have j3 := (own_cell hgrow (p := ⟨w.heap.size + 1, 3, none⟩) (by rw [hsz]; simp) (fun r e => hne r e _ (by simp))).trans k3
  have j4 := (own_cell hgrow (p := ⟨w.heap.size + 1, 4, none⟩) (by rw [hsz]; simp) (fun r e => hne r e _ (by simp))).trans k4
  have j5 := (own_cell hgrow (p := ⟨w.heap.size + 1 + 1, 0, none⟩) (by rw [hsz]; simp) (fun r e => hne r e _ (by simp))).trans k5
  have j6 := (own_frozen hgrow (p := ⟨w.heap.size + 1 + 1, 0, none⟩) (by rw [hsz]; simp) (fun r e => hne r e _ (by simp))).trans k6
  have hB2 : Below w.heap.size w w2 := HB1.out.grown hgrow (by rw [hsz]; omega) (fun r e => by have e2 : w.heap.size + 1 + 1 + 1 = r := Option.some.inj e; omega)
  have hs2 := hgrow.size
  rw [hsz] at hs2
  rw [Nat.zero_add, List.nil_append] at hown'
  have HO := Lib.hid hown'
  have hcl : cells.length * 5 = (cells.flatMap Cel.cells).length := hflat.symm
  obtain ⟨u0, hx0⟩ := own_at hown' (k * 5) (by omega)
  obtain ⟨u1, hx1⟩ := own_at hown' (k * 5 + 1) (by omega)
  obtain ⟨u2, hx2⟩ := own_at hown' (k * 5 + 2) (by omega)
  obtain ⟨u3, hx3⟩ := own_at hown' (k * 5 + 3) (by omega)
  obtain ⟨u4, hx4⟩ := own_at hown' (k * 5 + 4) (by omega)
  have hfr := fun j => hown'.frozenAt j
  clear hgrow hown' hne k0 k1 k2 k3 k4 k5 k6 hsz
  have HW := Lib.hid (((((HO.out.stored (k * 5) (.bool used)).1.stored (k * 5 + 1) (.int .u64 id)).1.stored (k * 5 + 2) (.int .u64 cb)).1.stored (k * 5 + 3) (.int .u64 ce)).1.stored (k * 5 + 4) (.slice av vec.length cs')).1
  rw [HS.out] at HW
  have hgw : w.heap.size + 3 ≤ g := hg.1
  go_wp2
  refine bodyPost_ret (v := .agg #[.slice (some ⟨g, 0, none⟩) cells.length cp]) (by simp only [results, Try.results83]; go_simp) rfl ⟨⟨_, rfl, own_weaken (own_setCell HW.out (by omega) _) (by omega)⟩, ?_⟩
  ((have shB2 := hB2.size); (try simp at shB2); (repeat' (first | (with_reducible exact Below.refl _ _) | (with_reducible refine Below.setCell ?_ ?_ _) | (with_reducible refine Below.alloc ?_ ?_ _) | (with_reducible refine Below.drew ?_) | (with_reducible refine Below.trans ?_ (Below.mono hB2 ?_)) | go_size)))
end Go.Proofs.Ytlfmffjlmhpcdaa
