/- quiverref13.With: a slot more in one mask. -/
import Derived.Test.YtlfmffjlmhpcdaaTwo
import Derived.Test.YtlfmffjlmhpcdaaRefF
namespace Go.Proofs.Ytlfmffjlmhpcdaa
open Go.RowKit
set_option maxRecDepth 100000
attribute [local irreducible] Der

theorem flat_set2 {l : List M} {k : Nat} (h : k < l.length) (m : M) : ((cellsM l).set (k * 2) (.int .u64 (U m.1))).set (k * 2 + 1) (.int .u64 (U m.2)) = cellsM (l.set k m) := by
  unfold cellsM
  induction l generalizing k with
  | nil => simp at h
  | cons x l ih =>
    cases k with
    | zero => simp [List.flatMap_cons]
    | succ k =>
      have hk : k < l.length := by simpa using h
      rw [List.set_cons_succ, List.flatMap_cons, List.flatMap_cons, ← ih hk]
      have e0 : (k + 1) * 2 = (k * 2) + 2 := by omega
      simp only [e0, List.cons_append, List.nil_append, List.set_cons_succ]
theorem withL_set (p : Nat) (s : Int) (ms : List M) (hp : p < ms.length) : withL (putD p s) ms ms.length = ms.set p (ms[p].1 ||| bit0 s, ms[p].2 ||| bit1 s) := by
  apply List.ext_getElem
  · simp [withL]
  · intro i h1 h2
    have hi : i < ms.length := by simpa using h2
    have e : (withL (putD p s) ms ms.length)[i] = putD p s i (mAt ms i) := by simp [withL]
    rw [e, mAt_get hi, List.getElem_set]
    unfold putD
    by_cases hip : i = p
    · subst hip; simp
    · rw [if_neg hip, if_neg (fun e => hip e.symm)]
set_option maxHeartbeats 2000000 in
theorem r13With (vc vm : Value) (cs : List PV) (ms : List M) (p : Nat) (s : Int) (hp : p < ms.length) (hs : isSlot s) (h1000 : ms.length ≤ 1000) (w : World) (hc : VecsV w vc cs) (hm : Masks w vm ms) (hn : NilA vm) :
    Calls Try.prog 34 #[.agg #[vc, vm], .int .i64 (p : Int), .int .i64 s] w fun e w' =>
      (∃ v, e = .returned (.agg #[vc, v]) ∧ w'.ownsRow w.heap.size 49 2 v ms.length (cellsM (withL (putD p s) ms ms.length))) ∧ Below w.heap.size w w' := by
  rw [withL_set p s ms hp]
  obtain ⟨a, cap, rfl, -⟩ := hc.open
  obtain ⟨a', cap', rfl, -⟩ := hm.open
  have hflat : (cellsM ms).length = ms.length * 2 := by rw [cellsM_length]; omega
  obtain ⟨g1, g2⟩ := cellsM_get ms p hp
  have HS := Lib.hid (flat_set2 hp (ms[p].1 ||| bit0 s, ms[p].2 ||| bit1 s))
  generalize ms[p] = y at *
  obtain ⟨y1, y2⟩ := y
  simp only at g1 g2
  obtain ⟨W0, hW0⟩ : ∃ W0, W0 = ((w.alloc (.cells #[.slice a cs.length cap, .slice a' ms.length cap'] 25)).alloc (.cells #[.slice none 0 0, .slice none 0 0] 25)) := ⟨_, rfl⟩
  have hs0 : W0.heap.size = w.heap.size + 1 + 1 := by rw [hW0]; simp
  have k0 : (W0.alloc (.cells #[] 49)).cell? ⟨w.heap.size, 0, none⟩ = some (.slice a cs.length cap) := by rw [hW0]; clear hW0; go_simp
  have k1 : (W0.alloc (.cells #[] 49)).cell? ⟨w.heap.size + 1, 0, none⟩ = some (.slice none 0 0) := by rw [hW0]; clear hW0; go_simp
  have k2 : (W0.alloc (.cells #[] 49)).cell? ⟨w.heap.size + 1, 1, none⟩ = some (.slice none 0 0) := by rw [hW0]; clear hW0; go_simp
  have k3 : (W0.alloc (.cells #[] 49)).frozen? ⟨w.heap.size + 1, 0, none⟩ = false := by rw [hW0]; clear hW0; go_simp
  have k4 : (W0.alloc (.cells #[] 49)).frozen? ⟨w.heap.size + 1, 1, none⟩ = false := by rw [hW0]; clear hW0; go_simp
  have hB0 : Below w.heap.size w W0 := by rw [hW0]; ((repeat' (first | (with_reducible exact Below.refl _ _) | (with_reducible refine Below.setCell ?_ ?_ _) | (with_reducible refine Below.alloc ?_ ?_ _) | (with_reducible refine Below.drew ?_) | (with_reducible refine Below.trans ?_ (Below.mono (by assumption) ?_)) | go_size)))
  have own := World.ownsRow_lit (base := w.heap.size + 1 + 1) (size := 2) (e := 49) W0 #[] 0 (by omega) (by decide) rfl
  have hB1 : Below w.heap.size w (W0.alloc (.cells #[] 49)) := hB0.alloc hB0.size _
  have HSl := Lib.hid (Sl.grown hm hB1)
  have HN := Lib.hid hn
  clear hc hm hn
  rw [hs0] at own
  have hsz : (W0.alloc (.cells #[] 49)).heap.size = w.heap.size + 3 := by simp; omega
  clear hs0 hB0
  subst hW0
  have HK := Lib.hid (And.intro k0 (And.intro k1 (And.intro k2 (And.intro k3 (And.intro k4 hsz)))))
  clear k0 k1 k2 k3 k4 hsz
  have HB1 := Lib.hid hB1
  have HG := Lib.hid (And.intro g1 g2)
  clear hB1 g1 g2
  go_enter Try.func34, Try.ntmps34
  go_wp2_with (at_builtin; refine append_any rfl _ _ 23 rfl (w.heap.size + 1 + 1) 49 (.agg #[.int .u64 0, .int .u64 0]) 2 16 Try.underlying23 info_mask' rfl (by decide) _ 0 _ rfl own _ ms.length (cellsM ms) rfl HSl.out HN.out hflat (cellsM_one' _) (by unfold maxLen; omega) (by omega) (by first | (simp; done) | (simp; omega)) ?_; intro v' w2 hown' hgrow; refine Hid.out ?_)
  refine Lib.hid ?_
  obtain ⟨k0, k1, k2, k3, k4, hsz⟩ := HK.out
  rw [Nat.zero_add, List.nil_append] at hown'
  obtain ⟨g, cp, rfl⟩ := own_addr hown' (by omega)
  have hg := (hown'.lt g rfl)
  have hne : ∀ r, some (w.heap.size + 1 + 1) = some r → ∀ b, b < w.heap.size + 2 → b ≠ r := fun r e b hb => by have e2 : w.heap.size + 1 + 1 = r := Option.some.inj e; omega
  have j0 := (own_cell hgrow (p := ⟨w.heap.size, 0, none⟩) (by rw [hsz]; simp) (fun r e => hne r e _ (by simp))).trans k0
  have j1 := (own_cell hgrow (p := ⟨w.heap.size + 1, 0, none⟩) (by rw [hsz]; simp) (fun r e => hne r e _ (by simp))).trans k1
  have j2 := (own_cell hgrow (p := ⟨w.heap.size + 1, 1, none⟩) (by rw [hsz]; simp) (fun r e => hne r e _ (by simp))).trans k2
  have j3 := (own_frozen hgrow (p := ⟨w.heap.size + 1, 0, none⟩) (by rw [hsz]; simp) (fun r e => hne r e _ (by simp))).trans k3
  have j4 := (own_frozen hgrow (p := ⟨w.heap.size + 1, 1, none⟩) (by rw [hsz]; simp) (fun r e => hne r e _ (by simp))).trans k4
  have hB2 : Below w.heap.size w w2 := HB1.out.grown hgrow (by rw [hsz]; omega) (fun r e => by have e2 : w.heap.size + 1 + 1 = r := Option.some.inj e; omega)
  have hs2 := hgrow.size
  rw [hsz] at hs2
  have HO := Lib.hid hown'
  have hx0 : w2.cell? ⟨g, p * 2, none⟩ = some (.int .u64 (U y1)) := (hown'.cellAt (p * 2) (by omega)).trans (by rw [Nat.mul_comm]; exact HG.out.1)
  have hx1 : w2.cell? ⟨g, p * 2 + 1, none⟩ = some (.int .u64 (U y2)) := (hown'.cellAt (p * 2 + 1) (by omega)).trans (by rw [Nat.mul_comm]; exact HG.out.2)
  have hgw : w.heap.size + 2 ≤ g := hg.1
  have hg2 := hg.2
  clear hgrow hown' hne k0 k1 k2 k3 k4 hsz hg
  go_wp2_with fail
  refine (r_With y1 y2 s hs.1 hs.2 _).mono ?_
  rintro e w3 ⟨rfl, hb3⟩
  have z3w0 : w.heap.size < w3.heap.size := (by have := hb3.size; (try simp at this); omega)
  have q3w0 := fun o => hb3.cell (p := ⟨w.heap.size, o, none⟩) (by first | omega | (simp; done) | (simp; omega))
  have r3w0 := fun o => hb3.frozen (p := ⟨w.heap.size, o, none⟩) (by first | omega | (simp; done) | (simp; omega))
  have z3w1 : w.heap.size + 1 < w3.heap.size := (by have := hb3.size; (try simp at this); omega)
  have q3w1 := fun o => hb3.cell (p := ⟨w.heap.size + 1, o, none⟩) (by first | omega | (simp; done) | (simp; omega))
  have r3w1 := fun o => hb3.frozen (p := ⟨w.heap.size + 1, o, none⟩) (by first | omega | (simp; done) | (simp; omega))
  have h30 := (hb3.cell (p := ⟨w.heap.size, 0, none⟩) (by simp; omega)).trans j0
  have h31 := (hb3.cell (p := ⟨w.heap.size + 1, 0, none⟩) (by simp; omega)).trans j1
  have h32 := (hb3.cell (p := ⟨w.heap.size + 1, 1, none⟩) (by simp; omega)).trans j2
  have h33 := (hb3.frozen (p := ⟨w.heap.size + 1, 0, none⟩) (by simp; omega)).trans j3
  have h34 := (hb3.frozen (p := ⟨w.heap.size + 1, 1, none⟩) (by simp; omega)).trans j4
  have HO3 := Lib.hid (owns_below HO.out hb3)
  have hx2 : w3.cell? ⟨g, p * 2, none⟩ = some (.int .u64 (U y1)) := (HO3.out.cellAt (p * 2) (by omega)).trans (by rw [Nat.mul_comm]; exact HG.out.1)
  have hx3 : w3.cell? ⟨g, p * 2 + 1, none⟩ = some (.int .u64 (U y2)) := (HO3.out.cellAt (p * 2 + 1) (by omega)).trans (by rw [Nat.mul_comm]; exact HG.out.2)
  have hfr := fun j => HO3.out.frozenAt j
  have HW := Lib.hid ((HO3.out.stored (p * 2) (.int .u64 (U (y1 ||| bit0 s)))).1.stored (p * 2 + 1) (.int .u64 (U (y2 ||| bit1 s)))).1
  rw [HS.out] at HW
  clear j0 j1 j2 j3 j4 hx0 hx1 q3w0 q3w1 r3w0 r3w1
  go_wp2
  refine bodyPost_ret (v := .agg #[.slice a cs.length cap, .slice (some ⟨g, 0, none⟩) ms.length cp]) (by simp only [results, Try.results34]; go_simp) rfl ⟨⟨_, rfl, own_weaken (own_setCell (own_setCell HW.out (by omega) _) (by omega) _) (by omega)⟩, ?_⟩
  ((have shb3 := hb3.size); (try simp at shb3); (have shB2 := hB2.size); (try simp at shB2); (repeat' (first | (with_reducible exact Below.refl _ _) | (with_reducible refine Below.setCell ?_ ?_ _) | (with_reducible refine Below.alloc ?_ ?_ _) | (with_reducible refine Below.drew ?_) | (with_reducible refine Below.trans ?_ (Below.mono hb3 ?_)) | (with_reducible refine Below.trans ?_ (Below.mono hB2 ?_)) | go_size)))
end Go.Proofs.Ytlfmffjlmhpcdaa
