/- The contract of quiverlaw13.ListsAgree. -/
import Derived.Test.YtlfmffjlmhpcdaaAgreeLaw
import Derived.Test.YtlfmffjlmhpcdaaWhereZ
import Derived.Deep.CutBlock
namespace Go.Proofs.Ytlfmffjlmhpcdaa
open Go.RowKit
set_option maxRecDepth 100000
attribute [local irreducible] Der

/-- The boxes of ListsAgree: the arena, what is put, and the lists. -/
structure BoxE (w : World) (B b7 : Nat) (AX : Value) (id b e : Int) (VV : Value) (q : Int) (L0 L1 : Value) : Prop where
  a0c : w.cell? ⟨B, 0, none⟩ = some AX
  p0c : w.cell? ⟨B + 1, 0, none⟩ = some (.int .u64 id)
  p1c : w.cell? ⟨B + 1, 1, none⟩ = some (.int .u64 b)
  p2c : w.cell? ⟨B + 1, 2, none⟩ = some (.int .u64 e)
  p3c : w.cell? ⟨B + 1, 3, none⟩ = some VV
  p4c : w.cell? ⟨B + 1, 4, none⟩ = some (.int .i64 q)
  l0c : w.cell? ⟨b7, 0, none⟩ = some L0
  l1c : w.cell? ⟨b7, 1, none⟩ = some L1
  zB : B < w.heap.size
  zB1 : B + 1 < w.heap.size
  z7 : b7 < w.heap.size
theorem BoxE.go {w w' : World} {n B b7 : Nat} {AX : Value} {id b e : Int} {VV : Value} {q : Int} {L0 L1 : Value} (h : BoxE w B b7 AX id b e VV q L0 L1) (h1 : B + 1 < n) (h7 : b7 < n) (hb : Below n w w') : BoxE w' B b7 AX id b e VV q L0 L1 :=
  ⟨(hb.cell (p := ⟨B, 0, none⟩) (by simp; omega)).trans h.a0c,
   (hb.cell (p := ⟨B + 1, 0, none⟩) (by simp; omega)).trans h.p0c,
   (hb.cell (p := ⟨B + 1, 1, none⟩) (by simp; omega)).trans h.p1c,
   (hb.cell (p := ⟨B + 1, 2, none⟩) (by simp; omega)).trans h.p2c,
   (hb.cell (p := ⟨B + 1, 3, none⟩) (by simp; omega)).trans h.p3c,
   (hb.cell (p := ⟨B + 1, 4, none⟩) (by simp; omega)).trans h.p4c,
   (hb.cell (p := ⟨b7, 0, none⟩) (by simp; omega)).trans h.l0c,
   (hb.cell (p := ⟨b7, 1, none⟩) (by simp; omega)).trans h.l1c,
   Nat.lt_of_lt_of_le h.zB hb.size, Nat.lt_of_lt_of_le h.zB1 hb.size, Nat.lt_of_lt_of_le h.z7 hb.size⟩
theorem overV_leA {cs : List PV} (h : overV cs = false) : cs.length ≤ 20 := by
  unfold overV at h
  simp only [Bool.or_eq_false_iff, decide_eq_false_iff_not] at h
  omega
theorem overA_leA {cells : List Cel} (h : overA cells = false) : cells.length ≤ 120 := by
  unfold overA at h
  simp only [Bool.or_eq_false_iff, decide_eq_false_iff_not] at h
  omega
theorem adM {cs : List PV} {ms : List M} {s : Int} {vec : List Int} {p : PV} (h : p ∈ addC cs ms s vec) : p ∈ cs := by
  unfold addC at h; split at h
  · exact h
  · cases h
theorem rmM {cs : List PV} {ms : List M} {l : List Int} {p : PV} (h : p ∈ remC cs ms l) : p ∈ cs := by
  unfold remC at h; split at h
  · exact h
  · cases h
theorem withM_len {cs : List PV} {ms : List M} {s : Int} {vec : List Int} (h : ms.length ≤ 1000) : (addM cs ms s vec).length ≤ 1000 := by
  unfold addM; split
  · rw [withL_length]; exact h
  · simp
theorem addC_len {cs : List PV} {ms : List M} {s : Int} {vec : List Int} (h : cs.length ≤ 1000) : (addC cs ms s vec).length ≤ 1000 := by
  unfold addC; split
  · exact h
  · simp
theorem remC_len {cs : List PV} {ms : List M} {l : List Int} (h : cs.length ≤ 1000) : (remC cs ms l).length ≤ 1000 := by
  unfold remC; split
  · exact h
  · simp
theorem buildC_len (cells : List Cel) (cs : List PV) : (buildC cells cs).length ≤ cs.length := by
  unfold buildC; split
  · exact Nat.le_refl _
  · simp
theorem buildMs_len (cells : List Cel) (cs : List PV) : (buildMs cells cs).length ≤ cs.length := by
  unfold buildMs; split
  · rw [buildM_length]; exact Nat.le_refl _
  · simp
/-- Cells of which one is laid anew. -/
theorem CelsV.set_owns {w0 w : World} {B : Nat} {v : Value} {cells : List Cel} {k : Nat} {c : Cel} (hx : ∀ x ∈ cells, VecV w x.sv x.vec) (hc : VecV w c.sv c.vec) (h : w.ownsRow B 60 5 v cells.length ((cells.set k c).flatMap Cel.cells)) : CelsV w v (cells.set k c) := by
  have e : cells.length = (cells.set k c).length := by rw [List.length_set]
  rw [e] at h
  refine ⟨⟨Sl.of_owns h, NilA.of_owns h⟩, fun x hx' => ?_⟩
  rcases List.mem_or_eq_of_mem_set hx' with h1 | rfl
  · exact hx x h1
  · exact hc
set_option maxHeartbeats 32000000 in
theorem f_ListsAgree (vx vl vv : Value) (cells : List Cel) (cs : List PV) (id b e : Int) (vec : List Int) (q : Int) (w : World) (hx : CelsV w vx cells) (hc : VecsV w vl cs) (hv : VecV w vv vec) :
    Calls Try.prog 8 #[.agg #[vx], vl, .agg #[.int .u64 id, .int .u64 b, .int .u64 e, vv, .int .i64 q]] w fun x w' => x = .returned (.bool true) ∧ Below w.heap.size w w' := by
  obtain ⟨a, cap, rfl, -⟩ := hx.open
  obtain ⟨al, cpl, rfl, -⟩ := hc.open
  obtain ⟨va, vcp, rfl, -⟩ := hv.form
  have HX := Lib.hid (fun W (hb : Below w.heap.size w W) => hx.grown hb)
  have HC := Lib.hid (fun W (hb : Below w.heap.size w W) => hc.grown hb)
  have HV := Lib.hid (fun W (hb : Below w.heap.size w W) => hv.grown hb)
  clear hx hc hv
  go_enter Try.func8, Try.ntmps8
  go_wp2_with fail
  refine (l13_wakes _).mono ?_
  rintro x w1 ⟨rfl, hb1⟩
  have z1w0 : w.heap.size < w1.heap.size := (by have := hb1.size; (try simp at this); omega)
  have q1w0 := fun o => hb1.cell (p := ⟨w.heap.size, o, none⟩) (by first | omega | (simp; done) | (simp; omega))
  have r1w0 := fun o => hb1.frozen (p := ⟨w.heap.size, o, none⟩) (by first | omega | (simp; done) | (simp; omega))
  have z1w1 : w.heap.size + 1 < w1.heap.size := (by have := hb1.size; (try simp at this); omega)
  have q1w1 := fun o => hb1.cell (p := ⟨w.heap.size + 1, o, none⟩) (by first | omega | (simp; done) | (simp; omega))
  have r1w1 := fun o => hb1.frozen (p := ⟨w.heap.size + 1, o, none⟩) (by first | omega | (simp; done) | (simp; omega))
  have hB1 : Below w.heap.size w w1 := by ((have shb1 := hb1.size); (try simp at shb1); (repeat' (first | (with_reducible exact Below.refl _ _) | (with_reducible refine Below.setCell ?_ ?_ _) | (with_reducible refine Below.alloc ?_ ?_ _) | (with_reducible refine Below.drew ?_) | (with_reducible refine Below.trans ?_ (Below.mono hb1 ?_)) | go_size)))
  have a0_1 : w1.cell? ⟨w.heap.size, 0, none⟩ = some (.slice a cells.length cap) := by rw [q1w0]; go_simp
  have p0_1 : w1.cell? ⟨w.heap.size + 1, 0, none⟩ = some (.int .u64 id) := by rw [q1w1]; go_simp
  have p1_1 : w1.cell? ⟨w.heap.size + 1, 1, none⟩ = some (.int .u64 b) := by rw [q1w1]; go_simp
  have p2_1 : w1.cell? ⟨w.heap.size + 1, 2, none⟩ = some (.int .u64 e) := by rw [q1w1]; go_simp
  have p3_1 : w1.cell? ⟨w.heap.size + 1, 3, none⟩ = some (.slice va vec.length vcp) := by rw [q1w1]; go_simp
  have p4_1 : w1.cell? ⟨w.heap.size + 1, 4, none⟩ = some (.int .i64 q) := by rw [q1w1]; go_simp
  clear q1w0 q1w1 r1w0 r1w1 hb1
  have zz0_1 : w.heap.size < w1.heap.size := z1w0
  have zz1_1 : w.heap.size + 1 < w1.heap.size := z1w1
  cases ho2 : overA cells
  case true =>
    go_wp2_with fail
    refine (l13_overArena _ cells _ (HX.out _ (by ((have shB1 := hB1.size); (try simp at shB1); (repeat' (first | (with_reducible exact Below.refl _ _) | (with_reducible refine Below.setCell ?_ ?_ _) | (with_reducible refine Below.alloc ?_ ?_ _) | (with_reducible refine Below.drew ?_) | (with_reducible refine Below.trans ?_ (Below.mono hB1 ?_)) | go_size)))))).mono ?_
    rintro x w2 ⟨rfl, hb2⟩
    rw [ho2]
    go_wp2
    go_ret
    exact ⟨rfl, by ((have shb2 := hb2.size); (try simp at shb2); (have shB1 := hB1.size); (try simp at shB1); (repeat' (first | (with_reducible exact Below.refl _ _) | (with_reducible refine Below.setCell ?_ ?_ _) | (with_reducible refine Below.alloc ?_ ?_ _) | (with_reducible refine Below.drew ?_) | (with_reducible refine Below.trans ?_ (Below.mono hb2 ?_)) | (with_reducible refine Below.trans ?_ (Below.mono hB1 ?_)) | go_size)))⟩
  go_wp2_with fail
  refine (l13_overArena _ cells _ (HX.out _ (by ((have shB1 := hB1.size); (try simp at shB1); (repeat' (first | (with_reducible exact Below.refl _ _) | (with_reducible refine Below.setCell ?_ ?_ _) | (with_reducible refine Below.alloc ?_ ?_ _) | (with_reducible refine Below.drew ?_) | (with_reducible refine Below.trans ?_ (Below.mono hB1 ?_)) | go_size)))))).mono ?_
  rintro x w2 ⟨rfl, hb2⟩
  rw [ho2]
  have hB2 : Below w.heap.size w w2 := by ((have shb2 := hb2.size); (try simp at shb2); (have shB1 := hB1.size); (try simp at shB1); (repeat' (first | (with_reducible exact Below.refl _ _) | (with_reducible refine Below.setCell ?_ ?_ _) | (with_reducible refine Below.alloc ?_ ?_ _) | (with_reducible refine Below.drew ?_) | (with_reducible refine Below.trans ?_ (Below.mono hb2 ?_)) | (with_reducible refine Below.trans ?_ (Below.mono hB1 ?_)) | go_size)))
  have a0_2 := (hb2.cell (p := ⟨w.heap.size, 0, none⟩) (by first | omega | (simp; done) | (simp; omega))).trans a0_1
  have p0_2 := (hb2.cell (p := ⟨w.heap.size + 1, 0, none⟩) (by first | omega | (simp; done) | (simp; omega))).trans p0_1
  have p1_2 := (hb2.cell (p := ⟨w.heap.size + 1, 1, none⟩) (by first | omega | (simp; done) | (simp; omega))).trans p1_1
  have p2_2 := (hb2.cell (p := ⟨w.heap.size + 1, 2, none⟩) (by first | omega | (simp; done) | (simp; omega))).trans p2_1
  have p3_2 := (hb2.cell (p := ⟨w.heap.size + 1, 3, none⟩) (by first | omega | (simp; done) | (simp; omega))).trans p3_1
  have p4_2 := (hb2.cell (p := ⟨w.heap.size + 1, 4, none⟩) (by first | omega | (simp; done) | (simp; omega))).trans p4_1
  have zz0_2 : w.heap.size < w2.heap.size := (by have := hb2.size; (try simp at this); omega)
  have zz1_2 : w.heap.size + 1 < w2.heap.size := (by have := hb2.size; (try simp at this); omega)
  clear a0_1 p0_1 p1_1 p2_1 p3_1 p4_1
  cases ho3 : overV cs
  case true =>
    go_wp2_with fail
    refine (l13_overVecs _ cs _ (HC.out _ (by ((have shB2 := hB2.size); (try simp at shB2); (repeat' (first | (with_reducible exact Below.refl _ _) | (with_reducible refine Below.setCell ?_ ?_ _) | (with_reducible refine Below.alloc ?_ ?_ _) | (with_reducible refine Below.drew ?_) | (with_reducible refine Below.trans ?_ (Below.mono hB2 ?_)) | go_size)))))).mono ?_
    rintro x w3 ⟨rfl, hb3⟩
    rw [ho3]
    go_wp2
    go_ret
    exact ⟨rfl, by ((have shb3 := hb3.size); (try simp at shb3); (have shB2 := hB2.size); (try simp at shB2); (repeat' (first | (with_reducible exact Below.refl _ _) | (with_reducible refine Below.setCell ?_ ?_ _) | (with_reducible refine Below.alloc ?_ ?_ _) | (with_reducible refine Below.drew ?_) | (with_reducible refine Below.trans ?_ (Below.mono hb3 ?_)) | (with_reducible refine Below.trans ?_ (Below.mono hB2 ?_)) | go_size)))⟩
  go_wp2_with fail
  refine (l13_overVecs _ cs _ (HC.out _ (by ((have shB2 := hB2.size); (try simp at shB2); (repeat' (first | (with_reducible exact Below.refl _ _) | (with_reducible refine Below.setCell ?_ ?_ _) | (with_reducible refine Below.alloc ?_ ?_ _) | (with_reducible refine Below.drew ?_) | (with_reducible refine Below.trans ?_ (Below.mono hB2 ?_)) | go_size)))))).mono ?_
  rintro x w3 ⟨rfl, hb3⟩
  rw [ho3]
  have hB3 : Below w.heap.size w w3 := by ((have shb3 := hb3.size); (try simp at shb3); (have shB2 := hB2.size); (try simp at shB2); (repeat' (first | (with_reducible exact Below.refl _ _) | (with_reducible refine Below.setCell ?_ ?_ _) | (with_reducible refine Below.alloc ?_ ?_ _) | (with_reducible refine Below.drew ?_) | (with_reducible refine Below.trans ?_ (Below.mono hb3 ?_)) | (with_reducible refine Below.trans ?_ (Below.mono hB2 ?_)) | go_size)))
  have a0_3 := (hb3.cell (p := ⟨w.heap.size, 0, none⟩) (by first | omega | (simp; done) | (simp; omega))).trans a0_2
  have p0_3 := (hb3.cell (p := ⟨w.heap.size + 1, 0, none⟩) (by first | omega | (simp; done) | (simp; omega))).trans p0_2
  have p1_3 := (hb3.cell (p := ⟨w.heap.size + 1, 1, none⟩) (by first | omega | (simp; done) | (simp; omega))).trans p1_2
  have p2_3 := (hb3.cell (p := ⟨w.heap.size + 1, 2, none⟩) (by first | omega | (simp; done) | (simp; omega))).trans p2_2
  have p3_3 := (hb3.cell (p := ⟨w.heap.size + 1, 3, none⟩) (by first | omega | (simp; done) | (simp; omega))).trans p3_2
  have p4_3 := (hb3.cell (p := ⟨w.heap.size + 1, 4, none⟩) (by first | omega | (simp; done) | (simp; omega))).trans p4_2
  have zz0_3 : w.heap.size < w3.heap.size := (by have := hb3.size; (try simp at this); omega)
  have zz1_3 : w.heap.size + 1 < w3.heap.size := (by have := hb3.size; (try simp at this); omega)
  clear a0_2 p0_2 p1_2 p2_2 p3_2 p4_2
  have hcl := overV_leA ho3
  have hal := overA_leA ho2
  clear ho2 ho3
  by_cases hv50 : 50 < vec.length
  · go_wp2
    go_ret
    exact ⟨rfl, by ((have shB3 := hB3.size); (try simp at shB3); (repeat' (first | (with_reducible exact Below.refl _ _) | (with_reducible refine Below.setCell ?_ ?_ _) | (with_reducible refine Below.alloc ?_ ?_ _) | (with_reducible refine Below.drew ?_) | (with_reducible refine Below.trans ?_ (Below.mono hB3 ?_)) | go_size)))⟩
  go_wp2_with fail
  refine (f_build _ _ cells cs (by omega) _ (HX.out _ (by ((have shB3 := hB3.size); (try simp at shB3); (repeat' (first | (with_reducible exact Below.refl _ _) | (with_reducible refine Below.setCell ?_ ?_ _) | (with_reducible refine Below.alloc ?_ ?_ _) | (with_reducible refine Below.drew ?_) | (with_reducible refine Below.trans ?_ (Below.mono hB3 ?_)) | go_size))))) (HC.out _ (by ((have shB3 := hB3.size); (try simp at shB3); (repeat' (first | (with_reducible exact Below.refl _ _) | (with_reducible refine Below.setCell ?_ ?_ _) | (with_reducible refine Below.alloc ?_ ?_ _) | (with_reducible refine Below.drew ?_) | (with_reducible refine Below.trans ?_ (Below.mono hB3 ?_)) | go_size)))))).mono ?_
  rintro x w4 ⟨⟨y, rfl, hy⟩, hb4⟩
  have hB4 : Below w.heap.size w w4 := by ((have shb4 := hb4.size); (try simp at shb4); (have shB3 := hB3.size); (try simp at shB3); (repeat' (first | (with_reducible exact Below.refl _ _) | (with_reducible refine Below.setCell ?_ ?_ _) | (with_reducible refine Below.alloc ?_ ?_ _) | (with_reducible refine Below.drew ?_) | (with_reducible refine Below.trans ?_ (Below.mono hb4 ?_)) | (with_reducible refine Below.trans ?_ (Below.mono hB3 ?_)) | go_size)))
  have a0_4 := (hb4.cell (p := ⟨w.heap.size, 0, none⟩) (by first | omega | (simp; done) | (simp; omega))).trans a0_3
  have p0_4 := (hb4.cell (p := ⟨w.heap.size + 1, 0, none⟩) (by first | omega | (simp; done) | (simp; omega))).trans p0_3
  have p1_4 := (hb4.cell (p := ⟨w.heap.size + 1, 1, none⟩) (by first | omega | (simp; done) | (simp; omega))).trans p1_3
  have p2_4 := (hb4.cell (p := ⟨w.heap.size + 1, 2, none⟩) (by first | omega | (simp; done) | (simp; omega))).trans p2_3
  have p3_4 := (hb4.cell (p := ⟨w.heap.size + 1, 3, none⟩) (by first | omega | (simp; done) | (simp; omega))).trans p3_3
  have p4_4 := (hb4.cell (p := ⟨w.heap.size + 1, 4, none⟩) (by first | omega | (simp; done) | (simp; omega))).trans p4_3
  have zz0_4 : w.heap.size < w4.heap.size := (by have := hb4.size; (try simp at this); omega)
  have zz1_4 : w.heap.size + 1 < w4.heap.size := (by have := hb4.size; (try simp at this); omega)
  clear a0_3 p0_3 p1_3 p2_3 p3_3 p4_3
  have HBmem := Lib.hid (fun p (hp : p ∈ buildC cells cs) => (HC.out w4 hB4).2 p (buildC_mem hp))
  obtain ⟨xa, xc, ya, yc, rfl⟩ := hy.form
  obtain ⟨v1, v2, ev, hz1, hz2, -⟩ := hy.toV HBmem.out
  simp only [Value.agg.injEq, Array.mk.injEq, List.cons.injEq, and_true] at ev
  obtain ⟨rfl, rfl⟩ := ev
  have HL1 := Lib.hid (fun W (hb : Below w4.heap.size w4 W) => hz1.grown hb)
  have HL2 := Lib.hid (fun W (hb : Below w4.heap.size w4 W) => hz2.grown hb)
  clear hy hz1 hz2 HBmem hb2 hb3 hv50
  by_cases hE0 : buildE cells cs = 0
  case neg =>
    have HB0 := Lib.hid (build_empty (.inl hE0))
    rw [HB0.out]
    obtain ⟨E, hEE⟩ : ∃ E, buildE cells cs = E := ⟨_, rfl⟩
    rw [hEE] at hE0 ⊢
    have hz : (E != 0) = true := bne_iff_ne.2 hE0
    clear HL1 HL2
    go_wp2
    go_ret
    exact ⟨rfl, by ((have shB4 := hB4.size); (try simp at shB4); (repeat' (first | (with_reducible exact Below.refl _ _) | (with_reducible refine Below.setCell ?_ ?_ _) | (with_reducible refine Below.alloc ?_ ?_ _) | (with_reducible refine Below.drew ?_) | (with_reducible refine Below.trans ?_ (Below.mono hB4 ?_)) | go_size)))⟩
  rw [hE0]
  have HPL := Lib.hid (fun (k : Nat) hk hfree (hvo : verOK b e vec = true) hdim sv => put_law hE0 (k := k) hk hfree hvo hdim id sv)
  have HDL := Lib.hid (fun (k : Nat) hk => drop_law hE0 (k := k) hk)
  have HBA := Lib.hid (build_agrees hE0)
  have hcl1 := buildC_len cells cs
  have hcl2 := buildMs_len cells cs
  clear hE0
  obtain ⟨lc, hlc⟩ : ∃ lc, buildC cells cs = lc := ⟨_, rfl⟩
  obtain ⟨lm, hlm⟩ : ∃ lm, buildMs cells cs = lm := ⟨_, rfl⟩
  rw [hlc] at HL1 HPL HDL HBA hcl1 ⊢
  rw [hlm] at HL2 HPL HDL HBA hcl2 ⊢
  clear hlc hlm
  go_wp2_with fail
  refine (f_Agrees _ _ _ lc lm cells (by omega) _ (HL1.out _ (by ((repeat' (first | (with_reducible exact Below.refl _ _) | (with_reducible refine Below.setCell ?_ ?_ _) | (with_reducible refine Below.alloc ?_ ?_ _) | (with_reducible refine Below.drew ?_) | (with_reducible refine Below.trans ?_ (Below.mono (by assumption) ?_)) | go_size))))) (HL2.out _ (by ((repeat' (first | (with_reducible exact Below.refl _ _) | (with_reducible refine Below.setCell ?_ ?_ _) | (with_reducible refine Below.alloc ?_ ?_ _) | (with_reducible refine Below.drew ?_) | (with_reducible refine Below.trans ?_ (Below.mono (by assumption) ?_)) | go_size))))) (HX.out _ (by ((have shB4 := hB4.size); (try simp at shB4); (repeat' (first | (with_reducible exact Below.refl _ _) | (with_reducible refine Below.setCell ?_ ?_ _) | (with_reducible refine Below.alloc ?_ ?_ _) | (with_reducible refine Below.drew ?_) | (with_reducible refine Below.trans ?_ (Below.mono hB4 ?_)) | go_size)))))).mono ?_
  rintro x w5 ⟨rfl, hb5⟩
  rw [HBA.out]
  have hB5 : Below w.heap.size w w5 := by ((have shb5 := hb5.size); (try simp at shb5); (have shB4 := hB4.size); (try simp at shB4); (repeat' (first | (with_reducible exact Below.refl _ _) | (with_reducible refine Below.setCell ?_ ?_ _) | (with_reducible refine Below.alloc ?_ ?_ _) | (with_reducible refine Below.drew ?_) | (with_reducible refine Below.trans ?_ (Below.mono hb5 ?_)) | (with_reducible refine Below.trans ?_ (Below.mono hB4 ?_)) | go_size)))
  have h45 : Below w4.heap.size w4 w5 := by ((have shb5 := hb5.size); (try simp at shb5); (repeat' (first | (with_reducible exact Below.refl _ _) | (with_reducible refine Below.setCell ?_ ?_ _) | (with_reducible refine Below.alloc ?_ ?_ _) | (with_reducible refine Below.drew ?_) | (with_reducible refine Below.trans ?_ (Below.mono hb5 ?_)) | go_size)))
  have hs5 := hb5.size
  simp at hs5
  have BE5 := Lib.hid (show BoxE w5 w.heap.size w4.heap.size (.slice a cells.length cap) id b e (.slice va vec.length vcp) q (.slice xa lc.length xc) (.slice ya lm.length yc) from
    ⟨(h45.cell (p := ⟨w.heap.size, 0, none⟩) (by simp; omega)).trans a0_4, (h45.cell (p := ⟨w.heap.size + 1, 0, none⟩) (by simp; omega)).trans p0_4, (h45.cell (p := ⟨w.heap.size + 1, 1, none⟩) (by simp; omega)).trans p1_4, (h45.cell (p := ⟨w.heap.size + 1, 2, none⟩) (by simp; omega)).trans p2_4, (h45.cell (p := ⟨w.heap.size + 1, 3, none⟩) (by simp; omega)).trans p3_4, (h45.cell (p := ⟨w.heap.size + 1, 4, none⟩) (by simp; omega)).trans p4_4,
     (hb5.cell (p := ⟨w4.heap.size, 0, none⟩) (by simp)).trans (by go_simp), (hb5.cell (p := ⟨w4.heap.size, 1, none⟩) (by simp)).trans (by go_simp), by omega, by omega, by omega⟩)
  replace HL1 := Lib.hid (fun W (hb : Below w5.heap.size w5 W) => HL1.out W (h45.trans (hb.mono h45.size)))
  replace HL2 := Lib.hid (fun W (hb : Below w5.heap.size w5 W) => HL2.out W (h45.trans (hb.mono h45.size)))
  have hz47 : w4.heap.size < w5.heap.size := by omega
  have hz41 : w.heap.size + 1 < w4.heap.size := zz1_4
  clear a0_4 p0_4 p1_4 p2_4 p3_4 p4_4 hb5 hb4 h45 hs5 zz0_1 zz1_1 zz0_2 zz1_2 zz0_3 zz1_3 zz0_4 zz1_4 z1w0 z1w1 HBA
  obtain ⟨a0c, p0c, p1c, p2c, p3c, p4c, l0c, l1c, zB, zB1, z7⟩ := BE5.out
  go_upto_region 10 with fail
  go_cut [8, 9, 10] from 47 to 56 (fun x8 x9 x10 wc => ∃ (E : Int) (B9 : Nat), x8 = .int .i64 E ∧ x9 = .pointer (some ⟨B9, 0, none⟩) ∧ Below w5.heap.size w5 wc ∧
    ((E ≠ 0 ∧ ∃ z : Int, x10 = .int .i64 z) ∨ (E = 0 ∧ ∃ (k : Nat) (v sv : Value), x10 = .int .i64 k ∧ k < cells.length ∧ idxF (fun c : Cel => !c.used) cells = k ∧ verOK b e vec = true ∧ wc.cell? ⟨B9, 0, none⟩ = some v ∧ CelsV wc v (cells.set k ⟨true, id, b, e, sv, vec⟩))))
  case first =>
    go_wp2_with fail
    refine (f_Put _ _ cells id b e vec (by omega) _ (HX.out _ hB5) (HV.out _ hB5)).mono ?_
    rintro x w6 ⟨hpost, hb6⟩
    have hs6 := hb6.size
    rcases hpost with ⟨hne, rfl⟩ | ⟨hE0, k, v, sv, hk, hidx, rfl, hown, hsv⟩
    · obtain ⟨E, hE⟩ : ∃ E, putE cells b e vec = E := ⟨_, rfl⟩
      rw [hE] at hne ⊢
      clear hE
      go_wp2
      go_meet
      case rel => exact ⟨E, w6.heap.size, rfl, rfl, by ((have shb6 := hb6.size); (try simp at shb6); (repeat' (first | (with_reducible exact Below.refl _ _) | (with_reducible refine Below.setCell ?_ ?_ _) | (with_reducible refine Below.alloc ?_ ?_ _) | (with_reducible refine Below.drew ?_) | (with_reducible refine Below.trans ?_ (Below.mono hb6 ?_)) | go_size))), .inl ⟨hne, 0, rfl⟩⟩
    · have hvo : verOK b e vec = true := by
        cases h : verOK b e vec
        · unfold putE at hE0
          rw [h] at hE0
          split at hE0
          · omega
          · simp at hE0
        · rfl
      have hB6 : Below w.heap.size w w6 := by ((have shb6 := hb6.size); (try simp at shb6); (have shB5 := hB5.size); (try simp at shB5); (repeat' (first | (with_reducible exact Below.refl _ _) | (with_reducible refine Below.setCell ?_ ?_ _) | (with_reducible refine Below.alloc ?_ ?_ _) | (with_reducible refine Below.drew ?_) | (with_reducible refine Below.trans ?_ (Below.mono hb6 ?_)) | (with_reducible refine Below.trans ?_ (Below.mono hB5 ?_)) | go_size)))
      have HCV := Lib.hid (CelsV.set_owns (w0 := w) (fun x hx => (HX.out _ hB6).2 x hx) (c := ⟨true, id, b, e, sv, vec⟩) hsv hown)
      obtain ⟨v1, v2, rfl⟩ := own_slice hown
      have HI := Lib.hid hidx
      clear hown hsv hidx hE0
      go_wp2
      go_meet
      case rel => exact ⟨0, w6.heap.size, rfl, rfl, by ((have shb6 := hb6.size); (try simp at shb6); (repeat' (first | (with_reducible exact Below.refl _ _) | (with_reducible refine Below.setCell ?_ ?_ _) | (with_reducible refine Below.alloc ?_ ?_ _) | (with_reducible refine Below.drew ?_) | (with_reducible refine Below.trans ?_ (Below.mono hb6 ?_)) | go_size))), .inr ⟨rfl, k, _, sv, rfl, hk, HI.out, hvo, by go_simp, HCV.out.grown ((Below.refl _ _).alloc (Nat.le_refl _) _)⟩⟩
  case rest =>
    obtain ⟨E, B9, rfl, rfl, hbc, hpost⟩ := hcut
    obtain ⟨wk, hwk⟩ : ∃ wk, wk = wc := ⟨_, rfl⟩
    subst hwk
    have HPost := Lib.hid hpost
    have hBk : Below w.heap.size w wk := by ((have shbc := hbc.size); (try simp at shbc); (have shB5 := hB5.size); (try simp at shB5); (repeat' (first | (with_reducible exact Below.refl _ _) | (with_reducible refine Below.setCell ?_ ?_ _) | (with_reducible refine Below.alloc ?_ ?_ _) | (with_reducible refine Below.drew ?_) | (with_reducible refine Below.trans ?_ (Below.mono hbc ?_)) | (with_reducible refine Below.trans ?_ (Below.mono hB5 ?_)) | go_size)))
    have hsk := hbc.size
    have BEk := Lib.hid (BE5.out.go (n := w5.heap.size) (by omega) (by omega) hbc)
    clear hpost a0c p0c p1c p2c p3c p4c l0c l1c zB zB1 z7
    obtain ⟨a0c, p0c, p1c, p2c, p3c, p4c, l0c, l1c, zB, zB1, z7⟩ := BEk.out
    go_upto_region 11 with fail
    go_cut [74] from 57 to 74 (fun c wd => ((c = .bool true ∧ E = 0 ∧ (cs = [] ∨ vec.length = dim0 cs)) ∨ c = .bool false) ∧ Below wk.heap.size wk wd)
    case first =>
      rcases HPost.out with ⟨hne, z, rfl⟩ | ⟨rfl, k, v, sv, rfl, hk, hidx, hvo, hcell, hcv⟩
      · have hz : (E == 0) = false := beq_eq_false_iff_ne.2 hne
        clear HPost
        go_wp2
        refine wp_grow [] 18 (by kernel_rfl) (by kernel_rfl) (by rfl) (by rfl) ?_
        simp only [List.take_succ_cons, List.take_zero, List.drop_succ_cons, List.drop_zero]
        repeat (first
          | (apply Der.quiet; (rfl); (rfl); (intro w' hw' hctx; have hc' := bcell hw'; clear hctx; go_simp; first | exact rfl | exact ⟨rfl, rfl⟩); simp only [Act.put, List.setIfInBounds_toArray, List.set_cons_succ, List.set_cons_zero, Nat.reduceAdd])
          | (apply Der.skip; (rfl); simp only [Act.put, List.setIfInBounds_toArray, List.set_cons_succ, List.set_cons_zero, Nat.reduceAdd]))
        refine Der.nil (fun w10 hgw10 hctx => ?_)
        clear hctx
        have hb10 : Below _ _ w10 := hgw10
        clear hgw10
        go_wp2
        go_meet
        case rel => exact ⟨.inr rfl, by ((have shb10 := hb10.size); (try simp at shb10); (repeat' (first | (with_reducible exact Below.refl _ _) | (with_reducible refine Below.setCell ?_ ?_ _) | (with_reducible refine Below.alloc ?_ ?_ _) | (with_reducible refine Below.drew ?_) | (with_reducible refine Below.trans ?_ (Below.mono hb10 ?_)) | go_size)))⟩
      · clear HPost hcv hidx hvo hcell
        by_cases hn : cs = []
        case pos =>
          have hz : ((cs.length : Int) == 0) = true := beq_iff_eq.2 (by rw [hn]; rfl)
          have HN := Lib.hid hn
          clear hn
          go_wp2
          refine wp_grow [] 18 (by kernel_rfl) (by kernel_rfl) (by rfl) (by rfl) ?_
          simp only [List.take_succ_cons, List.take_zero, List.drop_succ_cons, List.drop_zero]
          repeat (first
            | (apply Der.quiet; (rfl); (rfl); (intro w' hw' hctx; have hc' := bcell hw'; have yw0 := fun o => hw'.cell (p := ⟨w.heap.size, o, none⟩) (by first | omega | (simp; done) | (simp; omega)); have yw1 := fun o => hw'.cell (p := ⟨w.heap.size + 1, o, none⟩) (by first | omega | (simp; done) | (simp; omega)); clear hctx; go_simp; first | exact rfl | exact ⟨rfl, rfl⟩); simp only [Act.put, List.setIfInBounds_toArray, List.set_cons_succ, List.set_cons_zero, Nat.reduceAdd])
            | (apply Der.skip; (rfl); simp only [Act.put, List.setIfInBounds_toArray, List.set_cons_succ, List.set_cons_zero, Nat.reduceAdd]))
          refine Der.nil (fun w10 hgw10 hctx => ?_)
          clear hctx
          have hb10 : Below _ _ w10 := hgw10
          clear hgw10
          go_wp2
          go_meet
          case rel => exact ⟨.inl ⟨rfl, (by first | rfl | trivial), .inl HN.out⟩, by ((have shb10 := hb10.size); (try simp at shb10); (repeat' (first | (with_reducible exact Below.refl _ _) | (with_reducible refine Below.setCell ?_ ?_ _) | (with_reducible refine Below.alloc ?_ ?_ _) | (with_reducible refine Below.drew ?_) | (with_reducible refine Below.trans ?_ (Below.mono hb10 ?_)) | go_size)))⟩
        have h0 : 0 < cs.length := List.length_pos_iff.2 hn
        have hz : ((cs.length : Int) == 0) = false := beq_eq_false_iff_ne.2 (by omega)
        obtain ⟨al', cpl', el, -, -, lc0⟩ := (HC.out _ hBk).open
        simp only [Value.slice.injEq, true_and] at el
        obtain ⟨rfl, rfl⟩ := el
        obtain ⟨gl, ol, rfl, hltl, gp⟩ := lc0 0 h0
        have hv0 := (HC.out _ hBk).2 cs[0] (List.getElem_mem h0)
        have hd0 : cs[0].2.length = dim0 cs := (dim0_get h0).symm
        clear lc0
        obtain ⟨va0, vc0, hv0e, -⟩ := hv0.form
        rw [hv0e, Nat.add_zero, hd0] at gp
        clear hv0 hv0e hd0 hn
        by_cases hd : vec.length = dim0 cs
        · have HD := Lib.hid hd
          generalize hDD : dim0 cs = d at *
          have HDD := Lib.hid hDD
          have hq : ((d : Int) == (vec.length : Int)) = true := beq_iff_eq.2 (by omega)
          clear hd hDD
          go_wp2
          refine wp_grow [] 18 (by kernel_rfl) (by kernel_rfl) (by rfl) (by rfl) ?_
          simp only [List.take_succ_cons, List.take_zero, List.drop_succ_cons, List.drop_zero]
          repeat (first
            | (apply Der.quiet; (rfl); (rfl); (intro w' hw' hctx; have hc' := bcell hw'; have yw0 := fun o => hw'.cell (p := ⟨w.heap.size, o, none⟩) (by first | omega | (simp; done) | (simp; omega)); have yw1 := fun o => hw'.cell (p := ⟨w.heap.size + 1, o, none⟩) (by first | omega | (simp; done) | (simp; omega)); have yl := hw'.cell (p := ⟨gl, ol, none⟩) (by first | omega | (simp; omega)); clear hctx; go_simp; first | exact rfl | exact ⟨rfl, rfl⟩); simp only [Act.put, List.setIfInBounds_toArray, List.set_cons_succ, List.set_cons_zero, Nat.reduceAdd])
            | (apply Der.skip; (rfl); simp only [Act.put, List.setIfInBounds_toArray, List.set_cons_succ, List.set_cons_zero, Nat.reduceAdd]))
          refine Der.nil (fun w10 hgw10 hctx => ?_)
          clear hctx
          have hb10 : Below _ _ w10 := hgw10
          clear hgw10
          go_wp2
          go_meet
          case rel => exact ⟨.inl ⟨rfl, (by first | rfl | trivial), .inr HD.out⟩, by ((have shb10 := hb10.size); (try simp at shb10); (repeat' (first | (with_reducible exact Below.refl _ _) | (with_reducible refine Below.setCell ?_ ?_ _) | (with_reducible refine Below.alloc ?_ ?_ _) | (with_reducible refine Below.drew ?_) | (with_reducible refine Below.trans ?_ (Below.mono hb10 ?_)) | go_size)))⟩
        · generalize dim0 cs = d at *
          have hq : ((d : Int) == (vec.length : Int)) = false := beq_eq_false_iff_ne.2 (by omega)
          clear hd
          go_wp2
          refine wp_grow [] 18 (by kernel_rfl) (by kernel_rfl) (by rfl) (by rfl) ?_
          simp only [List.take_succ_cons, List.take_zero, List.drop_succ_cons, List.drop_zero]
          repeat (first
            | (apply Der.quiet; (rfl); (rfl); (intro w' hw' hctx; have hc' := bcell hw'; have yw0 := fun o => hw'.cell (p := ⟨w.heap.size, o, none⟩) (by first | omega | (simp; done) | (simp; omega)); have yw1 := fun o => hw'.cell (p := ⟨w.heap.size + 1, o, none⟩) (by first | omega | (simp; done) | (simp; omega)); have yl := hw'.cell (p := ⟨gl, ol, none⟩) (by first | omega | (simp; omega)); clear hctx; go_simp; first | exact rfl | exact ⟨rfl, rfl⟩); simp only [Act.put, List.setIfInBounds_toArray, List.set_cons_succ, List.set_cons_zero, Nat.reduceAdd])
            | (apply Der.skip; (rfl); simp only [Act.put, List.setIfInBounds_toArray, List.set_cons_succ, List.set_cons_zero, Nat.reduceAdd]))
          refine Der.nil (fun w10 hgw10 hctx => ?_)
          clear hctx
          have hb10 : Below _ _ w10 := hgw10
          clear hgw10
          go_wp2
          go_meet
          case rel => exact ⟨.inr rfl, by ((have shb10 := hb10.size); (try simp at shb10); (repeat' (first | (with_reducible exact Below.refl _ _) | (with_reducible refine Below.setCell ?_ ?_ _) | (with_reducible refine Below.alloc ?_ ?_ _) | (with_reducible refine Below.drew ?_) | (with_reducible refine Below.trans ?_ (Below.mono hb10 ?_)) | go_size)))⟩
    case rest =>
      obtain ⟨hif, hbd⟩ := hcut
      obtain ⟨wl, hwl⟩ : ∃ wl, wl = wc := ⟨_, rfl⟩
      subst hwl
      have hBl : Below w.heap.size w wl := by ((have shbd := hbd.size); (try simp at shbd); (have shBk := hBk.size); (try simp at shBk); (repeat' (first | (with_reducible exact Below.refl _ _) | (with_reducible refine Below.setCell ?_ ?_ _) | (with_reducible refine Below.alloc ?_ ?_ _) | (with_reducible refine Below.drew ?_) | (with_reducible refine Below.trans ?_ (Below.mono hbd ?_)) | (with_reducible refine Below.trans ?_ (Below.mono hBk ?_)) | go_size)))
      have h5l : Below w5.heap.size w5 wl := by ((have shbd := hbd.size); (try simp at shbd); (have shbc := hbc.size); (try simp at shbc); (repeat' (first | (with_reducible exact Below.refl _ _) | (with_reducible refine Below.setCell ?_ ?_ _) | (with_reducible refine Below.alloc ?_ ?_ _) | (with_reducible refine Below.drew ?_) | (with_reducible refine Below.trans ?_ (Below.mono hbd ?_)) | (with_reducible refine Below.trans ?_ (Below.mono hbc ?_)) | go_size)))
      have hsl := hbd.size
      have BEl := Lib.hid (BEk.out.go (n := wk.heap.size) (by omega) (by omega) hbd)
      clear a0c p0c p1c p2c p3c p4c l0c l1c zB zB1 z7
      obtain ⟨a0c, p0c, p1c, p2c, p3c, p4c, l0c, l1c, zB, zB1, z7⟩ := BEl.out
      have HIf := Lib.hid hif
      clear hif
      go_upto_if 74 with fail
      go_cut [] from 75 to 106 (fun wx => Below wl.heap.size wl wx)
      case first =>
        rcases HIf.out with ⟨rfl, rfl, hdim⟩ | rfl
        · rcases HPost.out with ⟨hne, -⟩ | ⟨-, k, v, sv, rfl, hk, hidx, hvo, hcell, hcv⟩
          · exact absurd rfl hne
          have hfree : cells[k].used = false := by
            have h := idxF_at hk hidx
            simpa using h
          have hpl2 := HPL.out k hk hfree hvo hdim sv
          obtain ⟨cells', hcs'⟩ : ∃ cells', cells.set k ⟨true, id, b, e, sv, vec⟩ = cells' := ⟨_, rfl⟩
          rw [hcs'] at hcv hpl2
          have HPL2 := Lib.hid hpl2
          have HCV := Lib.hid (fun W (hb : Below wk.heap.size wk W) => hcv.grown hb)
          obtain ⟨v1, v2, rfl, -⟩ := hcv.open
          clear hcs' hpl2
          have h9 := World.block_lt_of_cell? wk _ hcell
          have n0_l := (hbd.cell (p := ⟨B9, 0, none⟩) h9).trans hcell
          have z9_l : B9 < wl.heap.size := by simp at h9; omega
          clear HPost HIf hcv hfree hidx hvo hdim hcell h9
          obtain ⟨hp1, hp2, hp3, hp4⟩ := HPL2.out
          go_wp2_with fail
          refine (f_Add _ _ _ lc lm (k : Int) vec (by omega) (by omega) _ (HL1.out _ h5l) (HL2.out _ h5l) (HV.out _ hBl)).mono ?_
          rintro x w11 ⟨⟨y, rfl, hy⟩, hb11⟩
          rw [hp1]
          have hB11 : Below w.heap.size w w11 := by ((have shb11 := hb11.size); (try simp at shb11); (have shBl := hBl.size); (try simp at shBl); (repeat' (first | (with_reducible exact Below.refl _ _) | (with_reducible refine Below.setCell ?_ ?_ _) | (with_reducible refine Below.alloc ?_ ?_ _) | (with_reducible refine Below.drew ?_) | (with_reducible refine Below.trans ?_ (Below.mono hb11 ?_)) | (with_reducible refine Below.trans ?_ (Below.mono hBl ?_)) | go_size)))
          have h5_11 : Below w5.heap.size w5 w11 := by ((have shb11 := hb11.size); (try simp at shb11); (have sh5l := h5l.size); (try simp at sh5l); (repeat' (first | (with_reducible exact Below.refl _ _) | (with_reducible refine Below.setCell ?_ ?_ _) | (with_reducible refine Below.alloc ?_ ?_ _) | (with_reducible refine Below.drew ?_) | (with_reducible refine Below.trans ?_ (Below.mono hb11 ?_)) | (with_reducible refine Below.trans ?_ (Below.mono h5l ?_)) | go_size)))
          have hk_11 : Below wk.heap.size wk w11 := by ((have shb11 := hb11.size); (try simp at shb11); (have shbd := hbd.size); (try simp at shbd); (repeat' (first | (with_reducible exact Below.refl _ _) | (with_reducible refine Below.setCell ?_ ?_ _) | (with_reducible refine Below.alloc ?_ ?_ _) | (with_reducible refine Below.drew ?_) | (with_reducible refine Below.trans ?_ (Below.mono hb11 ?_)) | (with_reducible refine Below.trans ?_ (Below.mono hbd ?_)) | go_size)))
          have hs11 := hb11.size
          have n0_11 := (hb11.cell (p := ⟨B9, 0, none⟩) z9_l).trans n0_l
          have BE11 := Lib.hid (BEl.out.go (n := wl.heap.size) (by omega) (by omega) hb11)
          obtain ⟨ma, mc, na, nc, rfl⟩ := hy.form
          obtain ⟨v3, v4, ev, hz1, hz2, -⟩ := hy.toV (fun p h => (HL1.out _ h5_11).2 p (adM h))
          simp only [Value.agg.injEq, Array.mk.injEq, List.cons.injEq, and_true] at ev
          obtain ⟨rfl, rfl⟩ := ev
          have hmc := addC_len (ms := lm) (s := (k : Int)) (vec := vec) (show lc.length ≤ 1000 by omega)
          have hmm := withM_len (cs := lc) (s := (k : Int)) (vec := vec) (show lm.length ≤ 1000 by omega)
          obtain ⟨mC, hmC⟩ : ∃ mC, addC lc lm (k : Int) vec = mC := ⟨_, rfl⟩
          obtain ⟨mM, hmM⟩ : ∃ mM, addM lc lm (k : Int) vec = mM := ⟨_, rfl⟩
          rw [hmC] at hz1 hp2 hp3 hp4 hmc ⊢
          rw [hmM] at hz2 hp2 hp3 hp4 hmm ⊢
          have HM1 := Lib.hid (fun W (hb : Below w11.heap.size w11 W) => hz1.grown hb)
          have HM2 := Lib.hid (fun W (hb : Below w11.heap.size w11 W) => hz2.grown hb)
          have HP2 := Lib.hid hp2
          have HP3 := Lib.hid hp3
          have HP4 := Lib.hid hp4
          clear hp1 hp2 hp3 hp4 hmC hmM hy hz1 hz2 HPL2 a0c p0c p1c p2c p3c p4c l0c l1c zB zB1 z7 n0_l
          obtain ⟨a0c, p0c, p1c, p2c, p3c, p4c, l0c, l1c, zB, zB1, z7⟩ := BE11.out
          have z9_11 : B9 < w11.heap.size := by omega
          go_wp2_with fail
          refine (f_Agrees (.slice ma mC.length mc) (.slice na mM.length nc) (.slice v1 cells'.length v2) mC mM cells' hmc _ (HM1.out _ (by ((repeat' (first | (with_reducible exact Below.refl _ _) | (with_reducible refine Below.setCell ?_ ?_ _) | (with_reducible refine Below.alloc ?_ ?_ _) | (with_reducible refine Below.drew ?_) | (with_reducible refine Below.trans ?_ (Below.mono (by assumption) ?_)) | go_size))))) (HM2.out _ (by ((repeat' (first | (with_reducible exact Below.refl _ _) | (with_reducible refine Below.setCell ?_ ?_ _) | (with_reducible refine Below.alloc ?_ ?_ _) | (with_reducible refine Below.drew ?_) | (with_reducible refine Below.trans ?_ (Below.mono (by assumption) ?_)) | go_size))))) (HCV.out _ (by ((have shk_11 := hk_11.size); (try simp at shk_11); (repeat' (first | (with_reducible exact Below.refl _ _) | (with_reducible refine Below.setCell ?_ ?_ _) | (with_reducible refine Below.alloc ?_ ?_ _) | (with_reducible refine Below.drew ?_) | (with_reducible refine Below.trans ?_ (Below.mono hk_11 ?_)) | go_size)))))).mono ?_
          rintro x w12 ⟨rfl, hb12⟩
          rw [HP2.out]
          have h1112 : Below w11.heap.size w11 w12 := by ((have shb12 := hb12.size); (try simp at shb12); (repeat' (first | (with_reducible exact Below.refl _ _) | (with_reducible refine Below.setCell ?_ ?_ _) | (with_reducible refine Below.alloc ?_ ?_ _) | (with_reducible refine Below.drew ?_) | (with_reducible refine Below.trans ?_ (Below.mono hb12 ?_)) | go_size)))
          have hB12 : Below w.heap.size w w12 := by ((have sh1112 := h1112.size); (try simp at sh1112); (have shB11 := hB11.size); (try simp at shB11); (repeat' (first | (with_reducible exact Below.refl _ _) | (with_reducible refine Below.setCell ?_ ?_ _) | (with_reducible refine Below.alloc ?_ ?_ _) | (with_reducible refine Below.drew ?_) | (with_reducible refine Below.trans ?_ (Below.mono h1112 ?_)) | (with_reducible refine Below.trans ?_ (Below.mono hB11 ?_)) | go_size)))
          have hl12 : Below wl.heap.size wl w12 := by ((have sh1112 := h1112.size); (try simp at sh1112); (have shb11 := hb11.size); (try simp at shb11); (repeat' (first | (with_reducible exact Below.refl _ _) | (with_reducible refine Below.setCell ?_ ?_ _) | (with_reducible refine Below.alloc ?_ ?_ _) | (with_reducible refine Below.drew ?_) | (with_reducible refine Below.trans ?_ (Below.mono h1112 ?_)) | (with_reducible refine Below.trans ?_ (Below.mono hb11 ?_)) | go_size)))
          have hs12 := hb12.size
          simp at hs12
          have m0_12 : w12.cell? ⟨w11.heap.size, 0, none⟩ = some (.slice ma mC.length mc) := (hb12.cell (p := ⟨w11.heap.size, 0, none⟩) (by simp)).trans (by go_simp)
          have m1_12 : w12.cell? ⟨w11.heap.size, 1, none⟩ = some (.slice na mM.length nc) := (hb12.cell (p := ⟨w11.heap.size, 1, none⟩) (by simp)).trans (by go_simp)
          have BE12 := Lib.hid (BE11.out.go (n := w11.heap.size) (by omega) (by omega) h1112)
          have z11_12 : w11.heap.size < w12.heap.size := by omega
          clear a0c p0c p1c p2c p3c p4c l0c l1c zB zB1 z7 n0_11
          obtain ⟨a0c, p0c, p1c, p2c, p3c, p4c, l0c, l1c, zB, zB1, z7⟩ := BE12.out
          go_wp2_with fail
          refine (f_Remove _ _ _ mC mM [(k : Int)] hmm hmc _ (HM1.out _ (by ((have sh1112 := h1112.size); (try simp at sh1112); (repeat' (first | (with_reducible exact Below.refl _ _) | (with_reducible refine Below.setCell ?_ ?_ _) | (with_reducible refine Below.alloc ?_ ?_ _) | (with_reducible refine Below.drew ?_) | (with_reducible refine Below.trans ?_ (Below.mono h1112 ?_)) | go_size))))) (HM2.out _ (by ((have sh1112 := h1112.size); (try simp at sh1112); (repeat' (first | (with_reducible exact Below.refl _ _) | (with_reducible refine Below.setCell ?_ ?_ _) | (with_reducible refine Below.alloc ?_ ?_ _) | (with_reducible refine Below.drew ?_) | (with_reducible refine Below.trans ?_ (Below.mono h1112 ?_)) | go_size))))) (show Ints _ _ [(k : Int)] from Sl.fresh _ 3 1 _ (by simp) (by omega))).mono ?_
          rintro x w13 ⟨⟨y, rfl, hy⟩, hb13⟩
          rw [HP3.out]
          have h1213 : Below w12.heap.size w12 w13 := by ((have shb13 := hb13.size); (try simp at shb13); (repeat' (first | (with_reducible exact Below.refl _ _) | (with_reducible refine Below.setCell ?_ ?_ _) | (with_reducible refine Below.alloc ?_ ?_ _) | (with_reducible refine Below.drew ?_) | (with_reducible refine Below.trans ?_ (Below.mono hb13 ?_)) | go_size)))
          have hB13 : Below w.heap.size w w13 := by ((have sh1213 := h1213.size); (try simp at sh1213); (have shB12 := hB12.size); (try simp at shB12); (repeat' (first | (with_reducible exact Below.refl _ _) | (with_reducible refine Below.setCell ?_ ?_ _) | (with_reducible refine Below.alloc ?_ ?_ _) | (with_reducible refine Below.drew ?_) | (with_reducible refine Below.trans ?_ (Below.mono h1213 ?_)) | (with_reducible refine Below.trans ?_ (Below.mono hB12 ?_)) | go_size)))
          have hl13 : Below wl.heap.size wl w13 := by ((have sh1213 := h1213.size); (try simp at sh1213); (have shl12 := hl12.size); (try simp at shl12); (repeat' (first | (with_reducible exact Below.refl _ _) | (with_reducible refine Below.setCell ?_ ?_ _) | (with_reducible refine Below.alloc ?_ ?_ _) | (with_reducible refine Below.drew ?_) | (with_reducible refine Below.trans ?_ (Below.mono h1213 ?_)) | (with_reducible refine Below.trans ?_ (Below.mono hl12 ?_)) | go_size)))
          have hm13 : Below w11.heap.size w11 w13 := by ((have sh1213 := h1213.size); (try simp at sh1213); (have sh1112 := h1112.size); (try simp at sh1112); (repeat' (first | (with_reducible exact Below.refl _ _) | (with_reducible refine Below.setCell ?_ ?_ _) | (with_reducible refine Below.alloc ?_ ?_ _) | (with_reducible refine Below.drew ?_) | (with_reducible refine Below.trans ?_ (Below.mono h1213 ?_)) | (with_reducible refine Below.trans ?_ (Below.mono h1112 ?_)) | go_size)))
          have hs13 := h1213.size
          have BE13 := Lib.hid (BE12.out.go (n := w12.heap.size) (by omega) (by omega) h1213)
          obtain ⟨ra, rc, sa, sc, rfl⟩ := hy.form
          obtain ⟨v3, v4, ev, hz1, hz2, -⟩ := hy.toV (fun p h => (HM1.out _ hm13).2 p (rmM h))
          simp only [Value.agg.injEq, Array.mk.injEq, List.cons.injEq, and_true] at ev
          obtain ⟨rfl, rfl⟩ := ev
          have hrc := remC_len (ms := mM) (l := [(k : Int)]) hmc
          have hp4 := HP4.out
          obtain ⟨rC, hrC⟩ : ∃ rC, remC mC mM [(k : Int)] = rC := ⟨_, rfl⟩
          obtain ⟨rM, hrM⟩ : ∃ rM, remM mC mM [(k : Int)] = rM := ⟨_, rfl⟩
          rw [hrC] at hz1 hp4 hrc ⊢
          rw [hrM] at hz2 hp4 ⊢
          have HR1 := Lib.hid (fun W (hb : Below w13.heap.size w13 W) => hz1.grown hb)
          have HR2 := Lib.hid (fun W (hb : Below w13.heap.size w13 W) => hz2.grown hb)
          have HP4b := Lib.hid hp4
          clear hp4 HP4 hrC hrM hy hz1 hz2 a0c p0c p1c p2c p3c p4c l0c l1c zB zB1 z7 m0_12 m1_12
          obtain ⟨a0c, p0c, p1c, p2c, p3c, p4c, l0c, l1c, zB, zB1, z7⟩ := BE13.out
          go_wp2_with fail
          refine (f_Agrees _ _ _ rC rM cells hrc _ (HR1.out _ (by ((repeat' (first | (with_reducible exact Below.refl _ _) | (with_reducible refine Below.setCell ?_ ?_ _) | (with_reducible refine Below.alloc ?_ ?_ _) | (with_reducible refine Below.drew ?_) | (with_reducible refine Below.trans ?_ (Below.mono (by assumption) ?_)) | go_size))))) (HR2.out _ (by ((repeat' (first | (with_reducible exact Below.refl _ _) | (with_reducible refine Below.setCell ?_ ?_ _) | (with_reducible refine Below.alloc ?_ ?_ _) | (with_reducible refine Below.drew ?_) | (with_reducible refine Below.trans ?_ (Below.mono (by assumption) ?_)) | go_size))))) (HX.out _ (by ((have shB13 := hB13.size); (try simp at shB13); (repeat' (first | (with_reducible exact Below.refl _ _) | (with_reducible refine Below.setCell ?_ ?_ _) | (with_reducible refine Below.alloc ?_ ?_ _) | (with_reducible refine Below.drew ?_) | (with_reducible refine Below.trans ?_ (Below.mono hB13 ?_)) | go_size)))))).mono ?_
          rintro x w14 ⟨rfl, hb14⟩
          rw [HP4b.out]
          have hl14 : Below wl.heap.size wl w14 := by ((have shb14 := hb14.size); (try simp at shb14); (have shl13 := hl13.size); (try simp at shl13); (repeat' (first | (with_reducible exact Below.refl _ _) | (with_reducible refine Below.setCell ?_ ?_ _) | (with_reducible refine Below.alloc ?_ ?_ _) | (with_reducible refine Below.drew ?_) | (with_reducible refine Below.trans ?_ (Below.mono hb14 ?_)) | (with_reducible refine Below.trans ?_ (Below.mono hl13 ?_)) | go_size)))
          go_wp2
          go_meet
          case rel => exact hl14
        · go_wp2
          go_meet
          case rel => exact Below.refl _ _
      case rest =>
        obtain ⟨wn, hwn⟩ : ∃ wn, wn = wc := ⟨_, rfl⟩
        subst hwn
        have hbn : Below wl.heap.size wl wn := hcut
        have hBn : Below w.heap.size w wn := by ((have shbn := hbn.size); (try simp at shbn); (have shBl := hBl.size); (try simp at shBl); (repeat' (first | (with_reducible exact Below.refl _ _) | (with_reducible refine Below.setCell ?_ ?_ _) | (with_reducible refine Below.alloc ?_ ?_ _) | (with_reducible refine Below.drew ?_) | (with_reducible refine Below.trans ?_ (Below.mono hbn ?_)) | (with_reducible refine Below.trans ?_ (Below.mono hBl ?_)) | go_size)))
        have h5n : Below w5.heap.size w5 wn := by ((have shbn := hbn.size); (try simp at shbn); (have sh5l := h5l.size); (try simp at sh5l); (repeat' (first | (with_reducible exact Below.refl _ _) | (with_reducible refine Below.setCell ?_ ?_ _) | (with_reducible refine Below.alloc ?_ ?_ _) | (with_reducible refine Below.drew ?_) | (with_reducible refine Below.trans ?_ (Below.mono hbn ?_)) | (with_reducible refine Below.trans ?_ (Below.mono h5l ?_)) | go_size)))
        have hsn := hbn.size
        have BEn := Lib.hid (BEl.out.go (n := wl.heap.size) (by omega) (by omega) hbn)
        clear HPost HIf HPL hcut a0c p0c p1c p2c p3c p4c l0c l1c zB zB1 z7
        obtain ⟨a0c, p0c, p1c, p2c, p3c, p4c, l0c, l1c, zB, zB1, z7⟩ := BEn.out
        go_wp2_with fail
        refine (f_Drop1 _ _ cells q (by omega) _ (HX.out _ (by ((have shBn := hBn.size); (try simp at shBn); (repeat' (first | (with_reducible exact Below.refl _ _) | (with_reducible refine Below.setCell ?_ ?_ _) | (with_reducible refine Below.alloc ?_ ?_ _) | (with_reducible refine Below.drew ?_) | (with_reducible refine Below.trans ?_ (Below.mono hBn ?_)) | go_size))))) (show Ints _ _ [q] from Sl.fresh _ 3 1 _ (by simp) (by omega))).mono ?_
        rintro x w15 ⟨hpost, hb15⟩
        have hn15 : Below wn.heap.size wn w15 := by ((have shb15 := hb15.size); (try simp at shb15); (repeat' (first | (with_reducible exact Below.refl _ _) | (with_reducible refine Below.setCell ?_ ?_ _) | (with_reducible refine Below.alloc ?_ ?_ _) | (with_reducible refine Below.drew ?_) | (with_reducible refine Below.trans ?_ (Below.mono hb15 ?_)) | go_size)))
        have hB15 : Below w.heap.size w w15 := by ((have shn15 := hn15.size); (try simp at shn15); (have shBn := hBn.size); (try simp at shBn); (repeat' (first | (with_reducible exact Below.refl _ _) | (with_reducible refine Below.setCell ?_ ?_ _) | (with_reducible refine Below.alloc ?_ ?_ _) | (with_reducible refine Below.drew ?_) | (with_reducible refine Below.trans ?_ (Below.mono hn15 ?_)) | (with_reducible refine Below.trans ?_ (Below.mono hBn ?_)) | go_size)))
        have h515 : Below w5.heap.size w5 w15 := by ((have shn15 := hn15.size); (try simp at shn15); (have sh5n := h5n.size); (try simp at sh5n); (repeat' (first | (with_reducible exact Below.refl _ _) | (with_reducible refine Below.setCell ?_ ?_ _) | (with_reducible refine Below.alloc ?_ ?_ _) | (with_reducible refine Below.drew ?_) | (with_reducible refine Below.trans ?_ (Below.mono hn15 ?_)) | (with_reducible refine Below.trans ?_ (Below.mono h5n ?_)) | go_size)))
        have hs15 := hn15.size
        have BE15 := Lib.hid (BEn.out.go (n := wn.heap.size) (by omega) (by omega) hn15)
        clear a0c p0c p1c p2c p3c p4c l0c l1c zB zB1 z7
        obtain ⟨a0c, p0c, p1c, p2c, p3c, p4c, l0c, l1c, zB, zB1, z7⟩ := BE15.out
        rcases hpost with ⟨hne, rfl⟩ | ⟨hE0, k, v, hk, rfl, rfl, hown⟩
        · obtain ⟨ED, hED⟩ : ∃ ED, dropE cells q = ED := ⟨_, rfl⟩
          rw [hED] at hne ⊢
          have hz : (ED != 0) = true := bne_iff_ne.2 hne
          clear hED hne
          go_wp2
          go_ret
          exact ⟨rfl, by ((have shB15 := hB15.size); (try simp at shB15); (repeat' (first | (with_reducible exact Below.refl _ _) | (with_reducible refine Below.setCell ?_ ?_ _) | (with_reducible refine Below.alloc ?_ ?_ _) | (with_reducible refine Below.drew ?_) | (with_reducible refine Below.trans ?_ (Below.mono hB15 ?_)) | go_size)))⟩
        · have HCV := Lib.hid (CelsV.set_owns (w0 := w) (fun x hx => (HX.out _ hB15).2 x hx) (c := zeroC) (VecV.nil _) hown)
          obtain ⟨v1, v2, rfl⟩ := own_slice hown
          obtain ⟨hp1, hp2⟩ := HDL.out k hk
          have HP1 := Lib.hid hp1
          have HP2 := Lib.hid hp2
          clear hown hE0 hp1 hp2
          go_wp2_with fail
          refine (f_Remove _ _ _ lc lm [(k : Int)] (by omega) (by omega) _ (HL1.out _ (by ((have sh515 := h515.size); (try simp at sh515); (repeat' (first | (with_reducible exact Below.refl _ _) | (with_reducible refine Below.setCell ?_ ?_ _) | (with_reducible refine Below.alloc ?_ ?_ _) | (with_reducible refine Below.drew ?_) | (with_reducible refine Below.trans ?_ (Below.mono h515 ?_)) | go_size))))) (HL2.out _ (by ((have sh515 := h515.size); (try simp at sh515); (repeat' (first | (with_reducible exact Below.refl _ _) | (with_reducible refine Below.setCell ?_ ?_ _) | (with_reducible refine Below.alloc ?_ ?_ _) | (with_reducible refine Below.drew ?_) | (with_reducible refine Below.trans ?_ (Below.mono h515 ?_)) | go_size))))) (show Ints _ _ [(k : Int)] from Sl.fresh _ 3 1 _ (by simp) (by omega))).mono ?_
          rintro x w16 ⟨⟨y, rfl, hy⟩, hb16⟩
          rw [HP1.out]
          have h1516 : Below w15.heap.size w15 w16 := by ((have shb16 := hb16.size); (try simp at shb16); (repeat' (first | (with_reducible exact Below.refl _ _) | (with_reducible refine Below.setCell ?_ ?_ _) | (with_reducible refine Below.alloc ?_ ?_ _) | (with_reducible refine Below.drew ?_) | (with_reducible refine Below.trans ?_ (Below.mono hb16 ?_)) | go_size)))
          have hB16 : Below w.heap.size w w16 := by ((have sh1516 := h1516.size); (try simp at sh1516); (have shB15 := hB15.size); (try simp at shB15); (repeat' (first | (with_reducible exact Below.refl _ _) | (with_reducible refine Below.setCell ?_ ?_ _) | (with_reducible refine Below.alloc ?_ ?_ _) | (with_reducible refine Below.drew ?_) | (with_reducible refine Below.trans ?_ (Below.mono h1516 ?_)) | (with_reducible refine Below.trans ?_ (Below.mono hB15 ?_)) | go_size)))
          have h516 : Below w5.heap.size w5 w16 := by ((have sh1516 := h1516.size); (try simp at sh1516); (have sh515 := h515.size); (try simp at sh515); (repeat' (first | (with_reducible exact Below.refl _ _) | (with_reducible refine Below.setCell ?_ ?_ _) | (with_reducible refine Below.alloc ?_ ?_ _) | (with_reducible refine Below.drew ?_) | (with_reducible refine Below.trans ?_ (Below.mono h1516 ?_)) | (with_reducible refine Below.trans ?_ (Below.mono h515 ?_)) | go_size)))
          have hs16 := hb16.size
          simp at hs16
          have n0_16 : w16.cell? ⟨w15.heap.size, 0, none⟩ = some (.slice v1 cells.length v2) := (hb16.cell (p := ⟨w15.heap.size, 0, none⟩) (by simp; omega)).trans (by go_simp)
          obtain ⟨ra, rc, sa, sc, rfl⟩ := hy.form
          obtain ⟨v3, v4, ev, hz1, hz2, -⟩ := hy.toV (fun p h => (HL1.out _ h516).2 p (rmM h))
          simp only [Value.agg.injEq, Array.mk.injEq, List.cons.injEq, and_true] at ev
          obtain ⟨rfl, rfl⟩ := ev
          have hrc := remC_len (ms := lm) (l := [(k : Int)]) (show lc.length ≤ 1000 by omega)
          have hp2 := HP2.out
          obtain ⟨rC, hrC⟩ : ∃ rC, remC lc lm [(k : Int)] = rC := ⟨_, rfl⟩
          obtain ⟨rM, hrM⟩ : ∃ rM, remM lc lm [(k : Int)] = rM := ⟨_, rfl⟩
          rw [hrC] at hz1 hp2 hrc ⊢
          rw [hrM] at hz2 hp2 ⊢
          have HR1 := Lib.hid (fun W (hb : Below w16.heap.size w16 W) => hz1.grown hb)
          have HR2 := Lib.hid (fun W (hb : Below w16.heap.size w16 W) => hz2.grown hb)
          have HP2b := Lib.hid hp2
          have z15_16 : w15.heap.size < w16.heap.size := by omega
          clear hp2 HP2 hrC hrM hy hz1 hz2 a0c p0c p1c p2c p3c p4c l0c l1c
          go_wp2_with fail
          refine (f_Agrees (.slice ra rC.length rc) (.slice sa rM.length sc) (.slice v1 cells.length v2) rC rM (cells.set k zeroC) hrc _ (HR1.out _ (by ((repeat' (first | (with_reducible exact Below.refl _ _) | (with_reducible refine Below.setCell ?_ ?_ _) | (with_reducible refine Below.alloc ?_ ?_ _) | (with_reducible refine Below.drew ?_) | (with_reducible refine Below.trans ?_ (Below.mono (by assumption) ?_)) | go_size))))) (HR2.out _ (by ((repeat' (first | (with_reducible exact Below.refl _ _) | (with_reducible refine Below.setCell ?_ ?_ _) | (with_reducible refine Below.alloc ?_ ?_ _) | (with_reducible refine Below.drew ?_) | (with_reducible refine Below.trans ?_ (Below.mono (by assumption) ?_)) | go_size))))) (HCV.out.grown (by ((have sh1516 := h1516.size); (try simp at sh1516); (repeat' (first | (with_reducible exact Below.refl _ _) | (with_reducible refine Below.setCell ?_ ?_ _) | (with_reducible refine Below.alloc ?_ ?_ _) | (with_reducible refine Below.drew ?_) | (with_reducible refine Below.trans ?_ (Below.mono h1516 ?_)) | go_size)))))).mono ?_
          rintro x w17 ⟨rfl, hb17⟩
          rw [HP2b.out]
          go_wp2
          go_ret
          exact ⟨rfl, by ((have shb17 := hb17.size); (try simp at shb17); (have shB16 := hB16.size); (try simp at shB16); (repeat' (first | (with_reducible exact Below.refl _ _) | (with_reducible refine Below.setCell ?_ ?_ _) | (with_reducible refine Below.alloc ?_ ?_ _) | (with_reducible refine Below.drew ?_) | (with_reducible refine Below.trans ?_ (Below.mono hb17 ?_)) | (with_reducible refine Below.trans ?_ (Below.mono hB16 ?_)) | go_size)))⟩
end Go.Proofs.Ytlfmffjlmhpcdaa
