/- The contract of quiverlaw13.ListsDoes. -/
import Derived.Test.YtlfmffjlmhpcdaaDoesLaw
import Derived.Deep.CutBlock
namespace Go.Proofs.Ytlfmffjlmhpcdaa
open Go.RowKit
set_option maxRecDepth 100000
attribute [local irreducible] Der

/-- The boxes of ListsDoes: lists, deed, what Add, Remove and Union gave, and no lists. -/
structure BoxD (w : World) (B b5 b7 b9 : Nat) (L0 L1 : Value) (s : Int) (vv vs vp A0 A1 R0 R1 U0 U1 : Value) : Prop where
  l0c : w.cell? ⟨B, 0, none⟩ = some L0
  l1c : w.cell? ⟨B, 1, none⟩ = some L1
  d0c : w.cell? ⟨B + 1, 0, none⟩ = some (.int .i64 s)
  d1c : w.cell? ⟨B + 1, 1, none⟩ = some vv
  d2c : w.cell? ⟨B + 1, 2, none⟩ = some vs
  d3c : w.cell? ⟨B + 1, 3, none⟩ = some vp
  a0c : w.cell? ⟨b5, 0, none⟩ = some A0
  a1c : w.cell? ⟨b5, 1, none⟩ = some A1
  r0c : w.cell? ⟨b7, 0, none⟩ = some R0
  r1c : w.cell? ⟨b7, 1, none⟩ = some R1
  u0c : w.cell? ⟨b9, 0, none⟩ = some U0
  u1c : w.cell? ⟨b9, 1, none⟩ = some U1
  n0c : w.cell? ⟨b9 + 1, 0, none⟩ = some (.slice none 0 0)
  n1c : w.cell? ⟨b9 + 1, 1, none⟩ = some (.slice none 0 0)
  zB : B < w.heap.size
  zB1 : B + 1 < w.heap.size
  z5 : b5 < w.heap.size
  z7 : b7 < w.heap.size
  z9 : b9 < w.heap.size
  z91 : b9 + 1 < w.heap.size
theorem BoxD.go {w w' : World} {n B b5 b7 b9 : Nat} {L0 L1 : Value} {s : Int} {vv vs vp A0 A1 R0 R1 U0 U1 : Value} (h : BoxD w B b5 b7 b9 L0 L1 s vv vs vp A0 A1 R0 R1 U0 U1) (h1 : B + 1 < n) (h5 : b5 < n) (h7 : b7 < n) (h9 : b9 + 1 < n) (hb : Below n w w') :
    BoxD w' B b5 b7 b9 L0 L1 s vv vs vp A0 A1 R0 R1 U0 U1 :=
  ⟨(hb.cell (p := ⟨B, 0, none⟩) (by simp; omega)).trans h.l0c,
   (hb.cell (p := ⟨B, 1, none⟩) (by simp; omega)).trans h.l1c,
   (hb.cell (p := ⟨B + 1, 0, none⟩) (by simp; omega)).trans h.d0c,
   (hb.cell (p := ⟨B + 1, 1, none⟩) (by simp; omega)).trans h.d1c,
   (hb.cell (p := ⟨B + 1, 2, none⟩) (by simp; omega)).trans h.d2c,
   (hb.cell (p := ⟨B + 1, 3, none⟩) (by simp; omega)).trans h.d3c,
   (hb.cell (p := ⟨b5, 0, none⟩) (by simp; omega)).trans h.a0c,
   (hb.cell (p := ⟨b5, 1, none⟩) (by simp; omega)).trans h.a1c,
   (hb.cell (p := ⟨b7, 0, none⟩) (by simp; omega)).trans h.r0c,
   (hb.cell (p := ⟨b7, 1, none⟩) (by simp; omega)).trans h.r1c,
   (hb.cell (p := ⟨b9, 0, none⟩) (by simp; omega)).trans h.u0c,
   (hb.cell (p := ⟨b9, 1, none⟩) (by simp; omega)).trans h.u1c,
   (hb.cell (p := ⟨b9 + 1, 0, none⟩) (by simp; omega)).trans h.n0c,
   (hb.cell (p := ⟨b9 + 1, 1, none⟩) (by simp; omega)).trans h.n1c,
   Nat.lt_of_lt_of_le h.zB hb.size, Nat.lt_of_lt_of_le h.zB1 hb.size, Nat.lt_of_lt_of_le h.z5 hb.size, Nat.lt_of_lt_of_le h.z7 hb.size, Nat.lt_of_lt_of_le h.z9 hb.size, Nat.lt_of_lt_of_le h.z91 hb.size⟩
/-- A box of lists that is written. -/
structure BoxW (w : World) (b : Nat) (X0 X1 : Value) : Prop where
  c0 : w.cell? ⟨b, 0, none⟩ = some X0
  c1 : w.cell? ⟨b, 1, none⟩ = some X1
  f0 : w.frozen? ⟨b, 0, none⟩ = false
  f1 : w.frozen? ⟨b, 1, none⟩ = false
  lt : b < w.heap.size
theorem BoxW.go {w w' : World} {n b : Nat} {X0 X1 : Value} (h : BoxW w b X0 X1) (hn : b < n) (hb : Below n w w') : BoxW w' b X0 X1 :=
  ⟨(hb.cell (p := ⟨b, 0, none⟩) hn).trans h.c0, (hb.cell (p := ⟨b, 1, none⟩) hn).trans h.c1, (hb.frozen (p := ⟨b, 0, none⟩) hn).trans h.f0, (hb.frozen (p := ⟨b, 1, none⟩) hn).trans h.f1, Nat.lt_of_lt_of_le h.lt hb.size⟩
/-- The number that the law keeps while it takes slots out. -/
def noK (l : List Int) : Int := if ∀ x ∈ l, isSlot x then 0 else 2
theorem noK_hit {l : List Int} {k : Nat} (hk : k < l.length) (h : 0 ≤ l[k] ∧ l[k] < 96) : noK (l.take (k + 1)) = noK (l.take k) := by
  have e : (∀ x ∈ l.take (k + 1), isSlot x) ↔ (∀ x ∈ l.take k, isSlot x) := by
    rw [List.take_succ_eq_append_getElem hk]
    constructor
    · intro hh x hx; exact hh x (List.mem_append_left _ hx)
    · intro hh x hx
      rcases List.mem_append.1 hx with h1 | h1
      · exact hh x h1
      · rw [List.mem_singleton.1 h1]; exact h
  unfold noK
  by_cases h2 : ∀ x ∈ l.take k, isSlot x
  · rw [if_pos h2, if_pos (e.2 h2)]
  · rw [if_neg h2, if_neg (fun h3 => h2 (e.1 h3))]
theorem noK_miss {l : List Int} {k : Nat} (hk : k < l.length) (h : ¬ (0 ≤ l[k] ∧ l[k] < 96)) : noK (l.take (k + 1)) = 2 := by
  unfold noK
  rw [if_neg]
  intro hh
  exact h (hh l[k] (by rw [List.take_succ_eq_append_getElem hk]; exact List.mem_append_right _ (List.mem_singleton.2 rfl)))
theorem rem_no {cs : List PV} {ms : List M} (hok : listsOK cs ms = true) (l : List Int) : remE cs ms l = noK l ∧ (noK l = 0 → remC cs ms l = cs ∧ remM cs ms l = ms.map (delK l)) ∧ (noK l ≠ 0 → remC cs ms l = [] ∧ remM cs ms l = []) := by
  obtain ⟨h1, h2, h3⟩ := rem_law hok l
  refine ⟨h1, fun h => h2 ?_, fun h => h3 ?_⟩
  · unfold noK at h
    by_cases hall : ∀ x ∈ l, isSlot x
    · exact hall
    · rw [if_neg hall] at h; omega
  · intro hall
    unfold noK at h
    rw [if_pos hall] at h
    exact h rfl
theorem add_mem {cs : List PV} {ms : List M} {s : Int} {vec : List Int} {p : PV} (h : p ∈ addC cs ms s vec) : p ∈ cs := by
  unfold addC at h; split at h
  · exact h
  · cases h
theorem rem_mem {cs : List PV} {ms : List M} {l : List Int} {p : PV} (h : p ∈ remC cs ms l) : p ∈ cs := by
  unfold remC at h; split at h
  · exact h
  · cases h
theorem sameL_refl (cs : List PV) (ms : List M) : sameL cs ms cs ms = true := by unfold sameL; simp
theorem VecsV.nil (w : World) : VecsV w (.slice none 0 0) [] := ⟨⟨Sl.nilS w, NilA.nil⟩, by simp⟩
theorem where_two {cs : List PV} {ms : List M} (h : listsOK cs ms = true) (s : Int) : (whereF cs ms s).2 = decide (0 ≤ firstM ms s) := by rw [where_first h]
theorem overD_len {cs : List PV} {ms : List M} (h : overL cs ms = false) : ms.length ≤ 20 ∧ cs.length ≤ 20 := by
  unfold overL overV at h
  simp only [Bool.or_eq_false_iff, decide_eq_false_iff_not] at h
  omega
set_option maxHeartbeats 32000000 in
theorem f_ListsDoes (vc vm vv vs vp : Value) (cs : List PV) (ms : List M) (s : Int) (vec ss ps : List Int) (w : World) (hc : VecsV w vc cs) (hm : Masks w vm ms) (hn : NilA vm) (hv : VecV w vv vec) (hs : Ints w vs ss) (hp : Ints w vp ps) :
    Calls Try.prog 7 #[.agg #[vc, vm], .agg #[.int .i64 s, vv, vs, vp]] w fun e w' => e = .returned (.bool true) ∧ Below w.heap.size w w' := by
  obtain ⟨ca, ccp, rfl, -⟩ := hc.open
  obtain ⟨ma, mcp, rfl, -⟩ := hm.open
  obtain ⟨va, vcp, rfl, -⟩ := hv.form
  obtain ⟨sa, scp, rfl, -⟩ := hs.open
  obtain ⟨pa, pcp, rfl, -⟩ := hp.open
  have HC := Lib.hid (fun W (h : Below w.heap.size w W) => hc.grown h)
  have HM := Lib.hid (fun W (h : Below w.heap.size w W) => hm.grown h)
  have HV := Lib.hid (fun W (h : Below w.heap.size w W) => hv.grown h)
  have HS := Lib.hid (fun W (h : Below w.heap.size w W) => hs.grown h)
  have HP := Lib.hid (fun W (h : Below w.heap.size w W) => hp.grown h)
  have HN := Lib.hid hn
  clear hc hm hv hs hp hn
  go_enter Try.func7, Try.ntmps7
  go_wp2_with fail
  refine (l13_wakes _).mono ?_
  rintro e w1 ⟨rfl, hb1⟩
  have z1w0 : w.heap.size < w1.heap.size := (by have := hb1.size; (try simp at this); omega)
  have q1w0 := fun o => hb1.cell (p := ⟨w.heap.size, o, none⟩) (by first | omega | (simp; done) | (simp; omega))
  have r1w0 := fun o => hb1.frozen (p := ⟨w.heap.size, o, none⟩) (by first | omega | (simp; done) | (simp; omega))
  have z1w1 : w.heap.size + 1 < w1.heap.size := (by have := hb1.size; (try simp at this); omega)
  have q1w1 := fun o => hb1.cell (p := ⟨w.heap.size + 1, o, none⟩) (by first | omega | (simp; done) | (simp; omega))
  have r1w1 := fun o => hb1.frozen (p := ⟨w.heap.size + 1, o, none⟩) (by first | omega | (simp; done) | (simp; omega))
  have hB1 : Below w.heap.size w w1 := by ((have shb1 := hb1.size); (try simp at shb1); (repeat' (first | (with_reducible exact Below.refl _ _) | (with_reducible refine Below.setCell ?_ ?_ _) | (with_reducible refine Below.alloc ?_ ?_ _) | (with_reducible refine Below.drew ?_) | (with_reducible refine Below.trans ?_ (Below.mono hb1 ?_)) | go_size)))
  have l0_1 : w1.cell? ⟨w.heap.size, 0, none⟩ = some (.slice ca cs.length ccp) := by rw [q1w0]; go_simp
  have l1_1 : w1.cell? ⟨w.heap.size, 1, none⟩ = some (.slice ma ms.length mcp) := by rw [q1w0]; go_simp
  have d0_1 : w1.cell? ⟨w.heap.size + 1, 0, none⟩ = some (.int .i64 s) := by rw [q1w1]; go_simp
  have d1_1 : w1.cell? ⟨w.heap.size + 1, 1, none⟩ = some (.slice va vec.length vcp) := by rw [q1w1]; go_simp
  have d2_1 : w1.cell? ⟨w.heap.size + 1, 2, none⟩ = some (.slice sa ss.length scp) := by rw [q1w1]; go_simp
  have d3_1 : w1.cell? ⟨w.heap.size + 1, 3, none⟩ = some (.slice pa ps.length pcp) := by rw [q1w1]; go_simp
  clear q1w0 q1w1 r1w0 r1w1 hb1
  have zz0_1 : w.heap.size < w1.heap.size := z1w0
  have zz1_1 : w.heap.size + 1 < w1.heap.size := z1w1
  cases ho2 : overL cs ms
  case true =>
    go_wp2_with fail
    refine (l13_over _ _ cs ms _ (HC.out _ hB1) (HM.out _ hB1)).mono ?_
    rintro e w2 ⟨rfl, hb2⟩
    rw [ho2]
    go_wp2
    go_ret
    exact ⟨rfl, by ((have shb2 := hb2.size); (try simp at shb2); (have shB1 := hB1.size); (try simp at shB1); (repeat' (first | (with_reducible exact Below.refl _ _) | (with_reducible refine Below.setCell ?_ ?_ _) | (with_reducible refine Below.alloc ?_ ?_ _) | (with_reducible refine Below.drew ?_) | (with_reducible refine Below.trans ?_ (Below.mono hb2 ?_)) | (with_reducible refine Below.trans ?_ (Below.mono hB1 ?_)) | go_size)))⟩
  case false =>
    obtain ⟨hms, hcl⟩ := overD_len ho2
    go_wp2_with fail
    refine (l13_over _ _ cs ms _ (HC.out _ hB1) (HM.out _ hB1)).mono ?_
    rintro e w2 ⟨rfl, hb2⟩
    rw [ho2]
    clear ho2
    have hB2 : Below w.heap.size w w2 := by ((have shb2 := hb2.size); (try simp at shb2); (have shB1 := hB1.size); (try simp at shB1); (repeat' (first | (with_reducible exact Below.refl _ _) | (with_reducible refine Below.setCell ?_ ?_ _) | (with_reducible refine Below.alloc ?_ ?_ _) | (with_reducible refine Below.drew ?_) | (with_reducible refine Below.trans ?_ (Below.mono hb2 ?_)) | (with_reducible refine Below.trans ?_ (Below.mono hB1 ?_)) | go_size)))
    have l0_2 := (hb2.cell (p := ⟨w.heap.size, 0, none⟩) (by first | omega | (simp; done) | (simp; omega))).trans l0_1
    have l1_2 := (hb2.cell (p := ⟨w.heap.size, 1, none⟩) (by first | omega | (simp; done) | (simp; omega))).trans l1_1
    have d0_2 := (hb2.cell (p := ⟨w.heap.size + 1, 0, none⟩) (by first | omega | (simp; done) | (simp; omega))).trans d0_1
    have d1_2 := (hb2.cell (p := ⟨w.heap.size + 1, 1, none⟩) (by first | omega | (simp; done) | (simp; omega))).trans d1_1
    have d2_2 := (hb2.cell (p := ⟨w.heap.size + 1, 2, none⟩) (by first | omega | (simp; done) | (simp; omega))).trans d2_1
    have d3_2 := (hb2.cell (p := ⟨w.heap.size + 1, 3, none⟩) (by first | omega | (simp; done) | (simp; omega))).trans d3_1
    have zz0_2 : w.heap.size < w2.heap.size := (by have := hb2.size; (try simp at this); omega)
    have zz1_2 : w.heap.size + 1 < w2.heap.size := (by have := hb2.size; (try simp at this); omega)
    clear l0_1 l1_1 d0_1 d1_1 d2_1 d3_1
    by_cases hv50 : 50 < vec.length
    · go_wp2
      go_ret
      exact ⟨rfl, by ((have shB2 := hB2.size); (try simp at shB2); (repeat' (first | (with_reducible exact Below.refl _ _) | (with_reducible refine Below.setCell ?_ ?_ _) | (with_reducible refine Below.alloc ?_ ?_ _) | (with_reducible refine Below.drew ?_) | (with_reducible refine Below.trans ?_ (Below.mono hB2 ?_)) | go_size)))⟩
    by_cases hs120 : 120 < ss.length
    · go_wp2
      go_ret
      exact ⟨rfl, by ((have shB2 := hB2.size); (try simp at shB2); (repeat' (first | (with_reducible exact Below.refl _ _) | (with_reducible refine Below.setCell ?_ ?_ _) | (with_reducible refine Below.alloc ?_ ?_ _) | (with_reducible refine Below.drew ?_) | (with_reducible refine Below.trans ?_ (Below.mono hB2 ?_)) | go_size)))⟩
    by_cases hp40 : 40 < ps.length
    · go_wp2
      go_ret
      exact ⟨rfl, by ((have shB2 := hB2.size); (try simp at shB2); (repeat' (first | (with_reducible exact Below.refl _ _) | (with_reducible refine Below.setCell ?_ ?_ _) | (with_reducible refine Below.alloc ?_ ?_ _) | (with_reducible refine Below.drew ?_) | (with_reducible refine Below.trans ?_ (Below.mono hB2 ?_)) | go_size)))⟩
    go_wp2_with fail
    refine (f_Add _ _ _ cs ms s vec (by omega) (by omega) _ (HC.out _ hB2) (HM.out _ hB2) (HV.out _ hB2)).mono ?_
    rintro e w3 ⟨⟨x, rfl, hx⟩, hb3⟩
    have hB3 : Below w.heap.size w w3 := by ((have shb3 := hb3.size); (try simp at shb3); (have shB2 := hB2.size); (try simp at shB2); (repeat' (first | (with_reducible exact Below.refl _ _) | (with_reducible refine Below.setCell ?_ ?_ _) | (with_reducible refine Below.alloc ?_ ?_ _) | (with_reducible refine Below.drew ?_) | (with_reducible refine Below.trans ?_ (Below.mono hb3 ?_)) | (with_reducible refine Below.trans ?_ (Below.mono hB2 ?_)) | go_size)))
    have l0_3 := (hb3.cell (p := ⟨w.heap.size, 0, none⟩) (by first | omega | (simp; done) | (simp; omega))).trans l0_2
    have l1_3 := (hb3.cell (p := ⟨w.heap.size, 1, none⟩) (by first | omega | (simp; done) | (simp; omega))).trans l1_2
    have d0_3 := (hb3.cell (p := ⟨w.heap.size + 1, 0, none⟩) (by first | omega | (simp; done) | (simp; omega))).trans d0_2
    have d1_3 := (hb3.cell (p := ⟨w.heap.size + 1, 1, none⟩) (by first | omega | (simp; done) | (simp; omega))).trans d1_2
    have d2_3 := (hb3.cell (p := ⟨w.heap.size + 1, 2, none⟩) (by first | omega | (simp; done) | (simp; omega))).trans d2_2
    have d3_3 := (hb3.cell (p := ⟨w.heap.size + 1, 3, none⟩) (by first | omega | (simp; done) | (simp; omega))).trans d3_2
    have zz0_3 : w.heap.size < w3.heap.size := (by have := hb3.size; (try simp at this); omega)
    have zz1_3 : w.heap.size + 1 < w3.heap.size := (by have := hb3.size; (try simp at this); omega)
    clear l0_2 l1_2 d0_2 d1_2 d2_2 d3_2
    obtain ⟨xa, xc, ya, yc, rfl⟩ := hx.form
    obtain ⟨v1, v2, ev, hz1, hz2, -⟩ := hx.toV (fun p h => (HC.out _ hB3).2 p (add_mem h))
    simp only [Value.agg.injEq, Array.mk.injEq, List.cons.injEq, and_true] at ev
    obtain ⟨rfl, rfl⟩ := ev
    have HA1 := Lib.hid (fun W (hb : Below w3.heap.size w3 W) => hz1.grown hb)
    have HA2 := Lib.hid (fun W (hb : Below w3.heap.size w3 W) => hz2.grown hb)
    obtain ⟨CA, hCA⟩ : ∃ CA, addC cs ms s vec = CA := ⟨_, rfl⟩
    obtain ⟨MA, hMA⟩ : ∃ MA, addM cs ms s vec = MA := ⟨_, rfl⟩
    obtain ⟨E1, hE1⟩ : ∃ E1, addE cs ms s vec = E1 := ⟨_, rfl⟩
    rw [hCA] at HA1 ⊢
    rw [hMA] at HA2 ⊢
    rw [hE1]
    have HE1 := Lib.hid hE1
    have HCA := Lib.hid hCA
    have HMA := Lib.hid hMA
    clear hx hz1 hz2 hCA hMA hE1
    go_wp2_with fail
    refine (f_Remove _ _ _ cs ms ss (by omega) (by omega) _ (HC.out _ (by ((have shB3 := hB3.size); (try simp at shB3); (repeat' (first | (with_reducible exact Below.refl _ _) | (with_reducible refine Below.setCell ?_ ?_ _) | (with_reducible refine Below.alloc ?_ ?_ _) | (with_reducible refine Below.drew ?_) | (with_reducible refine Below.trans ?_ (Below.mono hB3 ?_)) | go_size))))) (HM.out _ (by ((have shB3 := hB3.size); (try simp at shB3); (repeat' (first | (with_reducible exact Below.refl _ _) | (with_reducible refine Below.setCell ?_ ?_ _) | (with_reducible refine Below.alloc ?_ ?_ _) | (with_reducible refine Below.drew ?_) | (with_reducible refine Below.trans ?_ (Below.mono hB3 ?_)) | go_size))))) (HS.out _ (by ((have shB3 := hB3.size); (try simp at shB3); (repeat' (first | (with_reducible exact Below.refl _ _) | (with_reducible refine Below.setCell ?_ ?_ _) | (with_reducible refine Below.alloc ?_ ?_ _) | (with_reducible refine Below.drew ?_) | (with_reducible refine Below.trans ?_ (Below.mono hB3 ?_)) | go_size)))))).mono ?_
    rintro e w4 ⟨⟨x, rfl, hx⟩, hb4⟩
    have hB4 : Below w.heap.size w w4 := by ((have shb4 := hb4.size); (try simp at shb4); (have shB3 := hB3.size); (try simp at shB3); (repeat' (first | (with_reducible exact Below.refl _ _) | (with_reducible refine Below.setCell ?_ ?_ _) | (with_reducible refine Below.alloc ?_ ?_ _) | (with_reducible refine Below.drew ?_) | (with_reducible refine Below.trans ?_ (Below.mono hb4 ?_)) | (with_reducible refine Below.trans ?_ (Below.mono hB3 ?_)) | go_size)))
    have h34 : Below w3.heap.size w3 w4 := by ((have shb4 := hb4.size); (try simp at shb4); (repeat' (first | (with_reducible exact Below.refl _ _) | (with_reducible refine Below.setCell ?_ ?_ _) | (with_reducible refine Below.alloc ?_ ?_ _) | (with_reducible refine Below.drew ?_) | (with_reducible refine Below.trans ?_ (Below.mono hb4 ?_)) | go_size)))
    have l0_4 := (h34.cell (p := ⟨w.heap.size, 0, none⟩) (by first | omega | (simp; done) | (simp; omega))).trans l0_3
    have l1_4 := (h34.cell (p := ⟨w.heap.size, 1, none⟩) (by first | omega | (simp; done) | (simp; omega))).trans l1_3
    have d0_4 := (h34.cell (p := ⟨w.heap.size + 1, 0, none⟩) (by first | omega | (simp; done) | (simp; omega))).trans d0_3
    have d1_4 := (h34.cell (p := ⟨w.heap.size + 1, 1, none⟩) (by first | omega | (simp; done) | (simp; omega))).trans d1_3
    have d2_4 := (h34.cell (p := ⟨w.heap.size + 1, 2, none⟩) (by first | omega | (simp; done) | (simp; omega))).trans d2_3
    have d3_4 := (h34.cell (p := ⟨w.heap.size + 1, 3, none⟩) (by first | omega | (simp; done) | (simp; omega))).trans d3_3
    have zz0_4 : w.heap.size < w4.heap.size := (by have := h34.size; (try simp at this); omega)
    have zz1_4 : w.heap.size + 1 < w4.heap.size := (by have := h34.size; (try simp at this); omega)
    clear l0_3 l1_3 d0_3 d1_3 d2_3 d3_3
    have a0_4 : w4.cell? ⟨w3.heap.size, 0, none⟩ = some (.slice xa CA.length xc) := (hb4.cell (p := ⟨w3.heap.size, 0, none⟩) (by simp)).trans (by go_simp)
    have a1_4 : w4.cell? ⟨w3.heap.size, 1, none⟩ = some (.slice ya MA.length yc) := (hb4.cell (p := ⟨w3.heap.size, 1, none⟩) (by simp)).trans (by go_simp)
    obtain ⟨ra, rc, ta, tc, rfl⟩ := hx.form
    obtain ⟨v1, v2, ev, hz1, hz2, -⟩ := hx.toV (fun p h => (HC.out _ hB4).2 p (rem_mem h))
    simp only [Value.agg.injEq, Array.mk.injEq, List.cons.injEq, and_true] at ev
    obtain ⟨rfl, rfl⟩ := ev
    have HR1 := Lib.hid (fun W (hb : Below w4.heap.size w4 W) => hz1.grown hb)
    have HR2 := Lib.hid (fun W (hb : Below w4.heap.size w4 W) => hz2.grown hb)
    obtain ⟨CR, hCR⟩ : ∃ CR, remC cs ms ss = CR := ⟨_, rfl⟩
    obtain ⟨MR, hMR⟩ : ∃ MR, remM cs ms ss = MR := ⟨_, rfl⟩
    obtain ⟨E2, hE2⟩ : ∃ E2, remE cs ms ss = E2 := ⟨_, rfl⟩
    rw [hCR] at HR1 ⊢
    rw [hMR] at HR2 ⊢
    rw [hE2]
    have HE2 := Lib.hid hE2
    have HCR := Lib.hid hCR
    have HMR := Lib.hid hMR
    clear hx hz1 hz2 hCR hMR hE2
    obtain ⟨E3, hE3⟩ : ∃ E3, unionE cs ms ps = E3 := ⟨_, rfl⟩
    obtain ⟨Um, hUm⟩ : ∃ Um, unionM cs ms ps = Um := ⟨_, rfl⟩
    have HFU := Lib.hid (fun W h1 h2 h3 => f_Union (.slice ca cs.length ccp) (.slice ma ms.length mcp) (.slice pa ps.length pcp) cs ms ps (by omega) W h1 h2 h3)
    rw [hE3, hUm] at HFU
    have HE3 := Lib.hid hE3
    have HUm := Lib.hid hUm
    clear hE3 hUm
    obtain ⟨u1, u2⟩ := Um
    go_wp2_with fail
    refine (HFU.out _ (HC.out _ (by ((have shB4 := hB4.size); (try simp at shB4); (repeat' (first | (with_reducible exact Below.refl _ _) | (with_reducible refine Below.setCell ?_ ?_ _) | (with_reducible refine Below.alloc ?_ ?_ _) | (with_reducible refine Below.drew ?_) | (with_reducible refine Below.trans ?_ (Below.mono hB4 ?_)) | go_size))))) (HM.out _ (by ((have shB4 := hB4.size); (try simp at shB4); (repeat' (first | (with_reducible exact Below.refl _ _) | (with_reducible refine Below.setCell ?_ ?_ _) | (with_reducible refine Below.alloc ?_ ?_ _) | (with_reducible refine Below.drew ?_) | (with_reducible refine Below.trans ?_ (Below.mono hB4 ?_)) | go_size))))) (HP.out _ (by ((have shB4 := hB4.size); (try simp at shB4); (repeat' (first | (with_reducible exact Below.refl _ _) | (with_reducible refine Below.setCell ?_ ?_ _) | (with_reducible refine Below.alloc ?_ ?_ _) | (with_reducible refine Below.drew ?_) | (with_reducible refine Below.trans ?_ (Below.mono hB4 ?_)) | go_size)))))).mono ?_
    rintro e w5 ⟨rfl, hb5⟩
    have hB5 : Below w.heap.size w w5 := by ((have shb5 := hb5.size); (try simp at shb5); (have shB4 := hB4.size); (try simp at shB4); (repeat' (first | (with_reducible exact Below.refl _ _) | (with_reducible refine Below.setCell ?_ ?_ _) | (with_reducible refine Below.alloc ?_ ?_ _) | (with_reducible refine Below.drew ?_) | (with_reducible refine Below.trans ?_ (Below.mono hb5 ?_)) | (with_reducible refine Below.trans ?_ (Below.mono hB4 ?_)) | go_size)))
    have h45 : Below w4.heap.size w4 w5 := by ((have shb5 := hb5.size); (try simp at shb5); (repeat' (first | (with_reducible exact Below.refl _ _) | (with_reducible refine Below.setCell ?_ ?_ _) | (with_reducible refine Below.alloc ?_ ?_ _) | (with_reducible refine Below.drew ?_) | (with_reducible refine Below.trans ?_ (Below.mono hb5 ?_)) | go_size)))
    have ha2 : w3.heap.size < w4.heap.size := by have := hb4.size; simp at this; omega
    have l0_5 := (h45.cell (p := ⟨w.heap.size, 0, none⟩) (by first | omega | (simp; done) | (simp; omega))).trans l0_4
    have l1_5 := (h45.cell (p := ⟨w.heap.size, 1, none⟩) (by first | omega | (simp; done) | (simp; omega))).trans l1_4
    have d0_5 := (h45.cell (p := ⟨w.heap.size + 1, 0, none⟩) (by first | omega | (simp; done) | (simp; omega))).trans d0_4
    have d1_5 := (h45.cell (p := ⟨w.heap.size + 1, 1, none⟩) (by first | omega | (simp; done) | (simp; omega))).trans d1_4
    have d2_5 := (h45.cell (p := ⟨w.heap.size + 1, 2, none⟩) (by first | omega | (simp; done) | (simp; omega))).trans d2_4
    have d3_5 := (h45.cell (p := ⟨w.heap.size + 1, 3, none⟩) (by first | omega | (simp; done) | (simp; omega))).trans d3_4
    have a0_5 := (h45.cell (p := ⟨w3.heap.size, 0, none⟩) (by first | omega | (simp; done) | (simp; omega))).trans a0_4
    have a1_5 := (h45.cell (p := ⟨w3.heap.size, 1, none⟩) (by first | omega | (simp; done) | (simp; omega))).trans a1_4
    have zz0_5 : w.heap.size < w5.heap.size := (by have := h45.size; (try simp at this); omega)
    have zz1_5 : w.heap.size + 1 < w5.heap.size := (by have := h45.size; (try simp at this); omega)
    have zz2_5 : w3.heap.size < w5.heap.size := (by have := h45.size; (try simp at this); omega)
    clear l0_4 l1_4 d0_4 d1_4 d2_4 d3_4 a0_4 a1_4
    have r0_5 : w5.cell? ⟨w4.heap.size, 0, none⟩ = some (.slice ra CR.length rc) := (hb5.cell (p := ⟨w4.heap.size, 0, none⟩) (by simp)).trans (by go_simp)
    have r1_5 : w5.cell? ⟨w4.heap.size, 1, none⟩ = some (.slice ta MR.length tc) := (hb5.cell (p := ⟨w4.heap.size, 1, none⟩) (by simp)).trans (by go_simp)
    have zr_5 : w4.heap.size < w5.heap.size := by have := hb5.size; simp at this; omega
    go_wp2_with fail
    refine (r13Right _ _ cs ms _ (HC.out _ (by ((have shB5 := hB5.size); (try simp at shB5); (repeat' (first | (with_reducible exact Below.refl _ _) | (with_reducible refine Below.setCell ?_ ?_ _) | (with_reducible refine Below.alloc ?_ ?_ _) | (with_reducible refine Below.drew ?_) | (with_reducible refine Below.trans ?_ (Below.mono hB5 ?_)) | go_size))))) (HM.out _ (by ((have shB5 := hB5.size); (try simp at shB5); (repeat' (first | (with_reducible exact Below.refl _ _) | (with_reducible refine Below.setCell ?_ ?_ _) | (with_reducible refine Below.alloc ?_ ?_ _) | (with_reducible refine Below.drew ?_) | (with_reducible refine Below.trans ?_ (Below.mono hB5 ?_)) | go_size)))))).mono ?_
    rintro e w6 ⟨rfl, hb6⟩
    have hB6 : Below w.heap.size w w6 := by ((have shb6 := hb6.size); (try simp at shb6); (have shB5 := hB5.size); (try simp at shB5); (repeat' (first | (with_reducible exact Below.refl _ _) | (with_reducible refine Below.setCell ?_ ?_ _) | (with_reducible refine Below.alloc ?_ ?_ _) | (with_reducible refine Below.drew ?_) | (with_reducible refine Below.trans ?_ (Below.mono hb6 ?_)) | (with_reducible refine Below.trans ?_ (Below.mono hB5 ?_)) | go_size)))
    have h56 : Below w5.heap.size w5 w6 := by ((have shb6 := hb6.size); (try simp at shb6); (repeat' (first | (with_reducible exact Below.refl _ _) | (with_reducible refine Below.setCell ?_ ?_ _) | (with_reducible refine Below.alloc ?_ ?_ _) | (with_reducible refine Below.drew ?_) | (with_reducible refine Below.trans ?_ (Below.mono hb6 ?_)) | go_size)))
    have h36 : Below w3.heap.size w3 w6 := by ((have sh56 := h56.size); (try simp at sh56); (have sh45 := h45.size); (try simp at sh45); (have sh34 := h34.size); (try simp at sh34); (repeat' (first | (with_reducible exact Below.refl _ _) | (with_reducible refine Below.setCell ?_ ?_ _) | (with_reducible refine Below.alloc ?_ ?_ _) | (with_reducible refine Below.drew ?_) | (with_reducible refine Below.trans ?_ (Below.mono h56 ?_)) | (with_reducible refine Below.trans ?_ (Below.mono h45 ?_)) | (with_reducible refine Below.trans ?_ (Below.mono h34 ?_)) | go_size)))
    have h46 : Below w4.heap.size w4 w6 := by ((have sh56 := h56.size); (try simp at sh56); (have sh45 := h45.size); (try simp at sh45); (repeat' (first | (with_reducible exact Below.refl _ _) | (with_reducible refine Below.setCell ?_ ?_ _) | (with_reducible refine Below.alloc ?_ ?_ _) | (with_reducible refine Below.drew ?_) | (with_reducible refine Below.trans ?_ (Below.mono h56 ?_)) | (with_reducible refine Below.trans ?_ (Below.mono h45 ?_)) | go_size)))
    have ha1 : w.heap.size + 1 < w3.heap.size := zz1_3
    have ha3 : w4.heap.size < w5.heap.size := zr_5
    have hs6 := hb6.size
    simp at hs6
    have BD6 := Lib.hid (show BoxD w6 w.heap.size w3.heap.size w4.heap.size w5.heap.size (.slice ca cs.length ccp) (.slice ma ms.length mcp) s (.slice va vec.length vcp) (.slice sa ss.length scp) (.slice pa ps.length pcp) (.slice xa CA.length xc) (.slice ya MA.length yc) (.slice ra CR.length rc) (.slice ta MR.length tc) (.int .u64 (U u1)) (.int .u64 (U u2)) from
      ⟨(h56.cell (p := ⟨w.heap.size, 0, none⟩) (by simp; omega)).trans l0_5, (h56.cell (p := ⟨w.heap.size, 1, none⟩) (by simp; omega)).trans l1_5, (h56.cell (p := ⟨w.heap.size + 1, 0, none⟩) (by simp; omega)).trans d0_5, (h56.cell (p := ⟨w.heap.size + 1, 1, none⟩) (by simp; omega)).trans d1_5, (h56.cell (p := ⟨w.heap.size + 1, 2, none⟩) (by simp; omega)).trans d2_5, (h56.cell (p := ⟨w.heap.size + 1, 3, none⟩) (by simp; omega)).trans d3_5,
       (h56.cell (p := ⟨w3.heap.size, 0, none⟩) (by simp; omega)).trans a0_5, (h56.cell (p := ⟨w3.heap.size, 1, none⟩) (by simp; omega)).trans a1_5, (h56.cell (p := ⟨w4.heap.size, 0, none⟩) (by simp; omega)).trans r0_5, (h56.cell (p := ⟨w4.heap.size, 1, none⟩) (by simp; omega)).trans r1_5,
       (hb6.cell (p := ⟨w5.heap.size, 0, none⟩) (by simp; omega)).trans (by go_simp), (hb6.cell (p := ⟨w5.heap.size, 1, none⟩) (by simp; omega)).trans (by go_simp), (hb6.cell (p := ⟨w5.heap.size + 1, 0, none⟩) (by simp)).trans (by go_simp), (hb6.cell (p := ⟨w5.heap.size + 1, 1, none⟩) (by simp)).trans (by go_simp),
       by omega, by omega, by omega, by omega, by omega, by omega⟩)
    have hs61 : w5.heap.size + 1 < w6.heap.size := by omega
    clear l0_5 l1_5 d0_5 d1_5 d2_5 d3_5 a0_5 a1_5 r0_5 r1_5 hb6 h56 h45 h34 hb2 hb3 hb4 hb5 hs6 zz0_1 zz1_1 zz0_2 zz1_2 zz0_3 zz1_3 zz0_4 zz1_4 zz0_5 zz1_5 zz2_5 zr_5 z1w0 z1w1 hv50 hs120 hp40
    replace HA1 := Lib.hid (fun W (hb : Below w6.heap.size w6 W) => HA1.out W (h36.trans (hb.mono h36.size)))
    replace HA2 := Lib.hid (fun W (hb : Below w6.heap.size w6 W) => HA2.out W (h36.trans (hb.mono h36.size)))
    replace HR1 := Lib.hid (fun W (hb : Below w6.heap.size w6 W) => HR1.out W (h46.trans (hb.mono h46.size)))
    replace HR2 := Lib.hid (fun W (hb : Below w6.heap.size w6 W) => HR2.out W (h46.trans (hb.mono h46.size)))
    clear h36 h46 HFU
    obtain ⟨l0c, l1c, d0c, d1c, d2c, d3c, a0c, a1c, r0c, r1c, u0c, u1c, n0c, n1c, zB, zB1, z5, z7, z9, z91⟩ := BD6.out
    cases hok : listsOK cs ms
    case false =>
      obtain rfl : E1 = 230 := by rw [← HE1.out]; exact add_bad hok s vec
      obtain ⟨ea1, ea2⟩ := add_none (cs := cs) (ms := ms) (s := s) (vec := vec) (.inl (by rw [HE1.out]; decide))
      obtain rfl : CA = [] := by rw [← HCA.out]; exact ea1
      obtain rfl : MA = [] := by rw [← HMA.out]; exact ea2
      have er : remE cs ms ss = 230 := by unfold remE; rw [if_pos hok]
      obtain rfl : E2 = 230 := by rw [← HE2.out]; exact er
      obtain rfl : CR = [] := by rw [← HCR.out]; unfold remC; rw [if_neg (by rw [er]; decide)]
      obtain rfl : MR = [] := by rw [← HMR.out]; unfold remM; rw [if_neg (by rw [er]; decide)]
      have eu := union_bad hok ps
      obtain rfl : E3 = 230 := by rw [← HE3.out]; exact eu
      have hu : ((u1, u2) : M) = mZero := by rw [← HUm.out]; unfold unionM; rw [if_neg (by rw [eu]; decide)]
      obtain ⟨rfl, rfl⟩ : u1 = 0#64 ∧ u2 = 0#64 := by unfold mZero at hu; exact ⟨congrArg Prod.fst hu, congrArg Prod.snd hu⟩
      rw [U_zero] at u0c u1c BD6
      clear ea1 ea2 er eu hu hok HE1 HE2 HE3 HUm HCA HMA HCR HMR
      go_wp2_with fail
      refine (r13Same (.slice xa 0 xc) (.slice ya 0 yc) (.slice none 0 0) (.slice none 0 0) [] [] [] [] _ (HA1.out _ (by ((repeat' (first | (with_reducible exact Below.refl _ _) | (with_reducible refine Below.setCell ?_ ?_ _) | (with_reducible refine Below.alloc ?_ ?_ _) | (with_reducible refine Below.drew ?_) | (with_reducible refine Below.trans ?_ (Below.mono (by assumption) ?_)) | go_size))))) (HA2.out _ (by ((repeat' (first | (with_reducible exact Below.refl _ _) | (with_reducible refine Below.setCell ?_ ?_ _) | (with_reducible refine Below.alloc ?_ ?_ _) | (with_reducible refine Below.drew ?_) | (with_reducible refine Below.trans ?_ (Below.mono (by assumption) ?_)) | go_size))))) (VecsV.nil _) (Sl.nilS _)).mono ?_
      rintro e w7 ⟨rfl, hb7⟩
      rw [sameL_refl]
      have BD7 := Lib.hid (BD6.out.go (n := w6.heap.size) (by omega) (by omega) (by omega) (by omega) hb7)
      clear l0c l1c d0c d1c d2c d3c a0c a1c r0c r1c u0c u1c n0c n1c zB zB1 z5 z7 z9 z91
      obtain ⟨l0c, l1c, d0c, d1c, d2c, d3c, a0c, a1c, r0c, r1c, u0c, u1c, n0c, n1c, zB, zB1, z5, z7, z9, z91⟩ := BD7.out
      go_wp2_with fail
      refine (r13Same (.slice ra 0 rc) (.slice ta 0 tc) (.slice none 0 0) (.slice none 0 0) [] [] [] [] _ (HR1.out _ hb7) (HR2.out _ hb7) (VecsV.nil _) (Sl.nilS _)).mono ?_
      rintro e w8 ⟨rfl, hb8⟩
      rw [sameL_refl]
      have BD8 := Lib.hid (BD7.out.go (n := w7.heap.size) (by have := hb7.size; omega) (by have := hb7.size; omega) (by have := hb7.size; omega) (by have := hb7.size; omega) hb8)
      clear l0c l1c d0c d1c d2c d3c a0c a1c r0c r1c u0c u1c n0c n1c zB zB1 z5 z7 z9 z91
      obtain ⟨l0c, l1c, d0c, d1c, d2c, d3c, a0c, a1c, r0c, r1c, u0c, u1c, n0c, n1c, zB, zB1, z5, z7, z9, z91⟩ := BD8.out
      go_wp2
      go_ret
      exact ⟨rfl, by ((have shb8 := hb8.size); (try simp at shb8); (have shb7 := hb7.size); (try simp at shb7); (have shB6 := hB6.size); (try simp at shB6); (repeat' (first | (with_reducible exact Below.refl _ _) | (with_reducible refine Below.setCell ?_ ?_ _) | (with_reducible refine Below.alloc ?_ ?_ _) | (with_reducible refine Below.drew ?_) | (with_reducible refine Below.trans ?_ (Below.mono hb8 ?_)) | (with_reducible refine Below.trans ?_ (Below.mono hb7 ?_)) | (with_reducible refine Below.trans ?_ (Below.mono hB6 ?_)) | go_size)))⟩
    case true =>
      have HOK := Lib.hid hok
      clear hok
      go_upto_block 0 with fail
      obtain ⟨w7, hw7⟩ : ∃ w7, w6.alloc (.cells #[.slice ca cs.length ccp, .slice ma ms.length mcp] 25) = w7 := ⟨_, rfl⟩
      have hb67 : Below w6.heap.size w6 w7 := by rw [← hw7]; exact (Below.refl _ _).alloc (Nat.le_refl _) _
      have BW7 := Lib.hid (show BoxW w7 w6.heap.size (.slice ca cs.length ccp) (.slice ma ms.length mcp) from ⟨by rw [← hw7]; clear hw7; go_simp, by rw [← hw7]; clear hw7; go_simp, by rw [← hw7]; clear hw7; go_simp, by rw [← hw7]; clear hw7; go_simp, by rw [← hw7]; simp⟩)
      rw [hw7]
      have hB7 : Below w.heap.size w w7 := by ((have shb67 := hb67.size); (try simp at shb67); (have shB6 := hB6.size); (try simp at shB6); (repeat' (first | (with_reducible exact Below.refl _ _) | (with_reducible refine Below.setCell ?_ ?_ _) | (with_reducible refine Below.alloc ?_ ?_ _) | (with_reducible refine Below.drew ?_) | (with_reducible refine Below.trans ?_ (Below.mono hb67 ?_)) | (with_reducible refine Below.trans ?_ (Below.mono hB6 ?_)) | go_size)))
      have hs67 : w6.heap.size < w7.heap.size := BW7.out.lt
      have BD7 := Lib.hid (BD6.out.go (n := w6.heap.size) (by omega) (by omega) (by omega) (by omega) hb67)
      clear hw7 l0c l1c d0c d1c d2c d3c a0c a1c r0c r1c u0c u1c n0c n1c zB zB1 z5 z7 z9 z91
      go_cut [13] from 94 to 134 (fun no wc => ∃ (X0 X1 : Value) (WC : List PV) (WM : List M), no = .int .i64 E1 ∧ BoxW wc w6.heap.size X0 X1 ∧ VecsV wc X0 WC ∧ Masks wc X1 WM ∧ (E1 = 0 → sameL CA MA WC WM = true) ∧ Below w6.heap.size w7 wc)
      case first =>
        have hb7_7 : Below w6.heap.size w7 w7 := Below.refl _ _
        obtain ⟨l0c, l1c, d0c, d1c, d2c, d3c, a0c, a1c, r0c, r1c, u0c, u1c, n0c, n1c, zB, zB1, z5, z7, z9, z91⟩ := BD7.out
        go_wp2_with fail
        refine (r_Slot s _).mono ?_
        rintro e W ⟨rfl, hW⟩
        rw [hW]
        clear hW W
        by_cases hsl : 0 ≤ s ∧ s < 96
        case neg =>
          have hd : decide (0 ≤ s ∧ s < 96) = false := decide_eq_false hsl
          rw [hd]
          obtain rfl : E1 = 2 := by rw [← HE1.out]; exact add_two HOK.out vec (.inr (by rw [slotsB_one]; exact hd))
          go_wp2
          go_meet
          case rel => exact ⟨_, _, cs, ms, rfl, BW7.out, HC.out _ hB7, HM.out _ hB7, fun h => absurd h (by decide), hb7_7⟩
        have hd : decide (0 ≤ s ∧ s < 96) = true := decide_eq_true hsl
        rw [hd]
        have HSB := Lib.hid (show slotsB [s] = true by rw [slotsB_one]; exact hd)
        clear hd
        go_wp2_with fail
        refine (r13Where _ _ cs ms s _ (HC.out _ hB7) (HM.out _ hB7)).mono ?_
        rintro e w8 ⟨rfl, hb8⟩
        have hB8 : Below w.heap.size w w8 := by ((have shb8 := hb8.size); (try simp at shb8); (have shB7 := hB7.size); (try simp at shB7); (repeat' (first | (with_reducible exact Below.refl _ _) | (with_reducible refine Below.setCell ?_ ?_ _) | (with_reducible refine Below.alloc ?_ ?_ _) | (with_reducible refine Below.drew ?_) | (with_reducible refine Below.trans ?_ (Below.mono hb8 ?_)) | (with_reducible refine Below.trans ?_ (Below.mono hB7 ?_)) | go_size)))
        have hs8 := hb8.size
        have BD8 := Lib.hid (BD7.out.go (n := w7.heap.size) (by omega) (by omega) (by omega) (by omega) hb8)
        have BW8 := Lib.hid (BW7.out.go (n := w7.heap.size) (by omega) hb8)
        have hb7_8 : Below w6.heap.size w7 w8 := by ((have shb8 := hb8.size); (try simp at shb8); (have shb7_7 := hb7_7.size); (try simp at shb7_7); (repeat' (first | (with_reducible exact Below.refl _ _) | (with_reducible refine Below.setCell ?_ ?_ _) | (with_reducible refine Below.alloc ?_ ?_ _) | (with_reducible refine Below.drew ?_) | (with_reducible refine Below.trans ?_ (Below.mono hb8 ?_)) | (with_reducible refine Below.trans ?_ (Below.mono hb7_7 ?_)) | go_size)))
        clear l0c l1c d0c d1c d2c d3c a0c a1c r0c r1c u0c u1c n0c n1c zB zB1 z5 z7 z9 z91
        obtain ⟨l0c, l1c, d0c, d1c, d2c, d3c, a0c, a1c, r0c, r1c, u0c, u1c, n0c, n1c, zB, zB1, z5, z7, z9, z91⟩ := BD8.out
        have hw2 := where_two HOK.out s
        obtain ⟨F, hF⟩ : ∃ F, firstM ms s = F := ⟨_, rfl⟩
        rw [hF] at hw2 ⊢
        clear hF
        by_cases hF0 : 0 ≤ F
        case pos =>
          have hd : decide (0 ≤ F) = true := decide_eq_true hF0
          have HW2 := Lib.hid (hw2.trans hd)
          clear hw2
          obtain rfl : E1 = 2 := by rw [← HE1.out]; exact add_two HOK.out vec (.inl HW2.out)
          go_wp2
          go_meet
          case rel => exact ⟨_, _, cs, ms, rfl, BW8.out, HC.out _ hB8, HM.out _ hB8, fun h => absurd h (by decide), hb7_8⟩
        have hd : decide (0 ≤ F) = false := decide_eq_false hF0
        have HW2 := Lib.hid (hw2.trans hd)
        clear hw2
        go_wp2_with fail
        refine (r5Right _ vec _ (HV.out _ hB8)).mono ?_
        rintro e w9 ⟨rfl, hb9⟩
        have hB9 : Below w.heap.size w w9 := by ((have shb9 := hb9.size); (try simp at shb9); (have shB8 := hB8.size); (try simp at shB8); (repeat' (first | (with_reducible exact Below.refl _ _) | (with_reducible refine Below.setCell ?_ ?_ _) | (with_reducible refine Below.alloc ?_ ?_ _) | (with_reducible refine Below.drew ?_) | (with_reducible refine Below.trans ?_ (Below.mono hb9 ?_)) | (with_reducible refine Below.trans ?_ (Below.mono hB8 ?_)) | go_size)))
        have hs9 := hb9.size
        have BD9 := Lib.hid (BD8.out.go (n := w8.heap.size) (by omega) (by omega) (by omega) (by omega) hb9)
        have BW9 := Lib.hid (BW8.out.go (n := w8.heap.size) (by omega) hb9)
        have hb7_9 : Below w6.heap.size w7 w9 := by ((have shb9 := hb9.size); (try simp at shb9); (have shb7_8 := hb7_8.size); (try simp at shb7_8); (repeat' (first | (with_reducible exact Below.refl _ _) | (with_reducible refine Below.setCell ?_ ?_ _) | (with_reducible refine Below.alloc ?_ ?_ _) | (with_reducible refine Below.drew ?_) | (with_reducible refine Below.trans ?_ (Below.mono hb9 ?_)) | (with_reducible refine Below.trans ?_ (Below.mono hb7_8 ?_)) | go_size)))
        clear l0c l1c d0c d1c d2c d3c a0c a1c r0c r1c u0c u1c n0c n1c zB zB1 z5 z7 z9 z91
        obtain ⟨l0c, l1c, d0c, d1c, d2c, d3c, a0c, a1c, r0c, r1c, u0c, u1c, n0c, n1c, zB, zB1, z5, z7, z9, z91⟩ := BD9.out
        cases hvk : vecOK vec
        case false =>
          obtain rfl : E1 = 150 := by rw [← HE1.out]; exact add_vec HOK.out HW2.out HSB.out hvk
          go_wp2
          go_meet
          case rel => exact ⟨_, _, cs, ms, rfl, BW9.out, HC.out _ hB9, HM.out _ hB9, fun h => absurd h (by decide), hb7_9⟩
        have HVk := Lib.hid hvk
        clear hvk hd hF0
        by_cases hcs : cs = []
        case pos =>
          have hz : ((cs.length : Int) == 0) = true := beq_iff_eq.2 (by rw [hcs]; rfl)
          have hml := ok_len HOK.out
          have HSm := Lib.hid (show sameL CA MA cs ms = true by
            obtain ⟨h1, h2⟩ := add_none (cs := cs) (ms := ms) (s := s) (vec := vec) (.inr hcs)
            rw [← HCA.out, ← HMA.out, h1, h2]
            have : ms = [] := List.eq_nil_of_length_eq_zero (by rw [hml, hcs]; rfl)
            rw [this, hcs]; rfl)
          have HEm := Lib.hid (add_empty HOK.out HW2.out HSB.out HVk.out hcs)
          clear hcs hml
          obtain rfl : E1 = 0 := by rw [← HE1.out]; exact HEm.out
          go_wp2
          go_meet
          case rel => exact ⟨_, _, cs, ms, rfl, BW9.out, HC.out _ hB9, HM.out _ hB9, fun _ => HSm.out, hb7_9⟩
        have h0 : 0 < cs.length := List.length_pos_iff.2 hcs
        have hz : ((cs.length : Int) == 0) = false := beq_eq_false_iff_ne.2 (by omega)
        have HCS := Lib.hid hcs
        clear hcs
        obtain ⟨al', cpl', el, -, -, lc⟩ := (HC.out _ hB9).open
        simp only [Value.slice.injEq, true_and] at el
        obtain ⟨rfl, rfl⟩ := el
        obtain ⟨gl, ol, rfl, hltl, gp⟩ := lc 0 h0
        have hv0 := (HC.out _ hB9).2 cs[0] (List.getElem_mem h0)
        have hd0 : cs[0].2.length = dim0 cs := (dim0_get h0).symm
        clear lc
        obtain ⟨va0, vc0, hv0e, -⟩ := hv0.form
        rw [hv0e, Nat.add_zero] at gp
        rw [hd0] at gp
        clear hv0 hv0e hd0
        generalize hDd : dim0 cs = d at *
        go_wp2
        clear hz
        refine wp_grow [] 10 (by kernel_rfl) (by kernel_rfl) (by rfl) (by rfl) ?_
        simp only [List.take_succ_cons, List.take_zero, List.drop_succ_cons, List.drop_zero]
        repeat (first
          | (apply Der.quiet; (rfl); (rfl); (intro w' hw' hctx; have hc' := bcell hw'; have yw0 := fun o => hw'.cell (p := ⟨w.heap.size, o, none⟩) (by first | omega | (simp; done) | (simp; omega)); have yw1 := fun o => hw'.cell (p := ⟨w.heap.size + 1, o, none⟩) (by first | omega | (simp; done) | (simp; omega)); have yl := hw'.cell (p := ⟨gl, ol, none⟩) (by first | omega | (simp; omega)); clear hctx; go_simp; first | exact rfl | exact ⟨rfl, rfl⟩); simp only [Act.put, List.setIfInBounds_toArray, List.set_cons_succ, List.set_cons_zero, Nat.reduceAdd])
          | (apply Der.skip; (rfl); simp only [Act.put, List.setIfInBounds_toArray, List.set_cons_succ, List.set_cons_zero, Nat.reduceAdd]))
        refine Der.nil (fun w10 hgw10 hctx => ?_)
        clear hctx
        have hb10 : Below _ _ w10 := hgw10
        clear hgw10
        have z10w0 : w.heap.size < w10.heap.size := (by have := hb10.size; (try simp at this); omega)
        have q10w0 := fun o => hb10.cell (p := ⟨w.heap.size, o, none⟩) (by first | omega | (simp; done) | (simp; omega))
        have r10w0 := fun o => hb10.frozen (p := ⟨w.heap.size, o, none⟩) (by first | omega | (simp; done) | (simp; omega))
        have z10w1 : w.heap.size + 1 < w10.heap.size := (by have := hb10.size; (try simp at this); omega)
        have q10w1 := fun o => hb10.cell (p := ⟨w.heap.size + 1, o, none⟩) (by first | omega | (simp; done) | (simp; omega))
        have r10w1 := fun o => hb10.frozen (p := ⟨w.heap.size + 1, o, none⟩) (by first | omega | (simp; done) | (simp; omega))
        have hb910 : Below w9.heap.size w9 w10 := by ((have shb10 := hb10.size); (try simp at shb10); (repeat' (first | (with_reducible exact Below.refl _ _) | (with_reducible refine Below.setCell ?_ ?_ _) | (with_reducible refine Below.alloc ?_ ?_ _) | (with_reducible refine Below.drew ?_) | (with_reducible refine Below.trans ?_ (Below.mono hb10 ?_)) | go_size)))
        have hs10 := hb910.size
        have hB10 : Below w.heap.size w w10 := by ((have shb910 := hb910.size); (try simp at shb910); (have shB9 := hB9.size); (try simp at shB9); (repeat' (first | (with_reducible exact Below.refl _ _) | (with_reducible refine Below.setCell ?_ ?_ _) | (with_reducible refine Below.alloc ?_ ?_ _) | (with_reducible refine Below.drew ?_) | (with_reducible refine Below.trans ?_ (Below.mono hb910 ?_)) | (with_reducible refine Below.trans ?_ (Below.mono hB9 ?_)) | go_size)))
        have BD10 := Lib.hid (BD9.out.go (n := w9.heap.size) (by omega) (by omega) (by omega) (by omega) hb910)
        have BW10 := Lib.hid (BW9.out.go (n := w9.heap.size) (by omega) hb910)
        have hb7_10 : Below w6.heap.size w7 w10 := by ((have shb910 := hb910.size); (try simp at shb910); (have shb7_9 := hb7_9.size); (try simp at shb7_9); (repeat' (first | (with_reducible exact Below.refl _ _) | (with_reducible refine Below.setCell ?_ ?_ _) | (with_reducible refine Below.alloc ?_ ?_ _) | (with_reducible refine Below.drew ?_) | (with_reducible refine Below.trans ?_ (Below.mono hb910 ?_)) | (with_reducible refine Below.trans ?_ (Below.mono hb7_9 ?_)) | go_size)))
        clear l0c l1c d0c d1c d2c d3c a0c a1c r0c r1c u0c u1c n0c n1c zB zB1 z5 z7 z9 z91 hb10 z10w0 z10w1 q10w0 q10w1 r10w0 r10w1
        obtain ⟨l0c, l1c, d0c, d1c, d2c, d3c, a0c, a1c, r0c, r1c, u0c, u1c, n0c, n1c, zB, zB1, z5, z7, z9, z91⟩ := BD10.out
        by_cases hdm : vec.length = d
        case neg =>
          have hdn : ((vec.length : Int) != (d : Int)) = true := bne_iff_ne.2 (by omega)
          have HEm := Lib.hid (add_dim HOK.out HW2.out HSB.out HVk.out HCS.out (by rw [hDd]; exact hdm))
          clear hdm hDd
          obtain rfl : E1 = 151 := by rw [← HE1.out]; exact HEm.out
          go_wp2
          go_meet
          case rel => exact ⟨_, _, cs, ms, rfl, BW10.out, HC.out _ hB10, HM.out _ hB10, fun h => absurd h (by decide), hb7_10⟩
        have hdn : ((vec.length : Int) != (d : Int)) = false := by rw [hdm]; simp
        have hdd : vec.length = dim0 cs := by rw [hDd]; exact hdm
        have HEm := Lib.hid (add_good HOK.out HW2.out HSB.out HVk.out HCS.out hdd)
        have HNF := Lib.hid (show vecsE ((.slice va vec.length vcp, vec) :: cs) = 0 by rw [near_fit (ok_cents HOK.out) h0 HVk.out, if_pos hdd])
        have HAD := Lib.hid (add_done HEm.out HCS.out)
        clear hdd hdm hDd gp
        have hss : isSlot s := hsl
        have hple : bestK (farD cs vec) (cs.length - 1) < ms.length := by
          have h1 := bestK_le (farD cs vec) (cs.length - 1)
          have h2 := ok_len HOK.out
          omega
        have HNr := Lib.hid (fun W h1 h2 => r5Nearest (.slice (some ⟨gl, ol, none⟩) cs.length ccp) (.slice va vec.length vcp) cs vec W h1 h2 h0 HNF.out)
        obtain ⟨p, hp⟩ : ∃ p, bestK (farD cs vec) (cs.length - 1) = p := ⟨_, rfl⟩
        rw [hp] at HAD HNr hple
        clear hp
        have HWi := Lib.hid (fun W h1 h2 => r13With (.slice (some ⟨gl, ol, none⟩) cs.length ccp) (.slice ma ms.length mcp) cs ms p s hple hss (by omega) W h1 h2 HN.out)
        clear hss
        go_wp2
        refine wp_grow [(5, .val (.int .i64 (p : Int))), (8, .rel (fun v w => ∃ q1 q2, v = .agg #[.slice (some ⟨gl, ol, none⟩) cs.length ccp, .slice q1 ms.length q2] ∧ w.ownsRow w10.heap.size 49 2 (.slice q1 ms.length q2) ms.length (cellsM (withL (putD p s) ms ms.length))) (fun _ _ _ h hg => by obtain ⟨q1, q2, e, h⟩ := h; exact ⟨q1, q2, e, owns_below h hg⟩))] 9 (by kernel_rfl) (by kernel_rfl) (by rfl) (by rfl) ?_
        simp only [List.take_succ_cons, List.take_zero, List.drop_succ_cons, List.drop_zero]
        repeat (first
          | (apply Der.quiet; (rfl); (rfl); (intro w' hw' hctx; have hc' := bcell hw'; have yw0 := fun o => hw'.cell (p := ⟨w.heap.size, o, none⟩) (by first | omega | (simp; done) | (simp; omega)); have yw1 := fun o => hw'.cell (p := ⟨w.heap.size + 1, o, none⟩) (by first | omega | (simp; done) | (simp; omega)); clear hctx; go_simp; first | exact rfl | exact ⟨rfl, rfl⟩); simp only [Act.put, List.setIfInBounds_toArray, List.set_cons_succ, List.set_cons_zero, Nat.reduceAdd])
          | (apply Der.skip; (rfl); simp only [Act.put, List.setIfInBounds_toArray, List.set_cons_succ, List.set_cons_zero, Nat.reduceAdd]))
        apply Der.val
        · rfl
        · rfl
        · (intro w' hw' hctx; go_simp; refine (HNr.out _ (HC.out _ (hB10.trans (((Below.refl _ w10).drew.trans hw').mono hB10.size))) (HV.out _ (hB10.trans (((Below.refl _ w10).drew.trans hw').mono hB10.size)))).mono ?_; rintro e w2 ⟨rfl, hb⟩; exact ⟨_, rfl, rfl, hb⟩)
        simp only [Act.put, List.setIfInBounds_toArray, List.set_cons_succ, List.set_cons_zero, Nat.reduceAdd]
        repeat (first
          | (apply Der.quiet; (rfl); (rfl); (intro w' hw' hctx; have hc' := bcell hw'; have yw0 := fun o => hw'.cell (p := ⟨w.heap.size, o, none⟩) (by first | omega | (simp; done) | (simp; omega)); have yw1 := fun o => hw'.cell (p := ⟨w.heap.size + 1, o, none⟩) (by first | omega | (simp; done) | (simp; omega)); clear hctx; go_simp; first | exact rfl | exact ⟨rfl, rfl⟩); simp only [Act.put, List.setIfInBounds_toArray, List.set_cons_succ, List.set_cons_zero, Nat.reduceAdd])
          | (apply Der.skip; (rfl); simp only [Act.put, List.setIfInBounds_toArray, List.set_cons_succ, List.set_cons_zero, Nat.reduceAdd]))
        refine Der.rel (by rfl) (by rfl) (fun w' hw' hctx => ?_) (fun v8 => ?_)
        · (go_simp; refine (HWi.out _ (HC.out _ (hB10.trans (((Below.refl _ w10).drew.trans hw').mono hB10.size))) (HM.out _ (hB10.trans (((Below.refl _ w10).drew.trans hw').mono hB10.size)))).mono ?_; rintro e w2 ⟨⟨v, rfl, hI⟩, hb⟩; obtain ⟨q1, q2, rfl⟩ := own_slice hI; exact ⟨_, rfl, ⟨q1, q2, rfl, own_weaken hI hw'.size⟩, hb⟩)
        simp only [Act.put, List.setIfInBounds_toArray, List.set_cons_succ, List.set_cons_zero, Nat.reduceAdd]
        refine Der.nil (fun w11 hg11 hctx => ?_)
        obtain ⟨q1, q2, rfl, hown⟩ : ∃ q1 q2, v8 = .agg #[.slice (some ⟨gl, ol, none⟩) cs.length ccp, .slice q1 ms.length q2] ∧ w11.ownsRow w10.heap.size 49 2 (.slice q1 ms.length q2) ms.length (cellsM (withL (putD p s) ms ms.length)) := hctx 8 _ _ (by decide) rfl rfl
        have hb11 : Below w10.heap.size w10 w11 := (Below.refl _ w10).drew.trans hg11
        have HOw := Lib.hid hown
        clear hctx hg11 hown
        have hB11 : Below w.heap.size w w11 := by ((have shb11 := hb11.size); (try simp at shb11); (have shB10 := hB10.size); (try simp at shB10); (repeat' (first | (with_reducible exact Below.refl _ _) | (with_reducible refine Below.setCell ?_ ?_ _) | (with_reducible refine Below.alloc ?_ ?_ _) | (with_reducible refine Below.drew ?_) | (with_reducible refine Below.trans ?_ (Below.mono hb11 ?_)) | (with_reducible refine Below.trans ?_ (Below.mono hB10 ?_)) | go_size)))
        have hs11 := hb11.size
        have BD11 := Lib.hid (BD10.out.go (n := w10.heap.size) (by omega) (by omega) (by omega) (by omega) hb11)
        have BW11 := Lib.hid (BW10.out.go (n := w10.heap.size) (by omega) hb11)
        have hb7_11 : Below w6.heap.size w7 w11 := by ((have shb11 := hb11.size); (try simp at shb11); (have shb7_10 := hb7_10.size); (try simp at shb7_10); (repeat' (first | (with_reducible exact Below.refl _ _) | (with_reducible refine Below.setCell ?_ ?_ _) | (with_reducible refine Below.alloc ?_ ?_ _) | (with_reducible refine Below.drew ?_) | (with_reducible refine Below.trans ?_ (Below.mono hb11 ?_)) | (with_reducible refine Below.trans ?_ (Below.mono hb7_10 ?_)) | go_size)))
        clear l0c l1c d0c d1c d2c d3c a0c a1c r0c r1c u0c u1c n0c n1c zB zB1 z5 z7 z9 z91
        obtain ⟨l0c, l1c, d0c, d1c, d2c, d3c, a0c, a1c, r0c, r1c, u0c, u1c, n0c, n1c, zB, zB1, z5, z7, z9, z91⟩ := BD11.out
        obtain ⟨x0, x1, xf0, xf1, zx⟩ := BW11.out
        obtain rfl : E1 = 0 := by rw [← HE1.out]; exact HEm.out
        have HSm := Lib.hid (show sameL CA MA cs (withL (putD p s) ms ms.length) = true by rw [← HCA.out, ← HMA.out, HAD.out.1, HAD.out.2]; exact sameL_refl _ _)
        go_wp2
        go_meet
        case rel => exact ⟨_, _, cs, withL (putD p s) ms ms.length, rfl, ⟨by go_simp, by go_simp, by go_simp, by go_simp, by simp; omega⟩, HC.out _ (by ((have shB11 := hB11.size); (try simp at shB11); (repeat' (first | (with_reducible exact Below.refl _ _) | (with_reducible refine Below.setCell ?_ ?_ _) | (with_reducible refine Below.alloc ?_ ?_ _) | (with_reducible refine Below.drew ?_) | (with_reducible refine Below.trans ?_ (Below.mono hB11 ?_)) | go_size)))), Masks.of_own (own_setCell (own_setCell HOw.out (by omega) _) (by omega) _) (withL_length _ _ _).symm, fun _ => HSm.out, by ((have shb7_11 := hb7_11.size); (try simp at shb7_11); (repeat' (first | (with_reducible exact Below.refl _ _) | (with_reducible refine Below.setCell ?_ ?_ _) | (with_reducible refine Below.alloc ?_ ?_ _) | (with_reducible refine Below.drew ?_) | (with_reducible refine Below.trans ?_ (Below.mono hb7_11 ?_)) | go_size)))⟩
      case rest =>
        obtain ⟨X0, X1, WC, WM, rfl, hbw, hWC, hWM, hsame, hbc⟩ := hcut
        obtain ⟨wk, hwk⟩ : ∃ wk, wk = wc := ⟨_, rfl⟩
        subst hwk
        obtain ⟨pX, cX, rfl, -⟩ := hWC.open
        obtain ⟨pY, cY, rfl, -⟩ := hWM.open
        have HWC := Lib.hid hWC
        have HWM := Lib.hid hWM
        have HSame := Lib.hid hsame
        have BWk := Lib.hid hbw
        have hBk : Below w.heap.size w wk := by ((have shbc := hbc.size); (try simp at shbc); (have shB7 := hB7.size); (try simp at shB7); (repeat' (first | (with_reducible exact Below.refl _ _) | (with_reducible refine Below.setCell ?_ ?_ _) | (with_reducible refine Below.alloc ?_ ?_ _) | (with_reducible refine Below.drew ?_) | (with_reducible refine Below.trans ?_ (Below.mono hbc ?_)) | (with_reducible refine Below.trans ?_ (Below.mono hB7 ?_)) | go_size)))
        have h6k : Below w6.heap.size w6 wk := by ((have shbc := hbc.size); (try simp at shbc); (have shb67 := hb67.size); (try simp at shb67); (repeat' (first | (with_reducible exact Below.refl _ _) | (with_reducible refine Below.setCell ?_ ?_ _) | (with_reducible refine Below.alloc ?_ ?_ _) | (with_reducible refine Below.drew ?_) | (with_reducible refine Below.trans ?_ (Below.mono hbc ?_)) | (with_reducible refine Below.trans ?_ (Below.mono hb67 ?_)) | go_size)))
        have BDk := Lib.hid (BD7.out.go (n := w6.heap.size) (by omega) (by omega) (by omega) (by omega) hbc)
        clear hbw hWC hWM hsame
        obtain ⟨l0c, l1c, d0c, d1c, d2c, d3c, a0c, a1c, r0c, r1c, u0c, u1c, n0c, n1c, zB, zB1, z5, z7, z9, z91⟩ := BDk.out
        obtain ⟨x0, x1, xf0, xf1, zx⟩ := BWk.out
        go_upto_region 20 with fail
        go_cut [157] from 135 to 157 (fun c wd => c = .bool false ∧ Below wk.heap.size wk wd)
        case first =>
          by_cases hE0 : E1 = 0
          · have hsm := HSame.out hE0
            subst hE0
            have HSm := Lib.hid hsm
            clear hsm
            go_wp2_with fail
            refine (r13Same (.slice xa CA.length xc) (.slice ya MA.length yc) (.slice pX WC.length cX) (.slice pY WM.length cY) CA WC MA WM _ (HA1.out _ h6k) (HA2.out _ h6k) HWC.out HWM.out).mono ?_
            rintro e wd ⟨rfl, hbd⟩
            rw [HSm.out]
            go_wp2
            go_meet
            case rel => exact ⟨rfl, hbd⟩
          · obtain ⟨ea1, ea2⟩ := add_none (cs := cs) (ms := ms) (s := s) (vec := vec) (.inl (by rw [HE1.out]; exact hE0))
            obtain rfl : CA = [] := by rw [← HCA.out]; exact ea1
            obtain rfl : MA = [] := by rw [← HMA.out]; exact ea2
            have he1 : (E1 == 0) = false := beq_eq_false_iff_ne.2 hE0
            have he2 : (E1 != 0) = true := bne_iff_ne.2 hE0
            have he3 : (E1 != E1) = false := by simp
            clear ea1 ea2
            go_wp2_with fail
            refine (r13Same (.slice xa 0 xc) (.slice ya 0 yc) (.slice none 0 0) (.slice none 0 0) [] [] [] [] _ (HA1.out _ h6k) (HA2.out _ h6k) (VecsV.nil _) (Sl.nilS _)).mono ?_
            rintro e wd ⟨rfl, hbd⟩
            rw [sameL_refl]
            go_wp2
            go_meet
            case rel => exact ⟨rfl, hbd⟩
        case rest =>
          obtain ⟨rfl, hbd⟩ := hcut
          obtain ⟨wl, hwl⟩ : ∃ wl, wl = wc := ⟨_, rfl⟩
          subst hwl
          have hBl : Below w.heap.size w wl := by ((have shbd := hbd.size); (try simp at shbd); (have shBk := hBk.size); (try simp at shBk); (repeat' (first | (with_reducible exact Below.refl _ _) | (with_reducible refine Below.setCell ?_ ?_ _) | (with_reducible refine Below.alloc ?_ ?_ _) | (with_reducible refine Below.drew ?_) | (with_reducible refine Below.trans ?_ (Below.mono hbd ?_)) | (with_reducible refine Below.trans ?_ (Below.mono hBk ?_)) | go_size)))
          have h6l : Below w6.heap.size w6 wl := by ((have shbd := hbd.size); (try simp at shbd); (have sh6k := h6k.size); (try simp at sh6k); (repeat' (first | (with_reducible exact Below.refl _ _) | (with_reducible refine Below.setCell ?_ ?_ _) | (with_reducible refine Below.alloc ?_ ?_ _) | (with_reducible refine Below.drew ?_) | (with_reducible refine Below.trans ?_ (Below.mono hbd ?_)) | (with_reducible refine Below.trans ?_ (Below.mono h6k ?_)) | go_size)))
          have hsk : w5.heap.size + 1 < wk.heap.size := z91
          have hsl := hbd.size
          have BDl := Lib.hid (BDk.out.go (n := wk.heap.size) (by omega) (by omega) (by omega) (by omega) hbd)
          have BWl := Lib.hid (BWk.out.go (n := wk.heap.size) (by omega) hbd)
          clear l0c l1c d0c d1c d2c d3c a0c a1c r0c r1c u0c u1c n0c n1c zB zB1 z5 z7 z9 z91 x0 x1 xf0 xf1 zx HWC HWM HSame
          obtain ⟨l0c, l1c, d0c, d1c, d2c, d3c, a0c, a1c, r0c, r1c, u0c, u1c, n0c, n1c, zB, zB1, z5, z7, z9, z91⟩ := BDl.out
          obtain ⟨x0, x1, xf0, xf1, zx⟩ := BWl.out
          go_wp2
          go_loopw [13, 162] (fun no i wr => ∃ (k : Nat) (Y : Value), k ≤ ss.length ∧ i = .int .i64 k ∧ no = .int .i64 (noK (ss.take k)) ∧ BoxW wr w6.heap.size (.slice ca cs.length ccp) Y ∧ Masks wr Y (ms.map (delK (ss.take k))) ∧ Below w6.heap.size wl wr) (fun _ i _ => ss.length - (intOf i).toNat)
          case atStart => exact ⟨0, .slice ma ms.length mcp, Nat.zero_le _, rfl, by simp [noK], ⟨by go_simp, by go_simp, by go_simp, by go_simp, by simp; omega⟩, by
              have h1 := HM.out ((wl.setCell ⟨w6.heap.size, 0, none⟩ (.slice ca cs.length ccp)).setCell ⟨w6.heap.size, 1, none⟩ (.slice ma ms.length mcp)) (by ((have shBl := hBl.size); (try simp at shBl); (repeat' (first | (with_reducible exact Below.refl _ _) | (with_reducible refine Below.setCell ?_ ?_ _) | (with_reducible refine Below.alloc ?_ ?_ _) | (with_reducible refine Below.drew ?_) | (with_reducible refine Below.trans ?_ (Below.mono hBl ?_)) | go_size))))
              have e : ms.map (delK (ss.take 0)) = ms := by rw [List.take_zero]; exact (List.map_congr_left fun _ _ => rfl).trans (List.map_id ms)
              rw [e]; exact h1, by ((repeat' (first | (with_reducible exact Below.refl _ _) | (with_reducible refine Below.setCell ?_ ?_ _) | (with_reducible refine Below.alloc ?_ ?_ _) | (with_reducible refine Below.drew ?_) | (with_reducible refine Below.trans ?_ (Below.mono (by assumption) ?_)) | go_size)))⟩
          case round =>
            obtain ⟨k, Y, hk, rfl, rfl, hbw, hMk, hbr⟩ := hrel
            obtain ⟨wm, hwm⟩ : ∃ wm, wm = wr := ⟨_, rfl⟩
            subst hwm
            have BWm := Lib.hid hbw
            have HMk := Lib.hid hMk
            have hsm := hbr.size
            have BDm := Lib.hid (BDl.out.go (n := w6.heap.size) (by omega) (by omega) (by omega) (by omega) hbr)
            have hBm : Below w.heap.size w wm := by ((have shbr := hbr.size); (try simp at shbr); (have shBl := hBl.size); (try simp at shBl); (repeat' (first | (with_reducible exact Below.refl _ _) | (with_reducible refine Below.setCell ?_ ?_ _) | (with_reducible refine Below.alloc ?_ ?_ _) | (with_reducible refine Below.drew ?_) | (with_reducible refine Below.trans ?_ (Below.mono hbr ?_)) | (with_reducible refine Below.trans ?_ (Below.mono hBl ?_)) | go_size)))
            obtain ⟨pY, cY, rfl, -⟩ := hMk.open
            clear hbw hMk l0c l1c d0c d1c d2c d3c a0c a1c r0c r1c u0c u1c n0c n1c zB zB1 z5 z7 z9 z91 x0 x1 xf0 xf1 zx
            obtain ⟨l0c, l1c, d0c, d1c, d2c, d3c, a0c, a1c, r0c, r1c, u0c, u1c, n0c, n1c, zB, zB1, z5, z7, z9, z91⟩ := BDm.out
            obtain ⟨x0, x1, xf0, xf1, zx⟩ := BWm.out
            by_cases hlt2 : k < ss.length
            · obtain ⟨a2, cap2, e2, -, -, cc⟩ := (HS.out _ hBm).open
              simp only [Value.slice.injEq, true_and] at e2
              obtain ⟨rfl, rfl⟩ := e2
              obtain ⟨g, off, rfl, hlt, g1⟩ := cc k hlt2
              have HY1 := Lib.hid (fun h => del_hit (ms := ms) hlt2 h)
              have HY2 := Lib.hid (fun h => del_miss (ms := ms) hlt2 h)
              have HN1 := Lib.hid (fun h => noK_hit hlt2 h)
              have HN2 := Lib.hid (fun h => noK_miss hlt2 h)
              clear cc
              generalize ss[k] = n at *
              obtain ⟨MK, hMK⟩ : ∃ MK, ms.map (delK (ss.take k)) = MK := ⟨_, rfl⟩
              have hml : MK.length = ms.length := by rw [← hMK]; simp
              rw [hMK] at HY1 HY2 HMk x1 BWm
              have HML := Lib.hid hml
              have hmk20 : MK.length ≤ 20 := by omega
              clear hMK hml
              obtain ⟨NK, hNK⟩ : ∃ NK, noK (ss.take k) = NK := ⟨_, rfl⟩
              rw [hNK] at HN1 ⊢
              clear hNK
              go_wp2_with fail
              refine (r_Slot n _).mono ?_
              rintro e W ⟨rfl, hW⟩
              rw [hW]
              clear hW W
              by_cases hns : 0 ≤ n ∧ n < 96
              · have hd : decide (0 ≤ n ∧ n < 96) = true := decide_eq_true hns
                rw [hd]
                have HYk := Lib.hid (HY1.out hns)
                have HNk := Lib.hid (HN1.out hns)
                clear hd hns HY1 HY2 HN1 HN2
                go_wp2_with fail
                refine (r13Without (.slice ca cs.length ccp) (.slice pY MK.length cY) cs MK n (by omega) _ (HC.out _ hBm) HMk.out).mono ?_
                rintro e wq ⟨⟨v, rfl, hv⟩, hbq⟩
                have HOv := Lib.hid hv
                obtain ⟨q1, q2, rfl⟩ := own_slice hv
                have hsq := hbq.size
                have BWq := Lib.hid (BWm.out.go (n := wm.heap.size) (by omega) hbq)
                have hb6q : Below w6.heap.size wl wq := by ((have shbq := hbq.size); (try simp at shbq); (have shbr := hbr.size); (try simp at shbr); (repeat' (first | (with_reducible exact Below.refl _ _) | (with_reducible refine Below.setCell ?_ ?_ _) | (with_reducible refine Below.alloc ?_ ?_ _) | (with_reducible refine Below.drew ?_) | (with_reducible refine Below.trans ?_ (Below.mono hbq ?_)) | (with_reducible refine Below.trans ?_ (Below.mono hbr ?_)) | go_size)))
                clear hv x0 x1 xf0 xf1 l0c l1c d0c d1c d2c d3c a0c a1c r0c r1c u0c u1c n0c n1c
                obtain ⟨x0, x1, xf0, xf1, zx2⟩ := BWq.out
                go_wp2
                go_roundw
                case rel => exact ⟨k + 1, .slice q1 MK.length q2, by omega, by go_num, by rw [HNk.out], ⟨by go_simp, by go_simp, by go_simp, by go_simp, by simp; omega⟩, by
                    rw [HYk.out]
                    exact Masks.of_own (own_setCell (own_setCell HOv.out (by omega) _) (by omega) _) (withL_length _ _ _).symm, by ((have shb6q := hb6q.size); (try simp at shb6q); (repeat' (first | (with_reducible exact Below.refl _ _) | (with_reducible refine Below.setCell ?_ ?_ _) | (with_reducible refine Below.alloc ?_ ?_ _) | (with_reducible refine Below.drew ?_) | (with_reducible refine Below.trans ?_ (Below.mono hb6q ?_)) | go_size)))⟩
                case measure => simp [intOf]; omega
              · have hd : decide (0 ≤ n ∧ n < 96) = false := decide_eq_false hns
                rw [hd]
                have HYk := Lib.hid (HY2.out hns)
                have HNk := Lib.hid (HN2.out hns)
                clear hd hns HY1 HY2 HN1 HN2
                go_wp2
                go_roundw
                case rel => exact ⟨k + 1, _, by omega, by go_num, by rw [HNk.out], BWm.out, by rw [HYk.out]; exact HMk.out, hbr⟩
                case measure => simp [intOf]; omega
            · have : k = ss.length := by omega
              subst this
              rw [List.take_length] at HMk ⊢
              have hrn := rem_no HOK.out ss
              rw [HE2.out, HCR.out, HMR.out] at hrn
              obtain ⟨hen, hrn1, hrn2⟩ := hrn
              obtain ⟨MK, hMK⟩ : ∃ MK, ms.map (delK ss) = MK := ⟨_, rfl⟩
              rw [List.take_length] at x1 BWm
              rw [hMK] at HMk hrn1 x1 BWm
              rw [← hen] at hrn1 hrn2 ⊢
              have HR1n := Lib.hid hrn1
              have HR2n := Lib.hid hrn2
              have h6m : Below w6.heap.size w6 wm := by ((have shbr := hbr.size); (try simp at shbr); (have sh6l := h6l.size); (try simp at sh6l); (repeat' (first | (with_reducible exact Below.refl _ _) | (with_reducible refine Below.setCell ?_ ?_ _) | (with_reducible refine Below.alloc ?_ ?_ _) | (with_reducible refine Below.drew ?_) | (with_reducible refine Below.trans ?_ (Below.mono hbr ?_)) | (with_reducible refine Below.trans ?_ (Below.mono h6l ?_)) | go_size)))
              clear hMK hen hrn1 hrn2
              go_upto_region 30 with fail
              go_cut [195] from 173 to 195 (fun c wd => c = .bool false ∧ Below wm.heap.size wm wd)
              case first =>
                by_cases hE0 : E2 = 0
                · obtain ⟨rfl, rfl⟩ := HR1n.out hE0
                  subst hE0
                  go_wp2_with fail
                  refine (r13Same (.slice ra CR.length rc) (.slice ta MR.length tc) (.slice ca CR.length ccp) (.slice pY MR.length cY) CR CR MR MR _ (HR1.out _ h6m) (HR2.out _ h6m) (HC.out _ hBm) HMk.out).mono ?_
                  rintro e wd ⟨rfl, hbd⟩
                  rw [sameL_refl]
                  go_wp2
                  go_meet
                  case rel => exact ⟨rfl, hbd⟩
                · obtain ⟨rfl, rfl⟩ := HR2n.out hE0
                  have he1 : (E2 == 0) = false := beq_eq_false_iff_ne.2 hE0
                  have he2 : (E2 != 0) = true := bne_iff_ne.2 hE0
                  have he3 : (E2 != E2) = false := by simp
                  go_wp2_with fail
                  refine (r13Same (.slice ra 0 rc) (.slice ta 0 tc) (.slice none 0 0) (.slice none 0 0) [] [] [] [] _ (HR1.out _ h6m) (HR2.out _ h6m) (VecsV.nil _) (Sl.nilS _)).mono ?_
                  rintro e wd ⟨rfl, hbd⟩
                  rw [sameL_refl]
                  go_wp2
                  go_meet
                  case rel => exact ⟨rfl, hbd⟩
              case rest =>
                obtain ⟨rfl, hbd⟩ := hcut
                obtain ⟨wn, hwn⟩ : ∃ wn, wn = wc := ⟨_, rfl⟩
                subst hwn
                have hBn : Below w.heap.size w wn := by ((have shbd := hbd.size); (try simp at shbd); (have shBm := hBm.size); (try simp at shBm); (repeat' (first | (with_reducible exact Below.refl _ _) | (with_reducible refine Below.setCell ?_ ?_ _) | (with_reducible refine Below.alloc ?_ ?_ _) | (with_reducible refine Below.drew ?_) | (with_reducible refine Below.trans ?_ (Below.mono hbd ?_)) | (with_reducible refine Below.trans ?_ (Below.mono hBm ?_)) | go_size)))
                have hsn := hbd.size
                have BDn := Lib.hid (BDm.out.go (n := wm.heap.size) (by omega) (by omega) (by omega) (by omega) hbd)
                clear l0c l1c d0c d1c d2c d3c a0c a1c r0c r1c u0c u1c n0c n1c zB zB1 z5 z7 z9 z91 x0 x1 xf0 xf1 zx HMk
                obtain ⟨l0c, l1c, d0c, d1c, d2c, d3c, a0c, a1c, r0c, r1c, u0c, u1c, n0c, n1c, zB, zB1, z5, z7, z9, z91⟩ := BDn.out
                have HMsm := Lib.hid (fun k => pick_snoc ms (l := ps) (k := k))
                go_wp2
                go_loopw [199] (fun i wr => ∃ (k : Nat) , k ≤ ps.length ∧ i = .int .i64 k ∧ BoxW wr wn.heap.size (.int .u64 (U (orF (pickM ms (ps.take k))).1)) (.int .u64 (U (orF (pickM ms (ps.take k))).2)) ∧ (∀ n ∈ ps.take k, inL ms n = true) ∧ Below wn.heap.size wn wr) (fun i _ => ps.length - (intOf i).toNat)
                case atStart => exact ⟨0, Nat.zero_le _, rfl, ⟨by rw [List.take_zero, show pickM ms [] = [] from rfl, orF_nil, mZero, U_zero]; go_simp, by rw [List.take_zero, show pickM ms [] = [] from rfl, orF_nil, mZero, U_zero]; go_simp, by go_simp, by go_simp, by simp⟩, by simp, by ((repeat' (first | (with_reducible exact Below.refl _ _) | (with_reducible refine Below.setCell ?_ ?_ _) | (with_reducible refine Below.alloc ?_ ?_ _) | (with_reducible refine Below.drew ?_) | (with_reducible refine Below.trans ?_ (Below.mono (by assumption) ?_)) | go_size)))⟩
                case round =>
                  obtain ⟨k, hk, rfl, hbw, hin, hbr⟩ := hrel
                  obtain ⟨wp, hwp⟩ : ∃ wp, wp = wr := ⟨_, rfl⟩
                  subst hwp
                  have BWp := Lib.hid hbw
                  have HI := Lib.hid hin
                  have hsp := hbr.size
                  have hsnn : w5.heap.size + 1 < wn.heap.size := z91
                  have hsn0 : w.heap.size + 1 < wn.heap.size := zB1
                  have BDp := Lib.hid (BDn.out.go (n := wn.heap.size) (by omega) (by omega) (by omega) (by omega) hbr)
                  have hBp : Below w.heap.size w wp := by ((have shbr := hbr.size); (try simp at shbr); (have shBn := hBn.size); (try simp at shBn); (repeat' (first | (with_reducible exact Below.refl _ _) | (with_reducible refine Below.setCell ?_ ?_ _) | (with_reducible refine Below.alloc ?_ ?_ _) | (with_reducible refine Below.drew ?_) | (with_reducible refine Below.trans ?_ (Below.mono hbr ?_)) | (with_reducible refine Below.trans ?_ (Below.mono hBn ?_)) | go_size)))
                  clear hbw hin l0c l1c d0c d1c d2c d3c a0c a1c r0c r1c u0c u1c n0c n1c zB zB1 z5 z7 z9 z91
                  obtain ⟨l0c, l1c, d0c, d1c, d2c, d3c, a0c, a1c, r0c, r1c, u0c, u1c, n0c, n1c, zB, zB1, z5, z7, z9, z91⟩ := BDp.out
                  obtain ⟨x0, x1, xf0, xf1, zx⟩ := BWp.out
                  by_cases hlt3 : k < ps.length
                  · obtain ⟨a3, cap3, e3, -, -, cc⟩ := (HP.out _ hBp).open
                    simp only [Value.slice.injEq, true_and] at e3
                    obtain ⟨rfl, rfl⟩ := e3
                    obtain ⟨g, off, rfl, hlt, g1⟩ := cc k hlt3
                    have HNo := Lib.hid (union_no HOK.out hlt3)
                    have HAl := Lib.hid (all_in HI.out hlt3)
                    have HSt := Lib.hid (or_step ms hlt3)
                    clear cc
                    generalize ps[k] = n at *
                    obtain ⟨om, hom⟩ : ∃ om, orF (pickM ms (ps.take k)) = om := ⟨_, rfl⟩
                    rw [hom] at HSt x0 x1 BWp
                    clear hom
                    obtain ⟨o1, o2⟩ := om
                    by_cases hn0 : 0 ≤ n
                    · by_cases hn1 : n < ms.length
                      · obtain ⟨j, rfl⟩ : ∃ j : Nat, n = j := ⟨n.toNat, by omega⟩
                        have hj : j < ms.length := by omega
                        have HA := Lib.hid (HAl.out (decide_eq_true ⟨by omega, by omega⟩))
                        obtain ⟨a4, cap4, e4, -, -, mc⟩ := (HM.out _ hBp).open
                        simp only [Value.slice.injEq, true_and] at e4
                        obtain ⟨rfl, rfl⟩ := e4
                        obtain ⟨g', off', rfl, hlt', g2, g3⟩ := mc j hj
                        have hst := HSt.out
                        rw [Int.toNat_natCast, mAt_get hj] at hst
                        clear mc HAl HNo HSt
                        generalize ms[j] = y at *
                        obtain ⟨y1, y2⟩ := y
                        simp only at g2 g3
                        obtain ⟨Z, hZ⟩ : ∃ Z, orF (pickM ms (ps.take (k + 1))) = Z := ⟨_, rfl⟩
                        rw [hZ] at hst
                        have HZ := Lib.hid hZ
                        have HST := Lib.hid hst
                        clear hZ hst
                        obtain ⟨z1, z2⟩ := Z
                        clear l0c d0c d1c d2c d3c a0c a1c r0c r1c u0c u1c n0c n1c z5 z7 z9 z91 zB1
                        go_wp2
                        refine wp_grow [(6, .rel (fun v w => Masks w v [(o1, o2), (y1, y2)]) (fun _ _ _ h hg => h.grown hg)), (7, .val (MV z1 z2))] 8 (by kernel_rfl) (by kernel_rfl) (by rfl) (by rfl) ?_
                        simp only [List.take_succ_cons, List.take_zero, List.drop_succ_cons, List.drop_zero]
                        repeat (first
                          | (apply Der.quiet; (rfl); (rfl); (intro w' hw' hctx; have hc' := bcell hw'; have yw0 := fun o => hw'.cell (p := ⟨w.heap.size, o, none⟩) (by first | omega | (simp; done) | (simp; omega)); have ywn0 := fun o => hw'.cell (p := ⟨wn.heap.size, o, none⟩) (by first | omega | (simp; done) | (simp; omega)); have ym0 := hw'.cell (p := ⟨g', off' + j * 2, none⟩) hlt'; have ym1 := hw'.cell (p := ⟨g', off' + j * 2 + 1, none⟩) hlt'; clear hctx; go_simp; first | exact rfl | exact ⟨rfl, rfl⟩); simp only [Act.put, List.setIfInBounds_toArray, List.set_cons_succ, List.set_cons_zero, Nat.reduceAdd])
                          | (apply Der.skip; (rfl); simp only [Act.put, List.setIfInBounds_toArray, List.set_cons_succ, List.set_cons_zero, Nat.reduceAdd]))
                        refine Der.rel (by rfl) (by rfl) (fun w' hw' hctx => ?_) (fun s1 => ?_)
                        · (go_simp; exact ⟨Sl.fresh w' _ 2 _ rfl (by omega), (Below.refl _ _).alloc (Nat.le_refl _) _⟩)
                        simp only [Act.put, List.setIfInBounds_toArray, List.set_cons_succ, List.set_cons_zero, Nat.reduceAdd]
                        apply Der.val
                        · rfl
                        · rfl
                        · (intro w' hw' hctx; go_simp; refine (r_Or _ [(o1, o2), (y1, y2)] _ (hctx 6 _ _ (by kernel_rfl) rfl rfl)).mono ?_; rintro e w2 ⟨rfl, hb⟩; exact ⟨_, rfl, by rw [show ([(o1, o2), (y1, y2)] : List M).length = 2 from rfl, HST.out], hb⟩)
                        simp only [Act.put, List.setIfInBounds_toArray, List.set_cons_succ, List.set_cons_zero, Nat.reduceAdd]
                        refine Der.nil (fun w14 hgw14 hctx => ?_)
                        clear hctx
                        have hb14 : Below _ _ w14 := hgw14
                        clear hgw14
                        have hbq' : Below wp.heap.size wp w14 := by ((have shb14 := hb14.size); (try simp at shb14); (repeat' (first | (with_reducible exact Below.refl _ _) | (with_reducible refine Below.setCell ?_ ?_ _) | (with_reducible refine Below.alloc ?_ ?_ _) | (with_reducible refine Below.drew ?_) | (with_reducible refine Below.trans ?_ (Below.mono hb14 ?_)) | go_size)))
                        have hsq := hbq'.size
                        have BWq := Lib.hid (BWp.out.go (n := wp.heap.size) (by omega) hbq')
                        have hbnq : Below wn.heap.size wn w14 := by ((have shbq' := hbq'.size); (try simp at shbq'); (have shbr := hbr.size); (try simp at shbr); (repeat' (first | (with_reducible exact Below.refl _ _) | (with_reducible refine Below.setCell ?_ ?_ _) | (with_reducible refine Below.alloc ?_ ?_ _) | (with_reducible refine Below.drew ?_) | (with_reducible refine Below.trans ?_ (Below.mono hbq' ?_)) | (with_reducible refine Below.trans ?_ (Below.mono hbr ?_)) | go_size)))
                        clear x0 x1 xf0 xf1 zx
                        obtain ⟨x0, x1, xf0, xf1, zx⟩ := BWq.out
                        go_wp2
                        go_roundw
                        case rel => exact ⟨k + 1, by omega, by go_num, by rw [HZ.out]; exact ⟨by go_simp, by go_simp, by go_simp, by go_simp, by simp; omega⟩, HA.out, by ((have shbnq := hbnq.size); (try simp at shbnq); (repeat' (first | (with_reducible exact Below.refl _ _) | (with_reducible refine Below.setCell ?_ ?_ _) | (with_reducible refine Below.alloc ?_ ?_ _) | (with_reducible refine Below.drew ?_) | (with_reducible refine Below.trans ?_ (Below.mono hbnq ?_)) | go_size)))⟩
                        case measure => simp [intOf]; omega
                      · have eu := HNo.out (decide_eq_false (by omega))
                        obtain rfl : E3 = 2 := by rw [← HE3.out]; exact eu
                        have hu : ((u1, u2) : M) = mZero := by rw [← HUm.out]; unfold unionM; rw [if_neg (by rw [eu]; decide)]
                        obtain ⟨rfl, rfl⟩ : u1 = 0#64 ∧ u2 = 0#64 := by unfold mZero at hu; exact ⟨congrArg Prod.fst hu, congrArg Prod.snd hu⟩
                        rw [U_zero] at u0c u1c
                        clear eu hu HUm HE3
                        go_wp2
                        go_ret
                        exact ⟨rfl, by ((have shBp := hBp.size); (try simp at shBp); (repeat' (first | (with_reducible exact Below.refl _ _) | (with_reducible refine Below.setCell ?_ ?_ _) | (with_reducible refine Below.alloc ?_ ?_ _) | (with_reducible refine Below.drew ?_) | (with_reducible refine Below.trans ?_ (Below.mono hBp ?_)) | go_size)))⟩
                    · have eu := HNo.out (decide_eq_false (by omega))
                      obtain rfl : E3 = 2 := by rw [← HE3.out]; exact eu
                      have hu : ((u1, u2) : M) = mZero := by rw [← HUm.out]; unfold unionM; rw [if_neg (by rw [eu]; decide)]
                      obtain ⟨rfl, rfl⟩ : u1 = 0#64 ∧ u2 = 0#64 := by unfold mZero at hu; exact ⟨congrArg Prod.fst hu, congrArg Prod.snd hu⟩
                      rw [U_zero] at u0c u1c
                      clear eu hu HUm HE3
                      go_wp2
                      go_ret
                      exact ⟨rfl, by ((have shBp := hBp.size); (try simp at shBp); (repeat' (first | (with_reducible exact Below.refl _ _) | (with_reducible refine Below.setCell ?_ ?_ _) | (with_reducible refine Below.alloc ?_ ?_ _) | (with_reducible refine Below.drew ?_) | (with_reducible refine Below.trans ?_ (Below.mono hBp ?_)) | go_size)))⟩
                  · have : k = ps.length := by omega
                    subst this
                    rw [List.take_length] at x0 x1 HI
                    have eu := union_yes HOK.out HI.out
                    obtain rfl : E3 = 0 := by rw [← HE3.out]; exact eu
                    have hu : orF (pickM ms ps) = (u1, u2) := by rw [← HUm.out]; unfold unionM; rw [if_pos eu]
                    rw [hu] at x0 x1
                    clear eu hu HUm HE3 BWp
                    simp only at x0 x1
                    go_wp2
                    go_ret
                    exact ⟨rfl, by ((have shBp := hBp.size); (try simp at shBp); (repeat' (first | (with_reducible exact Below.refl _ _) | (with_reducible refine Below.setCell ?_ ?_ _) | (with_reducible refine Below.alloc ?_ ?_ _) | (with_reducible refine Below.drew ?_) | (with_reducible refine Below.trans ?_ (Below.mono hBp ?_)) | go_size)))⟩
end Go.Proofs.Ytlfmffjlmhpcdaa
