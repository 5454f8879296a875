/- quiverlaw13.two, quiverlaw13.wakes. -/
import Derived.Test.YtlfmffjlmhpcdaaTwo
import Derived.Test.YtlfmffjlmhpcdaaWhereL
namespace Go.Proofs.Ytlfmffjlmhpcdaa
open Go.RowKit
set_option maxRecDepth 100000
attribute [local irreducible] Der

def twoC (s1 s2 : Value) : List Cel := ((List.replicate 96 freeC).set 0 ⟨true, 2, 1, 0, s1, [4]⟩).set 1 ⟨true, 7, 1, 0, s2, [9]⟩
def twoV (w : World) (v : Value) : Prop := ∃ v' s1 s2, v = .agg #[v'] ∧ CelsV w v' (twoC s1 s2)
theorem twoV.grown {w w' : World} {v : Value} (h : twoV w v) (hb : Below w.heap.size w w') : twoV w' v := by
  obtain ⟨v', s1, s2, e, hc⟩ := h
  exact ⟨v', s1, s2, e, hc.grown hb⟩
theorem vec_one (w : World) (x : Int) : VecV (w.alloc (.cells #[.int .i32 x] 21)) (.slice (some ⟨w.heap.size, 0, none⟩) 1 1) [x] :=
  ⟨Sl.fresh w 21 1 [.int .i32 x] rfl (by omega), NilA.of_some _ _ _⟩
theorem vec_one' (w : World) (x : Int) {b : Nat} (hb : b = w.heap.size) : VecV (w.alloc (.cells #[.int .i32 x] 21)) (.slice (some ⟨b, 0, none⟩) 1 1) [x] := by subst hb; exact vec_one w x
theorem own_one (w : World) (x : Int) {b : Nat} (hb : b = w.heap.size) : (w.alloc (.cells #[.int .i32 x] 21)).ownsRow b 21 1 (.slice (some ⟨b, 0, none⟩) 1 1) 1 [.int .i32 x] := by subst hb; exact owns_built w _ _
theorem vec_own {w : World} {B : Nat} {v : Value} {x : Int} (h : w.ownsRow B 21 1 v 1 [.int .i32 x]) : VecV w v [x] := ⟨Sl.of_owns h, NilA.of_owns h⟩
theorem free_ok (w : World) : ∀ c ∈ List.replicate 96 freeC, VecV w c.sv c.vec := fun c hc => by rw [(List.mem_replicate.1 hc).2]; exact VecV.nil w
theorem set_ok {w : World} {l : List Cel} (h : ∀ c ∈ l, VecV w c.sv c.vec) (k : Nat) {c : Cel} (hc : VecV w c.sv c.vec) : ∀ x ∈ l.set k c, VecV w x.sv x.vec := fun x hx => by
  rcases List.mem_or_eq_of_mem_set hx with h1 | rfl
  · exact h x h1
  · exact hc
set_option maxHeartbeats 4000000 in
theorem l13_two (w : World) : Calls Try.prog 40 #[] w fun e w' => (∃ v, e = .returned v ∧ twoV w' v) ∧ Below w.heap.size w w' := by
  go_enter Try.func40, Try.ntmps40
  go_wp2_with fail
  refine (r9New _).mono ?_
  rintro e w1 ⟨⟨v, rfl, ho⟩, hb1⟩
  obtain ⟨a, c, rfl⟩ := own_slice ho
  have HO := Lib.hid ho
  have hB1 : Below w.heap.size w w1 := by ((have shb1 := hb1.size); (try simp at shb1); (repeat' (first | (with_reducible exact Below.refl _ _) | (with_reducible refine Below.setCell ?_ ?_ _) | (with_reducible refine Below.alloc ?_ ?_ _) | (with_reducible refine Below.drew ?_) | (with_reducible refine Below.trans ?_ (Below.mono hb1 ?_)) | go_size)))
  have z1w0 : w.heap.size < w1.heap.size := (by have := hb1.size; (try simp at this); omega)
  have q1w0 := fun o => hb1.cell (p := ⟨w.heap.size, o, none⟩) (by first | omega | (simp; done) | (simp; omega))
  have r1w0 := fun o => hb1.frozen (p := ⟨w.heap.size, o, none⟩) (by first | omega | (simp; done) | (simp; omega))
  clear ho
  go_wp2_with fail
  have hl0 : (List.replicate 96 freeC).length = 96 := List.length_replicate
  have hV1 := vec_one w1 4
  have HOv := Lib.hid (own_one w1 4 rfl)
  have hA1 : Below w1.heap.size w1 (w1.alloc (.cells #[.int .i32 4] 21)) := (Below.refl _ _).alloc (Nat.le_refl _) _
  have hC1 : CelsV (w1.alloc (.cells #[.int .i32 4] 21)) (.slice a 96 c) (List.replicate 96 freeC) := CelsV.of_own (owns_below HO.out hA1) hl0.symm (free_ok _)
  refine (r9With _ (List.replicate 96 freeC) 0 (by rw [hl0]; omega) (by rw [hl0]; omega) ⟨true, 2, 1, 0, .slice (some ⟨w1.heap.size, 0, none⟩) 1 1, [4]⟩ _ hC1 hV1).mono ?_
  rintro e w2 ⟨⟨v, rfl, ho2⟩, hb2⟩
  rw [hl0] at ho2
  obtain ⟨a2, c2, rfl⟩ := own_slice ho2
  have hB2 : Below w.heap.size w w2 := by ((have shb2 := hb2.size); (try simp at shb2); (have shB1 := hB1.size); (try simp at shB1); (repeat' (first | (with_reducible exact Below.refl _ _) | (with_reducible refine Below.setCell ?_ ?_ _) | (with_reducible refine Below.alloc ?_ ?_ _) | (with_reducible refine Below.drew ?_) | (with_reducible refine Below.trans ?_ (Below.mono hb2 ?_)) | (with_reducible refine Below.trans ?_ (Below.mono hB1 ?_)) | go_size)))
  have hV2 : VecV w2 (.slice (some ⟨w1.heap.size, 0, none⟩) 1 1) [4] := hV1.grown hb2
  have hC2 : CelsV w2 (.slice a2 96 c2) ((List.replicate 96 freeC).set 0 ⟨true, 2, 1, 0, .slice (some ⟨w1.heap.size, 0, none⟩) 1 1, [4]⟩) := CelsV.of_own ho2 (by rw [List.length_set, hl0]) (set_ok (free_ok _) 0 hV2)
  have HC2 := Lib.hid hC2
  have HV2 := Lib.hid hV2
  have d0 : w2.cell? ⟨w.heap.size, 0, none⟩ = some (.slice none 0 0) := (hb2.cell (p := ⟨w.heap.size, 0, none⟩) (by simp; omega)).trans ((hA1.cell (p := ⟨w.heap.size, 0, none⟩) z1w0).trans (by rw [q1w0]; go_simp))
  have d1 : w2.frozen? ⟨w.heap.size, 0, none⟩ = false := (hb2.frozen (p := ⟨w.heap.size, 0, none⟩) (by simp; omega)).trans ((hA1.frozen (p := ⟨w.heap.size, 0, none⟩) z1w0).trans (by rw [r1w0]; go_simp))
  have hs2 : w.heap.size < w2.heap.size := by have := hb2.size; simp at this; omega
  have HN := Lib.hid (fun (s1 : Value) => (show ((List.replicate 96 freeC).set 0 ⟨true, 2, 1, 0, s1, [4]⟩).length = 96 from by rw [List.length_set, hl0]))
  clear ho2 hV1 hC1 hA1 hC2 hV2 q1w0 r1w0 hl0
  go_wp2_with fail
  have hV1 := vec_one' (w2.alloc (.cells #[.slice a2 96 c2] 37)) 9 (b := w2.heap.size + 1) (by simp)
  have HOu := Lib.hid (own_one (w2.alloc (.cells #[.slice a2 96 c2] 37)) 9 (b := w2.heap.size + 1) (by simp))
  have hB3 : Below w2.heap.size w2 ((w2.alloc (.cells #[.slice a2 96 c2] 37)).alloc (.cells #[.int .i32 9] 21)) := by ((repeat' (first | (with_reducible exact Below.refl _ _) | (with_reducible refine Below.setCell ?_ ?_ _) | (with_reducible refine Below.alloc ?_ ?_ _) | (with_reducible refine Below.drew ?_) | (with_reducible refine Below.trans ?_ (Below.mono (by assumption) ?_)) | go_size)))
  refine (r9With (.slice a2 96 c2) ((List.replicate 96 freeC).set 0 ⟨true, 2, 1, 0, .slice (some ⟨w1.heap.size, 0, none⟩) 1 1, [4]⟩) 1 (by rw [HN.out]; omega) (by rw [HN.out]; omega) ⟨true, 7, 1, 0, .slice (some ⟨w2.heap.size + 1, 0, none⟩) 1 1, [9]⟩ _ (HC2.out.grown hB3) hV1).mono ?_
  rintro e w3 ⟨⟨v, rfl, ho3⟩, hb3⟩
  rw [HN.out] at ho3
  obtain ⟨a3, c3, rfl⟩ := own_slice ho3
  have hB4 : Below w.heap.size w w3 := by ((have shb3 := hb3.size); (try simp at shb3); (have shB2 := hB2.size); (try simp at shB2); (repeat' (first | (with_reducible exact Below.refl _ _) | (with_reducible refine Below.setCell ?_ ?_ _) | (with_reducible refine Below.alloc ?_ ?_ _) | (with_reducible refine Below.drew ?_) | (with_reducible refine Below.trans ?_ (Below.mono hb3 ?_)) | (with_reducible refine Below.trans ?_ (Below.mono hB2 ?_)) | go_size)))
  have hC3 : CelsV w3 (.slice a3 96 c3) (twoC (.slice (some ⟨w1.heap.size, 0, none⟩) 1 1) (.slice (some ⟨w2.heap.size + 1, 0, none⟩) 1 1)) :=
    CelsV.of_own ho3 (by unfold twoC; rw [List.length_set, HN.out]) (set_ok (set_ok (free_ok _) 0 ((HV2.out.grown hB3).grown hb3)) 1 (hV1.grown hb3))
  have HC3 := Lib.hid hC3
  have e0 : w3.cell? ⟨w.heap.size, 0, none⟩ = some (.slice none 0 0) := (hb3.cell (p := ⟨w.heap.size, 0, none⟩) (by simp; omega)).trans ((hB3.cell (p := ⟨w.heap.size, 0, none⟩) hs2).trans d0)
  have e1 : w3.frozen? ⟨w.heap.size, 0, none⟩ = false := (hb3.frozen (p := ⟨w.heap.size, 0, none⟩) (by simp; omega)).trans ((hB3.frozen (p := ⟨w.heap.size, 0, none⟩) hs2).trans d1)
  have HW := Lib.hid ho3
  have HOv3 := Lib.hid (owns_below (owns_below (owns_below HOv.out hb2) hB3) hb3)
  have HOu3 := Lib.hid (owns_below HOu.out hb3)
  have hz2 : w1.heap.size ≤ w2.heap.size := by have := hb2.size; simp at this; omega
  clear ho3 hV1 hC3
  go_wp2
  refine bodyPost_ret (v := .agg #[.slice a3 96 c3]) (by simp only [results, Try.results40]; go_simp) rfl ⟨⟨_, rfl, _, .slice (some ⟨w1.heap.size, 0, none⟩) 1 1, .slice (some ⟨w2.heap.size + 1, 0, none⟩) 1 1, rfl, ?_⟩, ?_⟩
  · refine CelsV.of_own (own_setCell HW.out (by simp; omega) _) (by unfold twoC; rw [List.length_set, HN.out]) (set_ok (set_ok (free_ok _) 0 ?_) 1 ?_)
    · exact vec_own (own_setCell HOv3.out (by omega) _)
    · exact vec_own (own_setCell HOu3.out (by omega) _)
  · ((have shB4 := hB4.size); (try simp at shB4); (repeat' (first | (with_reducible exact Below.refl _ _) | (with_reducible refine Below.setCell ?_ ?_ _) | (with_reducible refine Below.alloc ?_ ?_ _) | (with_reducible refine Below.drew ?_) | (with_reducible refine Below.trans ?_ (Below.mono hB4 ?_)) | go_size)))
/-- The lists of the claims' own example. -/
def twoL (u1 u2 : Value) : List PV := [(u1, [0]), (u2, [10])]
def twoM : List M := [(1, 0), (2, 0)]
theorem two_E (s1 s2 u1 u2 : Value) : buildE (twoC s1 s2) (twoL u1 u2) = 0 := by kernel_rfl
theorem two_C (s1 s2 u1 u2 : Value) : buildC (twoC s1 s2) (twoL u1 u2) = twoL u1 u2 := by kernel_rfl
theorem two_M (s1 s2 u1 u2 : Value) : buildMs (twoC s1 s2) (twoL u1 u2) = twoM := by kernel_rfl
theorem two_W (u1 u2 : Value) : whereF (twoL u1 u2) twoM 1 = (1, true) := by kernel_rfl
theorem two_A (s1 s2 u1 u2 : Value) : agreesF (twoL u1 u2) twoM (twoC s1 s2) = true := by kernel_rfl
set_option maxHeartbeats 8000000 in
theorem l13_wakes (w : World) : Calls Try.prog 9 #[] w fun e w' => e = .returned (.bool true) ∧ Below w.heap.size w w' := by
  go_enter Try.func9, Try.ntmps9
  go_wp2_with fail
  refine (l13_two _).mono ?_
  rintro e w1 ⟨⟨v, rfl, hv⟩, hb1⟩
  obtain ⟨v', s1, s2, rfl, hcel⟩ := hv
  obtain ⟨a, cap, rfl, -⟩ := hcel.open
  have HC := Lib.hid (fun W (hb : Below w1.heap.size w1 W) => hcel.grown hb)
  have hB1 : Below w.heap.size w w1 := by ((have shb1 := hb1.size); (try simp at shb1); (repeat' (first | (with_reducible exact Below.refl _ _) | (with_reducible refine Below.setCell ?_ ?_ _) | (with_reducible refine Below.alloc ?_ ?_ _) | (with_reducible refine Below.drew ?_) | (with_reducible refine Below.trans ?_ (Below.mono hb1 ?_)) | go_size)))
  clear hcel
  go_wp2_with fail
  have hV : VecsV (((w1.alloc (.cells #[.int .i32 0] 21)).alloc (.cells #[.int .i32 10] 21)).alloc (.cells #[.slice (some ⟨w1.heap.size, 0, none⟩) 1 1, .slice (some ⟨w1.heap.size + 1, 0, none⟩) 1 1] 56)) (.slice (some ⟨w1.heap.size + 1 + 1, 0, none⟩) 2 2)
      (twoL (.slice (some ⟨w1.heap.size, 0, none⟩) 1 1) (.slice (some ⟨w1.heap.size + 1, 0, none⟩) 1 1)) := by
    refine ⟨⟨Sl.fresh _ 56 2 [.slice (some ⟨w1.heap.size, 0, none⟩) 1 1, .slice (some ⟨w1.heap.size + 1, 0, none⟩) 1 1] (by simp) (by omega), NilA.of_some _ _ _⟩, fun p hp => ?_⟩
    simp only [twoL, List.mem_cons, List.not_mem_nil, or_false] at hp
    rcases hp with rfl | rfl
    · exact (vec_one w1 0).grown (by ((repeat' (first | (with_reducible exact Below.refl _ _) | (with_reducible refine Below.setCell ?_ ?_ _) | (with_reducible refine Below.alloc ?_ ?_ _) | (with_reducible refine Below.drew ?_) | (with_reducible refine Below.trans ?_ (Below.mono (by assumption) ?_)) | go_size))))
    · exact (vec_one' (w1.alloc (.cells #[.int .i32 0] 21)) 10 (by simp)).grown (by ((repeat' (first | (with_reducible exact Below.refl _ _) | (with_reducible refine Below.setCell ?_ ?_ _) | (with_reducible refine Below.alloc ?_ ?_ _) | (with_reducible refine Below.drew ?_) | (with_reducible refine Below.trans ?_ (Below.mono (by assumption) ?_)) | go_size))))
  have hB2 : Below w1.heap.size w1 (((w1.alloc (.cells #[.int .i32 0] 21)).alloc (.cells #[.int .i32 10] 21)).alloc (.cells #[.slice (some ⟨w1.heap.size, 0, none⟩) 1 1, .slice (some ⟨w1.heap.size + 1, 0, none⟩) 1 1] 56)) := by ((repeat' (first | (with_reducible exact Below.refl _ _) | (with_reducible refine Below.setCell ?_ ?_ _) | (with_reducible refine Below.alloc ?_ ?_ _) | (with_reducible refine Below.drew ?_) | (with_reducible refine Below.trans ?_ (Below.mono (by assumption) ?_)) | go_size)))
  refine (f_build _ _ (twoC s1 s2) (twoL _ _) (Nat.le_trans (Nat.le_of_eq (rfl : _ = 2)) (by omega)) _ (HC.out _ hB2) hV).mono ?_
  rintro e w2 ⟨⟨x, rfl, hx⟩, hb2⟩
  rw [two_E]
  rw [two_C, two_M] at hx
  obtain ⟨xa, xc, ya, yc, rfl⟩ := hx.form
  obtain ⟨v1, v2, ev, hz1, hz2, -⟩ := hx.toV (hV.grown hb2).2
  simp only [Value.agg.injEq, Array.mk.injEq, List.cons.injEq, and_true] at ev
  obtain ⟨rfl, rfl⟩ := ev
  have HZ1 := Lib.hid (fun W (hb : Below w2.heap.size w2 W) => hz1.grown hb)
  have HZ2 := Lib.hid (fun W (hb : Below w2.heap.size w2 W) => hz2.grown hb)
  have HCw := Lib.hid (fun W (hb : Below w2.heap.size w2 W) => HC.out W (hB2.trans (hb2.trans (hb.mono hb2.size) |>.mono hB2.size)))
  have hBw : Below w.heap.size w w2 := by ((have shb2 := hb2.size); (try simp at shb2); (have shB2 := hB2.size); (try simp at shB2); (have shB1 := hB1.size); (try simp at shB1); (repeat' (first | (with_reducible exact Below.refl _ _) | (with_reducible refine Below.setCell ?_ ?_ _) | (with_reducible refine Below.alloc ?_ ?_ _) | (with_reducible refine Below.drew ?_) | (with_reducible refine Below.trans ?_ (Below.mono hb2 ?_)) | (with_reducible refine Below.trans ?_ (Below.mono hB2 ?_)) | (with_reducible refine Below.trans ?_ (Below.mono hB1 ?_)) | go_size)))
  clear hx hV hz1 hz2
  generalize (Value.slice (some ⟨w1.heap.size, 0, none⟩) 1 1) = u1 at *
  generalize (Value.slice (some ⟨w1.heap.size + 1, 0, none⟩) 1 1) = u2 at *
  rw [show (twoL u1 u2).length = 2 from rfl] at HZ1 ⊢
  rw [show twoM.length = 2 from rfl] at HZ2 ⊢
  obtain ⟨m, cm, em, -, -, hmc⟩ := (HZ2.out _ (Below.refl _ _)).open
  rw [show twoM.length = 2 from rfl] at em
  simp only [Value.slice.injEq, true_and] at em
  obtain ⟨rfl, rfl⟩ := em
  obtain ⟨b, off, rfl, hlt, g1, g2⟩ := hmc 0 (by decide)
  obtain ⟨b', off', hbo, -, g3, g4⟩ := hmc 1 (by decide)
  simp only [Option.some.injEq, Addr.mk.injEq, and_true] at hbo
  obtain ⟨rfl, rfl⟩ := hbo
  clear hmc
  go_wp2_with fail
  refine (f_Where _ _ (twoL u1 u2) twoM 1 (by decide) _ (HZ1.out _ (by ((repeat' (first | (with_reducible exact Below.refl _ _) | (with_reducible refine Below.setCell ?_ ?_ _) | (with_reducible refine Below.alloc ?_ ?_ _) | (with_reducible refine Below.drew ?_) | (with_reducible refine Below.trans ?_ (Below.mono (by assumption) ?_)) | go_size))))) (HZ2.out _ (by ((repeat' (first | (with_reducible exact Below.refl _ _) | (with_reducible refine Below.setCell ?_ ?_ _) | (with_reducible refine Below.alloc ?_ ?_ _) | (with_reducible refine Below.drew ?_) | (with_reducible refine Below.trans ?_ (Below.mono (by assumption) ?_)) | go_size)))))).mono ?_
  rintro e w3 ⟨rfl, hb3⟩
  rw [two_W]
  have z3w20 : w2.heap.size < w3.heap.size := (by have := hb3.size; (try simp at this); omega)
  have q3w20 := fun o => hb3.cell (p := ⟨w2.heap.size, o, none⟩) (by first | omega | (simp; done) | (simp; omega))
  have r3w20 := fun o => hb3.frozen (p := ⟨w2.heap.size, o, none⟩) (by first | omega | (simp; done) | (simp; omega))
  have hb3' : Below w2.heap.size w2 w3 := by ((have shb3 := hb3.size); (try simp at shb3); (repeat' (first | (with_reducible exact Below.refl _ _) | (with_reducible refine Below.setCell ?_ ?_ _) | (with_reducible refine Below.alloc ?_ ?_ _) | (with_reducible refine Below.drew ?_) | (with_reducible refine Below.trans ?_ (Below.mono hb3 ?_)) | go_size)))
  have hB3 : Below w.heap.size w w3 := by ((have shb3' := hb3'.size); (try simp at shb3'); (have shBw := hBw.size); (try simp at shBw); (repeat' (first | (with_reducible exact Below.refl _ _) | (with_reducible refine Below.setCell ?_ ?_ _) | (with_reducible refine Below.alloc ?_ ?_ _) | (with_reducible refine Below.drew ?_) | (with_reducible refine Below.trans ?_ (Below.mono hb3' ?_)) | (with_reducible refine Below.trans ?_ (Below.mono hBw ?_)) | go_size)))
  have c0 : w3.cell? ⟨w2.heap.size, 0, none⟩ = some (.slice xa 2 xc) := by rw [q3w20]; go_simp
  have c1 : w3.cell? ⟨w2.heap.size, 1, none⟩ = some (.slice (some ⟨b, off, none⟩) 2 yc) := by rw [q3w20]; go_simp
  have e1 : w3.cell? ⟨b, off, none⟩ = some (.int .u64 1) := (hb3'.cell (p := ⟨b, off + 0 * 2, none⟩) hlt).trans g1
  have e2 : w3.cell? ⟨b, off + 1, none⟩ = some (.int .u64 0) := (hb3'.cell (p := ⟨b, off + 0 * 2 + 1, none⟩) hlt).trans g2
  have e3 : w3.cell? ⟨b, off + 2, none⟩ = some (.int .u64 2) := (hb3'.cell (p := ⟨b, off + 1 * 2, none⟩) hlt).trans g3
  have e4 : w3.cell? ⟨b, off + 2 + 1, none⟩ = some (.int .u64 0) := (hb3'.cell (p := ⟨b, off + 1 * 2 + 1, none⟩) hlt).trans g4
  have e5 : w3.cell? ⟨b, off + 3, none⟩ = some (.int .u64 0) := e4
  have hs3 := hb3'.size
  have zb : b < w3.heap.size := by omega
  clear g1 g2 g3 g4 q3w20 r3w20
  go_wp2
  refine wp_grow [(33, .rel (fun v w => twoV w v) (fun _ _ _ h hg => h.grown hg)), (34, .val (.bool true))] 36 (by kernel_rfl) (by kernel_rfl) (by rfl) (by rfl) ?_
  simp only [List.take_succ_cons, List.take_zero, List.drop_succ_cons, List.drop_zero]
  repeat (first
    | (apply Der.quiet; (rfl); (rfl); (intro w' hw' hctx; have hc' := bcell hw'; have yw20 := fun o => hw'.cell (p := ⟨w2.heap.size, o, none⟩) (by first | omega | (simp; done) | (simp; omega)); have yb := fun o => hw'.cell (p := ⟨b, o, none⟩) zb; clear hctx; go_simp; first | exact rfl | exact ⟨rfl, rfl⟩); simp only [Act.put, List.setIfInBounds_toArray, List.set_cons_succ, List.set_cons_zero, Nat.reduceAdd])
    | (apply Der.skip; (rfl); simp only [Act.put, List.setIfInBounds_toArray, List.set_cons_succ, List.set_cons_zero, Nat.reduceAdd]))
  refine Der.rel (by rfl) (by rfl) (fun w' hw' hctx => ?_) (fun k => ?_)
  · (go_simp; refine (l13_two _).mono ?_; rintro e w4 ⟨⟨v, rfl, hv⟩, hb⟩; exact ⟨_, rfl, hv, hb⟩)
  simp only [Act.put, List.setIfInBounds_toArray, List.set_cons_succ, List.set_cons_zero, Nat.reduceAdd]
  refine Der.val (by rfl) (by rfl) (fun w' hw' hctx => ?_) ?_
  · have hk : twoV w' k := (hctx 33 _ _ (by kernel_rfl) rfl rfl)
    clear hctx
    obtain ⟨v', t1, t2, rfl, hcel⟩ := hk
    have hbw' : Below w2.heap.size w2 w' := by have := (undrew hw'); ((have sthis := this.size); (try simp at sthis); (have shb3' := hb3'.size); (try simp at shb3'); (repeat' (first | (with_reducible exact Below.refl _ _) | (with_reducible refine Below.setCell ?_ ?_ _) | (with_reducible refine Below.alloc ?_ ?_ _) | (with_reducible refine Below.drew ?_) | (with_reducible refine Below.trans ?_ (Below.mono this ?_)) | (with_reducible refine Below.trans ?_ (Below.mono hb3' ?_)) | go_size)))
    go_simp
    refine (f_Agrees _ _ _ (twoL u1 u2) twoM (twoC t1 t2) (Nat.le_trans (Nat.le_of_eq (rfl : _ = 2)) (by omega)) _ (HZ1.out _ hbw') (HZ2.out _ hbw') hcel).mono ?_
    rintro e w5 ⟨rfl, hb⟩
    exact ⟨_, rfl, congrArg Value.bool (two_A t1 t2 u1 u2), hb⟩
  simp only [Act.put, List.setIfInBounds_toArray, List.set_cons_succ, List.set_cons_zero, Nat.reduceAdd]
  repeat (first
    | (apply Der.quiet; (rfl); (rfl); (intro w' hw' hctx; have hc' := bcell hw'; clear hctx; go_simp; first | exact rfl | exact ⟨rfl, rfl⟩); simp only [Act.put, List.setIfInBounds_toArray, List.set_cons_succ, List.set_cons_zero, Nat.reduceAdd])
    | (apply Der.skip; (rfl); simp only [Act.put, List.setIfInBounds_toArray, List.set_cons_succ, List.set_cons_zero, Nat.reduceAdd]))
  refine Der.nil (fun w4 hgw4 hctx => ?_)
  clear hctx
  have hb4 : Below _ _ w4 := hgw4
  clear hgw4
  go_wp2
  go_ret
  exact ⟨rfl, by ((have shb4 := hb4.size); (try simp at shb4); (have shB3 := hB3.size); (try simp at shB3); (repeat' (first | (with_reducible exact Below.refl _ _) | (with_reducible refine Below.setCell ?_ ?_ _) | (with_reducible refine Below.alloc ?_ ?_ _) | (with_reducible refine Below.drew ?_) | (with_reducible refine Below.trans ?_ (Below.mono hb4 ?_)) | (with_reducible refine Below.trans ?_ (Below.mono hB3 ?_)) | go_size)))⟩
end Go.Proofs.Ytlfmffjlmhpcdaa
