/- The contract of quiverlaw13.ListsBuilds. (printed by wip/lbuilds.py) -/
import Derived.Test.YtlfmffjlmhpcdaaBuildsLaw
import Derived.Test.YtlfmffjlmhpcdaaWakesL
namespace Go.Proofs.Ytlfmffjlmhpcdaa
open Go.RowKit
set_option maxRecDepth 100000
attribute [local irreducible] Der

theorem same_selfB (cs : List PV) (ms : List M) : sameL cs ms cs ms = true := by unfold sameL; rw [decide_eq_true rfl, decide_eq_true rfl]; rfl
theorem nilVecs (w : World) : VecsV w (.slice none 0 0) [] := ⟨⟨Sl.nilS w, NilA.nil⟩, fun p hp => by cases hp⟩
theorem nilMasks (w : World) : Masks w (.slice none 0 0) [] := Sl.nilS w
theorem overV_le {cs : List PV} (h : overV cs = false) : cs.length ≤ 20 := by
  unfold overV at h
  simp only [Bool.or_eq_false_iff, decide_eq_false_iff_not] at h
  omega
theorem cell_old {w : World} (o : Obj) {p : Addr} (h : p.block < w.heap.size) : (w.alloc o).cell? p = w.cell? p := ((Below.refl w.heap.size w).alloc (Nat.le_refl _) o).cell h
theorem overL_le' {cs : List PV} {ms : List M} (h : overL cs ms = false) : ms.length ≤ 20 ∧ cs.length ≤ 20 := by
  unfold overL overV at h
  simp only [Bool.or_eq_false_iff, decide_eq_false_iff_not] at h
  omega
set_option maxHeartbeats 16000000 in
theorem f_ListsBuilds (vx vl uc um : Value) (cells : List Cel) (cs cs' : List PV) (ms' : List M) (w : World) (hx : CelsV w vx cells) (hc : VecsV w vl cs) (hc' : VecsV w uc cs') (hm' : Masks w um ms') :
    Calls Try.prog 4 #[.agg #[vx], vl, .agg #[uc, um]] w fun e w' => e = .returned (.bool true) ∧ Below w.heap.size w w' := by
  obtain ⟨a, cap, rfl, -⟩ := hx.open
  obtain ⟨al, cpl, rfl, -⟩ := hc.open
  obtain ⟨b, cbp, rfl, -⟩ := hc'.open
  obtain ⟨b', cbp', rfl, -⟩ := hm'.open
  have HX := Lib.hid (fun W (hb : Below w.heap.size w W) => hx.grown hb)
  have HV := Lib.hid (fun W (hb : Below w.heap.size w W) => hc.grown hb)
  have HV' := Lib.hid (fun W (hb : Below w.heap.size w W) => hc'.grown hb)
  have HM' := Lib.hid (fun W (hb : Below w.heap.size w W) => hm'.grown hb)
  clear hx hc hc' hm'
  go_enter Try.func4, Try.ntmps4
  go_wp2_with fail
  refine (l13_wakes _).mono ?_
  rintro e w1 ⟨rfl, hb1⟩
  have z1w0 : w.heap.size < w1.heap.size := (by have := hb1.size; (try simp at this); omega)
  have q1w0 := fun o => hb1.cell (p := ⟨w.heap.size, o, none⟩) (by first | omega | (simp; done) | (simp; omega))
  have r1w0 := fun o => hb1.frozen (p := ⟨w.heap.size, o, none⟩) (by first | omega | (simp; done) | (simp; omega))
  have z1w1 : w.heap.size + 1 < w1.heap.size := (by have := hb1.size; (try simp at this); omega)
  have q1w1 := fun o => hb1.cell (p := ⟨w.heap.size + 1, o, none⟩) (by first | omega | (simp; done) | (simp; omega))
  have r1w1 := fun o => hb1.frozen (p := ⟨w.heap.size + 1, o, none⟩) (by first | omega | (simp; done) | (simp; omega))
  have hB1 : Below w.heap.size w w1 := by ((have shb1 := hb1.size); (try simp at shb1); (repeat' (first | (with_reducible exact Below.refl _ _) | (with_reducible refine Below.setCell ?_ ?_ _) | (with_reducible refine Below.alloc ?_ ?_ _) | (with_reducible refine Below.drew ?_) | (with_reducible refine Below.trans ?_ (Below.mono hb1 ?_)) | go_size)))
  have c0_1 : w1.cell? ⟨w.heap.size, 0, none⟩ = some (.slice a cells.length cap) := by rw [q1w0]; go_simp
  have c1_1 : w1.cell? ⟨w.heap.size + 1, 0, none⟩ = some (.slice b cs'.length cbp) := by rw [q1w1]; go_simp
  have c2_1 : w1.cell? ⟨w.heap.size + 1, 1, none⟩ = some (.slice b' ms'.length cbp') := by rw [q1w1]; go_simp
  clear q1w0 q1w1 r1w0 r1w1 hb1
  cases ho2 : overA cells
  case true =>
    go_wp2_with fail
    refine (l13_overArena _ cells _ (HX.out _ (by ((have shB1 := hB1.size); (try simp at shB1); (repeat' (first | (with_reducible exact Below.refl _ _) | (with_reducible refine Below.setCell ?_ ?_ _) | (with_reducible refine Below.alloc ?_ ?_ _) | (with_reducible refine Below.drew ?_) | (with_reducible refine Below.trans ?_ (Below.mono hB1 ?_)) | go_size)))))).mono ?_
    rintro e w2 ⟨rfl, hb2⟩
    rw [ho2]
    go_wp2
    go_ret
    exact ⟨rfl, by ((have shb2 := hb2.size); (try simp at shb2); (have shB1 := hB1.size); (try simp at shB1); (repeat' (first | (with_reducible exact Below.refl _ _) | (with_reducible refine Below.setCell ?_ ?_ _) | (with_reducible refine Below.alloc ?_ ?_ _) | (with_reducible refine Below.drew ?_) | (with_reducible refine Below.trans ?_ (Below.mono hb2 ?_)) | (with_reducible refine Below.trans ?_ (Below.mono hB1 ?_)) | go_size)))⟩
  case false =>
    go_wp2_with fail
    refine (l13_overArena _ cells _ (HX.out _ (by ((have shB1 := hB1.size); (try simp at shB1); (repeat' (first | (with_reducible exact Below.refl _ _) | (with_reducible refine Below.setCell ?_ ?_ _) | (with_reducible refine Below.alloc ?_ ?_ _) | (with_reducible refine Below.drew ?_) | (with_reducible refine Below.trans ?_ (Below.mono hB1 ?_)) | go_size)))))).mono ?_
    rintro e w2 ⟨rfl, hb2⟩
    rw [ho2]
    have hB2 : Below w.heap.size w w2 := by ((have shb2 := hb2.size); (try simp at shb2); (have shB1 := hB1.size); (try simp at shB1); (repeat' (first | (with_reducible exact Below.refl _ _) | (with_reducible refine Below.setCell ?_ ?_ _) | (with_reducible refine Below.alloc ?_ ?_ _) | (with_reducible refine Below.drew ?_) | (with_reducible refine Below.trans ?_ (Below.mono hb2 ?_)) | (with_reducible refine Below.trans ?_ (Below.mono hB1 ?_)) | go_size)))
    have c0_2 := (hb2.cell (p := ⟨w.heap.size, 0, none⟩) (by first | omega | (simp; done) | (simp; omega))).trans c0_1
    have c1_2 := (hb2.cell (p := ⟨w.heap.size + 1, 0, none⟩) (by first | omega | (simp; done) | (simp; omega))).trans c1_1
    have c2_2 := (hb2.cell (p := ⟨w.heap.size + 1, 1, none⟩) (by first | omega | (simp; done) | (simp; omega))).trans c2_1
    have zz0_2 : w.heap.size < w2.heap.size := (by have := hb2.size; (try simp at this); omega)
    have zz1_2 : w.heap.size + 1 < w2.heap.size := (by have := hb2.size; (try simp at this); omega)
    clear c0_1 c1_1 c2_1
    cases ho3 : overV cs
    case true =>
      go_wp2_with fail
      refine (l13_overVecs _ cs _ (HV.out _ (by ((have shB2 := hB2.size); (try simp at shB2); (repeat' (first | (with_reducible exact Below.refl _ _) | (with_reducible refine Below.setCell ?_ ?_ _) | (with_reducible refine Below.alloc ?_ ?_ _) | (with_reducible refine Below.drew ?_) | (with_reducible refine Below.trans ?_ (Below.mono hB2 ?_)) | go_size)))))).mono ?_
      rintro e w3 ⟨rfl, hb3⟩
      rw [ho3]
      go_wp2
      go_ret
      exact ⟨rfl, by ((have shb3 := hb3.size); (try simp at shb3); (have shB2 := hB2.size); (try simp at shB2); (repeat' (first | (with_reducible exact Below.refl _ _) | (with_reducible refine Below.setCell ?_ ?_ _) | (with_reducible refine Below.alloc ?_ ?_ _) | (with_reducible refine Below.drew ?_) | (with_reducible refine Below.trans ?_ (Below.mono hb3 ?_)) | (with_reducible refine Below.trans ?_ (Below.mono hB2 ?_)) | go_size)))⟩
    case false =>
      go_wp2_with fail
      refine (l13_overVecs _ cs _ (HV.out _ (by ((have shB2 := hB2.size); (try simp at shB2); (repeat' (first | (with_reducible exact Below.refl _ _) | (with_reducible refine Below.setCell ?_ ?_ _) | (with_reducible refine Below.alloc ?_ ?_ _) | (with_reducible refine Below.drew ?_) | (with_reducible refine Below.trans ?_ (Below.mono hB2 ?_)) | go_size)))))).mono ?_
      rintro e w3 ⟨rfl, hb3⟩
      rw [ho3]
      have hB3 : Below w.heap.size w w3 := by ((have shb3 := hb3.size); (try simp at shb3); (have shB2 := hB2.size); (try simp at shB2); (repeat' (first | (with_reducible exact Below.refl _ _) | (with_reducible refine Below.setCell ?_ ?_ _) | (with_reducible refine Below.alloc ?_ ?_ _) | (with_reducible refine Below.drew ?_) | (with_reducible refine Below.trans ?_ (Below.mono hb3 ?_)) | (with_reducible refine Below.trans ?_ (Below.mono hB2 ?_)) | go_size)))
      have c0_3 := (hb3.cell (p := ⟨w.heap.size, 0, none⟩) (by first | omega | (simp; done) | (simp; omega))).trans c0_2
      have c1_3 := (hb3.cell (p := ⟨w.heap.size + 1, 0, none⟩) (by first | omega | (simp; done) | (simp; omega))).trans c1_2
      have c2_3 := (hb3.cell (p := ⟨w.heap.size + 1, 1, none⟩) (by first | omega | (simp; done) | (simp; omega))).trans c2_2
      have zz0_3 : w.heap.size < w3.heap.size := (by have := hb3.size; (try simp at this); omega)
      have zz1_3 : w.heap.size + 1 < w3.heap.size := (by have := hb3.size; (try simp at this); omega)
      clear c0_2 c1_2 c2_2
      cases ho4 : overL cs' ms'
      case true =>
        go_wp2_with fail
        refine (l13_over _ _ cs' ms' _ (HV'.out _ (by ((have shB3 := hB3.size); (try simp at shB3); (repeat' (first | (with_reducible exact Below.refl _ _) | (with_reducible refine Below.setCell ?_ ?_ _) | (with_reducible refine Below.alloc ?_ ?_ _) | (with_reducible refine Below.drew ?_) | (with_reducible refine Below.trans ?_ (Below.mono hB3 ?_)) | go_size))))) (HM'.out _ (by ((have shB3 := hB3.size); (try simp at shB3); (repeat' (first | (with_reducible exact Below.refl _ _) | (with_reducible refine Below.setCell ?_ ?_ _) | (with_reducible refine Below.alloc ?_ ?_ _) | (with_reducible refine Below.drew ?_) | (with_reducible refine Below.trans ?_ (Below.mono hB3 ?_)) | go_size)))))).mono ?_
        rintro e w4 ⟨rfl, hb4⟩
        rw [ho4]
        go_wp2
        go_ret
        exact ⟨rfl, by ((have shb4 := hb4.size); (try simp at shb4); (have shB3 := hB3.size); (try simp at shB3); (repeat' (first | (with_reducible exact Below.refl _ _) | (with_reducible refine Below.setCell ?_ ?_ _) | (with_reducible refine Below.alloc ?_ ?_ _) | (with_reducible refine Below.drew ?_) | (with_reducible refine Below.trans ?_ (Below.mono hb4 ?_)) | (with_reducible refine Below.trans ?_ (Below.mono hB3 ?_)) | go_size)))⟩
      case false =>
        go_wp2_with fail
        refine (l13_over _ _ cs' ms' _ (HV'.out _ (by ((have shB3 := hB3.size); (try simp at shB3); (repeat' (first | (with_reducible exact Below.refl _ _) | (with_reducible refine Below.setCell ?_ ?_ _) | (with_reducible refine Below.alloc ?_ ?_ _) | (with_reducible refine Below.drew ?_) | (with_reducible refine Below.trans ?_ (Below.mono hB3 ?_)) | go_size))))) (HM'.out _ (by ((have shB3 := hB3.size); (try simp at shB3); (repeat' (first | (with_reducible exact Below.refl _ _) | (with_reducible refine Below.setCell ?_ ?_ _) | (with_reducible refine Below.alloc ?_ ?_ _) | (with_reducible refine Below.drew ?_) | (with_reducible refine Below.trans ?_ (Below.mono hB3 ?_)) | go_size)))))).mono ?_
        rintro e w4 ⟨rfl, hb4⟩
        rw [ho4]
        have hB4 : Below w.heap.size w w4 := by ((have shb4 := hb4.size); (try simp at shb4); (have shB3 := hB3.size); (try simp at shB3); (repeat' (first | (with_reducible exact Below.refl _ _) | (with_reducible refine Below.setCell ?_ ?_ _) | (with_reducible refine Below.alloc ?_ ?_ _) | (with_reducible refine Below.drew ?_) | (with_reducible refine Below.trans ?_ (Below.mono hb4 ?_)) | (with_reducible refine Below.trans ?_ (Below.mono hB3 ?_)) | go_size)))
        have c0_4 := (hb4.cell (p := ⟨w.heap.size, 0, none⟩) (by first | omega | (simp; done) | (simp; omega))).trans c0_3
        have c1_4 := (hb4.cell (p := ⟨w.heap.size + 1, 0, none⟩) (by first | omega | (simp; done) | (simp; omega))).trans c1_3
        have c2_4 := (hb4.cell (p := ⟨w.heap.size + 1, 1, none⟩) (by first | omega | (simp; done) | (simp; omega))).trans c2_3
        have zz0_4 : w.heap.size < w4.heap.size := (by have := hb4.size; (try simp at this); omega)
        have zz1_4 : w.heap.size + 1 < w4.heap.size := (by have := hb4.size; (try simp at this); omega)
        clear c0_3 c1_3 c2_3
        have hl1 := overV_le ho3
        have hl2 := (overL_le' ho4)
        clear ho2 ho3 ho4
        go_wp2_with fail
        refine (f_build _ _ cells cs (by omega) _ (HX.out _ (by ((have shB4 := hB4.size); (try simp at shB4); (repeat' (first | (with_reducible exact Below.refl _ _) | (with_reducible refine Below.setCell ?_ ?_ _) | (with_reducible refine Below.alloc ?_ ?_ _) | (with_reducible refine Below.drew ?_) | (with_reducible refine Below.trans ?_ (Below.mono hB4 ?_)) | go_size))))) (HV.out _ (by ((have shB4 := hB4.size); (try simp at shB4); (repeat' (first | (with_reducible exact Below.refl _ _) | (with_reducible refine Below.setCell ?_ ?_ _) | (with_reducible refine Below.alloc ?_ ?_ _) | (with_reducible refine Below.drew ?_) | (with_reducible refine Below.trans ?_ (Below.mono hB4 ?_)) | go_size)))))).mono ?_
        rintro e w5 ⟨⟨x, rfl, hx⟩, hb5⟩
        have hB5 : Below w.heap.size w w5 := by ((have shb5 := hb5.size); (try simp at shb5); (have shB4 := hB4.size); (try simp at shB4); (repeat' (first | (with_reducible exact Below.refl _ _) | (with_reducible refine Below.setCell ?_ ?_ _) | (with_reducible refine Below.alloc ?_ ?_ _) | (with_reducible refine Below.drew ?_) | (with_reducible refine Below.trans ?_ (Below.mono hb5 ?_)) | (with_reducible refine Below.trans ?_ (Below.mono hB4 ?_)) | go_size)))
        have c0_5 := (hb5.cell (p := ⟨w.heap.size, 0, none⟩) (by first | omega | (simp; done) | (simp; omega))).trans c0_4
        have c1_5 := (hb5.cell (p := ⟨w.heap.size + 1, 0, none⟩) (by first | omega | (simp; done) | (simp; omega))).trans c1_4
        have c2_5 := (hb5.cell (p := ⟨w.heap.size + 1, 1, none⟩) (by first | omega | (simp; done) | (simp; omega))).trans c2_4
        have zz0_5 : w.heap.size < w5.heap.size := (by have := hb5.size; (try simp at this); omega)
        have zz1_5 : w.heap.size + 1 < w5.heap.size := (by have := hb5.size; (try simp at this); omega)
        clear c0_4 c1_4 c2_4
        have HBmem := Lib.hid (fun p (hp : p ∈ buildC cells cs) => ((HV.out w (Below.refl _ _)).2 p (buildC_mem hp)).grown hB5)
        obtain ⟨xa, xc, ya, yc, rfl⟩ := hx.form
        obtain ⟨v1, v2, ev, hz1, hz2, -⟩ := hx.toV HBmem.out
        simp only [Value.agg.injEq, Array.mk.injEq, List.cons.injEq, and_true] at ev
        obtain ⟨rfl, rfl⟩ := ev
        have HZ1 := Lib.hid (fun W (hb : Below w5.heap.size w5 W) => hz1.grown hb)
        have HZ2 := Lib.hid (fun W (hb : Below w5.heap.size w5 W) => hz2.grown hb)
        clear hx hz1 hz2 HBmem
        obtain ⟨E, hE⟩ : ∃ E, buildE cells cs = E := ⟨_, rfl⟩
        obtain ⟨bc, hbc⟩ : ∃ bc, buildC cells cs = bc := ⟨_, rfl⟩
        obtain ⟨bm, hbm⟩ : ∃ bm, buildMs cells cs = bm := ⟨_, rfl⟩
        rw [hE, hbc, hbm]
        rw [hbc] at HZ1
        rw [hbm] at HZ2
        have HE := Lib.hid hE
        have HBC := Lib.hid hbc
        have HBM := Lib.hid hbm
        clear hE hbc hbm
        go_wp2_with fail
        refine (f_Agrees _ _ _ cs' ms' cells (by omega) _ (HV'.out _ (by ((have shB5 := hB5.size); (try simp at shB5); (repeat' (first | (with_reducible exact Below.refl _ _) | (with_reducible refine Below.setCell ?_ ?_ _) | (with_reducible refine Below.alloc ?_ ?_ _) | (with_reducible refine Below.drew ?_) | (with_reducible refine Below.trans ?_ (Below.mono hB5 ?_)) | go_size))))) (HM'.out _ (by ((have shB5 := hB5.size); (try simp at shB5); (repeat' (first | (with_reducible exact Below.refl _ _) | (with_reducible refine Below.setCell ?_ ?_ _) | (with_reducible refine Below.alloc ?_ ?_ _) | (with_reducible refine Below.drew ?_) | (with_reducible refine Below.trans ?_ (Below.mono hB5 ?_)) | go_size))))) (HX.out _ (by ((have shB5 := hB5.size); (try simp at shB5); (repeat' (first | (with_reducible exact Below.refl _ _) | (with_reducible refine Below.setCell ?_ ?_ _) | (with_reducible refine Below.alloc ?_ ?_ _) | (with_reducible refine Below.drew ?_) | (with_reducible refine Below.trans ?_ (Below.mono hB5 ?_)) | go_size)))))).mono ?_
        rintro e w6 ⟨rfl, hb6⟩
        have hB6 : Below w.heap.size w w6 := by ((have shb6 := hb6.size); (try simp at shb6); (have shB5 := hB5.size); (try simp at shB5); (repeat' (first | (with_reducible exact Below.refl _ _) | (with_reducible refine Below.setCell ?_ ?_ _) | (with_reducible refine Below.alloc ?_ ?_ _) | (with_reducible refine Below.drew ?_) | (with_reducible refine Below.trans ?_ (Below.mono hb6 ?_)) | (with_reducible refine Below.trans ?_ (Below.mono hB5 ?_)) | go_size)))
        have q0_5 : (w5.alloc (.cells #[.slice xa bc.length xc, .slice ya bm.length yc] 25)).cell? ⟨w5.heap.size, 0, none⟩ = some (.slice xa bc.length xc) := by go_simp
        have q1_5 : (w5.alloc (.cells #[.slice xa bc.length xc, .slice ya bm.length yc] 25)).cell? ⟨w5.heap.size, 1, none⟩ = some (.slice ya bm.length yc) := by go_simp
        have c0_6 := (hb6.cell (p := ⟨w.heap.size, 0, none⟩) (by first | omega | (simp; done) | (simp; omega))).trans ((cell_old (w := w5) _ (p := ⟨w.heap.size, 0, none⟩) (by simp; omega)).trans c0_5)
        have c1_6 := (hb6.cell (p := ⟨w.heap.size + 1, 0, none⟩) (by first | omega | (simp; done) | (simp; omega))).trans ((cell_old (w := w5) _ (p := ⟨w.heap.size + 1, 0, none⟩) (by simp; omega)).trans c1_5)
        have c2_6 := (hb6.cell (p := ⟨w.heap.size + 1, 1, none⟩) (by first | omega | (simp; done) | (simp; omega))).trans ((cell_old (w := w5) _ (p := ⟨w.heap.size + 1, 1, none⟩) (by simp; omega)).trans c2_5)
        have q0_6 := (hb6.cell (p := ⟨w5.heap.size, 0, none⟩) (by first | omega | (simp; done) | (simp; omega))).trans q0_5
        have q1_6 := (hb6.cell (p := ⟨w5.heap.size, 1, none⟩) (by first | omega | (simp; done) | (simp; omega))).trans q1_5
        have zz0_6 : w.heap.size < w6.heap.size := (by have := hb6.size; simp at this; omega)
        have zt6 : w.heap.size + 1 < w6.heap.size := (by have := hb6.size; simp at this; omega)
        have zq6 : w5.heap.size < w6.heap.size := (by have := hb6.size; simp at this; omega)
        have hD6 : Below w5.heap.size w5 w6 := by ((have shb6 := hb6.size); (try simp at shb6); (repeat' (first | (with_reducible exact Below.refl _ _) | (with_reducible refine Below.setCell ?_ ?_ _) | (with_reducible refine Below.alloc ?_ ?_ _) | (with_reducible refine Below.drew ?_) | (with_reducible refine Below.trans ?_ (Below.mono hb6 ?_)) | go_size)))
        clear c0_5 c1_5 c2_5 q0_5 q1_5
        obtain ⟨A, hA⟩ : ∃ A, agreesF cs' ms' cells = A := ⟨_, rfl⟩
        rw [hA]
        have HA := Lib.hid hA
        clear hA
        go_wp2_with fail
        refine (r9Right _ cells _ (HX.out _ (by ((have shB6 := hB6.size); (try simp at shB6); (repeat' (first | (with_reducible exact Below.refl _ _) | (with_reducible refine Below.setCell ?_ ?_ _) | (with_reducible refine Below.alloc ?_ ?_ _) | (with_reducible refine Below.drew ?_) | (with_reducible refine Below.trans ?_ (Below.mono hB6 ?_)) | go_size)))))).mono ?_
        rintro e w7 ⟨rfl, hb7⟩
        have hB7 : Below w.heap.size w w7 := by ((have shb7 := hb7.size); (try simp at shb7); (have shB6 := hB6.size); (try simp at shB6); (repeat' (first | (with_reducible exact Below.refl _ _) | (with_reducible refine Below.setCell ?_ ?_ _) | (with_reducible refine Below.alloc ?_ ?_ _) | (with_reducible refine Below.drew ?_) | (with_reducible refine Below.trans ?_ (Below.mono hb7 ?_)) | (with_reducible refine Below.trans ?_ (Below.mono hB6 ?_)) | go_size)))
        have hD7 : Below w5.heap.size w5 w7 := by ((have shb7 := hb7.size); (try simp at shb7); (have shD6 := hD6.size); (try simp at shD6); (repeat' (first | (with_reducible exact Below.refl _ _) | (with_reducible refine Below.setCell ?_ ?_ _) | (with_reducible refine Below.alloc ?_ ?_ _) | (with_reducible refine Below.drew ?_) | (with_reducible refine Below.trans ?_ (Below.mono hb7 ?_)) | (with_reducible refine Below.trans ?_ (Below.mono hD6 ?_)) | go_size)))
        have t0_6 : (w6.alloc (.cells #[.slice none 0 0, .slice none 0 0] 25)).cell? ⟨w6.heap.size, 0, none⟩ = some (.slice none 0 0) := by go_simp
        have t1_6 : (w6.alloc (.cells #[.slice none 0 0, .slice none 0 0] 25)).cell? ⟨w6.heap.size, 1, none⟩ = some (.slice none 0 0) := by go_simp
        have c0_7 := (hb7.cell (p := ⟨w.heap.size, 0, none⟩) (by first | omega | (simp; done) | (simp; omega))).trans ((cell_old (w := w6) _ (p := ⟨w.heap.size, 0, none⟩) (by simp; omega)).trans c0_6)
        have c1_7 := (hb7.cell (p := ⟨w.heap.size + 1, 0, none⟩) (by first | omega | (simp; done) | (simp; omega))).trans ((cell_old (w := w6) _ (p := ⟨w.heap.size + 1, 0, none⟩) (by simp; omega)).trans c1_6)
        have c2_7 := (hb7.cell (p := ⟨w.heap.size + 1, 1, none⟩) (by first | omega | (simp; done) | (simp; omega))).trans ((cell_old (w := w6) _ (p := ⟨w.heap.size + 1, 1, none⟩) (by simp; omega)).trans c2_6)
        have q0_7 := (hb7.cell (p := ⟨w5.heap.size, 0, none⟩) (by first | omega | (simp; done) | (simp; omega))).trans ((cell_old (w := w6) _ (p := ⟨w5.heap.size, 0, none⟩) (by simp; omega)).trans q0_6)
        have q1_7 := (hb7.cell (p := ⟨w5.heap.size, 1, none⟩) (by first | omega | (simp; done) | (simp; omega))).trans ((cell_old (w := w6) _ (p := ⟨w5.heap.size, 1, none⟩) (by simp; omega)).trans q1_6)
        have t0_7 := (hb7.cell (p := ⟨w6.heap.size, 0, none⟩) (by first | omega | (simp; done) | (simp; omega))).trans t0_6
        have t1_7 := (hb7.cell (p := ⟨w6.heap.size, 1, none⟩) (by first | omega | (simp; done) | (simp; omega))).trans t1_6
        have zz0_7 : w.heap.size < w7.heap.size := (by have := hb7.size; (try simp at this); omega)
        have zz1_7 : w.heap.size + 1 < w7.heap.size := (by have := hb7.size; (try simp at this); omega)
        have zz2_7 : w5.heap.size < w7.heap.size := (by have := hb7.size; (try simp at this); omega)
        have zz3_7 : w6.heap.size < w7.heap.size := (by have := hb7.size; (try simp at this); omega)
        clear c0_6 c1_6 c2_6 q0_6 q1_6 t0_6 t1_6
        cases hao : arenaOK cells
        case false =>
          have hE0 : E = 190 := HE.out.symm.trans (build_bad hao).1
          have HSN := Lib.hid (show sameL bc bm [] [] = true by rw [← HBC.out, ← HBM.out, (build_bad hao).2.1, (build_bad hao).2.2]; exact same_nil)
          have hA0 : A = false := HA.out.symm.trans (agrees_bad hao)
          subst hE0; subst hA0
          clear hao
          go_wp2_with fail
          refine (r13Same _ _ _ _ bc [] bm [] _ (HZ1.out _ (by ((have shD7 := hD7.size); (try simp at shD7); (repeat' (first | (with_reducible exact Below.refl _ _) | (with_reducible refine Below.setCell ?_ ?_ _) | (with_reducible refine Below.alloc ?_ ?_ _) | (with_reducible refine Below.drew ?_) | (with_reducible refine Below.trans ?_ (Below.mono hD7 ?_)) | go_size))))) (HZ2.out _ (by ((have shD7 := hD7.size); (try simp at shD7); (repeat' (first | (with_reducible exact Below.refl _ _) | (with_reducible refine Below.setCell ?_ ?_ _) | (with_reducible refine Below.alloc ?_ ?_ _) | (with_reducible refine Below.drew ?_) | (with_reducible refine Below.trans ?_ (Below.mono hD7 ?_)) | go_size))))) (nilVecs _) (nilMasks _)).mono ?_
          rintro e w8 ⟨rfl, hb8⟩
          rw [HSN.out]
          go_wp2
          go_ret
          exact ⟨rfl, by ((have shb8 := hb8.size); (try simp at shb8); (have shB7 := hB7.size); (try simp at shB7); (repeat' (first | (with_reducible exact Below.refl _ _) | (with_reducible refine Below.setCell ?_ ?_ _) | (with_reducible refine Below.alloc ?_ ?_ _) | (with_reducible refine Below.drew ?_) | (with_reducible refine Below.trans ?_ (Below.mono hb8 ?_)) | (with_reducible refine Below.trans ?_ (Below.mono hB7 ?_)) | go_size)))⟩
        case true =>
          have HAO := Lib.hid hao
          clear hao
          go_wp2_with fail
          refine (r13Right _ _ cs' ms' _ (HV'.out _ (by ((have shB7 := hB7.size); (try simp at shB7); (repeat' (first | (with_reducible exact Below.refl _ _) | (with_reducible refine Below.setCell ?_ ?_ _) | (with_reducible refine Below.alloc ?_ ?_ _) | (with_reducible refine Below.drew ?_) | (with_reducible refine Below.trans ?_ (Below.mono hB7 ?_)) | go_size))))) (HM'.out _ (by ((have shB7 := hB7.size); (try simp at shB7); (repeat' (first | (with_reducible exact Below.refl _ _) | (with_reducible refine Below.setCell ?_ ?_ _) | (with_reducible refine Below.alloc ?_ ?_ _) | (with_reducible refine Below.drew ?_) | (with_reducible refine Below.trans ?_ (Below.mono hB7 ?_)) | go_size)))))).mono ?_
          rintro e w8 ⟨rfl, hb8⟩
          have hB8 : Below w.heap.size w w8 := by ((have shb8 := hb8.size); (try simp at shb8); (have shB7 := hB7.size); (try simp at shB7); (repeat' (first | (with_reducible exact Below.refl _ _) | (with_reducible refine Below.setCell ?_ ?_ _) | (with_reducible refine Below.alloc ?_ ?_ _) | (with_reducible refine Below.drew ?_) | (with_reducible refine Below.trans ?_ (Below.mono hb8 ?_)) | (with_reducible refine Below.trans ?_ (Below.mono hB7 ?_)) | go_size)))
          have hD8 : Below w5.heap.size w5 w8 := by ((have shb8 := hb8.size); (try simp at shb8); (have shD7 := hD7.size); (try simp at shD7); (repeat' (first | (with_reducible exact Below.refl _ _) | (with_reducible refine Below.setCell ?_ ?_ _) | (with_reducible refine Below.alloc ?_ ?_ _) | (with_reducible refine Below.drew ?_) | (with_reducible refine Below.trans ?_ (Below.mono hb8 ?_)) | (with_reducible refine Below.trans ?_ (Below.mono hD7 ?_)) | go_size)))
          have c0_8 := (hb8.cell (p := ⟨w.heap.size, 0, none⟩) (by first | omega | (simp; done) | (simp; omega))).trans c0_7
          have c1_8 := (hb8.cell (p := ⟨w.heap.size + 1, 0, none⟩) (by first | omega | (simp; done) | (simp; omega))).trans c1_7
          have c2_8 := (hb8.cell (p := ⟨w.heap.size + 1, 1, none⟩) (by first | omega | (simp; done) | (simp; omega))).trans c2_7
          have q0_8 := (hb8.cell (p := ⟨w5.heap.size, 0, none⟩) (by first | omega | (simp; done) | (simp; omega))).trans q0_7
          have q1_8 := (hb8.cell (p := ⟨w5.heap.size, 1, none⟩) (by first | omega | (simp; done) | (simp; omega))).trans q1_7
          have t0_8 := (hb8.cell (p := ⟨w6.heap.size, 0, none⟩) (by first | omega | (simp; done) | (simp; omega))).trans t0_7
          have t1_8 := (hb8.cell (p := ⟨w6.heap.size, 1, none⟩) (by first | omega | (simp; done) | (simp; omega))).trans t1_7
          have zz0_8 : w.heap.size < w8.heap.size := (by have := hb8.size; (try simp at this); omega)
          have zz1_8 : w.heap.size + 1 < w8.heap.size := (by have := hb8.size; (try simp at this); omega)
          have zz2_8 : w5.heap.size < w8.heap.size := (by have := hb8.size; (try simp at this); omega)
          have zz3_8 : w6.heap.size < w8.heap.size := (by have := hb8.size; (try simp at this); omega)
          clear c0_7 c1_7 c2_7 q0_7 q1_7 t0_7 t1_7
          cases hlo : listsOK cs' ms'
          case false =>
            have hA0 : A = false := HA.out.symm.trans (agrees_no hlo)
            subst hA0
            clear hlo
            go_wp2_with fail
            refine (r13Centroids _ cs _ (HV.out _ (by ((have shB8 := hB8.size); (try simp at shB8); (repeat' (first | (with_reducible exact Below.refl _ _) | (with_reducible refine Below.setCell ?_ ?_ _) | (with_reducible refine Below.alloc ?_ ?_ _) | (with_reducible refine Below.drew ?_) | (with_reducible refine Below.trans ?_ (Below.mono hB8 ?_)) | go_size)))))).mono ?_
            rintro e w9 ⟨rfl, hb9⟩
            have hB9 : Below w.heap.size w w9 := by ((have shb9 := hb9.size); (try simp at shb9); (have shB8 := hB8.size); (try simp at shB8); (repeat' (first | (with_reducible exact Below.refl _ _) | (with_reducible refine Below.setCell ?_ ?_ _) | (with_reducible refine Below.alloc ?_ ?_ _) | (with_reducible refine Below.drew ?_) | (with_reducible refine Below.trans ?_ (Below.mono hb9 ?_)) | (with_reducible refine Below.trans ?_ (Below.mono hB8 ?_)) | go_size)))
            have hD9 : Below w5.heap.size w5 w9 := by ((have shb9 := hb9.size); (try simp at shb9); (have shD8 := hD8.size); (try simp at shD8); (repeat' (first | (with_reducible exact Below.refl _ _) | (with_reducible refine Below.setCell ?_ ?_ _) | (with_reducible refine Below.alloc ?_ ?_ _) | (with_reducible refine Below.drew ?_) | (with_reducible refine Below.trans ?_ (Below.mono hb9 ?_)) | (with_reducible refine Below.trans ?_ (Below.mono hD8 ?_)) | go_size)))
            have c0_9 := (hb9.cell (p := ⟨w.heap.size, 0, none⟩) (by first | omega | (simp; done) | (simp; omega))).trans c0_8
            have c1_9 := (hb9.cell (p := ⟨w.heap.size + 1, 0, none⟩) (by first | omega | (simp; done) | (simp; omega))).trans c1_8
            have c2_9 := (hb9.cell (p := ⟨w.heap.size + 1, 1, none⟩) (by first | omega | (simp; done) | (simp; omega))).trans c2_8
            have q0_9 := (hb9.cell (p := ⟨w5.heap.size, 0, none⟩) (by first | omega | (simp; done) | (simp; omega))).trans q0_8
            have q1_9 := (hb9.cell (p := ⟨w5.heap.size, 1, none⟩) (by first | omega | (simp; done) | (simp; omega))).trans q1_8
            have t0_9 := (hb9.cell (p := ⟨w6.heap.size, 0, none⟩) (by first | omega | (simp; done) | (simp; omega))).trans t0_8
            have t1_9 := (hb9.cell (p := ⟨w6.heap.size, 1, none⟩) (by first | omega | (simp; done) | (simp; omega))).trans t1_8
            have zz0_9 : w.heap.size < w9.heap.size := (by have := hb9.size; (try simp at this); omega)
            have zz1_9 : w.heap.size + 1 < w9.heap.size := (by have := hb9.size; (try simp at this); omega)
            have zz2_9 : w5.heap.size < w9.heap.size := (by have := hb9.size; (try simp at this); omega)
            have zz3_9 : w6.heap.size < w9.heap.size := (by have := hb9.size; (try simp at this); omega)
            clear c0_8 c1_8 c2_8 q0_8 q1_8 t0_8 t1_8
            cases hco : centsOK cs
            case false =>
              have hE0 : E = 230 := HE.out.symm.trans (build_no HAO.out hco).1
              have HSN := Lib.hid (show sameL bc bm [] [] = true by rw [← HBC.out, ← HBM.out, (build_no HAO.out hco).2.1, (build_no HAO.out hco).2.2]; exact same_nil)
              subst hE0
              clear hco
              go_wp2_with fail
              refine (r13Same _ _ _ _ bc [] bm [] _ (HZ1.out _ (by ((have shD9 := hD9.size); (try simp at shD9); (repeat' (first | (with_reducible exact Below.refl _ _) | (with_reducible refine Below.setCell ?_ ?_ _) | (with_reducible refine Below.alloc ?_ ?_ _) | (with_reducible refine Below.drew ?_) | (with_reducible refine Below.trans ?_ (Below.mono hD9 ?_)) | go_size))))) (HZ2.out _ (by ((have shD9 := hD9.size); (try simp at shD9); (repeat' (first | (with_reducible exact Below.refl _ _) | (with_reducible refine Below.setCell ?_ ?_ _) | (with_reducible refine Below.alloc ?_ ?_ _) | (with_reducible refine Below.drew ?_) | (with_reducible refine Below.trans ?_ (Below.mono hD9 ?_)) | go_size))))) (nilVecs _) (nilMasks _)).mono ?_
              rintro e w10 ⟨rfl, hb10⟩
              rw [HSN.out]
              go_wp2
              go_ret
              exact ⟨rfl, by ((have shb10 := hb10.size); (try simp at shb10); (have shB9 := hB9.size); (try simp at shB9); (repeat' (first | (with_reducible exact Below.refl _ _) | (with_reducible refine Below.setCell ?_ ?_ _) | (with_reducible refine Below.alloc ?_ ?_ _) | (with_reducible refine Below.drew ?_) | (with_reducible refine Below.trans ?_ (Below.mono hb10 ?_)) | (with_reducible refine Below.trans ?_ (Below.mono hB9 ?_)) | go_size)))⟩
            case true =>
              have HCO := Lib.hid hco
              clear hco
              go_wp2_with fail
              refine (r13build _ _ cells cs (by omega) HAO.out HCO.out _ (HX.out _ (by ((have shB9 := hB9.size); (try simp at shB9); (repeat' (first | (with_reducible exact Below.refl _ _) | (with_reducible refine Below.setCell ?_ ?_ _) | (with_reducible refine Below.alloc ?_ ?_ _) | (with_reducible refine Below.drew ?_) | (with_reducible refine Below.trans ?_ (Below.mono hB9 ?_)) | go_size))))) (HV.out _ (by ((have shB9 := hB9.size); (try simp at shB9); (repeat' (first | (with_reducible exact Below.refl _ _) | (with_reducible refine Below.setCell ?_ ?_ _) | (with_reducible refine Below.alloc ?_ ?_ _) | (with_reducible refine Below.drew ?_) | (with_reducible refine Below.trans ?_ (Below.mono hB9 ?_)) | go_size)))))).mono ?_
              rintro e w10 ⟨⟨vc, vm, rfl, hvc, hvm⟩, hb10⟩
              have hB10 : Below w.heap.size w w10 := by ((have shb10 := hb10.size); (try simp at shb10); (have shB9 := hB9.size); (try simp at shB9); (repeat' (first | (with_reducible exact Below.refl _ _) | (with_reducible refine Below.setCell ?_ ?_ _) | (with_reducible refine Below.alloc ?_ ?_ _) | (with_reducible refine Below.drew ?_) | (with_reducible refine Below.trans ?_ (Below.mono hb10 ?_)) | (with_reducible refine Below.trans ?_ (Below.mono hB9 ?_)) | go_size)))
              have hD10 : Below w5.heap.size w5 w10 := by ((have shb10 := hb10.size); (try simp at shb10); (have shD9 := hD9.size); (try simp at shD9); (repeat' (first | (with_reducible exact Below.refl _ _) | (with_reducible refine Below.setCell ?_ ?_ _) | (with_reducible refine Below.alloc ?_ ?_ _) | (with_reducible refine Below.drew ?_) | (with_reducible refine Below.trans ?_ (Below.mono hb10 ?_)) | (with_reducible refine Below.trans ?_ (Below.mono hD9 ?_)) | go_size)))
              have c0_10 := (hb10.cell (p := ⟨w.heap.size, 0, none⟩) (by first | omega | (simp; done) | (simp; omega))).trans c0_9
              have c1_10 := (hb10.cell (p := ⟨w.heap.size + 1, 0, none⟩) (by first | omega | (simp; done) | (simp; omega))).trans c1_9
              have c2_10 := (hb10.cell (p := ⟨w.heap.size + 1, 1, none⟩) (by first | omega | (simp; done) | (simp; omega))).trans c2_9
              have q0_10 := (hb10.cell (p := ⟨w5.heap.size, 0, none⟩) (by first | omega | (simp; done) | (simp; omega))).trans q0_9
              have q1_10 := (hb10.cell (p := ⟨w5.heap.size, 1, none⟩) (by first | omega | (simp; done) | (simp; omega))).trans q1_9
              have t0_10 := (hb10.cell (p := ⟨w6.heap.size, 0, none⟩) (by first | omega | (simp; done) | (simp; omega))).trans t0_9
              have t1_10 := (hb10.cell (p := ⟨w6.heap.size, 1, none⟩) (by first | omega | (simp; done) | (simp; omega))).trans t1_9
              have zz0_10 : w.heap.size < w10.heap.size := (by have := hb10.size; (try simp at this); omega)
              have zz1_10 : w.heap.size + 1 < w10.heap.size := (by have := hb10.size; (try simp at this); omega)
              have zz2_10 : w5.heap.size < w10.heap.size := (by have := hb10.size; (try simp at this); omega)
              have zz3_10 : w6.heap.size < w10.heap.size := (by have := hb10.size; (try simp at this); omega)
              clear c0_9 c1_9 c2_9 q0_9 q1_9 t0_9 t1_9
              have HVC := Lib.hid (fun W (hb : Below w10.heap.size w10 W) => hvc.grown hb)
              have HVM := Lib.hid (fun W (hb : Below w10.heap.size w10 W) => hvm.grown hb)
              obtain ⟨pa, pc, rfl, -⟩ := hvc.open
              obtain ⟨qa, qc, rfl, -⟩ := hvm.open
              clear hvc hvm
              cases hro : refOK cells cs
              case false =>
                have hE0 : E = 151 := by rw [← HE.out, (build_ref HAO.out HCO.out).1, hro]; rfl
                have HSN := Lib.hid (show sameL bc bm [] [] = true by rw [← HBC.out, ← HBM.out, (build_ref HAO.out HCO.out).2.1, (build_ref HAO.out HCO.out).2.2]; unfold refC refM; rw [hro]; exact same_nil)
                subst hE0
                clear hro
                go_wp2_with fail
                refine (r13Same _ _ _ _ bc [] bm [] _ (HZ1.out _ (by ((have shD10 := hD10.size); (try simp at shD10); (repeat' (first | (with_reducible exact Below.refl _ _) | (with_reducible refine Below.setCell ?_ ?_ _) | (with_reducible refine Below.alloc ?_ ?_ _) | (with_reducible refine Below.drew ?_) | (with_reducible refine Below.trans ?_ (Below.mono hD10 ?_)) | go_size))))) (HZ2.out _ (by ((have shD10 := hD10.size); (try simp at shD10); (repeat' (first | (with_reducible exact Below.refl _ _) | (with_reducible refine Below.setCell ?_ ?_ _) | (with_reducible refine Below.alloc ?_ ?_ _) | (with_reducible refine Below.drew ?_) | (with_reducible refine Below.trans ?_ (Below.mono hD10 ?_)) | go_size))))) (nilVecs _) (nilMasks _)).mono ?_
                rintro e w11 ⟨rfl, hb11⟩
                rw [HSN.out]
                go_wp2
                go_ret
                exact ⟨rfl, by ((have shb11 := hb11.size); (try simp at shb11); (have shB10 := hB10.size); (try simp at shB10); (repeat' (first | (with_reducible exact Below.refl _ _) | (with_reducible refine Below.setCell ?_ ?_ _) | (with_reducible refine Below.alloc ?_ ?_ _) | (with_reducible refine Below.drew ?_) | (with_reducible refine Below.trans ?_ (Below.mono hb11 ?_)) | (with_reducible refine Below.trans ?_ (Below.mono hB10 ?_)) | go_size)))⟩
              case true =>
                have hE0 : E = 0 := by rw [← HE.out, (build_ref HAO.out HCO.out).1, hro]; rfl
                have HSS := Lib.hid (show sameL bc bm (refC cells cs) (refM cells cs) = true by rw [← HBC.out, ← HBM.out, (build_ref HAO.out HCO.out).2.1, (build_ref HAO.out HCO.out).2.2]; exact same_selfB _ _)
                subst hE0
                clear hro
                go_wp2_with fail
                refine (r13Same _ _ _ _ bc (refC cells cs) bm (refM cells cs) _ (HZ1.out _ (by ((have shD10 := hD10.size); (try simp at shD10); (repeat' (first | (with_reducible exact Below.refl _ _) | (with_reducible refine Below.setCell ?_ ?_ _) | (with_reducible refine Below.alloc ?_ ?_ _) | (with_reducible refine Below.drew ?_) | (with_reducible refine Below.trans ?_ (Below.mono hD10 ?_)) | go_size))))) (HZ2.out _ (by ((have shD10 := hD10.size); (try simp at shD10); (repeat' (first | (with_reducible exact Below.refl _ _) | (with_reducible refine Below.setCell ?_ ?_ _) | (with_reducible refine Below.alloc ?_ ?_ _) | (with_reducible refine Below.drew ?_) | (with_reducible refine Below.trans ?_ (Below.mono hD10 ?_)) | go_size))))) (HVC.out _ (by ((repeat' (first | (with_reducible exact Below.refl _ _) | (with_reducible refine Below.setCell ?_ ?_ _) | (with_reducible refine Below.alloc ?_ ?_ _) | (with_reducible refine Below.drew ?_) | (with_reducible refine Below.trans ?_ (Below.mono (by assumption) ?_)) | go_size))))) (HVM.out _ (by ((repeat' (first | (with_reducible exact Below.refl _ _) | (with_reducible refine Below.setCell ?_ ?_ _) | (with_reducible refine Below.alloc ?_ ?_ _) | (with_reducible refine Below.drew ?_) | (with_reducible refine Below.trans ?_ (Below.mono (by assumption) ?_)) | go_size)))))).mono ?_
                rintro e w11 ⟨rfl, hb11⟩
                rw [HSS.out]
                go_wp2
                go_ret
                exact ⟨rfl, by ((have shb11 := hb11.size); (try simp at shb11); (have shB10 := hB10.size); (try simp at shB10); (repeat' (first | (with_reducible exact Below.refl _ _) | (with_reducible refine Below.setCell ?_ ?_ _) | (with_reducible refine Below.alloc ?_ ?_ _) | (with_reducible refine Below.drew ?_) | (with_reducible refine Below.trans ?_ (Below.mono hb11 ?_)) | (with_reducible refine Below.trans ?_ (Below.mono hB10 ?_)) | go_size)))⟩
          case true =>
            have HLO := Lib.hid hlo
            have HAR := Lib.hid (HA.out.symm.trans (agrees_ref HAO.out hlo))
            clear hlo
            go_wp2_with fail
            refine (r13build _ _ cells cs' (by omega) HAO.out (lists_cents HLO.out) _ (HX.out _ (by ((have shB8 := hB8.size); (try simp at shB8); (repeat' (first | (with_reducible exact Below.refl _ _) | (with_reducible refine Below.setCell ?_ ?_ _) | (with_reducible refine Below.alloc ?_ ?_ _) | (with_reducible refine Below.drew ?_) | (with_reducible refine Below.trans ?_ (Below.mono hB8 ?_)) | go_size))))) (HV'.out _ (by ((have shB8 := hB8.size); (try simp at shB8); (repeat' (first | (with_reducible exact Below.refl _ _) | (with_reducible refine Below.setCell ?_ ?_ _) | (with_reducible refine Below.alloc ?_ ?_ _) | (with_reducible refine Below.drew ?_) | (with_reducible refine Below.trans ?_ (Below.mono hB8 ?_)) | go_size)))))).mono ?_
            rintro e w9 ⟨⟨vc, vm, rfl, hvc, hvm⟩, hb9⟩
            have hB9 : Below w.heap.size w w9 := by ((have shb9 := hb9.size); (try simp at shb9); (have shB8 := hB8.size); (try simp at shB8); (repeat' (first | (with_reducible exact Below.refl _ _) | (with_reducible refine Below.setCell ?_ ?_ _) | (with_reducible refine Below.alloc ?_ ?_ _) | (with_reducible refine Below.drew ?_) | (with_reducible refine Below.trans ?_ (Below.mono hb9 ?_)) | (with_reducible refine Below.trans ?_ (Below.mono hB8 ?_)) | go_size)))
            have hD9 : Below w5.heap.size w5 w9 := by ((have shb9 := hb9.size); (try simp at shb9); (have shD8 := hD8.size); (try simp at shD8); (repeat' (first | (with_reducible exact Below.refl _ _) | (with_reducible refine Below.setCell ?_ ?_ _) | (with_reducible refine Below.alloc ?_ ?_ _) | (with_reducible refine Below.drew ?_) | (with_reducible refine Below.trans ?_ (Below.mono hb9 ?_)) | (with_reducible refine Below.trans ?_ (Below.mono hD8 ?_)) | go_size)))
            have c0_9 := (hb9.cell (p := ⟨w.heap.size, 0, none⟩) (by first | omega | (simp; done) | (simp; omega))).trans c0_8
            have c1_9 := (hb9.cell (p := ⟨w.heap.size + 1, 0, none⟩) (by first | omega | (simp; done) | (simp; omega))).trans c1_8
            have c2_9 := (hb9.cell (p := ⟨w.heap.size + 1, 1, none⟩) (by first | omega | (simp; done) | (simp; omega))).trans c2_8
            have q0_9 := (hb9.cell (p := ⟨w5.heap.size, 0, none⟩) (by first | omega | (simp; done) | (simp; omega))).trans q0_8
            have q1_9 := (hb9.cell (p := ⟨w5.heap.size, 1, none⟩) (by first | omega | (simp; done) | (simp; omega))).trans q1_8
            have t0_9 := (hb9.cell (p := ⟨w6.heap.size, 0, none⟩) (by first | omega | (simp; done) | (simp; omega))).trans t0_8
            have t1_9 := (hb9.cell (p := ⟨w6.heap.size, 1, none⟩) (by first | omega | (simp; done) | (simp; omega))).trans t1_8
            have zz0_9 : w.heap.size < w9.heap.size := (by have := hb9.size; (try simp at this); omega)
            have zz1_9 : w.heap.size + 1 < w9.heap.size := (by have := hb9.size; (try simp at this); omega)
            have zz2_9 : w5.heap.size < w9.heap.size := (by have := hb9.size; (try simp at this); omega)
            have zz3_9 : w6.heap.size < w9.heap.size := (by have := hb9.size; (try simp at this); omega)
            clear c0_8 c1_8 c2_8 q0_8 q1_8 t0_8 t1_8
            have HVC := Lib.hid (fun W (hb : Below w9.heap.size w9 W) => hvc.grown hb)
            have HVM := Lib.hid (fun W (hb : Below w9.heap.size w9 W) => hvm.grown hb)
            obtain ⟨pa', pc', rfl, -⟩ := hvc.open
            obtain ⟨qa', qc', rfl, -⟩ := hvm.open
            clear hvc hvm
            cases hro' : refOK cells cs'
            case false =>
              have hA0 : A = false := by rw [HAR.out, hro']; rfl
              subst hA0
              clear hro' 
              go_wp2_with fail
              refine (r13Centroids _ cs _ (HV.out _ (by ((have shB9 := hB9.size); (try simp at shB9); (repeat' (first | (with_reducible exact Below.refl _ _) | (with_reducible refine Below.setCell ?_ ?_ _) | (with_reducible refine Below.alloc ?_ ?_ _) | (with_reducible refine Below.drew ?_) | (with_reducible refine Below.trans ?_ (Below.mono hB9 ?_)) | go_size)))))).mono ?_
              rintro e w10 ⟨rfl, hb10⟩
              have hB10 : Below w.heap.size w w10 := by ((have shb10 := hb10.size); (try simp at shb10); (have shB9 := hB9.size); (try simp at shB9); (repeat' (first | (with_reducible exact Below.refl _ _) | (with_reducible refine Below.setCell ?_ ?_ _) | (with_reducible refine Below.alloc ?_ ?_ _) | (with_reducible refine Below.drew ?_) | (with_reducible refine Below.trans ?_ (Below.mono hb10 ?_)) | (with_reducible refine Below.trans ?_ (Below.mono hB9 ?_)) | go_size)))
              have hD10 : Below w5.heap.size w5 w10 := by ((have shb10 := hb10.size); (try simp at shb10); (have shD9 := hD9.size); (try simp at shD9); (repeat' (first | (with_reducible exact Below.refl _ _) | (with_reducible refine Below.setCell ?_ ?_ _) | (with_reducible refine Below.alloc ?_ ?_ _) | (with_reducible refine Below.drew ?_) | (with_reducible refine Below.trans ?_ (Below.mono hb10 ?_)) | (with_reducible refine Below.trans ?_ (Below.mono hD9 ?_)) | go_size)))
              have c0_10 := (hb10.cell (p := ⟨w.heap.size, 0, none⟩) (by first | omega | (simp; done) | (simp; omega))).trans ((cell_old (w := w9) _ (p := ⟨w.heap.size, 0, none⟩) (by first | omega | (simp; done) | (simp; omega))).trans c0_9)
              have c1_10 := (hb10.cell (p := ⟨w.heap.size + 1, 0, none⟩) (by first | omega | (simp; done) | (simp; omega))).trans ((cell_old (w := w9) _ (p := ⟨w.heap.size + 1, 0, none⟩) (by first | omega | (simp; done) | (simp; omega))).trans c1_9)
              have c2_10 := (hb10.cell (p := ⟨w.heap.size + 1, 1, none⟩) (by first | omega | (simp; done) | (simp; omega))).trans ((cell_old (w := w9) _ (p := ⟨w.heap.size + 1, 1, none⟩) (by first | omega | (simp; done) | (simp; omega))).trans c2_9)
              have q0_10 := (hb10.cell (p := ⟨w5.heap.size, 0, none⟩) (by first | omega | (simp; done) | (simp; omega))).trans ((cell_old (w := w9) _ (p := ⟨w5.heap.size, 0, none⟩) (by first | omega | (simp; done) | (simp; omega))).trans q0_9)
              have q1_10 := (hb10.cell (p := ⟨w5.heap.size, 1, none⟩) (by first | omega | (simp; done) | (simp; omega))).trans ((cell_old (w := w9) _ (p := ⟨w5.heap.size, 1, none⟩) (by first | omega | (simp; done) | (simp; omega))).trans q1_9)
              have t0_10 := (hb10.cell (p := ⟨w6.heap.size, 0, none⟩) (by first | omega | (simp; done) | (simp; omega))).trans ((cell_old (w := w9) _ (p := ⟨w6.heap.size, 0, none⟩) (by first | omega | (simp; done) | (simp; omega))).trans t0_9)
              have t1_10 := (hb10.cell (p := ⟨w6.heap.size, 1, none⟩) (by first | omega | (simp; done) | (simp; omega))).trans ((cell_old (w := w9) _ (p := ⟨w6.heap.size, 1, none⟩) (by first | omega | (simp; done) | (simp; omega))).trans t1_9)
              have zz0_10 : w.heap.size < w10.heap.size := (by have := hb10.size; (try simp at this); omega)
              have zz1_10 : w.heap.size + 1 < w10.heap.size := (by have := hb10.size; (try simp at this); omega)
              have zz2_10 : w5.heap.size < w10.heap.size := (by have := hb10.size; (try simp at this); omega)
              have zz3_10 : w6.heap.size < w10.heap.size := (by have := hb10.size; (try simp at this); omega)
              clear c0_9 c1_9 c2_9 q0_9 q1_9 t0_9 t1_9
              cases hco : centsOK cs
              case false =>
                have hE0 : E = 230 := HE.out.symm.trans (build_no HAO.out hco).1
                have HSN := Lib.hid (show sameL bc bm [] [] = true by rw [← HBC.out, ← HBM.out, (build_no HAO.out hco).2.1, (build_no HAO.out hco).2.2]; exact same_nil)
                subst hE0
                clear hco
                go_wp2_with fail
                refine (r13Same _ _ _ _ bc [] bm [] _ (HZ1.out _ (by ((have shD10 := hD10.size); (try simp at shD10); (repeat' (first | (with_reducible exact Below.refl _ _) | (with_reducible refine Below.setCell ?_ ?_ _) | (with_reducible refine Below.alloc ?_ ?_ _) | (with_reducible refine Below.drew ?_) | (with_reducible refine Below.trans ?_ (Below.mono hD10 ?_)) | go_size))))) (HZ2.out _ (by ((have shD10 := hD10.size); (try simp at shD10); (repeat' (first | (with_reducible exact Below.refl _ _) | (with_reducible refine Below.setCell ?_ ?_ _) | (with_reducible refine Below.alloc ?_ ?_ _) | (with_reducible refine Below.drew ?_) | (with_reducible refine Below.trans ?_ (Below.mono hD10 ?_)) | go_size))))) (nilVecs _) (nilMasks _)).mono ?_
                rintro e w11 ⟨rfl, hb11⟩
                rw [HSN.out]
                go_wp2
                go_ret
                exact ⟨rfl, by ((have shb11 := hb11.size); (try simp at shb11); (have shB10 := hB10.size); (try simp at shB10); (repeat' (first | (with_reducible exact Below.refl _ _) | (with_reducible refine Below.setCell ?_ ?_ _) | (with_reducible refine Below.alloc ?_ ?_ _) | (with_reducible refine Below.drew ?_) | (with_reducible refine Below.trans ?_ (Below.mono hb11 ?_)) | (with_reducible refine Below.trans ?_ (Below.mono hB10 ?_)) | go_size)))⟩
              case true =>
                have HCO := Lib.hid hco
                clear hco
                go_wp2_with fail
                refine (r13build _ _ cells cs (by omega) HAO.out HCO.out _ (HX.out _ (by ((have shB10 := hB10.size); (try simp at shB10); (repeat' (first | (with_reducible exact Below.refl _ _) | (with_reducible refine Below.setCell ?_ ?_ _) | (with_reducible refine Below.alloc ?_ ?_ _) | (with_reducible refine Below.drew ?_) | (with_reducible refine Below.trans ?_ (Below.mono hB10 ?_)) | go_size))))) (HV.out _ (by ((have shB10 := hB10.size); (try simp at shB10); (repeat' (first | (with_reducible exact Below.refl _ _) | (with_reducible refine Below.setCell ?_ ?_ _) | (with_reducible refine Below.alloc ?_ ?_ _) | (with_reducible refine Below.drew ?_) | (with_reducible refine Below.trans ?_ (Below.mono hB10 ?_)) | go_size)))))).mono ?_
                rintro e w11 ⟨⟨vc, vm, rfl, hvc, hvm⟩, hb11⟩
                have hB11 : Below w.heap.size w w11 := by ((have shb11 := hb11.size); (try simp at shb11); (have shB10 := hB10.size); (try simp at shB10); (repeat' (first | (with_reducible exact Below.refl _ _) | (with_reducible refine Below.setCell ?_ ?_ _) | (with_reducible refine Below.alloc ?_ ?_ _) | (with_reducible refine Below.drew ?_) | (with_reducible refine Below.trans ?_ (Below.mono hb11 ?_)) | (with_reducible refine Below.trans ?_ (Below.mono hB10 ?_)) | go_size)))
                have hD11 : Below w5.heap.size w5 w11 := by ((have shb11 := hb11.size); (try simp at shb11); (have shD10 := hD10.size); (try simp at shD10); (repeat' (first | (with_reducible exact Below.refl _ _) | (with_reducible refine Below.setCell ?_ ?_ _) | (with_reducible refine Below.alloc ?_ ?_ _) | (with_reducible refine Below.drew ?_) | (with_reducible refine Below.trans ?_ (Below.mono hb11 ?_)) | (with_reducible refine Below.trans ?_ (Below.mono hD10 ?_)) | go_size)))
                have c0_11 := (hb11.cell (p := ⟨w.heap.size, 0, none⟩) (by first | omega | (simp; done) | (simp; omega))).trans c0_10
                have c1_11 := (hb11.cell (p := ⟨w.heap.size + 1, 0, none⟩) (by first | omega | (simp; done) | (simp; omega))).trans c1_10
                have c2_11 := (hb11.cell (p := ⟨w.heap.size + 1, 1, none⟩) (by first | omega | (simp; done) | (simp; omega))).trans c2_10
                have q0_11 := (hb11.cell (p := ⟨w5.heap.size, 0, none⟩) (by first | omega | (simp; done) | (simp; omega))).trans q0_10
                have q1_11 := (hb11.cell (p := ⟨w5.heap.size, 1, none⟩) (by first | omega | (simp; done) | (simp; omega))).trans q1_10
                have t0_11 := (hb11.cell (p := ⟨w6.heap.size, 0, none⟩) (by first | omega | (simp; done) | (simp; omega))).trans t0_10
                have t1_11 := (hb11.cell (p := ⟨w6.heap.size, 1, none⟩) (by first | omega | (simp; done) | (simp; omega))).trans t1_10
                have zz0_11 : w.heap.size < w11.heap.size := (by have := hb11.size; (try simp at this); omega)
                have zz1_11 : w.heap.size + 1 < w11.heap.size := (by have := hb11.size; (try simp at this); omega)
                have zz2_11 : w5.heap.size < w11.heap.size := (by have := hb11.size; (try simp at this); omega)
                have zz3_11 : w6.heap.size < w11.heap.size := (by have := hb11.size; (try simp at this); omega)
                clear c0_10 c1_10 c2_10 q0_10 q1_10 t0_10 t1_10
                have HVC := Lib.hid (fun W (hb : Below w11.heap.size w11 W) => hvc.grown hb)
                have HVM := Lib.hid (fun W (hb : Below w11.heap.size w11 W) => hvm.grown hb)
                obtain ⟨pa, pc, rfl, -⟩ := hvc.open
                obtain ⟨qa, qc, rfl, -⟩ := hvm.open
                clear hvc hvm
                cases hro : refOK cells cs
                case false =>
                  have hE0 : E = 151 := by rw [← HE.out, (build_ref HAO.out HCO.out).1, hro]; rfl
                  have HSN := Lib.hid (show sameL bc bm [] [] = true by rw [← HBC.out, ← HBM.out, (build_ref HAO.out HCO.out).2.1, (build_ref HAO.out HCO.out).2.2]; unfold refC refM; rw [hro]; exact same_nil)
                  subst hE0
                  clear hro
                  go_wp2_with fail
                  refine (r13Same _ _ _ _ bc [] bm [] _ (HZ1.out _ (by ((have shD11 := hD11.size); (try simp at shD11); (repeat' (first | (with_reducible exact Below.refl _ _) | (with_reducible refine Below.setCell ?_ ?_ _) | (with_reducible refine Below.alloc ?_ ?_ _) | (with_reducible refine Below.drew ?_) | (with_reducible refine Below.trans ?_ (Below.mono hD11 ?_)) | go_size))))) (HZ2.out _ (by ((have shD11 := hD11.size); (try simp at shD11); (repeat' (first | (with_reducible exact Below.refl _ _) | (with_reducible refine Below.setCell ?_ ?_ _) | (with_reducible refine Below.alloc ?_ ?_ _) | (with_reducible refine Below.drew ?_) | (with_reducible refine Below.trans ?_ (Below.mono hD11 ?_)) | go_size))))) (nilVecs _) (nilMasks _)).mono ?_
                  rintro e w12 ⟨rfl, hb12⟩
                  rw [HSN.out]
                  go_wp2
                  go_ret
                  exact ⟨rfl, by ((have shb12 := hb12.size); (try simp at shb12); (have shB11 := hB11.size); (try simp at shB11); (repeat' (first | (with_reducible exact Below.refl _ _) | (with_reducible refine Below.setCell ?_ ?_ _) | (with_reducible refine Below.alloc ?_ ?_ _) | (with_reducible refine Below.drew ?_) | (with_reducible refine Below.trans ?_ (Below.mono hb12 ?_)) | (with_reducible refine Below.trans ?_ (Below.mono hB11 ?_)) | go_size)))⟩
                case true =>
                  have hE0 : E = 0 := by rw [← HE.out, (build_ref HAO.out HCO.out).1, hro]; rfl
                  have HSS := Lib.hid (show sameL bc bm (refC cells cs) (refM cells cs) = true by rw [← HBC.out, ← HBM.out, (build_ref HAO.out HCO.out).2.1, (build_ref HAO.out HCO.out).2.2]; exact same_selfB _ _)
                  subst hE0
                  clear hro
                  go_wp2_with fail
                  refine (r13Same _ _ _ _ bc (refC cells cs) bm (refM cells cs) _ (HZ1.out _ (by ((have shD11 := hD11.size); (try simp at shD11); (repeat' (first | (with_reducible exact Below.refl _ _) | (with_reducible refine Below.setCell ?_ ?_ _) | (with_reducible refine Below.alloc ?_ ?_ _) | (with_reducible refine Below.drew ?_) | (with_reducible refine Below.trans ?_ (Below.mono hD11 ?_)) | go_size))))) (HZ2.out _ (by ((have shD11 := hD11.size); (try simp at shD11); (repeat' (first | (with_reducible exact Below.refl _ _) | (with_reducible refine Below.setCell ?_ ?_ _) | (with_reducible refine Below.alloc ?_ ?_ _) | (with_reducible refine Below.drew ?_) | (with_reducible refine Below.trans ?_ (Below.mono hD11 ?_)) | go_size))))) (HVC.out _ (by ((repeat' (first | (with_reducible exact Below.refl _ _) | (with_reducible refine Below.setCell ?_ ?_ _) | (with_reducible refine Below.alloc ?_ ?_ _) | (with_reducible refine Below.drew ?_) | (with_reducible refine Below.trans ?_ (Below.mono (by assumption) ?_)) | go_size))))) (HVM.out _ (by ((repeat' (first | (with_reducible exact Below.refl _ _) | (with_reducible refine Below.setCell ?_ ?_ _) | (with_reducible refine Below.alloc ?_ ?_ _) | (with_reducible refine Below.drew ?_) | (with_reducible refine Below.trans ?_ (Below.mono (by assumption) ?_)) | go_size)))))).mono ?_
                  rintro e w12 ⟨rfl, hb12⟩
                  rw [HSS.out]
                  go_wp2
                  go_ret
                  exact ⟨rfl, by ((have shb12 := hb12.size); (try simp at shb12); (have shB11 := hB11.size); (try simp at shB11); (repeat' (first | (with_reducible exact Below.refl _ _) | (with_reducible refine Below.setCell ?_ ?_ _) | (with_reducible refine Below.alloc ?_ ?_ _) | (with_reducible refine Below.drew ?_) | (with_reducible refine Below.trans ?_ (Below.mono hb12 ?_)) | (with_reducible refine Below.trans ?_ (Below.mono hB11 ?_)) | go_size)))⟩
            case true =>
              have HAS := Lib.hid (show A = sameL (refC cells cs') (refM cells cs') cs' ms' by rw [HAR.out, hro']; rfl)
              clear hro'
              go_wp2_with fail
              refine (r13Same _ _ _ _ (refC cells cs') cs' (refM cells cs') ms' _ (HVC.out _ (by ((repeat' (first | (with_reducible exact Below.refl _ _) | (with_reducible refine Below.setCell ?_ ?_ _) | (with_reducible refine Below.alloc ?_ ?_ _) | (with_reducible refine Below.drew ?_) | (with_reducible refine Below.trans ?_ (Below.mono (by assumption) ?_)) | go_size))))) (HVM.out _ (by ((repeat' (first | (with_reducible exact Below.refl _ _) | (with_reducible refine Below.setCell ?_ ?_ _) | (with_reducible refine Below.alloc ?_ ?_ _) | (with_reducible refine Below.drew ?_) | (with_reducible refine Below.trans ?_ (Below.mono (by assumption) ?_)) | go_size))))) (HV'.out _ (by ((have shB9 := hB9.size); (try simp at shB9); (repeat' (first | (with_reducible exact Below.refl _ _) | (with_reducible refine Below.setCell ?_ ?_ _) | (with_reducible refine Below.alloc ?_ ?_ _) | (with_reducible refine Below.drew ?_) | (with_reducible refine Below.trans ?_ (Below.mono hB9 ?_)) | go_size))))) (HM'.out _ (by ((have shB9 := hB9.size); (try simp at shB9); (repeat' (first | (with_reducible exact Below.refl _ _) | (with_reducible refine Below.setCell ?_ ?_ _) | (with_reducible refine Below.alloc ?_ ?_ _) | (with_reducible refine Below.drew ?_) | (with_reducible refine Below.trans ?_ (Below.mono hB9 ?_)) | go_size)))))).mono ?_
              rintro e w10 ⟨rfl, hb10⟩
              rw [← HAS.out]
              have hB10 : Below w.heap.size w w10 := by ((have shb10 := hb10.size); (try simp at shb10); (have shB9 := hB9.size); (try simp at shB9); (repeat' (first | (with_reducible exact Below.refl _ _) | (with_reducible refine Below.setCell ?_ ?_ _) | (with_reducible refine Below.alloc ?_ ?_ _) | (with_reducible refine Below.drew ?_) | (with_reducible refine Below.trans ?_ (Below.mono hb10 ?_)) | (with_reducible refine Below.trans ?_ (Below.mono hB9 ?_)) | go_size)))
              have hD10 : Below w5.heap.size w5 w10 := by ((have shb10 := hb10.size); (try simp at shb10); (have shD9 := hD9.size); (try simp at shD9); (repeat' (first | (with_reducible exact Below.refl _ _) | (with_reducible refine Below.setCell ?_ ?_ _) | (with_reducible refine Below.alloc ?_ ?_ _) | (with_reducible refine Below.drew ?_) | (with_reducible refine Below.trans ?_ (Below.mono hb10 ?_)) | (with_reducible refine Below.trans ?_ (Below.mono hD9 ?_)) | go_size)))
              have c0_10 := (hb10.cell (p := ⟨w.heap.size, 0, none⟩) (by first | omega | (simp; done) | (simp; omega))).trans ((cell_old (w := w9) _ (p := ⟨w.heap.size, 0, none⟩) (by simp; omega)).trans c0_9)
              have c1_10 := (hb10.cell (p := ⟨w.heap.size + 1, 0, none⟩) (by first | omega | (simp; done) | (simp; omega))).trans ((cell_old (w := w9) _ (p := ⟨w.heap.size + 1, 0, none⟩) (by simp; omega)).trans c1_9)
              have c2_10 := (hb10.cell (p := ⟨w.heap.size + 1, 1, none⟩) (by first | omega | (simp; done) | (simp; omega))).trans ((cell_old (w := w9) _ (p := ⟨w.heap.size + 1, 1, none⟩) (by simp; omega)).trans c2_9)
              have q0_10 := (hb10.cell (p := ⟨w5.heap.size, 0, none⟩) (by first | omega | (simp; done) | (simp; omega))).trans ((cell_old (w := w9) _ (p := ⟨w5.heap.size, 0, none⟩) (by simp; omega)).trans q0_9)
              have q1_10 := (hb10.cell (p := ⟨w5.heap.size, 1, none⟩) (by first | omega | (simp; done) | (simp; omega))).trans ((cell_old (w := w9) _ (p := ⟨w5.heap.size, 1, none⟩) (by simp; omega)).trans q1_9)
              have t0_10 := (hb10.cell (p := ⟨w6.heap.size, 0, none⟩) (by first | omega | (simp; done) | (simp; omega))).trans ((cell_old (w := w9) _ (p := ⟨w6.heap.size, 0, none⟩) (by simp; omega)).trans t0_9)
              have t1_10 := (hb10.cell (p := ⟨w6.heap.size, 1, none⟩) (by first | omega | (simp; done) | (simp; omega))).trans ((cell_old (w := w9) _ (p := ⟨w6.heap.size, 1, none⟩) (by simp; omega)).trans t1_9)
              have zz0_10 : w.heap.size < w10.heap.size := (by have := hb10.size; (try simp at this); omega)
              have zz1_10 : w.heap.size + 1 < w10.heap.size := (by have := hb10.size; (try simp at this); omega)
              have zz2_10 : w5.heap.size < w10.heap.size := (by have := hb10.size; (try simp at this); omega)
              have zz3_10 : w6.heap.size < w10.heap.size := (by have := hb10.size; (try simp at this); omega)
              have hAA : (A != A) = false := bne_self_eq_false _
              clear c0_9 c1_9 c2_9 q0_9 q1_9 t0_9 t1_9
              go_wp2_with fail
              refine (r13Centroids _ cs _ (HV.out _ (by ((have shB10 := hB10.size); (try simp at shB10); (repeat' (first | (with_reducible exact Below.refl _ _) | (with_reducible refine Below.setCell ?_ ?_ _) | (with_reducible refine Below.alloc ?_ ?_ _) | (with_reducible refine Below.drew ?_) | (with_reducible refine Below.trans ?_ (Below.mono hB10 ?_)) | go_size)))))).mono ?_
              rintro e w11 ⟨rfl, hb11⟩
              have hB11 : Below w.heap.size w w11 := by ((have shb11 := hb11.size); (try simp at shb11); (have shB10 := hB10.size); (try simp at shB10); (repeat' (first | (with_reducible exact Below.refl _ _) | (with_reducible refine Below.setCell ?_ ?_ _) | (with_reducible refine Below.alloc ?_ ?_ _) | (with_reducible refine Below.drew ?_) | (with_reducible refine Below.trans ?_ (Below.mono hb11 ?_)) | (with_reducible refine Below.trans ?_ (Below.mono hB10 ?_)) | go_size)))
              have hD11 : Below w5.heap.size w5 w11 := by ((have shb11 := hb11.size); (try simp at shb11); (have shD10 := hD10.size); (try simp at shD10); (repeat' (first | (with_reducible exact Below.refl _ _) | (with_reducible refine Below.setCell ?_ ?_ _) | (with_reducible refine Below.alloc ?_ ?_ _) | (with_reducible refine Below.drew ?_) | (with_reducible refine Below.trans ?_ (Below.mono hb11 ?_)) | (with_reducible refine Below.trans ?_ (Below.mono hD10 ?_)) | go_size)))
              have c0_11 := (hb11.cell (p := ⟨w.heap.size, 0, none⟩) (by first | omega | (simp; done) | (simp; omega))).trans c0_10
              have c1_11 := (hb11.cell (p := ⟨w.heap.size + 1, 0, none⟩) (by first | omega | (simp; done) | (simp; omega))).trans c1_10
              have c2_11 := (hb11.cell (p := ⟨w.heap.size + 1, 1, none⟩) (by first | omega | (simp; done) | (simp; omega))).trans c2_10
              have q0_11 := (hb11.cell (p := ⟨w5.heap.size, 0, none⟩) (by first | omega | (simp; done) | (simp; omega))).trans q0_10
              have q1_11 := (hb11.cell (p := ⟨w5.heap.size, 1, none⟩) (by first | omega | (simp; done) | (simp; omega))).trans q1_10
              have t0_11 := (hb11.cell (p := ⟨w6.heap.size, 0, none⟩) (by first | omega | (simp; done) | (simp; omega))).trans t0_10
              have t1_11 := (hb11.cell (p := ⟨w6.heap.size, 1, none⟩) (by first | omega | (simp; done) | (simp; omega))).trans t1_10
              have zz0_11 : w.heap.size < w11.heap.size := (by have := hb11.size; (try simp at this); omega)
              have zz1_11 : w.heap.size + 1 < w11.heap.size := (by have := hb11.size; (try simp at this); omega)
              have zz2_11 : w5.heap.size < w11.heap.size := (by have := hb11.size; (try simp at this); omega)
              have zz3_11 : w6.heap.size < w11.heap.size := (by have := hb11.size; (try simp at this); omega)
              clear c0_10 c1_10 c2_10 q0_10 q1_10 t0_10 t1_10
              cases hco : centsOK cs
              case false =>
                have hE0 : E = 230 := HE.out.symm.trans (build_no HAO.out hco).1
                have HSN := Lib.hid (show sameL bc bm [] [] = true by rw [← HBC.out, ← HBM.out, (build_no HAO.out hco).2.1, (build_no HAO.out hco).2.2]; exact same_nil)
                subst hE0
                clear hco
                go_wp2_with fail
                refine (r13Same _ _ _ _ bc [] bm [] _ (HZ1.out _ (by ((have shD11 := hD11.size); (try simp at shD11); (repeat' (first | (with_reducible exact Below.refl _ _) | (with_reducible refine Below.setCell ?_ ?_ _) | (with_reducible refine Below.alloc ?_ ?_ _) | (with_reducible refine Below.drew ?_) | (with_reducible refine Below.trans ?_ (Below.mono hD11 ?_)) | go_size))))) (HZ2.out _ (by ((have shD11 := hD11.size); (try simp at shD11); (repeat' (first | (with_reducible exact Below.refl _ _) | (with_reducible refine Below.setCell ?_ ?_ _) | (with_reducible refine Below.alloc ?_ ?_ _) | (with_reducible refine Below.drew ?_) | (with_reducible refine Below.trans ?_ (Below.mono hD11 ?_)) | go_size))))) (nilVecs _) (nilMasks _)).mono ?_
                rintro e w12 ⟨rfl, hb12⟩
                rw [HSN.out]
                go_wp2
                go_ret
                exact ⟨rfl, by ((have shb12 := hb12.size); (try simp at shb12); (have shB11 := hB11.size); (try simp at shB11); (repeat' (first | (with_reducible exact Below.refl _ _) | (with_reducible refine Below.setCell ?_ ?_ _) | (with_reducible refine Below.alloc ?_ ?_ _) | (with_reducible refine Below.drew ?_) | (with_reducible refine Below.trans ?_ (Below.mono hb12 ?_)) | (with_reducible refine Below.trans ?_ (Below.mono hB11 ?_)) | go_size)))⟩
              case true =>
                have HCO := Lib.hid hco
                clear hco
                go_wp2_with fail
                refine (r13build _ _ cells cs (by omega) HAO.out HCO.out _ (HX.out _ (by ((have shB11 := hB11.size); (try simp at shB11); (repeat' (first | (with_reducible exact Below.refl _ _) | (with_reducible refine Below.setCell ?_ ?_ _) | (with_reducible refine Below.alloc ?_ ?_ _) | (with_reducible refine Below.drew ?_) | (with_reducible refine Below.trans ?_ (Below.mono hB11 ?_)) | go_size))))) (HV.out _ (by ((have shB11 := hB11.size); (try simp at shB11); (repeat' (first | (with_reducible exact Below.refl _ _) | (with_reducible refine Below.setCell ?_ ?_ _) | (with_reducible refine Below.alloc ?_ ?_ _) | (with_reducible refine Below.drew ?_) | (with_reducible refine Below.trans ?_ (Below.mono hB11 ?_)) | go_size)))))).mono ?_
                rintro e w12 ⟨⟨vc, vm, rfl, hvc, hvm⟩, hb12⟩
                have hB12 : Below w.heap.size w w12 := by ((have shb12 := hb12.size); (try simp at shb12); (have shB11 := hB11.size); (try simp at shB11); (repeat' (first | (with_reducible exact Below.refl _ _) | (with_reducible refine Below.setCell ?_ ?_ _) | (with_reducible refine Below.alloc ?_ ?_ _) | (with_reducible refine Below.drew ?_) | (with_reducible refine Below.trans ?_ (Below.mono hb12 ?_)) | (with_reducible refine Below.trans ?_ (Below.mono hB11 ?_)) | go_size)))
                have hD12 : Below w5.heap.size w5 w12 := by ((have shb12 := hb12.size); (try simp at shb12); (have shD11 := hD11.size); (try simp at shD11); (repeat' (first | (with_reducible exact Below.refl _ _) | (with_reducible refine Below.setCell ?_ ?_ _) | (with_reducible refine Below.alloc ?_ ?_ _) | (with_reducible refine Below.drew ?_) | (with_reducible refine Below.trans ?_ (Below.mono hb12 ?_)) | (with_reducible refine Below.trans ?_ (Below.mono hD11 ?_)) | go_size)))
                have c0_12 := (hb12.cell (p := ⟨w.heap.size, 0, none⟩) (by first | omega | (simp; done) | (simp; omega))).trans c0_11
                have c1_12 := (hb12.cell (p := ⟨w.heap.size + 1, 0, none⟩) (by first | omega | (simp; done) | (simp; omega))).trans c1_11
                have c2_12 := (hb12.cell (p := ⟨w.heap.size + 1, 1, none⟩) (by first | omega | (simp; done) | (simp; omega))).trans c2_11
                have q0_12 := (hb12.cell (p := ⟨w5.heap.size, 0, none⟩) (by first | omega | (simp; done) | (simp; omega))).trans q0_11
                have q1_12 := (hb12.cell (p := ⟨w5.heap.size, 1, none⟩) (by first | omega | (simp; done) | (simp; omega))).trans q1_11
                have t0_12 := (hb12.cell (p := ⟨w6.heap.size, 0, none⟩) (by first | omega | (simp; done) | (simp; omega))).trans t0_11
                have t1_12 := (hb12.cell (p := ⟨w6.heap.size, 1, none⟩) (by first | omega | (simp; done) | (simp; omega))).trans t1_11
                have zz0_12 : w.heap.size < w12.heap.size := (by have := hb12.size; (try simp at this); omega)
                have zz1_12 : w.heap.size + 1 < w12.heap.size := (by have := hb12.size; (try simp at this); omega)
                have zz2_12 : w5.heap.size < w12.heap.size := (by have := hb12.size; (try simp at this); omega)
                have zz3_12 : w6.heap.size < w12.heap.size := (by have := hb12.size; (try simp at this); omega)
                clear c0_11 c1_11 c2_11 q0_11 q1_11 t0_11 t1_11
                have HVC := Lib.hid (fun W (hb : Below w12.heap.size w12 W) => hvc.grown hb)
                have HVM := Lib.hid (fun W (hb : Below w12.heap.size w12 W) => hvm.grown hb)
                obtain ⟨pa, pc, rfl, -⟩ := hvc.open
                obtain ⟨qa, qc, rfl, -⟩ := hvm.open
                clear hvc hvm
                cases hro : refOK cells cs
                case false =>
                  have hE0 : E = 151 := by rw [← HE.out, (build_ref HAO.out HCO.out).1, hro]; rfl
                  have HSN := Lib.hid (show sameL bc bm [] [] = true by rw [← HBC.out, ← HBM.out, (build_ref HAO.out HCO.out).2.1, (build_ref HAO.out HCO.out).2.2]; unfold refC refM; rw [hro]; exact same_nil)
                  subst hE0
                  clear hro
                  go_wp2_with fail
                  refine (r13Same _ _ _ _ bc [] bm [] _ (HZ1.out _ (by ((have shD12 := hD12.size); (try simp at shD12); (repeat' (first | (with_reducible exact Below.refl _ _) | (with_reducible refine Below.setCell ?_ ?_ _) | (with_reducible refine Below.alloc ?_ ?_ _) | (with_reducible refine Below.drew ?_) | (with_reducible refine Below.trans ?_ (Below.mono hD12 ?_)) | go_size))))) (HZ2.out _ (by ((have shD12 := hD12.size); (try simp at shD12); (repeat' (first | (with_reducible exact Below.refl _ _) | (with_reducible refine Below.setCell ?_ ?_ _) | (with_reducible refine Below.alloc ?_ ?_ _) | (with_reducible refine Below.drew ?_) | (with_reducible refine Below.trans ?_ (Below.mono hD12 ?_)) | go_size))))) (nilVecs _) (nilMasks _)).mono ?_
                  rintro e w13 ⟨rfl, hb13⟩
                  rw [HSN.out]
                  go_wp2
                  go_ret
                  exact ⟨rfl, by ((have shb13 := hb13.size); (try simp at shb13); (have shB12 := hB12.size); (try simp at shB12); (repeat' (first | (with_reducible exact Below.refl _ _) | (with_reducible refine Below.setCell ?_ ?_ _) | (with_reducible refine Below.alloc ?_ ?_ _) | (with_reducible refine Below.drew ?_) | (with_reducible refine Below.trans ?_ (Below.mono hb13 ?_)) | (with_reducible refine Below.trans ?_ (Below.mono hB12 ?_)) | go_size)))⟩
                case true =>
                  have hE0 : E = 0 := by rw [← HE.out, (build_ref HAO.out HCO.out).1, hro]; rfl
                  have HSS := Lib.hid (show sameL bc bm (refC cells cs) (refM cells cs) = true by rw [← HBC.out, ← HBM.out, (build_ref HAO.out HCO.out).2.1, (build_ref HAO.out HCO.out).2.2]; exact same_selfB _ _)
                  subst hE0
                  clear hro
                  go_wp2_with fail
                  refine (r13Same _ _ _ _ bc (refC cells cs) bm (refM cells cs) _ (HZ1.out _ (by ((have shD12 := hD12.size); (try simp at shD12); (repeat' (first | (with_reducible exact Below.refl _ _) | (with_reducible refine Below.setCell ?_ ?_ _) | (with_reducible refine Below.alloc ?_ ?_ _) | (with_reducible refine Below.drew ?_) | (with_reducible refine Below.trans ?_ (Below.mono hD12 ?_)) | go_size))))) (HZ2.out _ (by ((have shD12 := hD12.size); (try simp at shD12); (repeat' (first | (with_reducible exact Below.refl _ _) | (with_reducible refine Below.setCell ?_ ?_ _) | (with_reducible refine Below.alloc ?_ ?_ _) | (with_reducible refine Below.drew ?_) | (with_reducible refine Below.trans ?_ (Below.mono hD12 ?_)) | go_size))))) (HVC.out _ (by ((repeat' (first | (with_reducible exact Below.refl _ _) | (with_reducible refine Below.setCell ?_ ?_ _) | (with_reducible refine Below.alloc ?_ ?_ _) | (with_reducible refine Below.drew ?_) | (with_reducible refine Below.trans ?_ (Below.mono (by assumption) ?_)) | go_size))))) (HVM.out _ (by ((repeat' (first | (with_reducible exact Below.refl _ _) | (with_reducible refine Below.setCell ?_ ?_ _) | (with_reducible refine Below.alloc ?_ ?_ _) | (with_reducible refine Below.drew ?_) | (with_reducible refine Below.trans ?_ (Below.mono (by assumption) ?_)) | go_size)))))).mono ?_
                  rintro e w13 ⟨rfl, hb13⟩
                  rw [HSS.out]
                  go_wp2
                  go_ret
                  exact ⟨rfl, by ((have shb13 := hb13.size); (try simp at shb13); (have shB12 := hB12.size); (try simp at shB12); (repeat' (first | (with_reducible exact Below.refl _ _) | (with_reducible refine Below.setCell ?_ ?_ _) | (with_reducible refine Below.alloc ?_ ?_ _) | (with_reducible refine Below.drew ?_) | (with_reducible refine Below.trans ?_ (Below.mono hb13 ?_)) | (with_reducible refine Below.trans ?_ (Below.mono hB12 ?_)) | go_size)))⟩
end Go.Proofs.Ytlfmffjlmhpcdaa
