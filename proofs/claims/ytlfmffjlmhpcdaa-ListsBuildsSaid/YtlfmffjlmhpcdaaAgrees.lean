/- lists.Agrees. -/
import Derived.Test.YtlfmffjlmhpcdaaBuildW
namespace Go.Proofs.Ytlfmffjlmhpcdaa
open Go.RowKit
set_option maxRecDepth 100000
attribute [local irreducible] Der

/-- What lists.Build gives, in one: the error, the centroids, the masks. -/
def buildE (cells : List Cel) (cs : List PV) : Int :=
  if arenaOK cells = false then 190 else if centsOK cs = false then 230 else if cs = [] then 0 else if cells.all (fun c => !c.used || fitC cs c) = false then 151 else 0
def buildOK (cells : List Cel) (cs : List PV) : Bool := arenaOK cells && (centsOK cs && (!cs.isEmpty && cells.all (fun c => !c.used || fitC cs c)))
def buildC (cells : List Cel) (cs : List PV) : List PV := if buildOK cells cs then cs else []
def buildMs (cells : List Cel) (cs : List PV) : List M := if buildOK cells cs then buildM cs cells cells.length else []
theorem nilL_O (B : Nat) (w : World) : ListsO B w nilL [] [] := ⟨_, _, rfl, World.ownsRow_nil _ _ _ _, World.ownsRow_nil _ _ _ _⟩
theorem built {cells : List Cel} {cs : List PV} {B : Nat} {e : Ending} {w' : World} (h : BuildPost cells cs B e w') : ∃ x, e = .returned (.tuple #[x, .int .i64 (buildE cells cs)]) ∧ ListsO B w' x (buildC cells cs) (buildMs cells cs) := by
  unfold BuildPost at h
  unfold buildC buildMs buildE buildOK
  by_cases h1 : arenaOK cells = false
  · rw [if_pos h1] at h; rw [if_pos h1, h1]; exact ⟨_, h, nilL_O _ _⟩
  · rw [if_neg h1] at h ⊢
    by_cases h2 : centsOK cs = false
    · rw [if_pos h2] at h; rw [if_pos h2, h2]; simp only [Bool.false_and, Bool.and_false]; exact ⟨_, h, nilL_O _ _⟩
    · rw [if_neg h2] at h ⊢
      by_cases h3 : cs = []
      · rw [if_pos h3] at h; rw [if_pos h3]; subst h3; simp only [List.isEmpty_nil, Bool.not_true, Bool.false_and, Bool.and_false]; exact ⟨_, h, nilL_O _ _⟩
      · rw [if_neg h3] at h ⊢
        by_cases h4 : cells.all (fun c => !c.used || fitC cs c) = false
        · rw [if_pos h4] at h; rw [if_pos h4, h4]; simp only [Bool.and_false]; exact ⟨_, h, nilL_O _ _⟩
        · rw [if_neg h4] at h ⊢
          obtain ⟨x, e1, e2⟩ := h
          have g1 : arenaOK cells = true := by simpa using h1
          have g2 : centsOK cs = true := by simpa using h2
          have g3 : cs.isEmpty = false := by cases cs with | nil => exact absurd rfl h3 | cons _ _ => rfl
          have g4 : cells.all (fun c => !c.used || fitC cs c) = true := by
            cases h : cells.all (fun c => !c.used || fitC cs c)
            · exact absurd h h4
            · rfl
          rw [g1, g2, g3, g4]
          exact ⟨x, e1, e2⟩
theorem f_build (vx vl : Value) (cells : List Cel) (cs : List PV) (hcl : cs.length ≤ 1000) (w : World) (hx : CelsV w vx cells) (hc : VecsV w vl cs) :
    Calls Try.prog 19 #[.agg #[vx], vl] w fun e w' => (∃ x, e = .returned (.tuple #[x, .int .i64 (buildE cells cs)]) ∧ ListsO w.heap.size w' x (buildC cells cs) (buildMs cells cs)) ∧ Below w.heap.size w w' :=
  (f_Build vx vl cells cs hcl w hx hc).mono fun _ _ h => ⟨built h.1, h.2⟩
theorem buildC_mem {cells : List Cel} {cs : List PV} {p : PV} (h : p ∈ buildC cells cs) : p ∈ cs := by
  unfold buildC at h; split at h
  · exact h
  · cases h
/-- Do lists agree with an arena? -/
def agreesF (cs : List PV) (ms : List M) (cells : List Cel) : Bool := listsOK cs ms && (arenaOK cells && (decide (buildE cells cs = 0) && sameL cs ms (buildC cells cs) (buildMs cells cs)))
set_option maxHeartbeats 4000000 in
theorem f_Agrees (vc vm vx : Value) (cs : List PV) (ms : List M) (cells : List Cel) (hcl : cs.length ≤ 1000) (w : World) (hc : VecsV w vc cs) (hm : Masks w vm ms) (hx : CelsV w vx cells) :
    Calls Try.prog 20 #[.agg #[vc, vm], .agg #[vx]] w fun e w' => e = .returned (.bool (agreesF cs ms cells)) ∧ Below w.heap.size w w' := by
  obtain ⟨a, cap, rfl, -⟩ := hc.open
  obtain ⟨a', cap', rfl, -⟩ := hm.open
  obtain ⟨b, cbp, rfl, -⟩ := hx.open
  have HV := Lib.hid (fun W (hb : Below w.heap.size w W) => hc.grown hb)
  have HM := Lib.hid (fun W (hb : Below w.heap.size w W) => hm.grown hb)
  have HX := Lib.hid (fun W (hb : Below w.heap.size w W) => hx.grown hb)
  clear hc hm hx
  cases h1 : listsOK cs ms
  · have HE := Lib.hid (show agreesF cs ms cells = false by unfold agreesF; rw [h1]; rfl)
    have HL := Lib.hid (show listsE cs ms = 230 by unfold listsE; rw [h1]; rfl)
    clear h1
    go_enter Try.func20, Try.ntmps20
    go_wp2_with fail
    refine (f_listsCheck _ _ cs ms _ (HV.out _ (by ((repeat' (first | (with_reducible exact Below.refl _ _) | (with_reducible refine Below.setCell ?_ ?_ _) | (with_reducible refine Below.alloc ?_ ?_ _) | (with_reducible refine Below.drew ?_) | (with_reducible refine Below.trans ?_ (Below.mono (by assumption) ?_)) | go_size))))) (HM.out _ (by ((repeat' (first | (with_reducible exact Below.refl _ _) | (with_reducible refine Below.setCell ?_ ?_ _) | (with_reducible refine Below.alloc ?_ ?_ _) | (with_reducible refine Below.drew ?_) | (with_reducible refine Below.trans ?_ (Below.mono (by assumption) ?_)) | go_size)))))).mono ?_
    rintro e w1 ⟨rfl, hb1⟩
    rw [HL.out]
    go_wp2
    go_ret
    exact ⟨by rw [HE.out]; rfl, by ((have shb1 := hb1.size); (try simp at shb1); (repeat' (first | (with_reducible exact Below.refl _ _) | (with_reducible refine Below.setCell ?_ ?_ _) | (with_reducible refine Below.alloc ?_ ?_ _) | (with_reducible refine Below.drew ?_) | (with_reducible refine Below.trans ?_ (Below.mono hb1 ?_)) | go_size)))⟩
  · cases h2 : arenaOK cells
    · have HE := Lib.hid (show agreesF cs ms cells = false by unfold agreesF; rw [h1, h2]; rfl)
      have HL := Lib.hid (show listsE cs ms = 0 by unfold listsE; rw [h1]; rfl)
      have HA := Lib.hid (show arenaE cells = 190 by unfold arenaE; rw [h2]; rfl)
      clear h1 h2
      go_enter Try.func20, Try.ntmps20
      go_wp2_with fail
      refine (f_listsCheck _ _ cs ms _ (HV.out _ (by ((repeat' (first | (with_reducible exact Below.refl _ _) | (with_reducible refine Below.setCell ?_ ?_ _) | (with_reducible refine Below.alloc ?_ ?_ _) | (with_reducible refine Below.drew ?_) | (with_reducible refine Below.trans ?_ (Below.mono (by assumption) ?_)) | go_size))))) (HM.out _ (by ((repeat' (first | (with_reducible exact Below.refl _ _) | (with_reducible refine Below.setCell ?_ ?_ _) | (with_reducible refine Below.alloc ?_ ?_ _) | (with_reducible refine Below.drew ?_) | (with_reducible refine Below.trans ?_ (Below.mono (by assumption) ?_)) | go_size)))))).mono ?_
      rintro e w1 ⟨rfl, hb1⟩
      rw [HL.out]
      have z1w0 : w.heap.size < w1.heap.size := (by have := hb1.size; (try simp at this); omega)
      have q1w0 := fun o => hb1.cell (p := ⟨w.heap.size, o, none⟩) (by first | omega | (simp; done) | (simp; omega))
      have r1w0 := fun o => hb1.frozen (p := ⟨w.heap.size, o, none⟩) (by first | omega | (simp; done) | (simp; omega))
      have z1w1 : w.heap.size + 1 < w1.heap.size := (by have := hb1.size; (try simp at this); omega)
      have q1w1 := fun o => hb1.cell (p := ⟨w.heap.size + 1, o, none⟩) (by first | omega | (simp; done) | (simp; omega))
      have r1w1 := fun o => hb1.frozen (p := ⟨w.heap.size + 1, o, none⟩) (by first | omega | (simp; done) | (simp; omega))
      go_wp2_with fail
      refine (f_arenaCheck _ cells _ (HX.out _ (by ((have shb1 := hb1.size); (try simp at shb1); (repeat' (first | (with_reducible exact Below.refl _ _) | (with_reducible refine Below.setCell ?_ ?_ _) | (with_reducible refine Below.alloc ?_ ?_ _) | (with_reducible refine Below.drew ?_) | (with_reducible refine Below.trans ?_ (Below.mono hb1 ?_)) | go_size)))))).mono ?_
      rintro e w2 ⟨rfl, hb2⟩
      rw [HA.out]
      go_wp2
      go_ret
      exact ⟨by rw [HE.out]; rfl, by ((have shb2 := hb2.size); (try simp at shb2); (have shb1 := hb1.size); (try simp at shb1); (repeat' (first | (with_reducible exact Below.refl _ _) | (with_reducible refine Below.setCell ?_ ?_ _) | (with_reducible refine Below.alloc ?_ ?_ _) | (with_reducible refine Below.drew ?_) | (with_reducible refine Below.trans ?_ (Below.mono hb2 ?_)) | (with_reducible refine Below.trans ?_ (Below.mono hb1 ?_)) | go_size)))⟩
    · have HE := Lib.hid (show agreesF cs ms cells = (decide (buildE cells cs = 0) && sameL cs ms (buildC cells cs) (buildMs cells cs)) by unfold agreesF; rw [h1, h2]; rfl)
      have HL := Lib.hid (show listsE cs ms = 0 by unfold listsE; rw [h1]; rfl)
      have HA := Lib.hid (show arenaE cells = 0 by unfold arenaE; rw [h2]; rfl)
      have HS := Lib.hid (fun p (hp : p ∈ buildC cells cs) => (HV.out w (Below.refl _ _)).2 p (buildC_mem hp))
      have HBd := Lib.hid (fun W hb => f_build (.slice b cells.length cbp) (.slice a cs.length cap) cells cs hcl W (HX.out W hb) (HV.out W hb))
      clear h1 h2
      generalize buildC cells cs = bc at *
      generalize buildMs cells cs = bm at *
      obtain ⟨E, hEE⟩ : ∃ E, buildE cells cs = E := ⟨_, rfl⟩
      rw [hEE] at HE HBd
      clear hEE
      go_enter Try.func20, Try.ntmps20
      go_wp2_with fail
      refine (f_listsCheck _ _ cs ms _ (HV.out _ (by ((repeat' (first | (with_reducible exact Below.refl _ _) | (with_reducible refine Below.setCell ?_ ?_ _) | (with_reducible refine Below.alloc ?_ ?_ _) | (with_reducible refine Below.drew ?_) | (with_reducible refine Below.trans ?_ (Below.mono (by assumption) ?_)) | go_size))))) (HM.out _ (by ((repeat' (first | (with_reducible exact Below.refl _ _) | (with_reducible refine Below.setCell ?_ ?_ _) | (with_reducible refine Below.alloc ?_ ?_ _) | (with_reducible refine Below.drew ?_) | (with_reducible refine Below.trans ?_ (Below.mono (by assumption) ?_)) | go_size)))))).mono ?_
      rintro e w1 ⟨rfl, hb1⟩
      rw [HL.out]
      have z1w0 : w.heap.size < w1.heap.size := (by have := hb1.size; (try simp at this); omega)
      have q1w0 := fun o => hb1.cell (p := ⟨w.heap.size, o, none⟩) (by first | omega | (simp; done) | (simp; omega))
      have r1w0 := fun o => hb1.frozen (p := ⟨w.heap.size, o, none⟩) (by first | omega | (simp; done) | (simp; omega))
      have z1w1 : w.heap.size + 1 < w1.heap.size := (by have := hb1.size; (try simp at this); omega)
      have q1w1 := fun o => hb1.cell (p := ⟨w.heap.size + 1, o, none⟩) (by first | omega | (simp; done) | (simp; omega))
      have r1w1 := fun o => hb1.frozen (p := ⟨w.heap.size + 1, o, none⟩) (by first | omega | (simp; done) | (simp; omega))
      go_wp2_with fail
      refine (f_arenaCheck _ cells _ (HX.out _ (by ((have shb1 := hb1.size); (try simp at shb1); (repeat' (first | (with_reducible exact Below.refl _ _) | (with_reducible refine Below.setCell ?_ ?_ _) | (with_reducible refine Below.alloc ?_ ?_ _) | (with_reducible refine Below.drew ?_) | (with_reducible refine Below.trans ?_ (Below.mono hb1 ?_)) | go_size)))))).mono ?_
      rintro e w2 ⟨rfl, hb2⟩
      rw [HA.out]
      have z2w0 : w.heap.size < w2.heap.size := (by have := hb2.size; (try simp at this); omega)
      have q2w0 := fun o => hb2.cell (p := ⟨w.heap.size, o, none⟩) (by first | omega | (simp; done) | (simp; omega))
      have r2w0 := fun o => hb2.frozen (p := ⟨w.heap.size, o, none⟩) (by first | omega | (simp; done) | (simp; omega))
      have z2w1 : w.heap.size + 1 < w2.heap.size := (by have := hb2.size; (try simp at this); omega)
      have q2w1 := fun o => hb2.cell (p := ⟨w.heap.size + 1, o, none⟩) (by first | omega | (simp; done) | (simp; omega))
      have r2w1 := fun o => hb2.frozen (p := ⟨w.heap.size + 1, o, none⟩) (by first | omega | (simp; done) | (simp; omega))
      go_wp2_with fail
      refine (HBd.out _ (by ((have shb2 := hb2.size); (try simp at shb2); (have shb1 := hb1.size); (try simp at shb1); (repeat' (first | (with_reducible exact Below.refl _ _) | (with_reducible refine Below.setCell ?_ ?_ _) | (with_reducible refine Below.alloc ?_ ?_ _) | (with_reducible refine Below.drew ?_) | (with_reducible refine Below.trans ?_ (Below.mono hb2 ?_)) | (with_reducible refine Below.trans ?_ (Below.mono hb1 ?_)) | go_size))))).mono ?_
      rintro e w3 ⟨⟨x, rfl, hx⟩, hb3⟩
      have z3w0 : w.heap.size < w3.heap.size := (by have := hb3.size; (try simp at this); omega)
      have q3w0 := fun o => hb3.cell (p := ⟨w.heap.size, o, none⟩) (by first | omega | (simp; done) | (simp; omega))
      have r3w0 := fun o => hb3.frozen (p := ⟨w.heap.size, o, none⟩) (by first | omega | (simp; done) | (simp; omega))
      have z3w1 : w.heap.size + 1 < w3.heap.size := (by have := hb3.size; (try simp at this); omega)
      have q3w1 := fun o => hb3.cell (p := ⟨w.heap.size + 1, o, none⟩) (by first | omega | (simp; done) | (simp; omega))
      have r3w1 := fun o => hb3.frozen (p := ⟨w.heap.size + 1, o, none⟩) (by first | omega | (simp; done) | (simp; omega))
      have hB3 : Below w.heap.size w w3 := by ((have shb3 := hb3.size); (try simp at shb3); (have shb2 := hb2.size); (try simp at shb2); (have shb1 := hb1.size); (try simp at shb1); (repeat' (first | (with_reducible exact Below.refl _ _) | (with_reducible refine Below.setCell ?_ ?_ _) | (with_reducible refine Below.alloc ?_ ?_ _) | (with_reducible refine Below.drew ?_) | (with_reducible refine Below.trans ?_ (Below.mono hb3 ?_)) | (with_reducible refine Below.trans ?_ (Below.mono hb2 ?_)) | (with_reducible refine Below.trans ?_ (Below.mono hb1 ?_)) | go_size)))
      have HXL := Lib.hid hx
      obtain ⟨xa, xc, ya, yc, rfl⟩ := hx.form
      obtain ⟨v1, v2, ev, hz1, hz2, -⟩ := hx.toV (fun p hp => (HS.out p hp).grown hB3)
      simp only [Value.agg.injEq, Array.mk.injEq, List.cons.injEq, and_true] at ev
      obtain ⟨rfl, rfl⟩ := ev
      have HZ1 := fun W (hb : Below w3.heap.size w3 W) => hz1.grown hb
      have HZ2 := fun W (hb : Below w3.heap.size w3 W) => hz2.grown hb
      clear hz1 hz2
      clear hx
      by_cases hE : E = 0
      · subst hE
        go_wp2_with fail
        refine (f_listsSame _ _ _ _ cs bc ms bm _ (HV.out _ (by ((have shB3 := hB3.size); (try simp at shB3); (repeat' (first | (with_reducible exact Below.refl _ _) | (with_reducible refine Below.setCell ?_ ?_ _) | (with_reducible refine Below.alloc ?_ ?_ _) | (with_reducible refine Below.drew ?_) | (with_reducible refine Below.trans ?_ (Below.mono hB3 ?_)) | go_size))))) (HM.out _ (by ((have shB3 := hB3.size); (try simp at shB3); (repeat' (first | (with_reducible exact Below.refl _ _) | (with_reducible refine Below.setCell ?_ ?_ _) | (with_reducible refine Below.alloc ?_ ?_ _) | (with_reducible refine Below.drew ?_) | (with_reducible refine Below.trans ?_ (Below.mono hB3 ?_)) | go_size))))) (HZ1 _ (by ((repeat' (first | (with_reducible exact Below.refl _ _) | (with_reducible refine Below.setCell ?_ ?_ _) | (with_reducible refine Below.alloc ?_ ?_ _) | (with_reducible refine Below.drew ?_) | (with_reducible refine Below.trans ?_ (Below.mono (by assumption) ?_)) | go_size))))) (HZ2 _ (by ((repeat' (first | (with_reducible exact Below.refl _ _) | (with_reducible refine Below.setCell ?_ ?_ _) | (with_reducible refine Below.alloc ?_ ?_ _) | (with_reducible refine Below.drew ?_) | (with_reducible refine Below.trans ?_ (Below.mono (by assumption) ?_)) | go_size)))))).mono ?_
        rintro e w4 ⟨rfl, hb4⟩
        go_wp2
        go_ret
        exact ⟨by rw [HE.out]; rfl, by ((have shb4 := hb4.size); (try simp at shb4); (have shB3 := hB3.size); (try simp at shB3); (repeat' (first | (with_reducible exact Below.refl _ _) | (with_reducible refine Below.setCell ?_ ?_ _) | (with_reducible refine Below.alloc ?_ ?_ _) | (with_reducible refine Below.drew ?_) | (with_reducible refine Below.trans ?_ (Below.mono hb4 ?_)) | (with_reducible refine Below.trans ?_ (Below.mono hB3 ?_)) | go_size)))⟩
      · have HE2 := Lib.hid (show agreesF cs ms cells = false by rw [HE.out, decide_eq_false hE]; rfl)
        go_wp2
        go_ret
        exact ⟨by rw [HE2.out]; rfl, by ((have shB3 := hB3.size); (try simp at shB3); (repeat' (first | (with_reducible exact Below.refl _ _) | (with_reducible refine Below.setCell ?_ ?_ _) | (with_reducible refine Below.alloc ?_ ?_ _) | (with_reducible refine Below.drew ?_) | (with_reducible refine Below.trans ?_ (Below.mono hB3 ?_)) | go_size)))⟩
end Go.Proofs.Ytlfmffjlmhpcdaa
