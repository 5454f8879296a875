/- Centroids that may be: the program's word and the document's; lists in memory. -/
import Derived.Test.YtlfmffjlmhpcdaaArenaB
import Derived.Test.YtlfmffjlmhpcdaaTellL
namespace Go.Proofs.Ytlfmffjlmhpcdaa
open Go.RowKit
set_option maxRecDepth 100000
attribute [local irreducible] Der

def badC (d : Nat) (p : PV) : Bool := !decide (ofE p.2 (d : Int) = 0)
theorem c_centroid (B : Nat) (v : Value) (l : List PV) (p : PV) (w : World) (hc : w.cell? ⟨B, 0, none⟩ = some v) (h : VecsV w v l) (h0 : 0 < l.length) (hp : VecV w p.1 p.2) :
    Calls Try.prog 85 #[p.1, .pointer (some ⟨B, 0, none⟩)] w fun e w' => e = .returned (.bool (badC (dim0 l) p)) ∧ Below w.heap.size w w' := by
  obtain ⟨a, cap, rfl, hl, hm, hcell⟩ := h.open
  obtain ⟨b, off, rfl, hlt, g1⟩ := hcell 0 h0
  obtain ⟨a', cap', e', hl', hm'⟩ := (h.2 l[0] (List.getElem_mem h0)).form
  have HP := Lib.hid hp
  obtain ⟨pv, pl⟩ := p
  rw [e', Nat.add_zero] at g1
  have HD := Lib.hid (show badC (dim0 l) (pv, pl) = !decide (ofE pl (l[0].2.length : Int) = 0) by unfold badC; rw [dim0_get h0])
  generalize l[0].2.length = d at *
  have hlen : ¬ l = [] := by intro e; subst e; simp at h0
  clear hcell h hp e'
  go_enter Try.func85, Try.ntmps85
  go_wp2_with fail
  refine (f_vecOf _ pl _ _ HP.out).mono ?_
  rintro e w1 ⟨rfl, hb1⟩
  have hn : ∀ z : Int, (z != 0) = !decide (z = 0) := by intro z; rw [Bool.eq_iff_iff]; simp
  generalize ofE pl (d : Int) = E at *
  go_wp2
  go_ret
  refine ⟨by rw [HD.out]; first | rfl | (rw [← hn]; rfl), hb1⟩
theorem centroid_on (B : Nat) (v : Value) (l : List PV) (w : World) (hB : B < w.heap.size) (hc : w.cell? ⟨B, 0, none⟩ = some v) (h : VecsV w v l) : PredOn 85 #[.pointer (some ⟨B, 0, none⟩)] argV (badC (dim0 l)) l w := fun p hp w' hb =>
  c_centroid B v l p w' ((hb.cell (p := ⟨B, 0, none⟩) hB).trans hc) (h.grown hb) (List.length_pos_of_mem hp) ((h.2 p hp).grown hb)
theorem enters_centroid : ∀ args w, (callFunc 85 args).run Try.prog w = .ok (.enter 85 args) w := enters_of Try.func85 (by kernel_rfl) rfl
/-- May vectors be the centroids of lists? -/
def centsOK (l : List PV) : Bool := decide (l.length ≤ 6) && decide (vecsE l = 0)
theorem cents_any (l : List PV) : (!l.any (badC (dim0 l))) = decide (vecsE l = 0) := by
  have e : vecsE l = if l.all (fun p => vecOK p.2) then (if l.any (otherD (dim0 l)) then 151 else 0) else 150 := rfl
  rw [e]
  by_cases ha : l.all (fun p => vecOK p.2) = true
  · rw [if_pos ha]
    have : l.any (badC (dim0 l)) = l.any (otherD (dim0 l)) := by
      rw [Bool.eq_iff_iff, List.any_eq_true, List.any_eq_true]
      have hall := List.all_eq_true.1 ha
      constructor
      · rintro ⟨p, hp, hb⟩
        refine ⟨p, hp, ?_⟩
        unfold badC ofE at hb
        rw [hall p hp] at hb
        unfold otherD
        by_cases hd : (p.2.length : Int) = (dim0 l : Int)
        · simp [hd] at hb
        · simp [hd]
      · rintro ⟨p, hp, hb⟩
        refine ⟨p, hp, ?_⟩
        unfold badC ofE
        rw [hall p hp]
        unfold otherD at hb
        by_cases hd : (p.2.length : Int) = (dim0 l : Int)
        · simp [hd] at hb
        · simp [hd]
    rw [this]
    cases l.any (otherD (dim0 l)) <;> rfl
  · rw [if_neg ha]
    have ha' : l.all (fun p => vecOK p.2) = false := by simpa using ha
    obtain ⟨p, hp, hb⟩ := List.all_eq_false.1 ha'
    have : l.any (badC (dim0 l)) = true := List.any_eq_true.2 ⟨p, hp, by unfold badC ofE; simp at hb; rw [hb]; rfl⟩
    rw [this]; rfl
theorem f_centroids (v : Value) (l : List PV) (w : World) (h : VecsV w v l) : Calls Try.prog 41 #[v] w fun e w' => e = .returned (.bool (centsOK l)) ∧ Below w.heap.size w w' := by
  obtain ⟨a, cap, rfl, hl, hm⟩ : ∃ a cap, v = .slice a l.length cap ∧ l.length ≤ cap ∧ cap ≤ 9223372036854775807 := by
    obtain ⟨a, cap, e, h1, h2, -⟩ := h.open; exact ⟨a, cap, e, h1, h2⟩
  have HV := Lib.hid (fun W (hb : Below w.heap.size w W) => h.grown hb)
  clear h
  by_cases h6 : 6 < l.length
  · have HE := Lib.hid (show centsOK l = false by unfold centsOK; rw [decide_eq_false (by omega)]; rfl)
    go_enter Try.func41, Try.ntmps41
    go_wp2
    go_ret
    refine ⟨by rw [HE.out]; rfl, ?_⟩
    ((repeat' (first | (with_reducible exact Below.refl _ _) | (with_reducible refine Below.setCell ?_ ?_ _) | (with_reducible refine Below.alloc ?_ ?_ _) | (with_reducible refine Below.drew ?_) | (with_reducible refine Below.trans ?_ (Below.mono (by assumption) ?_)) | go_size)))
  · have HE := Lib.hid (show centsOK l = !l.any (badC (dim0 l)) by unfold centsOK; rw [cents_any, decide_eq_true (by omega)]; rfl)
    go_enter Try.func41, Try.ntmps41
    go_wp2_with fail
    refine (anyPV _ _ enters_centroid (badC (dim0 l)) _ l _ (HV.out _ (by ((repeat' (first | (with_reducible exact Below.refl _ _) | (with_reducible refine Below.setCell ?_ ?_ _) | (with_reducible refine Below.alloc ?_ ?_ _) | (with_reducible refine Below.drew ?_) | (with_reducible refine Below.trans ?_ (Below.mono (by assumption) ?_)) | go_size))))) (centroid_on w.heap.size _ l _ (by simp) (by go_simp) (HV.out _ (by ((repeat' (first | (with_reducible exact Below.refl _ _) | (with_reducible refine Below.setCell ?_ ?_ _) | (with_reducible refine Below.alloc ?_ ?_ _) | (with_reducible refine Below.drew ?_) | (with_reducible refine Below.trans ?_ (Below.mono (by assumption) ?_)) | go_size))))))).mono ?_
    rintro e w1 ⟨rfl, hb1⟩
    go_wp2
    go_ret
    refine ⟨by rw [HE.out]; rfl, ?_⟩
    ((have shb1 := hb1.size); (try simp at shb1); (repeat' (first | (with_reducible exact Below.refl _ _) | (with_reducible refine Below.setCell ?_ ?_ _) | (with_reducible refine Below.alloc ?_ ?_ _) | (with_reducible refine Below.drew ?_) | (with_reducible refine Below.trans ?_ (Below.mono hb1 ?_)) | go_size)))
theorem r13Centroids (v : Value) (l : List PV) (w : World) (h : VecsV w v l) : Calls Try.prog 23 #[v] w fun e w' => e = .returned (.bool (centsOK l)) ∧ Below w.heap.size w w' := by
  obtain ⟨a, cap, rfl, hl, hm⟩ : ∃ a cap, v = .slice a l.length cap ∧ l.length ≤ cap ∧ cap ≤ 9223372036854775807 := by
    obtain ⟨a, cap, e, h1, h2, -⟩ := h.open; exact ⟨a, cap, e, h1, h2⟩
  have H := Lib.hid h
  clear h
  by_cases h6 : 6 < l.length
  · have HE := Lib.hid (show centsOK l = false by unfold centsOK; rw [decide_eq_false (by omega)]; rfl)
    have hd : decide ((l.length : Int) ≤ 6) = false := decide_eq_false (by omega)
    go_enter Try.func23, Try.ntmps23
    go_wp2
    go_ret
    refine ⟨by rw [HE.out]; rfl, Below.refl _ _⟩
  · have HE := Lib.hid (show centsOK l = decide (vecsE l = 0) by unfold centsOK; rw [decide_eq_true (by omega)]; rfl)
    have hd : decide ((l.length : Int) ≤ 6) = true := decide_eq_true (by omega)
    go_enter Try.func23, Try.ntmps23
    go_wp2_with fail
    refine (r5All _ l _ H.out).mono ?_
    rintro e w1 ⟨rfl, hb1⟩
    have hn : ∀ z : Int, (z == 0) = decide (z = 0) := by intro z; rw [Bool.eq_iff_iff]; simp
    generalize vecsE l = E at *
    go_wp2
    go_ret
    refine ⟨by rw [HE.out]; first | rfl | (rw [← hn]; rfl), hb1⟩
end Go.Proofs.Ytlfmffjlmhpcdaa
