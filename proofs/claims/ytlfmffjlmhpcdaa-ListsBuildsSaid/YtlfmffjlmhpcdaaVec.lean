/- The contracts of package vec: Check, Of, all. -/
import Derived.Test.YtlfmffjlmhpcdaaEq
namespace Go.Proofs.Ytlfmffjlmhpcdaa
open Go.RowKit
set_option maxRecDepth 100000
attribute [local irreducible] Der

def badI (x : Int) : Bool := decide (x < -1073741823) || decide (1073741823 < x)
/-- May a vector be? -/
def vecOK (l : List Int) : Bool := decide (1 ≤ l.length) && (decide (l.length ≤ 4) && !l.any badI)
def vecE (l : List Int) : Int := if vecOK l then 0 else 150
theorem c_bad (x : Int) (w : World) : Calls Try.prog 106 #[.int .i32 x] w fun e w' => e = .returned (.bool (badI x)) ∧ Below w.heap.size w w' := by
  by_cases h1 : x < -1073741823
  · have H := Lib.hid (show badI x = true by unfold badI; simp [h1])
    have h2 : decide (x < -1073741823) = true := decide_eq_true h1
    clear h1
    go_enter Try.func106, Try.ntmps106
    go_wp2
    go_ret
    refine ⟨by rw [H.out]; rfl, Below.refl _ _⟩
  · have H := Lib.hid (show badI x = decide (1073741823 < x) by unfold badI; simp [h1])
    have h2 : decide (x < -1073741823) = false := decide_eq_false h1
    clear h1
    go_enter Try.func106, Try.ntmps106
    go_wp2
    go_ret
    refine ⟨by rw [H.out]; rfl, Below.refl _ _⟩
theorem bad_on (l : List Int) (w : World) : PredOn 106 #[] argI badI l w := fun x _ w' _ => c_bad x w'
theorem enters_bad : ∀ args w, (callFunc 106 args).run Try.prog w = .ok (.enter 106 args) w := enters_of Try.func106 (by kernel_rfl) rfl
theorem f_vecCheck (v : Value) (l : List Int) (w : World) (h : VecV w v l) : Calls Try.prog 67 #[v] w fun e w' => e = .returned (.int .i64 (vecE l)) ∧ Below w.heap.size w w' := by
  obtain ⟨a, cap, rfl, hl, hm⟩ := h.form
  have H := Lib.hid h
  clear h
  by_cases h0 : l.length < 1
  · have HE := Lib.hid (show vecE l = 150 by unfold vecE vecOK; rw [decide_eq_false (by omega)]; rfl)
    have h00 : l.length = 0 := by omega
    go_enter Try.func67, Try.ntmps67
    go_wp2
    go_ret
    refine ⟨by rw [HE.out]; rfl, Below.refl _ _⟩
  · by_cases h4 : 4 < l.length
    · have HE := Lib.hid (show vecE l = 150 by unfold vecE vecOK; rw [decide_eq_false (show ¬ l.length ≤ 4 by omega)]; simp)
      go_enter Try.func67, Try.ntmps67
      go_wp2
      go_ret
      refine ⟨by rw [HE.out]; rfl, Below.refl _ _⟩
    · have HE := Lib.hid (show vecE l = if l.any badI then 150 else 0 by
        unfold vecE vecOK; rw [decide_eq_true (show 1 ≤ l.length by omega), decide_eq_true (show l.length ≤ 4 by omega)]; cases l.any badI <;> rfl)
      go_enter Try.func67, Try.ntmps67
      go_wp2_with fail
      refine (anyI _ #[] enters_bad badI _ l _ H.out (bad_on l _)).mono ?_
      rintro e w1 ⟨rfl, hb1⟩
      generalize l.any badI = q at *
      cases q
      all_goals
        go_wp2
        go_ret
        refine ⟨by rw [HE.out]; rfl, hb1⟩
def ofE (l : List Int) (d : Int) : Int := if vecOK l then (if (l.length : Int) = d then 0 else 151) else 150
theorem f_vecOf (v : Value) (l : List Int) (d : Int) (w : World) (h : VecV w v l) : Calls Try.prog 86 #[v, .int .i64 d] w fun e w' => e = .returned (.int .i64 (ofE l d)) ∧ Below w.heap.size w w' := by
  obtain ⟨a, cap, rfl, hl, hm⟩ := h.form
  have H := Lib.hid h
  clear h
  have C := fun w => Lib.hid (f_vecCheck (.slice a l.length cap) l w)
  cases hok : vecOK l
  · have HE := Lib.hid (show ofE l d = 150 by unfold ofE; rw [hok]; rfl)
    have HC := Lib.hid (show vecE l = 150 by unfold vecE; rw [hok]; rfl)
    clear hok
    go_enter Try.func86, Try.ntmps86
    go_wp2_with fail
    refine ((C _).out H.out).mono ?_
    rintro e w1 ⟨rfl, hb1⟩
    rw [HC.out]
    go_wp2
    go_ret
    exact ⟨by rw [HE.out]; rfl, hb1⟩
  · have HC := Lib.hid (show vecE l = 0 by unfold vecE; rw [hok]; rfl)
    by_cases hd : (l.length : Int) = d
    · have HE := Lib.hid (show ofE l d = 0 by unfold ofE; rw [hok, hd]; simp)
      have hdd : ((l.length : Int) != d) = false := by simp [hd]
      clear hok hd
      go_enter Try.func86, Try.ntmps86
      go_wp2_with fail
      refine ((C _).out H.out).mono ?_
      rintro e w1 ⟨rfl, hb1⟩
      rw [HC.out]
      go_wp2
      go_ret
      exact ⟨by rw [HE.out]; rfl, hb1⟩
    · have HE := Lib.hid (show ofE l d = 151 by unfold ofE; rw [hok, if_neg hd]; rfl)
      have hdd : ((l.length : Int) != d) = true := by simp [hd]
      clear hok hd
      go_enter Try.func86, Try.ntmps86
      go_wp2_with fail
      refine ((C _).out H.out).mono ?_
      rintro e w1 ⟨rfl, hb1⟩
      rw [HC.out]
      go_wp2
      go_ret
      exact ⟨by rw [HE.out]; rfl, hb1⟩

/-- The dimension of the first of a row of vectors. -/
def dim0 (l : List PV) : Nat := match l with | [] => 0 | p :: _ => p.2.length
theorem dim0_get {l : List PV} (h : 0 < l.length) : dim0 l = l[0].2.length := by cases l with | nil => simp at h | cons p t => rfl
def otherD (d : Nat) (p : PV) : Bool := !decide ((p.2.length : Int) = (d : Int))
theorem c_other (B : Nat) (v : Value) (l : List PV) (p : PV) (w : World) (hc : w.cell? ⟨B, 0, none⟩ = some v) (h : VecsV w v l) (h0 : 0 < l.length) (hp : VecV w p.1 p.2) :
    Calls Try.prog 104 #[p.1, .pointer (some ⟨B, 0, none⟩)] w fun e w' => e = .returned (.bool (otherD (dim0 l) p)) ∧ Below w.heap.size w w' := by
  obtain ⟨a, cap, rfl, hl, hm, hcell⟩ := h.open
  obtain ⟨b, off, rfl, hlt, g1⟩ := hcell 0 h0
  obtain ⟨a', cap', e', hl', hm'⟩ := (h.2 l[0] (List.getElem_mem h0)).form
  obtain ⟨pv, pl⟩ := p
  obtain ⟨a2, cap2, e2, hl2, hm2⟩ := hp.form
  simp only at e2
  subst e2
  rw [e', Nat.add_zero] at g1
  have HD := Lib.hid (show otherD (dim0 l) (.slice a2 pl.length cap2, pl) = !decide ((pl.length : Int) = (l[0].2.length : Int)) by unfold otherD; rw [dim0_get h0])
  generalize l[0].2.length = d at *
  have hlen : ¬ l = [] := by intro e; subst e; simp at h0
  clear hcell h hp e'
  go_enter Try.func104, Try.ntmps104
  go_wp2
  go_ret
  refine ⟨by rw [HD.out]; first | rfl | (simp; done) | (congr 2; simp [bne]), Below.refl _ _⟩
theorem other_on (B : Nat) (v : Value) (l : List PV) (w : World) (hB : B < w.heap.size) (hc : w.cell? ⟨B, 0, none⟩ = some v) (h : VecsV w v l) : PredOn 104 #[.pointer (some ⟨B, 0, none⟩)] argV (otherD (dim0 l)) l w := fun p hp w' hb =>
  c_other B v l p w' ((hb.cell (p := ⟨B, 0, none⟩) hB).trans hc) (h.grown hb) (List.length_pos_of_mem hp) ((h.2 p hp).grown hb)
theorem enters_other : ∀ args w, (callFunc 104 args).run Try.prog w = .ok (.enter 104 args) w := enters_of Try.func104 (by kernel_rfl) rfl
/-- Why vectors may not be together. -/
def vecsE (l : List PV) : Int := if l.all (fun p => vecOK p.2) then (if l.any (otherD (dim0 l)) then 151 else 0) else 150
theorem vecsE_bad {l : List PV} {k : Nat} (h : k < l.length) (hh : vecOK l[k].2 = false) : vecsE l = 150 := by
  unfold vecsE
  rw [if_neg]
  intro ha
  have := List.all_eq_true.1 ha l[k] (List.getElem_mem h)
  rw [hh] at this; cases this
theorem vecsE_ok {l : List PV} (h : ∀ p ∈ l, vecOK p.2 = true) : vecsE l = if l.any (otherD (dim0 l)) then 151 else 0 := by
  unfold vecsE
  rw [if_pos (List.all_eq_true.2 h)]
theorem take_snoc_true {α : Type} {p : α → Bool} {l : List α} {k : Nat} (h : k < l.length) (hb : ∀ x ∈ l.take k, p x = true) (hh : p l[k] = true) : ∀ x ∈ l.take (k + 1), p x = true := by
  intro x hx
  rw [List.take_succ_eq_append_getElem h] at hx
  rcases List.mem_append.1 hx with hx | hx
  · exact hb x hx
  · rw [List.mem_singleton] at hx; rw [hx]; exact hh
set_option maxHeartbeats 1000000 in
theorem f_vecAll (v : Value) (l : List PV) (w : World) (h : VecsV w v l) : Calls Try.prog 64 #[v] w fun e w' => e = .returned (.int .i64 (vecsE l)) ∧ Below w.heap.size w w' := by
  obtain ⟨a, cap, rfl, hl, hm, hcell⟩ := h.open
  have Hc := Lib.hid hcell
  have H := Lib.hid h
  clear hcell h
  have HB := Lib.hid (fun k h hh => vecsE_bad (l := l) (k := k) h hh)
  have HO := Lib.hid (fun h => vecsE_ok (l := l) h)
  have HS := Lib.hid (fun k h hb hh => take_snoc_true (p := fun p : PV => vecOK p.2) (l := l) (k := k) h hb hh)
  go_enter Try.func64, Try.ntmps64
  go_wp2
  go_loopw [9] (fun i wr => ∃ k : Nat, k ≤ l.length ∧ i = .int .i64 k ∧ (∀ p ∈ l.take k, vecOK p.2 = true) ∧ Below (w.heap.size + 1) (w.alloc (.cells #[.slice a l.length cap] 22)) wr ∧ w.heap.size + 1 ≤ wr.heap.size) (fun i _ => l.length - (intOf i).toNat)
  case atStart => exact ⟨0, Nat.zero_le _, rfl, by simp, Below.refl _ _, by simp⟩
  case round =>
    obtain ⟨k, hk, rfl, hall, hbr, hsz⟩ := hrel
    have HA := Lib.hid hall
    clear hall
    have hB : Below w.heap.size w wr := by ((have shbr := hbr.size); (try simp at shbr); (repeat' (first | (with_reducible exact Below.refl _ _) | (with_reducible refine Below.setCell ?_ ?_ _) | (with_reducible refine Below.alloc ?_ ?_ _) | (with_reducible refine Below.drew ?_) | (with_reducible refine Below.trans ?_ (Below.mono hbr ?_)) | go_size)))
    have zrw0 : w.heap.size < wr.heap.size := (by have := hbr.size; (try simp at this); omega)
    have qrw0 := fun o => hbr.cell (p := ⟨w.heap.size, o, none⟩) (by first | omega | (simp; done) | (simp; omega))
    have rrw0 := fun o => hbr.frozen (p := ⟨w.heap.size, o, none⟩) (by first | omega | (simp; done) | (simp; omega))
    by_cases hlt2 : k < l.length
    · obtain ⟨b, off, rfl, hlt, g1⟩ := Hc.out k hlt2
      have e1 := (hB.cell (p := ⟨b, off + k, none⟩) hlt).trans g1
      have hV := Lib.hid ((H.out.2 l[k] (List.getElem_mem hlt2)).grown hB)
      have HBk := Lib.hid (HB.out k hlt2)
      have HSk := Lib.hid (HS.out k hlt2 HA.out)
      clear g1
      cases hh : vecOK l[k].2
      · have HC := Lib.hid (show vecE l[k].2 = 150 by unfold vecE; rw [hh]; rfl)
        have HE := Lib.hid (HBk.out hh)
        clear hh HSk
        generalize l[k] = y at *
        go_wp2_with fail
        refine (f_vecCheck _ y.2 _ hV.out).mono ?_
        rintro e w2 ⟨rfl, hb2⟩
        rw [HC.out]
        go_wp2
        go_ret
        refine ⟨by rw [HE.out]; rfl, by ((have shb2 := hb2.size); (try simp at shb2); (have shbr := hbr.size); (try simp at shbr); (repeat' (first | (with_reducible exact Below.refl _ _) | (with_reducible refine Below.setCell ?_ ?_ _) | (with_reducible refine Below.alloc ?_ ?_ _) | (with_reducible refine Below.drew ?_) | (with_reducible refine Below.trans ?_ (Below.mono hb2 ?_)) | (with_reducible refine Below.trans ?_ (Below.mono hbr ?_)) | go_size)))⟩
      · have HC := Lib.hid (show vecE l[k].2 = 0 by unfold vecE; rw [hh]; rfl)
        have HE := Lib.hid (HSk.out hh)
        clear hh HBk
        generalize l[k] = y at *
        go_wp2_with fail
        refine (f_vecCheck _ y.2 _ hV.out).mono ?_
        rintro e w2 ⟨rfl, hb2⟩
        rw [HC.out]
        have z2w0 : w.heap.size < w2.heap.size := (by have := hb2.size; (try simp at this); omega)
        have q2w0 := fun o => hb2.cell (p := ⟨w.heap.size, o, none⟩) (by first | omega | (simp; done) | (simp; omega))
        have r2w0 := fun o => hb2.frozen (p := ⟨w.heap.size, o, none⟩) (by first | omega | (simp; done) | (simp; omega))
        go_wp2
        go_roundw
        case rel => exact ⟨k + 1, by omega, by go_num, HE.out, by ((have shb2 := hb2.size); (try simp at shb2); (have shbr := hbr.size); (try simp at shbr); (repeat' (first | (with_reducible exact Below.refl _ _) | (with_reducible refine Below.setCell ?_ ?_ _) | (with_reducible refine Below.alloc ?_ ?_ _) | (with_reducible refine Below.drew ?_) | (with_reducible refine Below.trans ?_ (Below.mono hb2 ?_)) | (with_reducible refine Below.trans ?_ (Below.mono hbr ?_)) | go_size))), by have := hb2.size; omega⟩
        case measure => simp [intOf]; omega
    · have : k = l.length := by omega
      subst this
      have HE := Lib.hid (HO.out (take_all HA.out))
      have hbox : wr.cell? ⟨w.heap.size, 0, none⟩ = some (.slice a l.length cap) := by rw [qrw0]; go_simp
      have HO' := Lib.hid (other_on w.heap.size _ l wr zrw0 hbox (H.out.grown hB))
      go_wp2_with fail
      refine (anyPV _ _ enters_other (otherD (dim0 l)) _ l _ (H.out.grown hB) HO'.out).mono ?_
      rintro e w2 ⟨rfl, hb2⟩
      generalize l.any (otherD (dim0 l)) = q at *
      cases q
      all_goals
        go_wp2
        go_ret
        refine ⟨by rw [HE.out]; rfl, by ((have shb2 := hb2.size); (try simp at shb2); (have shB := hB.size); (try simp at shB); (repeat' (first | (with_reducible exact Below.refl _ _) | (with_reducible refine Below.setCell ?_ ?_ _) | (with_reducible refine Below.alloc ?_ ?_ _) | (with_reducible refine Below.drew ?_) | (with_reducible refine Below.trans ?_ (Below.mono hb2 ?_)) | (with_reducible refine Below.trans ?_ (Below.mono hB ?_)) | go_size)))⟩
end Go.Proofs.Ytlfmffjlmhpcdaa
