/- Centroids that may be: the program's word and the document's; lists in memory. -/
import Derived.Test.YtlfmffjlmhpcdaaNearZ
import Derived.Test.YtlfmffjlmhpcdaaTellZ
import Derived.Test.YtlfmffjlmhpcdaaRefZ
namespace Go.Proofs.Ytlfmffjlmhpcdaa
open Go.RowKit
set_option maxRecDepth 100000
attribute [local irreducible] Der

def badC (d : Nat) (p : PV) : Bool := !decide (ofE p.2 (d : Int) = 0)
theorem c_centroid (B : Nat) (v : Value) (l : List PV) (p : PV) (w : World) (hc : w.cell? ⟨B, 0, none⟩ = some v) (h : VecsV w v l) (h0 : 0 < l.length) (hp : VecV w p.1 p.2) :
    Calls Try.prog 85 #[p.1, .pointer (some ⟨B, 0, none⟩)] w fun e w' => e = .returned (.bool (badC (dim0 l) p)) ∧ Below w.heap.size w w' := by
  obtain ⟨a, cap, rfl, hl, hm, hcell⟩ := h.open
  obtain ⟨b, off, rfl, hlt, g1⟩ := hcell 0 h0
  obtain ⟨a', cap', e', hl', hm'⟩ := (h.2 l[0] (List.getElem_mem h0)).form
  have HP := Lib.hid hp
  obtain ⟨pv, pl⟩ := p
  rw [e', Nat.add_zero] at g1
  have HD := Lib.hid (show badC (dim0 l) (pv, pl) = !decide (ofE pl (l[0].2.length : Int) = 0) by unfold badC; rw [dim0_get h0])
  generalize l[0].2.length = d at *
  have hlen : ¬ l = [] := by intro e; subst e; simp at h0
  clear hcell h hp e'
  go_enter Try.func85, Try.ntmps85
  go_wp2_with fail
  refine (f_vecOf _ pl _ _ HP.out).mono ?_
  rintro e w1 ⟨rfl, hb1⟩
  have hn : ∀ z : Int, (z != 0) = !decide (z = 0) := by intro z; rw [Bool.eq_iff_iff]; simp
  generalize ofE pl (d : Int) = E at *
  go_wp2
  go_ret
  refine ⟨by rw [HD.out]; first | rfl | (rw [← hn]; rfl), hb1⟩
theorem centroid_on (B : Nat) (v : Value) (l : List PV) (w : World) (hB : B < w.heap.size) (hc : w.cell? ⟨B, 0, none⟩ = some v) (h : VecsV w v l) : PredOn 85 #[.pointer (some ⟨B, 0, none⟩)] argV (badC (dim0 l)) l w := fun p hp w' hb =>
  c_centroid B v l p w' ((hb.cell (p := ⟨B, 0, none⟩) hB).trans hc) (h.grown hb) (List.length_pos_of_mem hp) ((h.2 p hp).grown hb)
theorem enters_centroid : ∀ args w, (callFunc 85 args).run Try.prog w = .ok (.enter 85 args) w := enters_of Try.func85 (by kernel_rfl) rfl
/-- May vectors be the centroids of lists? -/
def centsOK (l : List PV) : Bool := decide (l.length ≤ 6) && decide (vecsE l = 0)
theorem cents_any (l : List PV) : (!l.any (badC (dim0 l))) = decide (vecsE l = 0) := by
  have e : vecsE l = if l.all (fun p => vecOK p.2) then (if l.any (otherD (dim0 l)) then 151 else 0) else 150 := rfl
  rw [e]
  by_cases ha : l.all (fun p => vecOK p.2) = true
  · rw [if_pos ha]
    have : l.any (badC (dim0 l)) = l.any (otherD (dim0 l)) := by
      rw [Bool.eq_iff_iff, List.any_eq_true, List.any_eq_true]
      have hall := List.all_eq_true.1 ha
      constructor
      · rintro ⟨p, hp, hb⟩
        refine ⟨p, hp, ?_⟩
        unfold badC ofE at hb
        rw [hall p hp] at hb
        unfold otherD
        by_cases hd : (p.2.length : Int) = (dim0 l : Int)
        · simp [hd] at hb
        · simp [hd]
      · rintro ⟨p, hp, hb⟩
        refine ⟨p, hp, ?_⟩
        unfold badC ofE
        rw [hall p hp]
        unfold otherD at hb
        by_cases hd : (p.2.length : Int) = (dim0 l : Int)
        · simp [hd] at hb
        · simp [hd]
    rw [this]
    cases l.any (otherD (dim0 l)) <;> rfl
  · rw [if_neg ha]
    have ha' : l.all (fun p => vecOK p.2) = false := by simpa using ha
    obtain ⟨p, hp, hb⟩ := List.all_eq_false.1 ha'
    have : l.any (badC (dim0 l)) = true := List.any_eq_true.2 ⟨p, hp, by unfold badC ofE; simp at hb; rw [hb]; rfl⟩
    rw [this]; rfl
theorem f_centroids (v : Value) (l : List PV) (w : World) (h : VecsV w v l) : Calls Try.prog 41 #[v] w fun e w' => e = .returned (.bool (centsOK l)) ∧ Below w.heap.size w w' := by
  obtain ⟨a, cap, rfl, hl, hm⟩ : ∃ a cap, v = .slice a l.length cap ∧ l.length ≤ cap ∧ cap ≤ 9223372036854775807 := by
    obtain ⟨a, cap, e, h1, h2, -⟩ := h.open; exact ⟨a, cap, e, h1, h2⟩
  have HV := Lib.hid (fun W (hb : Below w.heap.size w W) => h.grown hb)
  clear h
  by_cases h6 : 6 < l.length
  · have HE := Lib.hid (show centsOK l = false by unfold centsOK; rw [decide_eq_false (by omega)]; rfl)
    go_enter Try.func41, Try.ntmps41
    go_wp2
    go_ret
    refine ⟨by rw [HE.out]; rfl, ?_⟩
    ((repeat' (first | (with_reducible exact Below.refl _ _) | (with_reducible refine Below.setCell ?_ ?_ _) | (with_reducible refine Below.alloc ?_ ?_ _) | (with_reducible refine Below.drew ?_) | (with_reducible refine Below.trans ?_ (Below.mono (by assumption) ?_)) | go_size)))
  · have HE := Lib.hid (show centsOK l = !l.any (badC (dim0 l)) by unfold centsOK; rw [cents_any, decide_eq_true (by omega)]; rfl)
    go_enter Try.func41, Try.ntmps41
    go_wp2_with fail
    refine (anyPV _ _ enters_centroid (badC (dim0 l)) _ l _ (HV.out _ (by ((repeat' (first | (with_reducible exact Below.refl _ _) | (with_reducible refine Below.setCell ?_ ?_ _) | (with_reducible refine Below.alloc ?_ ?_ _) | (with_reducible refine Below.drew ?_) | (with_reducible refine Below.trans ?_ (Below.mono (by assumption) ?_)) | go_size))))) (centroid_on w.heap.size _ l _ (by simp) (by go_simp) (HV.out _ (by ((repeat' (first | (with_reducible exact Below.refl _ _) | (with_reducible refine Below.setCell ?_ ?_ _) | (with_reducible refine Below.alloc ?_ ?_ _) | (with_reducible refine Below.drew ?_) | (with_reducible refine Below.trans ?_ (Below.mono (by assumption) ?_)) | go_size))))))).mono ?_
    rintro e w1 ⟨rfl, hb1⟩
    go_wp2
    go_ret
    refine ⟨by rw [HE.out]; rfl, ?_⟩
    ((have shb1 := hb1.size); (try simp at shb1); (repeat' (first | (with_reducible exact Below.refl _ _) | (with_reducible refine Below.setCell ?_ ?_ _) | (with_reducible refine Below.alloc ?_ ?_ _) | (with_reducible refine Below.drew ?_) | (with_reducible refine Below.trans ?_ (Below.mono hb1 ?_)) | go_size)))
theorem r13Centroids (v : Value) (l : List PV) (w : World) (h : VecsV w v l) : Calls Try.prog 23 #[v] w fun e w' => e = .returned (.bool (centsOK l)) ∧ Below w.heap.size w w' := by
  obtain ⟨a, cap, rfl, hl, hm⟩ : ∃ a cap, v = .slice a l.length cap ∧ l.length ≤ cap ∧ cap ≤ 9223372036854775807 := by
    obtain ⟨a, cap, e, h1, h2, -⟩ := h.open; exact ⟨a, cap, e, h1, h2⟩
  have H := Lib.hid h
  clear h
  by_cases h6 : 6 < l.length
  · have HE := Lib.hid (show centsOK l = false by unfold centsOK; rw [decide_eq_false (by omega)]; rfl)
    have hd : decide ((l.length : Int) ≤ 6) = false := decide_eq_false (by omega)
    go_enter Try.func23, Try.ntmps23
    go_wp2
    go_ret
    refine ⟨by rw [HE.out]; rfl, Below.refl _ _⟩
  · have HE := Lib.hid (show centsOK l = decide (vecsE l = 0) by unfold centsOK; rw [decide_eq_true (by omega)]; rfl)
    have hd : decide ((l.length : Int) ≤ 6) = true := decide_eq_true (by omega)
    go_enter Try.func23, Try.ntmps23
    go_wp2_with fail
    refine (r5All _ l _ H.out).mono ?_
    rintro e w1 ⟨rfl, hb1⟩
    have hn : ∀ z : Int, (z == 0) = decide (z = 0) := by intro z; rw [Bool.eq_iff_iff]; simp
    generalize vecsE l = E at *
    go_wp2
    go_ret
    refine ⟨by rw [HE.out]; first | rfl | (rw [← hn]; rfl), hb1⟩
end Go.Proofs.Ytlfmffjlmhpcdaa

/- Lists that may be: lists.Check. -/
namespace Go.Proofs.Ytlfmffjlmhpcdaa
open Go.RowKit
set_option maxRecDepth 100000
attribute [local irreducible] Der

/-- A new box of the region's own. -/
def NewBox (B0 t : Nat) (cs : Array Value) (v : Value) (w : World) : Prop := ∃ B, v = .pointer (some ⟨B, 0, none⟩) ∧ B0 ≤ B ∧ B < w.heap.size ∧ w.heap[B]? = some (.cells cs t)
theorem NewBox.grown {B0 t : Nat} {cs : Array Value} {v : Value} {w w' : World} (h : NewBox B0 t cs v w) (hg : Below w.heap.size w w') : NewBox B0 t cs v w' := by
  obtain ⟨B, e, h0, h1, h2⟩ := h
  exact ⟨B, e, h0, Nat.lt_of_lt_of_le h1 hg.size, (hg.block B h1).trans h2⟩
theorem NewBox.new {B0 t : Nat} (cs : Array Value) (w : World) (h : B0 ≤ w.heap.size) : NewBox B0 t cs (.pointer (some ⟨w.heap.size, 0, none⟩)) (w.alloc (.cells cs t)) :=
  ⟨_, rfl, h, by simp, World.alloc_heap_new w _⟩
theorem cell_of_block {w : World} {B t : Nat} {cs : Array Value} (h : w.heap[B]? = some (.cells cs t)) (j : Nat) : w.cell? ⟨B, j, none⟩ = cs[j]? := by unfold World.cell?; rw [h]; simp
theorem frozen_of_block {w : World} {B t : Nat} {cs : Array Value} (h : w.heap[B]? = some (.cells cs t)) (j : Nat) : w.frozen? ⟨B, j, none⟩ = false := by unfold World.frozen?; rw [h]; simp

def mAt (ms : List M) (i : Nat) : M := ms[i]?.getD mZero
theorem mAt_get {ms : List M} {i : Nat} (h : i < ms.length) : mAt ms i = ms[i] := by unfold mAt; rw [List.getElem?_eq_getElem h]; rfl
/-- What a mask has in common with those ahead of it. -/
def metM (ms : List M) (i : Nat) : M := andAll [mAt ms i, orF (ms.take i)]
def okAt (ms : List M) (i : Nat) : Bool := decide (chk (mAt ms i).2 = 0) && decide (cntF (metM ms i).1 (metM ms i).2 = 0)
def masksOK (ms : List M) : Bool := (List.range ms.length).all (okAt ms)
/-- May lists be? -/
def listsOK (cs : List PV) (ms : List M) : Bool := centsOK cs && (decide (ms.length = cs.length) && masksOK ms)
def listsE (cs : List PV) (ms : List M) : Int := if listsOK cs ms then 0 else 230
theorem masksOK_no {ms : List M} {k : Nat} (h : k < ms.length) (hh : okAt ms k = false) : masksOK ms = false :=
  List.all_eq_false.2 ⟨k, List.mem_range.2 h, by simp [hh]⟩
theorem masksOK_yes {ms : List M} (h : ∀ k, k < ms.length → okAt ms k = true) : masksOK ms = true :=
  List.all_eq_true.2 fun k hk => h k (List.mem_range.1 hk)
theorem Masks.pre {w : World} {a : Option Addr} {cap : Nat} {ms : List M} (h : Masks w (.slice a ms.length cap) ms) (i : Nat) (hi : i ≤ ms.length) : Masks w (.slice a i cap) (ms.take i) := by
  obtain ⟨a', cap', e, hl, hm, hc⟩ := h.form
  simp only [Value.slice.injEq, true_and] at e
  obtain ⟨rfl, rfl⟩ := e
  have hlen : (ms.take i).length = i := by rw [List.length_take]; omega
  refine ⟨_, _, by rw [hlen], by omega, hm, fun hne => ?_⟩
  have e2 : cellsM ms = cellsM (ms.take i) ++ cellsM (ms.drop i) := by unfold cellsM; rw [← List.flatMap_append, List.take_append_drop]
  obtain ⟨b, off, ha, hb, hcell⟩ := hc (by rw [e2]; intro e3; exact hne (List.append_eq_nil_iff.1 e3).1)
  refine ⟨b, off, ha, hb, fun j hj => ?_⟩
  have hj2 : j < (cellsM ms).length := by rw [e2, List.length_append]; omega
  rw [hcell j hj2]
  congr 1
  have h3 : (cellsM ms)[j]? = (cellsM (ms.take i))[j]? := by rw [e2, List.getElem?_append_left hj]
  rw [List.getElem?_eq_getElem hj2, List.getElem?_eq_getElem hj] at h3
  exact Option.some.inj h3
theorem cntF_pos (a b : BitVec 64) : 0 ≤ cntF a b := by have := cnt_list (a, b); simp only at this; omega
set_option maxHeartbeats 4000000 in
theorem f_listsCheck (vc vm : Value) (cs : List PV) (ms : List M) (w : World) (hc : VecsV w vc cs) (hm : Masks w vm ms) : Calls Try.prog 11 #[.agg #[vc, vm]] w fun e w' => e = .returned (.int .i64 (listsE cs ms)) ∧ Below w.heap.size w w' := by
  obtain ⟨a, cap, rfl, hl1, hm1⟩ : ∃ a cap, vc = .slice a cs.length cap ∧ cs.length ≤ cap ∧ cap ≤ 9223372036854775807 := by
    obtain ⟨a, cap, e, h1, h2, -⟩ := hc.open; exact ⟨a, cap, e, h1, h2⟩
  obtain ⟨a', cap', rfl, hl2, hm2, hcell⟩ := hm.open
  have Hc := Lib.hid hcell
  have HV := Lib.hid (fun W (hb : Below w.heap.size w W) => hc.grown hb)
  have HM := Lib.hid hm
  clear hc hcell hm
  cases hco : centsOK cs
  · have HE := Lib.hid (show listsE cs ms = 230 by unfold listsE listsOK; rw [hco]; rfl)
    have HC := Lib.hid hco
    clear hco
    go_enter Try.func11, Try.ntmps11
    go_wp2_with fail
    refine (f_centroids _ cs _ (HV.out _ (by ((repeat' (first | (with_reducible exact Below.refl _ _) | (with_reducible refine Below.setCell ?_ ?_ _) | (with_reducible refine Below.alloc ?_ ?_ _) | (with_reducible refine Below.drew ?_) | (with_reducible refine Below.trans ?_ (Below.mono (by assumption) ?_)) | go_size)))))).mono ?_
    rintro e w1 ⟨rfl, hb1⟩
    rw [HC.out]
    have z1w0 : w.heap.size < w1.heap.size := (by have := hb1.size; (try simp at this); omega)
    have q1w0 := fun o => hb1.cell (p := ⟨w.heap.size, o, none⟩) (by first | omega | (simp; done) | (simp; omega))
    have r1w0 := fun o => hb1.frozen (p := ⟨w.heap.size, o, none⟩) (by first | omega | (simp; done) | (simp; omega))
    go_wp2
    go_ret
    refine ⟨by rw [HE.out]; rfl, by ((have shb1 := hb1.size); (try simp at shb1); (repeat' (first | (with_reducible exact Below.refl _ _) | (with_reducible refine Below.setCell ?_ ?_ _) | (with_reducible refine Below.alloc ?_ ?_ _) | (with_reducible refine Below.drew ?_) | (with_reducible refine Below.trans ?_ (Below.mono hb1 ?_)) | go_size)))⟩
  · have HC := Lib.hid hco
    by_cases hlen : ms.length = cs.length
    · have HE := Lib.hid (show listsE cs ms = if masksOK ms then 0 else 230 by unfold listsE listsOK; rw [hco, decide_eq_true hlen]; rfl)
      have hn : ((ms.length : Int) != (cs.length : Int)) = false := by simp [hlen]
      have HN := Lib.hid (fun k h hh => masksOK_no (ms := ms) (k := k) h hh)
      have HY := Lib.hid (fun h => masksOK_yes (ms := ms) h)
      clear hco hlen
      go_enter Try.func11, Try.ntmps11
      go_wp2_with fail
      refine (f_centroids _ cs _ (HV.out _ (by ((repeat' (first | (with_reducible exact Below.refl _ _) | (with_reducible refine Below.setCell ?_ ?_ _) | (with_reducible refine Below.alloc ?_ ?_ _) | (with_reducible refine Below.drew ?_) | (with_reducible refine Below.trans ?_ (Below.mono (by assumption) ?_)) | go_size)))))).mono ?_
      rintro e w1 ⟨rfl, hb1⟩
      rw [HC.out]
      have z1w0 : w.heap.size < w1.heap.size := (by have := hb1.size; (try simp at this); omega)
      have q1w0 := fun o => hb1.cell (p := ⟨w.heap.size, o, none⟩) (by first | omega | (simp; done) | (simp; omega))
      have r1w0 := fun o => hb1.frozen (p := ⟨w.heap.size, o, none⟩) (by first | omega | (simp; done) | (simp; omega))
      have hbx0 : w1.cell? ⟨w.heap.size, 0, none⟩ = some (.slice a cs.length cap) := by rw [q1w0]; go_simp
      have hbx1 : w1.cell? ⟨w.heap.size, 1, none⟩ = some (.slice a' ms.length cap') := by rw [q1w0]; go_simp
      have hB1 : Below w.heap.size w w1 := by ((have shb1 := hb1.size); (try simp at shb1); (repeat' (first | (with_reducible exact Below.refl _ _) | (with_reducible refine Below.setCell ?_ ?_ _) | (with_reducible refine Below.alloc ?_ ?_ _) | (with_reducible refine Below.drew ?_) | (with_reducible refine Below.trans ?_ (Below.mono hb1 ?_)) | go_size)))
      clear q1w0 r1w0 hb1
      go_wp2
      go_loopw [22] (fun i wr => ∃ k : Nat, k ≤ ms.length ∧ i = .int .i64 k ∧ (∀ j, j < k → okAt ms j = true) ∧ Below w1.heap.size w1 wr) (fun i _ => ms.length - (intOf i).toNat)
      case atStart => exact ⟨0, Nat.zero_le _, rfl, fun j hj => absurd hj (Nat.not_lt_zero _), Below.refl _ _⟩
      case round =>
        obtain ⟨k, hk, rfl, hall, hbr⟩ := hrel
        have HA := Lib.hid hall
        clear hall
        have hsz := hbr.size
        have hBr : Below w.heap.size w wr := by ((have shbr := hbr.size); (try simp at shbr); (have shB1 := hB1.size); (try simp at shB1); (repeat' (first | (with_reducible exact Below.refl _ _) | (with_reducible refine Below.setCell ?_ ?_ _) | (with_reducible refine Below.alloc ?_ ?_ _) | (with_reducible refine Below.drew ?_) | (with_reducible refine Below.trans ?_ (Below.mono hbr ?_)) | (with_reducible refine Below.trans ?_ (Below.mono hB1 ?_)) | go_size)))
        have c0 := (hbr.cell (p := ⟨w.heap.size, 0, none⟩) z1w0).trans hbx0
        have c1 := (hbr.cell (p := ⟨w.heap.size, 1, none⟩) z1w0).trans hbx1
        by_cases hlt2 : k < ms.length
        · obtain ⟨b, off, rfl, hlt, g1, g2⟩ := Hc.out k hlt2
          have e1 := (hBr.cell (p := ⟨b, off + k * 2, none⟩) hlt).trans g1
          have e2 := (hBr.cell (p := ⟨b, off + k * 2 + 1, none⟩) hlt).trans g2
          clear g1 g2
          have HMk := Lib.hid (Masks.pre HM.out k (by omega))
          have HNk := Lib.hid (HN.out k hlt2)
          have hok : okAt ms k = (decide (chk ms[k].2 = 0) && decide (cntF (andAll [ms[k], orF (ms.take k)]).1 (andAll [ms[k], orF (ms.take k)]).2 = 0)) := by
            unfold okAt metM; rw [mAt_get hlt2]
          have HOK := Lib.hid hok
          clear hok
          generalize ms[k] = y at *
          obtain ⟨y1, y2⟩ := y
          obtain ⟨X, hX⟩ : ∃ X, orF (ms.take k) = X := ⟨_, rfl⟩
          rw [hX] at HOK
          have HX := Lib.hid hX
          obtain ⟨Z, hZ⟩ : ∃ Z, andAll [(y1, y2), X] = Z := ⟨_, rfl⟩
          rw [hZ] at HOK
          have HZ := Lib.hid hZ
          clear hX hZ
          have hzz : b < wr.heap.size := by have := hBr.size; omega
          have hkc : k ≤ cap' := by omega
          have hzw : w.heap.size < wr.heap.size := by omega
          obtain ⟨wz, hwz⟩ : ∃ wz, wz = wr := ⟨_, rfl⟩
          subst hwz
          go_wp2
          refine wp_grow [(5, .val (MV (X).1 (X).2)), (6, .rel (fun v w => Masks w v [(y1, y2), X]) (fun _ _ _ h hg => h.grown hg)), (7, .val (MV (Z).1 (Z).2)), (8, .rel (NewBox (wz.heap.size + 1) 49 #[.int .u64 0, .int .u64 0]) (fun _ _ _ h hg => NewBox.grown h hg))] 9 (by kernel_rfl) (by kernel_rfl) (by rfl) (by rfl) ?_
          simp only [List.take_succ_cons, List.take_zero, List.drop_succ_cons, List.drop_zero]
          repeat (first
            | (apply Der.quiet; (rfl); (rfl); (intro w' hw' hctx; have hc' := bcell hw'; have ywz0 := fun o => hw'.cell (p := ⟨wz.heap.size, o, none⟩) (by first | omega | (simp; done) | (simp; omega)); have yb := fun o => hw'.cell (p := ⟨w.heap.size, o, none⟩) (by simp; omega); clear hctx; go_simp; first | exact rfl | exact ⟨rfl, rfl⟩); simp only [Act.put, List.setIfInBounds_toArray, List.set_cons_succ, List.set_cons_zero, Nat.reduceAdd])
            | (apply Der.skip; (rfl); simp only [Act.put, List.setIfInBounds_toArray, List.set_cons_succ, List.set_cons_zero, Nat.reduceAdd]))
          apply Der.val
          · rfl
          · rfl
          · (intro w' hw' hctx; go_simp; refine (f_Or _ (ms.take k) _ (HMk.out.grown ((hBr.alloc hBr.size _).trans ((undrew hw').mono (by simp; omega))))).mono ?_; rintro e w2 ⟨rfl, hb⟩; exact ⟨_, rfl, by rw [HX.out], hb⟩)
          simp only [Act.put, List.setIfInBounds_toArray, List.set_cons_succ, List.set_cons_zero, Nat.reduceAdd]
          refine Der.rel (by rfl) (by rfl) (fun w' hw' hctx => ?_) (fun s1 => ?_)
          · (go_simp; exact ⟨Sl.fresh w' _ 2 _ rfl (by omega), (Below.refl _ _).alloc (Nat.le_refl _) _⟩)
          simp only [Act.put, List.setIfInBounds_toArray, List.set_cons_succ, List.set_cons_zero, Nat.reduceAdd]
          apply Der.val
          · rfl
          · rfl
          · (intro w' hw' hctx; go_simp; refine (f_And _ [(y1, y2), X] _ (hctx 6 _ _ (by kernel_rfl) rfl rfl)).mono ?_; rintro e w2 ⟨rfl, hb⟩; exact ⟨_, rfl, by rw [HZ.out], hb⟩)
          simp only [Act.put, List.setIfInBounds_toArray, List.set_cons_succ, List.set_cons_zero, Nat.reduceAdd]
          refine Der.rel (by rfl) (by rfl) (fun w' hw' hctx => ?_) (fun nb => ?_)
          · (go_simp; exact ⟨NewBox.new _ _ (by have := hw'.size; simp at this; omega), (Below.refl _ _).alloc (Nat.le_refl _) _⟩)
          simp only [Act.put, List.setIfInBounds_toArray, List.set_cons_succ, List.set_cons_zero, Nat.reduceAdd]
          refine Der.nil (fun w2 hg2 hctx => ?_)
          have hcx : NewBox (wz.heap.size + 1) 49 #[.int .u64 0, .int .u64 0] nb w2 := hctx 8 _ _ (by omega) rfl rfl
          clear hctx
          obtain ⟨B, rfl, hB0, hB1', hB2⟩ := hcx
          have hb2 : Below _ _ w2 := hg2
          clear hg2
          have z2wz0 : wz.heap.size < w2.heap.size := (by have := hb2.size; (try simp at this); omega)
          have q2wz0 := fun o => hb2.cell (p := ⟨wz.heap.size, o, none⟩) (by first | omega | (simp; done) | (simp; omega))
          have r2wz0 := fun o => hb2.frozen (p := ⟨wz.heap.size, o, none⟩) (by first | omega | (simp; done) | (simp; omega))
          have p0 := cell_of_block hB2 0
          have p1 := cell_of_block hB2 1
          have s0 := frozen_of_block hB2 0
          have s1' := frozen_of_block hB2 1
          simp only [List.getElem?_toArray, List.getElem?_cons_zero, List.getElem?_cons_succ] at p0 p1
          have hB3 : Below w1.heap.size w1 w2 := by ((have shb2 := hb2.size); (try simp at shb2); (have shbr := hbr.size); (try simp at shbr); (repeat' (first | (with_reducible exact Below.refl _ _) | (with_reducible refine Below.setCell ?_ ?_ _) | (with_reducible refine Below.alloc ?_ ?_ _) | (with_reducible refine Below.drew ?_) | (with_reducible refine Below.trans ?_ (Below.mono hb2 ?_)) | (with_reducible refine Below.trans ?_ (Below.mono hbr ?_)) | go_size)))
          have hneB : ¬ B = wz.heap.size := by omega
          have hneB' : ¬ wz.heap.size = B := by omega
          have t0 : w2.cell? ⟨wz.heap.size, 0, none⟩ = some (.int .u64 (U y1)) := by rw [q2wz0]; go_simp
          have t1 : w2.cell? ⟨wz.heap.size, 1, none⟩ = some (.int .u64 (U y2)) := by rw [q2wz0]; go_simp
          have hBB : w1.heap.size ≤ B := by omega
          clear q2wz0 r2wz0 hB2 e1 e2
          have HC1 := Lib.hid (show chk y2 = if decide (chk y2 = 0) then 0 else 200 by unfold chk; split <;> simp)
          go_wp2_with fail
          refine (f_Check _ _ _).mono ?_
          rintro e w3 ⟨rfl, hb3⟩
          rw [HC1.out]
          have hb3s := hb3.size
          simp at hb3s
          have v0 := (hb3.cell (p := ⟨B, 0, none⟩) (by simp; omega))
          have v1 := (hb3.cell (p := ⟨B, 1, none⟩) (by simp; omega))
          have v0' : w3.cell? ⟨B, 0, none⟩ = some (.int .u64 (U Z.1)) := by rw [v0]; go_simp
          have v1' : w3.cell? ⟨B, 1, none⟩ = some (.int .u64 (U Z.2)) := by rw [v1]; go_simp
          have hB4 : Below w1.heap.size w1 w3 := by ((have shb3 := hb3.size); (try simp at shb3); (have shB3 := hB3.size); (try simp at shB3); (repeat' (first | (with_reducible exact Below.refl _ _) | (with_reducible refine Below.setCell ?_ ?_ _) | (with_reducible refine Below.alloc ?_ ?_ _) | (with_reducible refine Below.drew ?_) | (with_reducible refine Below.trans ?_ (Below.mono hb3 ?_)) | (with_reducible refine Below.trans ?_ (Below.mono hB3 ?_)) | go_size)))
          clear v0 v1 hb3 p0 p1 s0 s1' t0 t1
          cases hq : decide (chk y2 = 0)
          · have HQ := Lib.hid hq
            rw [hq] at HOK
            have HE2 := Lib.hid (HNk.out HOK.out)
            have HE3 := Lib.hid (show listsE cs ms = 230 by rw [HE.out, HE2.out]; rfl)
            clear hq
            go_wp2
            go_ret
            refine ⟨by rw [HE3.out]; rfl, by ((have shB4 := hB4.size); (try simp at shB4); (have shB1 := hB1.size); (try simp at shB1); (repeat' (first | (with_reducible exact Below.refl _ _) | (with_reducible refine Below.setCell ?_ ?_ _) | (with_reducible refine Below.alloc ?_ ?_ _) | (with_reducible refine Below.drew ?_) | (with_reducible refine Below.trans ?_ (Below.mono hB4 ?_)) | (with_reducible refine Below.trans ?_ (Below.mono hB1 ?_)) | go_size)))⟩
          · rw [hq] at HOK
            clear hq
            have hpos := cntF_pos Z.1 Z.2
            go_wp2_with fail
            refine (f_Count _ _ _).mono ?_
            rintro e w4 ⟨rfl, hb4⟩
            obtain ⟨n, hn'⟩ : ∃ n, cntF Z.1 Z.2 = n := ⟨_, rfl⟩
            rw [hn'] at HOK hpos ⊢
            clear hn'
            by_cases hn0 : n = 0
            · have HOK2 := Lib.hid (show okAt ms k = true by rw [HOK.out, decide_eq_true hn0]; rfl)
              have HA2 := Lib.hid (fun j (hj : j < k + 1) => (show okAt ms j = true by
                rcases Nat.lt_or_ge j k with h | h
                · exact HA.out j h
                · have : j = k := by omega
                  subst this; exact HOK2.out))
              have hng : ¬ 0 < n := by omega
              clear hn0
              go_wp2
              go_roundw
              case rel => exact ⟨k + 1, by omega, by go_num, HA2.out, by ((have shb4 := hb4.size); (try simp at shb4); (have shB4 := hB4.size); (try simp at shB4); (repeat' (first | (with_reducible exact Below.refl _ _) | (with_reducible refine Below.setCell ?_ ?_ _) | (with_reducible refine Below.alloc ?_ ?_ _) | (with_reducible refine Below.drew ?_) | (with_reducible refine Below.trans ?_ (Below.mono hb4 ?_)) | (with_reducible refine Below.trans ?_ (Below.mono hB4 ?_)) | go_size)))⟩
              case measure => simp [intOf]; omega
            · have HE2 := Lib.hid (HNk.out (by rw [HOK.out, decide_eq_false hn0]; rfl))
              have HE3 := Lib.hid (show listsE cs ms = 230 by rw [HE.out, HE2.out]; rfl)
              have hng : 0 < n := by omega
              clear hn0
              go_wp2
              go_ret
              refine ⟨by rw [HE3.out]; rfl, by ((have shb4 := hb4.size); (try simp at shb4); (have shB4 := hB4.size); (try simp at shB4); (have shB1 := hB1.size); (try simp at shB1); (repeat' (first | (with_reducible exact Below.refl _ _) | (with_reducible refine Below.setCell ?_ ?_ _) | (with_reducible refine Below.alloc ?_ ?_ _) | (with_reducible refine Below.drew ?_) | (with_reducible refine Below.trans ?_ (Below.mono hb4 ?_)) | (with_reducible refine Below.trans ?_ (Below.mono hB4 ?_)) | (with_reducible refine Below.trans ?_ (Below.mono hB1 ?_)) | go_size)))⟩
        · have : k = ms.length := by omega
          subst this
          have HE3 := Lib.hid (show listsE cs ms = 0 by rw [HE.out, HY.out HA.out]; rfl)
          go_wp2
          go_ret
          refine ⟨by rw [HE3.out]; rfl, hBr⟩
    · have HE := Lib.hid (show listsE cs ms = 230 by unfold listsE listsOK; rw [hco, decide_eq_false hlen]; rfl)
      have hn : ((ms.length : Int) != (cs.length : Int)) = true := by simp; omega
      clear hco hlen
      go_enter Try.func11, Try.ntmps11
      go_wp2_with fail
      refine (f_centroids _ cs _ (HV.out _ (by ((repeat' (first | (with_reducible exact Below.refl _ _) | (with_reducible refine Below.setCell ?_ ?_ _) | (with_reducible refine Below.alloc ?_ ?_ _) | (with_reducible refine Below.drew ?_) | (with_reducible refine Below.trans ?_ (Below.mono (by assumption) ?_)) | go_size)))))).mono ?_
      rintro e w1 ⟨rfl, hb1⟩
      rw [HC.out]
      have z1w0 : w.heap.size < w1.heap.size := (by have := hb1.size; (try simp at this); omega)
      have q1w0 := fun o => hb1.cell (p := ⟨w.heap.size, o, none⟩) (by first | omega | (simp; done) | (simp; omega))
      have r1w0 := fun o => hb1.frozen (p := ⟨w.heap.size, o, none⟩) (by first | omega | (simp; done) | (simp; omega))
      go_wp2
      go_ret
      refine ⟨by rw [HE.out]; rfl, by ((have shb1 := hb1.size); (try simp at shb1); (repeat' (first | (with_reducible exact Below.refl _ _) | (with_reducible refine Below.setCell ?_ ?_ _) | (with_reducible refine Below.alloc ?_ ?_ _) | (with_reducible refine Below.drew ?_) | (with_reducible refine Below.trans ?_ (Below.mono hb1 ?_)) | go_size)))⟩
end Go.Proofs.Ytlfmffjlmhpcdaa

/- The iterator over the lists that have a slot, and lists.Where. -/
namespace Go.Proofs.Ytlfmffjlmhpcdaa
open Go.RowKit Go.Shelf
set_option maxRecDepth 100000
attribute [local irreducible] Der
attribute [local go_sem] Oper.semAt_some

/-- The places of the masks that have a slot. -/
def haveL (ms : List M) (n : Int) (k : Nat) : List Nat := (List.range k).filter fun i => hasN (mAt ms i) n
theorem haveL_hit {ms : List M} {n : Int} {k : Nat} (h : hasN (mAt ms k) n = true) : haveL ms n (k + 1) = haveL ms n k ++ [k] := by
  unfold haveL; rw [List.range_succ, List.filter_append, List.filter_cons_of_pos (p := fun i => hasN (mAt ms i) n) h]; rfl
theorem haveL_miss {ms : List M} {n : Int} {k : Nat} (h : hasN (mAt ms k) n = false) : haveL ms n (k + 1) = haveL ms n k := by
  unfold haveL; rw [List.range_succ, List.filter_append, List.filter_cons_of_neg (by simp [h])]; simp
theorem haveL_pre {ms : List M} {n : Int} {k j : Nat} (h : k ≤ j) : haveL ms n k <+: haveL ms n j := by
  unfold haveL
  obtain ⟨d, rfl⟩ : ∃ d, j = k + d := ⟨j - k, by omega⟩
  rw [List.range_add, List.filter_append]
  exact ⟨_, rfl⟩
theorem haveL_le (ms : List M) (n : Int) (k : Nat) : (haveL ms n k).length ≤ k := by
  unfold haveL; have := List.length_filter_le (fun i => hasN (mAt ms i) n) (List.range k); simpa using this
structure LBox (B1 B2 : Nat) (vm : Value) (ms : List M) (n : Int) (W : World) : Prop where
  c1 : W.cell? ⟨B1, 1, none⟩ = some vm
  c2 : W.cell? ⟨B2, 0, none⟩ = some (.int .i64 n)
  r : Masks W vm ms
theorem abides_below {β : Type} {B : Nat} {J : β → World → Prop} (hJ : AbidesFrom B J) {s : β} {W W' : World} (h : J s W) (hb : Below W.heap.size W W') : J s W' :=
  hJ s W W' none h ⟨hb.os, hb.tape, hb.output, hb.size, fun i hi _ => hb.block i hi⟩ (fun r e => by cases e)
set_option maxHeartbeats 4000000 in
theorem having1_in (n : Nat) (hn : 1 ≤ n) (l0 B1 B2 : Nat) (vm : Value) (ms : List M) (q : Int) (hms : ms.length ≤ 1000) (Good : World → Prop) (hGood : ∀ W, Good W → LBox B1 B2 vm ms q W) (hGr : ∀ W W', Below W.heap.size W W' → Good W → Good W')
    (Kp : World → World → Prop) (hKp : ∀ W W', Kp W W' → Good W → Good W') (J Jx : List Nat → World → Prop) (W : World) (hJ : AbidesFrom W.heap.size J)
    (hY : ∀ pre x W, J pre W → pre.length < ms.length → YieldAt Fence.wide (n - 1) Try.prog l0 #[.int .i64 (x : Nat)] W fun e W' =>
      (e = .returned (.bool true) ∧ J (pre ++ [x]) W' ∧ Kp W W') ∨ (e = .returned (.bool false) ∧ Jx (pre ++ [x]) W'))
    (hG' : Good W) (h0 : J [] W) :
    CallsIn Fence.wide n Try.prog 89 #[.func (.yield l0) #[] #[], .pointer (some ⟨B1, 0, none⟩), .pointer (some ⟨B2, 0, none⟩)] W fun e W' => (∃ v, e = .returned v) ∧
      ((∃ ys, ys = haveL ms q ms.length ∧ J ys W') ∨ (∃ pre, pre <+: haveL ms q ms.length ∧ Jx pre W')) := by
  have HY := Lib.hid hY
  have HK := Lib.hid hKp
  have HR := Lib.hid hGr
  have HG := Lib.hid hG'
  have HGd := Lib.hid hGood
  have HJ := Lib.hid hJ
  have HP := Lib.hid (fun k (h : k ≤ ms.length) => haveL_pre (ms := ms) (n := q) h)
  have HHit := Lib.hid (fun k h => haveL_hit (ms := ms) (n := q) (k := k) h)
  have HMiss := Lib.hid (fun k h => haveL_miss (ms := ms) (n := q) (k := k) h)
  have HLe := Lib.hid (fun k => haveL_le ms q k)
  have hG := hGood _ hG'
  obtain ⟨a, cap, rfl, hl, hm, -⟩ := hG.r.open
  have b1 := hG.c1
  have b2 := hG.c2
  clear hY hKp hG hG' hGood hGr hJ
  refine callsIn_of_wp Try.func89 rfl trivial ?_ rfl
  simp only [Try.ntmps89, List.size_toArray, List.length_cons, List.length_nil, Nat.reduceAdd, Nat.reduceSub, Array.replicate_succ, Array.replicate_zero, List.push_toArray, List.append_toArray, List.nil_append, List.cons_append]
  gi_wp2
  gi_loopw [9] (fun i wr => ∃ k : Nat, k ≤ ms.length ∧ i = .int .i64 k ∧ J (haveL ms q k) wr ∧ Good wr) (fun i _ => ms.length - (intOf i).toNat)
  case atStart => exact ⟨0, Nat.zero_le _, rfl, h0, HG.out⟩
  case round =>
    obtain ⟨k, hk, rfl, hJs, hgd⟩ := hrel
    have hg := HGd.out _ hgd
    by_cases hlt : k < ms.length
    · obtain ⟨_, _, e1, -, -, hcell⟩ := hg.r.open
      simp only [Value.slice.injEq] at e1
      obtain ⟨rfl, -, rfl⟩ := e1
      obtain ⟨g, off, rfl, hgl, g1, g2⟩ := hcell k hlt
      have c2 := hg.c2
      have z2 : B2 < wr.heap.size := World.block_lt_of_cell? wr _ c2
      have HGk := Lib.hid hgd
      have hmk := mAt_get hlt
      have HHk := HHit.out k
      have HMk := HMiss.out k
      rw [hmk] at HHk HMk
      clear hcell hg hgd hmk
      generalize ms[k] = m at *
      obtain ⟨m1, m2⟩ := m
      have HHk' := Lib.hid HHk
      have HMk' := Lib.hid HMk
      clear HHk HMk
      have HBx := Lib.hid (fun (W' : World) (hb : Below (wr.alloc (.cells #[.int .u64 (U m1), .int .u64 (U m2)] 49)).heap.size (wr.alloc (.cells #[.int .u64 (U m1), .int .u64 (U m2)] 49)) W') => (show Below wr.heap.size wr W' by ((have shb := hb.size); (try simp at shb); (repeat' (first | (with_reducible exact Below.refl _ _) | (with_reducible refine Below.setCell ?_ ?_ _) | (with_reducible refine Below.alloc ?_ ?_ _) | (with_reducible refine Below.drew ?_) | (with_reducible refine Below.trans ?_ (Below.mono hb ?_)) | go_size)))))
      cases hh : hasN (m1, m2) q
      · have HH := Lib.hid hh
        have HM2 := Lib.hid (HMk'.out hh)
        clear hh
        gi_wp2_with fail
        refine ⟨trivial, (callsIn_wide.2 (f_Has_any m1 m2 q _)).mono ?_⟩
        rintro e w2 ⟨rfl, hb2⟩
        rw [HH.out]
        have hb3 := HBx.out _ hb2
        have hJ2 := abides_below HJ.out hJs hb3
        rw [← HM2.out] at hJ2
        have HG2 := Lib.hid (HR.out _ _ hb3 HGk.out)
        have hs2 := hb3.size
        gi_wp2
        refine ⟨fun _ h => (by cases h), ?_⟩
        gi_wp2
        go_roundw
        case rel => exact ⟨k + 1, by omega, by go_num, hJ2, HG2.out⟩
        case measure => simp [intOf]; omega
      · have HH := Lib.hid hh
        have HM2 := Lib.hid (HHk'.out hh)
        clear hh
        gi_wp2_with fail
        refine ⟨trivial, (callsIn_wide.2 (f_Has_any m1 m2 q _)).mono ?_⟩
        rintro e w2 ⟨rfl, hb2⟩
        rw [HH.out]
        have hb3 := HBx.out _ hb2
        have hJ2 := abides_below HJ.out hJs hb3
        have HG2 := Lib.hid (HR.out _ _ hb3 HGk.out)
        have hs2 := hb3.size
        obtain ⟨fn, tmps, assign, body, hy, hR⟩ := HY.out _ k w2 hJ2 (by have := HLe.out k; omega)
        gi_wp2
        refine hR.mono ?_
        rintro e W3 (⟨rfl, hJ3, hk3⟩ | ⟨rfl, hJx3⟩)
        · rw [← HM2.out] at hJ3
          have HG3 := Lib.hid (HK.out _ _ hk3 HG2.out)
          clear hy hR hk3
          gi_wp2
          go_roundw
          case rel => exact ⟨k + 1, by omega, by go_num, hJ3, HG3.out⟩
          case measure => simp [intOf]; omega
        · gi_wp2
          refine bodyPost_ret (results_none rfl _ _ _) rfl ?_
          exact ⟨⟨_, rfl⟩, .inr ⟨_, by rw [← HM2.out]; exact HP.out (k + 1) (by omega), hJx3⟩⟩
    · obtain rfl : k = ms.length := by omega
      gi_wp2
      go_end0
      exact ⟨⟨_, rfl⟩, .inl ⟨_, rfl, hJs⟩⟩
theorem having_stops (n : Nat) (hn : 1 ≤ n) (B1 B2 : Nat) (vm : Value) (ms : List M) (q : Int) (hms : ms.length ≤ 1000) (Good : World → Prop) (hGood : ∀ W, Good W → LBox B1 B2 vm ms q W) (hGr : ∀ W W', Below W.heap.size W W' → Good W → Good W')
    (Kp : World → World → Prop) (hKp : ∀ W W', Kp W W' → Good W → Good W') (w : World) (hG : ∀ W, Below w.heap.size w W → Good W) :
    SeqStopsK Fence.wide n Try.prog 89 #[.pointer (some ⟨B1, 0, none⟩), .pointer (some ⟨B2, 0, none⟩)] (fun x : Nat => #[Value.int .i64 (x : Int)]) Kp (fun ys => ys = haveL ms q ms.length) (fun pre => pre <+: haveL ms q ms.length) ms.length w := fun l0 J Jx W hW hJ _ hY hj =>
  having1_in n hn l0 B1 B2 vm ms q hms Good hGood hGr Kp hKp J Jx W hJ hY (hG W hW) hj
theorem f_having (a a' : Option Addr) (n n' c c' : Nat) (q : Int) (w : World) : Calls Try.prog 44 #[.agg #[.slice a n c, .slice a' n' c'], .int .i64 q] w fun e w' => e = .returned (.func (.func 89) #[] #[.pointer (some ⟨w.heap.size, 0, none⟩), .pointer (some ⟨w.heap.size + 1, 0, none⟩)]) ∧
    w' = (w.alloc (.cells #[.slice a n c, .slice a' n' c'] 25)).alloc (.cells #[.int .i64 q] 3) := by
  go_enter Try.func44, Try.ntmps44
  go_wp2
  go_ret
  exact ⟨rfl, rfl⟩
/-- The place of the list that has a slot, and whether there is one. -/
def whereF (cs : List PV) (ms : List M) (q : Int) : Int × Bool :=
  if listsOK cs ms then (match haveL ms q ms.length with | [] => (0, false) | i :: _ => ((i : Int), true)) else (0, false)
set_option maxHeartbeats 4000000 in
theorem f_Where (vc vm : Value) (cs : List PV) (ms : List M) (q : Int) (hms : ms.length ≤ 1000) (w : World) (hc : VecsV w vc cs) (hm : Masks w vm ms) : Calls Try.prog 12 #[.agg #[vc, vm], .int .i64 q] w fun e W' =>
    e = .returned (.tuple #[.int .i64 (whereF cs ms q).1, .bool (whereF cs ms q).2]) ∧ Below w.heap.size w W' := by
  obtain ⟨a, cap, rfl, hl1, hm1⟩ : ∃ a cap, vc = .slice a cs.length cap ∧ cs.length ≤ cap ∧ cap ≤ 9223372036854775807 := by
    obtain ⟨a, cap, e, h1, h2, -⟩ := hc.open; exact ⟨a, cap, e, h1, h2⟩
  obtain ⟨a', cap', rfl, hl2, hm2, -⟩ := hm.open
  have HV := Lib.hid (fun W (hb : Below w.heap.size w W) => hc.grown hb)
  have HM := Lib.hid (fun W (hb : Below w.heap.size w W) => hm.grown hb)
  clear hc hm
  cases hok : listsOK cs ms
  · have HE := Lib.hid (show listsE cs ms = 230 by unfold listsE; rw [hok]; rfl)
    have HW := Lib.hid (show whereF cs ms q = (0, false) by unfold whereF; rw [hok]; rfl)
    clear hok
    go_enter Try.func12, Try.ntmps12
    go_wp2_with fail
    refine (f_listsCheck _ _ cs ms _ (HV.out _ (by ((repeat' (first | (with_reducible exact Below.refl _ _) | (with_reducible refine Below.setCell ?_ ?_ _) | (with_reducible refine Below.alloc ?_ ?_ _) | (with_reducible refine Below.drew ?_) | (with_reducible refine Below.trans ?_ (Below.mono (by assumption) ?_)) | go_size))))) (HM.out _ (by ((repeat' (first | (with_reducible exact Below.refl _ _) | (with_reducible refine Below.setCell ?_ ?_ _) | (with_reducible refine Below.alloc ?_ ?_ _) | (with_reducible refine Below.drew ?_) | (with_reducible refine Below.trans ?_ (Below.mono (by assumption) ?_)) | go_size)))))).mono ?_
    rintro e w1 ⟨rfl, hb1⟩
    rw [HE.out]
    have z1w0 : w.heap.size < w1.heap.size := (by have := hb1.size; (try simp at this); omega)
    have q1w0 := fun o => hb1.cell (p := ⟨w.heap.size, o, none⟩) (by first | omega | (simp; done) | (simp; omega))
    have r1w0 := fun o => hb1.frozen (p := ⟨w.heap.size, o, none⟩) (by first | omega | (simp; done) | (simp; omega))
    have z1w1 : w.heap.size + 1 < w1.heap.size := (by have := hb1.size; (try simp at this); omega)
    have q1w1 := fun o => hb1.cell (p := ⟨w.heap.size + 1, o, none⟩) (by first | omega | (simp; done) | (simp; omega))
    have r1w1 := fun o => hb1.frozen (p := ⟨w.heap.size + 1, o, none⟩) (by first | omega | (simp; done) | (simp; omega))
    have z1w2 : w.heap.size + 1 + 1 < w1.heap.size := (by have := hb1.size; (try simp at this); omega)
    have q1w2 := fun o => hb1.cell (p := ⟨w.heap.size + 1 + 1, o, none⟩) (by first | omega | (simp; done) | (simp; omega))
    have r1w2 := fun o => hb1.frozen (p := ⟨w.heap.size + 1 + 1, o, none⟩) (by first | omega | (simp; done) | (simp; omega))
    go_wp2
    refine bodyPost_ret (v := .tuple #[.int .i64 0, .bool false]) (by simp only [results, Try.results12]; go_simp) rfl ⟨by rw [HW.out], ?_⟩
    ((have shb1 := hb1.size); (try simp at shb1); (repeat' (first | (with_reducible exact Below.refl _ _) | (with_reducible refine Below.setCell ?_ ?_ _) | (with_reducible refine Below.alloc ?_ ?_ _) | (with_reducible refine Below.drew ?_) | (with_reducible refine Below.trans ?_ (Below.mono hb1 ?_)) | go_size)))
  · have HE := Lib.hid (show listsE cs ms = 0 by unfold listsE; rw [hok]; rfl)
    have HW := Lib.hid (show whereF cs ms q = (match haveL ms q ms.length with | [] => (0, false) | i :: _ => ((i : Int), true)) by unfold whereF; rw [hok]; rfl)
    clear hok
    refine (callsIn_wide (n := 3)).1 ?_
    have h1 : 1 ≤ 3 := by omega
    refine callsIn_of_wp_marks Try.func12 rfl trivial ?_ rfl
    simp only [Try.ntmps12, List.size_toArray, List.length_cons, List.length_nil, Nat.reduceAdd, Nat.reduceSub, Array.replicate_succ, Array.replicate_zero, List.push_toArray, List.append_toArray, List.nil_append, List.cons_append]
    gi_wp2_with fail
    refine ⟨trivial, (callsIn_wide.2 (f_listsCheck _ _ cs ms _ (HV.out _ (by ((repeat' (first | (with_reducible exact Below.refl _ _) | (with_reducible refine Below.setCell ?_ ?_ _) | (with_reducible refine Below.alloc ?_ ?_ _) | (with_reducible refine Below.drew ?_) | (with_reducible refine Below.trans ?_ (Below.mono (by assumption) ?_)) | go_size))))) (HM.out _ (by ((repeat' (first | (with_reducible exact Below.refl _ _) | (with_reducible refine Below.setCell ?_ ?_ _) | (with_reducible refine Below.alloc ?_ ?_ _) | (with_reducible refine Below.drew ?_) | (with_reducible refine Below.trans ?_ (Below.mono (by assumption) ?_)) | go_size))))))).mono ?_⟩
    rintro e w1 ⟨rfl, hb1⟩
    rw [HE.out]
    have z1w0 : w.heap.size < w1.heap.size := (by have := hb1.size; (try simp at this); omega)
    have q1w0 := fun o => hb1.cell (p := ⟨w.heap.size, o, none⟩) (by first | omega | (simp; done) | (simp; omega))
    have r1w0 := fun o => hb1.frozen (p := ⟨w.heap.size, o, none⟩) (by first | omega | (simp; done) | (simp; omega))
    have z1w1 : w.heap.size + 1 < w1.heap.size := (by have := hb1.size; (try simp at this); omega)
    have q1w1 := fun o => hb1.cell (p := ⟨w.heap.size + 1, o, none⟩) (by first | omega | (simp; done) | (simp; omega))
    have r1w1 := fun o => hb1.frozen (p := ⟨w.heap.size + 1, o, none⟩) (by first | omega | (simp; done) | (simp; omega))
    have z1w2 : w.heap.size + 1 + 1 < w1.heap.size := (by have := hb1.size; (try simp at this); omega)
    have q1w2 := fun o => hb1.cell (p := ⟨w.heap.size + 1 + 1, o, none⟩) (by first | omega | (simp; done) | (simp; omega))
    have r1w2 := fun o => hb1.frozen (p := ⟨w.heap.size + 1 + 1, o, none⟩) (by first | omega | (simp; done) | (simp; omega))
    have hB1 : Below w.heap.size w w1 := by ((have shb1 := hb1.size); (try simp at shb1); (repeat' (first | (with_reducible exact Below.refl _ _) | (with_reducible refine Below.setCell ?_ ?_ _) | (with_reducible refine Below.alloc ?_ ?_ _) | (with_reducible refine Below.drew ?_) | (with_reducible refine Below.trans ?_ (Below.mono hb1 ?_)) | go_size)))
    have c0 : w1.cell? ⟨w.heap.size, 0, none⟩ = some (.slice a cs.length cap) := by rw [q1w0]; go_simp
    have c0' : w1.cell? ⟨w.heap.size, 1, none⟩ = some (.slice a' ms.length cap') := by rw [q1w0]; go_simp
    have c1 : w1.cell? ⟨w.heap.size + 1, 0, none⟩ = some (.int .i64 0) := by rw [q1w1]; go_simp
    have f1 : w1.frozen? ⟨w.heap.size + 1, 0, none⟩ = false := by rw [r1w1]; go_simp
    have c2 : w1.cell? ⟨w.heap.size + 1 + 1, 0, none⟩ = some (.bool false) := by rw [q1w2]; go_simp
    have f2 : w1.frozen? ⟨w.heap.size + 1 + 1, 0, none⟩ = false := by rw [r1w2]; go_simp
    clear q1w0 q1w1 q1w2 r1w0 r1w1 r1w2 hb1
    gi_wp2_with (refine ⟨trivial, ?_⟩; gi_at_call 44; refine (callsIn_wide.2 (f_having _ _ _ _ _ _ _ _)).mono ?_; rintro e w' ⟨rfl, rfl⟩)
    have c3 : ((w1.alloc (.cells #[.slice a cs.length cap, .slice a' ms.length cap'] 25)).alloc (.cells #[.int .i64 q] 3)).cell? ⟨w1.heap.size, 1, none⟩ = some (.slice a' ms.length cap') := by go_simp
    have c4 : ((w1.alloc (.cells #[.slice a cs.length cap, .slice a' ms.length cap'] 25)).alloc (.cells #[.int .i64 q] 3)).cell? ⟨w1.heap.size + 1, 0, none⟩ = some (.int .i64 q) := by go_simp
    have k1 : ((w1.alloc (.cells #[.slice a cs.length cap, .slice a' ms.length cap'] 25)).alloc (.cells #[.int .i64 q] 3)).cell? ⟨w.heap.size + 1, 0, none⟩ = some (.int .i64 0) := by go_simp
    have k2 : ((w1.alloc (.cells #[.slice a cs.length cap, .slice a' ms.length cap'] 25)).alloc (.cells #[.int .i64 q] 3)).cell? ⟨w.heap.size + 1 + 1, 0, none⟩ = some (.bool false) := by go_simp
    have k3 : ((w1.alloc (.cells #[.slice a cs.length cap, .slice a' ms.length cap'] 25)).alloc (.cells #[.int .i64 q] 3)).frozen? ⟨w.heap.size + 1, 0, none⟩ = false := by go_simp
    have k4 : ((w1.alloc (.cells #[.slice a cs.length cap, .slice a' ms.length cap'] 25)).alloc (.cells #[.int .i64 q] 3)).frozen? ⟨w.heap.size + 1 + 1, 0, none⟩ = false := by go_simp
    have hB3 : Below w.heap.size w ((w1.alloc (.cells #[.slice a cs.length cap, .slice a' ms.length cap'] 25)).alloc (.cells #[.int .i64 q] 3)) := by ((have shB1 := hB1.size); (try simp at shB1); (repeat' (first | (with_reducible exact Below.refl _ _) | (with_reducible refine Below.setCell ?_ ?_ _) | (with_reducible refine Below.alloc ?_ ?_ _) | (with_reducible refine Below.drew ?_) | (with_reducible refine Below.trans ?_ (Below.mono hB1 ?_)) | go_size)))
    obtain ⟨W3, hW3⟩ : ∃ W3, ((w1.alloc (.cells #[.slice a cs.length cap, .slice a' ms.length cap'] 25)).alloc (.cells #[.int .i64 q] 3)) = W3 := ⟨_, rfl⟩
    have hsz : W3.heap.size = w1.heap.size + 2 := by rw [← hW3]; simp
    rw [hW3] at c3 c4 k1 k2 k3 k4 hB3 ⊢
    clear hW3 c0 c0' c1 c2 f1 f2
    have stops := having_stops 2 (by omega) w1.heap.size (w1.heap.size + 1) (.slice a' ms.length cap') ms q hms (fun W => Below W3.heap.size W3 W)
      (fun W hW => ⟨(hW.cell (p := ⟨w1.heap.size, 1, none⟩) (by simp; omega)).trans c3, (hW.cell (p := ⟨w1.heap.size + 1, 0, none⟩) (by simp; omega)).trans c4, HM.out _ (hB3.trans (hW.mono (by omega)))⟩)
      (fun W W' hb hW => hW.trans (hb.mono hW.size)) (Below W3.heap.size) (fun W W' hk hW => hW.trans hk) W3 (fun W hW => hW)
    refine wpIn_rangeFunc_ownG rfl h1 (gf := 89) (lb := #[.pointer (some ⟨w1.heap.size, 0, none⟩), .pointer (some ⟨w1.heap.size + 1, 0, none⟩)]) rfl trivial (enters_of Try.func89 (by kernel_rfl) rfl)
      stops belowK_t (belowK_b (Nat.le_refl _)) (Below.refl _ _) (fun _ => rfl)
      (fun pre W => (pre = [] ∧ W.cell? ⟨w.heap.size + 1, 0, none⟩ = some (.int .i64 0) ∧ W.frozen? ⟨w.heap.size + 1, 0, none⟩ = false ∧ W.cell? ⟨w.heap.size + 1 + 1, 0, none⟩ = some (.bool false) ∧ W.frozen? ⟨w.heap.size + 1 + 1, 0, none⟩ = false) ∧ Below w.heap.size w W)
      (fun c pre W => (c = .ret ∧ ∃ x : Nat, pre = [x] ∧ W.cell? ⟨w.heap.size + 1, 0, none⟩ = some (.int .i64 (x : Int)) ∧ W.cell? ⟨w.heap.size + 1 + 1, 0, none⟩ = some (.bool true)) ∧ Below w.heap.size w W)
      (OwnFrom.and (Own.from (fun s A B row hs hg hr => ⟨hs.1, cell_kept hs.2.1 hg hr, (frozen_kept hs.2.1 hg hr).trans hs.2.2.1, cell_kept hs.2.2.2.1 hg hr, (frozen_kept hs.2.2.2.1 hg hr).trans hs.2.2.2.2⟩) _) (ownFrom_below (Nat.le_refl _) (by omega)))
      (fun c => OwnFrom.and (Own.from (fun s A B row hs hg hr => by obtain ⟨hc, x, e1, e2, e3⟩ := hs; exact ⟨hc, x, e1, cell_kept e2 hg hr, cell_kept e3 hg hr⟩) _) (ownFrom_below (Nat.le_refl _) (by omega)))
      ⟨⟨rfl, k1, k3, k2, k4⟩, hB3⟩
      (fun x => { tmps := #[.agg #[.slice a cs.length cap, .slice a' ms.length cap'], .int .i64 q, .pointer (some ⟨w.heap.size, 0, none⟩), undef, .pointer (some ⟨w.heap.size + 1, 0, none⟩), .pointer (some ⟨w.heap.size + 1 + 1, 0, none⟩), .int .i64 (x : Int), .agg #[.slice a cs.length cap, .slice a' ms.length cap'], .int .i64 0, .bool false, .agg #[.slice a cs.length cap, .slice a' ms.length cap'], .int .i64 q, .func (.func 89) #[] #[.pointer (some ⟨w1.heap.size, 0, none⟩), .pointer (some ⟨w1.heap.size + 1, 0, none⟩)], .int .i64 (x : Int), undef], defers := [] }) ?assign ?body ?done ?stop
    case assign =>
      intro l x W K hK
      gi_wp2
      exact hK
    case body =>
      rintro l pre x W ⟨⟨rfl, hc1, hf1, hc2, hf2⟩, hB⟩ hlt
      gi_wp2
      refine ⟨((KeepsOthers.setCell _ _ _).trans (KeepsOthers.setCell _ _ _)).from _, ⟨rfl, x, rfl, ?_, ?_⟩, ?_⟩
      · go_simp
      · go_simp
      · exact (hB.setCell (p := ⟨w.heap.size + 1, 0, none⟩) (by simp) _).setCell (p := ⟨w.heap.size + 1 + 1, 0, none⟩) (by simp; omega) _
    case done =>
      rintro D ys W hD rfl ⟨⟨hnil, hc1, hf1, hc2, hf2⟩, hB⟩ hK
      have hnx := Lib.hid (show whereF cs ms q = (0, false) by rw [HW.out, hnil])
      clear hnil
      gi_wp2
      have hcA : ((W.setCell ⟨w.heap.size + 1, 0, none⟩ (.int .i64 0)).setCell ⟨w.heap.size + 1 + 1, 0, none⟩ (.bool false)).cell? ⟨w.heap.size + 1, 0, none⟩ = some (.int .i64 0) := by go_simp
      have hcB : ((W.setCell ⟨w.heap.size + 1, 0, none⟩ (.int .i64 0)).setCell ⟨w.heap.size + 1 + 1, 0, none⟩ (.bool false)).cell? ⟨w.heap.size + 1 + 1, 0, none⟩ = some (.bool false) := by go_simp
      have hK' := ((KeepsOthers.setCell W ⟨w.heap.size + 1, 0, none⟩ (.int .i64 0)).trans (KeepsOthers.setCell _ ⟨w.heap.size + 1 + 1, 0, none⟩ (.bool false))).same D _ hK rfl
      have hB' := (hB.setCell (p := ⟨w.heap.size + 1, 0, none⟩) (by simp) (.int .i64 0)).setCell (p := ⟨w.heap.size + 1 + 1, 0, none⟩) (by simp; omega) (.bool false)
      refine ⟨by simp, .inl ⟨_, _, rfl, run_takeDeferred hK', ?_⟩⟩
      have hc5 := cell_kept hcA (grownBy_putObj' _ D (.deferred none)) (fun r e => by cases e; exact ⟨_, hK', rfl⟩)
      have hc6 := cell_kept hcB (grownBy_putObj' _ D (.deferred none)) (fun r e => by cases e; exact ⟨_, hK', rfl⟩)
      refine ⟨.tuple #[.int .i64 0, .bool false], ?_, by rw [hnx.out], hB'.trans (belowK_b (w := w) (Nat.le_refl _) _ D _ _ (by omega) hK' rfl rfl)⟩
      simp [results, Try.f12, go_sem, hc5, hc6]
    case stop =>
      rintro D c pre W hD ⟨t, ht⟩ ⟨⟨rfl, x, rfl, hc1, hc2⟩, hB⟩ hK
      have hnx := Lib.hid (show whereF cs ms q = ((x : Int), true) by rw [HW.out, ← ht]; rfl)
      clear ht
      gi_wp2
      refine ⟨by simp, .inl ⟨_, _, rfl, run_takeDeferred hK, ?_⟩⟩
      have hc5 := cell_kept hc1 (grownBy_putObj' _ D (.deferred none)) (fun r e => by cases e; exact ⟨_, hK, rfl⟩)
      have hc6 := cell_kept hc2 (grownBy_putObj' _ D (.deferred none)) (fun r e => by cases e; exact ⟨_, hK, rfl⟩)
      refine ⟨.tuple #[.int .i64 (x : Int), .bool true], ?_, by rw [hnx.out], hB.trans (belowK_b (w := w) (Nat.le_refl _) W D _ _ (by omega) hK rfl rfl)⟩
      simp [results, Try.f12, go_sem, hc5, hc6]
end Go.Proofs.Ytlfmffjlmhpcdaa

/- lists.with: lists in which something is done to each mask; lists.put; lists.Same. -/
namespace Go.Proofs.Ytlfmffjlmhpcdaa
open Go.RowKit
set_option maxRecDepth 100000
attribute [local irreducible] Der

theorem own_cell {w w' : World} {row : Option Nat} (h : w.grownBy w' row) {p : Addr} (h1 : p.block < w.heap.size) (h2 : ∀ r, row = some r → p.block ≠ r) : w'.cell? p = w.cell? p :=
  World.cell?_of_block (w := w) (h.block p.block h1 (fun e => h2 p.block e.symm rfl))
theorem own_frozen {w w' : World} {row : Option Nat} (h : w.grownBy w' row) {p : Addr} (h1 : p.block < w.heap.size) (h2 : ∀ r, row = some r → p.block ≠ r) : w'.frozen? p = w.frozen? p :=
  World.frozen?_of_block (w := w) (h.block p.block h1 (fun e => h2 p.block e.symm rfl))
theorem own_setCell {w : World} {B e size n : Nat} {v : Value} {xs : List Value} (h : w.ownsRow B e size v n xs) {g o : Nat} (hg : g < B) (u : Value) : (w.setCell ⟨g, o, none⟩ u).ownsRow B e size v n xs := by
  refine h.kept (row := some g) (but_setCell (but_refl w _) u) ?_
  by_cases hv : v.ownBlock = none
  · exact .inl hv
  · refine .inr fun e => ?_
    have := (h.lt g e).1
    omega
theorem info_mask' : (Try.prog.info? 49).map (fun i => (i.zero, i.size, i.bytes)) = some (some (.agg #[.int .u64 0, .int .u64 0]), 2, 16) := by kernel_rfl
theorem cellsM_one' (l : List M) : ∀ u ∈ cellsM l, u.oneCell' = true := by
  intro u hu
  unfold cellsM at hu
  obtain ⟨m, _, hm⟩ := List.mem_flatMap.1 hu
  simp at hm
  rcases hm with rfl | rfl <;> rfl
theorem Masks.of_own {w : World} {B n : Nat} {v : Value} {l : List M} (h : w.ownsRow B 49 2 v n (cellsM l)) (hn : n = l.length) : Masks w v l := by subst hn; exact Sl.of_owns h
/-- What is done to the first k masks. -/
def withL (d : Nat → M → M) (ms : List M) (k : Nat) : List M := (List.range k).map fun i => d i (mAt ms i)
theorem withL_succ (d : Nat → M → M) (ms : List M) (k : Nat) : withL d ms (k + 1) = withL d ms k ++ [d k (mAt ms k)] := by unfold withL; rw [List.range_succ, List.map_append]; rfl
theorem withL_length (d : Nat → M → M) (ms : List M) (k : Nat) : (withL d ms k).length = k := by unfold withL; simp
theorem cellsM_append (l m : List M) : cellsM (l ++ m) = cellsM l ++ cellsM m := by unfold cellsM; rw [List.flatMap_append]
/-- The calls of function k do d to each mask that is handed to it with its place. -/
def DoesOn (k : Nat) (lb : Array Value) (d : Nat → M → M) (ms : List M) (w : World) : Prop :=
  ∀ i (h : i < ms.length), ∀ w', Below w.heap.size w w' → Calls Try.prog k (#[.int .i64 (i : Nat), MV ms[i].1 ms[i].2] ++ lb) w' fun e w'' => e = .returned (MV (d i ms[i]).1 (d i ms[i]).2) ∧ Below w'.heap.size w' w''
/-- Lists, as a value, in memory. -/
def ListsV (w : World) (x : Value) (cs : List PV) (ms : List M) : Prop := ∃ vc vm, x = .agg #[vc, vm] ∧ VecsV w vc cs ∧ Masks w vm ms ∧ NilA vm
theorem ListsV.grown {w w' : World} {x : Value} {cs : List PV} {ms : List M} (h : ListsV w x cs ms) (hb : Below w.heap.size w w') : ListsV w' x cs ms := by
  obtain ⟨vc, vm, e, h1, h2, h3⟩ := h
  exact ⟨vc, vm, e, h1.grown hb, h2.grown hb, h3⟩
theorem own_slice {w : World} {B e size n : Nat} {v : Value} {xs : List Value} (h : w.ownsRow B e size v n xs) : ∃ a c, v = .slice a n c := by
  rcases h.2 with ⟨e, h0⟩ | ⟨g, c, cur, e, _⟩
  · exact ⟨none, 0, by rw [e, h0]⟩
  · exact ⟨_, _, e⟩
theorem own_weaken {w : World} {B B' e size n : Nat} {v : Value} {xs : List Value} (h : w.ownsRow B e size v n xs) (hb : B' ≤ B) : w.ownsRow B' e size v n xs := by
  refine ⟨h.1, ?_⟩
  rcases h.2 with h0 | ⟨g, cap, cur, e1, e2, e3⟩
  · exact .inl h0
  · exact .inr ⟨g, cap, cur, e1, Nat.le_trans hb e2, e3⟩
/-- Lists that a call has made: both rows lie in blocks from B on. -/
def ListsO (B : Nat) (w : World) (x : Value) (cs : List PV) (ms : List M) : Prop := ∃ vc vm, x = .agg #[vc, vm] ∧ w.ownsRow B 56 1 vc cs.length (cs.flatMap fun p => [p.1]) ∧ w.ownsRow B 49 2 vm ms.length (cellsM ms)
theorem ListsO.toV {B : Nat} {w : World} {x : Value} {cs : List PV} {ms : List M} (h : ListsO B w x cs ms) (hi : ∀ p ∈ cs, VecV w p.1 p.2) : ListsV w x cs ms := by
  obtain ⟨vc, vm, e, h1, h2⟩ := h
  exact ⟨vc, vm, e, ⟨⟨Sl.of_owns h1, NilA.of_owns h1⟩, hi⟩, Sl.of_owns h2, NilA.of_owns h2⟩
theorem ListsO.setCell {B g o : Nat} {w : World} {x : Value} {cs : List PV} {ms : List M} (h : ListsO B w x cs ms) (hg : g < B) (u : Value) : ListsO B (w.setCell ⟨g, o, none⟩ u) x cs ms := by
  obtain ⟨vc, vm, e, h1, h2⟩ := h
  exact ⟨vc, vm, e, own_setCell h1 hg u, own_setCell h2 hg u⟩
theorem ListsO.grown {B : Nat} {w w' : World} {x : Value} {cs : List PV} {ms : List M} (h : ListsO B w x cs ms) (hb : Below w.heap.size w w') : ListsO B w' x cs ms := by
  obtain ⟨vc, vm, e, h1, h2⟩ := h
  exact ⟨vc, vm, e, owns_below h1 hb, owns_below h2 hb⟩
theorem ListsO.weaken {B B' : Nat} {w : World} {x : Value} {cs : List PV} {ms : List M} (h : ListsO B w x cs ms) (hb : B' ≤ B) : ListsO B' w x cs ms := by
  obtain ⟨vc, vm, e, h1, h2⟩ := h
  exact ⟨vc, vm, e, own_weaken h1 hb, own_weaken h2 hb⟩
theorem ListsO.form {B : Nat} {w : World} {x : Value} {cs : List PV} {ms : List M} (h : ListsO B w x cs ms) : ∃ a c a' c', x = .agg #[.slice a cs.length c, .slice a' ms.length c'] := by
  obtain ⟨vc, vm, e, h1, h2⟩ := h
  obtain ⟨a, c, rfl⟩ := own_slice h1
  obtain ⟨a', c', rfl⟩ := own_slice h2
  exact ⟨a, c, a', c', e⟩
theorem own_addr {w : World} {B e size n : Nat} {v : Value} {xs : List Value} (h : w.ownsRow B e size v n xs) (hn : 0 < n) : ∃ g c, v = .slice (some ⟨g, 0, none⟩) n c := by
  rcases h.2 with ⟨_, h0⟩ | ⟨g, c, cur, e, _⟩
  · omega
  · exact ⟨g, c, e⟩
theorem VecsV.of_own {w0 w : World} {B n : Nat} {v : Value} {cs : List PV} (h : w.ownsRow B 56 1 v n (cs.flatMap fun p => [p.1])) (hn : n = cs.length) (hi : ∀ p ∈ cs, VecV w0 p.1 p.2) (hb : Below w0.heap.size w0 w) : VecsV w v cs := by
  subst hn
  exact ⟨⟨Sl.of_owns h, NilA.of_owns h⟩, fun p hp => (hi p hp).grown hb⟩
set_option maxHeartbeats 4000000 in
theorem f_listsWith (k : Nat) (lb : Array Value) (eg : ∀ args w, (callFunc k args).run Try.prog w = .ok (.enter k args) w) (d : Nat → M → M) (vc vm : Value) (cs : List PV) (ms : List M) (hcl : cs.length ≤ 1000) (hms : ms.length ≤ 1000) (w : World) (hc : VecsV w vc cs) (hm : Masks w vm ms) (hd : DoesOn k lb d ms w) :
    Calls Try.prog 69 #[.agg #[vc, vm], .func (.func k) #[] lb] w fun e w' => (∃ x, e = .returned x ∧ ListsO w.heap.size w' x cs (withL d ms ms.length)) ∧ Below w.heap.size w w' := by
  obtain ⟨a, cap, rfl, hl1, hm1⟩ : ∃ a cap, vc = .slice a cs.length cap ∧ cs.length ≤ cap ∧ cap ≤ 9223372036854775807 := by
    obtain ⟨a, cap, e, h1, h2, -⟩ := hc.open; exact ⟨a, cap, e, h1, h2⟩
  obtain ⟨a', cap', rfl, hl2, hm2, hcell⟩ := hm.open
  have Hc := Lib.hid hcell
  have HV := Lib.hid (fun W (hb : Below w.heap.size w W) => hc.grown hb)
  have HV2 := Lib.hid hc.2
  have HD := Lib.hid hd
  have HS := Lib.hid (fun k => withL_succ d ms k)
  have HL := Lib.hid (fun k => withL_length d ms k)
  clear hc hcell hm hd
  go_enter Try.func69, Try.ntmps69
  go_wp2_with fail
  refine (cloneV _ cs _ (HV.out _ (by ((repeat' (first | (with_reducible exact Below.refl _ _) | (with_reducible refine Below.setCell ?_ ?_ _) | (with_reducible refine Below.alloc ?_ ?_ _) | (with_reducible refine Below.drew ?_) | (with_reducible refine Below.trans ?_ (Below.mono (by assumption) ?_)) | go_size))))) (by omega)).mono ?_
  rintro e w1 ⟨⟨vc', rfl, hown⟩, hb1⟩
  have hB1 : Below w.heap.size w w1 := by ((have shb1 := hb1.size); (try simp at shb1); (repeat' (first | (with_reducible exact Below.refl _ _) | (with_reducible refine Below.setCell ?_ ?_ _) | (with_reducible refine Below.alloc ?_ ?_ _) | (with_reducible refine Below.drew ?_) | (with_reducible refine Below.trans ?_ (Below.mono hb1 ?_)) | go_size)))
  have hVc : VecsV w1 vc' cs := ⟨⟨Sl.of_owns hown, NilA.of_owns hown⟩, fun p hp => (HV2.out p hp).grown hB1⟩
  have HOc := Lib.hid hown
  obtain ⟨a3, cap3, rfl, -⟩ := hVc.open
  clear hVc hown
  have z1w0 : w.heap.size < w1.heap.size := (by have := hb1.size; (try simp at this); omega)
  have q1w0 := fun o => hb1.cell (p := ⟨w.heap.size, o, none⟩) (by first | omega | (simp; done) | (simp; omega))
  have r1w0 := fun o => hb1.frozen (p := ⟨w.heap.size, o, none⟩) (by first | omega | (simp; done) | (simp; omega))
  have z1w1 : w.heap.size + 1 < w1.heap.size := (by have := hb1.size; (try simp at this); omega)
  have q1w1 := fun o => hb1.cell (p := ⟨w.heap.size + 1, o, none⟩) (by first | omega | (simp; done) | (simp; omega))
  have r1w1 := fun o => hb1.frozen (p := ⟨w.heap.size + 1, o, none⟩) (by first | omega | (simp; done) | (simp; omega))
  have c0 : w1.cell? ⟨w.heap.size, 1, none⟩ = some (.slice a' ms.length cap') := by rw [q1w0]; go_simp
  have r0 : w1.cell? ⟨w.heap.size + 1, 0, none⟩ = some (.slice none 0 0) := by rw [q1w1]; go_simp
  have r1 : w1.cell? ⟨w.heap.size + 1, 1, none⟩ = some (.slice none 0 0) := by rw [q1w1]; go_simp
  have s0 : w1.frozen? ⟨w.heap.size + 1, 0, none⟩ = false := by rw [r1w1]; go_simp
  have s1 : w1.frozen? ⟨w.heap.size + 1, 1, none⟩ = false := by rw [r1w1]; go_simp
  clear q1w0 q1w1 r1w0 r1w1 hb1
  go_wp2
  go_loopw [15] (fun i wr => ∃ (j : Nat) (v : Value), j ≤ ms.length ∧ i = .int .i64 j ∧ wr.cell? ⟨w1.heap.size, 0, none⟩ = some (.slice a3 cs.length cap3) ∧ wr.cell? ⟨w1.heap.size, 1, none⟩ = some v ∧ wr.frozen? ⟨w1.heap.size, 0, none⟩ = false ∧ wr.frozen? ⟨w1.heap.size, 1, none⟩ = false ∧
    wr.ownsRow (w1.heap.size + 1) 49 2 v j (cellsM (withL d ms j)) ∧ Below w1.heap.size w1 wr ∧ w1.heap.size + 1 ≤ wr.heap.size) (fun i _ => ms.length - (intOf i).toNat)
  case atStart =>
    refine ⟨0, .slice none 0 0, Nat.zero_le _, rfl, by go_simp, by go_simp, by go_simp, by go_simp, World.ownsRow_nil _ _ _ _, by ((repeat' (first | (with_reducible exact Below.refl _ _) | (with_reducible refine Below.setCell ?_ ?_ _) | (with_reducible refine Below.alloc ?_ ?_ _) | (with_reducible refine Below.drew ?_) | (with_reducible refine Below.trans ?_ (Below.mono (by assumption) ?_)) | go_size))), by simp⟩
  case round =>
    obtain ⟨j, v, hj, rfl, n0, n1, m0, m1, hown, hbr, hsz⟩ := hrel
    have HO := Lib.hid hown
    clear hown
    have hBr : Below w.heap.size w wr := by ((have shbr := hbr.size); (try simp at shbr); (have shB1 := hB1.size); (try simp at shB1); (repeat' (first | (with_reducible exact Below.refl _ _) | (with_reducible refine Below.setCell ?_ ?_ _) | (with_reducible refine Below.alloc ?_ ?_ _) | (with_reducible refine Below.drew ?_) | (with_reducible refine Below.trans ?_ (Below.mono hbr ?_)) | (with_reducible refine Below.trans ?_ (Below.mono hB1 ?_)) | go_size)))
    by_cases hlt2 : j < ms.length
    · obtain ⟨b, off, rfl, hlt, g1, g2⟩ := Hc.out j hlt2
      have e1 := (hBr.cell (p := ⟨b, off + j * 2, none⟩) hlt).trans g1
      have e2 := (hBr.cell (p := ⟨b, off + j * 2 + 1, none⟩) hlt).trans g2
      have HDj := Lib.hid (HD.out j hlt2)
      have hS := HS.out j
      rw [mAt_get hlt2] at hS
      have HSj := Lib.hid hS
      clear g1 g2 hS
      generalize ms[j] = y at *
      obtain ⟨y1, y2⟩ := y
      obtain ⟨Z, hZ⟩ : ∃ Z, d j (y1, y2) = Z := ⟨_, rfl⟩
      rw [hZ] at HSj HDj
      clear hZ
      have hzz : w1.heap.size < wr.heap.size := by omega
      have hzw : w.heap.size < wr.heap.size := by omega
      obtain ⟨wz, hwz⟩ : ∃ wz, wz = wr := ⟨_, rfl⟩
      subst hwz
      go_wp2
      refine wp_grow [(5, .val (MV (Z).1 (Z).2)), (6, .rel (fun v w => Masks w v [Z] ∧ NilA v) (fun _ _ _ h hg => ⟨h.1.grown hg, h.2⟩))] 7 (by kernel_rfl) (by kernel_rfl) (by rfl) (by rfl) ?_
      simp only [List.take_succ_cons, List.take_zero, List.drop_succ_cons, List.drop_zero]
      repeat (first
        | (apply Der.quiet; (rfl); (rfl); (intro w' hw' hctx; have hc' := bcell hw'; have ywz0 := fun o => hw'.cell (p := ⟨wz.heap.size, o, none⟩) (by first | omega | (simp; done) | (simp; omega)); have yb := fun o => hw'.cell (p := ⟨w1.heap.size, o, none⟩) (by simp; omega); clear hctx; go_simp; first | exact rfl | exact ⟨rfl, rfl⟩); simp only [Act.put, List.setIfInBounds_toArray, List.set_cons_succ, List.set_cons_zero, Nat.reduceAdd])
        | (apply Der.skip; (rfl); simp only [Act.put, List.setIfInBounds_toArray, List.set_cons_succ, List.set_cons_zero, Nat.reduceAdd]))
      apply Der.val
      · rfl
      · rfl
      · (intro w' hw' hctx; go_simp; refine (HDj.out _ ((hBr.alloc hBr.size _).trans ((undrew hw').mono (by have := hBr.size; simp; omega)))).mono ?_; rintro e w2 ⟨rfl, hb⟩; exact ⟨_, rfl, rfl, hb⟩)
      simp only [Act.put, List.setIfInBounds_toArray, List.set_cons_succ, List.set_cons_zero, Nat.reduceAdd]
      refine Der.rel (by rfl) (by rfl) (fun w' hw' hctx => ?_) (fun sb => ?_)
      · (go_simp; exact ⟨⟨Sl.fresh w' 49 1 _ rfl (by omega), NilA.of_some _ _ _⟩, (Below.refl _ _).alloc (Nat.le_refl _) _⟩)
      simp only [Act.put, List.setIfInBounds_toArray, List.set_cons_succ, List.set_cons_zero, Nat.reduceAdd]
      refine Der.nil (fun w2 hg2 hctx => ?_)
      have hcx : Masks w2 sb [Z] ∧ NilA sb := hctx 6 _ _ (by omega) rfl rfl
      clear hctx
      have hb2 : Below _ _ w2 := hg2
      clear hg2
      have hb2' : Below wz.heap.size wz w2 := by ((have shb2 := hb2.size); (try simp at shb2); (repeat' (first | (with_reducible exact Below.refl _ _) | (with_reducible refine Below.setCell ?_ ?_ _) | (with_reducible refine Below.alloc ?_ ?_ _) | (with_reducible refine Below.drew ?_) | (with_reducible refine Below.trans ?_ (Below.mono hb2 ?_)) | go_size)))
      have HO2 := Lib.hid (owns_below HO.out hb2')
      have HX := Lib.hid hcx
      obtain ⟨asb, csb, rfl, -⟩ := hcx.1.open
      obtain ⟨av, cv, rfl⟩ := own_slice HO.out
      have hs2 := hb2'.size
      have n02 := (hb2'.cell (p := ⟨w1.heap.size, 0, none⟩) hzz).trans n0
      have n12 := (hb2'.cell (p := ⟨w1.heap.size, 1, none⟩) hzz).trans n1
      have m02 := (hb2'.frozen (p := ⟨w1.heap.size, 0, none⟩) hzz).trans m0
      have m12 := (hb2'.frozen (p := ⟨w1.heap.size, 1, none⟩) hzz).trans m1
      clear hcx n0 n1 m0 m1 e1 e2 hb2
      refine append_any rfl _ _ 23 rfl (w1.heap.size + 1) 49 (.agg #[.int .u64 0, .int .u64 0]) 2 16 Try.underlying23 info_mask' rfl (by decide) _ j _ rfl HO2.out _ 1 (cellsM [Z]) rfl (show Sl w2 _ 1 (cellsM [Z]) from HX.out.1) HX.out.2 rfl (cellsM_one' _) (by unfold maxLen; omega) (by omega) (by omega) ?_
      intro v' w3 hown' hgrow
      have hne : ∀ r, (Value.slice av j cv).ownBlock = some r → w1.heap.size ≠ r := fun r e => (by have := (HO2.out.lt r e).1; omega)
      have n03 := (own_cell hgrow (p := ⟨w1.heap.size, 0, none⟩) (by simp; omega) hne).trans n02
      have n13 := (own_cell hgrow (p := ⟨w1.heap.size, 1, none⟩) (by simp; omega) hne).trans n12
      have m03 := (own_frozen hgrow (p := ⟨w1.heap.size, 0, none⟩) (by simp; omega) hne).trans m02
      have m13 := (own_frozen hgrow (p := ⟨w1.heap.size, 1, none⟩) (by simp; omega) hne).trans m12
      have hb3 : Below w1.heap.size w1 w3 := (show Below w1.heap.size w1 w2 by ((have shb2' := hb2'.size); (try simp at shb2'); (have shbr := hbr.size); (try simp at shbr); (repeat' (first | (with_reducible exact Below.refl _ _) | (with_reducible refine Below.setCell ?_ ?_ _) | (with_reducible refine Below.alloc ?_ ?_ _) | (with_reducible refine Below.drew ?_) | (with_reducible refine Below.trans ?_ (Below.mono hb2' ?_)) | (with_reducible refine Below.trans ?_ (Below.mono hbr ?_)) | go_size)))).grown hgrow (by omega) (fun r e => by have := (HO2.out.lt r e).1; omega)
      have hs3 : w1.heap.size + 1 ≤ w3.heap.size := (by have := hgrow.size; omega)
      rw [← cellsM_append, ← HSj.out] at hown'
      have HO3 := Lib.hid hown'
      obtain ⟨g', cap4, rfl⟩ := own_addr hown' (by omega)
      clear hown' hgrow hne n02 n12 m02 m12
      go_wp2
      go_roundw
      case rel =>
        refine ⟨j + 1, _, by omega, by go_num, ?_, ?_, ?_, ?_, own_setCell HO3.out (by omega) _, ?_, ?_⟩
        · go_simp
        · go_simp
        · go_simp
        · go_simp
        · ((have shb3 := hb3.size); (try simp at shb3); (repeat' (first | (with_reducible exact Below.refl _ _) | (with_reducible refine Below.setCell ?_ ?_ _) | (with_reducible refine Below.alloc ?_ ?_ _) | (with_reducible refine Below.drew ?_) | (with_reducible refine Below.trans ?_ (Below.mono hb3 ?_)) | go_size)))
        · simp; omega
      case measure => simp [intOf]; omega
    · have : j = ms.length := by omega
      subst this
      have r0' := (hbr.cell (p := ⟨w.heap.size + 1, 0, none⟩) z1w1).trans r0
      have r1' := (hbr.cell (p := ⟨w.heap.size + 1, 1, none⟩) z1w1).trans r1
      have s0' := (hbr.frozen (p := ⟨w.heap.size + 1, 0, none⟩) z1w1).trans s0
      have s1' := (hbr.frozen (p := ⟨w.heap.size + 1, 1, none⟩) z1w1).trans s1
      obtain ⟨av, capv, hv⟩ := own_slice HO.out
      have HL' := Lib.hid (HL.out ms.length)
      have HOw := Lib.hid (own_setCell (own_setCell (owns_below HOc.out hbr) (g := w.heap.size + 1) (o := 0) (by simp) (.slice a3 cs.length cap3)) (g := w.heap.size + 1) (o := 1) (by simp) (.slice av ms.length capv))
      have HOm := Lib.hid (own_setCell (own_setCell HO.out (g := w.heap.size + 1) (o := 0) (by omega) (.slice a3 cs.length cap3)) (g := w.heap.size + 1) (o := 1) (by omega) (.slice av ms.length capv))
      have HN := Lib.hid (NilA.of_owns HO.out)
      subst hv
      have hBf : Below w.heap.size w ((wr.setCell ⟨w.heap.size + 1, 0, none⟩ (.slice a3 cs.length cap3)).setCell ⟨w.heap.size + 1, 1, none⟩ (.slice av ms.length capv)) := by ((have shBr := hBr.size); (try simp at shBr); (repeat' (first | (with_reducible exact Below.refl _ _) | (with_reducible refine Below.setCell ?_ ?_ _) | (with_reducible refine Below.alloc ?_ ?_ _) | (with_reducible refine Below.drew ?_) | (with_reducible refine Below.trans ?_ (Below.mono hBr ?_)) | go_size)))
      go_wp2
      refine bodyPost_ret (v := .agg #[.slice a3 cs.length cap3, .slice av ms.length capv]) (by simp only [results, Try.results69]; go_simp) rfl ⟨⟨_, rfl, _, _, rfl, own_weaken HOw.out (by simp; omega), own_weaken (by rw [HL'.out]; exact HOm.out) (by omega)⟩, hBf⟩
end Go.Proofs.Ytlfmffjlmhpcdaa

/- lists.put, lists.Same, and the document's Same. -/
namespace Go.Proofs.Ytlfmffjlmhpcdaa
open Go.RowKit
set_option maxRecDepth 100000
attribute [local irreducible] Der

/-- What put does to a mask. -/
def putD (p : Nat) (s : Int) (i : Nat) (m : M) : M := if i = p then (m.1 ||| bit0 s, m.2 ||| bit1 s) else m
set_option maxHeartbeats 1000000 in
theorem c_put (B1 B2 : Nat) (p : Nat) (s : Int) (i : Nat) (m : M) (hs : isSlot s) (hm : i = p → chk m.2 = 0) (w : World) (h1 : w.cell? ⟨B1, 0, none⟩ = some (.int .i64 (p : Int))) (h2 : w.cell? ⟨B2, 0, none⟩ = some (.int .i64 s)) :
    Calls Try.prog 96 #[.int .i64 (i : Int), MV m.1 m.2, .pointer (some ⟨B1, 0, none⟩), .pointer (some ⟨B2, 0, none⟩)] w fun e w' => e = .returned (MV (putD p s i m).1 (putD p s i m).2) ∧ Below w.heap.size w w' := by
  obtain ⟨m1, m2⟩ := m
  have l1 : B1 < w.heap.size := World.block_lt_of_cell? w _ h1
  have l2 : B2 < w.heap.size := World.block_lt_of_cell? w _ h2
  by_cases hip : i = p
  · have HP := Lib.hid (show putD p s i (m1, m2) = (m1 ||| bit0 s, m2 ||| bit1 s) by unfold putD; rw [if_pos hip])
    have hq : ((i : Int) == (p : Int)) = true := by simp [hip]
    have HC := Lib.hid (hm hip)
    have HS := Lib.hid hs
    clear hm hs hip
    go_enter Try.func96, Try.ntmps96
    go_wp2_with fail
    refine (f_With_ok m1 m2 s HC.out HS.out _).mono ?_
    rintro e w1 ⟨rfl, hb1⟩
    have z1w0 : w.heap.size < w1.heap.size := (by have := hb1.size; (try simp at this); omega)
    have q1w0 := fun o => hb1.cell (p := ⟨w.heap.size, o, none⟩) (by first | omega | (simp; done) | (simp; omega))
    have r1w0 := fun o => hb1.frozen (p := ⟨w.heap.size, o, none⟩) (by first | omega | (simp; done) | (simp; omega))
    have z1w1 : w.heap.size + 1 < w1.heap.size := (by have := hb1.size; (try simp at this); omega)
    have q1w1 := fun o => hb1.cell (p := ⟨w.heap.size + 1, o, none⟩) (by first | omega | (simp; done) | (simp; omega))
    have r1w1 := fun o => hb1.frozen (p := ⟨w.heap.size + 1, o, none⟩) (by first | omega | (simp; done) | (simp; omega))
    go_wp2
    refine bodyPost_ret (v := MV (m1 ||| bit0 s) (m2 ||| bit1 s)) (by simp only [results, Try.results96]; go_simp) rfl ⟨by rw [HP.out], ?_⟩
    ((have shb1 := hb1.size); (try simp at shb1); (repeat' (first | (with_reducible exact Below.refl _ _) | (with_reducible refine Below.setCell ?_ ?_ _) | (with_reducible refine Below.alloc ?_ ?_ _) | (with_reducible refine Below.drew ?_) | (with_reducible refine Below.trans ?_ (Below.mono hb1 ?_)) | go_size)))
  · have HP := Lib.hid (show putD p s i (m1, m2) = (m1, m2) by unfold putD; rw [if_neg hip])
    have hq : ((i : Int) == (p : Int)) = false := by simp; omega
    clear hm hs hip
    go_enter Try.func96, Try.ntmps96
    go_wp2
    refine bodyPost_ret (v := MV m1 m2) (by simp only [results, Try.results96]; go_simp) rfl ⟨by rw [HP.out], ?_⟩
    ((repeat' (first | (with_reducible exact Below.refl _ _) | (with_reducible refine Below.setCell ?_ ?_ _) | (with_reducible refine Below.alloc ?_ ?_ _) | (with_reducible refine Below.drew ?_) | (with_reducible refine Below.trans ?_ (Below.mono (by assumption) ?_)) | go_size)))
theorem enters_put : ∀ args w, (callFunc 96 args).run Try.prog w = .ok (.enter 96 args) w := enters_of Try.func96 (by kernel_rfl) rfl
set_option maxHeartbeats 1000000 in
theorem f_put (vc vm : Value) (cs : List PV) (ms : List M) (p : Nat) (s : Int) (hs : isSlot s) (hp : ∀ i (h : i < ms.length), i = p → chk ms[i].2 = 0) (hcl : cs.length ≤ 1000) (hms : ms.length ≤ 1000) (w : World) (hc : VecsV w vc cs) (hm : Masks w vm ms) :
    Calls Try.prog 54 #[.agg #[vc, vm], .int .i64 (p : Int), .int .i64 s] w fun e w' => (∃ x, e = .returned x ∧ ListsO w.heap.size w' x cs (withL (putD p s) ms ms.length)) ∧ Below w.heap.size w w' := by
  obtain ⟨a, cap, rfl, hl1, hm1⟩ : ∃ a cap, vc = .slice a cs.length cap ∧ cs.length ≤ cap ∧ cap ≤ 9223372036854775807 := by
    obtain ⟨a, cap, e, h1, h2, -⟩ := hc.open; exact ⟨a, cap, e, h1, h2⟩
  obtain ⟨a', cap', rfl, hl2, hm2, -⟩ := hm.open
  have HV := Lib.hid (fun W (hb : Below w.heap.size w W) => hc.grown hb)
  have HM := Lib.hid (fun W (hb : Below w.heap.size w W) => hm.grown hb)
  have HP := Lib.hid hp
  clear hc hm hp
  go_enter Try.func54, Try.ntmps54
  have c1 : ((((w.alloc (.cells #[.slice a cs.length cap, .slice a' ms.length cap'] 25)).alloc (.cells #[.int .i64 (p : Int)] 3)).alloc (.cells #[.int .i64 s] 3)).alloc (.cells #[.slice none 0 0, .slice none 0 0] 25)).cell? ⟨w.heap.size + 1, 0, none⟩ = some (.int .i64 (p : Int)) := by go_simp
  have c2 : ((((w.alloc (.cells #[.slice a cs.length cap, .slice a' ms.length cap'] 25)).alloc (.cells #[.int .i64 (p : Int)] 3)).alloc (.cells #[.int .i64 s] 3)).alloc (.cells #[.slice none 0 0, .slice none 0 0] 25)).cell? ⟨w.heap.size + 1 + 1, 0, none⟩ = some (.int .i64 s) := by go_simp
  have hB0 : Below w.heap.size w ((((w.alloc (.cells #[.slice a cs.length cap, .slice a' ms.length cap'] 25)).alloc (.cells #[.int .i64 (p : Int)] 3)).alloc (.cells #[.int .i64 s] 3)).alloc (.cells #[.slice none 0 0, .slice none 0 0] 25)) := by ((repeat' (first | (with_reducible exact Below.refl _ _) | (with_reducible refine Below.setCell ?_ ?_ _) | (with_reducible refine Below.alloc ?_ ?_ _) | (with_reducible refine Below.drew ?_) | (with_reducible refine Below.trans ?_ (Below.mono (by assumption) ?_)) | go_size)))
  have hD : DoesOn 96 #[.pointer (some ⟨w.heap.size + 1, 0, none⟩), .pointer (some ⟨w.heap.size + 1 + 1, 0, none⟩)] (putD p s) ms ((((w.alloc (.cells #[.slice a cs.length cap, .slice a' ms.length cap'] 25)).alloc (.cells #[.int .i64 (p : Int)] 3)).alloc (.cells #[.int .i64 s] 3)).alloc (.cells #[.slice none 0 0, .slice none 0 0] 25)) := fun i hi W hW =>
    c_put (w.heap.size + 1) (w.heap.size + 1 + 1) p s i ms[i] hs (fun e => HP.out i hi e) W ((hW.cell (p := ⟨w.heap.size + 1, 0, none⟩) (by simp)).trans c1) ((hW.cell (p := ⟨w.heap.size + 1 + 1, 0, none⟩) (by simp)).trans c2)
  have HW := Lib.hid (f_listsWith _ _ enters_put (putD p s) _ _ cs ms hcl hms _ (HV.out _ hB0) (HM.out _ hB0) hD)
  clear hD c1 c2 hB0
  go_wp2_with fail
  refine HW.out.mono ?_
  rintro e w1 ⟨⟨x, rfl, hx⟩, hb1⟩
  have HX := Lib.hid hx
  obtain ⟨xa, xc, xa', xc', rfl⟩ := hx.form
  clear hx
  have z1w0 : w.heap.size < w1.heap.size := (by have := hb1.size; (try simp at this); omega)
  have q1w0 := fun o => hb1.cell (p := ⟨w.heap.size, o, none⟩) (by first | omega | (simp; done) | (simp; omega))
  have r1w0 := fun o => hb1.frozen (p := ⟨w.heap.size, o, none⟩) (by first | omega | (simp; done) | (simp; omega))
  have z1w1 : w.heap.size + 1 < w1.heap.size := (by have := hb1.size; (try simp at this); omega)
  have q1w1 := fun o => hb1.cell (p := ⟨w.heap.size + 1, o, none⟩) (by first | omega | (simp; done) | (simp; omega))
  have r1w1 := fun o => hb1.frozen (p := ⟨w.heap.size + 1, o, none⟩) (by first | omega | (simp; done) | (simp; omega))
  have z1w2 : w.heap.size + 1 + 1 < w1.heap.size := (by have := hb1.size; (try simp at this); omega)
  have q1w2 := fun o => hb1.cell (p := ⟨w.heap.size + 1 + 1, o, none⟩) (by first | omega | (simp; done) | (simp; omega))
  have r1w2 := fun o => hb1.frozen (p := ⟨w.heap.size + 1 + 1, o, none⟩) (by first | omega | (simp; done) | (simp; omega))
  have z1w3 : w.heap.size + 1 + 1 + 1 < w1.heap.size := (by have := hb1.size; (try simp at this); omega)
  have q1w3 := fun o => hb1.cell (p := ⟨w.heap.size + 1 + 1 + 1, o, none⟩) (by first | omega | (simp; done) | (simp; omega))
  have r1w3 := fun o => hb1.frozen (p := ⟨w.heap.size + 1 + 1 + 1, o, none⟩) (by first | omega | (simp; done) | (simp; omega))
  go_wp2
  refine bodyPost_ret (v := .agg #[.slice xa cs.length xc, .slice xa' (withL (putD p s) ms ms.length).length xc']) (by simp only [results, Try.results54]; go_simp) rfl ⟨⟨_, rfl, ?_⟩, ?_⟩
  · exact ((HX.out.setCell (by simp) _).setCell (by simp) _).weaken (by simp; omega)
  · ((have shb1 := hb1.size); (try simp at shb1); (repeat' (first | (with_reducible exact Below.refl _ _) | (with_reducible refine Below.setCell ?_ ?_ _) | (with_reducible refine Below.alloc ?_ ?_ _) | (with_reducible refine Below.drew ?_) | (with_reducible refine Below.trans ?_ (Below.mono hb1 ?_)) | go_size)))
end Go.Proofs.Ytlfmffjlmhpcdaa

/- lists.Same, and the document's Same. -/
namespace Go.Proofs.Ytlfmffjlmhpcdaa
open Go.RowKit
set_option maxRecDepth 100000
attribute [local irreducible] Der

/-- Are lists the same? -/
def sameL (cs : List PV) (ms : List M) (cs' : List PV) (ms' : List M) : Bool := decide (cs.map (·.2) = cs'.map (·.2)) && decide (ms = ms')
def sameP (p q : PV) : Bool := decide (p.2 = q.2)
theorem all2_same : ∀ (l m : List PV), all2 sameP l m = decide (l.map (·.2) = m.map (·.2))
  | [], [] => rfl
  | x :: l, y :: m => by
    unfold all2
    rw [all2_same l m]
    unfold sameP
    by_cases h1 : x.2 = y.2 <;> by_cases h2 : l.map (·.2) = m.map (·.2) <;> simp [h1, h2]
  | [], y :: m => by simp [all2]
  | x :: l, [] => by simp [all2]
theorem vecSame_on (l m : List PV) (w : World) (hl : ∀ p ∈ l, VecV w p.1 p.2) (hm : ∀ p ∈ m, VecV w p.1 p.2) : RelOn 46 #[] argV argV sameP l m w := fun p hp q hq w' hb =>
  f_vecSame p.1 q.1 p.2 q.2 w' ((hl p hp).grown hb) ((hm q hq).grown hb)
theorem enters_vecSame : ∀ args w, (callFunc 46 args).run Try.prog w = .ok (.enter 46 args) w := enters_of Try.func46 (by kernel_rfl) rfl
set_option maxHeartbeats 1000000 in
theorem f_listsSame (vc vm uc um : Value) (cs cs' : List PV) (ms ms' : List M) (w : World) (hc : VecsV w vc cs) (hm : Masks w vm ms) (hc' : VecsV w uc cs') (hm' : Masks w um ms') :
    Calls Try.prog 13 #[.agg #[vc, vm], .agg #[uc, um]] w fun e w' => e = .returned (.bool (sameL cs ms cs' ms')) ∧ Below w.heap.size w w' := by
  obtain ⟨a, cap, rfl, -⟩ := hc.open
  obtain ⟨a', cap', rfl, -⟩ := hm.open
  obtain ⟨b, cbp, rfl, -⟩ := hc'.open
  obtain ⟨b', cbp', rfl, -⟩ := hm'.open
  have HV := Lib.hid (fun W (hb : Below w.heap.size w W) => hc.grown hb)
  have HM := Lib.hid (fun W (hb : Below w.heap.size w W) => hm.grown hb)
  have HV' := Lib.hid (fun W (hb : Below w.heap.size w W) => hc'.grown hb)
  have HM' := Lib.hid (fun W (hb : Below w.heap.size w W) => hm'.grown hb)
  clear hc hm hc' hm'
  have HA := Lib.hid (all2_same cs cs')
  cases h1 : decide (cs.map (·.2) = cs'.map (·.2))
  · have HE := Lib.hid (show sameL cs ms cs' ms' = false by unfold sameL; rw [h1]; rfl)
    rw [h1] at HA
    clear h1
    go_enter Try.func13, Try.ntmps13
    go_wp2_with fail
    refine (eqfV _ #[] enters_vecSame sameP _ _ cs cs' _ (HV.out _ (by ((repeat' (first | (with_reducible exact Below.refl _ _) | (with_reducible refine Below.setCell ?_ ?_ _) | (with_reducible refine Below.alloc ?_ ?_ _) | (with_reducible refine Below.drew ?_) | (with_reducible refine Below.trans ?_ (Below.mono (by assumption) ?_)) | go_size))))) (HV'.out _ (by ((repeat' (first | (with_reducible exact Below.refl _ _) | (with_reducible refine Below.setCell ?_ ?_ _) | (with_reducible refine Below.alloc ?_ ?_ _) | (with_reducible refine Below.drew ?_) | (with_reducible refine Below.trans ?_ (Below.mono (by assumption) ?_)) | go_size))))) (vecSame_on cs cs' _ (HV.out _ (by ((repeat' (first | (with_reducible exact Below.refl _ _) | (with_reducible refine Below.setCell ?_ ?_ _) | (with_reducible refine Below.alloc ?_ ?_ _) | (with_reducible refine Below.drew ?_) | (with_reducible refine Below.trans ?_ (Below.mono (by assumption) ?_)) | go_size))))).2 (HV'.out _ (by ((repeat' (first | (with_reducible exact Below.refl _ _) | (with_reducible refine Below.setCell ?_ ?_ _) | (with_reducible refine Below.alloc ?_ ?_ _) | (with_reducible refine Below.drew ?_) | (with_reducible refine Below.trans ?_ (Below.mono (by assumption) ?_)) | go_size))))).2)).mono ?_
    rintro e w1 ⟨rfl, hb1⟩
    rw [HA.out]
    go_wp2
    go_ret
    refine ⟨by rw [HE.out]; rfl, ?_⟩
    ((have shb1 := hb1.size); (try simp at shb1); (repeat' (first | (with_reducible exact Below.refl _ _) | (with_reducible refine Below.setCell ?_ ?_ _) | (with_reducible refine Below.alloc ?_ ?_ _) | (with_reducible refine Below.drew ?_) | (with_reducible refine Below.trans ?_ (Below.mono hb1 ?_)) | go_size)))
  · have HE := Lib.hid (show sameL cs ms cs' ms' = decide (ms = ms') by unfold sameL; rw [h1]; rfl)
    rw [h1] at HA
    clear h1
    go_enter Try.func13, Try.ntmps13
    go_wp2_with fail
    refine (eqfV _ #[] enters_vecSame sameP _ _ cs cs' _ (HV.out _ (by ((repeat' (first | (with_reducible exact Below.refl _ _) | (with_reducible refine Below.setCell ?_ ?_ _) | (with_reducible refine Below.alloc ?_ ?_ _) | (with_reducible refine Below.drew ?_) | (with_reducible refine Below.trans ?_ (Below.mono (by assumption) ?_)) | go_size))))) (HV'.out _ (by ((repeat' (first | (with_reducible exact Below.refl _ _) | (with_reducible refine Below.setCell ?_ ?_ _) | (with_reducible refine Below.alloc ?_ ?_ _) | (with_reducible refine Below.drew ?_) | (with_reducible refine Below.trans ?_ (Below.mono (by assumption) ?_)) | go_size))))) (vecSame_on cs cs' _ (HV.out _ (by ((repeat' (first | (with_reducible exact Below.refl _ _) | (with_reducible refine Below.setCell ?_ ?_ _) | (with_reducible refine Below.alloc ?_ ?_ _) | (with_reducible refine Below.drew ?_) | (with_reducible refine Below.trans ?_ (Below.mono (by assumption) ?_)) | go_size))))).2 (HV'.out _ (by ((repeat' (first | (with_reducible exact Below.refl _ _) | (with_reducible refine Below.setCell ?_ ?_ _) | (with_reducible refine Below.alloc ?_ ?_ _) | (with_reducible refine Below.drew ?_) | (with_reducible refine Below.trans ?_ (Below.mono (by assumption) ?_)) | go_size))))).2)).mono ?_
    rintro e w1 ⟨rfl, hb1⟩
    rw [HA.out]
    have z1w0 : w.heap.size < w1.heap.size := (by have := hb1.size; (try simp at this); omega)
    have q1w0 := fun o => hb1.cell (p := ⟨w.heap.size, o, none⟩) (by first | omega | (simp; done) | (simp; omega))
    have r1w0 := fun o => hb1.frozen (p := ⟨w.heap.size, o, none⟩) (by first | omega | (simp; done) | (simp; omega))
    have z1w1 : w.heap.size + 1 < w1.heap.size := (by have := hb1.size; (try simp at this); omega)
    have q1w1 := fun o => hb1.cell (p := ⟨w.heap.size + 1, o, none⟩) (by first | omega | (simp; done) | (simp; omega))
    have r1w1 := fun o => hb1.frozen (p := ⟨w.heap.size + 1, o, none⟩) (by first | omega | (simp; done) | (simp; omega))
    go_wp2_with fail
    refine (eqM _ _ ms ms' _ (HM.out _ (by ((have shb1 := hb1.size); (try simp at shb1); (repeat' (first | (with_reducible exact Below.refl _ _) | (with_reducible refine Below.setCell ?_ ?_ _) | (with_reducible refine Below.alloc ?_ ?_ _) | (with_reducible refine Below.drew ?_) | (with_reducible refine Below.trans ?_ (Below.mono hb1 ?_)) | go_size))))) (HM'.out _ (by ((have shb1 := hb1.size); (try simp at shb1); (repeat' (first | (with_reducible exact Below.refl _ _) | (with_reducible refine Below.setCell ?_ ?_ _) | (with_reducible refine Below.alloc ?_ ?_ _) | (with_reducible refine Below.drew ?_) | (with_reducible refine Below.trans ?_ (Below.mono hb1 ?_)) | go_size)))))).mono ?_
    rintro e w2 ⟨rfl, hb2⟩
    go_wp2
    go_ret
    refine ⟨by rw [HE.out]; rfl, ?_⟩
    ((have shb2 := hb2.size); (try simp at shb2); (have shb1 := hb1.size); (try simp at shb1); (repeat' (first | (with_reducible exact Below.refl _ _) | (with_reducible refine Below.setCell ?_ ?_ _) | (with_reducible refine Below.alloc ?_ ?_ _) | (with_reducible refine Below.drew ?_) | (with_reducible refine Below.trans ?_ (Below.mono hb2 ?_)) | (with_reducible refine Below.trans ?_ (Below.mono hb1 ?_)) | go_size)))
theorem pair_ne {x1 y1 x2 y2 : BitVec 64} (h : ¬ (x1 = y1 ∧ x2 = y2)) : (x1 == y1 && x2 == y2) = false := by
  cases h1 : x1 == y1 <;> cases h2 : x2 == y2 <;> simp_all
theorem vals_at {l m : List PV} {k : Nat} (h : k < l.length) (h' : k < m.length) (he : ¬ l[k].2 = m[k].2) : decide (l.map (·.2) = m.map (·.2)) = false :=
  decide_eq_false fun e => he (by
    have := congrArg (fun x : List (List Int) => x[k]?) e
    simp only [List.getElem?_map, List.getElem?_eq_getElem h, List.getElem?_eq_getElem h', Option.map_some, Option.some.injEq] at this
    exact this)
theorem vals_all {l m : List PV} (hl : l.length = m.length) (h : ∀ k (h : k < l.length) (h' : k < m.length), l[k].2 = m[k].2) : decide (l.map (·.2) = m.map (·.2)) = true :=
  decide_eq_true (List.ext_getElem (by simp [hl]) fun k h1 h2 => by
    simp only [List.length_map] at h1 h2
    simp only [List.getElem_map]
    exact h k h1 h2)
set_option maxHeartbeats 4000000 in
theorem r13Same (vc vm uc um : Value) (cs cs' : List PV) (ms ms' : List M) (w : World) (hc : VecsV w vc cs) (hm : Masks w vm ms) (hc' : VecsV w uc cs') (hm' : Masks w um ms') :
    Calls Try.prog 14 #[.agg #[vc, vm], .agg #[uc, um]] w fun e w' => e = .returned (.bool (sameL cs ms cs' ms')) ∧ Below w.heap.size w w' := by
  obtain ⟨a, cap, rfl, hl1, hm1, hcell⟩ := hc.open
  obtain ⟨a', cap', rfl, hl2, hm2, hcell'⟩ := hm.open
  obtain ⟨b, cbp, rfl, hl3, hm3, kcell⟩ := hc'.open
  obtain ⟨b', cbp', rfl, hl4, hm4, kcell'⟩ := hm'.open
  have HV := Lib.hid (fun W (hb : Below w.heap.size w W) => hc.grown hb)
  have HV' := Lib.hid (fun W (hb : Below w.heap.size w W) => hc'.grown hb)
  have H1 := Lib.hid hcell
  have H2 := Lib.hid hcell'
  have H3 := Lib.hid kcell
  have H4 := Lib.hid kcell'
  clear hc hm hc' hm' hcell hcell' kcell kcell'
  by_cases h1 : cs.length = cs'.length
  · by_cases h2 : ms.length = ms'.length
    · have HL1 := Lib.hid h1
      have HL2 := Lib.hid h2
      have HN1 := Lib.hid (fun k h h' he => vals_at (l := cs) (m := cs') (k := k) h h' he)
      have HA1 := Lib.hid (fun h => vals_all (l := cs) (m := cs') h1 h)
      have HT := Lib.hid (fun h => eq_of_take (l := ms) (m := ms') h2 h)
      have HS := Lib.hid (fun (k : Nat) (h : k < ms.length) (h' : k < ms'.length) (ht : ms.take k = ms'.take k) (he : ms[k] = ms'[k]) => takeq_succ h h' ht he)
      have HNE := Lib.hid (fun (k : Nat) (h : k < ms.length) (h' : k < ms'.length) (he : ¬ ms[k] = ms'[k]) => takeq_ne h h' he)
      rw [← h1] at hl3 ⊢
      rw [← h2] at hl4 ⊢
      clear h1 h2
      go_enter Try.func14, Try.ntmps14
      go_wp2
      go_loopw [5] (fun i wr => ∃ k : Nat, k ≤ cs.length ∧ i = .int .i64 k ∧ (∀ j, j < k → ∀ (h : j < cs.length) (h' : j < cs'.length), cs[j].2 = cs'[j].2) ∧ Below (w.heap.size + 2) ((w.alloc (.cells #[.slice a cs.length cap, .slice a' ms.length cap'] 25)).alloc (.cells #[.slice b cs.length cbp, .slice b' ms.length cbp'] 25)) wr ∧ w.heap.size + 2 ≤ wr.heap.size) (fun i _ => cs.length - (intOf i).toNat)
      case atStart => exact ⟨0, Nat.zero_le _, rfl, fun j hj => absurd hj (Nat.not_lt_zero _), Below.refl _ _, by simp⟩
      case round =>
        obtain ⟨k, hk, rfl, htk, hbr, hsz⟩ := hrel
        have HK := Lib.hid htk
        clear htk
        have hB : Below w.heap.size w wr := by ((have shbr := hbr.size); (try simp at shbr); (repeat' (first | (with_reducible exact Below.refl _ _) | (with_reducible refine Below.setCell ?_ ?_ _) | (with_reducible refine Below.alloc ?_ ?_ _) | (with_reducible refine Below.drew ?_) | (with_reducible refine Below.trans ?_ (Below.mono hbr ?_)) | go_size)))
        have z0 : w.heap.size < wr.heap.size := by omega
        have z1 : w.heap.size + 1 < wr.heap.size := by omega
        have t0 : wr.cell? ⟨w.heap.size, 0, none⟩ = some (.slice a cs.length cap) := (hbr.cell (p := ⟨w.heap.size, 0, none⟩) (by simp)).trans (by go_simp)
        have t1 : wr.cell? ⟨w.heap.size, 1, none⟩ = some (.slice a' ms.length cap') := (hbr.cell (p := ⟨w.heap.size, 1, none⟩) (by simp)).trans (by go_simp)
        have t2 : wr.cell? ⟨w.heap.size + 1, 0, none⟩ = some (.slice b cs.length cbp) := (hbr.cell (p := ⟨w.heap.size + 1, 0, none⟩) (by simp)).trans (by go_simp)
        have t3 : wr.cell? ⟨w.heap.size + 1, 1, none⟩ = some (.slice b' ms.length cbp') := (hbr.cell (p := ⟨w.heap.size + 1, 1, none⟩) (by simp)).trans (by go_simp)
        by_cases hlt2 : k < cs.length
        · have hm2' : k < cs'.length := by rw [← HL1.out]; exact hlt2
          obtain ⟨g, off, rfl, hlt, g1⟩ := H1.out k hlt2
          obtain ⟨g', off', rfl, hlt', g2⟩ := H3.out k hm2'
          have e1 := (hB.cell (p := ⟨g, off + k, none⟩) hlt).trans g1
          have e2 := (hB.cell (p := ⟨g', off' + k, none⟩) hlt').trans g2
          have HX1 := Lib.hid ((HV.out wr hB).2 cs[k] (List.getElem_mem hlt2))
          have HX2 := Lib.hid ((HV'.out wr hB).2 cs'[k] (List.getElem_mem hm2'))
          have HNk := Lib.hid (HN1.out k hlt2 hm2')
          have HKk := Lib.hid (fun (he : cs[k].2 = cs'[k].2) (j : Nat) (hj : j < k + 1) (h : j < cs.length) (h' : j < cs'.length) => (show cs[j].2 = cs'[j].2 by
            rcases Nat.lt_or_ge j k with hjk | hjk
            · exact HK.out j hjk h h'
            · have : j = k := by omega
              subst this; exact he))
          have zg : g < wr.heap.size := by omega
          have zg' : g' < wr.heap.size := by omega
          clear g1 g2
          generalize cs[k] = p at *
          generalize cs'[k] = q at *
          clear hm2'
          obtain ⟨s, hs⟩ : ∃ s, decide (p.2 = q.2) = s := ⟨_, rfl⟩
          have HSs := Lib.hid hs
          clear hs
          obtain ⟨wz, hwz⟩ : ∃ wz, wz = wr := ⟨_, rfl⟩
          subst hwz
          go_wp2
          refine wp_grow [(10, .val (.bool s))] 12 (by kernel_rfl) (by kernel_rfl) (by rfl) (by rfl) ?_
          simp only [List.take_succ_cons, List.take_zero, List.drop_succ_cons, List.drop_zero]
          repeat (first
            | (apply Der.quiet; (rfl); (rfl); (intro w' hw' hctx; have hc' := bcell hw'; have yw0 := fun o => hw'.cell (p := ⟨w.heap.size, o, none⟩) (by first | omega | (simp; done) | (simp; omega)); have yw1 := fun o => hw'.cell (p := ⟨w.heap.size + 1, o, none⟩) (by first | omega | (simp; done) | (simp; omega)); have y1 := fun o => hw'.cell (p := ⟨g, o, none⟩) (by simp; omega); have y2 := fun o => hw'.cell (p := ⟨g', o, none⟩) (by simp; omega); clear hctx; go_simp; first | exact rfl | exact ⟨rfl, rfl⟩); simp only [Act.put, List.setIfInBounds_toArray, List.set_cons_succ, List.set_cons_zero, Nat.reduceAdd])
            | (apply Der.skip; (rfl); simp only [Act.put, List.setIfInBounds_toArray, List.set_cons_succ, List.set_cons_zero, Nat.reduceAdd]))
          apply Der.val
          · rfl
          · rfl
          · (intro w' hw' hctx; go_simp; refine (r5Same _ _ p.2 q.2 _ (HX1.out.grown (undrew hw')) (HX2.out.grown (undrew hw'))).mono ?_; rintro e w2 ⟨rfl, hb⟩; exact ⟨_, rfl, congrArg Value.bool HSs.out, hb⟩)
          simp only [Act.put, List.setIfInBounds_toArray, List.set_cons_succ, List.set_cons_zero, Nat.reduceAdd]
          repeat (first
            | (apply Der.quiet; (rfl); (rfl); (intro w' hw' hctx; have hc' := bcell hw'; have yw0 := fun o => hw'.cell (p := ⟨w.heap.size, o, none⟩) (by first | omega | (simp; done) | (simp; omega)); have yw1 := fun o => hw'.cell (p := ⟨w.heap.size + 1, o, none⟩) (by first | omega | (simp; done) | (simp; omega)); clear hctx; go_simp; first | exact rfl | exact ⟨rfl, rfl⟩); simp only [Act.put, List.setIfInBounds_toArray, List.set_cons_succ, List.set_cons_zero, Nat.reduceAdd])
            | (apply Der.skip; (rfl); simp only [Act.put, List.setIfInBounds_toArray, List.set_cons_succ, List.set_cons_zero, Nat.reduceAdd]))
          refine Der.nil (fun w2 hgw2 hctx => ?_)
          clear hctx
          have hb2 : Below _ _ w2 := hgw2
          clear hgw2
          cases s
          · have HE := Lib.hid (show sameL cs ms cs' ms' = false by unfold sameL; rw [HNk.out (of_decide_eq_false HSs.out)]; rfl)
            go_wp2
            go_ret
            refine ⟨by rw [HE.out]; rfl, by ((have shb2 := hb2.size); (try simp at shb2); (have shB := hB.size); (try simp at shB); (repeat' (first | (with_reducible exact Below.refl _ _) | (with_reducible refine Below.setCell ?_ ?_ _) | (with_reducible refine Below.alloc ?_ ?_ _) | (with_reducible refine Below.drew ?_) | (with_reducible refine Below.trans ?_ (Below.mono hb2 ?_)) | (with_reducible refine Below.trans ?_ (Below.mono hB ?_)) | go_size)))⟩
          · have HE := Lib.hid (HKk.out (of_decide_eq_true HSs.out))
            go_wp2
            go_roundw
            case rel => exact ⟨k + 1, by omega, by go_num, HE.out, by ((have shb2 := hb2.size); (try simp at shb2); (have shbr := hbr.size); (try simp at shbr); (repeat' (first | (with_reducible exact Below.refl _ _) | (with_reducible refine Below.setCell ?_ ?_ _) | (with_reducible refine Below.alloc ?_ ?_ _) | (with_reducible refine Below.drew ?_) | (with_reducible refine Below.trans ?_ (Below.mono hb2 ?_)) | (with_reducible refine Below.trans ?_ (Below.mono hbr ?_)) | go_size))), by have := hb2.size; simp at this; omega⟩
            case measure => simp [intOf]; omega
        · have : k = cs.length := by omega
          subst this
          have HE := Lib.hid (show sameL cs ms cs' ms' = decide (ms = ms') by unfold sameL; rw [HA1.out (fun j h h' => HK.out j h h h')]; rfl)
          obtain ⟨wo, hwo⟩ : ∃ wo, wo = wr := ⟨_, rfl⟩
          subst hwo
          go_wp2
          go_loopw [6] (fun i wr => ∃ k : Nat, k ≤ ms.length ∧ i = .int .i64 k ∧ ms.take k = ms'.take k ∧ Below wo.heap.size wo wr) (fun i _ => ms.length - (intOf i).toNat)
          case atStart => exact ⟨0, Nat.zero_le _, rfl, rfl, Below.refl _ _⟩
          case round =>
            obtain ⟨j, hj, rfl, htj, hbj⟩ := hrel
            have HJ := Lib.hid htj
            clear htj
            have hsj := hbj.size
            have hBj : Below w.heap.size w wr := by ((have shbj := hbj.size); (try simp at shbj); (have shB := hB.size); (try simp at shB); (repeat' (first | (with_reducible exact Below.refl _ _) | (with_reducible refine Below.setCell ?_ ?_ _) | (with_reducible refine Below.alloc ?_ ?_ _) | (with_reducible refine Below.drew ?_) | (with_reducible refine Below.trans ?_ (Below.mono hbj ?_)) | (with_reducible refine Below.trans ?_ (Below.mono hB ?_)) | go_size)))
            have u1 := (hbj.cell (p := ⟨w.heap.size, 1, none⟩) z0).trans t1
            have u3 := (hbj.cell (p := ⟨w.heap.size + 1, 1, none⟩) z1).trans t3
            by_cases hlt3 : j < ms.length
            · have hl3' : j < ms.length := hlt3
              have hm3' : j < ms'.length := by rw [← HL2.out]; exact hlt3
              have HX := Lib.hid (HS.out j hl3' hm3' HJ.out)
              have HY := Lib.hid (HNE.out j hl3' hm3')
              obtain ⟨g, off, rfl, hlt, g1, g2⟩ := H2.out j hl3'
              obtain ⟨g', off', rfl, hlt', k1, k2⟩ := H4.out j hm3'
              have e1 := (hBj.cell (p := ⟨g, off + j * 2, none⟩) hlt).trans g1
              have e2 := (hBj.cell (p := ⟨g', off' + j * 2, none⟩) hlt').trans k1
              have e3 := (hBj.cell (p := ⟨g, off + j * 2 + 1, none⟩) hlt).trans g2
              have e4 := (hBj.cell (p := ⟨g', off' + j * 2 + 1, none⟩) hlt').trans k2
              have zg : g < wr.heap.size := by omega
              have zg' : g' < wr.heap.size := by omega
              have zw : w.heap.size < wr.heap.size := by omega
              have zw' : w.heap.size + 1 < wr.heap.size := by omega
              clear g1 g2 k1 k2 t0 t1 t2 t3
              generalize ms[j] = x at *
              generalize ms'[j] = y at *
              clear hm3'
              obtain ⟨x1, x2⟩ := x
              obtain ⟨y1, y2⟩ := y
              obtain ⟨wz, hwz⟩ : ∃ wz, wz = wr := ⟨_, rfl⟩
              subst hwz
              by_cases hxy : x1 = y1 ∧ x2 = y2
              · have HX2 := Lib.hid (HX.out (by rw [hxy.1, hxy.2]))
                obtain ⟨rfl, rfl⟩ := hxy
                go_wp2
                refine wp_grow [] 11 (by kernel_rfl) (by kernel_rfl) (by rfl) (by rfl) ?_
                simp only [List.take_succ_cons, List.take_zero, List.drop_succ_cons, List.drop_zero]
                repeat (first
                  | (apply Der.quiet; (rfl); (rfl); (intro w' hw' hctx; have hc' := bcell hw'; have yw0 := fun o => hw'.cell (p := ⟨w.heap.size, o, none⟩) (by first | omega | (simp; done) | (simp; omega)); have yw1 := fun o => hw'.cell (p := ⟨w.heap.size + 1, o, none⟩) (by first | omega | (simp; done) | (simp; omega)); have y1 := fun o => hw'.cell (p := ⟨g, o, none⟩) (by simp; omega); have y2 := fun o => hw'.cell (p := ⟨g', o, none⟩) (by simp; omega); clear hctx; go_simp; first | exact rfl | exact ⟨rfl, rfl⟩); simp only [Act.put, List.setIfInBounds_toArray, List.set_cons_succ, List.set_cons_zero, Nat.reduceAdd])
                  | (apply Der.skip; (rfl); simp only [Act.put, List.setIfInBounds_toArray, List.set_cons_succ, List.set_cons_zero, Nat.reduceAdd]))
                refine Der.nil (fun w2 hgw2 hctx => ?_)
                clear hctx
                have hb2 : Below _ _ w2 := hgw2
                clear hgw2
                go_wp2
                go_roundw
                case rel => exact ⟨j + 1, by omega, by go_num, HX2.out, by ((have shb2 := hb2.size); (try simp at shb2); (have shbj := hbj.size); (try simp at shbj); (repeat' (first | (with_reducible exact Below.refl _ _) | (with_reducible refine Below.setCell ?_ ?_ _) | (with_reducible refine Below.alloc ?_ ?_ _) | (with_reducible refine Below.drew ?_) | (with_reducible refine Below.trans ?_ (Below.mono hb2 ?_)) | (with_reducible refine Below.trans ?_ (Below.mono hbj ?_)) | go_size)))⟩
                case measure => simp [intOf]; omega
              · have HY2 := Lib.hid (HY.out (fun e => hxy ⟨congrArg Prod.fst e, congrArg Prod.snd e⟩))
                have hxb := pair_ne hxy
                clear hxy
                go_wp2
                refine wp_grow [] 11 (by kernel_rfl) (by kernel_rfl) (by rfl) (by rfl) ?_
                simp only [List.take_succ_cons, List.take_zero, List.drop_succ_cons, List.drop_zero]
                repeat (first
                  | (apply Der.quiet; (rfl); (rfl); (intro w' hw' hctx; have hc' := bcell hw'; have yw0 := fun o => hw'.cell (p := ⟨w.heap.size, o, none⟩) (by first | omega | (simp; done) | (simp; omega)); have yw1 := fun o => hw'.cell (p := ⟨w.heap.size + 1, o, none⟩) (by first | omega | (simp; done) | (simp; omega)); have y1 := fun o => hw'.cell (p := ⟨g, o, none⟩) (by simp; omega); have y2 := fun o => hw'.cell (p := ⟨g', o, none⟩) (by simp; omega); clear hctx; go_simp; first | exact rfl | exact ⟨rfl, rfl⟩); simp only [Act.put, List.setIfInBounds_toArray, List.set_cons_succ, List.set_cons_zero, Nat.reduceAdd])
                  | (apply Der.skip; (rfl); simp only [Act.put, List.setIfInBounds_toArray, List.set_cons_succ, List.set_cons_zero, Nat.reduceAdd]))
                refine Der.nil (fun w2 hgw2 hctx => ?_)
                clear hctx
                have hb2 : Below _ _ w2 := hgw2
                clear hgw2
                go_wp2
                go_ret
                refine ⟨?_, by ((have shb2 := hb2.size); (try simp at shb2); (have shBj := hBj.size); (try simp at shBj); (repeat' (first | (with_reducible exact Below.refl _ _) | (with_reducible refine Below.setCell ?_ ?_ _) | (with_reducible refine Below.alloc ?_ ?_ _) | (with_reducible refine Below.drew ?_) | (with_reducible refine Below.trans ?_ (Below.mono hb2 ?_)) | (with_reducible refine Below.trans ?_ (Below.mono hBj ?_)) | go_size)))⟩
                rw [HE.out, HY2.out]; rfl
            · have : j = ms.length := by omega
              subst this
              have HT2 := Lib.hid (HT.out HJ.out)
              go_wp2
              go_ret
              exact ⟨by rw [HE.out, HT2.out]; rfl, hBj⟩
    · have HE := Lib.hid (show sameL cs ms cs' ms' = false by unfold sameL; rw [decide_eq_false (show ¬ ms = ms' from fun e => h2 (by rw [e])), Bool.and_false])
      have hn1 : ((cs.length : Int) != (cs'.length : Int)) = false := by rw [h1]; exact bne_self_eq_false _
      have hn : ((ms.length : Int) != (ms'.length : Int)) = true := bne_iff_ne.2 (by omega)
      clear h1 h2
      go_enter Try.func14, Try.ntmps14
      go_wp2
      go_ret
      exact ⟨by rw [HE.out]; rfl, by ((repeat' (first | (with_reducible exact Below.refl _ _) | (with_reducible refine Below.setCell ?_ ?_ _) | (with_reducible refine Below.alloc ?_ ?_ _) | (with_reducible refine Below.drew ?_) | (with_reducible refine Below.trans ?_ (Below.mono (by assumption) ?_)) | go_size)))⟩
  · have HE := Lib.hid (show sameL cs ms cs' ms' = false by
      unfold sameL
      rw [decide_eq_false (show ¬ cs.map (·.2) = cs'.map (·.2) from fun e => h1 (by have := congrArg List.length e; simpa using this))]; rfl)
    have hn1 : ((cs.length : Int) != (cs'.length : Int)) = true := by simp; omega
    clear h1
    go_enter Try.func14, Try.ntmps14
    go_wp2
    go_ret
    exact ⟨by rw [HE.out]; rfl, by ((repeat' (first | (with_reducible exact Below.refl _ _) | (with_reducible refine Below.setCell ?_ ?_ _) | (with_reducible refine Below.alloc ?_ ?_ _) | (with_reducible refine Below.drew ?_) | (with_reducible refine Below.trans ?_ (Below.mono (by assumption) ?_)) | go_size)))⟩
end Go.Proofs.Ytlfmffjlmhpcdaa
