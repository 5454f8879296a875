/- quiverref13.Where, and the guards of the claims. -/
import Derived.Test.YtlfmffjlmhpcdaaRightL
namespace Go.Proofs.Ytlfmffjlmhpcdaa
open Go.RowKit
set_option maxRecDepth 100000
attribute [local irreducible] Der

/-- The place of the first mask that has a slot, or -1. -/
def firstM (ms : List M) (q : Int) : Int := match haveL ms q ms.length with | [] => -1 | i :: _ => (i : Int)
theorem firstM_hit {ms : List M} {q : Int} {k : Nat} (hk : k < ms.length) (h0 : haveL ms q k = []) (h : hasN (mAt ms k) q = true) : firstM ms q = k := by
  have h1 := haveL_hit h
  rw [h0, List.nil_append] at h1
  obtain ⟨t, ht⟩ := haveL_pre (ms := ms) (n := q) (k := k + 1) (j := ms.length) (by omega)
  unfold firstM
  rw [← ht, h1]; rfl
theorem firstM_none {ms : List M} {q : Int} (h0 : haveL ms q ms.length = []) : firstM ms q = -1 := by unfold firstM; rw [h0]
theorem where_first {cs : List PV} {ms : List M} {q : Int} (h : listsOK cs ms = true) : whereF cs ms q = ((if firstM ms q < 0 then 0 else firstM ms q), decide (0 ≤ firstM ms q)) := by
  unfold whereF firstM
  rw [if_pos h]
  cases haveL ms q ms.length with
  | nil => rfl
  | cons i t =>
    have h0 : ¬ ((i : Int) < 0) := by omega
    simp only [h0, if_false]
    rw [decide_eq_true (by omega)]
theorem where_bad {cs : List PV} {ms : List M} {q : Int} (h : listsOK cs ms = false) : whereF cs ms q = (0, false) := by unfold whereF; rw [h]; rfl
set_option maxHeartbeats 2000000 in
theorem r13Where (vc vm : Value) (cs : List PV) (ms : List M) (q : Int) (w : World) (hc : VecsV w vc cs) (hm : Masks w vm ms) : Calls Try.prog 16 #[.agg #[vc, vm], .int .i64 q] w fun e w' => e = .returned (.int .i64 (firstM ms q)) ∧ Below w.heap.size w w' := by
  obtain ⟨a, cap, rfl, -⟩ := hc.open
  obtain ⟨a', cap', rfl, hl2, hm2, hcell⟩ := hm.open
  have Hc := Lib.hid hcell
  have HF := Lib.hid (fun (k : Nat) (hk : k < ms.length) h0 h => firstM_hit (q := q) hk h0 h)
  have HN := Lib.hid (fun h0 => firstM_none (ms := ms) (q := q) h0)
  have HMi := Lib.hid (fun (k : Nat) h => haveL_miss (ms := ms) (n := q) (k := k) h)
  clear hc hcell hm
  go_enter Try.func16, Try.ntmps16
  go_wp2
  go_loopw [5] (fun i wr => ∃ k : Nat, k ≤ ms.length ∧ i = .int .i64 k ∧ haveL ms q k = [] ∧ Below (w.heap.size + 1) (w.alloc (.cells #[.slice a cs.length cap, .slice a' ms.length cap'] 25)) wr) (fun i _ => ms.length - (intOf i).toNat)
  case atStart => exact ⟨0, Nat.zero_le _, rfl, rfl, by ((repeat' (first | (with_reducible exact Below.refl _ _) | (with_reducible refine Below.setCell ?_ ?_ _) | (with_reducible refine Below.alloc ?_ ?_ _) | (with_reducible refine Below.drew ?_) | (with_reducible refine Below.trans ?_ (Below.mono (by assumption) ?_)) | go_size)))⟩
  case round =>
    obtain ⟨k, hk, rfl, hno, hbr⟩ := hrel
    have HK := Lib.hid hno
    clear hno
    have hBr : Below w.heap.size w wr := by ((have shbr := hbr.size); (try simp at shbr); (repeat' (first | (with_reducible exact Below.refl _ _) | (with_reducible refine Below.setCell ?_ ?_ _) | (with_reducible refine Below.alloc ?_ ?_ _) | (with_reducible refine Below.drew ?_) | (with_reducible refine Below.trans ?_ (Below.mono hbr ?_)) | go_size)))
    have hsz := hbr.size
    simp at hsz
    have zr : w.heap.size < wr.heap.size := by omega
    have d1 : wr.cell? ⟨w.heap.size, 1, none⟩ = some (.slice a' ms.length cap') := (hbr.cell (p := ⟨w.heap.size, 1, none⟩) (by simp)).trans (by go_simp)
    by_cases hlt2 : k < ms.length
    · obtain ⟨b, off, rfl, hlt, g1, g2⟩ := Hc.out k hlt2
      have e1 := (hBr.cell (p := ⟨b, off + k * 2, none⟩) hlt).trans g1
      have e2 := (hBr.cell (p := ⟨b, off + k * 2 + 1, none⟩) hlt).trans g2
      have HH := HF.out k hlt2 HK.out
      have HM := HMi.out k
      rw [mAt_get hlt2] at HH HM
      have HH := Lib.hid HH
      have HM := Lib.hid HM
      clear g1 g2
      generalize ms[k] = y at *
      obtain ⟨y1, y2⟩ := y
      simp only at e1 e2
      go_wp2_with fail
      refine (r_Has_any y1 y2 q _).mono ?_
      rintro e w2 ⟨rfl, hb2⟩
      obtain ⟨s, hs⟩ : ∃ s, hasN (y1, y2) q = s := ⟨_, rfl⟩
      rw [hs] at HH HM ⊢
      clear hs
      cases s
      · have HX := Lib.hid ((HM.out rfl).trans HK.out)
        go_wp2
        go_roundw
        case rel => exact ⟨k + 1, by omega, by go_num, HX.out, by ((have shb2 := hb2.size); (try simp at shb2); (have shbr := hbr.size); (try simp at shbr); (repeat' (first | (with_reducible exact Below.refl _ _) | (with_reducible refine Below.setCell ?_ ?_ _) | (with_reducible refine Below.alloc ?_ ?_ _) | (with_reducible refine Below.drew ?_) | (with_reducible refine Below.trans ?_ (Below.mono hb2 ?_)) | (with_reducible refine Below.trans ?_ (Below.mono hbr ?_)) | go_size)))⟩
        case measure => simp [intOf]; omega
      · have HX := Lib.hid (HH.out rfl)
        go_wp2
        go_ret
        exact ⟨by rw [HX.out]; rfl, by ((have shb2 := hb2.size); (try simp at shb2); (have shBr := hBr.size); (try simp at shBr); (repeat' (first | (with_reducible exact Below.refl _ _) | (with_reducible refine Below.setCell ?_ ?_ _) | (with_reducible refine Below.alloc ?_ ?_ _) | (with_reducible refine Below.drew ?_) | (with_reducible refine Below.trans ?_ (Below.mono hb2 ?_)) | (with_reducible refine Below.trans ?_ (Below.mono hBr ?_)) | go_size)))⟩
    · have : k = ms.length := by omega
      subst this
      have HX := Lib.hid (HN.out HK.out)
      go_wp2
      go_ret
      exact ⟨by rw [HX.out]; rfl, hBr⟩
/-- Are these too many, or is one of them too long, for a claim? -/
def overV (cs : List PV) : Bool := decide (20 < cs.length) || cs.any fun p => decide (50 < p.2.length)
def overL (cs : List PV) (ms : List M) : Bool := overV cs || decide (20 < ms.length)
theorem overV_hit {cs : List PV} {k : Nat} (h : k < cs.length) (hh : 50 < cs[k].2.length) : overV cs = true := by
  unfold overV
  rw [Bool.or_eq_true]
  exact .inr (List.any_eq_true.2 ⟨cs[k], List.getElem_mem h, decide_eq_true hh⟩)
theorem overV_none {cs : List PV} (h0 : ¬ 20 < cs.length) (h : ∀ k (hk : k < cs.length), ¬ 50 < cs[k].2.length) : overV cs = false := by
  unfold overV
  rw [decide_eq_false h0, Bool.false_or]
  cases ha : cs.any fun p => decide (50 < p.2.length)
  · rfl
  · obtain ⟨p, hp, hq⟩ := List.any_eq_true.1 ha
    obtain ⟨k, hk, rfl⟩ := List.mem_iff_getElem.1 hp
    exact absurd (of_decide_eq_true hq) (h k hk)
set_option maxHeartbeats 2000000 in
theorem l13_overVecs (vc : Value) (cs : List PV) (w : World) (hc : VecsV w vc cs) : Calls Try.prog 18 #[vc] w fun e w' => e = .returned (.bool (overV cs)) ∧ Below w.heap.size w w' := by
  obtain ⟨a, cap, rfl, hl1, hm1, hcell⟩ := hc.open
  have Hc := Lib.hid hcell
  have HV := Lib.hid (fun k (hk : k < cs.length) => (hc.2 cs[k] (List.getElem_mem hk)).form)
  have HH := Lib.hid (fun k (hk : k < cs.length) hh => overV_hit (cs := cs) hk hh)
  clear hc hcell
  by_cases h20 : 20 < cs.length
  · have HE := Lib.hid (show overV cs = true by unfold overV; rw [decide_eq_true h20]; rfl)
    go_enter Try.func18, Try.ntmps18
    go_wp2
    go_ret
    exact ⟨by rw [HE.out]; rfl, by ((repeat' (first | (with_reducible exact Below.refl _ _) | (with_reducible refine Below.setCell ?_ ?_ _) | (with_reducible refine Below.alloc ?_ ?_ _) | (with_reducible refine Below.drew ?_) | (with_reducible refine Below.trans ?_ (Below.mono (by assumption) ?_)) | go_size)))⟩
  · have HE := Lib.hid (fun h => overV_none (cs := cs) h20 h)
    go_enter Try.func18, Try.ntmps18
    go_wp2
    go_loopw [10] (fun i wr => ∃ k : Nat, k ≤ cs.length ∧ i = .int .i64 k ∧ (∀ j (hj : j < cs.length), j < k → ¬ 50 < cs[j].2.length) ∧ Below w.heap.size w wr) (fun i _ => cs.length - (intOf i).toNat)
    case atStart => exact ⟨0, Nat.zero_le _, rfl, fun j _ hj => absurd hj (Nat.not_lt_zero _), by ((repeat' (first | (with_reducible exact Below.refl _ _) | (with_reducible refine Below.setCell ?_ ?_ _) | (with_reducible refine Below.alloc ?_ ?_ _) | (with_reducible refine Below.drew ?_) | (with_reducible refine Below.trans ?_ (Below.mono (by assumption) ?_)) | go_size)))⟩
    case round =>
      obtain ⟨k, hk, rfl, hno, hbr⟩ := hrel
      have HK := Lib.hid hno
      clear hno
      by_cases hlt2 : k < cs.length
      · obtain ⟨b, off, rfl, hlt, g1⟩ := Hc.out k hlt2
        have e1 := (hbr.cell (p := ⟨b, off + k, none⟩) hlt).trans g1
        obtain ⟨u, c', hu, -⟩ := HV.out k hlt2
        rw [hu] at e1
        have HHk := Lib.hid (HH.out k hlt2)
        have HS := Lib.hid (fun (h0 : ¬ 50 < cs[k].2.length) j (hj : j < cs.length) (hjk : j < k + 1) => (show ¬ 50 < cs[j].2.length from by
          rcases Nat.lt_or_ge j k with h | h
          · exact HK.out j hj h
          · have : j = k := by omega
            subst this; exact h0))
        clear g1 hu
        obtain ⟨n, hn⟩ : ∃ n, cs[k].2.length = n := ⟨_, rfl⟩
        rw [hn] at HHk HS e1
        clear hn
        by_cases h50 : 50 < n
        · have HX := Lib.hid (HHk.out h50)
          go_wp2
          go_ret
          exact ⟨by rw [HX.out]; rfl, by ((have shbr := hbr.size); (try simp at shbr); (repeat' (first | (with_reducible exact Below.refl _ _) | (with_reducible refine Below.setCell ?_ ?_ _) | (with_reducible refine Below.alloc ?_ ?_ _) | (with_reducible refine Below.drew ?_) | (with_reducible refine Below.trans ?_ (Below.mono hbr ?_)) | go_size)))⟩
        · have HX := Lib.hid (HS.out h50)
          go_wp2
          go_roundw
          case rel => exact ⟨k + 1, by omega, by go_num, HX.out, by ((have shbr := hbr.size); (try simp at shbr); (repeat' (first | (with_reducible exact Below.refl _ _) | (with_reducible refine Below.setCell ?_ ?_ _) | (with_reducible refine Below.alloc ?_ ?_ _) | (with_reducible refine Below.drew ?_) | (with_reducible refine Below.trans ?_ (Below.mono hbr ?_)) | go_size)))⟩
          case measure => simp [intOf]; omega
      · have : k = cs.length := by omega
        subst this
        have HX := Lib.hid (HE.out (fun j hj => HK.out j hj hj))
        go_wp2
        go_ret
        exact ⟨by rw [HX.out]; rfl, hbr⟩
theorem l13_over (vc vm : Value) (cs : List PV) (ms : List M) (w : World) (hc : VecsV w vc cs) (hm : Masks w vm ms) : Calls Try.prog 10 #[.agg #[vc, vm]] w fun e w' => e = .returned (.bool (overL cs ms)) ∧ Below w.heap.size w w' := by
  obtain ⟨a, cap, rfl, -⟩ := hc.open
  obtain ⟨a', cap', rfl, hl2, hm2, -⟩ := hm.open
  have HV := Lib.hid (fun W (hb : Below w.heap.size w W) => hc.grown hb)
  clear hc hm
  obtain ⟨q, hq⟩ : ∃ q, overV cs = q := ⟨_, rfl⟩
  have HQ := Lib.hid hq
  have HE := Lib.hid (show overL cs ms = (q || decide (20 < ms.length)) by unfold overL; rw [hq])
  clear hq
  go_enter Try.func10, Try.ntmps10
  go_wp2_with fail
  refine (l13_overVecs _ cs _ (HV.out _ (by ((repeat' (first | (with_reducible exact Below.refl _ _) | (with_reducible refine Below.setCell ?_ ?_ _) | (with_reducible refine Below.alloc ?_ ?_ _) | (with_reducible refine Below.drew ?_) | (with_reducible refine Below.trans ?_ (Below.mono (by assumption) ?_)) | go_size)))))).mono ?_
  rintro e w1 ⟨rfl, hb1⟩
  rw [HQ.out]
  have z1w0 : w.heap.size < w1.heap.size := (by have := hb1.size; (try simp at this); omega)
  have q1w0 := fun o => hb1.cell (p := ⟨w.heap.size, o, none⟩) (by first | omega | (simp; done) | (simp; omega))
  have r1w0 := fun o => hb1.frozen (p := ⟨w.heap.size, o, none⟩) (by first | omega | (simp; done) | (simp; omega))
  cases q
  · by_cases h : 20 < ms.length
    · have HX := Lib.hid (show overL cs ms = true by rw [HE.out, decide_eq_true h]; rfl)
      go_wp2
      go_ret
      exact ⟨(congrArg (fun b => Ending.returned (Value.bool b)) (decide_eq_true (by omega : (20 : Int) < (ms.length : Int)))).trans (by rw [HX.out]), by ((have shb1 := hb1.size); (try simp at shb1); (repeat' (first | (with_reducible exact Below.refl _ _) | (with_reducible refine Below.setCell ?_ ?_ _) | (with_reducible refine Below.alloc ?_ ?_ _) | (with_reducible refine Below.drew ?_) | (with_reducible refine Below.trans ?_ (Below.mono hb1 ?_)) | go_size)))⟩
    · have HX := Lib.hid (show overL cs ms = false by rw [HE.out, decide_eq_false h]; rfl)
      go_wp2
      go_ret
      exact ⟨(congrArg (fun b => Ending.returned (Value.bool b)) (decide_eq_false (by omega : ¬ (20 : Int) < (ms.length : Int)))).trans (by rw [HX.out]), by ((have shb1 := hb1.size); (try simp at shb1); (repeat' (first | (with_reducible exact Below.refl _ _) | (with_reducible refine Below.setCell ?_ ?_ _) | (with_reducible refine Below.alloc ?_ ?_ _) | (with_reducible refine Below.drew ?_) | (with_reducible refine Below.trans ?_ (Below.mono hb1 ?_)) | go_size)))⟩
  · go_wp2
    go_ret
    exact ⟨by rw [HE.out]; rfl, by ((have shb1 := hb1.size); (try simp at shb1); (repeat' (first | (with_reducible exact Below.refl _ _) | (with_reducible refine Below.setCell ?_ ?_ _) | (with_reducible refine Below.alloc ?_ ?_ _) | (with_reducible refine Below.drew ?_) | (with_reducible refine Below.trans ?_ (Below.mono hb1 ?_)) | go_size)))⟩
end Go.Proofs.Ytlfmffjlmhpcdaa
