/- The document's word on lists: quiverref13.Right, quiverref13.Where. -/
import Derived.Test.YtlfmffjlmhpcdaaListsZ
import Derived.Test.YtlfmffjlmhpcdaaRefZ
import Derived.Test.YtlfmffjlmhpcdaaBuildZ
namespace Go.Proofs.Ytlfmffjlmhpcdaa
open Go.RowKit
set_option maxRecDepth 100000
attribute [local irreducible] Der

theorem hasM_ofAll (l : List Int) (hl : ∀ x ∈ l, isSlot x) (s : Int) (hs : isSlot s) : hasM (ofAll l) s = decide (s ∈ l) := by
  obtain ⟨h0, h1⟩ := hs
  by_cases h : s < 64
  · obtain ⟨i, rfl⟩ : ∃ i : Nat, s = i := ⟨s.toNat, by omega⟩
    rw [hasM_1 _ i (by omega), ofAll_bit1 l i (by omega) hl]
  · obtain ⟨i, rfl⟩ : ∃ i : Nat, s = (i : Int) + 64 := ⟨(s - 64).toNat, by omega⟩
    rw [hasM_2 _ i (by omega), ofAll_bit2 l i (by omega) hl]
theorem has_and (l : List M) (s : Int) (hs : isSlot s) : hasM (andAll l) s = true ↔ ∀ m ∈ l, hasM m s = true := by
  rw [← set_and, hasM_ofAll _ (andL_slot l) s hs, decide_eq_true_iff, mem_andL]
  exact ⟨fun h => h.2, fun h => ⟨hs, h⟩⟩
theorem has_or (l : List M) (s : Int) (hs : isSlot s) : hasM (orF l) s = true ↔ ∃ m ∈ l, hasM m s = true := by
  rw [← set_or, hasM_ofAll _ (orL_slot l) s hs, decide_eq_true_iff, mem_orL]
  exact ⟨fun h => h.2, fun h => ⟨hs, h⟩⟩
/-- Do masks i and j have slot s in common? -/
def bothM (ms : List M) (i j : Nat) (s : Int) : Bool := hasN (mAt ms i) s && hasN (mAt ms j) s
theorem has_met (ms : List M) (i : Nat) (hi : i ≤ ms.length) (s : Int) (hs : isSlot s) : hasM (metM ms i) s = true ↔ ∃ j, j < i ∧ bothM ms i j s = true := by
  unfold metM
  rw [has_and _ s hs]
  unfold bothM
  simp only [List.mem_cons, List.not_mem_nil, or_false, forall_eq_or_imp, forall_eq, has_or _ s hs, hasN_yes hs, Bool.and_eq_true]
  constructor
  · rintro ⟨h1, m, hm, h2⟩
    obtain ⟨j, hj, rfl⟩ := List.mem_iff_getElem.1 hm
    have hj' : j < i := by rw [List.length_take] at hj; omega
    refine ⟨j, hj', h1, ?_⟩
    rw [mAt_get (by omega)]
    rw [List.getElem_take] at h2
    exact h2
  · rintro ⟨j, hj, h1, h2⟩
    refine ⟨h1, mAt ms j, ?_, h2⟩
    rw [mAt_get (by omega)]
    exact List.mem_iff_getElem.2 ⟨j, by rw [List.length_take]; omega, by rw [List.getElem_take]⟩
theorem cnt_zero (m : M) : cntF m.1 m.2 = 0 ↔ ∀ s, isSlot s → hasM m s = false := by
  rw [cnt_list]
  constructor
  · intro h s hs
    have h0 : slotsK m 96 = [] := List.length_eq_zero_iff.1 (by omega)
    cases hh : hasM m s
    · rfl
    · have := (mem_slotsK m s 96).2 ⟨hs, hh⟩
      rw [h0] at this; cases this
  · intro h
    cases hl : slotsK m 96 with
    | nil => rfl
    | cons x t =>
      have hx := (mem_slotsK m x 96).1 (by rw [hl]; exact List.mem_cons_self)
      rw [h x hx.1] at hx; cases hx.2
theorem ok_no {ms : List M} {i j : Nat} {s : Int} (hi : i < ms.length) (hj : j < i) (hs : isSlot s) (h : bothM ms i j s = true) : okAt ms i = false := by
  unfold okAt
  rw [decide_eq_false (p := cntF (metM ms i).1 (metM ms i).2 = 0), Bool.and_false]
  intro e
  have h1 := (cnt_zero _).1 e s hs
  rw [(has_met ms i (by omega) s hs).2 ⟨j, hj, h⟩] at h1
  cases h1
theorem ok_yes {ms : List M} {i : Nat} (hi : i < ms.length) (hc : chk (mAt ms i).2 = 0) (h : ∀ j, j < i → ∀ s : Nat, s < 96 → bothM ms i j s = false) : okAt ms i = true := by
  unfold okAt
  rw [decide_eq_true hc, decide_eq_true ((cnt_zero _).2 fun s hs => ?_)]
  · rfl
  · cases hh : hasM (metM ms i) s
    · rfl
    · obtain ⟨j, hj, hb⟩ := (has_met ms i (by omega) s hs).1 hh
      obtain ⟨h0, h1⟩ := hs
      obtain ⟨k, rfl⟩ : ∃ k : Nat, s = k := ⟨s.toNat, by omega⟩
      rw [h j hj k (by omega)] at hb; cases hb
theorem ok_bad {ms : List M} {i : Nat} (h : decide (chk (mAt ms i).2 = 0) = false) : okAt ms i = false := by unfold okAt; rw [h]; rfl
set_option maxHeartbeats 4000000 in
theorem r13Right (vc vm : Value) (cs : List PV) (ms : List M) (w : World) (hc : VecsV w vc cs) (hm : Masks w vm ms) : Calls Try.prog 15 #[.agg #[vc, vm]] w fun e w' => e = .returned (.bool (listsOK cs ms)) ∧ Below w.heap.size w w' := by
  obtain ⟨a, cap, rfl, hl1, hm1⟩ : ∃ a cap, vc = .slice a cs.length cap ∧ cs.length ≤ cap ∧ cap ≤ 9223372036854775807 := by
    obtain ⟨a, cap, e, h1, h2, -⟩ := hc.open; exact ⟨a, cap, e, h1, h2⟩
  obtain ⟨a', cap', rfl, hl2, hm2, hcell⟩ := hm.open
  have Hc := Lib.hid hcell
  have HV := Lib.hid (fun W (hb : Below w.heap.size w W) => hc.grown hb)
  clear hc hcell hm
  cases hco : centsOK cs
  · have HE := Lib.hid (show listsOK cs ms = false by unfold listsOK; rw [hco]; rfl)
    have HC := Lib.hid hco
    clear hco
    go_enter Try.func15, Try.ntmps15
    go_wp2_with fail
    refine (r13Centroids _ cs _ (HV.out _ (by ((repeat' (first | (with_reducible exact Below.refl _ _) | (with_reducible refine Below.setCell ?_ ?_ _) | (with_reducible refine Below.alloc ?_ ?_ _) | (with_reducible refine Below.drew ?_) | (with_reducible refine Below.trans ?_ (Below.mono (by assumption) ?_)) | go_size)))))).mono ?_
    rintro e w1 ⟨rfl, hb1⟩
    rw [HC.out]
    go_wp2
    go_ret
    exact ⟨by rw [HE.out]; rfl, by ((have shb1 := hb1.size); (try simp at shb1); (repeat' (first | (with_reducible exact Below.refl _ _) | (with_reducible refine Below.setCell ?_ ?_ _) | (with_reducible refine Below.alloc ?_ ?_ _) | (with_reducible refine Below.drew ?_) | (with_reducible refine Below.trans ?_ (Below.mono hb1 ?_)) | go_size)))⟩
  · by_cases hl : ms.length = cs.length
    · have HE := Lib.hid (show listsOK cs ms = masksOK ms by unfold listsOK; rw [hco, decide_eq_true hl]; rfl)
      have HC := Lib.hid hco
      have HN := Lib.hid (fun k (h : k < ms.length) (hh : okAt ms k = false) => HE.out.trans (masksOK_no h hh))
      have HY := Lib.hid (fun (h : ∀ k, k < ms.length → okAt ms k = true) => HE.out.trans (masksOK_yes h))
      clear hco
      rw [← hl] at HV hl1 ⊢
      clear hl
      go_enter Try.func15, Try.ntmps15
      go_wp2_with fail
      refine (r13Centroids _ cs _ (HV.out _ (by ((repeat' (first | (with_reducible exact Below.refl _ _) | (with_reducible refine Below.setCell ?_ ?_ _) | (with_reducible refine Below.alloc ?_ ?_ _) | (with_reducible refine Below.drew ?_) | (with_reducible refine Below.trans ?_ (Below.mono (by assumption) ?_)) | go_size)))))).mono ?_
      rintro e w1 ⟨rfl, hb1⟩
      rw [HC.out]
      have z1w0 : w.heap.size < w1.heap.size := (by have := hb1.size; (try simp at this); omega)
      have q1w0 := fun o => hb1.cell (p := ⟨w.heap.size, o, none⟩) (by first | omega | (simp; done) | (simp; omega))
      have r1w0 := fun o => hb1.frozen (p := ⟨w.heap.size, o, none⟩) (by first | omega | (simp; done) | (simp; omega))
      have hB1 : Below w.heap.size w w1 := by ((have shb1 := hb1.size); (try simp at shb1); (repeat' (first | (with_reducible exact Below.refl _ _) | (with_reducible refine Below.setCell ?_ ?_ _) | (with_reducible refine Below.alloc ?_ ?_ _) | (with_reducible refine Below.drew ?_) | (with_reducible refine Below.trans ?_ (Below.mono hb1 ?_)) | go_size)))
      have c0 : w1.cell? ⟨w.heap.size, 0, none⟩ = some (.slice a ms.length cap) := by rw [q1w0]; go_simp
      have c1 : w1.cell? ⟨w.heap.size, 1, none⟩ = some (.slice a' ms.length cap') := by rw [q1w0]; go_simp
      clear q1w0 r1w0 hb1
      go_wp2
      go_loopw [3] (fun i wr => ∃ k : Nat, k ≤ ms.length ∧ i = .int .i64 k ∧ (∀ j, j < k → okAt ms j = true) ∧ Below w1.heap.size w1 wr) (fun i _ => ms.length - (intOf i).toNat)
      case atStart => exact ⟨0, Nat.zero_le _, rfl, fun j hj => absurd hj (Nat.not_lt_zero _), Below.refl _ _⟩
      case round =>
        obtain ⟨k, hk, rfl, hok, hbr⟩ := hrel
        have HK := Lib.hid hok
        clear hok
        have hBr : Below w.heap.size w wr := by ((have shbr := hbr.size); (try simp at shbr); (have shB1 := hB1.size); (try simp at shB1); (repeat' (first | (with_reducible exact Below.refl _ _) | (with_reducible refine Below.setCell ?_ ?_ _) | (with_reducible refine Below.alloc ?_ ?_ _) | (with_reducible refine Below.drew ?_) | (with_reducible refine Below.trans ?_ (Below.mono hbr ?_)) | (with_reducible refine Below.trans ?_ (Below.mono hB1 ?_)) | go_size)))
        have d0 := (hbr.cell (p := ⟨w.heap.size, 0, none⟩) z1w0).trans c0
        have d1 := (hbr.cell (p := ⟨w.heap.size, 1, none⟩) z1w0).trans c1
        have zr : w.heap.size < wr.heap.size := by have := hbr.size; omega
        by_cases hlt2 : k < ms.length
        · obtain ⟨b, off, rfl, hlt, g1, g2⟩ := Hc.out k hlt2
          have e1 := (hBr.cell (p := ⟨b, off + k * 2, none⟩) hlt).trans g1
          have e2 := (hBr.cell (p := ⟨b, off + k * 2 + 1, none⟩) hlt).trans g2
          have HNk := Lib.hid (HN.out k hlt2)
          have HM := Lib.hid (mAt_get hlt2)
          have HBad := Lib.hid (ok_bad (ms := ms) (i := k))
          have HYes := Lib.hid (ok_yes (ms := ms) hlt2)
          have HNo := Lib.hid (fun j s (hj : j < k) (hs : isSlot s) => ok_no hlt2 hj hs)
          have HBo := Lib.hid (fun j (s : Int) => (show bothM ms k j s = (hasN (mAt ms k) s && hasN (mAt ms j) s) from rfl))
          rw [HM.out] at HBad HYes HBo
          clear HM
          generalize ms[k] = y at *
          obtain ⟨y1, y2⟩ := y
          simp only at e1 e2
          go_wp2_with fail
          refine (r_Right _ _ _).mono ?_
          rintro e w2 ⟨rfl, hb2⟩
          obtain ⟨q, hq⟩ : ∃ q, decide (chk y2 = 0) = q := ⟨_, rfl⟩
          rw [hq]
          have HQ := Lib.hid hq
          clear hq
          cases q
          · have HF := Lib.hid (HNk.out (HBad.out HQ.out))
            go_wp2
            go_ret
            exact ⟨by rw [HF.out]; rfl, by ((have shb2 := hb2.size); (try simp at shb2); (have shBr := hBr.size); (try simp at shBr); (repeat' (first | (with_reducible exact Below.refl _ _) | (with_reducible refine Below.setCell ?_ ?_ _) | (with_reducible refine Below.alloc ?_ ?_ _) | (with_reducible refine Below.drew ?_) | (with_reducible refine Below.trans ?_ (Below.mono hb2 ?_)) | (with_reducible refine Below.trans ?_ (Below.mono hBr ?_)) | go_size)))⟩
          · have HQ2 := Lib.hid (of_decide_eq_true HQ.out)
            have hb2' : Below w1.heap.size w1 w2 := by ((have shb2 := hb2.size); (try simp at shb2); (have shbr := hbr.size); (try simp at shbr); (repeat' (first | (with_reducible exact Below.refl _ _) | (with_reducible refine Below.setCell ?_ ?_ _) | (with_reducible refine Below.alloc ?_ ?_ _) | (with_reducible refine Below.drew ?_) | (with_reducible refine Below.trans ?_ (Below.mono hb2 ?_)) | (with_reducible refine Below.trans ?_ (Below.mono hbr ?_)) | go_size)))
            have hB2 : Below w.heap.size w w2 := by ((have shb2 := hb2.size); (try simp at shb2); (have shBr := hBr.size); (try simp at shBr); (repeat' (first | (with_reducible exact Below.refl _ _) | (with_reducible refine Below.setCell ?_ ?_ _) | (with_reducible refine Below.alloc ?_ ?_ _) | (with_reducible refine Below.drew ?_) | (with_reducible refine Below.trans ?_ (Below.mono hb2 ?_)) | (with_reducible refine Below.trans ?_ (Below.mono hBr ?_)) | go_size)))
            have z2 : w.heap.size < w2.heap.size := by have := hb2.size; omega
            have d12 := (hb2.cell (p := ⟨w.heap.size, 1, none⟩) zr).trans d1
            have e12 := (hb2.cell (p := ⟨b, off + k * 2, none⟩) (by simp; omega)).trans e1
            have e22 := (hb2.cell (p := ⟨b, off + k * 2 + 1, none⟩) (by simp; omega)).trans e2
            have zb : b < w2.heap.size := by omega
            clear d0 d1 e1 e2
            go_wp2
            go_loopw [4] (fun i wr => ∃ j : Nat, j ≤ k ∧ i = .int .i64 j ∧ (∀ x, x < j → ∀ s : Nat, s < 96 → bothM ms k x s = false) ∧ Below w2.heap.size w2 wr) (fun i _ => k - (intOf i).toNat)
            case atStart => exact ⟨0, Nat.zero_le _, rfl, fun j hj => absurd hj (Nat.not_lt_zero _), Below.refl _ _⟩
            case round =>
              obtain ⟨j, hj, rfl, hoj, hbj⟩ := hrel
              have HJ := Lib.hid hoj
              clear hoj
              have hBj : Below w.heap.size w wr := by ((have shbj := hbj.size); (try simp at shbj); (have shB2 := hB2.size); (try simp at shB2); (repeat' (first | (with_reducible exact Below.refl _ _) | (with_reducible refine Below.setCell ?_ ?_ _) | (with_reducible refine Below.alloc ?_ ?_ _) | (with_reducible refine Below.drew ?_) | (with_reducible refine Below.trans ?_ (Below.mono hbj ?_)) | (with_reducible refine Below.trans ?_ (Below.mono hB2 ?_)) | go_size)))
              by_cases hjk : j < k
              · have hjl : j < ms.length := by omega
                obtain ⟨b', off', hbo, hlt', g1, g2⟩ := Hc.out j hjl
                simp only [Option.some.injEq, Addr.mk.injEq, and_true] at hbo
                obtain ⟨rfl, rfl⟩ := hbo
                have HBj := Lib.hid (fun (s : Int) => HBo.out j s)
                have HNj := Lib.hid (fun s (hs : isSlot s) h => HNk.out (HNo.out j s hjk hs h))
                rw [mAt_get hjl] at HBj
                generalize ms[j] = z at *
                obtain ⟨z1', z2'⟩ := z
                simp only at g1 g2
                obtain ⟨w3, hw3⟩ : ∃ w3, w3 = wr := ⟨_, rfl⟩
                subst hw3
                have h1 := (hBj.cell (p := ⟨b, off + j * 2, none⟩) hlt').trans g1
                have h2 := (hBj.cell (p := ⟨b, off + j * 2 + 1, none⟩) hlt').trans g2
                have d13 := (hbj.cell (p := ⟨w.heap.size, 1, none⟩) z2).trans d12
                have e13 := (hbj.cell (p := ⟨b, off + k * 2, none⟩) zb).trans e12
                have e23 := (hbj.cell (p := ⟨b, off + k * 2 + 1, none⟩) zb).trans e22
                have zb3 : b < w3.heap.size := by have := hbj.size; omega
                have z3 : w.heap.size < w3.heap.size := by have := hbj.size; omega
                clear g1 g2
                go_wp2
                go_loopw [5] (fun i wr => ∃ s : Nat, s ≤ 96 ∧ i = .int .i64 s ∧ (∀ x : Nat, x < s → bothM ms k j x = false) ∧ Below w3.heap.size w3 wr) (fun i _ => 96 - (intOf i).toNat)
                case atStart => exact ⟨0, Nat.zero_le _, rfl, fun j hj => absurd hj (Nat.not_lt_zero _), Below.refl _ _⟩
                case round =>
                  obtain ⟨s, hs, rfl, hos, hbs⟩ := hrel
                  have HS := Lib.hid hos
                  clear hos
                  have hBs : Below w.heap.size w wr := by ((have shbs := hbs.size); (try simp at shbs); (have shBj := hBj.size); (try simp at shBj); (repeat' (first | (with_reducible exact Below.refl _ _) | (with_reducible refine Below.setCell ?_ ?_ _) | (with_reducible refine Below.alloc ?_ ?_ _) | (with_reducible refine Below.drew ?_) | (with_reducible refine Below.trans ?_ (Below.mono hbs ?_)) | (with_reducible refine Below.trans ?_ (Below.mono hBj ?_)) | go_size)))
                  by_cases hs96 : s < 96
                  · have d14 := (hbs.cell (p := ⟨w.heap.size, 1, none⟩) z3).trans d13
                    have e14 := (hbs.cell (p := ⟨b, off + k * 2, none⟩) zb3).trans e13
                    have e24 := (hbs.cell (p := ⟨b, off + k * 2 + 1, none⟩) zb3).trans e23
                    have h14 := (hbs.cell (p := ⟨b, off + j * 2, none⟩) zb3).trans h1
                    have h24 := (hbs.cell (p := ⟨b, off + j * 2 + 1, none⟩) zb3).trans h2
                    have hsz := hbs.size
                    have HBs := Lib.hid (HBj.out (s : Int))
                    have HNs := Lib.hid (HNj.out (s : Int) ⟨by omega, by omega⟩)
                    go_wp2_with fail
                    refine (r_Has_any y1 y2 (s : Int) _).mono ?_
                    rintro e w4 ⟨rfl, hb4⟩
                    obtain ⟨q, hq⟩ : ∃ q, hasN (y1, y2) (s : Int) = q := ⟨_, rfl⟩
                    rw [hq] at HBs ⊢
                    clear hq
                    cases q
                    · have HX := Lib.hid HBs.out
                      have HX2 := Lib.hid (fun (x : Nat) (hx : x < s + 1) => (show bothM ms k j x = false from (by
                        rcases Nat.lt_or_ge x s with h | h
                        · exact HS.out x h
                        · have : x = s := by omega
                          subst this; exact HX.out)))
                      go_wp2
                      go_roundw
                      case rel => exact ⟨s + 1, by omega, by go_num, HX2.out, by ((have shb4 := hb4.size); (try simp at shb4); (have shbs := hbs.size); (try simp at shbs); (repeat' (first | (with_reducible exact Below.refl _ _) | (with_reducible refine Below.setCell ?_ ?_ _) | (with_reducible refine Below.alloc ?_ ?_ _) | (with_reducible refine Below.drew ?_) | (with_reducible refine Below.trans ?_ (Below.mono hb4 ?_)) | (with_reducible refine Below.trans ?_ (Below.mono hbs ?_)) | go_size)))⟩
                      case measure => simp [intOf]; omega
                    · have d15 := (hb4.cell (p := ⟨w.heap.size, 1, none⟩) (by simp; omega)).trans d14
                      have h15 := (hb4.cell (p := ⟨b, off + j * 2, none⟩) (by simp; omega)).trans h14
                      have h25 := (hb4.cell (p := ⟨b, off + j * 2 + 1, none⟩) (by simp; omega)).trans h24
                      go_wp2_with fail
                      refine (r_Has_any z1' z2' (s : Int) _).mono ?_
                      rintro e w5 ⟨rfl, hb5⟩
                      obtain ⟨q, hq⟩ : ∃ q, hasN (z1', z2') (s : Int) = q := ⟨_, rfl⟩
                      rw [hq] at HBs ⊢
                      clear hq
                      cases q
                      · have HX := Lib.hid HBs.out
                        have HX2 := Lib.hid (fun (x : Nat) (hx : x < s + 1) => (show bothM ms k j x = false from (by
                          rcases Nat.lt_or_ge x s with h | h
                          · exact HS.out x h
                          · have : x = s := by omega
                            subst this; exact HX.out)))
                        go_wp2
                        go_roundw
                        case rel => exact ⟨s + 1, by omega, by go_num, HX2.out, by ((have shb5 := hb5.size); (try simp at shb5); (have shb4 := hb4.size); (try simp at shb4); (have shbs := hbs.size); (try simp at shbs); (repeat' (first | (with_reducible exact Below.refl _ _) | (with_reducible refine Below.setCell ?_ ?_ _) | (with_reducible refine Below.alloc ?_ ?_ _) | (with_reducible refine Below.drew ?_) | (with_reducible refine Below.trans ?_ (Below.mono hb5 ?_)) | (with_reducible refine Below.trans ?_ (Below.mono hb4 ?_)) | (with_reducible refine Below.trans ?_ (Below.mono hbs ?_)) | go_size)))⟩
                        case measure => simp [intOf]; omega
                      · have HF := Lib.hid (HNs.out HBs.out)
                        go_wp2
                        go_ret
                        exact ⟨by rw [HF.out]; rfl, by ((have shb5 := hb5.size); (try simp at shb5); (have shb4 := hb4.size); (try simp at shb4); (have shBs := hBs.size); (try simp at shBs); (repeat' (first | (with_reducible exact Below.refl _ _) | (with_reducible refine Below.setCell ?_ ?_ _) | (with_reducible refine Below.alloc ?_ ?_ _) | (with_reducible refine Below.drew ?_) | (with_reducible refine Below.trans ?_ (Below.mono hb5 ?_)) | (with_reducible refine Below.trans ?_ (Below.mono hb4 ?_)) | (with_reducible refine Below.trans ?_ (Below.mono hBs ?_)) | go_size)))⟩
                  · have : s = 96 := by omega
                    subst this
                    have HX2 := Lib.hid (fun (x : Nat) (hx : x < j + 1) (t : Nat) (ht : t < 96) => (show bothM ms k x t = false from (by
                      rcases Nat.lt_or_ge x j with h | h
                      · exact HJ.out x h t ht
                      · have : x = j := by omega
                        subst this; exact HS.out t ht)))
                    go_wp2
                    go_roundw
                    case rel => exact ⟨j + 1, by omega, by go_num, HX2.out, by ((have shbs := hbs.size); (try simp at shbs); (have shbj := hbj.size); (try simp at shbj); (repeat' (first | (with_reducible exact Below.refl _ _) | (with_reducible refine Below.setCell ?_ ?_ _) | (with_reducible refine Below.alloc ?_ ?_ _) | (with_reducible refine Below.drew ?_) | (with_reducible refine Below.trans ?_ (Below.mono hbs ?_)) | (with_reducible refine Below.trans ?_ (Below.mono hbj ?_)) | go_size)))⟩
                    case measure => simp [intOf]; omega
              · have : j = k := by omega
                subst this
                have HKY := Lib.hid (HYes.out HQ2.out HJ.out)
                have HX := Lib.hid (fun (x : Nat) (hx : x < j + 1) => (show okAt ms x = true from (by
                  rcases Nat.lt_or_ge x j with h | h
                  · exact HK.out x h
                  · have : x = j := by omega
                    subst this; exact HKY.out)))
                go_wp2
                go_roundw
                case rel => exact ⟨j + 1, by omega, by go_num, HX.out, by ((have shbj := hbj.size); (try simp at shbj); (have shb2' := hb2'.size); (try simp at shb2'); (repeat' (first | (with_reducible exact Below.refl _ _) | (with_reducible refine Below.setCell ?_ ?_ _) | (with_reducible refine Below.alloc ?_ ?_ _) | (with_reducible refine Below.drew ?_) | (with_reducible refine Below.trans ?_ (Below.mono hbj ?_)) | (with_reducible refine Below.trans ?_ (Below.mono hb2' ?_)) | go_size)))⟩
                case measure => simp [intOf]; omega
        · have : k = ms.length := by omega
          subst this
          have HF := Lib.hid (HY.out HK.out)
          go_wp2
          go_ret
          exact ⟨by rw [HF.out]; rfl, hBr⟩
    · have HE := Lib.hid (show listsOK cs ms = false by unfold listsOK; rw [decide_eq_false hl]; cases centsOK cs <;> rfl)
      have HC := Lib.hid hco
      clear hco
      go_enter Try.func15, Try.ntmps15
      go_wp2_with fail
      refine (r13Centroids _ cs _ (HV.out _ (by ((repeat' (first | (with_reducible exact Below.refl _ _) | (with_reducible refine Below.setCell ?_ ?_ _) | (with_reducible refine Below.alloc ?_ ?_ _) | (with_reducible refine Below.drew ?_) | (with_reducible refine Below.trans ?_ (Below.mono (by assumption) ?_)) | go_size)))))).mono ?_
      rintro e w1 ⟨rfl, hb1⟩
      rw [HC.out]
      have z1w0 : w.heap.size < w1.heap.size := (by have := hb1.size; (try simp at this); omega)
      have q1w0 := fun o => hb1.cell (p := ⟨w.heap.size, o, none⟩) (by first | omega | (simp; done) | (simp; omega))
      have r1w0 := fun o => hb1.frozen (p := ⟨w.heap.size, o, none⟩) (by first | omega | (simp; done) | (simp; omega))
      go_wp2
      go_ret
      exact ⟨by rw [HE.out]; rfl, by ((have shb1 := hb1.size); (try simp at shb1); (repeat' (first | (with_reducible exact Below.refl _ _) | (with_reducible refine Below.setCell ?_ ?_ _) | (with_reducible refine Below.alloc ?_ ?_ _) | (with_reducible refine Below.drew ?_) | (with_reducible refine Below.trans ?_ (Below.mono hb1 ?_)) | go_size)))⟩
end Go.Proofs.Ytlfmffjlmhpcdaa

/- quiverref13.Where, and the guards of the claims. -/
namespace Go.Proofs.Ytlfmffjlmhpcdaa
open Go.RowKit
set_option maxRecDepth 100000
attribute [local irreducible] Der

/-- The place of the first mask that has a slot, or -1. -/
def firstM (ms : List M) (q : Int) : Int := match haveL ms q ms.length with | [] => -1 | i :: _ => (i : Int)
theorem firstM_hit {ms : List M} {q : Int} {k : Nat} (hk : k < ms.length) (h0 : haveL ms q k = []) (h : hasN (mAt ms k) q = true) : firstM ms q = k := by
  have h1 := haveL_hit h
  rw [h0, List.nil_append] at h1
  obtain ⟨t, ht⟩ := haveL_pre (ms := ms) (n := q) (k := k + 1) (j := ms.length) (by omega)
  unfold firstM
  rw [← ht, h1]; rfl
theorem firstM_none {ms : List M} {q : Int} (h0 : haveL ms q ms.length = []) : firstM ms q = -1 := by unfold firstM; rw [h0]
theorem where_first {cs : List PV} {ms : List M} {q : Int} (h : listsOK cs ms = true) : whereF cs ms q = ((if firstM ms q < 0 then 0 else firstM ms q), decide (0 ≤ firstM ms q)) := by
  unfold whereF firstM
  rw [if_pos h]
  cases haveL ms q ms.length with
  | nil => rfl
  | cons i t =>
    have h0 : ¬ ((i : Int) < 0) := by omega
    simp only [h0, if_false]
    rw [decide_eq_true (by omega)]
theorem where_bad {cs : List PV} {ms : List M} {q : Int} (h : listsOK cs ms = false) : whereF cs ms q = (0, false) := by unfold whereF; rw [h]; rfl
set_option maxHeartbeats 2000000 in
theorem r13Where (vc vm : Value) (cs : List PV) (ms : List M) (q : Int) (w : World) (hc : VecsV w vc cs) (hm : Masks w vm ms) : Calls Try.prog 16 #[.agg #[vc, vm], .int .i64 q] w fun e w' => e = .returned (.int .i64 (firstM ms q)) ∧ Below w.heap.size w w' := by
  obtain ⟨a, cap, rfl, -⟩ := hc.open
  obtain ⟨a', cap', rfl, hl2, hm2, hcell⟩ := hm.open
  have Hc := Lib.hid hcell
  have HF := Lib.hid (fun (k : Nat) (hk : k < ms.length) h0 h => firstM_hit (q := q) hk h0 h)
  have HN := Lib.hid (fun h0 => firstM_none (ms := ms) (q := q) h0)
  have HMi := Lib.hid (fun (k : Nat) h => haveL_miss (ms := ms) (n := q) (k := k) h)
  clear hc hcell hm
  go_enter Try.func16, Try.ntmps16
  go_wp2
  go_loopw [5] (fun i wr => ∃ k : Nat, k ≤ ms.length ∧ i = .int .i64 k ∧ haveL ms q k = [] ∧ Below (w.heap.size + 1) (w.alloc (.cells #[.slice a cs.length cap, .slice a' ms.length cap'] 25)) wr) (fun i _ => ms.length - (intOf i).toNat)
  case atStart => exact ⟨0, Nat.zero_le _, rfl, rfl, by ((repeat' (first | (with_reducible exact Below.refl _ _) | (with_reducible refine Below.setCell ?_ ?_ _) | (with_reducible refine Below.alloc ?_ ?_ _) | (with_reducible refine Below.drew ?_) | (with_reducible refine Below.trans ?_ (Below.mono (by assumption) ?_)) | go_size)))⟩
  case round =>
    obtain ⟨k, hk, rfl, hno, hbr⟩ := hrel
    have HK := Lib.hid hno
    clear hno
    have hBr : Below w.heap.size w wr := by ((have shbr := hbr.size); (try simp at shbr); (repeat' (first | (with_reducible exact Below.refl _ _) | (with_reducible refine Below.setCell ?_ ?_ _) | (with_reducible refine Below.alloc ?_ ?_ _) | (with_reducible refine Below.drew ?_) | (with_reducible refine Below.trans ?_ (Below.mono hbr ?_)) | go_size)))
    have hsz := hbr.size
    simp at hsz
    have zr : w.heap.size < wr.heap.size := by omega
    have d1 : wr.cell? ⟨w.heap.size, 1, none⟩ = some (.slice a' ms.length cap') := (hbr.cell (p := ⟨w.heap.size, 1, none⟩) (by simp)).trans (by go_simp)
    by_cases hlt2 : k < ms.length
    · obtain ⟨b, off, rfl, hlt, g1, g2⟩ := Hc.out k hlt2
      have e1 := (hBr.cell (p := ⟨b, off + k * 2, none⟩) hlt).trans g1
      have e2 := (hBr.cell (p := ⟨b, off + k * 2 + 1, none⟩) hlt).trans g2
      have HH := HF.out k hlt2 HK.out
      have HM := HMi.out k
      rw [mAt_get hlt2] at HH HM
      have HH := Lib.hid HH
      have HM := Lib.hid HM
      clear g1 g2
      generalize ms[k] = y at *
      obtain ⟨y1, y2⟩ := y
      simp only at e1 e2
      go_wp2_with fail
      refine (r_Has_any y1 y2 q _).mono ?_
      rintro e w2 ⟨rfl, hb2⟩
      obtain ⟨s, hs⟩ : ∃ s, hasN (y1, y2) q = s := ⟨_, rfl⟩
      rw [hs] at HH HM ⊢
      clear hs
      cases s
      · have HX := Lib.hid ((HM.out rfl).trans HK.out)
        go_wp2
        go_roundw
        case rel => exact ⟨k + 1, by omega, by go_num, HX.out, by ((have shb2 := hb2.size); (try simp at shb2); (have shbr := hbr.size); (try simp at shbr); (repeat' (first | (with_reducible exact Below.refl _ _) | (with_reducible refine Below.setCell ?_ ?_ _) | (with_reducible refine Below.alloc ?_ ?_ _) | (with_reducible refine Below.drew ?_) | (with_reducible refine Below.trans ?_ (Below.mono hb2 ?_)) | (with_reducible refine Below.trans ?_ (Below.mono hbr ?_)) | go_size)))⟩
        case measure => simp [intOf]; omega
      · have HX := Lib.hid (HH.out rfl)
        go_wp2
        go_ret
        exact ⟨by rw [HX.out]; rfl, by ((have shb2 := hb2.size); (try simp at shb2); (have shBr := hBr.size); (try simp at shBr); (repeat' (first | (with_reducible exact Below.refl _ _) | (with_reducible refine Below.setCell ?_ ?_ _) | (with_reducible refine Below.alloc ?_ ?_ _) | (with_reducible refine Below.drew ?_) | (with_reducible refine Below.trans ?_ (Below.mono hb2 ?_)) | (with_reducible refine Below.trans ?_ (Below.mono hBr ?_)) | go_size)))⟩
    · have : k = ms.length := by omega
      subst this
      have HX := Lib.hid (HN.out HK.out)
      go_wp2
      go_ret
      exact ⟨by rw [HX.out]; rfl, hBr⟩
/-- Are these too many, or is one of them too long, for a claim? -/
def overV (cs : List PV) : Bool := decide (20 < cs.length) || cs.any fun p => decide (50 < p.2.length)
def overL (cs : List PV) (ms : List M) : Bool := overV cs || decide (20 < ms.length)
theorem overV_hit {cs : List PV} {k : Nat} (h : k < cs.length) (hh : 50 < cs[k].2.length) : overV cs = true := by
  unfold overV
  rw [Bool.or_eq_true]
  exact .inr (List.any_eq_true.2 ⟨cs[k], List.getElem_mem h, decide_eq_true hh⟩)
theorem overV_none {cs : List PV} (h0 : ¬ 20 < cs.length) (h : ∀ k (hk : k < cs.length), ¬ 50 < cs[k].2.length) : overV cs = false := by
  unfold overV
  rw [decide_eq_false h0, Bool.false_or]
  cases ha : cs.any fun p => decide (50 < p.2.length)
  · rfl
  · obtain ⟨p, hp, hq⟩ := List.any_eq_true.1 ha
    obtain ⟨k, hk, rfl⟩ := List.mem_iff_getElem.1 hp
    exact absurd (of_decide_eq_true hq) (h k hk)
set_option maxHeartbeats 2000000 in
theorem l13_overVecs (vc : Value) (cs : List PV) (w : World) (hc : VecsV w vc cs) : Calls Try.prog 18 #[vc] w fun e w' => e = .returned (.bool (overV cs)) ∧ Below w.heap.size w w' := by
  obtain ⟨a, cap, rfl, hl1, hm1, hcell⟩ := hc.open
  have Hc := Lib.hid hcell
  have HV := Lib.hid (fun k (hk : k < cs.length) => (hc.2 cs[k] (List.getElem_mem hk)).form)
  have HH := Lib.hid (fun k (hk : k < cs.length) hh => overV_hit (cs := cs) hk hh)
  clear hc hcell
  by_cases h20 : 20 < cs.length
  · have HE := Lib.hid (show overV cs = true by unfold overV; rw [decide_eq_true h20]; rfl)
    go_enter Try.func18, Try.ntmps18
    go_wp2
    go_ret
    exact ⟨by rw [HE.out]; rfl, by ((repeat' (first | (with_reducible exact Below.refl _ _) | (with_reducible refine Below.setCell ?_ ?_ _) | (with_reducible refine Below.alloc ?_ ?_ _) | (with_reducible refine Below.drew ?_) | (with_reducible refine Below.trans ?_ (Below.mono (by assumption) ?_)) | go_size)))⟩
  · have HE := Lib.hid (fun h => overV_none (cs := cs) h20 h)
    go_enter Try.func18, Try.ntmps18
    go_wp2
    go_loopw [10] (fun i wr => ∃ k : Nat, k ≤ cs.length ∧ i = .int .i64 k ∧ (∀ j (hj : j < cs.length), j < k → ¬ 50 < cs[j].2.length) ∧ Below w.heap.size w wr) (fun i _ => cs.length - (intOf i).toNat)
    case atStart => exact ⟨0, Nat.zero_le _, rfl, fun j _ hj => absurd hj (Nat.not_lt_zero _), by ((repeat' (first | (with_reducible exact Below.refl _ _) | (with_reducible refine Below.setCell ?_ ?_ _) | (with_reducible refine Below.alloc ?_ ?_ _) | (with_reducible refine Below.drew ?_) | (with_reducible refine Below.trans ?_ (Below.mono (by assumption) ?_)) | go_size)))⟩
    case round =>
      obtain ⟨k, hk, rfl, hno, hbr⟩ := hrel
      have HK := Lib.hid hno
      clear hno
      by_cases hlt2 : k < cs.length
      · obtain ⟨b, off, rfl, hlt, g1⟩ := Hc.out k hlt2
        have e1 := (hbr.cell (p := ⟨b, off + k, none⟩) hlt).trans g1
        obtain ⟨u, c', hu, -⟩ := HV.out k hlt2
        rw [hu] at e1
        have HHk := Lib.hid (HH.out k hlt2)
        have HS := Lib.hid (fun (h0 : ¬ 50 < cs[k].2.length) j (hj : j < cs.length) (hjk : j < k + 1) => (show ¬ 50 < cs[j].2.length from by
          rcases Nat.lt_or_ge j k with h | h
          · exact HK.out j hj h
          · have : j = k := by omega
            subst this; exact h0))
        clear g1 hu
        obtain ⟨n, hn⟩ : ∃ n, cs[k].2.length = n := ⟨_, rfl⟩
        rw [hn] at HHk HS e1
        clear hn
        by_cases h50 : 50 < n
        · have HX := Lib.hid (HHk.out h50)
          go_wp2
          go_ret
          exact ⟨by rw [HX.out]; rfl, by ((have shbr := hbr.size); (try simp at shbr); (repeat' (first | (with_reducible exact Below.refl _ _) | (with_reducible refine Below.setCell ?_ ?_ _) | (with_reducible refine Below.alloc ?_ ?_ _) | (with_reducible refine Below.drew ?_) | (with_reducible refine Below.trans ?_ (Below.mono hbr ?_)) | go_size)))⟩
        · have HX := Lib.hid (HS.out h50)
          go_wp2
          go_roundw
          case rel => exact ⟨k + 1, by omega, by go_num, HX.out, by ((have shbr := hbr.size); (try simp at shbr); (repeat' (first | (with_reducible exact Below.refl _ _) | (with_reducible refine Below.setCell ?_ ?_ _) | (with_reducible refine Below.alloc ?_ ?_ _) | (with_reducible refine Below.drew ?_) | (with_reducible refine Below.trans ?_ (Below.mono hbr ?_)) | go_size)))⟩
          case measure => simp [intOf]; omega
      · have : k = cs.length := by omega
        subst this
        have HX := Lib.hid (HE.out (fun j hj => HK.out j hj hj))
        go_wp2
        go_ret
        exact ⟨by rw [HX.out]; rfl, hbr⟩
theorem l13_over (vc vm : Value) (cs : List PV) (ms : List M) (w : World) (hc : VecsV w vc cs) (hm : Masks w vm ms) : Calls Try.prog 10 #[.agg #[vc, vm]] w fun e w' => e = .returned (.bool (overL cs ms)) ∧ Below w.heap.size w w' := by
  obtain ⟨a, cap, rfl, -⟩ := hc.open
  obtain ⟨a', cap', rfl, hl2, hm2, -⟩ := hm.open
  have HV := Lib.hid (fun W (hb : Below w.heap.size w W) => hc.grown hb)
  clear hc hm
  obtain ⟨q, hq⟩ : ∃ q, overV cs = q := ⟨_, rfl⟩
  have HQ := Lib.hid hq
  have HE := Lib.hid (show overL cs ms = (q || decide (20 < ms.length)) by unfold overL; rw [hq])
  clear hq
  go_enter Try.func10, Try.ntmps10
  go_wp2_with fail
  refine (l13_overVecs _ cs _ (HV.out _ (by ((repeat' (first | (with_reducible exact Below.refl _ _) | (with_reducible refine Below.setCell ?_ ?_ _) | (with_reducible refine Below.alloc ?_ ?_ _) | (with_reducible refine Below.drew ?_) | (with_reducible refine Below.trans ?_ (Below.mono (by assumption) ?_)) | go_size)))))).mono ?_
  rintro e w1 ⟨rfl, hb1⟩
  rw [HQ.out]
  have z1w0 : w.heap.size < w1.heap.size := (by have := hb1.size; (try simp at this); omega)
  have q1w0 := fun o => hb1.cell (p := ⟨w.heap.size, o, none⟩) (by first | omega | (simp; done) | (simp; omega))
  have r1w0 := fun o => hb1.frozen (p := ⟨w.heap.size, o, none⟩) (by first | omega | (simp; done) | (simp; omega))
  cases q
  · by_cases h : 20 < ms.length
    · have HX := Lib.hid (show overL cs ms = true by rw [HE.out, decide_eq_true h]; rfl)
      go_wp2
      go_ret
      exact ⟨(congrArg (fun b => Ending.returned (Value.bool b)) (decide_eq_true (by omega : (20 : Int) < (ms.length : Int)))).trans (by rw [HX.out]), by ((have shb1 := hb1.size); (try simp at shb1); (repeat' (first | (with_reducible exact Below.refl _ _) | (with_reducible refine Below.setCell ?_ ?_ _) | (with_reducible refine Below.alloc ?_ ?_ _) | (with_reducible refine Below.drew ?_) | (with_reducible refine Below.trans ?_ (Below.mono hb1 ?_)) | go_size)))⟩
    · have HX := Lib.hid (show overL cs ms = false by rw [HE.out, decide_eq_false h]; rfl)
      go_wp2
      go_ret
      exact ⟨(congrArg (fun b => Ending.returned (Value.bool b)) (decide_eq_false (by omega : ¬ (20 : Int) < (ms.length : Int)))).trans (by rw [HX.out]), by ((have shb1 := hb1.size); (try simp at shb1); (repeat' (first | (with_reducible exact Below.refl _ _) | (with_reducible refine Below.setCell ?_ ?_ _) | (with_reducible refine Below.alloc ?_ ?_ _) | (with_reducible refine Below.drew ?_) | (with_reducible refine Below.trans ?_ (Below.mono hb1 ?_)) | go_size)))⟩
  · go_wp2
    go_ret
    exact ⟨by rw [HE.out]; rfl, by ((have shb1 := hb1.size); (try simp at shb1); (repeat' (first | (with_reducible exact Below.refl _ _) | (with_reducible refine Below.setCell ?_ ?_ _) | (with_reducible refine Below.alloc ?_ ?_ _) | (with_reducible refine Below.drew ?_) | (with_reducible refine Below.trans ?_ (Below.mono hb1 ?_)) | go_size)))⟩
end Go.Proofs.Ytlfmffjlmhpcdaa

/- quiverlaw13.two, quiverlaw13.wakes. -/
namespace Go.Proofs.Ytlfmffjlmhpcdaa
open Go.RowKit
set_option maxRecDepth 100000
attribute [local irreducible] Der

def twoC (s1 s2 : Value) : List Cel := ((List.replicate 96 freeC).set 0 ⟨true, 2, 1, 0, s1, [4]⟩).set 1 ⟨true, 7, 1, 0, s2, [9]⟩
def twoV (w : World) (v : Value) : Prop := ∃ v' s1 s2, v = .agg #[v'] ∧ CelsV w v' (twoC s1 s2)
theorem twoV.grown {w w' : World} {v : Value} (h : twoV w v) (hb : Below w.heap.size w w') : twoV w' v := by
  obtain ⟨v', s1, s2, e, hc⟩ := h
  exact ⟨v', s1, s2, e, hc.grown hb⟩
theorem vec_one (w : World) (x : Int) : VecV (w.alloc (.cells #[.int .i32 x] 21)) (.slice (some ⟨w.heap.size, 0, none⟩) 1 1) [x] :=
  ⟨Sl.fresh w 21 1 [.int .i32 x] rfl (by omega), NilA.of_some _ _ _⟩
theorem vec_one' (w : World) (x : Int) {b : Nat} (hb : b = w.heap.size) : VecV (w.alloc (.cells #[.int .i32 x] 21)) (.slice (some ⟨b, 0, none⟩) 1 1) [x] := by subst hb; exact vec_one w x
theorem own_one (w : World) (x : Int) {b : Nat} (hb : b = w.heap.size) : (w.alloc (.cells #[.int .i32 x] 21)).ownsRow b 21 1 (.slice (some ⟨b, 0, none⟩) 1 1) 1 [.int .i32 x] := by subst hb; exact owns_built w _ _
theorem vec_own {w : World} {B : Nat} {v : Value} {x : Int} (h : w.ownsRow B 21 1 v 1 [.int .i32 x]) : VecV w v [x] := ⟨Sl.of_owns h, NilA.of_owns h⟩
theorem free_ok (w : World) : ∀ c ∈ List.replicate 96 freeC, VecV w c.sv c.vec := fun c hc => by rw [(List.mem_replicate.1 hc).2]; exact VecV.nil w
theorem set_ok {w : World} {l : List Cel} (h : ∀ c ∈ l, VecV w c.sv c.vec) (k : Nat) {c : Cel} (hc : VecV w c.sv c.vec) : ∀ x ∈ l.set k c, VecV w x.sv x.vec := fun x hx => by
  rcases List.mem_or_eq_of_mem_set hx with h1 | rfl
  · exact h x h1
  · exact hc
set_option maxHeartbeats 4000000 in
theorem l13_two (w : World) : Calls Try.prog 40 #[] w fun e w' => (∃ v, e = .returned v ∧ twoV w' v) ∧ Below w.heap.size w w' := by
  go_enter Try.func40, Try.ntmps40
  go_wp2_with fail
  refine (r9New _).mono ?_
  rintro e w1 ⟨⟨v, rfl, ho⟩, hb1⟩
  obtain ⟨a, c, rfl⟩ := own_slice ho
  have HO := Lib.hid ho
  have hB1 : Below w.heap.size w w1 := by ((have shb1 := hb1.size); (try simp at shb1); (repeat' (first | (with_reducible exact Below.refl _ _) | (with_reducible refine Below.setCell ?_ ?_ _) | (with_reducible refine Below.alloc ?_ ?_ _) | (with_reducible refine Below.drew ?_) | (with_reducible refine Below.trans ?_ (Below.mono hb1 ?_)) | go_size)))
  have z1w0 : w.heap.size < w1.heap.size := (by have := hb1.size; (try simp at this); omega)
  have q1w0 := fun o => hb1.cell (p := ⟨w.heap.size, o, none⟩) (by first | omega | (simp; done) | (simp; omega))
  have r1w0 := fun o => hb1.frozen (p := ⟨w.heap.size, o, none⟩) (by first | omega | (simp; done) | (simp; omega))
  clear ho
  go_wp2_with fail
  have hl0 : (List.replicate 96 freeC).length = 96 := List.length_replicate
  have hV1 := vec_one w1 4
  have HOv := Lib.hid (own_one w1 4 rfl)
  have hA1 : Below w1.heap.size w1 (w1.alloc (.cells #[.int .i32 4] 21)) := (Below.refl _ _).alloc (Nat.le_refl _) _
  have hC1 : CelsV (w1.alloc (.cells #[.int .i32 4] 21)) (.slice a 96 c) (List.replicate 96 freeC) := CelsV.of_own (owns_below HO.out hA1) hl0.symm (free_ok _)
  refine (r9With _ (List.replicate 96 freeC) 0 (by rw [hl0]; omega) (by rw [hl0]; omega) ⟨true, 2, 1, 0, .slice (some ⟨w1.heap.size, 0, none⟩) 1 1, [4]⟩ _ hC1 hV1).mono ?_
  rintro e w2 ⟨⟨v, rfl, ho2⟩, hb2⟩
  rw [hl0] at ho2
  obtain ⟨a2, c2, rfl⟩ := own_slice ho2
  have hB2 : Below w.heap.size w w2 := by ((have shb2 := hb2.size); (try simp at shb2); (have shB1 := hB1.size); (try simp at shB1); (repeat' (first | (with_reducible exact Below.refl _ _) | (with_reducible refine Below.setCell ?_ ?_ _) | (with_reducible refine Below.alloc ?_ ?_ _) | (with_reducible refine Below.drew ?_) | (with_reducible refine Below.trans ?_ (Below.mono hb2 ?_)) | (with_reducible refine Below.trans ?_ (Below.mono hB1 ?_)) | go_size)))
  have hV2 : VecV w2 (.slice (some ⟨w1.heap.size, 0, none⟩) 1 1) [4] := hV1.grown hb2
  have hC2 : CelsV w2 (.slice a2 96 c2) ((List.replicate 96 freeC).set 0 ⟨true, 2, 1, 0, .slice (some ⟨w1.heap.size, 0, none⟩) 1 1, [4]⟩) := CelsV.of_own ho2 (by rw [List.length_set, hl0]) (set_ok (free_ok _) 0 hV2)
  have HC2 := Lib.hid hC2
  have HV2 := Lib.hid hV2
  have d0 : w2.cell? ⟨w.heap.size, 0, none⟩ = some (.slice none 0 0) := (hb2.cell (p := ⟨w.heap.size, 0, none⟩) (by simp; omega)).trans ((hA1.cell (p := ⟨w.heap.size, 0, none⟩) z1w0).trans (by rw [q1w0]; go_simp))
  have d1 : w2.frozen? ⟨w.heap.size, 0, none⟩ = false := (hb2.frozen (p := ⟨w.heap.size, 0, none⟩) (by simp; omega)).trans ((hA1.frozen (p := ⟨w.heap.size, 0, none⟩) z1w0).trans (by rw [r1w0]; go_simp))
  have hs2 : w.heap.size < w2.heap.size := by have := hb2.size; simp at this; omega
  have HN := Lib.hid (fun (s1 : Value) => (show ((List.replicate 96 freeC).set 0 ⟨true, 2, 1, 0, s1, [4]⟩).length = 96 from by rw [List.length_set, hl0]))
  clear ho2 hV1 hC1 hA1 hC2 hV2 q1w0 r1w0 hl0
  go_wp2_with fail
  have hV1 := vec_one' (w2.alloc (.cells #[.slice a2 96 c2] 37)) 9 (b := w2.heap.size + 1) (by simp)
  have HOu := Lib.hid (own_one (w2.alloc (.cells #[.slice a2 96 c2] 37)) 9 (b := w2.heap.size + 1) (by simp))
  have hB3 : Below w2.heap.size w2 ((w2.alloc (.cells #[.slice a2 96 c2] 37)).alloc (.cells #[.int .i32 9] 21)) := by ((repeat' (first | (with_reducible exact Below.refl _ _) | (with_reducible refine Below.setCell ?_ ?_ _) | (with_reducible refine Below.alloc ?_ ?_ _) | (with_reducible refine Below.drew ?_) | (with_reducible refine Below.trans ?_ (Below.mono (by assumption) ?_)) | go_size)))
  refine (r9With (.slice a2 96 c2) ((List.replicate 96 freeC).set 0 ⟨true, 2, 1, 0, .slice (some ⟨w1.heap.size, 0, none⟩) 1 1, [4]⟩) 1 (by rw [HN.out]; omega) (by rw [HN.out]; omega) ⟨true, 7, 1, 0, .slice (some ⟨w2.heap.size + 1, 0, none⟩) 1 1, [9]⟩ _ (HC2.out.grown hB3) hV1).mono ?_
  rintro e w3 ⟨⟨v, rfl, ho3⟩, hb3⟩
  rw [HN.out] at ho3
  obtain ⟨a3, c3, rfl⟩ := own_slice ho3
  have hB4 : Below w.heap.size w w3 := by ((have shb3 := hb3.size); (try simp at shb3); (have shB2 := hB2.size); (try simp at shB2); (repeat' (first | (with_reducible exact Below.refl _ _) | (with_reducible refine Below.setCell ?_ ?_ _) | (with_reducible refine Below.alloc ?_ ?_ _) | (with_reducible refine Below.drew ?_) | (with_reducible refine Below.trans ?_ (Below.mono hb3 ?_)) | (with_reducible refine Below.trans ?_ (Below.mono hB2 ?_)) | go_size)))
  have hC3 : CelsV w3 (.slice a3 96 c3) (twoC (.slice (some ⟨w1.heap.size, 0, none⟩) 1 1) (.slice (some ⟨w2.heap.size + 1, 0, none⟩) 1 1)) :=
    CelsV.of_own ho3 (by unfold twoC; rw [List.length_set, HN.out]) (set_ok (set_ok (free_ok _) 0 ((HV2.out.grown hB3).grown hb3)) 1 (hV1.grown hb3))
  have HC3 := Lib.hid hC3
  have e0 : w3.cell? ⟨w.heap.size, 0, none⟩ = some (.slice none 0 0) := (hb3.cell (p := ⟨w.heap.size, 0, none⟩) (by simp; omega)).trans ((hB3.cell (p := ⟨w.heap.size, 0, none⟩) hs2).trans d0)
  have e1 : w3.frozen? ⟨w.heap.size, 0, none⟩ = false := (hb3.frozen (p := ⟨w.heap.size, 0, none⟩) (by simp; omega)).trans ((hB3.frozen (p := ⟨w.heap.size, 0, none⟩) hs2).trans d1)
  have HW := Lib.hid ho3
  have HOv3 := Lib.hid (owns_below (owns_below (owns_below HOv.out hb2) hB3) hb3)
  have HOu3 := Lib.hid (owns_below HOu.out hb3)
  have hz2 : w1.heap.size ≤ w2.heap.size := by have := hb2.size; simp at this; omega
  clear ho3 hV1 hC3
  go_wp2
  refine bodyPost_ret (v := .agg #[.slice a3 96 c3]) (by simp only [results, Try.results40]; go_simp) rfl ⟨⟨_, rfl, _, .slice (some ⟨w1.heap.size, 0, none⟩) 1 1, .slice (some ⟨w2.heap.size + 1, 0, none⟩) 1 1, rfl, ?_⟩, ?_⟩
  · refine CelsV.of_own (own_setCell HW.out (by simp; omega) _) (by unfold twoC; rw [List.length_set, HN.out]) (set_ok (set_ok (free_ok _) 0 ?_) 1 ?_)
    · exact vec_own (own_setCell HOv3.out (by omega) _)
    · exact vec_own (own_setCell HOu3.out (by omega) _)
  · ((have shB4 := hB4.size); (try simp at shB4); (repeat' (first | (with_reducible exact Below.refl _ _) | (with_reducible refine Below.setCell ?_ ?_ _) | (with_reducible refine Below.alloc ?_ ?_ _) | (with_reducible refine Below.drew ?_) | (with_reducible refine Below.trans ?_ (Below.mono hB4 ?_)) | go_size)))
/-- The lists of the claims' own example. -/
def twoL (u1 u2 : Value) : List PV := [(u1, [0]), (u2, [10])]
def twoM : List M := [(1, 0), (2, 0)]
theorem two_E (s1 s2 u1 u2 : Value) : buildE (twoC s1 s2) (twoL u1 u2) = 0 := by kernel_rfl
theorem two_C (s1 s2 u1 u2 : Value) : buildC (twoC s1 s2) (twoL u1 u2) = twoL u1 u2 := by kernel_rfl
theorem two_M (s1 s2 u1 u2 : Value) : buildMs (twoC s1 s2) (twoL u1 u2) = twoM := by kernel_rfl
theorem two_W (u1 u2 : Value) : whereF (twoL u1 u2) twoM 1 = (1, true) := by kernel_rfl
theorem two_A (s1 s2 u1 u2 : Value) : agreesF (twoL u1 u2) twoM (twoC s1 s2) = true := by kernel_rfl
set_option maxHeartbeats 8000000 in
theorem l13_wakes (w : World) : Calls Try.prog 9 #[] w fun e w' => e = .returned (.bool true) ∧ Below w.heap.size w w' := by
  go_enter Try.func9, Try.ntmps9
  go_wp2_with fail
  refine (l13_two _).mono ?_
  rintro e w1 ⟨⟨v, rfl, hv⟩, hb1⟩
  obtain ⟨v', s1, s2, rfl, hcel⟩ := hv
  obtain ⟨a, cap, rfl, -⟩ := hcel.open
  have HC := Lib.hid (fun W (hb : Below w1.heap.size w1 W) => hcel.grown hb)
  have hB1 : Below w.heap.size w w1 := by ((have shb1 := hb1.size); (try simp at shb1); (repeat' (first | (with_reducible exact Below.refl _ _) | (with_reducible refine Below.setCell ?_ ?_ _) | (with_reducible refine Below.alloc ?_ ?_ _) | (with_reducible refine Below.drew ?_) | (with_reducible refine Below.trans ?_ (Below.mono hb1 ?_)) | go_size)))
  clear hcel
  go_wp2_with fail
  have hV : VecsV (((w1.alloc (.cells #[.int .i32 0] 21)).alloc (.cells #[.int .i32 10] 21)).alloc (.cells #[.slice (some ⟨w1.heap.size, 0, none⟩) 1 1, .slice (some ⟨w1.heap.size + 1, 0, none⟩) 1 1] 56)) (.slice (some ⟨w1.heap.size + 1 + 1, 0, none⟩) 2 2)
      (twoL (.slice (some ⟨w1.heap.size, 0, none⟩) 1 1) (.slice (some ⟨w1.heap.size + 1, 0, none⟩) 1 1)) := by
    refine ⟨⟨Sl.fresh _ 56 2 [.slice (some ⟨w1.heap.size, 0, none⟩) 1 1, .slice (some ⟨w1.heap.size + 1, 0, none⟩) 1 1] (by simp) (by omega), NilA.of_some _ _ _⟩, fun p hp => ?_⟩
    simp only [twoL, List.mem_cons, List.not_mem_nil, or_false] at hp
    rcases hp with rfl | rfl
    · exact (vec_one w1 0).grown (by ((repeat' (first | (with_reducible exact Below.refl _ _) | (with_reducible refine Below.setCell ?_ ?_ _) | (with_reducible refine Below.alloc ?_ ?_ _) | (with_reducible refine Below.drew ?_) | (with_reducible refine Below.trans ?_ (Below.mono (by assumption) ?_)) | go_size))))
    · exact (vec_one' (w1.alloc (.cells #[.int .i32 0] 21)) 10 (by simp)).grown (by ((repeat' (first | (with_reducible exact Below.refl _ _) | (with_reducible refine Below.setCell ?_ ?_ _) | (with_reducible refine Below.alloc ?_ ?_ _) | (with_reducible refine Below.drew ?_) | (with_reducible refine Below.trans ?_ (Below.mono (by assumption) ?_)) | go_size))))
  have hB2 : Below w1.heap.size w1 (((w1.alloc (.cells #[.int .i32 0] 21)).alloc (.cells #[.int .i32 10] 21)).alloc (.cells #[.slice (some ⟨w1.heap.size, 0, none⟩) 1 1, .slice (some ⟨w1.heap.size + 1, 0, none⟩) 1 1] 56)) := by ((repeat' (first | (with_reducible exact Below.refl _ _) | (with_reducible refine Below.setCell ?_ ?_ _) | (with_reducible refine Below.alloc ?_ ?_ _) | (with_reducible refine Below.drew ?_) | (with_reducible refine Below.trans ?_ (Below.mono (by assumption) ?_)) | go_size)))
  refine (f_build _ _ (twoC s1 s2) (twoL _ _) (Nat.le_trans (Nat.le_of_eq (rfl : _ = 2)) (by omega)) _ (HC.out _ hB2) hV).mono ?_
  rintro e w2 ⟨⟨x, rfl, hx⟩, hb2⟩
  rw [two_E]
  rw [two_C, two_M] at hx
  obtain ⟨xa, xc, ya, yc, rfl⟩ := hx.form
  obtain ⟨v1, v2, ev, hz1, hz2, -⟩ := hx.toV (hV.grown hb2).2
  simp only [Value.agg.injEq, Array.mk.injEq, List.cons.injEq, and_true] at ev
  obtain ⟨rfl, rfl⟩ := ev
  have HZ1 := Lib.hid (fun W (hb : Below w2.heap.size w2 W) => hz1.grown hb)
  have HZ2 := Lib.hid (fun W (hb : Below w2.heap.size w2 W) => hz2.grown hb)
  have HCw := Lib.hid (fun W (hb : Below w2.heap.size w2 W) => HC.out W (hB2.trans (hb2.trans (hb.mono hb2.size) |>.mono hB2.size)))
  have hBw : Below w.heap.size w w2 := by ((have shb2 := hb2.size); (try simp at shb2); (have shB2 := hB2.size); (try simp at shB2); (have shB1 := hB1.size); (try simp at shB1); (repeat' (first | (with_reducible exact Below.refl _ _) | (with_reducible refine Below.setCell ?_ ?_ _) | (with_reducible refine Below.alloc ?_ ?_ _) | (with_reducible refine Below.drew ?_) | (with_reducible refine Below.trans ?_ (Below.mono hb2 ?_)) | (with_reducible refine Below.trans ?_ (Below.mono hB2 ?_)) | (with_reducible refine Below.trans ?_ (Below.mono hB1 ?_)) | go_size)))
  clear hx hV hz1 hz2
  generalize (Value.slice (some ⟨w1.heap.size, 0, none⟩) 1 1) = u1 at *
  generalize (Value.slice (some ⟨w1.heap.size + 1, 0, none⟩) 1 1) = u2 at *
  rw [show (twoL u1 u2).length = 2 from rfl] at HZ1 ⊢
  rw [show twoM.length = 2 from rfl] at HZ2 ⊢
  obtain ⟨m, cm, em, -, -, hmc⟩ := (HZ2.out _ (Below.refl _ _)).open
  rw [show twoM.length = 2 from rfl] at em
  simp only [Value.slice.injEq, true_and] at em
  obtain ⟨rfl, rfl⟩ := em
  obtain ⟨b, off, rfl, hlt, g1, g2⟩ := hmc 0 (by decide)
  obtain ⟨b', off', hbo, -, g3, g4⟩ := hmc 1 (by decide)
  simp only [Option.some.injEq, Addr.mk.injEq, and_true] at hbo
  obtain ⟨rfl, rfl⟩ := hbo
  clear hmc
  go_wp2_with fail
  refine (f_Where _ _ (twoL u1 u2) twoM 1 (by decide) _ (HZ1.out _ (by ((repeat' (first | (with_reducible exact Below.refl _ _) | (with_reducible refine Below.setCell ?_ ?_ _) | (with_reducible refine Below.alloc ?_ ?_ _) | (with_reducible refine Below.drew ?_) | (with_reducible refine Below.trans ?_ (Below.mono (by assumption) ?_)) | go_size))))) (HZ2.out _ (by ((repeat' (first | (with_reducible exact Below.refl _ _) | (with_reducible refine Below.setCell ?_ ?_ _) | (with_reducible refine Below.alloc ?_ ?_ _) | (with_reducible refine Below.drew ?_) | (with_reducible refine Below.trans ?_ (Below.mono (by assumption) ?_)) | go_size)))))).mono ?_
  rintro e w3 ⟨rfl, hb3⟩
  rw [two_W]
  have z3w20 : w2.heap.size < w3.heap.size := (by have := hb3.size; (try simp at this); omega)
  have q3w20 := fun o => hb3.cell (p := ⟨w2.heap.size, o, none⟩) (by first | omega | (simp; done) | (simp; omega))
  have r3w20 := fun o => hb3.frozen (p := ⟨w2.heap.size, o, none⟩) (by first | omega | (simp; done) | (simp; omega))
  have hb3' : Below w2.heap.size w2 w3 := by ((have shb3 := hb3.size); (try simp at shb3); (repeat' (first | (with_reducible exact Below.refl _ _) | (with_reducible refine Below.setCell ?_ ?_ _) | (with_reducible refine Below.alloc ?_ ?_ _) | (with_reducible refine Below.drew ?_) | (with_reducible refine Below.trans ?_ (Below.mono hb3 ?_)) | go_size)))
  have hB3 : Below w.heap.size w w3 := by ((have shb3' := hb3'.size); (try simp at shb3'); (have shBw := hBw.size); (try simp at shBw); (repeat' (first | (with_reducible exact Below.refl _ _) | (with_reducible refine Below.setCell ?_ ?_ _) | (with_reducible refine Below.alloc ?_ ?_ _) | (with_reducible refine Below.drew ?_) | (with_reducible refine Below.trans ?_ (Below.mono hb3' ?_)) | (with_reducible refine Below.trans ?_ (Below.mono hBw ?_)) | go_size)))
  have c0 : w3.cell? ⟨w2.heap.size, 0, none⟩ = some (.slice xa 2 xc) := by rw [q3w20]; go_simp
  have c1 : w3.cell? ⟨w2.heap.size, 1, none⟩ = some (.slice (some ⟨b, off, none⟩) 2 yc) := by rw [q3w20]; go_simp
  have e1 : w3.cell? ⟨b, off, none⟩ = some (.int .u64 1) := (hb3'.cell (p := ⟨b, off + 0 * 2, none⟩) hlt).trans g1
  have e2 : w3.cell? ⟨b, off + 1, none⟩ = some (.int .u64 0) := (hb3'.cell (p := ⟨b, off + 0 * 2 + 1, none⟩) hlt).trans g2
  have e3 : w3.cell? ⟨b, off + 2, none⟩ = some (.int .u64 2) := (hb3'.cell (p := ⟨b, off + 1 * 2, none⟩) hlt).trans g3
  have e4 : w3.cell? ⟨b, off + 2 + 1, none⟩ = some (.int .u64 0) := (hb3'.cell (p := ⟨b, off + 1 * 2 + 1, none⟩) hlt).trans g4
  have e5 : w3.cell? ⟨b, off + 3, none⟩ = some (.int .u64 0) := e4
  have hs3 := hb3'.size
  have zb : b < w3.heap.size := by omega
  clear g1 g2 g3 g4 q3w20 r3w20
  go_wp2
  refine wp_grow [(33, .rel (fun v w => twoV w v) (fun _ _ _ h hg => h.grown hg)), (34, .val (.bool true))] 36 (by kernel_rfl) (by kernel_rfl) (by rfl) (by rfl) ?_
  simp only [List.take_succ_cons, List.take_zero, List.drop_succ_cons, List.drop_zero]
  repeat (first
    | (apply Der.quiet; (rfl); (rfl); (intro w' hw' hctx; have hc' := bcell hw'; have yw20 := fun o => hw'.cell (p := ⟨w2.heap.size, o, none⟩) (by first | omega | (simp; done) | (simp; omega)); have yb := fun o => hw'.cell (p := ⟨b, o, none⟩) zb; clear hctx; go_simp; first | exact rfl | exact ⟨rfl, rfl⟩); simp only [Act.put, List.setIfInBounds_toArray, List.set_cons_succ, List.set_cons_zero, Nat.reduceAdd])
    | (apply Der.skip; (rfl); simp only [Act.put, List.setIfInBounds_toArray, List.set_cons_succ, List.set_cons_zero, Nat.reduceAdd]))
  refine Der.rel (by rfl) (by rfl) (fun w' hw' hctx => ?_) (fun k => ?_)
  · (go_simp; refine (l13_two _).mono ?_; rintro e w4 ⟨⟨v, rfl, hv⟩, hb⟩; exact ⟨_, rfl, hv, hb⟩)
  simp only [Act.put, List.setIfInBounds_toArray, List.set_cons_succ, List.set_cons_zero, Nat.reduceAdd]
  refine Der.val (by rfl) (by rfl) (fun w' hw' hctx => ?_) ?_
  · have hk : twoV w' k := (hctx 33 _ _ (by kernel_rfl) rfl rfl)
    clear hctx
    obtain ⟨v', t1, t2, rfl, hcel⟩ := hk
    have hbw' : Below w2.heap.size w2 w' := by have := (undrew hw'); ((have sthis := this.size); (try simp at sthis); (have shb3' := hb3'.size); (try simp at shb3'); (repeat' (first | (with_reducible exact Below.refl _ _) | (with_reducible refine Below.setCell ?_ ?_ _) | (with_reducible refine Below.alloc ?_ ?_ _) | (with_reducible refine Below.drew ?_) | (with_reducible refine Below.trans ?_ (Below.mono this ?_)) | (with_reducible refine Below.trans ?_ (Below.mono hb3' ?_)) | go_size)))
    go_simp
    refine (f_Agrees _ _ _ (twoL u1 u2) twoM (twoC t1 t2) (Nat.le_trans (Nat.le_of_eq (rfl : _ = 2)) (by omega)) _ (HZ1.out _ hbw') (HZ2.out _ hbw') hcel).mono ?_
    rintro e w5 ⟨rfl, hb⟩
    exact ⟨_, rfl, congrArg Value.bool (two_A t1 t2 u1 u2), hb⟩
  simp only [Act.put, List.setIfInBounds_toArray, List.set_cons_succ, List.set_cons_zero, Nat.reduceAdd]
  repeat (first
    | (apply Der.quiet; (rfl); (rfl); (intro w' hw' hctx; have hc' := bcell hw'; clear hctx; go_simp; first | exact rfl | exact ⟨rfl, rfl⟩); simp only [Act.put, List.setIfInBounds_toArray, List.set_cons_succ, List.set_cons_zero, Nat.reduceAdd])
    | (apply Der.skip; (rfl); simp only [Act.put, List.setIfInBounds_toArray, List.set_cons_succ, List.set_cons_zero, Nat.reduceAdd]))
  refine Der.nil (fun w4 hgw4 hctx => ?_)
  clear hctx
  have hb4 : Below _ _ w4 := hgw4
  clear hgw4
  go_wp2
  go_ret
  exact ⟨rfl, by ((have shb4 := hb4.size); (try simp at shb4); (have shB3 := hB3.size); (try simp at shB3); (repeat' (first | (with_reducible exact Below.refl _ _) | (with_reducible refine Below.setCell ?_ ?_ _) | (with_reducible refine Below.alloc ?_ ?_ _) | (with_reducible refine Below.drew ?_) | (with_reducible refine Below.trans ?_ (Below.mono hb4 ?_)) | (with_reducible refine Below.trans ?_ (Below.mono hB3 ?_)) | go_size)))⟩
end Go.Proofs.Ytlfmffjlmhpcdaa
