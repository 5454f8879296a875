/- The document's word on lists: quiverref13.Right, quiverref13.Where. -/
import Derived.Test.YtlfmffjlmhpcdaaListsC
import Derived.Test.YtlfmffjlmhpcdaaRefF
namespace Go.Proofs.Ytlfmffjlmhpcdaa
open Go.RowKit
set_option maxRecDepth 100000
attribute [local irreducible] Der

theorem hasM_ofAll (l : List Int) (hl : ∀ x ∈ l, isSlot x) (s : Int) (hs : isSlot s) : hasM (ofAll l) s = decide (s ∈ l) := by
  obtain ⟨h0, h1⟩ := hs
  by_cases h : s < 64
  · obtain ⟨i, rfl⟩ : ∃ i : Nat, s = i := ⟨s.toNat, by omega⟩
    rw [hasM_1 _ i (by omega), ofAll_bit1 l i (by omega) hl]
  · obtain ⟨i, rfl⟩ : ∃ i : Nat, s = (i : Int) + 64 := ⟨(s - 64).toNat, by omega⟩
    rw [hasM_2 _ i (by omega), ofAll_bit2 l i (by omega) hl]
theorem has_and (l : List M) (s : Int) (hs : isSlot s) : hasM (andAll l) s = true ↔ ∀ m ∈ l, hasM m s = true := by
  rw [← set_and, hasM_ofAll _ (andL_slot l) s hs, decide_eq_true_iff, mem_andL]
  exact ⟨fun h => h.2, fun h => ⟨hs, h⟩⟩
theorem has_or (l : List M) (s : Int) (hs : isSlot s) : hasM (orF l) s = true ↔ ∃ m ∈ l, hasM m s = true := by
  rw [← set_or, hasM_ofAll _ (orL_slot l) s hs, decide_eq_true_iff, mem_orL]
  exact ⟨fun h => h.2, fun h => ⟨hs, h⟩⟩
/-- Do masks i and j have slot s in common? -/
def bothM (ms : List M) (i j : Nat) (s : Int) : Bool := hasN (mAt ms i) s && hasN (mAt ms j) s
theorem has_met (ms : List M) (i : Nat) (hi : i ≤ ms.length) (s : Int) (hs : isSlot s) : hasM (metM ms i) s = true ↔ ∃ j, j < i ∧ bothM ms i j s = true := by
  unfold metM
  rw [has_and _ s hs]
  unfold bothM
  simp only [List.mem_cons, List.not_mem_nil, or_false, forall_eq_or_imp, forall_eq, has_or _ s hs, hasN_yes hs, Bool.and_eq_true]
  constructor
  · rintro ⟨h1, m, hm, h2⟩
    obtain ⟨j, hj, rfl⟩ := List.mem_iff_getElem.1 hm
    have hj' : j < i := by rw [List.length_take] at hj; omega
    refine ⟨j, hj', h1, ?_⟩
    rw [mAt_get (by omega)]
    rw [List.getElem_take] at h2
    exact h2
  · rintro ⟨j, hj, h1, h2⟩
    refine ⟨h1, mAt ms j, ?_, h2⟩
    rw [mAt_get (by omega)]
    exact List.mem_iff_getElem.2 ⟨j, by rw [List.length_take]; omega, by rw [List.getElem_take]⟩
theorem cnt_zero (m : M) : cntF m.1 m.2 = 0 ↔ ∀ s, isSlot s → hasM m s = false := by
  rw [cnt_list]
  constructor
  · intro h s hs
    have h0 : slotsK m 96 = [] := List.length_eq_zero_iff.1 (by omega)
    cases hh : hasM m s
    · rfl
    · have := (mem_slotsK m s 96).2 ⟨hs, hh⟩
      rw [h0] at this; cases this
  · intro h
    cases hl : slotsK m 96 with
    | nil => rfl
    | cons x t =>
      have hx := (mem_slotsK m x 96).1 (by rw [hl]; exact List.mem_cons_self)
      rw [h x hx.1] at hx; cases hx.2
theorem ok_no {ms : List M} {i j : Nat} {s : Int} (hi : i < ms.length) (hj : j < i) (hs : isSlot s) (h : bothM ms i j s = true) : okAt ms i = false := by
  unfold okAt
  rw [decide_eq_false (p := cntF (metM ms i).1 (metM ms i).2 = 0), Bool.and_false]
  intro e
  have h1 := (cnt_zero _).1 e s hs
  rw [(has_met ms i (by omega) s hs).2 ⟨j, hj, h⟩] at h1
  cases h1
theorem ok_yes {ms : List M} {i : Nat} (hi : i < ms.length) (hc : chk (mAt ms i).2 = 0) (h : ∀ j, j < i → ∀ s : Nat, s < 96 → bothM ms i j s = false) : okAt ms i = true := by
  unfold okAt
  rw [decide_eq_true hc, decide_eq_true ((cnt_zero _).2 fun s hs => ?_)]
  · rfl
  · cases hh : hasM (metM ms i) s
    · rfl
    · obtain ⟨j, hj, hb⟩ := (has_met ms i (by omega) s hs).1 hh
      obtain ⟨h0, h1⟩ := hs
      obtain ⟨k, rfl⟩ : ∃ k : Nat, s = k := ⟨s.toNat, by omega⟩
      rw [h j hj k (by omega)] at hb; cases hb
theorem ok_bad {ms : List M} {i : Nat} (h : decide (chk (mAt ms i).2 = 0) = false) : okAt ms i = false := by unfold okAt; rw [h]; rfl
set_option maxHeartbeats 4000000 in
theorem r13Right (vc vm : Value) (cs : List PV) (ms : List M) (w : World) (hc : VecsV w vc cs) (hm : Masks w vm ms) : Calls Try.prog 15 #[.agg #[vc, vm]] w fun e w' => e = .returned (.bool (listsOK cs ms)) ∧ Below w.heap.size w w' := by
  obtain ⟨a, cap, rfl, hl1, hm1⟩ : ∃ a cap, vc = .slice a cs.length cap ∧ cs.length ≤ cap ∧ cap ≤ 9223372036854775807 := by
    obtain ⟨a, cap, e, h1, h2, -⟩ := hc.open; exact ⟨a, cap, e, h1, h2⟩
  obtain ⟨a', cap', rfl, hl2, hm2, hcell⟩ := hm.open
  have Hc := Lib.hid hcell
  have HV := Lib.hid (fun W (hb : Below w.heap.size w W) => hc.grown hb)
  clear hc hcell hm
  cases hco : centsOK cs
  · have HE := Lib.hid (show listsOK cs ms = false by unfold listsOK; rw [hco]; rfl)
    have HC := Lib.hid hco
    clear hco
    go_enter Try.func15, Try.ntmps15
    go_wp2_with fail
    refine (r13Centroids _ cs _ (HV.out _ (by ((repeat' (first | (with_reducible exact Below.refl _ _) | (with_reducible refine Below.setCell ?_ ?_ _) | (with_reducible refine Below.alloc ?_ ?_ _) | (with_reducible refine Below.drew ?_) | (with_reducible refine Below.trans ?_ (Below.mono (by assumption) ?_)) | go_size)))))).mono ?_
    rintro e w1 ⟨rfl, hb1⟩
    rw [HC.out]
    go_wp2
    go_ret
    exact ⟨by rw [HE.out]; rfl, by ((have shb1 := hb1.size); (try simp at shb1); (repeat' (first | (with_reducible exact Below.refl _ _) | (with_reducible refine Below.setCell ?_ ?_ _) | (with_reducible refine Below.alloc ?_ ?_ _) | (with_reducible refine Below.drew ?_) | (with_reducible refine Below.trans ?_ (Below.mono hb1 ?_)) | go_size)))⟩
  · by_cases hl : ms.length = cs.length
    · have HE := Lib.hid (show listsOK cs ms = masksOK ms by unfold listsOK; rw [hco, decide_eq_true hl]; rfl)
      have HC := Lib.hid hco
      have HN := Lib.hid (fun k (h : k < ms.length) (hh : okAt ms k = false) => HE.out.trans (masksOK_no h hh))
      have HY := Lib.hid (fun (h : ∀ k, k < ms.length → okAt ms k = true) => HE.out.trans (masksOK_yes h))
      clear hco
      rw [← hl] at HV hl1 ⊢
      clear hl
      go_enter Try.func15, Try.ntmps15
      go_wp2_with fail
      refine (r13Centroids _ cs _ (HV.out _ (by ((repeat' (first | (with_reducible exact Below.refl _ _) | (with_reducible refine Below.setCell ?_ ?_ _) | (with_reducible refine Below.alloc ?_ ?_ _) | (with_reducible refine Below.drew ?_) | (with_reducible refine Below.trans ?_ (Below.mono (by assumption) ?_)) | go_size)))))).mono ?_
      rintro e w1 ⟨rfl, hb1⟩
      rw [HC.out]
      have z1w0 : w.heap.size < w1.heap.size := (by have := hb1.size; (try simp at this); omega)
      have q1w0 := fun o => hb1.cell (p := ⟨w.heap.size, o, none⟩) (by first | omega | (simp; done) | (simp; omega))
      have r1w0 := fun o => hb1.frozen (p := ⟨w.heap.size, o, none⟩) (by first | omega | (simp; done) | (simp; omega))
      have hB1 : Below w.heap.size w w1 := by ((have shb1 := hb1.size); (try simp at shb1); (repeat' (first | (with_reducible exact Below.refl _ _) | (with_reducible refine Below.setCell ?_ ?_ _) | (with_reducible refine Below.alloc ?_ ?_ _) | (with_reducible refine Below.drew ?_) | (with_reducible refine Below.trans ?_ (Below.mono hb1 ?_)) | go_size)))
      have c0 : w1.cell? ⟨w.heap.size, 0, none⟩ = some (.slice a ms.length cap) := by rw [q1w0]; go_simp
      have c1 : w1.cell? ⟨w.heap.size, 1, none⟩ = some (.slice a' ms.length cap') := by rw [q1w0]; go_simp
      clear q1w0 r1w0 hb1
      go_wp2
      go_loopw [3] (fun i wr => ∃ k : Nat, k ≤ ms.length ∧ i = .int .i64 k ∧ (∀ j, j < k → okAt ms j = true) ∧ Below w1.heap.size w1 wr) (fun i _ => ms.length - (intOf i).toNat)
      case atStart => exact ⟨0, Nat.zero_le _, rfl, fun j hj => absurd hj (Nat.not_lt_zero _), Below.refl _ _⟩
      case round =>
        obtain ⟨k, hk, rfl, hok, hbr⟩ := hrel
        have HK := Lib.hid hok
        clear hok
        have hBr : Below w.heap.size w wr := by ((have shbr := hbr.size); (try simp at shbr); (have shB1 := hB1.size); (try simp at shB1); (repeat' (first | (with_reducible exact Below.refl _ _) | (with_reducible refine Below.setCell ?_ ?_ _) | (with_reducible refine Below.alloc ?_ ?_ _) | (with_reducible refine Below.drew ?_) | (with_reducible refine Below.trans ?_ (Below.mono hbr ?_)) | (with_reducible refine Below.trans ?_ (Below.mono hB1 ?_)) | go_size)))
        have d0 := (hbr.cell (p := ⟨w.heap.size, 0, none⟩) z1w0).trans c0
        have d1 := (hbr.cell (p := ⟨w.heap.size, 1, none⟩) z1w0).trans c1
        have zr : w.heap.size < wr.heap.size := by have := hbr.size; omega
        by_cases hlt2 : k < ms.length
        · obtain ⟨b, off, rfl, hlt, g1, g2⟩ := Hc.out k hlt2
          have e1 := (hBr.cell (p := ⟨b, off + k * 2, none⟩) hlt).trans g1
          have e2 := (hBr.cell (p := ⟨b, off + k * 2 + 1, none⟩) hlt).trans g2
          have HNk := Lib.hid (HN.out k hlt2)
          have HM := Lib.hid (mAt_get hlt2)
          have HBad := Lib.hid (ok_bad (ms := ms) (i := k))
          have HYes := Lib.hid (ok_yes (ms := ms) hlt2)
          have HNo := Lib.hid (fun j s (hj : j < k) (hs : isSlot s) => ok_no hlt2 hj hs)
          have HBo := Lib.hid (fun j (s : Int) => (show bothM ms k j s = (hasN (mAt ms k) s && hasN (mAt ms j) s) from rfl))
          rw [HM.out] at HBad HYes HBo
          clear HM
          generalize ms[k] = y at *
          obtain ⟨y1, y2⟩ := y
          simp only at e1 e2
          go_wp2_with fail
          refine (r_Right _ _ _).mono ?_
          rintro e w2 ⟨rfl, hb2⟩
          obtain ⟨q, hq⟩ : ∃ q, decide (chk y2 = 0) = q := ⟨_, rfl⟩
          rw [hq]
          have HQ := Lib.hid hq
          clear hq
          cases q
          · have HF := Lib.hid (HNk.out (HBad.out HQ.out))
            go_wp2
            go_ret
            exact ⟨by rw [HF.out]; rfl, by ((have shb2 := hb2.size); (try simp at shb2); (have shBr := hBr.size); (try simp at shBr); (repeat' (first | (with_reducible exact Below.refl _ _) | (with_reducible refine Below.setCell ?_ ?_ _) | (with_reducible refine Below.alloc ?_ ?_ _) | (with_reducible refine Below.drew ?_) | (with_reducible refine Below.trans ?_ (Below.mono hb2 ?_)) | (with_reducible refine Below.trans ?_ (Below.mono hBr ?_)) | go_size)))⟩
          · have HQ2 := Lib.hid (of_decide_eq_true HQ.out)
            have hb2' : Below w1.heap.size w1 w2 := by ((have shb2 := hb2.size); (try simp at shb2); (have shbr := hbr.size); (try simp at shbr); (repeat' (first | (with_reducible exact Below.refl _ _) | (with_reducible refine Below.setCell ?_ ?_ _) | (with_reducible refine Below.alloc ?_ ?_ _) | (with_reducible refine Below.drew ?_) | (with_reducible refine Below.trans ?_ (Below.mono hb2 ?_)) | (with_reducible refine Below.trans ?_ (Below.mono hbr ?_)) | go_size)))
            have hB2 : Below w.heap.size w w2 := by ((have shb2 := hb2.size); (try simp at shb2); (have shBr := hBr.size); (try simp at shBr); (repeat' (first | (with_reducible exact Below.refl _ _) | (with_reducible refine Below.setCell ?_ ?_ _) | (with_reducible refine Below.alloc ?_ ?_ _) | (with_reducible refine Below.drew ?_) | (with_reducible refine Below.trans ?_ (Below.mono hb2 ?_)) | (with_reducible refine Below.trans ?_ (Below.mono hBr ?_)) | go_size)))
            have z2 : w.heap.size < w2.heap.size := by have := hb2.size; omega
            have d12 := (hb2.cell (p := ⟨w.heap.size, 1, none⟩) zr).trans d1
            have e12 := (hb2.cell (p := ⟨b, off + k * 2, none⟩) (by simp; omega)).trans e1
            have e22 := (hb2.cell (p := ⟨b, off + k * 2 + 1, none⟩) (by simp; omega)).trans e2
            have zb : b < w2.heap.size := by omega
            clear d0 d1 e1 e2
            go_wp2
            go_loopw [4] (fun i wr => ∃ j : Nat, j ≤ k ∧ i = .int .i64 j ∧ (∀ x, x < j → ∀ s : Nat, s < 96 → bothM ms k x s = false) ∧ Below w2.heap.size w2 wr) (fun i _ => k - (intOf i).toNat)
            case atStart => exact ⟨0, Nat.zero_le _, rfl, fun j hj => absurd hj (Nat.not_lt_zero _), Below.refl _ _⟩
            case round =>
              obtain ⟨j, hj, rfl, hoj, hbj⟩ := hrel
              have HJ := Lib.hid hoj
              clear hoj
              have hBj : Below w.heap.size w wr := by ((have shbj := hbj.size); (try simp at shbj); (have shB2 := hB2.size); (try simp at shB2); (repeat' (first | (with_reducible exact Below.refl _ _) | (with_reducible refine Below.setCell ?_ ?_ _) | (with_reducible refine Below.alloc ?_ ?_ _) | (with_reducible refine Below.drew ?_) | (with_reducible refine Below.trans ?_ (Below.mono hbj ?_)) | (with_reducible refine Below.trans ?_ (Below.mono hB2 ?_)) | go_size)))
              by_cases hjk : j < k
              · have hjl : j < ms.length := by omega
                obtain ⟨b', off', hbo, hlt', g1, g2⟩ := Hc.out j hjl
                simp only [Option.some.injEq, Addr.mk.injEq, and_true] at hbo
                obtain ⟨rfl, rfl⟩ := hbo
                have HBj := Lib.hid (fun (s : Int) => HBo.out j s)
                have HNj := Lib.hid (fun s (hs : isSlot s) h => HNk.out (HNo.out j s hjk hs h))
                rw [mAt_get hjl] at HBj
                generalize ms[j] = z at *
                obtain ⟨z1', z2'⟩ := z
                simp only at g1 g2
                obtain ⟨w3, hw3⟩ : ∃ w3, w3 = wr := ⟨_, rfl⟩
                subst hw3
                have h1 := (hBj.cell (p := ⟨b, off + j * 2, none⟩) hlt').trans g1
                have h2 := (hBj.cell (p := ⟨b, off + j * 2 + 1, none⟩) hlt').trans g2
                have d13 := (hbj.cell (p := ⟨w.heap.size, 1, none⟩) z2).trans d12
                have e13 := (hbj.cell (p := ⟨b, off + k * 2, none⟩) zb).trans e12
                have e23 := (hbj.cell (p := ⟨b, off + k * 2 + 1, none⟩) zb).trans e22
                have zb3 : b < w3.heap.size := by have := hbj.size; omega
                have z3 : w.heap.size < w3.heap.size := by have := hbj.size; omega
                clear g1 g2
                go_wp2
                go_loopw [5] (fun i wr => ∃ s : Nat, s ≤ 96 ∧ i = .int .i64 s ∧ (∀ x : Nat, x < s → bothM ms k j x = false) ∧ Below w3.heap.size w3 wr) (fun i _ => 96 - (intOf i).toNat)
                case atStart => exact ⟨0, Nat.zero_le _, rfl, fun j hj => absurd hj (Nat.not_lt_zero _), Below.refl _ _⟩
                case round =>
                  obtain ⟨s, hs, rfl, hos, hbs⟩ := hrel
                  have HS := Lib.hid hos
                  clear hos
                  have hBs : Below w.heap.size w wr := by ((have shbs := hbs.size); (try simp at shbs); (have shBj := hBj.size); (try simp at shBj); (repeat' (first | (with_reducible exact Below.refl _ _) | (with_reducible refine Below.setCell ?_ ?_ _) | (with_reducible refine Below.alloc ?_ ?_ _) | (with_reducible refine Below.drew ?_) | (with_reducible refine Below.trans ?_ (Below.mono hbs ?_)) | (with_reducible refine Below.trans ?_ (Below.mono hBj ?_)) | go_size)))
                  by_cases hs96 : s < 96
                  · have d14 := (hbs.cell (p := ⟨w.heap.size, 1, none⟩) z3).trans d13
                    have e14 := (hbs.cell (p := ⟨b, off + k * 2, none⟩) zb3).trans e13
                    have e24 := (hbs.cell (p := ⟨b, off + k * 2 + 1, none⟩) zb3).trans e23
                    have h14 := (hbs.cell (p := ⟨b, off + j * 2, none⟩) zb3).trans h1
                    have h24 := (hbs.cell (p := ⟨b, off + j * 2 + 1, none⟩) zb3).trans h2
                    have hsz := hbs.size
                    have HBs := Lib.hid (HBj.out (s : Int))
                    have HNs := Lib.hid (HNj.out (s : Int) ⟨by omega, by omega⟩)
                    go_wp2_with fail
                    refine (r_Has_any y1 y2 (s : Int) _).mono ?_
                    rintro e w4 ⟨rfl, hb4⟩
                    obtain ⟨q, hq⟩ : ∃ q, hasN (y1, y2) (s : Int) = q := ⟨_, rfl⟩
                    rw [hq] at HBs ⊢
                    clear hq
                    cases q
                    · have HX := Lib.hid HBs.out
                      have HX2 := Lib.hid (fun (x : Nat) (hx : x < s + 1) => (show bothM ms k j x = false from (by
                        rcases Nat.lt_or_ge x s with h | h
                        · exact HS.out x h
                        · have : x = s := by omega
                          subst this; exact HX.out)))
                      go_wp2
                      go_roundw
                      case rel => exact ⟨s + 1, by omega, by go_num, HX2.out, by ((have shb4 := hb4.size); (try simp at shb4); (have shbs := hbs.size); (try simp at shbs); (repeat' (first | (with_reducible exact Below.refl _ _) | (with_reducible refine Below.setCell ?_ ?_ _) | (with_reducible refine Below.alloc ?_ ?_ _) | (with_reducible refine Below.drew ?_) | (with_reducible refine Below.trans ?_ (Below.mono hb4 ?_)) | (with_reducible refine Below.trans ?_ (Below.mono hbs ?_)) | go_size)))⟩
                      case measure => simp [intOf]; omega
                    · have d15 := (hb4.cell (p := ⟨w.heap.size, 1, none⟩) (by simp; omega)).trans d14
                      have h15 := (hb4.cell (p := ⟨b, off + j * 2, none⟩) (by simp; omega)).trans h14
                      have h25 := (hb4.cell (p := ⟨b, off + j * 2 + 1, none⟩) (by simp; omega)).trans h24
                      go_wp2_with fail
                      refine (r_Has_any z1' z2' (s : Int) _).mono ?_
                      rintro e w5 ⟨rfl, hb5⟩
                      obtain ⟨q, hq⟩ : ∃ q, hasN (z1', z2') (s : Int) = q := ⟨_, rfl⟩
                      rw [hq] at HBs ⊢
                      clear hq
                      cases q
                      · have HX := Lib.hid HBs.out
                        have HX2 := Lib.hid (fun (x : Nat) (hx : x < s + 1) => (show bothM ms k j x = false from (by
                          rcases Nat.lt_or_ge x s with h | h
                          · exact HS.out x h
                          · have : x = s := by omega
                            subst this; exact HX.out)))
                        go_wp2
                        go_roundw
                        case rel => exact ⟨s + 1, by omega, by go_num, HX2.out, by ((have shb5 := hb5.size); (try simp at shb5); (have shb4 := hb4.size); (try simp at shb4); (have shbs := hbs.size); (try simp at shbs); (repeat' (first | (with_reducible exact Below.refl _ _) | (with_reducible refine Below.setCell ?_ ?_ _) | (with_reducible refine Below.alloc ?_ ?_ _) | (with_reducible refine Below.drew ?_) | (with_reducible refine Below.trans ?_ (Below.mono hb5 ?_)) | (with_reducible refine Below.trans ?_ (Below.mono hb4 ?_)) | (with_reducible refine Below.trans ?_ (Below.mono hbs ?_)) | go_size)))⟩
                        case measure => simp [intOf]; omega
                      · have HF := Lib.hid (HNs.out HBs.out)
                        go_wp2
                        go_ret
                        exact ⟨by rw [HF.out]; rfl, by ((have shb5 := hb5.size); (try simp at shb5); (have shb4 := hb4.size); (try simp at shb4); (have shBs := hBs.size); (try simp at shBs); (repeat' (first | (with_reducible exact Below.refl _ _) | (with_reducible refine Below.setCell ?_ ?_ _) | (with_reducible refine Below.alloc ?_ ?_ _) | (with_reducible refine Below.drew ?_) | (with_reducible refine Below.trans ?_ (Below.mono hb5 ?_)) | (with_reducible refine Below.trans ?_ (Below.mono hb4 ?_)) | (with_reducible refine Below.trans ?_ (Below.mono hBs ?_)) | go_size)))⟩
                  · have : s = 96 := by omega
                    subst this
                    have HX2 := Lib.hid (fun (x : Nat) (hx : x < j + 1) (t : Nat) (ht : t < 96) => (show bothM ms k x t = false from (by
                      rcases Nat.lt_or_ge x j with h | h
                      · exact HJ.out x h t ht
                      · have : x = j := by omega
                        subst this; exact HS.out t ht)))
                    go_wp2
                    go_roundw
                    case rel => exact ⟨j + 1, by omega, by go_num, HX2.out, by ((have shbs := hbs.size); (try simp at shbs); (have shbj := hbj.size); (try simp at shbj); (repeat' (first | (with_reducible exact Below.refl _ _) | (with_reducible refine Below.setCell ?_ ?_ _) | (with_reducible refine Below.alloc ?_ ?_ _) | (with_reducible refine Below.drew ?_) | (with_reducible refine Below.trans ?_ (Below.mono hbs ?_)) | (with_reducible refine Below.trans ?_ (Below.mono hbj ?_)) | go_size)))⟩
                    case measure => simp [intOf]; omega
              · have : j = k := by omega
                subst this
                have HKY := Lib.hid (HYes.out HQ2.out HJ.out)
                have HX := Lib.hid (fun (x : Nat) (hx : x < j + 1) => (show okAt ms x = true from (by
                  rcases Nat.lt_or_ge x j with h | h
                  · exact HK.out x h
                  · have : x = j := by omega
                    subst this; exact HKY.out)))
                go_wp2
                go_roundw
                case rel => exact ⟨j + 1, by omega, by go_num, HX.out, by ((have shbj := hbj.size); (try simp at shbj); (have shb2' := hb2'.size); (try simp at shb2'); (repeat' (first | (with_reducible exact Below.refl _ _) | (with_reducible refine Below.setCell ?_ ?_ _) | (with_reducible refine Below.alloc ?_ ?_ _) | (with_reducible refine Below.drew ?_) | (with_reducible refine Below.trans ?_ (Below.mono hbj ?_)) | (with_reducible refine Below.trans ?_ (Below.mono hb2' ?_)) | go_size)))⟩
                case measure => simp [intOf]; omega
        · have : k = ms.length := by omega
          subst this
          have HF := Lib.hid (HY.out HK.out)
          go_wp2
          go_ret
          exact ⟨by rw [HF.out]; rfl, hBr⟩
    · have HE := Lib.hid (show listsOK cs ms = false by unfold listsOK; rw [decide_eq_false hl]; cases centsOK cs <;> rfl)
      have HC := Lib.hid hco
      clear hco
      go_enter Try.func15, Try.ntmps15
      go_wp2_with fail
      refine (r13Centroids _ cs _ (HV.out _ (by ((repeat' (first | (with_reducible exact Below.refl _ _) | (with_reducible refine Below.setCell ?_ ?_ _) | (with_reducible refine Below.alloc ?_ ?_ _) | (with_reducible refine Below.drew ?_) | (with_reducible refine Below.trans ?_ (Below.mono (by assumption) ?_)) | go_size)))))).mono ?_
      rintro e w1 ⟨rfl, hb1⟩
      rw [HC.out]
      have z1w0 : w.heap.size < w1.heap.size := (by have := hb1.size; (try simp at this); omega)
      have q1w0 := fun o => hb1.cell (p := ⟨w.heap.size, o, none⟩) (by first | omega | (simp; done) | (simp; omega))
      have r1w0 := fun o => hb1.frozen (p := ⟨w.heap.size, o, none⟩) (by first | omega | (simp; done) | (simp; omega))
      go_wp2
      go_ret
      exact ⟨by rw [HE.out]; rfl, by ((have shb1 := hb1.size); (try simp at shb1); (repeat' (first | (with_reducible exact Below.refl _ _) | (with_reducible refine Below.setCell ?_ ?_ _) | (with_reducible refine Below.alloc ?_ ?_ _) | (with_reducible refine Below.drew ?_) | (with_reducible refine Below.trans ?_ (Below.mono hb1 ?_)) | go_size)))⟩
end Go.Proofs.Ytlfmffjlmhpcdaa
