/- lists.Same, and the document's Same. -/
import Derived.Test.YtlfmffjlmhpcdaaListsE
namespace Go.Proofs.Ytlfmffjlmhpcdaa
open Go.RowKit
set_option maxRecDepth 100000
attribute [local irreducible] Der

/-- Are lists the same? -/
def sameL (cs : List PV) (ms : List M) (cs' : List PV) (ms' : List M) : Bool := decide (cs.map (·.2) = cs'.map (·.2)) && decide (ms = ms')
def sameP (p q : PV) : Bool := decide (p.2 = q.2)
theorem all2_same : ∀ (l m : List PV), all2 sameP l m = decide (l.map (·.2) = m.map (·.2))
  | [], [] => rfl
  | x :: l, y :: m => by
    unfold all2
    rw [all2_same l m]
    unfold sameP
    by_cases h1 : x.2 = y.2 <;> by_cases h2 : l.map (·.2) = m.map (·.2) <;> simp [h1, h2]
  | [], y :: m => by simp [all2]
  | x :: l, [] => by simp [all2]
theorem vecSame_on (l m : List PV) (w : World) (hl : ∀ p ∈ l, VecV w p.1 p.2) (hm : ∀ p ∈ m, VecV w p.1 p.2) : RelOn 46 #[] argV argV sameP l m w := fun p hp q hq w' hb =>
  f_vecSame p.1 q.1 p.2 q.2 w' ((hl p hp).grown hb) ((hm q hq).grown hb)
theorem enters_vecSame : ∀ args w, (callFunc 46 args).run Try.prog w = .ok (.enter 46 args) w := enters_of Try.func46 (by kernel_rfl) rfl
set_option maxHeartbeats 1000000 in
theorem f_listsSame (vc vm uc um : Value) (cs cs' : List PV) (ms ms' : List M) (w : World) (hc : VecsV w vc cs) (hm : Masks w vm ms) (hc' : VecsV w uc cs') (hm' : Masks w um ms') :
    Calls Try.prog 13 #[.agg #[vc, vm], .agg #[uc, um]] w fun e w' => e = .returned (.bool (sameL cs ms cs' ms')) ∧ Below w.heap.size w w' := by
  obtain ⟨a, cap, rfl, -⟩ := hc.open
  obtain ⟨a', cap', rfl, -⟩ := hm.open
  obtain ⟨b, cbp, rfl, -⟩ := hc'.open
  obtain ⟨b', cbp', rfl, -⟩ := hm'.open
  have HV := Lib.hid (fun W (hb : Below w.heap.size w W) => hc.grown hb)
  have HM := Lib.hid (fun W (hb : Below w.heap.size w W) => hm.grown hb)
  have HV' := Lib.hid (fun W (hb : Below w.heap.size w W) => hc'.grown hb)
  have HM' := Lib.hid (fun W (hb : Below w.heap.size w W) => hm'.grown hb)
  clear hc hm hc' hm'
  have HA := Lib.hid (all2_same cs cs')
  cases h1 : decide (cs.map (·.2) = cs'.map (·.2))
  · have HE := Lib.hid (show sameL cs ms cs' ms' = false by unfold sameL; rw [h1]; rfl)
    rw [h1] at HA
    clear h1
    go_enter Try.func13, Try.ntmps13
    go_wp2_with fail
    refine (eqfV _ #[] enters_vecSame sameP _ _ cs cs' _ (HV.out _ (by ((repeat' (first | (with_reducible exact Below.refl _ _) | (with_reducible refine Below.setCell ?_ ?_ _) | (with_reducible refine Below.alloc ?_ ?_ _) | (with_reducible refine Below.drew ?_) | (with_reducible refine Below.trans ?_ (Below.mono (by assumption) ?_)) | go_size))))) (HV'.out _ (by ((repeat' (first | (with_reducible exact Below.refl _ _) | (with_reducible refine Below.setCell ?_ ?_ _) | (with_reducible refine Below.alloc ?_ ?_ _) | (with_reducible refine Below.drew ?_) | (with_reducible refine Below.trans ?_ (Below.mono (by assumption) ?_)) | go_size))))) (vecSame_on cs cs' _ (HV.out _ (by ((repeat' (first | (with_reducible exact Below.refl _ _) | (with_reducible refine Below.setCell ?_ ?_ _) | (with_reducible refine Below.alloc ?_ ?_ _) | (with_reducible refine Below.drew ?_) | (with_reducible refine Below.trans ?_ (Below.mono (by assumption) ?_)) | go_size))))).2 (HV'.out _ (by ((repeat' (first | (with_reducible exact Below.refl _ _) | (with_reducible refine Below.setCell ?_ ?_ _) | (with_reducible refine Below.alloc ?_ ?_ _) | (with_reducible refine Below.drew ?_) | (with_reducible refine Below.trans ?_ (Below.mono (by assumption) ?_)) | go_size))))).2)).mono ?_
    rintro e w1 ⟨rfl, hb1⟩
    rw [HA.out]
    go_wp2
    go_ret
    refine ⟨by rw [HE.out]; rfl, ?_⟩
    ((have shb1 := hb1.size); (try simp at shb1); (repeat' (first | (with_reducible exact Below.refl _ _) | (with_reducible refine Below.setCell ?_ ?_ _) | (with_reducible refine Below.alloc ?_ ?_ _) | (with_reducible refine Below.drew ?_) | (with_reducible refine Below.trans ?_ (Below.mono hb1 ?_)) | go_size)))
  · have HE := Lib.hid (show sameL cs ms cs' ms' = decide (ms = ms') by unfold sameL; rw [h1]; rfl)
    rw [h1] at HA
    clear h1
    go_enter Try.func13, Try.ntmps13
    go_wp2_with fail
    refine (eqfV _ #[] enters_vecSame sameP _ _ cs cs' _ (HV.out _ (by ((repeat' (first | (with_reducible exact Below.refl _ _) | (with_reducible refine Below.setCell ?_ ?_ _) | (with_reducible refine Below.alloc ?_ ?_ _) | (with_reducible refine Below.drew ?_) | (with_reducible refine Below.trans ?_ (Below.mono (by assumption) ?_)) | go_size))))) (HV'.out _ (by ((repeat' (first | (with_reducible exact Below.refl _ _) | (with_reducible refine Below.setCell ?_ ?_ _) | (with_reducible refine Below.alloc ?_ ?_ _) | (with_reducible refine Below.drew ?_) | (with_reducible refine Below.trans ?_ (Below.mono (by assumption) ?_)) | go_size))))) (vecSame_on cs cs' _ (HV.out _ (by ((repeat' (first | (with_reducible exact Below.refl _ _) | (with_reducible refine Below.setCell ?_ ?_ _) | (with_reducible refine Below.alloc ?_ ?_ _) | (with_reducible refine Below.drew ?_) | (with_reducible refine Below.trans ?_ (Below.mono (by assumption) ?_)) | go_size))))).2 (HV'.out _ (by ((repeat' (first | (with_reducible exact Below.refl _ _) | (with_reducible refine Below.setCell ?_ ?_ _) | (with_reducible refine Below.alloc ?_ ?_ _) | (with_reducible refine Below.drew ?_) | (with_reducible refine Below.trans ?_ (Below.mono (by assumption) ?_)) | go_size))))).2)).mono ?_
    rintro e w1 ⟨rfl, hb1⟩
    rw [HA.out]
    have z1w0 : w.heap.size < w1.heap.size := (by have := hb1.size; (try simp at this); omega)
    have q1w0 := fun o => hb1.cell (p := ⟨w.heap.size, o, none⟩) (by first | omega | (simp; done) | (simp; omega))
    have r1w0 := fun o => hb1.frozen (p := ⟨w.heap.size, o, none⟩) (by first | omega | (simp; done) | (simp; omega))
    have z1w1 : w.heap.size + 1 < w1.heap.size := (by have := hb1.size; (try simp at this); omega)
    have q1w1 := fun o => hb1.cell (p := ⟨w.heap.size + 1, o, none⟩) (by first | omega | (simp; done) | (simp; omega))
    have r1w1 := fun o => hb1.frozen (p := ⟨w.heap.size + 1, o, none⟩) (by first | omega | (simp; done) | (simp; omega))
    go_wp2_with fail
    refine (eqM _ _ ms ms' _ (HM.out _ (by ((have shb1 := hb1.size); (try simp at shb1); (repeat' (first | (with_reducible exact Below.refl _ _) | (with_reducible refine Below.setCell ?_ ?_ _) | (with_reducible refine Below.alloc ?_ ?_ _) | (with_reducible refine Below.drew ?_) | (with_reducible refine Below.trans ?_ (Below.mono hb1 ?_)) | go_size))))) (HM'.out _ (by ((have shb1 := hb1.size); (try simp at shb1); (repeat' (first | (with_reducible exact Below.refl _ _) | (with_reducible refine Below.setCell ?_ ?_ _) | (with_reducible refine Below.alloc ?_ ?_ _) | (with_reducible refine Below.drew ?_) | (with_reducible refine Below.trans ?_ (Below.mono hb1 ?_)) | go_size)))))).mono ?_
    rintro e w2 ⟨rfl, hb2⟩
    go_wp2
    go_ret
    refine ⟨by rw [HE.out]; rfl, ?_⟩
    ((have shb2 := hb2.size); (try simp at shb2); (have shb1 := hb1.size); (try simp at shb1); (repeat' (first | (with_reducible exact Below.refl _ _) | (with_reducible refine Below.setCell ?_ ?_ _) | (with_reducible refine Below.alloc ?_ ?_ _) | (with_reducible refine Below.drew ?_) | (with_reducible refine Below.trans ?_ (Below.mono hb2 ?_)) | (with_reducible refine Below.trans ?_ (Below.mono hb1 ?_)) | go_size)))
theorem pair_ne {x1 y1 x2 y2 : BitVec 64} (h : ¬ (x1 = y1 ∧ x2 = y2)) : (x1 == y1 && x2 == y2) = false := by
  cases h1 : x1 == y1 <;> cases h2 : x2 == y2 <;> simp_all
theorem vals_at {l m : List PV} {k : Nat} (h : k < l.length) (h' : k < m.length) (he : ¬ l[k].2 = m[k].2) : decide (l.map (·.2) = m.map (·.2)) = false :=
  decide_eq_false fun e => he (by
    have := congrArg (fun x : List (List Int) => x[k]?) e
    simp only [List.getElem?_map, List.getElem?_eq_getElem h, List.getElem?_eq_getElem h', Option.map_some, Option.some.injEq] at this
    exact this)
theorem vals_all {l m : List PV} (hl : l.length = m.length) (h : ∀ k (h : k < l.length) (h' : k < m.length), l[k].2 = m[k].2) : decide (l.map (·.2) = m.map (·.2)) = true :=
  decide_eq_true (List.ext_getElem (by simp [hl]) fun k h1 h2 => by
    simp only [List.length_map] at h1 h2
    simp only [List.getElem_map]
    exact h k h1 h2)
set_option maxHeartbeats 4000000 in
theorem r13Same (vc vm uc um : Value) (cs cs' : List PV) (ms ms' : List M) (w : World) (hc : VecsV w vc cs) (hm : Masks w vm ms) (hc' : VecsV w uc cs') (hm' : Masks w um ms') :
    Calls Try.prog 14 #[.agg #[vc, vm], .agg #[uc, um]] w fun e w' => e = .returned (.bool (sameL cs ms cs' ms')) ∧ Below w.heap.size w w' := by
  obtain ⟨a, cap, rfl, hl1, hm1, hcell⟩ := hc.open
  obtain ⟨a', cap', rfl, hl2, hm2, hcell'⟩ := hm.open
  obtain ⟨b, cbp, rfl, hl3, hm3, kcell⟩ := hc'.open
  obtain ⟨b', cbp', rfl, hl4, hm4, kcell'⟩ := hm'.open
  have HV := Lib.hid (fun W (hb : Below w.heap.size w W) => hc.grown hb)
  have HV' := Lib.hid (fun W (hb : Below w.heap.size w W) => hc'.grown hb)
  have H1 := Lib.hid hcell
  have H2 := Lib.hid hcell'
  have H3 := Lib.hid kcell
  have H4 := Lib.hid kcell'
  clear hc hm hc' hm' hcell hcell' kcell kcell'
  by_cases h1 : cs.length = cs'.length
  · by_cases h2 : ms.length = ms'.length
    · have HL1 := Lib.hid h1
      have HL2 := Lib.hid h2
      have HN1 := Lib.hid (fun k h h' he => vals_at (l := cs) (m := cs') (k := k) h h' he)
      have HA1 := Lib.hid (fun h => vals_all (l := cs) (m := cs') h1 h)
      have HT := Lib.hid (fun h => eq_of_take (l := ms) (m := ms') h2 h)
      have HS := Lib.hid (fun (k : Nat) (h : k < ms.length) (h' : k < ms'.length) (ht : ms.take k = ms'.take k) (he : ms[k] = ms'[k]) => takeq_succ h h' ht he)
      have HNE := Lib.hid (fun (k : Nat) (h : k < ms.length) (h' : k < ms'.length) (he : ¬ ms[k] = ms'[k]) => takeq_ne h h' he)
      rw [← h1] at hl3 ⊢
      rw [← h2] at hl4 ⊢
      clear h1 h2
      go_enter Try.func14, Try.ntmps14
      go_wp2
      go_loopw [5] (fun i wr => ∃ k : Nat, k ≤ cs.length ∧ i = .int .i64 k ∧ (∀ j, j < k → ∀ (h : j < cs.length) (h' : j < cs'.length), cs[j].2 = cs'[j].2) ∧ Below (w.heap.size + 2) ((w.alloc (.cells #[.slice a cs.length cap, .slice a' ms.length cap'] 25)).alloc (.cells #[.slice b cs.length cbp, .slice b' ms.length cbp'] 25)) wr ∧ w.heap.size + 2 ≤ wr.heap.size) (fun i _ => cs.length - (intOf i).toNat)
      case atStart => exact ⟨0, Nat.zero_le _, rfl, fun j hj => absurd hj (Nat.not_lt_zero _), Below.refl _ _, by simp⟩
      case round =>
        obtain ⟨k, hk, rfl, htk, hbr, hsz⟩ := hrel
        have HK := Lib.hid htk
        clear htk
        have hB : Below w.heap.size w wr := by ((have shbr := hbr.size); (try simp at shbr); (repeat' (first | (with_reducible exact Below.refl _ _) | (with_reducible refine Below.setCell ?_ ?_ _) | (with_reducible refine Below.alloc ?_ ?_ _) | (with_reducible refine Below.drew ?_) | (with_reducible refine Below.trans ?_ (Below.mono hbr ?_)) | go_size)))
        have z0 : w.heap.size < wr.heap.size := by omega
        have z1 : w.heap.size + 1 < wr.heap.size := by omega
        have t0 : wr.cell? ⟨w.heap.size, 0, none⟩ = some (.slice a cs.length cap) := (hbr.cell (p := ⟨w.heap.size, 0, none⟩) (by simp)).trans (by go_simp)
        have t1 : wr.cell? ⟨w.heap.size, 1, none⟩ = some (.slice a' ms.length cap') := (hbr.cell (p := ⟨w.heap.size, 1, none⟩) (by simp)).trans (by go_simp)
        have t2 : wr.cell? ⟨w.heap.size + 1, 0, none⟩ = some (.slice b cs.length cbp) := (hbr.cell (p := ⟨w.heap.size + 1, 0, none⟩) (by simp)).trans (by go_simp)
        have t3 : wr.cell? ⟨w.heap.size + 1, 1, none⟩ = some (.slice b' ms.length cbp') := (hbr.cell (p := ⟨w.heap.size + 1, 1, none⟩) (by simp)).trans (by go_simp)
        by_cases hlt2 : k < cs.length
        · have hm2' : k < cs'.length := by rw [← HL1.out]; exact hlt2
          obtain ⟨g, off, rfl, hlt, g1⟩ := H1.out k hlt2
          obtain ⟨g', off', rfl, hlt', g2⟩ := H3.out k hm2'
          have e1 := (hB.cell (p := ⟨g, off + k, none⟩) hlt).trans g1
          have e2 := (hB.cell (p := ⟨g', off' + k, none⟩) hlt').trans g2
          have HX1 := Lib.hid ((HV.out wr hB).2 cs[k] (List.getElem_mem hlt2))
          have HX2 := Lib.hid ((HV'.out wr hB).2 cs'[k] (List.getElem_mem hm2'))
          have HNk := Lib.hid (HN1.out k hlt2 hm2')
          have HKk := Lib.hid (fun (he : cs[k].2 = cs'[k].2) (j : Nat) (hj : j < k + 1) (h : j < cs.length) (h' : j < cs'.length) => (show cs[j].2 = cs'[j].2 by
            rcases Nat.lt_or_ge j k with hjk | hjk
            · exact HK.out j hjk h h'
            · have : j = k := by omega
              subst this; exact he))
          have zg : g < wr.heap.size := by omega
          have zg' : g' < wr.heap.size := by omega
          clear g1 g2
          generalize cs[k] = p at *
          generalize cs'[k] = q at *
          clear hm2'
          obtain ⟨s, hs⟩ : ∃ s, decide (p.2 = q.2) = s := ⟨_, rfl⟩
          have HSs := Lib.hid hs
          clear hs
          obtain ⟨wz, hwz⟩ : ∃ wz, wz = wr := ⟨_, rfl⟩
          subst hwz
          go_wp2
          refine wp_grow [(10, .val (.bool s))] 12 (by kernel_rfl) (by kernel_rfl) (by rfl) (by rfl) ?_
          simp only [List.take_succ_cons, List.take_zero, List.drop_succ_cons, List.drop_zero]
          repeat (first
            | (apply Der.quiet; (rfl); (rfl); (intro w' hw' hctx; have hc' := bcell hw'; have yw0 := fun o => hw'.cell (p := ⟨w.heap.size, o, none⟩) (by first | omega | (simp; done) | (simp; omega)); have yw1 := fun o => hw'.cell (p := ⟨w.heap.size + 1, o, none⟩) (by first | omega | (simp; done) | (simp; omega)); have y1 := fun o => hw'.cell (p := ⟨g, o, none⟩) (by simp; omega); have y2 := fun o => hw'.cell (p := ⟨g', o, none⟩) (by simp; omega); clear hctx; go_simp; first | exact rfl | exact ⟨rfl, rfl⟩); simp only [Act.put, List.setIfInBounds_toArray, List.set_cons_succ, List.set_cons_zero, Nat.reduceAdd])
            | (apply Der.skip; (rfl); simp only [Act.put, List.setIfInBounds_toArray, List.set_cons_succ, List.set_cons_zero, Nat.reduceAdd]))
          apply Der.val
          · rfl
          · rfl
          · (intro w' hw' hctx; go_simp; refine (r5Same _ _ p.2 q.2 _ (HX1.out.grown (undrew hw')) (HX2.out.grown (undrew hw'))).mono ?_; rintro e w2 ⟨rfl, hb⟩; exact ⟨_, rfl, congrArg Value.bool HSs.out, hb⟩)
          simp only [Act.put, List.setIfInBounds_toArray, List.set_cons_succ, List.set_cons_zero, Nat.reduceAdd]
          repeat (first
            | (apply Der.quiet; (rfl); (rfl); (intro w' hw' hctx; have hc' := bcell hw'; have yw0 := fun o => hw'.cell (p := ⟨w.heap.size, o, none⟩) (by first | omega | (simp; done) | (simp; omega)); have yw1 := fun o => hw'.cell (p := ⟨w.heap.size + 1, o, none⟩) (by first | omega | (simp; done) | (simp; omega)); clear hctx; go_simp; first | exact rfl | exact ⟨rfl, rfl⟩); simp only [Act.put, List.setIfInBounds_toArray, List.set_cons_succ, List.set_cons_zero, Nat.reduceAdd])
            | (apply Der.skip; (rfl); simp only [Act.put, List.setIfInBounds_toArray, List.set_cons_succ, List.set_cons_zero, Nat.reduceAdd]))
          refine Der.nil (fun w2 hgw2 hctx => ?_)
          clear hctx
          have hb2 : Below _ _ w2 := hgw2
          clear hgw2
          cases s
          · have HE := Lib.hid (show sameL cs ms cs' ms' = false by unfold sameL; rw [HNk.out (of_decide_eq_false HSs.out)]; rfl)
            go_wp2
            go_ret
            refine ⟨by rw [HE.out]; rfl, by ((have shb2 := hb2.size); (try simp at shb2); (have shB := hB.size); (try simp at shB); (repeat' (first | (with_reducible exact Below.refl _ _) | (with_reducible refine Below.setCell ?_ ?_ _) | (with_reducible refine Below.alloc ?_ ?_ _) | (with_reducible refine Below.drew ?_) | (with_reducible refine Below.trans ?_ (Below.mono hb2 ?_)) | (with_reducible refine Below.trans ?_ (Below.mono hB ?_)) | go_size)))⟩
          · have HE := Lib.hid (HKk.out (of_decide_eq_true HSs.out))
            go_wp2
            go_roundw
            case rel => exact ⟨k + 1, by omega, by go_num, HE.out, by ((have shb2 := hb2.size); (try simp at shb2); (have shbr := hbr.size); (try simp at shbr); (repeat' (first | (with_reducible exact Below.refl _ _) | (with_reducible refine Below.setCell ?_ ?_ _) | (with_reducible refine Below.alloc ?_ ?_ _) | (with_reducible refine Below.drew ?_) | (with_reducible refine Below.trans ?_ (Below.mono hb2 ?_)) | (with_reducible refine Below.trans ?_ (Below.mono hbr ?_)) | go_size))), by have := hb2.size; simp at this; omega⟩
            case measure => simp [intOf]; omega
        · have : k = cs.length := by omega
          subst this
          have HE := Lib.hid (show sameL cs ms cs' ms' = decide (ms = ms') by unfold sameL; rw [HA1.out (fun j h h' => HK.out j h h h')]; rfl)
          obtain ⟨wo, hwo⟩ : ∃ wo, wo = wr := ⟨_, rfl⟩
          subst hwo
          go_wp2
          go_loopw [6] (fun i wr => ∃ k : Nat, k ≤ ms.length ∧ i = .int .i64 k ∧ ms.take k = ms'.take k ∧ Below wo.heap.size wo wr) (fun i _ => ms.length - (intOf i).toNat)
          case atStart => exact ⟨0, Nat.zero_le _, rfl, rfl, Below.refl _ _⟩
          case round =>
            obtain ⟨j, hj, rfl, htj, hbj⟩ := hrel
            have HJ := Lib.hid htj
            clear htj
            have hsj := hbj.size
            have hBj : Below w.heap.size w wr := by ((have shbj := hbj.size); (try simp at shbj); (have shB := hB.size); (try simp at shB); (repeat' (first | (with_reducible exact Below.refl _ _) | (with_reducible refine Below.setCell ?_ ?_ _) | (with_reducible refine Below.alloc ?_ ?_ _) | (with_reducible refine Below.drew ?_) | (with_reducible refine Below.trans ?_ (Below.mono hbj ?_)) | (with_reducible refine Below.trans ?_ (Below.mono hB ?_)) | go_size)))
            have u1 := (hbj.cell (p := ⟨w.heap.size, 1, none⟩) z0).trans t1
            have u3 := (hbj.cell (p := ⟨w.heap.size + 1, 1, none⟩) z1).trans t3
            by_cases hlt3 : j < ms.length
            · have hl3' : j < ms.length := hlt3
              have hm3' : j < ms'.length := by rw [← HL2.out]; exact hlt3
              have HX := Lib.hid (HS.out j hl3' hm3' HJ.out)
              have HY := Lib.hid (HNE.out j hl3' hm3')
              obtain ⟨g, off, rfl, hlt, g1, g2⟩ := H2.out j hl3'
              obtain ⟨g', off', rfl, hlt', k1, k2⟩ := H4.out j hm3'
              have e1 := (hBj.cell (p := ⟨g, off + j * 2, none⟩) hlt).trans g1
              have e2 := (hBj.cell (p := ⟨g', off' + j * 2, none⟩) hlt').trans k1
              have e3 := (hBj.cell (p := ⟨g, off + j * 2 + 1, none⟩) hlt).trans g2
              have e4 := (hBj.cell (p := ⟨g', off' + j * 2 + 1, none⟩) hlt').trans k2
              have zg : g < wr.heap.size := by omega
              have zg' : g' < wr.heap.size := by omega
              have zw : w.heap.size < wr.heap.size := by omega
              have zw' : w.heap.size + 1 < wr.heap.size := by omega
              clear g1 g2 k1 k2 t0 t1 t2 t3
              generalize ms[j] = x at *
              generalize ms'[j] = y at *
              clear hm3'
              obtain ⟨x1, x2⟩ := x
              obtain ⟨y1, y2⟩ := y
              obtain ⟨wz, hwz⟩ : ∃ wz, wz = wr := ⟨_, rfl⟩
              subst hwz
              by_cases hxy : x1 = y1 ∧ x2 = y2
              · have HX2 := Lib.hid (HX.out (by rw [hxy.1, hxy.2]))
                obtain ⟨rfl, rfl⟩ := hxy
                go_wp2
                refine wp_grow [] 11 (by kernel_rfl) (by kernel_rfl) (by rfl) (by rfl) ?_
                simp only [List.take_succ_cons, List.take_zero, List.drop_succ_cons, List.drop_zero]
                repeat (first
                  | (apply Der.quiet; (rfl); (rfl); (intro w' hw' hctx; have hc' := bcell hw'; have yw0 := fun o => hw'.cell (p := ⟨w.heap.size, o, none⟩) (by first | omega | (simp; done) | (simp; omega)); have yw1 := fun o => hw'.cell (p := ⟨w.heap.size + 1, o, none⟩) (by first | omega | (simp; done) | (simp; omega)); have y1 := fun o => hw'.cell (p := ⟨g, o, none⟩) (by simp; omega); have y2 := fun o => hw'.cell (p := ⟨g', o, none⟩) (by simp; omega); clear hctx; go_simp; first | exact rfl | exact ⟨rfl, rfl⟩); simp only [Act.put, List.setIfInBounds_toArray, List.set_cons_succ, List.set_cons_zero, Nat.reduceAdd])
                  | (apply Der.skip; (rfl); simp only [Act.put, List.setIfInBounds_toArray, List.set_cons_succ, List.set_cons_zero, Nat.reduceAdd]))
                refine Der.nil (fun w2 hgw2 hctx => ?_)
                clear hctx
                have hb2 : Below _ _ w2 := hgw2
                clear hgw2
                go_wp2
                go_roundw
                case rel => exact ⟨j + 1, by omega, by go_num, HX2.out, by ((have shb2 := hb2.size); (try simp at shb2); (have shbj := hbj.size); (try simp at shbj); (repeat' (first | (with_reducible exact Below.refl _ _) | (with_reducible refine Below.setCell ?_ ?_ _) | (with_reducible refine Below.alloc ?_ ?_ _) | (with_reducible refine Below.drew ?_) | (with_reducible refine Below.trans ?_ (Below.mono hb2 ?_)) | (with_reducible refine Below.trans ?_ (Below.mono hbj ?_)) | go_size)))⟩
                case measure => simp [intOf]; omega
              · have HY2 := Lib.hid (HY.out (fun e => hxy ⟨congrArg Prod.fst e, congrArg Prod.snd e⟩))
                have hxb := pair_ne hxy
                clear hxy
                go_wp2
                refine wp_grow [] 11 (by kernel_rfl) (by kernel_rfl) (by rfl) (by rfl) ?_
                simp only [List.take_succ_cons, List.take_zero, List.drop_succ_cons, List.drop_zero]
                repeat (first
                  | (apply Der.quiet; (rfl); (rfl); (intro w' hw' hctx; have hc' := bcell hw'; have yw0 := fun o => hw'.cell (p := ⟨w.heap.size, o, none⟩) (by first | omega | (simp; done) | (simp; omega)); have yw1 := fun o => hw'.cell (p := ⟨w.heap.size + 1, o, none⟩) (by first | omega | (simp; done) | (simp; omega)); have y1 := fun o => hw'.cell (p := ⟨g, o, none⟩) (by simp; omega); have y2 := fun o => hw'.cell (p := ⟨g', o, none⟩) (by simp; omega); clear hctx; go_simp; first | exact rfl | exact ⟨rfl, rfl⟩); simp only [Act.put, List.setIfInBounds_toArray, List.set_cons_succ, List.set_cons_zero, Nat.reduceAdd])
                  | (apply Der.skip; (rfl); simp only [Act.put, List.setIfInBounds_toArray, List.set_cons_succ, List.set_cons_zero, Nat.reduceAdd]))
                refine Der.nil (fun w2 hgw2 hctx => ?_)
                clear hctx
                have hb2 : Below _ _ w2 := hgw2
                clear hgw2
                go_wp2
                go_ret
                refine ⟨?_, by ((have shb2 := hb2.size); (try simp at shb2); (have shBj := hBj.size); (try simp at shBj); (repeat' (first | (with_reducible exact Below.refl _ _) | (with_reducible refine Below.setCell ?_ ?_ _) | (with_reducible refine Below.alloc ?_ ?_ _) | (with_reducible refine Below.drew ?_) | (with_reducible refine Below.trans ?_ (Below.mono hb2 ?_)) | (with_reducible refine Below.trans ?_ (Below.mono hBj ?_)) | go_size)))⟩
                rw [HE.out, HY2.out]; rfl
            · have : j = ms.length := by omega
              subst this
              have HT2 := Lib.hid (HT.out HJ.out)
              go_wp2
              go_ret
              exact ⟨by rw [HE.out, HT2.out]; rfl, hBj⟩
    · have HE := Lib.hid (show sameL cs ms cs' ms' = false by unfold sameL; rw [decide_eq_false (show ¬ ms = ms' from fun e => h2 (by rw [e])), Bool.and_false])
      have hn1 : ((cs.length : Int) != (cs'.length : Int)) = false := by rw [h1]; exact bne_self_eq_false _
      have hn : ((ms.length : Int) != (ms'.length : Int)) = true := bne_iff_ne.2 (by omega)
      clear h1 h2
      go_enter Try.func14, Try.ntmps14
      go_wp2
      go_ret
      exact ⟨by rw [HE.out]; rfl, by ((repeat' (first | (with_reducible exact Below.refl _ _) | (with_reducible refine Below.setCell ?_ ?_ _) | (with_reducible refine Below.alloc ?_ ?_ _) | (with_reducible refine Below.drew ?_) | (with_reducible refine Below.trans ?_ (Below.mono (by assumption) ?_)) | go_size)))⟩
  · have HE := Lib.hid (show sameL cs ms cs' ms' = false by
      unfold sameL
      rw [decide_eq_false (show ¬ cs.map (·.2) = cs'.map (·.2) from fun e => h1 (by have := congrArg List.length e; simpa using this))]; rfl)
    have hn1 : ((cs.length : Int) != (cs'.length : Int)) = true := by simp; omega
    clear h1
    go_enter Try.func14, Try.ntmps14
    go_wp2
    go_ret
    exact ⟨by rw [HE.out]; rfl, by ((repeat' (first | (with_reducible exact Below.refl _ _) | (with_reducible refine Below.setCell ?_ ?_ _) | (with_reducible refine Below.alloc ?_ ?_ _) | (with_reducible refine Below.drew ?_) | (with_reducible refine Below.trans ?_ (Below.mono (by assumption) ?_)) | go_size)))⟩
end Go.Proofs.Ytlfmffjlmhpcdaa
