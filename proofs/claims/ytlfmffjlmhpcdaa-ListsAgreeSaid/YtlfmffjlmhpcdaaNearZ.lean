/- The contracts of the document's answer for layer 5: Right, Dist, All. -/
import Derived.Test.YtlfmffjlmhpcdaaVecZ
import Derived.IntWalk
namespace Go.Proofs.Ytlfmffjlmhpcdaa
open Go.RowKit
set_option maxRecDepth 100000
attribute [local irreducible] Der

theorem vecOK_false_of_bad {l : List Int} {k : Nat} (h : k < l.length) (hh : badI l[k] = true) : vecOK l = false := by
  have : l.any badI = true := List.any_eq_true.2 ⟨l[k], List.getElem_mem h, hh⟩
  unfold vecOK; rw [this]; simp
theorem vecOK_of_none {l : List Int} (hb : ∀ x ∈ l, badI x = false) : vecOK l = (decide (1 ≤ l.length) && decide (l.length ≤ 4)) := by
  have : l.any badI = false := List.any_eq_false.2 fun x hx => by simp [hb x hx]
  unfold vecOK; rw [this]; simp
set_option maxHeartbeats 1000000 in
theorem r5Right (v : Value) (l : List Int) (w : World) (h : VecV w v l) : Calls Try.prog 33 #[v] w fun e w' => e = .returned (.bool (vecOK l)) ∧ Below w.heap.size w w' := by
  obtain ⟨a, cap, rfl, hl, hm, hcell⟩ := h.open
  have Hc := Lib.hid hcell
  clear hcell h
  have HB := Lib.hid (fun k h hh => vecOK_false_of_bad (l := l) (k := k) h hh)
  have HO := Lib.hid (fun h => vecOK_of_none (l := l) h)
  have HS := Lib.hid (fun k h hb hh => take_snoc_false (p := badI) (l := l) (k := k) h hb hh)
  go_enter Try.func33, Try.ntmps33
  go_wp2
  go_loopw [3] (fun i wr => ∃ k : Nat, k ≤ l.length ∧ i = .int .i64 k ∧ (∀ x ∈ l.take k, badI x = false) ∧ Below w.heap.size w wr) (fun i _ => l.length - (intOf i).toNat)
  case atStart => exact ⟨0, Nat.zero_le _, rfl, by simp, Below.refl _ _⟩
  case round =>
    obtain ⟨k, hk, rfl, hall, hbr⟩ := hrel
    have HA := Lib.hid hall
    clear hall
    by_cases hlt2 : k < l.length
    · obtain ⟨b, off, rfl, hlt, g1⟩ := Hc.out k hlt2
      have e1 := (hbr.cell (p := ⟨b, off + k, none⟩) hlt).trans g1
      have HBk := Lib.hid (HB.out k hlt2)
      have HSk := Lib.hid (HS.out k hlt2 HA.out)
      clear g1
      generalize l[k] = x at *
      by_cases h1 : x < -1073741823
      · have HE := Lib.hid (HBk.out (show badI x = true by unfold badI; simp [h1]))
        go_wp2
        go_ret
        refine ⟨by rw [HE.out]; rfl, hbr⟩
      · by_cases h2 : 1073741823 < x
        · have HE := Lib.hid (HBk.out (show badI x = true by unfold badI; simp [h2]))
          go_wp2
          go_ret
          refine ⟨by rw [HE.out]; rfl, hbr⟩
        · have HE := Lib.hid (HSk.out (show badI x = false by unfold badI; simp [h1, h2]))
          go_wp2
          go_roundw
          case rel => exact ⟨k + 1, by omega, by go_num, HE.out, hbr⟩
          case measure => simp [intOf]; omega
    · have : k = l.length := by omega
      subst this
      have HE := Lib.hid (HO.out (take_all HA.out))
      by_cases h1 : 1 ≤ l.length
      · have HE2 := Lib.hid (show vecOK l = decide ((l.length : Int) ≤ 4) by
          rw [HE.out, decide_eq_true h1, Bool.true_and, decide_eq_decide]; omega)
        go_wp2
        go_ret
        refine ⟨by rw [HE2.out]; rfl, hbr⟩
      · have HE2 := Lib.hid (show vecOK l = false by rw [HE.out, decide_eq_false h1]; rfl)
        go_wp2
        go_ret
        refine ⟨by rw [HE2.out]; rfl, hbr⟩

theorem cmp_at {l m : List Int} {zs : List Cmp2} (hlen : l.length = m.length) (hz : vals zs = l.zip m) (k : Nat) (h : k < zs.length) (h1 : k < l.length) (h2 : k < m.length) : zs[k].1.1 = l[k] ∧ zs[k].1.2 = m[k] := by
  have e := congrArg (fun x : List (Int × Int) => x[k]?) hz
  simp only [vals, List.getElem?_map] at e
  rw [List.getElem?_eq_getElem h, List.getElem?_eq_getElem (by simp; omega)] at e
  simp at e
  exact ⟨by rw [e], by rw [e]⟩
set_option maxHeartbeats 2000000 in
theorem r5dist_in (v u : Value) (l m : List Int) (zs : List Cmp2) (hz : vals zs = l.zip m) (hlen : l.length = m.length) (h4 : zs.length ≤ 4) (w : World) (h : VecV w v l) (h' : VecV w u m) :
    Calls Try.prog 73 #[v, u] w fun e w' => e = .returned (.int .u64 (sqs zs)) ∧ Below w.heap.size w w' := by
  obtain ⟨a, cap, rfl, hl, hm, hcell⟩ := h.open
  have Hc := Lib.hid hcell
  obtain ⟨a', cap', rfl, hl', hm', hcell'⟩ := h'.open
  have Hc' := Lib.hid hcell'
  have hzl : zs.length = l.length := by have := congrArg List.length hz; simp [vals, hlen] at this; omega
  have HZ := Lib.hid (fun k h h1 h2 => cmp_at hlen hz k h h1 h2)
  have HS := Lib.hid (fun zs z => sqs_snoc zs z)
  have HB := Lib.hid sqs_bound
  have HLen := Lib.hid hlen
  have HZL := Lib.hid hzl
  clear h h' hcell hcell' hz
  rw [← hlen] at hl' ⊢
  clear hlen hzl
  go_enter Try.func73, Try.ntmps73
  go_wp2
  go_loopw [5, 6] (fun n i wr => ∃ k : Nat, k ≤ l.length ∧ i = .int .i64 k ∧ n = .int .u64 (sqs (zs.take k)) ∧ Below w.heap.size w wr) (fun _ i _ => l.length - (intOf i).toNat)
  case atStart => exact ⟨0, Nat.zero_le _, rfl, by simp [sqs], Below.refl _ _⟩
  case round =>
    obtain ⟨k, hk, rfl, rfl, hbr⟩ := hrel
    have hsz := hbr.size
    by_cases hlt2 : k < l.length
    · have hm2 : k < m.length := by rw [← HLen.out]; exact hlt2
      have hz2 : k < zs.length := by rw [HZL.out]; exact hlt2
      obtain ⟨g, off, rfl, hlt, g1⟩ := Hc.out k hlt2
      obtain ⟨g', off', rfl, hlt', g2⟩ := Hc'.out k hm2
      obtain ⟨z1, z2⟩ := HZ.out k hz2 hlt2 hm2
      rw [← z1] at g1
      rw [← z2] at g2
      have e1 := (hbr.cell (p := ⟨g, off + k, none⟩) hlt).trans g1
      have e2 := (hbr.cell (p := ⟨g', off' + k, none⟩) hlt').trans g2
      have HT := Lib.hid (take_vals hz2)
      have hs1 := HS.out (zs.take k) zs[k]
      have hs2 := HB.out (zs.take k)
      have hpl : ((zs.take k).length : Int) ≤ 3 := by simp; omega
      have bd := zs[k].2
      clear g1 g2 z1 z2
      rw [← HT.out] at hs1
      generalize zs[k] = z at *
      obtain ⟨⟨x, y⟩, hzb⟩ := z
      simp only at e1 e2 bd hs1
      obtain ⟨⟨b1, b2⟩, b3, b4⟩ := bd
      have HS1 := Lib.hid hs1
      clear hs1 HS
      generalize sqs (zs.take k) = S at *
      have hS0 : 0 ≤ S := hs2.1
      have hS1 : S ≤ 13835058029512359948 := by omega
      have HE := Lib.hid (dist_step x y S b1 b2 b3 b4 hS0 hS1)
      have HE' := Lib.hid (dist_step' x y S b1 b2 b3 b4 hS0 hS1)
      have q1 : IntKind.i64.wrap x = x := IntWalk.i64_in _ (by omega)
      have q2 : IntKind.i64.wrap y = y := IntWalk.i64_in _ (by omega)
      have q3 : IntKind.i64.wrap (x - y) = x - y := IntWalk.i64_in _ (by omega)
      have z1 : g < wr.heap.size := by omega
      have z2 : g' < wr.heap.size := by omega
      have Q1 := Lib.hid q1
      have Q2 := Lib.hid q2
      have Q3 := Lib.hid q3
      clear q1 q2 q3 hs2
      go_wp2
      refine wp_grow [] 11 (by kernel_rfl) (by kernel_rfl) (by rfl) (by rfl) ?_
      simp only [List.take_succ_cons, List.take_zero, List.drop_succ_cons, List.drop_zero]
      repeat (first
        | (apply Der.quiet; (rfl); (rfl); (intro w' hw' hctx; have hc' := bcell hw'; have y1 := fun o => hw'.cell (p := ⟨g, o, none⟩) (by simp; omega); have y2 := fun o => hw'.cell (p := ⟨g', o, none⟩) (by simp; omega); have q1 := Q1.out; have q2 := Q2.out; have q3 := Q3.out; clear hctx; go_simp; first | exact rfl | exact ⟨rfl, rfl⟩); simp only [Act.put, List.setIfInBounds_toArray, List.set_cons_succ, List.set_cons_zero, Nat.reduceAdd])
        | (apply Der.skip; (rfl); simp only [Act.put, List.setIfInBounds_toArray, List.set_cons_succ, List.set_cons_zero, Nat.reduceAdd]))
      refine Der.nil (fun w2 hgw2 hctx => ?_)
      clear hctx
      have hb2 : Below _ _ w2 := hgw2
      clear hgw2
      by_cases hxy : x - y < 0
      · go_wp2
        go_roundw
        case rel => exact ⟨k + 1, by omega, by go_num, by rw [HS1.out, Int.neg_sub]; exact congrArg (Value.int .u64) (HE'.out (by omega)), by ((have shb2 := hb2.size); (try simp at shb2); (have shbr := hbr.size); (try simp at shbr); (repeat' (first | (with_reducible exact Below.refl _ _) | (with_reducible refine Below.setCell ?_ ?_ _) | (with_reducible refine Below.alloc ?_ ?_ _) | (with_reducible refine Below.drew ?_) | (with_reducible refine Below.trans ?_ (Below.mono hb2 ?_)) | (with_reducible refine Below.trans ?_ (Below.mono hbr ?_)) | go_size)))⟩
        case measure => simp [intOf]; omega
      · go_wp2
        go_roundw
        case rel => exact ⟨k + 1, by omega, by go_num, by rw [HS1.out]; exact congrArg (Value.int .u64) (HE.out (by omega)), by ((have shb2 := hb2.size); (try simp at shb2); (have shbr := hbr.size); (try simp at shbr); (repeat' (first | (with_reducible exact Below.refl _ _) | (with_reducible refine Below.setCell ?_ ?_ _) | (with_reducible refine Below.alloc ?_ ?_ _) | (with_reducible refine Below.drew ?_) | (with_reducible refine Below.trans ?_ (Below.mono hb2 ?_)) | (with_reducible refine Below.trans ?_ (Below.mono hbr ?_)) | go_size)))⟩
        case measure => simp [intOf]; omega
    · have : k = l.length := by omega
      subst this
      have e : zs.take l.length = zs := by rw [← HZL.out, List.take_length]
      rw [e]
      have HSb := Lib.hid (HB.out zs)
      go_wp2
      go_ret
      exact ⟨rfl, hbr⟩
theorem r5Dist (v u : Value) (l m : List Int) (hl : vecOK l = true) (hm : vecOK m = true) (hlen : l.length = m.length) (w : World) (h : VecV w v l) (h' : VecV w u m) :
    Calls Try.prog 73 #[v, u] w fun e w' => e = .returned (.int .u64 (distL l m)) ∧ Below w.heap.size w w' := by
  have hv := vals_cmps l m hl hm
  have hc : (cmps l m hl hm).length ≤ 4 := by
    have h1 := congrArg List.length hv
    have h2 := vecOK_len hl
    simp [vals] at h1
    omega
  have he : sqs (cmps l m hl hm) = distL l m := by rw [sqs_vals, hv]; rfl
  rw [← he]
  exact r5dist_in v u l m (cmps l m hl hm) hv hlen hc w h h'

theorem any_other_yes {l : List PV} {k : Nat} (h : k < l.length) (hh : otherD (dim0 l) l[k] = true) : l.any (otherD (dim0 l)) = true := List.any_eq_true.2 ⟨l[k], List.getElem_mem h, hh⟩
theorem any_other_no {l : List PV} (h : ∀ p ∈ l, otherD (dim0 l) p = false) : l.any (otherD (dim0 l)) = false := List.any_eq_false.2 fun p hp => by simp [h p hp]
set_option maxHeartbeats 2000000 in
theorem r5All (v : Value) (l : List PV) (w : World) (h : VecsV w v l) : Calls Try.prog 56 #[v] w fun e w' => e = .returned (.int .i64 (vecsE l)) ∧ Below w.heap.size w w' := by
  obtain ⟨a, cap, rfl, hl, hm, hcell⟩ := h.open
  have Hc := Lib.hid hcell
  have H := Lib.hid h
  clear hcell h
  have HB := Lib.hid (fun k h hh => vecsE_bad (l := l) (k := k) h hh)
  have HO := Lib.hid (fun h => vecsE_ok (l := l) h)
  have HS := Lib.hid (fun k h hb hh => take_snoc_true (p := fun p : PV => vecOK p.2) (l := l) (k := k) h hb hh)
  have HS' := Lib.hid (fun k h hb hh => take_snoc_false (p := otherD (dim0 l)) (l := l) (k := k) h hb hh)
  go_enter Try.func56, Try.ntmps56
  go_wp2
  go_loopw [3] (fun i wr => ∃ k : Nat, k ≤ l.length ∧ i = .int .i64 k ∧ (∀ p ∈ l.take k, vecOK p.2 = true) ∧ Below w.heap.size w wr) (fun i _ => l.length - (intOf i).toNat)
  case atStart => exact ⟨0, Nat.zero_le _, rfl, by simp, Below.refl _ _⟩
  case round =>
    obtain ⟨k, hk, rfl, hall, hB⟩ := hrel
    have HA := Lib.hid hall
    clear hall
    by_cases hlt2 : k < l.length
    · obtain ⟨b, off, rfl, hlt, g1⟩ := Hc.out k hlt2
      have e1 := (hB.cell (p := ⟨b, off + k, none⟩) hlt).trans g1
      have hV := Lib.hid ((H.out.2 l[k] (List.getElem_mem hlt2)).grown hB)
      have HBk := Lib.hid (HB.out k hlt2)
      have HSk := Lib.hid (HS.out k hlt2 HA.out)
      clear g1
      cases hh : vecOK l[k].2
      · have HC := Lib.hid hh
        have HE := Lib.hid (HBk.out hh)
        clear hh HSk
        generalize l[k] = y at *
        go_wp2_with fail
        refine (r5Right _ y.2 _ hV.out).mono ?_
        rintro e w2 ⟨rfl, hb2⟩
        rw [HC.out]
        go_wp2
        go_ret
        refine ⟨by rw [HE.out]; rfl, by ((have shb2 := hb2.size); (try simp at shb2); (have shB := hB.size); (try simp at shB); (repeat' (first | (with_reducible exact Below.refl _ _) | (with_reducible refine Below.setCell ?_ ?_ _) | (with_reducible refine Below.alloc ?_ ?_ _) | (with_reducible refine Below.drew ?_) | (with_reducible refine Below.trans ?_ (Below.mono hb2 ?_)) | (with_reducible refine Below.trans ?_ (Below.mono hB ?_)) | go_size)))⟩
      · have HC := Lib.hid hh
        have HE := Lib.hid (HSk.out hh)
        clear hh HBk
        generalize l[k] = y at *
        go_wp2_with fail
        refine (r5Right _ y.2 _ hV.out).mono ?_
        rintro e w2 ⟨rfl, hb2⟩
        rw [HC.out]
        go_wp2
        go_roundw
        case rel => exact ⟨k + 1, by omega, by go_num, HE.out, by ((have shb2 := hb2.size); (try simp at shb2); (have shB := hB.size); (try simp at shB); (repeat' (first | (with_reducible exact Below.refl _ _) | (with_reducible refine Below.setCell ?_ ?_ _) | (with_reducible refine Below.alloc ?_ ?_ _) | (with_reducible refine Below.drew ?_) | (with_reducible refine Below.trans ?_ (Below.mono hb2 ?_)) | (with_reducible refine Below.trans ?_ (Below.mono hB ?_)) | go_size)))⟩
        case measure => simp [intOf]; omega
    · have : k = l.length := by omega
      subst this
      have HE := Lib.hid (HO.out (take_all HA.out))
      obtain ⟨wo, hwo⟩ : ∃ wo, wo = wr := ⟨_, rfl⟩
      subst hwo
      go_wp2
      go_loopw [4] (fun i wr => ∃ k : Nat, k ≤ l.length ∧ i = .int .i64 k ∧ (∀ p ∈ l.take k, otherD (dim0 l) p = false) ∧ Below w.heap.size w wr) (fun i _ => l.length - (intOf i).toNat)
      case atStart => exact ⟨0, Nat.zero_le _, rfl, by simp, hB⟩
      case round =>
        obtain ⟨j, hj, rfl, hall, hB3⟩ := hrel
        have HA3 := Lib.hid hall
        have hsz := hB3.size
        clear hall
        by_cases hlt3 : j < l.length
        · have h0 : 0 < l.length := by omega
          have G0 := Hc.out 0 h0
          obtain ⟨b, off, rfl, hlt, g1⟩ := Hc.out j hlt3
          obtain ⟨b', off', hbo, -, g2⟩ := G0
          simp only [Option.some.injEq, Addr.mk.injEq, and_true] at hbo
          obtain ⟨rfl, rfl⟩ := hbo
          have e1 := (hB3.cell (p := ⟨b, off + j, none⟩) hlt).trans g1
          have e2 := (hB3.cell (p := ⟨b, off + 0, none⟩) hlt).trans g2
          rw [Nat.add_zero] at e2
          obtain ⟨a1, c1, f1, -⟩ := (H.out.2 l[j] (List.getElem_mem hlt3)).form
          obtain ⟨a2, c2, f2, -⟩ := (H.out.2 l[0] (List.getElem_mem h0)).form
          rw [f1] at e1
          rw [f2] at e2
          have HSk := Lib.hid (HS'.out j hlt3 HA3.out)
          have HYk := Lib.hid (any_other_yes (l := l) hlt3)
          have hod : otherD (dim0 l) l[j] = !decide ((l[j].2.length : Int) = (l[0].2.length : Int)) := by unfold otherD; rw [dim0_get h0]
          rw [hod] at HSk HYk
          generalize l[j].2.length = d1 at *
          generalize l[0].2.length = d2 at *
          have hne : ¬ l = [] := by intro e; subst e; simp at h0
          have zb : b < wr.heap.size := by omega
          clear g1 g2 f1 f2 hod
          by_cases hd : d1 = d2
          · have HE3 := Lib.hid (HSk.out (by simp [hd]))
            have hdd : ((d1 : Int) != (d2 : Int)) = false := by simp [hd]
            clear hd
            go_wp2
            refine wp_grow [] 10 (by kernel_rfl) (by kernel_rfl) (by rfl) (by rfl) ?_
            simp only [List.take_succ_cons, List.take_zero, List.drop_succ_cons, List.drop_zero]
            repeat (first
              | (apply Der.quiet; (rfl); (rfl); (intro w' hw' hctx; have hc' := bcell hw'; have y1 := fun o => hw'.cell (p := ⟨b, o, none⟩) (by simp; omega); clear hctx; go_simp; first | exact rfl | exact ⟨rfl, rfl⟩); simp only [Act.put, List.setIfInBounds_toArray, List.set_cons_succ, List.set_cons_zero, Nat.reduceAdd])
              | (apply Der.skip; (rfl); simp only [Act.put, List.setIfInBounds_toArray, List.set_cons_succ, List.set_cons_zero, Nat.reduceAdd]))
            refine Der.nil (fun w2 hgw2 hctx => ?_)
            clear hctx
            have hb2 : Below _ _ w2 := hgw2
            clear hgw2
            go_wp2
            go_roundw
            case rel => exact ⟨j + 1, by omega, by go_num, HE3.out, by ((have shb2 := hb2.size); (try simp at shb2); (have shB3 := hB3.size); (try simp at shB3); (repeat' (first | (with_reducible exact Below.refl _ _) | (with_reducible refine Below.setCell ?_ ?_ _) | (with_reducible refine Below.alloc ?_ ?_ _) | (with_reducible refine Below.drew ?_) | (with_reducible refine Below.trans ?_ (Below.mono hb2 ?_)) | (with_reducible refine Below.trans ?_ (Below.mono hB3 ?_)) | go_size)))⟩
            case measure => simp [intOf]; omega
          · have HE3 := Lib.hid (HYk.out (by simp [hd]; omega))
            have hdd : ((d1 : Int) != (d2 : Int)) = true := by simp [hd]; omega
            have HF := Lib.hid (show vecsE l = 151 by rw [HE.out, HE3.out]; rfl)
            clear hd
            go_wp2
            refine wp_grow [] 10 (by kernel_rfl) (by kernel_rfl) (by rfl) (by rfl) ?_
            simp only [List.take_succ_cons, List.take_zero, List.drop_succ_cons, List.drop_zero]
            repeat (first
              | (apply Der.quiet; (rfl); (rfl); (intro w' hw' hctx; have hc' := bcell hw'; have y1 := fun o => hw'.cell (p := ⟨b, o, none⟩) (by simp; omega); clear hctx; go_simp; first | exact rfl | exact ⟨rfl, rfl⟩); simp only [Act.put, List.setIfInBounds_toArray, List.set_cons_succ, List.set_cons_zero, Nat.reduceAdd])
              | (apply Der.skip; (rfl); simp only [Act.put, List.setIfInBounds_toArray, List.set_cons_succ, List.set_cons_zero, Nat.reduceAdd]))
            refine Der.nil (fun w2 hgw2 hctx => ?_)
            clear hctx
            have hb2 : Below _ _ w2 := hgw2
            clear hgw2
            go_wp2
            go_ret
            refine ⟨by rw [HF.out]; rfl, by ((have shb2 := hb2.size); (try simp at shb2); (have shB3 := hB3.size); (try simp at shB3); (repeat' (first | (with_reducible exact Below.refl _ _) | (with_reducible refine Below.setCell ?_ ?_ _) | (with_reducible refine Below.alloc ?_ ?_ _) | (with_reducible refine Below.drew ?_) | (with_reducible refine Below.trans ?_ (Below.mono hb2 ?_)) | (with_reducible refine Below.trans ?_ (Below.mono hB3 ?_)) | go_size)))⟩
        · have : j = l.length := by omega
          subst this
          have HF := Lib.hid (show vecsE l = 0 by rw [HE.out, any_other_no (take_all HA3.out)]; rfl)
          go_wp2
          go_ret
          refine ⟨by rw [HF.out]; rfl, hB3⟩
end Go.Proofs.Ytlfmffjlmhpcdaa

/- The contracts of cmp.Compare, cmp.Or, vec.Compare, vec.Dist, vec.Nearest, and of the document's Nearest. -/
namespace Go.Proofs.Ytlfmffjlmhpcdaa
open Go.RowKit
set_option maxRecDepth 100000
attribute [local irreducible] Der

def cmpI (a b : Int) : Int := if a < b then -1 else if b < a then 1 else 0
theorem c_isNaN (a : Int) (w : World) : Calls Try.prog 117 #[.int .u64 a] w fun e w' => e = .returned (.bool false) ∧ w' = w := by
  go_enter Try.func117, Try.ntmps117
  go_wp2
  go_ret
  exact ⟨by simp, rfl⟩
theorem c_Compare (a b : Int) (w : World) : Calls Try.prog 113 #[.int .u64 a, .int .u64 b] w fun e w' => e = .returned (.int .i64 (cmpI a b)) ∧ Below w.heap.size w w' := by
  by_cases h1 : a < b
  · have H := Lib.hid (show cmpI a b = -1 by unfold cmpI; rw [if_pos h1])
    go_enter Try.func113, Try.ntmps113
    go_wp2_with (go_at_call 117; refine (c_isNaN _ _).mono ?_; rintro e w' ⟨rfl, rfl⟩)
    go_ret
    exact ⟨by rw [H.out]; rfl, Below.refl _ _⟩
  · by_cases h2 : b < a
    · have H := Lib.hid (show cmpI a b = 1 by unfold cmpI; rw [if_neg h1, if_pos h2])
      go_enter Try.func113, Try.ntmps113
      go_wp2_with (go_at_call 117; refine (c_isNaN _ _).mono ?_; rintro e w' ⟨rfl, rfl⟩)
      go_ret
      exact ⟨by rw [H.out]; rfl, Below.refl _ _⟩
    · have H := Lib.hid (show cmpI a b = 0 by unfold cmpI; rw [if_neg h1, if_neg h2])
      go_enter Try.func113, Try.ntmps113
      go_wp2_with (go_at_call 117; refine (c_isNaN _ _).mono ?_; rintro e w' ⟨rfl, rfl⟩)
      go_ret
      exact ⟨by rw [H.out]; rfl, Below.refl _ _⟩
/-- The first of two that is not zero. -/
def or2 (x y : Int) : Int := if x = 0 then y else x
set_option maxHeartbeats 1000000 in
theorem c_Or (v : Value) (x y : Int) (w : World) (h : Ints w v [x, y]) : Calls Try.prog 112 #[v] w fun e w' => e = .returned (.int .i64 (or2 x y)) ∧ Below w.heap.size w w' := by
  obtain ⟨a, cap, rfl, hl, hm, hcell⟩ := h.open
  obtain ⟨b, off, rfl, hb, g0⟩ := hcell 0 (by simp)
  obtain ⟨b', off', hbo, -, g1⟩ := hcell 1 (by simp)
  simp only [Option.some.injEq, Addr.mk.injEq, and_true] at hbo
  obtain ⟨rfl, rfl⟩ := hbo
  simp only [List.length_cons, List.length_nil, Nat.zero_add, Nat.reduceAdd, List.getElem_cons_zero, List.getElem_cons_succ, Nat.add_zero] at *
  clear hcell h
  by_cases h0 : x = 0
  · have H := Lib.hid (show or2 x y = y by unfold or2; rw [if_pos h0])
    have hx : (x != 0) = false := by simp [h0]
    clear h0
    by_cases hy : y = 0
    · have hyb : (y != 0) = false := by simp [hy]
      have HY := Lib.hid hy
      clear hy
      go_enter Try.func112, Try.ntmps112
      go_wp2
      refine wp_loop_rounds 3 ?_
      rw [rounds_succ]
      go_wp2
      rw [rounds_succ]
      go_wp2
      rw [rounds_succ]
      go_wp2
      go_ret
      exact ⟨by rw [H.out, HY.out]; rfl, Below.refl _ _⟩
    · have hyb : (y != 0) = true := by simp [hy]
      clear hy
      go_enter Try.func112, Try.ntmps112
      go_wp2
      refine wp_loop_rounds 3 ?_
      rw [rounds_succ]
      go_wp2
      rw [rounds_succ]
      go_wp2
      go_ret
      exact ⟨by rw [H.out]; rfl, Below.refl _ _⟩
  · have H := Lib.hid (show or2 x y = x by unfold or2; rw [if_neg h0])
    have hx : (x != 0) = true := by simp [h0]
    clear h0
    go_enter Try.func112, Try.ntmps112
    go_wp2
    refine wp_loop_rounds 3 ?_
    rw [rounds_succ]
    go_wp2
    go_ret
    exact ⟨by rw [H.out]; rfl, Below.refl _ _⟩
theorem f_vecCompare (i d j c : Int) (w : World) : Calls Try.prog 95 #[.agg #[.int .u64 i, .int .u64 d], .agg #[.int .u64 j, .int .u64 c]] w fun e w' => e = .returned (.int .i64 (or2 (cmpI d c) (cmpI i j))) ∧ Below w.heap.size w w' := by
  go_enter Try.func95, Try.ntmps95
  go_wp2
  generalize hX : cmpI d c = X at *
  generalize hY : cmpI i j = Y at *
  have HX := Lib.hid hX
  have HY := Lib.hid hY
  clear hX hY
  refine wp_grow [(4, .val (.int .i64 X)), (9, .val (.int .i64 Y)), (10, .rel (fun v w => Ints w v [X, Y]) (fun _ _ _ h hg => h.grown hg)), (11, .val (.int .i64 (or2 X Y)))] 12 (by kernel_rfl) (by kernel_rfl) (by rfl) (by rfl) ?_
  simp only [List.take_succ_cons, List.take_zero, List.drop_succ_cons, List.drop_zero]
  repeat (first
    | (apply Der.quiet; (rfl); (rfl); (intro w' hw' hctx; have hc' := bcell hw'; have yw0 := fun o => hw'.cell (p := ⟨w.heap.size, o, none⟩) (by first | omega | (simp; done) | (simp; omega)); have yw1 := fun o => hw'.cell (p := ⟨w.heap.size + 1, o, none⟩) (by first | omega | (simp; done) | (simp; omega)); clear hctx; go_simp; first | exact rfl | exact ⟨rfl, rfl⟩); simp only [Act.put, List.setIfInBounds_toArray, List.set_cons_succ, List.set_cons_zero, Nat.reduceAdd])
    | (apply Der.skip; (rfl); simp only [Act.put, List.setIfInBounds_toArray, List.set_cons_succ, List.set_cons_zero, Nat.reduceAdd]))
  apply Der.val
  · rfl
  · rfl
  · (intro w' hw' hctx; go_simp; refine (c_Compare _ _ _).mono ?_; rintro e w2 ⟨rfl, hb⟩; exact ⟨_, rfl, congrArg (Value.int .i64) HX.out, hb⟩)
  simp only [Act.put, List.setIfInBounds_toArray, List.set_cons_succ, List.set_cons_zero, Nat.reduceAdd]
  repeat (first
    | (apply Der.quiet; (rfl); (rfl); (intro w' hw' hctx; have hc' := bcell hw'; have yw0 := fun o => hw'.cell (p := ⟨w.heap.size, o, none⟩) (by first | omega | (simp; done) | (simp; omega)); have yw1 := fun o => hw'.cell (p := ⟨w.heap.size + 1, o, none⟩) (by first | omega | (simp; done) | (simp; omega)); clear hctx; go_simp; first | exact rfl | exact ⟨rfl, rfl⟩); simp only [Act.put, List.setIfInBounds_toArray, List.set_cons_succ, List.set_cons_zero, Nat.reduceAdd])
    | (apply Der.skip; (rfl); simp only [Act.put, List.setIfInBounds_toArray, List.set_cons_succ, List.set_cons_zero, Nat.reduceAdd]))
  apply Der.val
  · rfl
  · rfl
  · (intro w' hw' hctx; go_simp; refine (c_Compare _ _ _).mono ?_; rintro e w2 ⟨rfl, hb⟩; exact ⟨_, rfl, congrArg (Value.int .i64) HY.out, hb⟩)
  simp only [Act.put, List.setIfInBounds_toArray, List.set_cons_succ, List.set_cons_zero, Nat.reduceAdd]
  refine Der.rel (by rfl) (by rfl) (fun w' hw' hctx => ?_) (fun s1 => ?_)
  · (go_simp; exact ⟨Sl.fresh w' _ 2 _ rfl (by omega), (Below.refl _ _).alloc (Nat.le_refl _) _⟩)
  simp only [Act.put, List.setIfInBounds_toArray, List.set_cons_succ, List.set_cons_zero, Nat.reduceAdd]
  apply Der.val
  · rfl
  · rfl
  · (intro w' hw' hctx; go_simp; refine (c_Or _ X Y _ (hctx 10 _ _ (by kernel_rfl) rfl rfl)).mono ?_; rintro e w2 ⟨rfl, hb⟩; exact ⟨_, rfl, rfl, hb⟩)
  simp only [Act.put, List.setIfInBounds_toArray, List.set_cons_succ, List.set_cons_zero, Nat.reduceAdd]
  refine Der.nil (fun w2 hgw2 hctx => ?_)
  clear hctx
  have hb2 : Below _ _ w2 := hgw2
  clear hgw2
  go_wp2
  go_ret
  refine ⟨by rw [HX.out, HY.out]; rfl, ?_⟩
  ((have shb2 := hb2.size); (try simp at shb2); (repeat' (first | (with_reducible exact Below.refl _ _) | (with_reducible refine Below.setCell ?_ ?_ _) | (with_reducible refine Below.alloc ?_ ?_ _) | (with_reducible refine Below.drew ?_) | (with_reducible refine Below.trans ?_ (Below.mono hb2 ?_)) | go_size)))
theorem f_vecDist (v u : Value) (l m : List Int) (w : World) (h : VecV w v l) (h' : VecV w u m) : Calls Try.prog 29 #[v, u] w fun e w' =>
    e = .returned (.tuple #[.int .u64 (if vecsE [(v, l), (u, m)] = 0 then distL l m else 0), .int .i64 (vecsE [(v, l), (u, m)])]) ∧ Below w.heap.size w w' := by
  obtain ⟨a, cap, rfl, hl, hm⟩ := h.form
  obtain ⟨a', cap', rfl, hl', hm'⟩ := h'.form
  have H := Lib.hid h
  have H' := Lib.hid h'
  clear h h'
  have hB : Below w.heap.size w (w.alloc (.cells #[.slice a l.length cap, .slice a' m.length cap'] 56)) := (Below.refl _ _).alloc (Nat.le_refl _) _
  have hV : VecsV (w.alloc (.cells #[.slice a l.length cap, .slice a' m.length cap'] 56)) (.slice (some ⟨w.heap.size, 0, none⟩) 2 2) [(.slice a l.length cap, l), (.slice a' m.length cap', m)] := by
    refine ⟨⟨Sl.fresh w 56 2 _ rfl (by omega), NilA.of_some _ _ _⟩, fun p hp => ?_⟩
    simp only [List.mem_cons, List.not_mem_nil, or_false] at hp
    rcases hp with rfl | rfl
    · exact H.out.grown hB
    · exact H'.out.grown hB
  have HV := Lib.hid hV
  clear hV
  by_cases he : vecsE [(.slice a l.length cap, l), (.slice a' m.length cap', m)] = 0
  · have hall : vecOK l = true ∧ vecOK m = true ∧ l.length = m.length := by
      unfold vecsE at he
      split at he
      · rename_i h1
        split at he
        · omega
        · rename_i h2
          simp [otherD, dim0] at h1 h2
          exact ⟨h1.1, h1.2, by omega⟩
      · omega
    have HE := Lib.hid he
    have HA := Lib.hid hall
    clear he hall
    go_enter Try.func29, Try.ntmps29
    go_wp2_with fail
    refine (f_vecAll _ _ _ HV.out).mono ?_
    rintro e w1 ⟨rfl, hb1⟩
    rw [HE.out]
    go_wp2_with fail
    refine (f_dist _ _ l m HA.out.1 HA.out.2.1 HA.out.2.2 _ (H.out.grown (by ((have shb1 := hb1.size); (try simp at shb1); (repeat' (first | (with_reducible exact Below.refl _ _) | (with_reducible refine Below.setCell ?_ ?_ _) | (with_reducible refine Below.alloc ?_ ?_ _) | (with_reducible refine Below.drew ?_) | (with_reducible refine Below.trans ?_ (Below.mono hb1 ?_)) | go_size))))) (H'.out.grown (by ((have shb1 := hb1.size); (try simp at shb1); (repeat' (first | (with_reducible exact Below.refl _ _) | (with_reducible refine Below.setCell ?_ ?_ _) | (with_reducible refine Below.alloc ?_ ?_ _) | (with_reducible refine Below.drew ?_) | (with_reducible refine Below.trans ?_ (Below.mono hb1 ?_)) | go_size)))))).mono ?_
    rintro e w2 ⟨rfl, hb2⟩
    go_wp2
    go_ret2
    refine ⟨rfl, ?_⟩
    ((have shb2 := hb2.size); (try simp at shb2); (have shb1 := hb1.size); (try simp at shb1); (repeat' (first | (with_reducible exact Below.refl _ _) | (with_reducible refine Below.setCell ?_ ?_ _) | (with_reducible refine Below.alloc ?_ ?_ _) | (with_reducible refine Below.drew ?_) | (with_reducible refine Below.trans ?_ (Below.mono hb2 ?_)) | (with_reducible refine Below.trans ?_ (Below.mono hb1 ?_)) | go_size)))
  · obtain ⟨E, hE⟩ : ∃ E, vecsE [(.slice a l.length cap, l), (.slice a' m.length cap', m)] = E := ⟨_, rfl⟩
    rw [hE] at he
    simp only [hE, if_neg he]
    have HE := Lib.hid hE
    have hee : (E != 0) = true := by simp [he]
    clear he hE
    go_enter Try.func29, Try.ntmps29
    go_wp2_with fail
    refine (f_vecAll _ _ _ HV.out).mono ?_
    rintro e w1 ⟨rfl, hb1⟩
    rw [HE.out]
    go_wp2
    go_ret2
    refine ⟨rfl, ?_⟩
    ((have shb1 := hb1.size); (try simp at shb1); (repeat' (first | (with_reducible exact Below.refl _ _) | (with_reducible refine Below.setCell ?_ ?_ _) | (with_reducible refine Below.alloc ?_ ?_ _) | (with_reducible refine Below.drew ?_) | (with_reducible refine Below.trans ?_ (Below.mono hb1 ?_)) | go_size)))

theorem vecsE_cons {u : Value} {x : List Int} {l : List PV} (h : vecsE ((u, x) :: l) = 0) : vecOK x = true ∧ (∀ p ∈ l, vecOK p.2 = true ∧ p.2.length = x.length) := by
  unfold vecsE at h
  split at h
  · rename_i h1
    split at h
    · omega
    · rename_i h2
      simp only [List.all_cons, Bool.and_eq_true, List.all_eq_true] at h1
      refine ⟨h1.1, fun p hp => ⟨h1.2 p hp, ?_⟩⟩
      simp only [List.any_cons, Bool.or_eq_true, not_or, List.any_eq_true, not_exists, not_and] at h2
      have := h2.2 p hp
      unfold otherD dim0 at this
      simp at this
      omega
  · omega
/-- The best of the first k + 1 by a measure: the first of the least. -/
def bestK (d : Nat → Int) : Nat → Nat
  | 0 => 0
  | k + 1 => if d (k + 1) < d (bestK d k) then k + 1 else bestK d k
theorem bestK_le (d : Nat → Int) : ∀ k, bestK d k ≤ k
  | 0 => Nat.le_refl _
  | k + 1 => by unfold bestK; split; omega; have := bestK_le d k; omega
/-- How far the vectors of a row are from one. -/
def farD (l : List PV) (x : List Int) (i : Nat) : Int := distL ((l[i]?.map (·.2)).getD []) x
theorem farD_get {l : List PV} {x : List Int} {i : Nat} (h : i < l.length) : farD l x i = distL l[i].2 x := by unfold farD; rw [List.getElem?_eq_getElem h]; rfl
theorem owns_built (w : World) (e : TypeId) (x : Value) : (w.alloc (.cells #[x] e)).ownsRow w.heap.size e 1 (.slice (some ⟨w.heap.size, 0, none⟩) 1 1) 1 [x] :=
  ⟨rfl, .inr ⟨w.heap.size, 1, #[x], rfl, Nat.le_refl _, World.alloc_heap_new w _, by omega, by decide, rfl, by simp⟩⟩
theorem f_near_nil (a : Option Addr) (c : Nat) (u : Value) (w : World) : Calls Try.prog 53 #[.slice a 0 c, u] w fun e w' => e = .returned (.tuple #[.int .i64 0, .int .i64 4]) ∧ Below w.heap.size w w' := by
  go_enter Try.func53, Try.ntmps53
  go_wp2
  go_ret2
  exact ⟨rfl, Below.refl _ _⟩
set_option maxHeartbeats 2000000 in
theorem f_near_bad (v u : Value) (l : List PV) (x : List Int) (w : World) (h : VecsV w v l) (h' : VecV w u x) (hlen : l.length ≤ 1000) (h0 : 0 < l.length) (E : Int) (hE : vecsE ((u, x) :: l) = E) (he : E ≠ 0) :
    Calls Try.prog 53 #[v, u] w fun e w' => e = .returned (.tuple #[.int .i64 0, .int .i64 E]) ∧ Below w.heap.size w w' := by
  have H := Lib.hid h
  have H' := Lib.hid h'
  have HE := Lib.hid hE
  obtain ⟨a, cap, rfl, hl, hm⟩ : ∃ a cap, v = .slice a l.length cap ∧ l.length ≤ cap ∧ cap ≤ 9223372036854775807 := by
    obtain ⟨a, cap, e, h1, h2, -⟩ := h.open; exact ⟨a, cap, e, h1, h2⟩
  obtain ⟨a', cap', rfl, hl', hm'⟩ := h'.form
  have hee : (E != 0) = true := by simp [he]
  have hne : ¬ l = [] := by intro e; subst e; simp at h0
  have hflat := flatMap_len (fun p : PV => [p.1]) 1 (fun _ => rfl) l
  have own := owns_built w 56 (.slice a' x.length cap')
  have hB : Below w.heap.size w (w.alloc (.cells #[.slice a' x.length cap'] 56)) := (Below.refl _ _).alloc (Nat.le_refl _) _
  clear h h' he hE
  go_enter Try.func53, Try.ntmps53
  go_wp2_with (at_builtin; refine append_any rfl _ _ 22 rfl w.heap.size 56 (.slice none 0 0) 1 24 Try.underlying22 info_vecs rfl (by decide) _ 1 _ rfl own _ l.length (l.flatMap fun p => [p.1]) rfl (Sl.grown H.out.1.1 hB) H.out.1.2 hflat (Vecs.one H.out.2) (by unfold maxLen; omega) (by omega) (by simp) ?_; intro v' w2 hown' hgrow)
  have hb2 : Below w.heap.size w w2 := hB.grown hgrow (by simp) (fun q hq => by have e : w.heap.size = q := Option.some.inj hq; omega)
  have hV : VecsV w2 v' ((.slice a' x.length cap', x) :: l) := by
    refine ⟨⟨?_, NilA.of_owns hown'⟩, fun p hp => ?_⟩
    · have := Sl.of_owns hown'
      rw [Nat.add_comm] at this
      exact this
    · rcases List.mem_cons.1 hp with rfl | hp
      · exact H'.out.grown hb2
      · exact (H.out.2 p hp).grown hb2
  have HV := Lib.hid hV
  clear hV hown' hgrow own hB
  go_wp2_with fail
  refine (f_vecAll _ _ _ HV.out).mono ?_
  rintro e w3 ⟨rfl, hb3⟩
  rw [HE.out]
  go_wp2
  go_ret2
  refine ⟨rfl, ?_⟩
  ((have shb3 := hb3.size); (try simp at shb3); (have shb2 := hb2.size); (try simp at shb2); (repeat' (first | (with_reducible exact Below.refl _ _) | (with_reducible refine Below.setCell ?_ ?_ _) | (with_reducible refine Below.alloc ?_ ?_ _) | (with_reducible refine Below.drew ?_) | (with_reducible refine Below.trans ?_ (Below.mono hb3 ?_)) | (with_reducible refine Below.trans ?_ (Below.mono hb2 ?_)) | go_size)))
end Go.Proofs.Ytlfmffjlmhpcdaa

/- The contract of vec.Nearest where it finds one, and of the document's Nearest. -/
namespace Go.Proofs.Ytlfmffjlmhpcdaa
open Go.RowKit
set_option maxRecDepth 100000
attribute [local irreducible] Der

theorem undrew {w w' : World} (h : Below w.drew.heap.size w.drew w') : Below w.heap.size w w' := ⟨h.os, h.tape, h.output, h.size, h.block⟩
theorem cmp_less {dk db k b : Int} (hb : b ≤ k) : decide (or2 (cmpI dk db) (cmpI k b) < 0) = decide (dk < db) := by
  rw [decide_eq_decide]
  unfold or2 cmpI
  split <;> split <;> (try split) <;> (try split) <;> omega
theorem best_step (f : Nat → Int) (k : Nat) : (f k < f (bestK f (k - 1)) → bestK f k = k) ∧ (¬ f k < f (bestK f (k - 1)) → bestK f k = bestK f (k - 1)) := by
  cases k with
  | zero => exact ⟨fun _ => rfl, fun _ => rfl⟩
  | succ k =>
    rw [Nat.add_sub_cancel]
    exact ⟨fun h => by unfold bestK; rw [if_pos h], fun h => by rw [show bestK f (k + 1) = if f (k + 1) < f (bestK f k) then k + 1 else bestK f k from rfl, if_neg h]⟩
set_option maxHeartbeats 4000000 in
theorem f_near_ok (v u : Value) (l : List PV) (x : List Int) (w : World) (h : VecsV w v l) (h' : VecV w u x) (hlen : l.length ≤ 1000) (h0 : 0 < l.length) (hE : vecsE ((u, x) :: l) = 0) :
    Calls Try.prog 53 #[v, u] w fun e w' => e = .returned (.tuple #[.int .i64 (bestK (farD l x) (l.length - 1) : Nat), .int .i64 0]) ∧ Below w.heap.size w w' := by
  have H := Lib.hid h
  have H' := Lib.hid h'
  have HE := Lib.hid hE
  obtain ⟨a, cap, rfl, hl, hm, hcell⟩ := h.open
  have Hc := Lib.hid hcell
  obtain ⟨a', cap', rfl, hl', hm'⟩ := h'.form
  have hne : ¬ l = [] := by intro e; subst e; simp at h0
  have hflat := flatMap_len (fun p : PV => [p.1]) 1 (fun _ => rfl) l
  have own := owns_built w 56 (.slice a' x.length cap')
  have hB : Below w.heap.size w (w.alloc (.cells #[.slice a' x.length cap'] 56)) := (Below.refl _ _).alloc (Nat.le_refl _) _
  have HOK := Lib.hid (vecsE_cons hE)
  have HD := Lib.hid (fun k (hk : k < l.length) => farD_get (x := x) hk)
  have HBd := Lib.hid (fun k (hk : k < l.length) => distL_bound ((vecsE_cons hE).2 l[k] (List.getElem_mem hk)).1 (vecsE_cons hE).1)
  have HK := Lib.hid (fun k => bestK_le (farD l x) k)
  have HR := Lib.hid (fun k => (show bestK (farD l x) (k + 1) = if farD l x (k + 1) < farD l x (bestK (farD l x) k) then k + 1 else bestK (farD l x) k from rfl))
  clear h h' hE hcell
  go_enter Try.func53, Try.ntmps53
  go_wp2_with (at_builtin; refine append_any rfl _ _ 22 rfl w.heap.size 56 (.slice none 0 0) 1 24 Try.underlying22 info_vecs rfl (by decide) _ 1 _ rfl own _ l.length (l.flatMap fun p => [p.1]) rfl (Sl.grown H.out.1.1 hB) H.out.1.2 hflat (Vecs.one H.out.2) (by unfold maxLen; omega) (by omega) (by simp) ?_; intro v' w2 hown' hgrow)
  have hb2 : Below w.heap.size w w2 := hB.grown hgrow (by simp) (fun q hq => by have e : w.heap.size = q := Option.some.inj hq; omega)
  have hV : VecsV w2 v' ((.slice a' x.length cap', x) :: l) := by
    refine ⟨⟨?_, NilA.of_owns hown'⟩, fun p hp => ?_⟩
    · have := Sl.of_owns hown'
      rw [Nat.add_comm] at this
      exact this
    · rcases List.mem_cons.1 hp with rfl | hp
      · exact H'.out.grown hb2
      · exact (H.out.2 p hp).grown hb2
  have HV := Lib.hid hV
  clear hV hown' hgrow own hB
  go_wp2_with fail
  refine (f_vecAll _ _ _ HV.out).mono ?_
  rintro e w3 ⟨rfl, hb3⟩
  rw [HE.out]
  have hB3 : Below w.heap.size w w3 := by ((have shb3 := hb3.size); (try simp at shb3); (have shb2 := hb2.size); (try simp at shb2); (repeat' (first | (with_reducible exact Below.refl _ _) | (with_reducible refine Below.setCell ?_ ?_ _) | (with_reducible refine Below.alloc ?_ ?_ _) | (with_reducible refine Below.drew ?_) | (with_reducible refine Below.trans ?_ (Below.mono hb3 ?_)) | (with_reducible refine Below.trans ?_ (Below.mono hb2 ?_)) | go_size)))
  obtain ⟨b0, off, rfl, hlt0, g0⟩ := Hc.out 0 h0
  have e0 := (hB3.cell (p := ⟨b0, off + 0, none⟩) hlt0).trans g0
  rw [Nat.add_zero] at e0
  have HX0 := Lib.hid ((H.out.2 l[0] (List.getElem_mem h0)).grown hB3)
  have HO0 := Lib.hid (HOK.out.2 l[0] (List.getElem_mem h0))
  have D0 := HD.out 0 h0
  clear g0
  generalize l[0] = p0 at *
  go_wp2_with fail
  refine (f_dist _ _ p0.2 x HO0.out.1 HOK.out.1 HO0.out.2 _ HX0.out (H'.out.grown hB3)).mono ?_
  rintro e w4 ⟨rfl, hb4⟩
  rw [← D0]
  have hB4 : Below w.heap.size w w4 := by ((have shb4 := hb4.size); (try simp at shb4); (have shB3 := hB3.size); (try simp at shB3); (repeat' (first | (with_reducible exact Below.refl _ _) | (with_reducible refine Below.setCell ?_ ?_ _) | (with_reducible refine Below.alloc ?_ ?_ _) | (with_reducible refine Below.drew ?_) | (with_reducible refine Below.trans ?_ (Below.mono hb4 ?_)) | (with_reducible refine Below.trans ?_ (Below.mono hB3 ?_)) | go_size)))
  have hs4 := hB4.size
  have HF0 := Lib.hid (show bestK (farD l x) 0 = 0 from rfl)
  generalize hfd : farD l x = f at *
  have HFD := Lib.hid hfd
  clear D0 hfd
  go_wp2
  go_loopw [30] (fun i wr => ∃ k : Nat, k ≤ l.length ∧ i = .int .i64 k ∧ wr.cell? ⟨w4.heap.size, 0, none⟩ = some (.int .u64 (bestK f (k - 1) : Nat)) ∧ wr.cell? ⟨w4.heap.size, 1, none⟩ = some (.int .u64 (f (bestK f (k - 1)))) ∧
    wr.frozen? ⟨w4.heap.size, 0, none⟩ = false ∧ wr.frozen? ⟨w4.heap.size, 1, none⟩ = false ∧ Below w4.heap.size w4 wr ∧ w4.heap.size < wr.heap.size) (fun i _ => l.length - (intOf i).toNat)
  case atStart =>
    refine ⟨0, Nat.zero_le _, rfl, ?_, ?_, ?_, ?_, ?_, ?_⟩
    · simp only [Nat.zero_sub, HF0.out]; go_simp
    · simp only [Nat.zero_sub, HF0.out]; go_simp
    · go_simp
    · go_simp
    · ((repeat' (first | (with_reducible exact Below.refl _ _) | (with_reducible refine Below.setCell ?_ ?_ _) | (with_reducible refine Below.alloc ?_ ?_ _) | (with_reducible refine Below.drew ?_) | (with_reducible refine Below.trans ?_ (Below.mono (by assumption) ?_)) | go_size)))
    · simp
  case round =>
    obtain ⟨k, hk, rfl, hc0, hc1, hf0, hf1, hbr, hsz⟩ := hrel
    have hBr : Below w.heap.size w wr := by ((have shbr := hbr.size); (try simp at shbr); (have shB4 := hB4.size); (try simp at shB4); (repeat' (first | (with_reducible exact Below.refl _ _) | (with_reducible refine Below.setCell ?_ ?_ _) | (with_reducible refine Below.alloc ?_ ?_ _) | (with_reducible refine Below.drew ?_) | (with_reducible refine Below.trans ?_ (Below.mono hbr ?_)) | (with_reducible refine Below.trans ?_ (Below.mono hB4 ?_)) | go_size)))
    by_cases hlt2 : k < l.length
    · obtain ⟨b, off', hbo, hlt, g1⟩ := Hc.out k hlt2
      simp only [Option.some.injEq, Addr.mk.injEq, and_true] at hbo
      obtain ⟨rfl, rfl⟩ := hbo
      have e1 := (hBr.cell (p := ⟨b0, off + k, none⟩) hlt).trans g1
      have HXk := Lib.hid ((H.out.2 l[k] (List.getElem_mem hlt2)).grown hBr)
      have HOk := Lib.hid (HOK.out.2 l[k] (List.getElem_mem hlt2))
      have Dk := Lib.hid (HD.out k hlt2)
      have hbk := HK.out (k - 1)
      have hbd := HBd.out k hlt2
      clear g1
      generalize l[k] = pk at *
      have hw0 : IntKind.u64.wrap (k : Int) = k := by rw [IntKind.wrap_u64]; omega
      go_wp2_with fail
      refine (f_dist _ _ pk.2 x HOk.out.1 HOK.out.1 HOk.out.2 _ HXk.out (H'.out.grown hBr)).mono ?_
      rintro e w5 ⟨rfl, hb5⟩
      rw [← Dk.out]
      have z5 : w4.heap.size < w5.heap.size := by have := hb5.size; omega
      have q50 := (hb5.cell (p := ⟨w4.heap.size, 0, none⟩) hsz).trans hc0
      have q51 := (hb5.cell (p := ⟨w4.heap.size, 1, none⟩) hsz).trans hc1
      have r50 := (hb5.frozen (p := ⟨w4.heap.size, 0, none⟩) hsz).trans hf0
      have r51 := (hb5.frozen (p := ⟨w4.heap.size, 1, none⟩) hsz).trans hf1
      have HN := Lib.hid (best_step f k)
      obtain ⟨B, hBB⟩ : ∃ B, bestK f (k - 1) = B := ⟨_, rfl⟩
      rw [hBB] at q50 q51 HN hbk
      have HCm := Lib.hid (cmp_less (dk := f k) (db := f B) (k := (k : Int)) (b := (B : Int)) (by omega))
      clear hBB
      obtain ⟨fk, hfk⟩ : ∃ fk, f k = fk := ⟨_, rfl⟩
      obtain ⟨fB, hfB⟩ : ∃ fB, f B = fB := ⟨_, rfl⟩
      have HFk := Lib.hid hfk
      have HFB := Lib.hid hfB
      rw [hfB] at q51
      rw [hfk, hfB] at HN HCm
      rw [hfk]
      clear hfk hfB hc0 hc1 hf0 hf1
      go_wp2_with fail
      refine (f_vecCompare _ _ _ _ _).mono ?_
      rintro e w6 ⟨rfl, hb6⟩
      generalize or2 (cmpI fk fB) (cmpI (k : Int) (B : Int)) = C at *
      have z6 : w4.heap.size < w6.heap.size := by have := hb6.size; simp at this; omega
      have z6' : w5.heap.size < w6.heap.size := by have := hb6.size; simp at this; omega
      have q60 := (hb6.cell (p := ⟨w4.heap.size, 0, none⟩) (by simp; omega))
      have q61 := (hb6.cell (p := ⟨w4.heap.size, 1, none⟩) (by simp; omega))
      have r60 := (hb6.frozen (p := ⟨w4.heap.size, 0, none⟩) (by simp; omega))
      have r61 := (hb6.frozen (p := ⟨w4.heap.size, 1, none⟩) (by simp; omega))
      have t60 := (hb6.cell (p := ⟨w5.heap.size, 0, none⟩) (by simp))
      have t61 := (hb6.cell (p := ⟨w5.heap.size, 1, none⟩) (by simp))
      have u0 : w6.cell? ⟨w4.heap.size, 0, none⟩ = some (.int .u64 (B : Int)) := by rw [q60]; go_simp
      have u1 : w6.cell? ⟨w4.heap.size, 1, none⟩ = some (.int .u64 fB) := by rw [q61]; go_simp
      have u2 : w6.frozen? ⟨w4.heap.size, 0, none⟩ = false := by rw [r60]; go_simp
      have u3 : w6.frozen? ⟨w4.heap.size, 1, none⟩ = false := by rw [r61]; go_simp
      have u4 : w6.cell? ⟨w5.heap.size, 0, none⟩ = some (.int .u64 (k : Int)) := by rw [t60]; go_simp
      have u5 : w6.cell? ⟨w5.heap.size, 1, none⟩ = some (.int .u64 fk) := by rw [t61]; go_simp
      clear q50 q51 r50 r51 q60 q61 r60 r61 t60 t61
      have hB6 : Below w4.heap.size w4 w6 := by ((have shb6 := hb6.size); (try simp at shb6); (have shb5 := hb5.size); (try simp at shb5); (have shbr := hbr.size); (try simp at shbr); (repeat' (first | (with_reducible exact Below.refl _ _) | (with_reducible refine Below.setCell ?_ ?_ _) | (with_reducible refine Below.alloc ?_ ?_ _) | (with_reducible refine Below.drew ?_) | (with_reducible refine Below.trans ?_ (Below.mono hb6 ?_)) | (with_reducible refine Below.trans ?_ (Below.mono hb5 ?_)) | (with_reducible refine Below.trans ?_ (Below.mono hbr ?_)) | go_size)))
      by_cases hd : fk < fB
      · have hC : C < 0 := by have := HCm.out; rw [decide_eq_true hd] at this; exact of_decide_eq_true this
        have HN2 := Lib.hid (HN.out.1 hd)
        clear hd
        go_wp2
        go_roundw
        case rel =>
          refine ⟨k + 1, by omega, by go_num, ?_, ?_, ?_, ?_, ?_, ?_⟩
          · rw [Nat.add_sub_cancel, HN2.out]; go_simp
          · rw [Nat.add_sub_cancel, HN2.out, HFk.out]; go_simp
          · go_simp
          · go_simp
          · ((have shB6 := hB6.size); (try simp at shB6); (repeat' (first | (with_reducible exact Below.refl _ _) | (with_reducible refine Below.setCell ?_ ?_ _) | (with_reducible refine Below.alloc ?_ ?_ _) | (with_reducible refine Below.drew ?_) | (with_reducible refine Below.trans ?_ (Below.mono hB6 ?_)) | go_size)))
          · simp; omega
        case measure => simp [intOf]; omega
      · have hC : ¬ C < 0 := by have := HCm.out; rw [decide_eq_false hd] at this; exact of_decide_eq_false this
        have HN2 := Lib.hid (HN.out.2 (by omega))
        clear hd
        go_wp2
        go_roundw
        case rel =>
          refine ⟨k + 1, by omega, by go_num, ?_, ?_, u2, u3, hB6, z6⟩
          · rw [Nat.add_sub_cancel, HN2.out]; exact u0
          · rw [Nat.add_sub_cancel, HN2.out, HFB.out]; exact u1
        case measure => simp [intOf]; omega
    · have : k = l.length := by omega
      subst this
      have hbk := HK.out (l.length - 1)
      obtain ⟨B, hBB⟩ : ∃ B, bestK f (l.length - 1) = B := ⟨_, rfl⟩
      have HBB := Lib.hid hBB
      rw [hBB] at hbk hc0 hc1
      clear hBB
      obtain ⟨z, hz⟩ : ∃ z : Int, (B : Int) = z := ⟨_, rfl⟩
      have hz0 : 0 ≤ z := by omega
      have hz1 : z ≤ 1000 := by omega
      rw [hz] at hc0
      have HZ := Lib.hid hz
      clear hz hbk hc1 hf0 hf1 hbr HK HR HD HBd
      go_wp2
      refine bodyPost_ret (v := .tuple #[.int .i64 z, .int .i64 0]) (by simp only [results, Try.results53]; go_simp) rfl ⟨?_, ?_⟩
      · rw [HFD.out, HBB.out, HZ.out]
      · ((have shBr := hBr.size); (try simp at shBr); (repeat' (first | (with_reducible exact Below.refl _ _) | (with_reducible refine Below.setCell ?_ ?_ _) | (with_reducible refine Below.alloc ?_ ?_ _) | (with_reducible refine Below.drew ?_) | (with_reducible refine Below.trans ?_ (Below.mono hBr ?_)) | go_size)))
set_option maxHeartbeats 2000000 in
theorem r5Nearest (v u : Value) (l : List PV) (x : List Int) (w : World) (h : VecsV w v l) (h' : VecV w u x) (h0 : 0 < l.length) (hE : vecsE ((u, x) :: l) = 0) :
    Calls Try.prog 35 #[v, u] w fun e w' => e = .returned (.int .i64 (bestK (farD l x) (l.length - 1) : Nat)) ∧ Below w.heap.size w w' := by
  have H := Lib.hid h
  have H' := Lib.hid h'
  obtain ⟨a, cap, rfl, hl, hm, hcell⟩ := h.open
  have Hc := Lib.hid hcell
  obtain ⟨a', cap', rfl, hl', hm'⟩ := h'.form
  have hne : ¬ l = [] := by intro e; subst e; simp at h0
  have HOK := Lib.hid (vecsE_cons hE)
  have HD := Lib.hid (fun k (hk : k < l.length) => farD_get (x := x) hk)
  have HK := Lib.hid (fun k => bestK_le (farD l x) k)
  have HF0 := Lib.hid (show bestK (farD l x) 0 = 0 from rfl)
  have HR := Lib.hid (best_step (farD l x))
  clear h h' hE hcell
  go_enter Try.func35, Try.ntmps35
  go_wp2
  go_loopw [5, 6] (fun n i wr => ∃ k : Nat, 1 ≤ k ∧ k ≤ l.length ∧ i = .int .i64 k ∧ n = .int .i64 (bestK (farD l x) (k - 1) : Nat) ∧ Below w.heap.size w wr) (fun _ i _ => l.length - (intOf i).toNat)
  case atStart => exact ⟨1, Nat.le_refl _, h0, rfl, rfl, Below.refl _ _⟩
  case round =>
    obtain ⟨k, hk1, hk, rfl, rfl, hBr⟩ := hrel
    have hsz := hBr.size
    by_cases hlt2 : k < l.length
    · have hbk := HK.out (k - 1)
      have HN := Lib.hid (HR.out k)
      obtain ⟨B, hBB⟩ : ∃ B, bestK (farD l x) (k - 1) = B := ⟨_, rfl⟩
      rw [hBB] at HN hbk
      have HBB := Lib.hid hBB
      have hBl : B < l.length := by omega
      have G0 := Hc.out B hBl
      obtain ⟨b, off, rfl, hlt, g1⟩ := Hc.out k hlt2
      obtain ⟨b', off', hbo, -, g2⟩ := G0
      simp only [Option.some.injEq, Addr.mk.injEq, and_true] at hbo
      obtain ⟨rfl, rfl⟩ := hbo
      have e1 := (hBr.cell (p := ⟨b, off + k, none⟩) hlt).trans g1
      have e2 := (hBr.cell (p := ⟨b, off + B, none⟩) hlt).trans g2
      have HX1 := Lib.hid ((H.out.2 l[k] (List.getElem_mem hlt2)).grown hBr)
      have HX2 := Lib.hid ((H.out.2 l[B] (List.getElem_mem hBl)).grown hBr)
      have HO1 := Lib.hid (HOK.out.2 l[k] (List.getElem_mem hlt2))
      have HO2 := Lib.hid (HOK.out.2 l[B] (List.getElem_mem hBl))
      have D1 := HD.out k hlt2
      have D2 := HD.out B hBl
      clear g1 g2
      rw [hBB]
      clear hBB
      have hzb : b < wr.heap.size := by omega
      generalize l[k] = p1 at *
      generalize l[B] = p2 at *
      generalize farD l x k = fk at *
      generalize farD l x B = fB at *
      have HD1 := Lib.hid D1
      have HD2 := Lib.hid D2
      clear D1 D2
      go_wp2
      refine wp_grow [(5, .val (.int .u64 fk)), (11, .val (.int .u64 fB))] 13 (by kernel_rfl) (by kernel_rfl) (by rfl) (by rfl) ?_
      simp only [List.take_succ_cons, List.take_zero, List.drop_succ_cons, List.drop_zero]
      repeat (first
        | (apply Der.quiet; (rfl); (rfl); (intro w' hw' hctx; have hc' := bcell hw'; have y1 := fun o => hw'.cell (p := ⟨b, o, none⟩) (by simp; omega); clear hctx; go_simp; first | exact rfl | exact ⟨rfl, rfl⟩); simp only [Act.put, List.setIfInBounds_toArray, List.set_cons_succ, List.set_cons_zero, Nat.reduceAdd])
        | (apply Der.skip; (rfl); simp only [Act.put, List.setIfInBounds_toArray, List.set_cons_succ, List.set_cons_zero, Nat.reduceAdd]))
      apply Der.val
      · rfl
      · rfl
      · (intro w' hw' hctx; go_simp; refine (r5Dist _ _ _ _ HO1.out.1 HOK.out.1 HO1.out.2 _ (HX1.out.grown (undrew hw')) (H'.out.grown (hBr.trans ((undrew hw').mono hsz)))).mono ?_; rintro e w2 ⟨rfl, hb⟩; exact ⟨_, rfl, congrArg (Value.int .u64) HD1.out.symm, hb⟩)
      simp only [Act.put, List.setIfInBounds_toArray, List.set_cons_succ, List.set_cons_zero, Nat.reduceAdd]
      repeat (first
        | (apply Der.quiet; (rfl); (rfl); (intro w' hw' hctx; have hc' := bcell hw'; have y1 := fun o => hw'.cell (p := ⟨b, o, none⟩) (by simp; omega); clear hctx; go_simp; first | exact rfl | exact ⟨rfl, rfl⟩); simp only [Act.put, List.setIfInBounds_toArray, List.set_cons_succ, List.set_cons_zero, Nat.reduceAdd])
        | (apply Der.skip; (rfl); simp only [Act.put, List.setIfInBounds_toArray, List.set_cons_succ, List.set_cons_zero, Nat.reduceAdd]))
      apply Der.val
      · rfl
      · rfl
      · (intro w' hw' hctx; go_simp; refine (r5Dist _ _ _ _ HO2.out.1 HOK.out.1 HO2.out.2 _ (HX2.out.grown (undrew hw')) (H'.out.grown (hBr.trans ((undrew hw').mono hsz)))).mono ?_; rintro e w2 ⟨rfl, hb⟩; exact ⟨_, rfl, congrArg (Value.int .u64) HD2.out.symm, hb⟩)
      simp only [Act.put, List.setIfInBounds_toArray, List.set_cons_succ, List.set_cons_zero, Nat.reduceAdd]
      repeat (first
        | (apply Der.quiet; (rfl); (rfl); (intro w' hw' hctx; have hc' := bcell hw'; have y1 := fun o => hw'.cell (p := ⟨b, o, none⟩) (by simp; omega); clear hctx; go_simp; first | exact rfl | exact ⟨rfl, rfl⟩); simp only [Act.put, List.setIfInBounds_toArray, List.set_cons_succ, List.set_cons_zero, Nat.reduceAdd])
        | (apply Der.skip; (rfl); simp only [Act.put, List.setIfInBounds_toArray, List.set_cons_succ, List.set_cons_zero, Nat.reduceAdd]))
      refine Der.nil (fun w2 hgw2 hctx => ?_)
      clear hctx
      have hb2 : Below _ _ w2 := hgw2
      clear hgw2
      by_cases hd : fk < fB
      · have HN2 := Lib.hid (HN.out.1 hd)
        go_wp2
        go_roundw
        case rel => exact ⟨k + 1, by omega, by omega, by go_num, by rw [Nat.add_sub_cancel, HN2.out], by ((have shb2 := hb2.size); (try simp at shb2); (have shBr := hBr.size); (try simp at shBr); (repeat' (first | (with_reducible exact Below.refl _ _) | (with_reducible refine Below.setCell ?_ ?_ _) | (with_reducible refine Below.alloc ?_ ?_ _) | (with_reducible refine Below.drew ?_) | (with_reducible refine Below.trans ?_ (Below.mono hb2 ?_)) | (with_reducible refine Below.trans ?_ (Below.mono hBr ?_)) | go_size)))⟩
        case measure => simp [intOf]; omega
      · have HN2 := Lib.hid (HN.out.2 (by omega))
        go_wp2
        go_roundw
        case rel => exact ⟨k + 1, by omega, by omega, by go_num, by rw [Nat.add_sub_cancel, HN2.out], by ((have shb2 := hb2.size); (try simp at shb2); (have shBr := hBr.size); (try simp at shBr); (repeat' (first | (with_reducible exact Below.refl _ _) | (with_reducible refine Below.setCell ?_ ?_ _) | (with_reducible refine Below.alloc ?_ ?_ _) | (with_reducible refine Below.drew ?_) | (with_reducible refine Below.trans ?_ (Below.mono hb2 ?_)) | (with_reducible refine Below.trans ?_ (Below.mono hBr ?_)) | go_size)))⟩
        case measure => simp [intOf]; omega
    · have : k = l.length := by omega
      subst this
      go_wp2
      go_ret
      exact ⟨rfl, hBr⟩
end Go.Proofs.Ytlfmffjlmhpcdaa

/- Versions and cells that may be: the program's word and the document's. -/
namespace Go.Proofs.Ytlfmffjlmhpcdaa
open Go.RowKit
set_option maxRecDepth 100000
attribute [local irreducible] Der

def endOK (b e : Int) : Bool := decide (e = 0) || (decide (b < e) && decide (e ≤ 1099511627776))
/-- May a version be? -/
def verOK (b e : Int) (l : List Int) : Bool := vecOK l && (decide (1 ≤ b) && (decide (b ≤ 1099511627776) && endOK b e))
theorem end_cases (b e : Int) : (e = 0 ∧ endOK b e = true) ∨ (e ≠ 0 ∧ b < e ∧ e ≤ 1099511627776 ∧ endOK b e = true) ∨ (e ≠ 0 ∧ b < e ∧ 1099511627776 < e ∧ endOK b e = false) ∨ (e ≠ 0 ∧ e ≤ b ∧ endOK b e = false) := by
  unfold endOK
  by_cases h : e = 0
  · exact .inl ⟨h, by simp [h]⟩
  · by_cases h1 : b < e
    · by_cases h2 : e ≤ 1099511627776
      · exact .inr (.inl ⟨h, h1, h2, by simp [h1, h2]⟩)
      · exact .inr (.inr (.inl ⟨h, h1, by omega, by simp [h, h2]⟩))
    · exact .inr (.inr (.inr ⟨h, by omega, by simp [h, h1]⟩))
theorem ver_cases (b e : Int) (l : List Int) : (vecOK l = false ∧ verOK b e l = false) ∨ (vecOK l = true ∧ b < 1 ∧ verOK b e l = false) ∨ (vecOK l = true ∧ 1 ≤ b ∧ 1099511627776 < b ∧ verOK b e l = false) ∨ (vecOK l = true ∧ 1 ≤ b ∧ b ≤ 1099511627776 ∧ verOK b e l = endOK b e) := by
  unfold verOK
  cases vecOK l
  · exact .inl ⟨rfl, rfl⟩
  · by_cases h1 : b < 1
    · exact .inr (.inl ⟨rfl, h1, by rw [decide_eq_false (show ¬ 1 ≤ b by omega)]; rfl⟩)
    · by_cases h2 : 1099511627776 < b
      · exact .inr (.inr (.inl ⟨rfl, by omega, h2, by rw [decide_eq_true (show 1 ≤ b by omega), decide_eq_false (show ¬ b ≤ 1099511627776 by omega)]; rfl⟩))
      · exact .inr (.inr (.inr ⟨rfl, by omega, by omega, by rw [decide_eq_true (show 1 ≤ b by omega), decide_eq_true (show b ≤ 1099511627776 by omega)]; rfl⟩))
def verE (b e : Int) (l : List Int) : Int := if verOK b e l then 0 else 171
set_option maxHeartbeats 4000000 in
theorem f_CheckVersion (b e : Int) (v : Value) (l : List Int) (w : World) (h : VecV w v l) : Calls Try.prog 77 #[.agg #[.int .u64 b, .int .u64 e, v]] w fun x w' => x = .returned (.int .i64 (verE b e l)) ∧ Below w.heap.size w w' := by
  obtain ⟨a, cap, rfl, hl, hm⟩ := h.form
  have H := Lib.hid h
  have hV : ∀ W, Below w.heap.size w W → VecV W (.slice a l.length cap) l := fun W hb => h.grown hb
  have HV := Lib.hid hV
  clear h hV
  rcases end_cases b e with ⟨h0, hE⟩ | ⟨h0, h1, h2, hE⟩ | ⟨h0, h1, h2, hE⟩ | ⟨h0, h1, hE⟩
  all_goals
    rcases ver_cases b e l with ⟨g0, hO⟩ | ⟨g0, g1, hO⟩ | ⟨g0, g1, g2, hO⟩ | ⟨g0, g1, g2, hO⟩
    all_goals try (exfalso; omega)
    all_goals
      have HC := Lib.hid (show vecE l = if vecOK l then 0 else 150 from rfl)
      rw [g0] at HC
      have HO : Hid (verE b e l = if verOK b e l then 0 else 171) := Lib.hid rfl
      rw [hO] at HO
      try rw [hE] at HO
      have ee : (e == 0) = decide (e = 0) := by rw [Bool.eq_iff_iff]; simp
      first | rw [decide_eq_true h0] at ee | rw [decide_eq_false h0] at ee
      first | have dm : decide (e ≤ 1099511627776) = false := decide_eq_false (by omega) | have dm : decide (e ≤ 1099511627776) = true := decide_eq_true (by omega) | skip
      clear g0 hO hE h0
      go_enter Try.func77, Try.ntmps77
      go_wp2_with fail
      refine (f_vecCheck _ l _ (HV.out _ (by ((repeat' (first | (with_reducible exact Below.refl _ _) | (with_reducible refine Below.setCell ?_ ?_ _) | (with_reducible refine Below.alloc ?_ ?_ _) | (with_reducible refine Below.drew ?_) | (with_reducible refine Below.trans ?_ (Below.mono (by assumption) ?_)) | go_size)))))).mono ?_
      rintro x w1 ⟨rfl, hb1⟩
      rw [HC.out]
      have z1w0 : w.heap.size < w1.heap.size := (by have := hb1.size; (try simp at this); omega)
      have q1w0 := fun o => hb1.cell (p := ⟨w.heap.size, o, none⟩) (by first | omega | (simp; done) | (simp; omega))
      have r1w0 := fun o => hb1.frozen (p := ⟨w.heap.size, o, none⟩) (by first | omega | (simp; done) | (simp; omega))
      go_wp2
      go_ret
      refine ⟨by rw [HO.out]; rfl, ?_⟩
      ((have shb1 := hb1.size); (try simp at shb1); (repeat' (first | (with_reducible exact Below.refl _ _) | (with_reducible refine Below.setCell ?_ ?_ _) | (with_reducible refine Below.alloc ?_ ?_ _) | (with_reducible refine Below.drew ?_) | (with_reducible refine Below.trans ?_ (Below.mono hb1 ?_)) | go_size)))
set_option maxHeartbeats 4000000 in
theorem r7RightVersion (b e : Int) (v : Value) (l : List Int) (w : World) (h : VecV w v l) : Calls Try.prog 98 #[.agg #[.int .u64 b, .int .u64 e, v]] w fun x w' => x = .returned (.bool (verOK b e l)) ∧ Below w.heap.size w w' := by
  obtain ⟨a, cap, rfl, hl, hm⟩ := h.form
  have hV : ∀ W, Below w.heap.size w W → VecV W (.slice a l.length cap) l := fun W hb => h.grown hb
  have HV := Lib.hid hV
  clear h hV
  by_cases hbad : b < 1 ∨ 1099511627776 < b ∨ 1099511627776 < e ∨ (e ≠ 0 ∧ e ≤ b)
  · have HO := Lib.hid (show verOK b e l = false by
      rcases ver_cases b e l with ⟨-, hO⟩ | ⟨-, -, hO⟩ | ⟨-, -, -, hO⟩ | ⟨g0, g1, g2, hO⟩
      · exact hO
      · exact hO
      · exact hO
      · rw [hO]
        rcases end_cases b e with ⟨h0, hE⟩ | ⟨h0, h1, h2, hE⟩ | ⟨h0, h1, h2, hE⟩ | ⟨h0, h1, hE⟩
        · omega
        · omega
        · exact hE
        · exact hE)
    by_cases h1 : b < 1
    · clear hbad
      go_enter Try.func98, Try.ntmps98
      go_wp2
      go_ret
      refine ⟨by rw [HO.out]; rfl, ?_⟩
      ((repeat' (first | (with_reducible exact Below.refl _ _) | (with_reducible refine Below.setCell ?_ ?_ _) | (with_reducible refine Below.alloc ?_ ?_ _) | (with_reducible refine Below.drew ?_) | (with_reducible refine Below.trans ?_ (Below.mono (by assumption) ?_)) | go_size)))
    · by_cases h2 : 1099511627776 < b
      · clear hbad
        go_enter Try.func98, Try.ntmps98
        go_wp2
        go_ret
        refine ⟨by rw [HO.out]; rfl, ?_⟩
        ((repeat' (first | (with_reducible exact Below.refl _ _) | (with_reducible refine Below.setCell ?_ ?_ _) | (with_reducible refine Below.alloc ?_ ?_ _) | (with_reducible refine Below.drew ?_) | (with_reducible refine Below.trans ?_ (Below.mono (by assumption) ?_)) | go_size)))
      · by_cases h3 : 1099511627776 < e
        · clear hbad
          go_enter Try.func98, Try.ntmps98
          go_wp2
          go_ret
          refine ⟨by rw [HO.out]; rfl, ?_⟩
          ((repeat' (first | (with_reducible exact Below.refl _ _) | (with_reducible refine Below.setCell ?_ ?_ _) | (with_reducible refine Below.alloc ?_ ?_ _) | (with_reducible refine Below.drew ?_) | (with_reducible refine Below.trans ?_ (Below.mono (by assumption) ?_)) | go_size)))
        · have h4 : e ≤ b := by omega
          have h5 : (e != 0) = true := by simp; omega
          clear hbad
          go_enter Try.func98, Try.ntmps98
          go_wp2
          go_ret
          refine ⟨by rw [HO.out]; rfl, ?_⟩
          ((repeat' (first | (with_reducible exact Below.refl _ _) | (with_reducible refine Below.setCell ?_ ?_ _) | (with_reducible refine Below.alloc ?_ ?_ _) | (with_reducible refine Below.drew ?_) | (with_reducible refine Below.trans ?_ (Below.mono (by assumption) ?_)) | go_size)))
  · have HO := Lib.hid (show verOK b e l = vecOK l by
      rcases ver_cases b e l with ⟨g, hO⟩ | ⟨_, g1, hO⟩ | ⟨_, _, g2, hO⟩ | ⟨g0, g1, g2, hO⟩
      · rw [hO, g]
      · omega
      · omega
      · rw [hO, g0]
        rcases end_cases b e with ⟨h0, hE⟩ | ⟨h0, h1, h2, hE⟩ | ⟨h0, h1, h2, hE⟩ | ⟨h0, h1, hE⟩
        · exact hE
        · exact hE
        · omega
        · omega)
    have h1 : ¬ b < 1 := by omega
    have h2 : ¬ 1099511627776 < b := by omega
    have h3 : ¬ 1099511627776 < e := by omega
    by_cases h4 : e = 0
    · have h5 : (e != 0) = false := by simp [h4]
      clear hbad h4
      go_enter Try.func98, Try.ntmps98
      go_wp2_with fail
      refine (r5Right _ l _ (HV.out _ (by ((repeat' (first | (with_reducible exact Below.refl _ _) | (with_reducible refine Below.setCell ?_ ?_ _) | (with_reducible refine Below.alloc ?_ ?_ _) | (with_reducible refine Below.drew ?_) | (with_reducible refine Below.trans ?_ (Below.mono (by assumption) ?_)) | go_size)))))).mono ?_
      rintro x w1 ⟨rfl, hb1⟩
      go_wp2
      go_ret
      refine ⟨by rw [HO.out]; rfl, ?_⟩
      ((have shb1 := hb1.size); (try simp at shb1); (repeat' (first | (with_reducible exact Below.refl _ _) | (with_reducible refine Below.setCell ?_ ?_ _) | (with_reducible refine Below.alloc ?_ ?_ _) | (with_reducible refine Below.drew ?_) | (with_reducible refine Below.trans ?_ (Below.mono hb1 ?_)) | go_size)))
    · have h5 : (e != 0) = true := by simp [h4]
      have h6 : ¬ e ≤ b := by omega
      clear hbad h4
      go_enter Try.func98, Try.ntmps98
      go_wp2_with fail
      refine (r5Right _ l _ (HV.out _ (by ((repeat' (first | (with_reducible exact Below.refl _ _) | (with_reducible refine Below.setCell ?_ ?_ _) | (with_reducible refine Below.alloc ?_ ?_ _) | (with_reducible refine Below.drew ?_) | (with_reducible refine Below.trans ?_ (Below.mono (by assumption) ?_)) | go_size)))))).mono ?_
      rintro x w1 ⟨rfl, hb1⟩
      go_wp2
      go_ret
      refine ⟨by rw [HO.out]; rfl, ?_⟩
      ((have shb1 := hb1.size); (try simp at shb1); (repeat' (first | (with_reducible exact Below.refl _ _) | (with_reducible refine Below.setCell ?_ ?_ _) | (with_reducible refine Below.alloc ?_ ?_ _) | (with_reducible refine Below.drew ?_) | (with_reducible refine Below.trans ?_ (Below.mono hb1 ?_)) | go_size)))
end Go.Proofs.Ytlfmffjlmhpcdaa

/- Cells that may be, and arenas: the program's word and the document's. -/
namespace Go.Proofs.Ytlfmffjlmhpcdaa
open Go.RowKit
set_option maxRecDepth 100000
attribute [local irreducible] Der

@[local go_sem] theorem run_eq_pair (x y z t : Int) (w : World) : (Op.equalIn 10000 48 (.agg #[.int .u64 x, .int .u64 y]) (.agg #[.int .u64 z, .int .u64 t])).run Try.prog w = .ok (x == z && y == t) w :=
  run_equalIn_arr2 9998 48 47 .u64 .u64 x y z t w Try.underlying48 Try.underlying47 mask_size (fun _ => rfl)
theorem f_SameVersion (b e b' e' : Int) (v u : Value) (l m : List Int) (w : World) (h : VecV w v l) (h' : VecV w u m) : Calls Try.prog 111 #[.agg #[.int .u64 b, .int .u64 e, v], .agg #[.int .u64 b', .int .u64 e', u]] w fun x w' =>
    x = .returned (.bool (decide (b = b' ∧ e = e') && decide (l = m))) ∧ Below w.heap.size w w' := by
  obtain ⟨a, cap, rfl, hl, hm⟩ := h.form
  obtain ⟨a', cap', rfl, hl', hm'⟩ := h'.form
  have HV := Lib.hid (fun W (hb : Below w.heap.size w W) => h.grown hb)
  have HU := Lib.hid (fun W (hb : Below w.heap.size w W) => h'.grown hb)
  clear h h'
  by_cases hbe : b = b' ∧ e = e'
  · obtain ⟨rfl, rfl⟩ := hbe
    have HE := Lib.hid (show (decide (b = b ∧ e = e) && decide (l = m)) = decide (l = m) by simp)
    go_enter Try.func111, Try.ntmps111
    go_wp2_with fail
    refine (f_vecSame _ _ l m _ (HV.out _ (by ((repeat' (first | (with_reducible exact Below.refl _ _) | (with_reducible refine Below.setCell ?_ ?_ _) | (with_reducible refine Below.alloc ?_ ?_ _) | (with_reducible refine Below.drew ?_) | (with_reducible refine Below.trans ?_ (Below.mono (by assumption) ?_)) | go_size))))) (HU.out _ (by ((repeat' (first | (with_reducible exact Below.refl _ _) | (with_reducible refine Below.setCell ?_ ?_ _) | (with_reducible refine Below.alloc ?_ ?_ _) | (with_reducible refine Below.drew ?_) | (with_reducible refine Below.trans ?_ (Below.mono (by assumption) ?_)) | go_size)))))).mono ?_
    rintro x w1 ⟨rfl, hb1⟩
    go_wp2
    go_ret
    refine ⟨by rw [HE.out]; rfl, ?_⟩
    ((have shb1 := hb1.size); (try simp at shb1); (repeat' (first | (with_reducible exact Below.refl _ _) | (with_reducible refine Below.setCell ?_ ?_ _) | (with_reducible refine Below.alloc ?_ ?_ _) | (with_reducible refine Below.drew ?_) | (with_reducible refine Below.trans ?_ (Below.mono hb1 ?_)) | go_size)))
  · have HE := Lib.hid (show (decide (b = b' ∧ e = e') && decide (l = m)) = false by rw [decide_eq_false hbe]; rfl)
    have hne : (b == b' && e == e') = false := by
      cases h1 : b == b' <;> cases h2 : e == e' <;> simp_all
    clear hbe
    go_enter Try.func111, Try.ntmps111
    go_wp2
    go_ret
    refine ⟨by rw [HE.out]; rfl, ?_⟩
    ((repeat' (first | (with_reducible exact Below.refl _ _) | (with_reducible refine Below.setCell ?_ ?_ _) | (with_reducible refine Below.alloc ?_ ?_ _) | (with_reducible refine Below.drew ?_) | (with_reducible refine Below.trans ?_ (Below.mono (by assumption) ?_)) | go_size)))
/-- May a cell be? -/
def cellOK (c : Cel) : Bool := if c.used then verOK c.b c.e c.vec else (decide (c.id = 0) && (decide (c.b = 0 ∧ c.e = 0) && decide (c.vec = [])))
theorem VecV.nil (w : World) : VecV w (.slice none 0 0) [] := ⟨Sl.nilS w, NilA.nil⟩
set_option maxHeartbeats 1000000 in
theorem f_right (c : Cel) (w : World) (h : VecV w c.sv c.vec) : Calls Try.prog 93 #[argC c] w fun x w' => x = .returned (.bool (cellOK c)) ∧ Below w.heap.size w w' := by
  obtain ⟨used, id, b, e, sv, vec⟩ := c
  simp only at h
  unfold argC
  obtain ⟨a, cap, rfl, hl, hm⟩ := h.form
  have HV := Lib.hid (fun W (hb : Below w.heap.size w W) => h.grown hb)
  clear h
  cases used
  · by_cases h0 : id = 0
    · have HE := Lib.hid (show cellOK ⟨false, id, b, e, .slice a vec.length cap, vec⟩ = (decide (b = 0 ∧ e = 0) && decide (vec = [])) by unfold cellOK; simp [h0])
      have hi : (id == 0) = true := by simp [h0]
      clear h0
      go_enter Try.func93, Try.ntmps93
      go_wp2_with fail
      refine (f_SameVersion _ _ _ _ _ _ vec [] _ (HV.out _ (by ((repeat' (first | (with_reducible exact Below.refl _ _) | (with_reducible refine Below.setCell ?_ ?_ _) | (with_reducible refine Below.alloc ?_ ?_ _) | (with_reducible refine Below.drew ?_) | (with_reducible refine Below.trans ?_ (Below.mono (by assumption) ?_)) | go_size))))) (VecV.nil _)).mono ?_
      rintro x w1 ⟨rfl, hb1⟩
      obtain ⟨q, hq⟩ : ∃ q, (decide (b = 0 ∧ e = 0) && decide (vec = [])) = q := ⟨_, rfl⟩
      rw [hq] at HE ⊢
      clear hq
      go_wp2
      go_ret
      refine ⟨by rw [HE.out]; rfl, ?_⟩
      ((have shb1 := hb1.size); (try simp at shb1); (repeat' (first | (with_reducible exact Below.refl _ _) | (with_reducible refine Below.setCell ?_ ?_ _) | (with_reducible refine Below.alloc ?_ ?_ _) | (with_reducible refine Below.drew ?_) | (with_reducible refine Below.trans ?_ (Below.mono hb1 ?_)) | go_size)))
    · have HE := Lib.hid (show cellOK ⟨false, id, b, e, .slice a vec.length cap, vec⟩ = false by unfold cellOK; simp [h0])
      have hi : (id == 0) = false := by simp [h0]
      clear h0
      go_enter Try.func93, Try.ntmps93
      go_wp2
      go_ret
      refine ⟨by rw [HE.out]; rfl, ?_⟩
      ((repeat' (first | (with_reducible exact Below.refl _ _) | (with_reducible refine Below.setCell ?_ ?_ _) | (with_reducible refine Below.alloc ?_ ?_ _) | (with_reducible refine Below.drew ?_) | (with_reducible refine Below.trans ?_ (Below.mono (by assumption) ?_)) | go_size)))
  · have HE := Lib.hid (show cellOK ⟨true, id, b, e, .slice a vec.length cap, vec⟩ = verOK b e vec by unfold cellOK; rfl)
    have HC := Lib.hid (show verE b e vec = if verOK b e vec then 0 else 171 from rfl)
    go_enter Try.func93, Try.ntmps93
    go_wp2_with fail
    refine (f_CheckVersion _ _ _ vec _ (HV.out _ (by ((repeat' (first | (with_reducible exact Below.refl _ _) | (with_reducible refine Below.setCell ?_ ?_ _) | (with_reducible refine Below.alloc ?_ ?_ _) | (with_reducible refine Below.drew ?_) | (with_reducible refine Below.trans ?_ (Below.mono (by assumption) ?_)) | go_size)))))).mono ?_
    rintro x w1 ⟨rfl, hb1⟩
    rw [HC.out]
    generalize verOK b e vec = q at *
    cases q
    all_goals
      go_wp2
      go_ret
      refine ⟨by rw [HE.out]; rfl, ?_⟩
      ((have shb1 := hb1.size); (try simp at shb1); (repeat' (first | (with_reducible exact Below.refl _ _) | (with_reducible refine Below.setCell ?_ ?_ _) | (with_reducible refine Below.alloc ?_ ?_ _) | (with_reducible refine Below.drew ?_) | (with_reducible refine Below.trans ?_ (Below.mono hb1 ?_)) | go_size)))
theorem c_wrong (c : Cel) (w : World) (h : VecV w c.sv c.vec) : Calls Try.prog 92 #[argC c] w fun x w' => x = .returned (.bool (!cellOK c)) ∧ Below w.heap.size w w' := by
  have HR := fun w => Lib.hid (f_right c w)
  have HV := Lib.hid (fun W (hb : Below w.heap.size w W) => h.grown hb)
  clear h
  obtain ⟨used, id, b, e, sv, vec⟩ := c
  unfold argC at *
  go_enter Try.func92, Try.ntmps92
  go_wp2_with fail
  refine ((HR _).out (HV.out _ (by ((repeat' (first | (with_reducible exact Below.refl _ _) | (with_reducible refine Below.setCell ?_ ?_ _) | (with_reducible refine Below.alloc ?_ ?_ _) | (with_reducible refine Below.drew ?_) | (with_reducible refine Below.trans ?_ (Below.mono (by assumption) ?_)) | go_size)))))).mono ?_
  rintro x w1 ⟨rfl, hb1⟩
  go_wp2
  go_ret
  refine ⟨rfl, ?_⟩
  ((have shb1 := hb1.size); (try simp at shb1); (repeat' (first | (with_reducible exact Below.refl _ _) | (with_reducible refine Below.setCell ?_ ?_ _) | (with_reducible refine Below.alloc ?_ ?_ _) | (with_reducible refine Below.drew ?_) | (with_reducible refine Below.trans ?_ (Below.mono hb1 ?_)) | go_size)))
theorem wrong_on (l : List Cel) (w : World) (h : ∀ c ∈ l, VecV w c.sv c.vec) : PredOn 92 #[] argC (fun c => !cellOK c) l w := fun c hc w' hb => c_wrong c w' ((h c hc).grown hb)
theorem enters_wrong : ∀ args w, (callFunc 92 args).run Try.prog w = .ok (.enter 92 args) w := enters_of Try.func92 (by kernel_rfl) rfl
/-- May an arena be? -/
def arenaOK (l : List Cel) : Bool := decide (l.length = 96) && l.all cellOK
def arenaE (l : List Cel) : Int := if arenaOK l then 0 else 190
theorem any_not {α : Type} (p : α → Bool) (l : List α) : l.any (fun x => !p x) = !l.all p := by
  induction l with
  | nil => rfl
  | cons x l ih => simp only [List.any_cons, List.all_cons, ih, Bool.not_and]
theorem f_arenaCheck (v : Value) (l : List Cel) (w : World) (h : CelsV w v l) : Calls Try.prog 51 #[.agg #[v]] w fun x w' => x = .returned (.int .i64 (arenaE l)) ∧ Below w.heap.size w w' := by
  obtain ⟨a, cap, rfl, hl, hm⟩ : ∃ a cap, v = .slice a l.length cap ∧ l.length ≤ cap ∧ cap ≤ 9223372036854775807 := by
    obtain ⟨a, cap, e, h1, h2, -⟩ := h.open; exact ⟨a, cap, e, h1, h2⟩
  have HV := Lib.hid (fun W (hb : Below w.heap.size w W) => h.grown hb)
  clear h
  by_cases h96 : l.length = 96
  · have HE := Lib.hid (show arenaE l = if l.any (fun c => !cellOK c) then 190 else 0 by unfold arenaE arenaOK; rw [any_not, decide_eq_true h96]; cases l.all cellOK <;> rfl)
    have hn : ((l.length : Int) != 96) = false := by simp; omega
    clear h96
    go_enter Try.func51, Try.ntmps51
    go_wp2_with fail
    refine (anyC _ #[] enters_wrong (fun c => !cellOK c) _ l _ (HV.out _ (by ((repeat' (first | (with_reducible exact Below.refl _ _) | (with_reducible refine Below.setCell ?_ ?_ _) | (with_reducible refine Below.alloc ?_ ?_ _) | (with_reducible refine Below.drew ?_) | (with_reducible refine Below.trans ?_ (Below.mono (by assumption) ?_)) | go_size))))) (wrong_on l _ (HV.out _ (by ((repeat' (first | (with_reducible exact Below.refl _ _) | (with_reducible refine Below.setCell ?_ ?_ _) | (with_reducible refine Below.alloc ?_ ?_ _) | (with_reducible refine Below.drew ?_) | (with_reducible refine Below.trans ?_ (Below.mono (by assumption) ?_)) | go_size))))).2)).mono ?_
    rintro x w1 ⟨rfl, hb1⟩
    generalize l.any (fun c => !cellOK c) = q at *
    cases q
    all_goals
      go_wp2
      go_ret
      refine ⟨by rw [HE.out]; rfl, ?_⟩
      ((have shb1 := hb1.size); (try simp at shb1); (repeat' (first | (with_reducible exact Below.refl _ _) | (with_reducible refine Below.setCell ?_ ?_ _) | (with_reducible refine Below.alloc ?_ ?_ _) | (with_reducible refine Below.drew ?_) | (with_reducible refine Below.trans ?_ (Below.mono hb1 ?_)) | go_size)))
  · have HE := Lib.hid (show arenaE l = 190 by unfold arenaE arenaOK; rw [decide_eq_false h96]; rfl)
    have hn : ((l.length : Int) != 96) = true := by simp; omega
    clear h96
    go_enter Try.func51, Try.ntmps51
    go_wp2
    go_ret
    refine ⟨by rw [HE.out]; rfl, ?_⟩
    ((repeat' (first | (with_reducible exact Below.refl _ _) | (with_reducible refine Below.setCell ?_ ?_ _) | (with_reducible refine Below.alloc ?_ ?_ _) | (with_reducible refine Below.drew ?_) | (with_reducible refine Below.trans ?_ (Below.mono (by assumption) ?_)) | go_size)))
set_option maxHeartbeats 1000000 in
theorem r9Cell (c : Cel) (w : World) (h : VecV w c.sv c.vec) : Calls Try.prog 55 #[argC c] w fun x w' => x = .returned (.bool (cellOK c)) ∧ Below w.heap.size w w' := by
  obtain ⟨used, id, b, e, sv, vec⟩ := c
  simp only at h
  unfold argC
  obtain ⟨a, cap, rfl, hl, hm⟩ := h.form
  have HV := Lib.hid (fun W (hb : Below w.heap.size w W) => h.grown hb)
  clear h
  cases used
  · have hi : (id == 0) = decide (id = 0) := by rw [Bool.eq_iff_iff]; simp
    have hb' : (b == 0) = decide (b = 0) := by rw [Bool.eq_iff_iff]; simp
    have he' : (e == 0) = decide (e = 0) := by rw [Bool.eq_iff_iff]; simp
    have hn : ((vec.length : Int) == 0) = decide (vec = []) := by rw [Bool.eq_iff_iff]; simp
    have HE := Lib.hid (show cellOK ⟨false, id, b, e, .slice a vec.length cap, vec⟩ = (decide (id = 0) && (decide (b = 0) && (decide (e = 0) && decide (vec = [])))) by
      unfold cellOK; simp only [Bool.false_eq_true, if_false]; rw [Bool.decide_and, Bool.and_assoc])
    by_cases h0 : id = 0
    · rw [decide_eq_true h0] at hi HE
      by_cases h1 : b = 0
      · rw [decide_eq_true h1] at hb' HE
        by_cases h2 : e = 0
        · rw [decide_eq_true h2] at he' HE
          have hnn : ((vec.length : Int) == 0) = decide (vec = []) := hn
          by_cases h3 : vec = []
          · rw [decide_eq_true h3] at hn HE
            clear h0 h1 h2 h3 hnn
            go_enter Try.func55, Try.ntmps55
            go_wp2
            go_ret
            refine ⟨by rw [HE.out]; rfl, ?_⟩
            ((repeat' (first | (with_reducible exact Below.refl _ _) | (with_reducible refine Below.setCell ?_ ?_ _) | (with_reducible refine Below.alloc ?_ ?_ _) | (with_reducible refine Below.drew ?_) | (with_reducible refine Below.trans ?_ (Below.mono (by assumption) ?_)) | go_size)))
          · rw [decide_eq_false h3] at hn HE
            clear h0 h1 h2 h3 hnn
            go_enter Try.func55, Try.ntmps55
            go_wp2
            go_ret
            refine ⟨by rw [HE.out]; rfl, ?_⟩
            ((repeat' (first | (with_reducible exact Below.refl _ _) | (with_reducible refine Below.setCell ?_ ?_ _) | (with_reducible refine Below.alloc ?_ ?_ _) | (with_reducible refine Below.drew ?_) | (with_reducible refine Below.trans ?_ (Below.mono (by assumption) ?_)) | go_size)))
        · rw [decide_eq_false h2] at he' HE
          clear h0 h1 h2 hn
          go_enter Try.func55, Try.ntmps55
          go_wp2
          go_ret
          refine ⟨by rw [HE.out]; rfl, ?_⟩
          ((repeat' (first | (with_reducible exact Below.refl _ _) | (with_reducible refine Below.setCell ?_ ?_ _) | (with_reducible refine Below.alloc ?_ ?_ _) | (with_reducible refine Below.drew ?_) | (with_reducible refine Below.trans ?_ (Below.mono (by assumption) ?_)) | go_size)))
      · rw [decide_eq_false h1] at hb' HE
        clear h0 h1 hn he'
        go_enter Try.func55, Try.ntmps55
        go_wp2
        go_ret
        refine ⟨by rw [HE.out]; rfl, ?_⟩
        ((repeat' (first | (with_reducible exact Below.refl _ _) | (with_reducible refine Below.setCell ?_ ?_ _) | (with_reducible refine Below.alloc ?_ ?_ _) | (with_reducible refine Below.drew ?_) | (with_reducible refine Below.trans ?_ (Below.mono (by assumption) ?_)) | go_size)))
    · rw [decide_eq_false h0] at hi HE
      clear h0 hn he' hb'
      go_enter Try.func55, Try.ntmps55
      go_wp2
      go_ret
      refine ⟨by rw [HE.out]; rfl, ?_⟩
      ((repeat' (first | (with_reducible exact Below.refl _ _) | (with_reducible refine Below.setCell ?_ ?_ _) | (with_reducible refine Below.alloc ?_ ?_ _) | (with_reducible refine Below.drew ?_) | (with_reducible refine Below.trans ?_ (Below.mono (by assumption) ?_)) | go_size)))
  · have HE := Lib.hid (show cellOK ⟨true, id, b, e, .slice a vec.length cap, vec⟩ = verOK b e vec by unfold cellOK; rfl)
    go_enter Try.func55, Try.ntmps55
    go_wp2_with fail
    refine (r7RightVersion _ _ _ vec _ (HV.out _ (by ((repeat' (first | (with_reducible exact Below.refl _ _) | (with_reducible refine Below.setCell ?_ ?_ _) | (with_reducible refine Below.alloc ?_ ?_ _) | (with_reducible refine Below.drew ?_) | (with_reducible refine Below.trans ?_ (Below.mono (by assumption) ?_)) | go_size)))))).mono ?_
    rintro x w1 ⟨rfl, hb1⟩
    go_wp2
    go_ret
    refine ⟨by rw [HE.out]; rfl, ?_⟩
    ((have shb1 := hb1.size); (try simp at shb1); (repeat' (first | (with_reducible exact Below.refl _ _) | (with_reducible refine Below.setCell ?_ ?_ _) | (with_reducible refine Below.alloc ?_ ?_ _) | (with_reducible refine Below.drew ?_) | (with_reducible refine Below.trans ?_ (Below.mono hb1 ?_)) | go_size)))
theorem arenaOK_bad {l : List Cel} {k : Nat} (h : k < l.length) (hh : cellOK l[k] = false) : arenaOK l = false := by
  have : l.all cellOK = false := List.all_eq_false.2 ⟨l[k], List.getElem_mem h, by simp [hh]⟩
  unfold arenaOK; rw [this]; simp
theorem arenaOK_all {l : List Cel} (h : ∀ c ∈ l, cellOK c = true) : arenaOK l = decide ((l.length : Int) = 96) := by
  unfold arenaOK; rw [List.all_eq_true.2 h, Bool.and_true, decide_eq_decide]; omega
set_option maxHeartbeats 1000000 in
theorem r9Right (v : Value) (l : List Cel) (w : World) (h : CelsV w v l) : Calls Try.prog 21 #[.agg #[v]] w fun x w' => x = .returned (.bool (arenaOK l)) ∧ Below w.heap.size w w' := by
  obtain ⟨a, cap, rfl, hl, hm, hcell⟩ := h.open
  have Hc := Lib.hid hcell
  have H := Lib.hid h
  have HB := Lib.hid (fun k h hh => arenaOK_bad (l := l) (k := k) h hh)
  have HO := Lib.hid (fun h => arenaOK_all (l := l) h)
  have HS := Lib.hid (fun k h hb hh => take_snoc_true (p := cellOK) (l := l) (k := k) h hb hh)
  clear hcell h
  go_enter Try.func21, Try.ntmps21
  go_wp2
  go_loopw [3] (fun i wr => ∃ k : Nat, k ≤ l.length ∧ i = .int .i64 k ∧ (∀ c ∈ l.take k, cellOK c = true) ∧ Below (w.heap.size + 1) (w.alloc (.cells #[.slice a l.length cap] 37)) wr ∧ w.heap.size + 1 ≤ wr.heap.size) (fun i _ => l.length - (intOf i).toNat)
  case atStart => exact ⟨0, Nat.zero_le _, rfl, by simp, Below.refl _ _, by simp⟩
  case round =>
    obtain ⟨k, hk, rfl, hall, hbr, hsz⟩ := hrel
    have HA := Lib.hid hall
    clear hall
    have hB : Below w.heap.size w wr := by ((have shbr := hbr.size); (try simp at shbr); (repeat' (first | (with_reducible exact Below.refl _ _) | (with_reducible refine Below.setCell ?_ ?_ _) | (with_reducible refine Below.alloc ?_ ?_ _) | (with_reducible refine Below.drew ?_) | (with_reducible refine Below.trans ?_ (Below.mono hbr ?_)) | go_size)))
    have zrw0 : w.heap.size < wr.heap.size := (by have := hbr.size; (try simp at this); omega)
    have qrw0 := fun o => hbr.cell (p := ⟨w.heap.size, o, none⟩) (by first | omega | (simp; done) | (simp; omega))
    have rrw0 := fun o => hbr.frozen (p := ⟨w.heap.size, o, none⟩) (by first | omega | (simp; done) | (simp; omega))
    by_cases hlt2 : k < l.length
    · obtain ⟨b, off, rfl, hlt, g1, g2, g3, g4, g5⟩ := Hc.out k hlt2
      have e1 := (hB.cell (p := ⟨b, off + k * 5, none⟩) hlt).trans g1
      have e2 := (hB.cell (p := ⟨b, off + k * 5 + 1, none⟩) hlt).trans g2
      have e3 := (hB.cell (p := ⟨b, off + k * 5 + 2, none⟩) hlt).trans g3
      have e4 := (hB.cell (p := ⟨b, off + k * 5 + 3, none⟩) hlt).trans g4
      have e5 := (hB.cell (p := ⟨b, off + k * 5 + 4, none⟩) hlt).trans g5
      have hV := Lib.hid ((H.out.2 l[k] (List.getElem_mem hlt2)).grown hB)
      have HBk := Lib.hid (HB.out k hlt2)
      have HSk := Lib.hid (HS.out k hlt2 HA.out)
      clear g1 g2 g3 g4 g5
      cases hh : cellOK l[k]
      · have HC := Lib.hid hh
        have HE := Lib.hid (HBk.out hh)
        clear hh HSk
        generalize l[k] = y at *
        go_wp2_with fail
        refine (r9Cell y _ hV.out).mono ?_
        rintro e w2 ⟨rfl, hb2⟩
        rw [HC.out]
        go_wp2
        go_ret
        refine ⟨by rw [HE.out]; rfl, by ((have shb2 := hb2.size); (try simp at shb2); (have shbr := hbr.size); (try simp at shbr); (repeat' (first | (with_reducible exact Below.refl _ _) | (with_reducible refine Below.setCell ?_ ?_ _) | (with_reducible refine Below.alloc ?_ ?_ _) | (with_reducible refine Below.drew ?_) | (with_reducible refine Below.trans ?_ (Below.mono hb2 ?_)) | (with_reducible refine Below.trans ?_ (Below.mono hbr ?_)) | go_size)))⟩
      · have HC := Lib.hid hh
        have HE := Lib.hid (HSk.out hh)
        clear hh HBk
        generalize l[k] = y at *
        go_wp2_with fail
        refine (r9Cell y _ hV.out).mono ?_
        rintro e w2 ⟨rfl, hb2⟩
        rw [HC.out]
        have z2w0 : w.heap.size < w2.heap.size := (by have := hb2.size; (try simp at this); omega)
        have q2w0 := fun o => hb2.cell (p := ⟨w.heap.size, o, none⟩) (by first | omega | (simp; done) | (simp; omega))
        have r2w0 := fun o => hb2.frozen (p := ⟨w.heap.size, o, none⟩) (by first | omega | (simp; done) | (simp; omega))
        go_wp2
        go_roundw
        case rel => exact ⟨k + 1, by omega, by go_num, HE.out, by ((have shb2 := hb2.size); (try simp at shb2); (have shbr := hbr.size); (try simp at shbr); (repeat' (first | (with_reducible exact Below.refl _ _) | (with_reducible refine Below.setCell ?_ ?_ _) | (with_reducible refine Below.alloc ?_ ?_ _) | (with_reducible refine Below.drew ?_) | (with_reducible refine Below.trans ?_ (Below.mono hb2 ?_)) | (with_reducible refine Below.trans ?_ (Below.mono hbr ?_)) | go_size))), by have := hb2.size; omega⟩
        case measure => simp [intOf]; omega
    · have : k = l.length := by omega
      subst this
      have HE := Lib.hid (HO.out (take_all HA.out))
      have hn : ((l.length : Int) == 96) = decide ((l.length : Int) = 96) := by rw [Bool.eq_iff_iff]; simp
      generalize hq : decide ((l.length : Int) = 96) = q at *
      cases q
      all_goals
        go_wp2
        go_ret
        refine ⟨by rw [HE.out]; rfl, hB⟩
end Go.Proofs.Ytlfmffjlmhpcdaa
