/- The contracts of the document's answer for layer 5: Right, Dist, All. -/
import Derived.Test.YtlfmffjlmhpcdaaDist
import Derived.IntWalk
namespace Go.Proofs.Ytlfmffjlmhpcdaa
open Go.RowKit
set_option maxRecDepth 100000
attribute [local irreducible] Der

theorem vecOK_false_of_bad {l : List Int} {k : Nat} (h : k < l.length) (hh : badI l[k] = true) : vecOK l = false := by
  have : l.any badI = true := List.any_eq_true.2 ⟨l[k], List.getElem_mem h, hh⟩
  unfold vecOK; rw [this]; simp
theorem vecOK_of_none {l : List Int} (hb : ∀ x ∈ l, badI x = false) : vecOK l = (decide (1 ≤ l.length) && decide (l.length ≤ 4)) := by
  have : l.any badI = false := List.any_eq_false.2 fun x hx => by simp [hb x hx]
  unfold vecOK; rw [this]; simp
set_option maxHeartbeats 1000000 in
theorem r5Right (v : Value) (l : List Int) (w : World) (h : VecV w v l) : Calls Try.prog 33 #[v] w fun e w' => e = .returned (.bool (vecOK l)) ∧ Below w.heap.size w w' := by
  obtain ⟨a, cap, rfl, hl, hm, hcell⟩ := h.open
  have Hc := Lib.hid hcell
  clear hcell h
  have HB := Lib.hid (fun k h hh => vecOK_false_of_bad (l := l) (k := k) h hh)
  have HO := Lib.hid (fun h => vecOK_of_none (l := l) h)
  have HS := Lib.hid (fun k h hb hh => take_snoc_false (p := badI) (l := l) (k := k) h hb hh)
  go_enter Try.func33, Try.ntmps33
  go_wp2
  go_loopw [3] (fun i wr => ∃ k : Nat, k ≤ l.length ∧ i = .int .i64 k ∧ (∀ x ∈ l.take k, badI x = false) ∧ Below w.heap.size w wr) (fun i _ => l.length - (intOf i).toNat)
  case atStart => exact ⟨0, Nat.zero_le _, rfl, by simp, Below.refl _ _⟩
  case round =>
    obtain ⟨k, hk, rfl, hall, hbr⟩ := hrel
    have HA := Lib.hid hall
    clear hall
    by_cases hlt2 : k < l.length
    · obtain ⟨b, off, rfl, hlt, g1⟩ := Hc.out k hlt2
      have e1 := (hbr.cell (p := ⟨b, off + k, none⟩) hlt).trans g1
      have HBk := Lib.hid (HB.out k hlt2)
      have HSk := Lib.hid (HS.out k hlt2 HA.out)
      clear g1
      generalize l[k] = x at *
      by_cases h1 : x < -1073741823
      · have HE := Lib.hid (HBk.out (show badI x = true by unfold badI; simp [h1]))
        go_wp2
        go_ret
        refine ⟨by rw [HE.out]; rfl, hbr⟩
      · by_cases h2 : 1073741823 < x
        · have HE := Lib.hid (HBk.out (show badI x = true by unfold badI; simp [h2]))
          go_wp2
          go_ret
          refine ⟨by rw [HE.out]; rfl, hbr⟩
        · have HE := Lib.hid (HSk.out (show badI x = false by unfold badI; simp [h1, h2]))
          go_wp2
          go_roundw
          case rel => exact ⟨k + 1, by omega, by go_num, HE.out, hbr⟩
          case measure => simp [intOf]; omega
    · have : k = l.length := by omega
      subst this
      have HE := Lib.hid (HO.out (take_all HA.out))
      by_cases h1 : 1 ≤ l.length
      · have HE2 := Lib.hid (show vecOK l = decide ((l.length : Int) ≤ 4) by
          rw [HE.out, decide_eq_true h1, Bool.true_and, decide_eq_decide]; omega)
        go_wp2
        go_ret
        refine ⟨by rw [HE2.out]; rfl, hbr⟩
      · have HE2 := Lib.hid (show vecOK l = false by rw [HE.out, decide_eq_false h1]; rfl)
        go_wp2
        go_ret
        refine ⟨by rw [HE2.out]; rfl, hbr⟩

theorem cmp_at {l m : List Int} {zs : List Cmp2} (hlen : l.length = m.length) (hz : vals zs = l.zip m) (k : Nat) (h : k < zs.length) (h1 : k < l.length) (h2 : k < m.length) : zs[k].1.1 = l[k] ∧ zs[k].1.2 = m[k] := by
  have e := congrArg (fun x : List (Int × Int) => x[k]?) hz
  simp only [vals, List.getElem?_map] at e
  rw [List.getElem?_eq_getElem h, List.getElem?_eq_getElem (by simp; omega)] at e
  simp at e
  exact ⟨by rw [e], by rw [e]⟩
set_option maxHeartbeats 2000000 in
theorem r5dist_in (v u : Value) (l m : List Int) (zs : List Cmp2) (hz : vals zs = l.zip m) (hlen : l.length = m.length) (h4 : zs.length ≤ 4) (w : World) (h : VecV w v l) (h' : VecV w u m) :
    Calls Try.prog 73 #[v, u] w fun e w' => e = .returned (.int .u64 (sqs zs)) ∧ Below w.heap.size w w' := by
  obtain ⟨a, cap, rfl, hl, hm, hcell⟩ := h.open
  have Hc := Lib.hid hcell
  obtain ⟨a', cap', rfl, hl', hm', hcell'⟩ := h'.open
  have Hc' := Lib.hid hcell'
  have hzl : zs.length = l.length := by have := congrArg List.length hz; simp [vals, hlen] at this; omega
  have HZ := Lib.hid (fun k h h1 h2 => cmp_at hlen hz k h h1 h2)
  have HS := Lib.hid (fun zs z => sqs_snoc zs z)
  have HB := Lib.hid sqs_bound
  have HLen := Lib.hid hlen
  have HZL := Lib.hid hzl
  clear h h' hcell hcell' hz
  rw [← hlen] at hl' ⊢
  clear hlen hzl
  go_enter Try.func73, Try.ntmps73
  go_wp2
  go_loopw [5, 6] (fun n i wr => ∃ k : Nat, k ≤ l.length ∧ i = .int .i64 k ∧ n = .int .u64 (sqs (zs.take k)) ∧ Below w.heap.size w wr) (fun _ i _ => l.length - (intOf i).toNat)
  case atStart => exact ⟨0, Nat.zero_le _, rfl, by simp [sqs], Below.refl _ _⟩
  case round =>
    obtain ⟨k, hk, rfl, rfl, hbr⟩ := hrel
    have hsz := hbr.size
    by_cases hlt2 : k < l.length
    · have hm2 : k < m.length := by rw [← HLen.out]; exact hlt2
      have hz2 : k < zs.length := by rw [HZL.out]; exact hlt2
      obtain ⟨g, off, rfl, hlt, g1⟩ := Hc.out k hlt2
      obtain ⟨g', off', rfl, hlt', g2⟩ := Hc'.out k hm2
      obtain ⟨z1, z2⟩ := HZ.out k hz2 hlt2 hm2
      rw [← z1] at g1
      rw [← z2] at g2
      have e1 := (hbr.cell (p := ⟨g, off + k, none⟩) hlt).trans g1
      have e2 := (hbr.cell (p := ⟨g', off' + k, none⟩) hlt').trans g2
      have HT := Lib.hid (take_vals hz2)
      have hs1 := HS.out (zs.take k) zs[k]
      have hs2 := HB.out (zs.take k)
      have hpl : ((zs.take k).length : Int) ≤ 3 := by simp; omega
      have bd := zs[k].2
      clear g1 g2 z1 z2
      rw [← HT.out] at hs1
      generalize zs[k] = z at *
      obtain ⟨⟨x, y⟩, hzb⟩ := z
      simp only at e1 e2 bd hs1
      obtain ⟨⟨b1, b2⟩, b3, b4⟩ := bd
      have HS1 := Lib.hid hs1
      clear hs1 HS
      generalize sqs (zs.take k) = S at *
      have hS0 : 0 ≤ S := hs2.1
      have hS1 : S ≤ 13835058029512359948 := by omega
      have HE := Lib.hid (dist_step x y S b1 b2 b3 b4 hS0 hS1)
      have HE' := Lib.hid (dist_step' x y S b1 b2 b3 b4 hS0 hS1)
      have q1 : IntKind.i64.wrap x = x := IntWalk.i64_in _ (by omega)
      have q2 : IntKind.i64.wrap y = y := IntWalk.i64_in _ (by omega)
      have q3 : IntKind.i64.wrap (x - y) = x - y := IntWalk.i64_in _ (by omega)
      have z1 : g < wr.heap.size := by omega
      have z2 : g' < wr.heap.size := by omega
      have Q1 := Lib.hid q1
      have Q2 := Lib.hid q2
      have Q3 := Lib.hid q3
      clear q1 q2 q3 hs2
      go_wp2
      refine wp_grow [] 11 (by kernel_rfl) (by kernel_rfl) (by rfl) (by rfl) ?_
      simp only [List.take_succ_cons, List.take_zero, List.drop_succ_cons, List.drop_zero]
      repeat (first
        | (apply Der.quiet; (rfl); (rfl); (intro w' hw' hctx; have hc' := bcell hw'; have y1 := fun o => hw'.cell (p := ⟨g, o, none⟩) (by simp; omega); have y2 := fun o => hw'.cell (p := ⟨g', o, none⟩) (by simp; omega); have q1 := Q1.out; have q2 := Q2.out; have q3 := Q3.out; clear hctx; go_simp; first | exact rfl | exact ⟨rfl, rfl⟩); simp only [Act.put, List.setIfInBounds_toArray, List.set_cons_succ, List.set_cons_zero, Nat.reduceAdd])
        | (apply Der.skip; (rfl); simp only [Act.put, List.setIfInBounds_toArray, List.set_cons_succ, List.set_cons_zero, Nat.reduceAdd]))
      refine Der.nil (fun w2 hgw2 hctx => ?_)
      clear hctx
      have hb2 : Below _ _ w2 := hgw2
      clear hgw2
      by_cases hxy : x - y < 0
      · go_wp2
        go_roundw
        case rel => exact ⟨k + 1, by omega, by go_num, by rw [HS1.out, Int.neg_sub]; exact congrArg (Value.int .u64) (HE'.out (by omega)), by ((have shb2 := hb2.size); (try simp at shb2); (have shbr := hbr.size); (try simp at shbr); (repeat' (first | (with_reducible exact Below.refl _ _) | (with_reducible refine Below.setCell ?_ ?_ _) | (with_reducible refine Below.alloc ?_ ?_ _) | (with_reducible refine Below.drew ?_) | (with_reducible refine Below.trans ?_ (Below.mono hb2 ?_)) | (with_reducible refine Below.trans ?_ (Below.mono hbr ?_)) | go_size)))⟩
        case measure => simp [intOf]; omega
      · go_wp2
        go_roundw
        case rel => exact ⟨k + 1, by omega, by go_num, by rw [HS1.out]; exact congrArg (Value.int .u64) (HE.out (by omega)), by ((have shb2 := hb2.size); (try simp at shb2); (have shbr := hbr.size); (try simp at shbr); (repeat' (first | (with_reducible exact Below.refl _ _) | (with_reducible refine Below.setCell ?_ ?_ _) | (with_reducible refine Below.alloc ?_ ?_ _) | (with_reducible refine Below.drew ?_) | (with_reducible refine Below.trans ?_ (Below.mono hb2 ?_)) | (with_reducible refine Below.trans ?_ (Below.mono hbr ?_)) | go_size)))⟩
        case measure => simp [intOf]; omega
    · have : k = l.length := by omega
      subst this
      have e : zs.take l.length = zs := by rw [← HZL.out, List.take_length]
      rw [e]
      have HSb := Lib.hid (HB.out zs)
      go_wp2
      go_ret
      exact ⟨rfl, hbr⟩
theorem r5Dist (v u : Value) (l m : List Int) (hl : vecOK l = true) (hm : vecOK m = true) (hlen : l.length = m.length) (w : World) (h : VecV w v l) (h' : VecV w u m) :
    Calls Try.prog 73 #[v, u] w fun e w' => e = .returned (.int .u64 (distL l m)) ∧ Below w.heap.size w w' := by
  have hv := vals_cmps l m hl hm
  have hc : (cmps l m hl hm).length ≤ 4 := by
    have h1 := congrArg List.length hv
    have h2 := vecOK_len hl
    simp [vals] at h1
    omega
  have he : sqs (cmps l m hl hm) = distL l m := by rw [sqs_vals, hv]; rfl
  rw [← he]
  exact r5dist_in v u l m (cmps l m hl hm) hv hlen hc w h h'

theorem any_other_yes {l : List PV} {k : Nat} (h : k < l.length) (hh : otherD (dim0 l) l[k] = true) : l.any (otherD (dim0 l)) = true := List.any_eq_true.2 ⟨l[k], List.getElem_mem h, hh⟩
theorem any_other_no {l : List PV} (h : ∀ p ∈ l, otherD (dim0 l) p = false) : l.any (otherD (dim0 l)) = false := List.any_eq_false.2 fun p hp => by simp [h p hp]
set_option maxHeartbeats 2000000 in
theorem r5All (v : Value) (l : List PV) (w : World) (h : VecsV w v l) : Calls Try.prog 56 #[v] w fun e w' => e = .returned (.int .i64 (vecsE l)) ∧ Below w.heap.size w w' := by
  obtain ⟨a, cap, rfl, hl, hm, hcell⟩ := h.open
  have Hc := Lib.hid hcell
  have H := Lib.hid h
  clear hcell h
  have HB := Lib.hid (fun k h hh => vecsE_bad (l := l) (k := k) h hh)
  have HO := Lib.hid (fun h => vecsE_ok (l := l) h)
  have HS := Lib.hid (fun k h hb hh => take_snoc_true (p := fun p : PV => vecOK p.2) (l := l) (k := k) h hb hh)
  have HS' := Lib.hid (fun k h hb hh => take_snoc_false (p := otherD (dim0 l)) (l := l) (k := k) h hb hh)
  go_enter Try.func56, Try.ntmps56
  go_wp2
  go_loopw [3] (fun i wr => ∃ k : Nat, k ≤ l.length ∧ i = .int .i64 k ∧ (∀ p ∈ l.take k, vecOK p.2 = true) ∧ Below w.heap.size w wr) (fun i _ => l.length - (intOf i).toNat)
  case atStart => exact ⟨0, Nat.zero_le _, rfl, by simp, Below.refl _ _⟩
  case round =>
    obtain ⟨k, hk, rfl, hall, hB⟩ := hrel
    have HA := Lib.hid hall
    clear hall
    by_cases hlt2 : k < l.length
    · obtain ⟨b, off, rfl, hlt, g1⟩ := Hc.out k hlt2
      have e1 := (hB.cell (p := ⟨b, off + k, none⟩) hlt).trans g1
      have hV := Lib.hid ((H.out.2 l[k] (List.getElem_mem hlt2)).grown hB)
      have HBk := Lib.hid (HB.out k hlt2)
      have HSk := Lib.hid (HS.out k hlt2 HA.out)
      clear g1
      cases hh : vecOK l[k].2
      · have HC := Lib.hid hh
        have HE := Lib.hid (HBk.out hh)
        clear hh HSk
        generalize l[k] = y at *
        go_wp2_with fail
        refine (r5Right _ y.2 _ hV.out).mono ?_
        rintro e w2 ⟨rfl, hb2⟩
        rw [HC.out]
        go_wp2
        go_ret
        refine ⟨by rw [HE.out]; rfl, by ((have shb2 := hb2.size); (try simp at shb2); (have shB := hB.size); (try simp at shB); (repeat' (first | (with_reducible exact Below.refl _ _) | (with_reducible refine Below.setCell ?_ ?_ _) | (with_reducible refine Below.alloc ?_ ?_ _) | (with_reducible refine Below.drew ?_) | (with_reducible refine Below.trans ?_ (Below.mono hb2 ?_)) | (with_reducible refine Below.trans ?_ (Below.mono hB ?_)) | go_size)))⟩
      · have HC := Lib.hid hh
        have HE := Lib.hid (HSk.out hh)
        clear hh HBk
        generalize l[k] = y at *
        go_wp2_with fail
        refine (r5Right _ y.2 _ hV.out).mono ?_
        rintro e w2 ⟨rfl, hb2⟩
        rw [HC.out]
        go_wp2
        go_roundw
        case rel => exact ⟨k + 1, by omega, by go_num, HE.out, by ((have shb2 := hb2.size); (try simp at shb2); (have shB := hB.size); (try simp at shB); (repeat' (first | (with_reducible exact Below.refl _ _) | (with_reducible refine Below.setCell ?_ ?_ _) | (with_reducible refine Below.alloc ?_ ?_ _) | (with_reducible refine Below.drew ?_) | (with_reducible refine Below.trans ?_ (Below.mono hb2 ?_)) | (with_reducible refine Below.trans ?_ (Below.mono hB ?_)) | go_size)))⟩
        case measure => simp [intOf]; omega
    · have : k = l.length := by omega
      subst this
      have HE := Lib.hid (HO.out (take_all HA.out))
      obtain ⟨wo, hwo⟩ : ∃ wo, wo = wr := ⟨_, rfl⟩
      subst hwo
      go_wp2
      go_loopw [4] (fun i wr => ∃ k : Nat, k ≤ l.length ∧ i = .int .i64 k ∧ (∀ p ∈ l.take k, otherD (dim0 l) p = false) ∧ Below w.heap.size w wr) (fun i _ => l.length - (intOf i).toNat)
      case atStart => exact ⟨0, Nat.zero_le _, rfl, by simp, hB⟩
      case round =>
        obtain ⟨j, hj, rfl, hall, hB3⟩ := hrel
        have HA3 := Lib.hid hall
        have hsz := hB3.size
        clear hall
        by_cases hlt3 : j < l.length
        · have h0 : 0 < l.length := by omega
          have G0 := Hc.out 0 h0
          obtain ⟨b, off, rfl, hlt, g1⟩ := Hc.out j hlt3
          obtain ⟨b', off', hbo, -, g2⟩ := G0
          simp only [Option.some.injEq, Addr.mk.injEq, and_true] at hbo
          obtain ⟨rfl, rfl⟩ := hbo
          have e1 := (hB3.cell (p := ⟨b, off + j, none⟩) hlt).trans g1
          have e2 := (hB3.cell (p := ⟨b, off + 0, none⟩) hlt).trans g2
          rw [Nat.add_zero] at e2
          obtain ⟨a1, c1, f1, -⟩ := (H.out.2 l[j] (List.getElem_mem hlt3)).form
          obtain ⟨a2, c2, f2, -⟩ := (H.out.2 l[0] (List.getElem_mem h0)).form
          rw [f1] at e1
          rw [f2] at e2
          have HSk := Lib.hid (HS'.out j hlt3 HA3.out)
          have HYk := Lib.hid (any_other_yes (l := l) hlt3)
          have hod : otherD (dim0 l) l[j] = !decide ((l[j].2.length : Int) = (l[0].2.length : Int)) := by unfold otherD; rw [dim0_get h0]
          rw [hod] at HSk HYk
          generalize l[j].2.length = d1 at *
          generalize l[0].2.length = d2 at *
          have hne : ¬ l = [] := by intro e; subst e; simp at h0
          have zb : b < wr.heap.size := by omega
          clear g1 g2 f1 f2 hod
          by_cases hd : d1 = d2
          · have HE3 := Lib.hid (HSk.out (by simp [hd]))
            have hdd : ((d1 : Int) != (d2 : Int)) = false := by simp [hd]
            clear hd
            go_wp2
            refine wp_grow [] 10 (by kernel_rfl) (by kernel_rfl) (by rfl) (by rfl) ?_
            simp only [List.take_succ_cons, List.take_zero, List.drop_succ_cons, List.drop_zero]
            repeat (first
              | (apply Der.quiet; (rfl); (rfl); (intro w' hw' hctx; have hc' := bcell hw'; have y1 := fun o => hw'.cell (p := ⟨b, o, none⟩) (by simp; omega); clear hctx; go_simp; first | exact rfl | exact ⟨rfl, rfl⟩); simp only [Act.put, List.setIfInBounds_toArray, List.set_cons_succ, List.set_cons_zero, Nat.reduceAdd])
              | (apply Der.skip; (rfl); simp only [Act.put, List.setIfInBounds_toArray, List.set_cons_succ, List.set_cons_zero, Nat.reduceAdd]))
            refine Der.nil (fun w2 hgw2 hctx => ?_)
            clear hctx
            have hb2 : Below _ _ w2 := hgw2
            clear hgw2
            go_wp2
            go_roundw
            case rel => exact ⟨j + 1, by omega, by go_num, HE3.out, by ((have shb2 := hb2.size); (try simp at shb2); (have shB3 := hB3.size); (try simp at shB3); (repeat' (first | (with_reducible exact Below.refl _ _) | (with_reducible refine Below.setCell ?_ ?_ _) | (with_reducible refine Below.alloc ?_ ?_ _) | (with_reducible refine Below.drew ?_) | (with_reducible refine Below.trans ?_ (Below.mono hb2 ?_)) | (with_reducible refine Below.trans ?_ (Below.mono hB3 ?_)) | go_size)))⟩
            case measure => simp [intOf]; omega
          · have HE3 := Lib.hid (HYk.out (by simp [hd]; omega))
            have hdd : ((d1 : Int) != (d2 : Int)) = true := by simp [hd]; omega
            have HF := Lib.hid (show vecsE l = 151 by rw [HE.out, HE3.out]; rfl)
            clear hd
            go_wp2
            refine wp_grow [] 10 (by kernel_rfl) (by kernel_rfl) (by rfl) (by rfl) ?_
            simp only [List.take_succ_cons, List.take_zero, List.drop_succ_cons, List.drop_zero]
            repeat (first
              | (apply Der.quiet; (rfl); (rfl); (intro w' hw' hctx; have hc' := bcell hw'; have y1 := fun o => hw'.cell (p := ⟨b, o, none⟩) (by simp; omega); clear hctx; go_simp; first | exact rfl | exact ⟨rfl, rfl⟩); simp only [Act.put, List.setIfInBounds_toArray, List.set_cons_succ, List.set_cons_zero, Nat.reduceAdd])
              | (apply Der.skip; (rfl); simp only [Act.put, List.setIfInBounds_toArray, List.set_cons_succ, List.set_cons_zero, Nat.reduceAdd]))
            refine Der.nil (fun w2 hgw2 hctx => ?_)
            clear hctx
            have hb2 : Below _ _ w2 := hgw2
            clear hgw2
            go_wp2
            go_ret
            refine ⟨by rw [HF.out]; rfl, by ((have shb2 := hb2.size); (try simp at shb2); (have shB3 := hB3.size); (try simp at shB3); (repeat' (first | (with_reducible exact Below.refl _ _) | (with_reducible refine Below.setCell ?_ ?_ _) | (with_reducible refine Below.alloc ?_ ?_ _) | (with_reducible refine Below.drew ?_) | (with_reducible refine Below.trans ?_ (Below.mono hb2 ?_)) | (with_reducible refine Below.trans ?_ (Below.mono hB3 ?_)) | go_size)))⟩
        · have : j = l.length := by omega
          subst this
          have HF := Lib.hid (show vecsE l = 0 by rw [HE.out, any_other_no (take_all HA3.out)]; rfl)
          go_wp2
          go_ret
          refine ⟨by rw [HF.out]; rfl, hB3⟩
end Go.Proofs.Ytlfmffjlmhpcdaa
