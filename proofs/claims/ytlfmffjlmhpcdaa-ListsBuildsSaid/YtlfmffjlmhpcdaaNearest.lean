/- The contract of vec.Nearest where it finds one, and of the document's Nearest. -/
import Derived.Test.YtlfmffjlmhpcdaaNear
namespace Go.Proofs.Ytlfmffjlmhpcdaa
open Go.RowKit
set_option maxRecDepth 100000
attribute [local irreducible] Der

theorem undrew {w w' : World} (h : Below w.drew.heap.size w.drew w') : Below w.heap.size w w' := ⟨h.os, h.tape, h.output, h.size, h.block⟩
theorem cmp_less {dk db k b : Int} (hb : b ≤ k) : decide (or2 (cmpI dk db) (cmpI k b) < 0) = decide (dk < db) := by
  rw [decide_eq_decide]
  unfold or2 cmpI
  split <;> split <;> (try split) <;> (try split) <;> omega
theorem best_step (f : Nat → Int) (k : Nat) : (f k < f (bestK f (k - 1)) → bestK f k = k) ∧ (¬ f k < f (bestK f (k - 1)) → bestK f k = bestK f (k - 1)) := by
  cases k with
  | zero => exact ⟨fun _ => rfl, fun _ => rfl⟩
  | succ k =>
    rw [Nat.add_sub_cancel]
    exact ⟨fun h => by unfold bestK; rw [if_pos h], fun h => by rw [show bestK f (k + 1) = if f (k + 1) < f (bestK f k) then k + 1 else bestK f k from rfl, if_neg h]⟩
set_option maxHeartbeats 4000000 in
theorem f_near_ok (v u : Value) (l : List PV) (x : List Int) (w : World) (h : VecsV w v l) (h' : VecV w u x) (hlen : l.length ≤ 1000) (h0 : 0 < l.length) (hE : vecsE ((u, x) :: l) = 0) :
    Calls Try.prog 53 #[v, u] w fun e w' => e = .returned (.tuple #[.int .i64 (bestK (farD l x) (l.length - 1) : Nat), .int .i64 0]) ∧ Below w.heap.size w w' := by
  have H := Lib.hid h
  have H' := Lib.hid h'
  have HE := Lib.hid hE
  obtain ⟨a, cap, rfl, hl, hm, hcell⟩ := h.open
  have Hc := Lib.hid hcell
  obtain ⟨a', cap', rfl, hl', hm'⟩ := h'.form
  have hne : ¬ l = [] := by intro e; subst e; simp at h0
  have hflat := flatMap_len (fun p : PV => [p.1]) 1 (fun _ => rfl) l
  have own := owns_built w 56 (.slice a' x.length cap')
  have hB : Below w.heap.size w (w.alloc (.cells #[.slice a' x.length cap'] 56)) := (Below.refl _ _).alloc (Nat.le_refl _) _
  have HOK := Lib.hid (vecsE_cons hE)
  have HD := Lib.hid (fun k (hk : k < l.length) => farD_get (x := x) hk)
  have HBd := Lib.hid (fun k (hk : k < l.length) => distL_bound ((vecsE_cons hE).2 l[k] (List.getElem_mem hk)).1 (vecsE_cons hE).1)
  have HK := Lib.hid (fun k => bestK_le (farD l x) k)
  have HR := Lib.hid (fun k => (show bestK (farD l x) (k + 1) = if farD l x (k + 1) < farD l x (bestK (farD l x) k) then k + 1 else bestK (farD l x) k from rfl))
  clear h h' hE hcell
  go_enter Try.func53, Try.ntmps53
  go_wp2_with (at_builtin; refine append_any rfl _ _ 22 rfl w.heap.size 56 (.slice none 0 0) 1 24 Try.underlying22 info_vecs rfl (by decide) _ 1 _ rfl own _ l.length (l.flatMap fun p => [p.1]) rfl (Sl.grown H.out.1.1 hB) H.out.1.2 hflat (Vecs.one H.out.2) (by unfold maxLen; omega) (by omega) (by simp) ?_; intro v' w2 hown' hgrow)
  have hb2 : Below w.heap.size w w2 := hB.grown hgrow (by simp) (fun q hq => by have e : w.heap.size = q := Option.some.inj hq; omega)
  have hV : VecsV w2 v' ((.slice a' x.length cap', x) :: l) := by
    refine ⟨⟨?_, NilA.of_owns hown'⟩, fun p hp => ?_⟩
    · have := Sl.of_owns hown'
      rw [Nat.add_comm] at this
      exact this
    · rcases List.mem_cons.1 hp with rfl | hp
      · exact H'.out.grown hb2
      · exact (H.out.2 p hp).grown hb2
  have HV := Lib.hid hV
  clear hV hown' hgrow own hB
  go_wp2_with fail
  refine (f_vecAll _ _ _ HV.out).mono ?_
  rintro e w3 ⟨rfl, hb3⟩
  rw [HE.out]
  have hB3 : Below w.heap.size w w3 := by ((have shb3 := hb3.size); (try simp at shb3); (have shb2 := hb2.size); (try simp at shb2); (repeat' (first | (with_reducible exact Below.refl _ _) | (with_reducible refine Below.setCell ?_ ?_ _) | (with_reducible refine Below.alloc ?_ ?_ _) | (with_reducible refine Below.drew ?_) | (with_reducible refine Below.trans ?_ (Below.mono hb3 ?_)) | (with_reducible refine Below.trans ?_ (Below.mono hb2 ?_)) | go_size)))
  obtain ⟨b0, off, rfl, hlt0, g0⟩ := Hc.out 0 h0
  have e0 := (hB3.cell (p := ⟨b0, off + 0, none⟩) hlt0).trans g0
  rw [Nat.add_zero] at e0
  have HX0 := Lib.hid ((H.out.2 l[0] (List.getElem_mem h0)).grown hB3)
  have HO0 := Lib.hid (HOK.out.2 l[0] (List.getElem_mem h0))
  have D0 := HD.out 0 h0
  clear g0
  generalize l[0] = p0 at *
  go_wp2_with fail
  refine (f_dist _ _ p0.2 x HO0.out.1 HOK.out.1 HO0.out.2 _ HX0.out (H'.out.grown hB3)).mono ?_
  rintro e w4 ⟨rfl, hb4⟩
  rw [← D0]
  have hB4 : Below w.heap.size w w4 := by ((have shb4 := hb4.size); (try simp at shb4); (have shB3 := hB3.size); (try simp at shB3); (repeat' (first | (with_reducible exact Below.refl _ _) | (with_reducible refine Below.setCell ?_ ?_ _) | (with_reducible refine Below.alloc ?_ ?_ _) | (with_reducible refine Below.drew ?_) | (with_reducible refine Below.trans ?_ (Below.mono hb4 ?_)) | (with_reducible refine Below.trans ?_ (Below.mono hB3 ?_)) | go_size)))
  have hs4 := hB4.size
  have HF0 := Lib.hid (show bestK (farD l x) 0 = 0 from rfl)
  generalize hfd : farD l x = f at *
  have HFD := Lib.hid hfd
  clear D0 hfd
  go_wp2
  go_loopw [30] (fun i wr => ∃ k : Nat, k ≤ l.length ∧ i = .int .i64 k ∧ wr.cell? ⟨w4.heap.size, 0, none⟩ = some (.int .u64 (bestK f (k - 1) : Nat)) ∧ wr.cell? ⟨w4.heap.size, 1, none⟩ = some (.int .u64 (f (bestK f (k - 1)))) ∧
    wr.frozen? ⟨w4.heap.size, 0, none⟩ = false ∧ wr.frozen? ⟨w4.heap.size, 1, none⟩ = false ∧ Below w4.heap.size w4 wr ∧ w4.heap.size < wr.heap.size) (fun i _ => l.length - (intOf i).toNat)
  case atStart =>
    refine ⟨0, Nat.zero_le _, rfl, ?_, ?_, ?_, ?_, ?_, ?_⟩
    · simp only [Nat.zero_sub, HF0.out]; go_simp
    · simp only [Nat.zero_sub, HF0.out]; go_simp
    · go_simp
    · go_simp
    · ((repeat' (first | (with_reducible exact Below.refl _ _) | (with_reducible refine Below.setCell ?_ ?_ _) | (with_reducible refine Below.alloc ?_ ?_ _) | (with_reducible refine Below.drew ?_) | (with_reducible refine Below.trans ?_ (Below.mono (by assumption) ?_)) | go_size)))
    · simp
  case round =>
    obtain ⟨k, hk, rfl, hc0, hc1, hf0, hf1, hbr, hsz⟩ := hrel
    have hBr : Below w.heap.size w wr := by ((have shbr := hbr.size); (try simp at shbr); (have shB4 := hB4.size); (try simp at shB4); (repeat' (first | (with_reducible exact Below.refl _ _) | (with_reducible refine Below.setCell ?_ ?_ _) | (with_reducible refine Below.alloc ?_ ?_ _) | (with_reducible refine Below.drew ?_) | (with_reducible refine Below.trans ?_ (Below.mono hbr ?_)) | (with_reducible refine Below.trans ?_ (Below.mono hB4 ?_)) | go_size)))
    by_cases hlt2 : k < l.length
    · obtain ⟨b, off', hbo, hlt, g1⟩ := Hc.out k hlt2
      simp only [Option.some.injEq, Addr.mk.injEq, and_true] at hbo
      obtain ⟨rfl, rfl⟩ := hbo
      have e1 := (hBr.cell (p := ⟨b0, off + k, none⟩) hlt).trans g1
      have HXk := Lib.hid ((H.out.2 l[k] (List.getElem_mem hlt2)).grown hBr)
      have HOk := Lib.hid (HOK.out.2 l[k] (List.getElem_mem hlt2))
      have Dk := Lib.hid (HD.out k hlt2)
      have hbk := HK.out (k - 1)
      have hbd := HBd.out k hlt2
      clear g1
      generalize l[k] = pk at *
      have hw0 : IntKind.u64.wrap (k : Int) = k := by rw [IntKind.wrap_u64]; omega
      go_wp2_with fail
      refine (f_dist _ _ pk.2 x HOk.out.1 HOK.out.1 HOk.out.2 _ HXk.out (H'.out.grown hBr)).mono ?_
      rintro e w5 ⟨rfl, hb5⟩
      rw [← Dk.out]
      have z5 : w4.heap.size < w5.heap.size := by have := hb5.size; omega
      have q50 := (hb5.cell (p := ⟨w4.heap.size, 0, none⟩) hsz).trans hc0
      have q51 := (hb5.cell (p := ⟨w4.heap.size, 1, none⟩) hsz).trans hc1
      have r50 := (hb5.frozen (p := ⟨w4.heap.size, 0, none⟩) hsz).trans hf0
      have r51 := (hb5.frozen (p := ⟨w4.heap.size, 1, none⟩) hsz).trans hf1
      have HN := Lib.hid (best_step f k)
      obtain ⟨B, hBB⟩ : ∃ B, bestK f (k - 1) = B := ⟨_, rfl⟩
      rw [hBB] at q50 q51 HN hbk
      have HCm := Lib.hid (cmp_less (dk := f k) (db := f B) (k := (k : Int)) (b := (B : Int)) (by omega))
      clear hBB
      obtain ⟨fk, hfk⟩ : ∃ fk, f k = fk := ⟨_, rfl⟩
      obtain ⟨fB, hfB⟩ : ∃ fB, f B = fB := ⟨_, rfl⟩
      have HFk := Lib.hid hfk
      have HFB := Lib.hid hfB
      rw [hfB] at q51
      rw [hfk, hfB] at HN HCm
      rw [hfk]
      clear hfk hfB hc0 hc1 hf0 hf1
      go_wp2_with fail
      refine (f_vecCompare _ _ _ _ _).mono ?_
      rintro e w6 ⟨rfl, hb6⟩
      generalize or2 (cmpI fk fB) (cmpI (k : Int) (B : Int)) = C at *
      have z6 : w4.heap.size < w6.heap.size := by have := hb6.size; simp at this; omega
      have z6' : w5.heap.size < w6.heap.size := by have := hb6.size; simp at this; omega
      have q60 := (hb6.cell (p := ⟨w4.heap.size, 0, none⟩) (by simp; omega))
      have q61 := (hb6.cell (p := ⟨w4.heap.size, 1, none⟩) (by simp; omega))
      have r60 := (hb6.frozen (p := ⟨w4.heap.size, 0, none⟩) (by simp; omega))
      have r61 := (hb6.frozen (p := ⟨w4.heap.size, 1, none⟩) (by simp; omega))
      have t60 := (hb6.cell (p := ⟨w5.heap.size, 0, none⟩) (by simp))
      have t61 := (hb6.cell (p := ⟨w5.heap.size, 1, none⟩) (by simp))
      have u0 : w6.cell? ⟨w4.heap.size, 0, none⟩ = some (.int .u64 (B : Int)) := by rw [q60]; go_simp
      have u1 : w6.cell? ⟨w4.heap.size, 1, none⟩ = some (.int .u64 fB) := by rw [q61]; go_simp
      have u2 : w6.frozen? ⟨w4.heap.size, 0, none⟩ = false := by rw [r60]; go_simp
      have u3 : w6.frozen? ⟨w4.heap.size, 1, none⟩ = false := by rw [r61]; go_simp
      have u4 : w6.cell? ⟨w5.heap.size, 0, none⟩ = some (.int .u64 (k : Int)) := by rw [t60]; go_simp
      have u5 : w6.cell? ⟨w5.heap.size, 1, none⟩ = some (.int .u64 fk) := by rw [t61]; go_simp
      clear q50 q51 r50 r51 q60 q61 r60 r61 t60 t61
      have hB6 : Below w4.heap.size w4 w6 := by ((have shb6 := hb6.size); (try simp at shb6); (have shb5 := hb5.size); (try simp at shb5); (have shbr := hbr.size); (try simp at shbr); (repeat' (first | (with_reducible exact Below.refl _ _) | (with_reducible refine Below.setCell ?_ ?_ _) | (with_reducible refine Below.alloc ?_ ?_ _) | (with_reducible refine Below.drew ?_) | (with_reducible refine Below.trans ?_ (Below.mono hb6 ?_)) | (with_reducible refine Below.trans ?_ (Below.mono hb5 ?_)) | (with_reducible refine Below.trans ?_ (Below.mono hbr ?_)) | go_size)))
      by_cases hd : fk < fB
      · have hC : C < 0 := by have := HCm.out; rw [decide_eq_true hd] at this; exact of_decide_eq_true this
        have HN2 := Lib.hid (HN.out.1 hd)
        clear hd
        go_wp2
        go_roundw
        case rel =>
          refine ⟨k + 1, by omega, by go_num, ?_, ?_, ?_, ?_, ?_, ?_⟩
          · rw [Nat.add_sub_cancel, HN2.out]; go_simp
          · rw [Nat.add_sub_cancel, HN2.out, HFk.out]; go_simp
          · go_simp
          · go_simp
          · ((have shB6 := hB6.size); (try simp at shB6); (repeat' (first | (with_reducible exact Below.refl _ _) | (with_reducible refine Below.setCell ?_ ?_ _) | (with_reducible refine Below.alloc ?_ ?_ _) | (with_reducible refine Below.drew ?_) | (with_reducible refine Below.trans ?_ (Below.mono hB6 ?_)) | go_size)))
          · simp; omega
        case measure => simp [intOf]; omega
      · have hC : ¬ C < 0 := by have := HCm.out; rw [decide_eq_false hd] at this; exact of_decide_eq_false this
        have HN2 := Lib.hid (HN.out.2 (by omega))
        clear hd
        go_wp2
        go_roundw
        case rel =>
          refine ⟨k + 1, by omega, by go_num, ?_, ?_, u2, u3, hB6, z6⟩
          · rw [Nat.add_sub_cancel, HN2.out]; exact u0
          · rw [Nat.add_sub_cancel, HN2.out, HFB.out]; exact u1
        case measure => simp [intOf]; omega
    · have : k = l.length := by omega
      subst this
      have hbk := HK.out (l.length - 1)
      obtain ⟨B, hBB⟩ : ∃ B, bestK f (l.length - 1) = B := ⟨_, rfl⟩
      have HBB := Lib.hid hBB
      rw [hBB] at hbk hc0 hc1
      clear hBB
      obtain ⟨z, hz⟩ : ∃ z : Int, (B : Int) = z := ⟨_, rfl⟩
      have hz0 : 0 ≤ z := by omega
      have hz1 : z ≤ 1000 := by omega
      rw [hz] at hc0
      have HZ := Lib.hid hz
      clear hz hbk hc1 hf0 hf1 hbr HK HR HD HBd
      go_wp2
      refine bodyPost_ret (v := .tuple #[.int .i64 z, .int .i64 0]) (by simp only [results, Try.results53]; go_simp) rfl ⟨?_, ?_⟩
      · rw [HFD.out, HBB.out, HZ.out]
      · ((have shBr := hBr.size); (try simp at shBr); (repeat' (first | (with_reducible exact Below.refl _ _) | (with_reducible refine Below.setCell ?_ ?_ _) | (with_reducible refine Below.alloc ?_ ?_ _) | (with_reducible refine Below.drew ?_) | (with_reducible refine Below.trans ?_ (Below.mono hBr ?_)) | go_size)))
set_option maxHeartbeats 2000000 in
theorem r5Nearest (v u : Value) (l : List PV) (x : List Int) (w : World) (h : VecsV w v l) (h' : VecV w u x) (h0 : 0 < l.length) (hE : vecsE ((u, x) :: l) = 0) :
    Calls Try.prog 35 #[v, u] w fun e w' => e = .returned (.int .i64 (bestK (farD l x) (l.length - 1) : Nat)) ∧ Below w.heap.size w w' := by
  have H := Lib.hid h
  have H' := Lib.hid h'
  obtain ⟨a, cap, rfl, hl, hm, hcell⟩ := h.open
  have Hc := Lib.hid hcell
  obtain ⟨a', cap', rfl, hl', hm'⟩ := h'.form
  have hne : ¬ l = [] := by intro e; subst e; simp at h0
  have HOK := Lib.hid (vecsE_cons hE)
  have HD := Lib.hid (fun k (hk : k < l.length) => farD_get (x := x) hk)
  have HK := Lib.hid (fun k => bestK_le (farD l x) k)
  have HF0 := Lib.hid (show bestK (farD l x) 0 = 0 from rfl)
  have HR := Lib.hid (best_step (farD l x))
  clear h h' hE hcell
  go_enter Try.func35, Try.ntmps35
  go_wp2
  go_loopw [5, 6] (fun n i wr => ∃ k : Nat, 1 ≤ k ∧ k ≤ l.length ∧ i = .int .i64 k ∧ n = .int .i64 (bestK (farD l x) (k - 1) : Nat) ∧ Below w.heap.size w wr) (fun _ i _ => l.length - (intOf i).toNat)
  case atStart => exact ⟨1, Nat.le_refl _, h0, rfl, rfl, Below.refl _ _⟩
  case round =>
    obtain ⟨k, hk1, hk, rfl, rfl, hBr⟩ := hrel
    have hsz := hBr.size
    by_cases hlt2 : k < l.length
    · have hbk := HK.out (k - 1)
      have HN := Lib.hid (HR.out k)
      obtain ⟨B, hBB⟩ : ∃ B, bestK (farD l x) (k - 1) = B := ⟨_, rfl⟩
      rw [hBB] at HN hbk
      have HBB := Lib.hid hBB
      have hBl : B < l.length := by omega
      have G0 := Hc.out B hBl
      obtain ⟨b, off, rfl, hlt, g1⟩ := Hc.out k hlt2
      obtain ⟨b', off', hbo, -, g2⟩ := G0
      simp only [Option.some.injEq, Addr.mk.injEq, and_true] at hbo
      obtain ⟨rfl, rfl⟩ := hbo
      have e1 := (hBr.cell (p := ⟨b, off + k, none⟩) hlt).trans g1
      have e2 := (hBr.cell (p := ⟨b, off + B, none⟩) hlt).trans g2
      have HX1 := Lib.hid ((H.out.2 l[k] (List.getElem_mem hlt2)).grown hBr)
      have HX2 := Lib.hid ((H.out.2 l[B] (List.getElem_mem hBl)).grown hBr)
      have HO1 := Lib.hid (HOK.out.2 l[k] (List.getElem_mem hlt2))
      have HO2 := Lib.hid (HOK.out.2 l[B] (List.getElem_mem hBl))
      have D1 := HD.out k hlt2
      have D2 := HD.out B hBl
      clear g1 g2
      rw [hBB]
      clear hBB
      have hzb : b < wr.heap.size := by omega
      generalize l[k] = p1 at *
      generalize l[B] = p2 at *
      generalize farD l x k = fk at *
      generalize farD l x B = fB at *
      have HD1 := Lib.hid D1
      have HD2 := Lib.hid D2
      clear D1 D2
      go_wp2
      refine wp_grow [(5, .val (.int .u64 fk)), (11, .val (.int .u64 fB))] 13 (by kernel_rfl) (by kernel_rfl) (by rfl) (by rfl) ?_
      simp only [List.take_succ_cons, List.take_zero, List.drop_succ_cons, List.drop_zero]
      repeat (first
        | (apply Der.quiet; (rfl); (rfl); (intro w' hw' hctx; have hc' := bcell hw'; have y1 := fun o => hw'.cell (p := ⟨b, o, none⟩) (by simp; omega); clear hctx; go_simp; first | exact rfl | exact ⟨rfl, rfl⟩); simp only [Act.put, List.setIfInBounds_toArray, List.set_cons_succ, List.set_cons_zero, Nat.reduceAdd])
        | (apply Der.skip; (rfl); simp only [Act.put, List.setIfInBounds_toArray, List.set_cons_succ, List.set_cons_zero, Nat.reduceAdd]))
      apply Der.val
      · rfl
      · rfl
      · (intro w' hw' hctx; go_simp; refine (r5Dist _ _ _ _ HO1.out.1 HOK.out.1 HO1.out.2 _ (HX1.out.grown (undrew hw')) (H'.out.grown (hBr.trans ((undrew hw').mono hsz)))).mono ?_; rintro e w2 ⟨rfl, hb⟩; exact ⟨_, rfl, congrArg (Value.int .u64) HD1.out.symm, hb⟩)
      simp only [Act.put, List.setIfInBounds_toArray, List.set_cons_succ, List.set_cons_zero, Nat.reduceAdd]
      repeat (first
        | (apply Der.quiet; (rfl); (rfl); (intro w' hw' hctx; have hc' := bcell hw'; have y1 := fun o => hw'.cell (p := ⟨b, o, none⟩) (by simp; omega); clear hctx; go_simp; first | exact rfl | exact ⟨rfl, rfl⟩); simp only [Act.put, List.setIfInBounds_toArray, List.set_cons_succ, List.set_cons_zero, Nat.reduceAdd])
        | (apply Der.skip; (rfl); simp only [Act.put, List.setIfInBounds_toArray, List.set_cons_succ, List.set_cons_zero, Nat.reduceAdd]))
      apply Der.val
      · rfl
      · rfl
      · (intro w' hw' hctx; go_simp; refine (r5Dist _ _ _ _ HO2.out.1 HOK.out.1 HO2.out.2 _ (HX2.out.grown (undrew hw')) (H'.out.grown (hBr.trans ((undrew hw').mono hsz)))).mono ?_; rintro e w2 ⟨rfl, hb⟩; exact ⟨_, rfl, congrArg (Value.int .u64) HD2.out.symm, hb⟩)
      simp only [Act.put, List.setIfInBounds_toArray, List.set_cons_succ, List.set_cons_zero, Nat.reduceAdd]
      repeat (first
        | (apply Der.quiet; (rfl); (rfl); (intro w' hw' hctx; have hc' := bcell hw'; have y1 := fun o => hw'.cell (p := ⟨b, o, none⟩) (by simp; omega); clear hctx; go_simp; first | exact rfl | exact ⟨rfl, rfl⟩); simp only [Act.put, List.setIfInBounds_toArray, List.set_cons_succ, List.set_cons_zero, Nat.reduceAdd])
        | (apply Der.skip; (rfl); simp only [Act.put, List.setIfInBounds_toArray, List.set_cons_succ, List.set_cons_zero, Nat.reduceAdd]))
      refine Der.nil (fun w2 hgw2 hctx => ?_)
      clear hctx
      have hb2 : Below _ _ w2 := hgw2
      clear hgw2
      by_cases hd : fk < fB
      · have HN2 := Lib.hid (HN.out.1 hd)
        go_wp2
        go_roundw
        case rel => exact ⟨k + 1, by omega, by omega, by go_num, by rw [Nat.add_sub_cancel, HN2.out], by ((have shb2 := hb2.size); (try simp at shb2); (have shBr := hBr.size); (try simp at shBr); (repeat' (first | (with_reducible exact Below.refl _ _) | (with_reducible refine Below.setCell ?_ ?_ _) | (with_reducible refine Below.alloc ?_ ?_ _) | (with_reducible refine Below.drew ?_) | (with_reducible refine Below.trans ?_ (Below.mono hb2 ?_)) | (with_reducible refine Below.trans ?_ (Below.mono hBr ?_)) | go_size)))⟩
        case measure => simp [intOf]; omega
      · have HN2 := Lib.hid (HN.out.2 (by omega))
        go_wp2
        go_roundw
        case rel => exact ⟨k + 1, by omega, by omega, by go_num, by rw [Nat.add_sub_cancel, HN2.out], by ((have shb2 := hb2.size); (try simp at shb2); (have shBr := hBr.size); (try simp at shBr); (repeat' (first | (with_reducible exact Below.refl _ _) | (with_reducible refine Below.setCell ?_ ?_ _) | (with_reducible refine Below.alloc ?_ ?_ _) | (with_reducible refine Below.drew ?_) | (with_reducible refine Below.trans ?_ (Below.mono hb2 ?_)) | (with_reducible refine Below.trans ?_ (Below.mono hBr ?_)) | go_size)))⟩
        case measure => simp [intOf]; omega
    · have : k = l.length := by omega
      subst this
      go_wp2
      go_ret
      exact ⟨rfl, hBr⟩
end Go.Proofs.Ytlfmffjlmhpcdaa
