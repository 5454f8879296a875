/- The contract of quiverlaw13.ListsTells. -/
import Derived.Test.YtlfmffjlmhpcdaaWakesL
namespace Go.Proofs.Ytlfmffjlmhpcdaa
open Go.RowKit
set_option maxRecDepth 100000
attribute [local irreducible] Der

theorem same_self (cs : List PV) (ms : List M) : sameL cs ms cs ms = true := by unfold sameL; rw [decide_eq_true rfl, decide_eq_true rfl]; rfl
theorem overL_le {cs : List PV} {ms : List M} (h : overL cs ms = false) : ms.length ≤ 20 ∧ cs.length ≤ 20 := by
  unfold overL overV at h
  simp only [Bool.or_eq_false_iff, decide_eq_false_iff_not] at h
  omega
set_option maxHeartbeats 8000000 in
theorem f_ListsTells (vc vm uc um : Value) (cs cs' : List PV) (ms ms' : List M) (q : Int) (w : World) (hc : VecsV w vc cs) (hm : Masks w vm ms) (hc' : VecsV w uc cs') (hm' : Masks w um ms') :
    Calls Try.prog 3 #[.agg #[vc, vm], .agg #[uc, um], .int .i64 q] w fun e w' => e = .returned (.bool true) ∧ Below w.heap.size w w' := by
  obtain ⟨a, cap, rfl, -⟩ := hc.open
  obtain ⟨a', cap', rfl, -⟩ := hm.open
  obtain ⟨b, cbp, rfl, -⟩ := hc'.open
  obtain ⟨b', cbp', rfl, -⟩ := hm'.open
  have HV := Lib.hid (fun W (hb : Below w.heap.size w W) => hc.grown hb)
  have HM := Lib.hid (fun W (hb : Below w.heap.size w W) => hm.grown hb)
  have HV' := Lib.hid (fun W (hb : Below w.heap.size w W) => hc'.grown hb)
  have HM' := Lib.hid (fun W (hb : Below w.heap.size w W) => hm'.grown hb)
  clear hc hm hc' hm'
  go_enter Try.func3, Try.ntmps3
  go_wp2_with fail
  refine (l13_wakes _).mono ?_
  rintro e w1 ⟨rfl, hb1⟩
  have z1w0 : w.heap.size < w1.heap.size := (by have := hb1.size; (try simp at this); omega)
  have q1w0 := fun o => hb1.cell (p := ⟨w.heap.size, o, none⟩) (by first | omega | (simp; done) | (simp; omega))
  have r1w0 := fun o => hb1.frozen (p := ⟨w.heap.size, o, none⟩) (by first | omega | (simp; done) | (simp; omega))
  have z1w1 : w.heap.size + 1 < w1.heap.size := (by have := hb1.size; (try simp at this); omega)
  have q1w1 := fun o => hb1.cell (p := ⟨w.heap.size + 1, o, none⟩) (by first | omega | (simp; done) | (simp; omega))
  have r1w1 := fun o => hb1.frozen (p := ⟨w.heap.size + 1, o, none⟩) (by first | omega | (simp; done) | (simp; omega))
  have hB1 : Below w.heap.size w w1 := by ((have shb1 := hb1.size); (try simp at shb1); (repeat' (first | (with_reducible exact Below.refl _ _) | (with_reducible refine Below.setCell ?_ ?_ _) | (with_reducible refine Below.alloc ?_ ?_ _) | (with_reducible refine Below.drew ?_) | (with_reducible refine Below.trans ?_ (Below.mono hb1 ?_)) | go_size)))
  have c0 : w1.cell? ⟨w.heap.size, 0, none⟩ = some (.slice a cs.length cap) := by rw [q1w0]; go_simp
  have c1 : w1.cell? ⟨w.heap.size, 1, none⟩ = some (.slice a' ms.length cap') := by rw [q1w0]; go_simp
  have c2 : w1.cell? ⟨w.heap.size + 1, 0, none⟩ = some (.slice b cs'.length cbp) := by rw [q1w1]; go_simp
  have c3 : w1.cell? ⟨w.heap.size + 1, 1, none⟩ = some (.slice b' ms'.length cbp') := by rw [q1w1]; go_simp
  clear q1w0 q1w1 r1w0 r1w1 hb1
  cases ho1 : overL cs ms
  · go_wp2_with fail
    refine (l13_over _ _ cs ms _ (HV.out _ (by ((have shB1 := hB1.size); (try simp at shB1); (repeat' (first | (with_reducible exact Below.refl _ _) | (with_reducible refine Below.setCell ?_ ?_ _) | (with_reducible refine Below.alloc ?_ ?_ _) | (with_reducible refine Below.drew ?_) | (with_reducible refine Below.trans ?_ (Below.mono hB1 ?_)) | go_size))))) (HM.out _ (by ((have shB1 := hB1.size); (try simp at shB1); (repeat' (first | (with_reducible exact Below.refl _ _) | (with_reducible refine Below.setCell ?_ ?_ _) | (with_reducible refine Below.alloc ?_ ?_ _) | (with_reducible refine Below.drew ?_) | (with_reducible refine Below.trans ?_ (Below.mono hB1 ?_)) | go_size)))))).mono ?_
    rintro e w2 ⟨rfl, hb2⟩
    rw [ho1]
    have hB2 : Below w.heap.size w w2 := by ((have shb2 := hb2.size); (try simp at shb2); (have shB1 := hB1.size); (try simp at shB1); (repeat' (first | (with_reducible exact Below.refl _ _) | (with_reducible refine Below.setCell ?_ ?_ _) | (with_reducible refine Below.alloc ?_ ?_ _) | (with_reducible refine Below.drew ?_) | (with_reducible refine Below.trans ?_ (Below.mono hb2 ?_)) | (with_reducible refine Below.trans ?_ (Below.mono hB1 ?_)) | go_size)))
    have d0 := (hb2.cell (p := ⟨w.heap.size, 0, none⟩) z1w0).trans c0
    have d1 := (hb2.cell (p := ⟨w.heap.size, 1, none⟩) z1w0).trans c1
    have d2 := (hb2.cell (p := ⟨w.heap.size + 1, 0, none⟩) z1w1).trans c2
    have d3 := (hb2.cell (p := ⟨w.heap.size + 1, 1, none⟩) z1w1).trans c3
    have z20 : w.heap.size < w2.heap.size := by have := hb2.size; omega
    have z21 : w.heap.size + 1 < w2.heap.size := by have := hb2.size; omega
    clear c0 c1 c2 c3
    cases ho2 : overL cs' ms'
    · have hle := (overL_le ho1).1
      go_wp2_with fail
      refine (l13_over _ _ cs' ms' _ (HV'.out _ (by ((have shB2 := hB2.size); (try simp at shB2); (repeat' (first | (with_reducible exact Below.refl _ _) | (with_reducible refine Below.setCell ?_ ?_ _) | (with_reducible refine Below.alloc ?_ ?_ _) | (with_reducible refine Below.drew ?_) | (with_reducible refine Below.trans ?_ (Below.mono hB2 ?_)) | go_size))))) (HM'.out _ (by ((have shB2 := hB2.size); (try simp at shB2); (repeat' (first | (with_reducible exact Below.refl _ _) | (with_reducible refine Below.setCell ?_ ?_ _) | (with_reducible refine Below.alloc ?_ ?_ _) | (with_reducible refine Below.drew ?_) | (with_reducible refine Below.trans ?_ (Below.mono hB2 ?_)) | go_size)))))).mono ?_
      rintro e w3 ⟨rfl, hb3⟩
      rw [ho2]
      have hB3 : Below w.heap.size w w3 := by ((have shb3 := hb3.size); (try simp at shb3); (have shB2 := hB2.size); (try simp at shB2); (repeat' (first | (with_reducible exact Below.refl _ _) | (with_reducible refine Below.setCell ?_ ?_ _) | (with_reducible refine Below.alloc ?_ ?_ _) | (with_reducible refine Below.drew ?_) | (with_reducible refine Below.trans ?_ (Below.mono hb3 ?_)) | (with_reducible refine Below.trans ?_ (Below.mono hB2 ?_)) | go_size)))
      have e0 := (hb3.cell (p := ⟨w.heap.size, 0, none⟩) z20).trans d0
      have e1 := (hb3.cell (p := ⟨w.heap.size, 1, none⟩) z20).trans d1
      have e2 := (hb3.cell (p := ⟨w.heap.size + 1, 0, none⟩) z21).trans d2
      have e3 := (hb3.cell (p := ⟨w.heap.size + 1, 1, none⟩) z21).trans d3
      have z30 : w.heap.size < w3.heap.size := by have := hb3.size; omega
      have z31 : w.heap.size + 1 < w3.heap.size := by have := hb3.size; omega
      clear d0 d1 d2 d3 ho1 ho2
      go_wp2_with fail
      refine (f_listsCheck _ _ cs ms _ (HV.out _ (by ((have shB3 := hB3.size); (try simp at shB3); (repeat' (first | (with_reducible exact Below.refl _ _) | (with_reducible refine Below.setCell ?_ ?_ _) | (with_reducible refine Below.alloc ?_ ?_ _) | (with_reducible refine Below.drew ?_) | (with_reducible refine Below.trans ?_ (Below.mono hB3 ?_)) | go_size))))) (HM.out _ (by ((have shB3 := hB3.size); (try simp at shB3); (repeat' (first | (with_reducible exact Below.refl _ _) | (with_reducible refine Below.setCell ?_ ?_ _) | (with_reducible refine Below.alloc ?_ ?_ _) | (with_reducible refine Below.drew ?_) | (with_reducible refine Below.trans ?_ (Below.mono hB3 ?_)) | go_size)))))).mono ?_
      rintro e w4 ⟨rfl, hb4⟩
      have hB4 : Below w.heap.size w w4 := by ((have shb4 := hb4.size); (try simp at shb4); (have shB3 := hB3.size); (try simp at shB3); (repeat' (first | (with_reducible exact Below.refl _ _) | (with_reducible refine Below.setCell ?_ ?_ _) | (with_reducible refine Below.alloc ?_ ?_ _) | (with_reducible refine Below.drew ?_) | (with_reducible refine Below.trans ?_ (Below.mono hb4 ?_)) | (with_reducible refine Below.trans ?_ (Below.mono hB3 ?_)) | go_size)))
      have d0 := (hb4.cell (p := ⟨w.heap.size, 0, none⟩) z30).trans e0
      have d1 := (hb4.cell (p := ⟨w.heap.size, 1, none⟩) z30).trans e1
      have d2 := (hb4.cell (p := ⟨w.heap.size + 1, 0, none⟩) z31).trans e2
      have d3 := (hb4.cell (p := ⟨w.heap.size + 1, 1, none⟩) z31).trans e3
      have z40 : w.heap.size < w4.heap.size := by have := hb4.size; omega
      have z41 : w.heap.size + 1 < w4.heap.size := by have := hb4.size; omega
      clear e0 e1 e2 e3
      obtain ⟨E, hE⟩ : ∃ E, listsE cs ms = E := ⟨_, rfl⟩
      rw [hE]
      have HE := Lib.hid hE
      clear hE
      go_wp2_with fail
      refine (f_Where _ _ cs ms q (by omega) _ (HV.out _ (by ((have shB4 := hB4.size); (try simp at shB4); (repeat' (first | (with_reducible exact Below.refl _ _) | (with_reducible refine Below.setCell ?_ ?_ _) | (with_reducible refine Below.alloc ?_ ?_ _) | (with_reducible refine Below.drew ?_) | (with_reducible refine Below.trans ?_ (Below.mono hB4 ?_)) | go_size))))) (HM.out _ (by ((have shB4 := hB4.size); (try simp at shB4); (repeat' (first | (with_reducible exact Below.refl _ _) | (with_reducible refine Below.setCell ?_ ?_ _) | (with_reducible refine Below.alloc ?_ ?_ _) | (with_reducible refine Below.drew ?_) | (with_reducible refine Below.trans ?_ (Below.mono hB4 ?_)) | go_size)))))).mono ?_
      rintro e w5 ⟨rfl, hb5⟩
      have hB5 : Below w.heap.size w w5 := by ((have shb5 := hb5.size); (try simp at shb5); (have shB4 := hB4.size); (try simp at shB4); (repeat' (first | (with_reducible exact Below.refl _ _) | (with_reducible refine Below.setCell ?_ ?_ _) | (with_reducible refine Below.alloc ?_ ?_ _) | (with_reducible refine Below.drew ?_) | (with_reducible refine Below.trans ?_ (Below.mono hb5 ?_)) | (with_reducible refine Below.trans ?_ (Below.mono hB4 ?_)) | go_size)))
      have e0 := (hb5.cell (p := ⟨w.heap.size, 0, none⟩) z40).trans d0
      have e1 := (hb5.cell (p := ⟨w.heap.size, 1, none⟩) z40).trans d1
      have e2 := (hb5.cell (p := ⟨w.heap.size + 1, 0, none⟩) z41).trans d2
      have e3 := (hb5.cell (p := ⟨w.heap.size + 1, 1, none⟩) z41).trans d3
      have z50 : w.heap.size < w5.heap.size := by have := hb5.size; omega
      have z51 : w.heap.size + 1 < w5.heap.size := by have := hb5.size; omega
      clear d0 d1 d2 d3
      obtain ⟨I, hI⟩ : ∃ I, (whereF cs ms q).1 = I := ⟨_, rfl⟩
      obtain ⟨K, hK⟩ : ∃ K, (whereF cs ms q).2 = K := ⟨_, rfl⟩
      rw [hI, hK]
      have HI := Lib.hid hI
      have HK := Lib.hid hK
      clear hI hK
      obtain ⟨S, hS⟩ : ∃ S, sameL cs ms cs' ms' = S := ⟨_, rfl⟩
      have HS := Lib.hid hS
      clear hS
      have hSS : (S != S) = false := by cases S <;> rfl
      go_wp2
      refine wp_grow [(2, .val (.bool S)), (5, .val (.bool S)), (10, .val (.bool true))] 13 (by kernel_rfl) (by kernel_rfl) (by rfl) (by rfl) ?_
      simp only [List.take_succ_cons, List.take_zero, List.drop_succ_cons, List.drop_zero]
      repeat (first
        | (apply Der.quiet; (rfl); (rfl); (intro w' hw' hctx; have hc' := bcell hw'; have yw0 := fun o => hw'.cell (p := ⟨w.heap.size, o, none⟩) (by first | omega | (simp; done) | (simp; omega)); have yw1 := fun o => hw'.cell (p := ⟨w.heap.size + 1, o, none⟩) (by first | omega | (simp; done) | (simp; omega)); clear hctx; go_simp; first | exact rfl | exact ⟨rfl, rfl⟩); simp only [Act.put, List.setIfInBounds_toArray, List.set_cons_succ, List.set_cons_zero, Nat.reduceAdd])
        | (apply Der.skip; (rfl); simp only [Act.put, List.setIfInBounds_toArray, List.set_cons_succ, List.set_cons_zero, Nat.reduceAdd]))
      apply Der.val
      · rfl
      · rfl
      · (intro w' hw' hctx; go_simp; refine (f_listsSame _ _ _ _ cs cs' ms ms' _ (HV.out _ (hB5.trans ((undrew hw').mono hB5.size))) (HM.out _ (hB5.trans ((undrew hw').mono hB5.size))) (HV'.out _ (hB5.trans ((undrew hw').mono hB5.size))) (HM'.out _ (hB5.trans ((undrew hw').mono hB5.size)))).mono ?_; rintro e w2 ⟨rfl, hb⟩; exact ⟨_, rfl, congrArg Value.bool HS.out, hb⟩)
      simp only [Act.put, List.setIfInBounds_toArray, List.set_cons_succ, List.set_cons_zero, Nat.reduceAdd]
      repeat (first
        | (apply Der.quiet; (rfl); (rfl); (intro w' hw' hctx; have hc' := bcell hw'; have yw0 := fun o => hw'.cell (p := ⟨w.heap.size, o, none⟩) (by first | omega | (simp; done) | (simp; omega)); have yw1 := fun o => hw'.cell (p := ⟨w.heap.size + 1, o, none⟩) (by first | omega | (simp; done) | (simp; omega)); clear hctx; go_simp; first | exact rfl | exact ⟨rfl, rfl⟩); simp only [Act.put, List.setIfInBounds_toArray, List.set_cons_succ, List.set_cons_zero, Nat.reduceAdd])
        | (apply Der.skip; (rfl); simp only [Act.put, List.setIfInBounds_toArray, List.set_cons_succ, List.set_cons_zero, Nat.reduceAdd]))
      apply Der.val
      · rfl
      · rfl
      · (intro w' hw' hctx; go_simp; refine (r13Same _ _ _ _ cs cs' ms ms' _ (HV.out _ (hB5.trans ((undrew hw').mono hB5.size))) (HM.out _ (hB5.trans ((undrew hw').mono hB5.size))) (HV'.out _ (hB5.trans ((undrew hw').mono hB5.size))) (HM'.out _ (hB5.trans ((undrew hw').mono hB5.size)))).mono ?_; rintro e w2 ⟨rfl, hb⟩; exact ⟨_, rfl, congrArg Value.bool HS.out, hb⟩)
      simp only [Act.put, List.setIfInBounds_toArray, List.set_cons_succ, List.set_cons_zero, Nat.reduceAdd]
      repeat (first
        | (apply Der.quiet; (rfl); (rfl); (intro w' hw' hctx; have hc' := bcell hw'; have yw0 := fun o => hw'.cell (p := ⟨w.heap.size, o, none⟩) (by first | omega | (simp; done) | (simp; omega)); have yw1 := fun o => hw'.cell (p := ⟨w.heap.size + 1, o, none⟩) (by first | omega | (simp; done) | (simp; omega)); clear hctx; go_simp; first | exact rfl | exact ⟨rfl, rfl⟩); simp only [Act.put, List.setIfInBounds_toArray, List.set_cons_succ, List.set_cons_zero, Nat.reduceAdd])
        | (apply Der.skip; (rfl); simp only [Act.put, List.setIfInBounds_toArray, List.set_cons_succ, List.set_cons_zero, Nat.reduceAdd]))
      apply Der.val
      · rfl
      · rfl
      · (intro w' hw' hctx; go_simp; refine (f_listsSame _ _ _ _ cs cs ms ms _ (HV.out _ (hB5.trans ((undrew hw').mono hB5.size))) (HM.out _ (hB5.trans ((undrew hw').mono hB5.size))) (HV.out _ (hB5.trans ((undrew hw').mono hB5.size))) (HM.out _ (hB5.trans ((undrew hw').mono hB5.size)))).mono ?_; rintro e w2 ⟨rfl, hb⟩; exact ⟨_, rfl, congrArg Value.bool (same_self cs ms), hb⟩)
      simp only [Act.put, List.setIfInBounds_toArray, List.set_cons_succ, List.set_cons_zero, Nat.reduceAdd]
      repeat (first
        | (apply Der.quiet; (rfl); (rfl); (intro w' hw' hctx; have hc' := bcell hw'; have yw0 := fun o => hw'.cell (p := ⟨w.heap.size, o, none⟩) (by first | omega | (simp; done) | (simp; omega)); have yw1 := fun o => hw'.cell (p := ⟨w.heap.size + 1, o, none⟩) (by first | omega | (simp; done) | (simp; omega)); clear hctx; go_simp; first | exact rfl | exact ⟨rfl, rfl⟩); simp only [Act.put, List.setIfInBounds_toArray, List.set_cons_succ, List.set_cons_zero, Nat.reduceAdd])
        | (apply Der.skip; (rfl); simp only [Act.put, List.setIfInBounds_toArray, List.set_cons_succ, List.set_cons_zero, Nat.reduceAdd]))
      refine Der.nil (fun w6 hgw6 hctx => ?_)
      clear hctx
      have hb6 : Below _ _ w6 := hgw6
      clear hgw6
      have hb6' : Below w5.heap.size w5 w6 := by ((have shb6 := hb6.size); (try simp at shb6); (repeat' (first | (with_reducible exact Below.refl _ _) | (with_reducible refine Below.setCell ?_ ?_ _) | (with_reducible refine Below.alloc ?_ ?_ _) | (with_reducible refine Below.drew ?_) | (with_reducible refine Below.trans ?_ (Below.mono hb6 ?_)) | go_size)))
      have hB6 : Below w.heap.size w w6 := by ((have shb6' := hb6'.size); (try simp at shb6'); (have shB5 := hB5.size); (try simp at shB5); (repeat' (first | (with_reducible exact Below.refl _ _) | (with_reducible refine Below.setCell ?_ ?_ _) | (with_reducible refine Below.alloc ?_ ?_ _) | (with_reducible refine Below.drew ?_) | (with_reducible refine Below.trans ?_ (Below.mono hb6' ?_)) | (with_reducible refine Below.trans ?_ (Below.mono hB5 ?_)) | go_size)))
      have d0 := (hb6'.cell (p := ⟨w.heap.size, 0, none⟩) z50).trans e0
      have d1 := (hb6'.cell (p := ⟨w.heap.size, 1, none⟩) z50).trans e1
      have z60 : w.heap.size < w6.heap.size := by have := hb6'.size; omega
      clear e0 e1 e2 e3
      cases hok : listsOK cs ms
      · have HR := Lib.hid hok
        have hE0 : E = 230 := by rw [← HE.out]; unfold listsE; rw [hok]; rfl
        have hI0 : I = 0 := by rw [← HI.out, where_bad hok]
        have hK0 : K = false := by rw [← HK.out, where_bad hok]
        clear hok
        subst hE0; subst hI0; subst hK0
        go_wp2_with fail
        refine (r13Right _ _ cs ms _ (HV.out _ (by ((have shB6 := hB6.size); (try simp at shB6); (repeat' (first | (with_reducible exact Below.refl _ _) | (with_reducible refine Below.setCell ?_ ?_ _) | (with_reducible refine Below.alloc ?_ ?_ _) | (with_reducible refine Below.drew ?_) | (with_reducible refine Below.trans ?_ (Below.mono hB6 ?_)) | go_size))))) (HM.out _ (by ((have shB6 := hB6.size); (try simp at shB6); (repeat' (first | (with_reducible exact Below.refl _ _) | (with_reducible refine Below.setCell ?_ ?_ _) | (with_reducible refine Below.alloc ?_ ?_ _) | (with_reducible refine Below.drew ?_) | (with_reducible refine Below.trans ?_ (Below.mono hB6 ?_)) | go_size)))))).mono ?_
        rintro e w7 ⟨rfl, hb7⟩
        rw [HR.out]
        go_wp2
        go_ret
        exact ⟨rfl, by ((have shb7 := hb7.size); (try simp at shb7); (have shB6 := hB6.size); (try simp at shB6); (repeat' (first | (with_reducible exact Below.refl _ _) | (with_reducible refine Below.setCell ?_ ?_ _) | (with_reducible refine Below.alloc ?_ ?_ _) | (with_reducible refine Below.drew ?_) | (with_reducible refine Below.trans ?_ (Below.mono hb7 ?_)) | (with_reducible refine Below.trans ?_ (Below.mono hB6 ?_)) | go_size)))⟩
      · have HR := Lib.hid hok
        have hE0 : E = 0 := by rw [← HE.out]; unfold listsE; rw [hok]; rfl
        obtain ⟨F, hF⟩ : ∃ F, firstM ms q = F := ⟨_, rfl⟩
        have hI0 : I = if F < 0 then 0 else F := by rw [← HI.out, where_first hok, hF]
        have hK0 : K = decide (0 ≤ F) := by rw [← HK.out, where_first hok, hF]
        have HF := Lib.hid hF
        clear hok hF
        subst hE0
        by_cases hF0 : F < 0
        · rw [if_pos hF0] at hI0
          rw [decide_eq_false (by omega)] at hK0
          subst hI0; subst hK0
          go_wp2_with fail
          refine (r13Right _ _ cs ms _ (HV.out _ (by ((have shB6 := hB6.size); (try simp at shB6); (repeat' (first | (with_reducible exact Below.refl _ _) | (with_reducible refine Below.setCell ?_ ?_ _) | (with_reducible refine Below.alloc ?_ ?_ _) | (with_reducible refine Below.drew ?_) | (with_reducible refine Below.trans ?_ (Below.mono hB6 ?_)) | go_size))))) (HM.out _ (by ((have shB6 := hB6.size); (try simp at shB6); (repeat' (first | (with_reducible exact Below.refl _ _) | (with_reducible refine Below.setCell ?_ ?_ _) | (with_reducible refine Below.alloc ?_ ?_ _) | (with_reducible refine Below.drew ?_) | (with_reducible refine Below.trans ?_ (Below.mono hB6 ?_)) | go_size)))))).mono ?_
          rintro e w7 ⟨rfl, hb7⟩
          rw [HR.out]
          have hB7 : Below w.heap.size w w7 := by ((have shb7 := hb7.size); (try simp at shb7); (have shB6 := hB6.size); (try simp at shB6); (repeat' (first | (with_reducible exact Below.refl _ _) | (with_reducible refine Below.setCell ?_ ?_ _) | (with_reducible refine Below.alloc ?_ ?_ _) | (with_reducible refine Below.drew ?_) | (with_reducible refine Below.trans ?_ (Below.mono hb7 ?_)) | (with_reducible refine Below.trans ?_ (Below.mono hB6 ?_)) | go_size)))
          have e0 := (hb7.cell (p := ⟨w.heap.size, 0, none⟩) z60).trans d0
          have e1 := (hb7.cell (p := ⟨w.heap.size, 1, none⟩) z60).trans d1
          clear d0 d1
          go_wp2_with fail
          refine (r13Where _ _ cs ms q _ (HV.out _ (by ((have shB7 := hB7.size); (try simp at shB7); (repeat' (first | (with_reducible exact Below.refl _ _) | (with_reducible refine Below.setCell ?_ ?_ _) | (with_reducible refine Below.alloc ?_ ?_ _) | (with_reducible refine Below.drew ?_) | (with_reducible refine Below.trans ?_ (Below.mono hB7 ?_)) | go_size))))) (HM.out _ (by ((have shB7 := hB7.size); (try simp at shB7); (repeat' (first | (with_reducible exact Below.refl _ _) | (with_reducible refine Below.setCell ?_ ?_ _) | (with_reducible refine Below.alloc ?_ ?_ _) | (with_reducible refine Below.drew ?_) | (with_reducible refine Below.trans ?_ (Below.mono hB7 ?_)) | go_size)))))).mono ?_
          rintro e w8 ⟨rfl, hb8⟩
          rw [HF.out]
          go_wp2
          go_ret
          exact ⟨congrArg (fun b => Ending.returned (Value.bool b)) (show (!decide (0 ≤ F)) = true from by rw [decide_eq_false (by omega)]; rfl), by ((have shb8 := hb8.size); (try simp at shb8); (have shB7 := hB7.size); (try simp at shB7); (repeat' (first | (with_reducible exact Below.refl _ _) | (with_reducible refine Below.setCell ?_ ?_ _) | (with_reducible refine Below.alloc ?_ ?_ _) | (with_reducible refine Below.drew ?_) | (with_reducible refine Below.trans ?_ (Below.mono hb8 ?_)) | (with_reducible refine Below.trans ?_ (Below.mono hB7 ?_)) | go_size)))⟩
        · rw [if_neg hF0] at hI0
          rw [decide_eq_true (by omega)] at hK0
          subst hI0; subst hK0
          go_wp2_with fail
          refine (r13Right _ _ cs ms _ (HV.out _ (by ((have shB6 := hB6.size); (try simp at shB6); (repeat' (first | (with_reducible exact Below.refl _ _) | (with_reducible refine Below.setCell ?_ ?_ _) | (with_reducible refine Below.alloc ?_ ?_ _) | (with_reducible refine Below.drew ?_) | (with_reducible refine Below.trans ?_ (Below.mono hB6 ?_)) | go_size))))) (HM.out _ (by ((have shB6 := hB6.size); (try simp at shB6); (repeat' (first | (with_reducible exact Below.refl _ _) | (with_reducible refine Below.setCell ?_ ?_ _) | (with_reducible refine Below.alloc ?_ ?_ _) | (with_reducible refine Below.drew ?_) | (with_reducible refine Below.trans ?_ (Below.mono hB6 ?_)) | go_size)))))).mono ?_
          rintro e w7 ⟨rfl, hb7⟩
          rw [HR.out]
          have hB7 : Below w.heap.size w w7 := by ((have shb7 := hb7.size); (try simp at shb7); (have shB6 := hB6.size); (try simp at shB6); (repeat' (first | (with_reducible exact Below.refl _ _) | (with_reducible refine Below.setCell ?_ ?_ _) | (with_reducible refine Below.alloc ?_ ?_ _) | (with_reducible refine Below.drew ?_) | (with_reducible refine Below.trans ?_ (Below.mono hb7 ?_)) | (with_reducible refine Below.trans ?_ (Below.mono hB6 ?_)) | go_size)))
          have e0 := (hb7.cell (p := ⟨w.heap.size, 0, none⟩) z60).trans d0
          have e1 := (hb7.cell (p := ⟨w.heap.size, 1, none⟩) z60).trans d1
          clear d0 d1
          go_wp2_with fail
          refine (r13Where _ _ cs ms q _ (HV.out _ (by ((have shB7 := hB7.size); (try simp at shB7); (repeat' (first | (with_reducible exact Below.refl _ _) | (with_reducible refine Below.setCell ?_ ?_ _) | (with_reducible refine Below.alloc ?_ ?_ _) | (with_reducible refine Below.drew ?_) | (with_reducible refine Below.trans ?_ (Below.mono hB7 ?_)) | go_size))))) (HM.out _ (by ((have shB7 := hB7.size); (try simp at shB7); (repeat' (first | (with_reducible exact Below.refl _ _) | (with_reducible refine Below.setCell ?_ ?_ _) | (with_reducible refine Below.alloc ?_ ?_ _) | (with_reducible refine Below.drew ?_) | (with_reducible refine Below.trans ?_ (Below.mono hB7 ?_)) | go_size)))))).mono ?_
          rintro e w8 ⟨rfl, hb8⟩
          rw [HF.out]
          go_wp2
          go_ret
          exact ⟨rfl, by ((have shb8 := hb8.size); (try simp at shb8); (have shB7 := hB7.size); (try simp at shB7); (repeat' (first | (with_reducible exact Below.refl _ _) | (with_reducible refine Below.setCell ?_ ?_ _) | (with_reducible refine Below.alloc ?_ ?_ _) | (with_reducible refine Below.drew ?_) | (with_reducible refine Below.trans ?_ (Below.mono hb8 ?_)) | (with_reducible refine Below.trans ?_ (Below.mono hB7 ?_)) | go_size)))⟩
    · go_wp2_with fail
      refine (l13_over _ _ cs' ms' _ (HV'.out _ (by ((have shB2 := hB2.size); (try simp at shB2); (repeat' (first | (with_reducible exact Below.refl _ _) | (with_reducible refine Below.setCell ?_ ?_ _) | (with_reducible refine Below.alloc ?_ ?_ _) | (with_reducible refine Below.drew ?_) | (with_reducible refine Below.trans ?_ (Below.mono hB2 ?_)) | go_size))))) (HM'.out _ (by ((have shB2 := hB2.size); (try simp at shB2); (repeat' (first | (with_reducible exact Below.refl _ _) | (with_reducible refine Below.setCell ?_ ?_ _) | (with_reducible refine Below.alloc ?_ ?_ _) | (with_reducible refine Below.drew ?_) | (with_reducible refine Below.trans ?_ (Below.mono hB2 ?_)) | go_size)))))).mono ?_
      rintro e w3 ⟨rfl, hb3⟩
      rw [ho2]
      go_wp2
      go_ret
      exact ⟨rfl, by ((have shb3 := hb3.size); (try simp at shb3); (have shB2 := hB2.size); (try simp at shB2); (repeat' (first | (with_reducible exact Below.refl _ _) | (with_reducible refine Below.setCell ?_ ?_ _) | (with_reducible refine Below.alloc ?_ ?_ _) | (with_reducible refine Below.drew ?_) | (with_reducible refine Below.trans ?_ (Below.mono hb3 ?_)) | (with_reducible refine Below.trans ?_ (Below.mono hB2 ?_)) | go_size)))⟩
  · go_wp2_with fail
    refine (l13_over _ _ cs ms _ (HV.out _ (by ((have shB1 := hB1.size); (try simp at shB1); (repeat' (first | (with_reducible exact Below.refl _ _) | (with_reducible refine Below.setCell ?_ ?_ _) | (with_reducible refine Below.alloc ?_ ?_ _) | (with_reducible refine Below.drew ?_) | (with_reducible refine Below.trans ?_ (Below.mono hB1 ?_)) | go_size))))) (HM.out _ (by ((have shB1 := hB1.size); (try simp at shB1); (repeat' (first | (with_reducible exact Below.refl _ _) | (with_reducible refine Below.setCell ?_ ?_ _) | (with_reducible refine Below.alloc ?_ ?_ _) | (with_reducible refine Below.drew ?_) | (with_reducible refine Below.trans ?_ (Below.mono hB1 ?_)) | go_size)))))).mono ?_
    rintro e w2 ⟨rfl, hb2⟩
    rw [ho1]
    go_wp2
    go_ret
    exact ⟨rfl, by ((have shb2 := hb2.size); (try simp at shb2); (have shB1 := hB1.size); (try simp at shB1); (repeat' (first | (with_reducible exact Below.refl _ _) | (with_reducible refine Below.setCell ?_ ?_ _) | (with_reducible refine Below.alloc ?_ ?_ _) | (with_reducible refine Below.drew ?_) | (with_reducible refine Below.trans ?_ (Below.mono hb2 ?_)) | (with_reducible refine Below.trans ?_ (Below.mono hB1 ?_)) | go_size)))⟩
end Go.Proofs.Ytlfmffjlmhpcdaa
