/- quiverref13.Build. -/
import Derived.Test.YtlfmffjlmhpcdaaWithL
namespace Go.Proofs.Ytlfmffjlmhpcdaa
open Go.RowKit
set_option maxRecDepth 100000
attribute [local irreducible] Der

def fitsC (cs : List PV) (c : Cel) : Bool := !c.used || (decide (cs.length = 0) || fitC cs c)
def RefBuildPost (vl : Value) (cells : List Cel) (cs : List PV) (B : Nat) (e : Ending) (w' : World) : Prop :=
  if cells.all (fitsC cs) = false then e = .returned (.tuple #[nilL, .bool false])
  else ∃ y, e = .returned (.tuple #[.agg #[vl, y], .bool true]) ∧ w'.ownsRow B 49 2 y cs.length (cellsM (buildM cs cells cells.length))
theorem fits_no {cells : List Cel} {cs : List PV} {k : Nat} (h : k < cells.length) (hf : fitsC cs cells[k] = false) : cells.all (fitsC cs) = false :=
  List.all_eq_false.2 ⟨cells[k], List.getElem_mem h, by simp [hf]⟩
theorem take_fits {cells : List Cel} {cs : List PV} {k : Nat} (h : ∀ c ∈ cells.take k, fitsC cs c = true) (hk : k < cells.length) (hf : fitsC cs cells[k] = true) : ∀ c ∈ cells.take (k + 1), fitsC cs c = true := by
  intro c hc
  rw [List.take_succ_eq_append_getElem hk] at hc
  rcases List.mem_append.1 hc with h1 | h1
  · exact h c h1
  · rw [List.mem_singleton.1 h1]; exact hf
theorem buildM_none {cs : List PV} (h : cs.length = 0) (cells : List Cel) (k : Nat) : buildM cs cells k = [] := List.length_eq_zero_iff.1 (by rw [buildM_length]; exact h)
set_option maxHeartbeats 8000000 in
theorem r13Build (vx vl : Value) (cells : List Cel) (cs : List PV) (hcl : cs.length ≤ 1000) (hao : arenaOK cells = true) (hve : vecsE cs = 0) (w : World) (hx : CelsV w vx cells) (hc : VecsV w vl cs) :
    Calls Try.prog 22 #[.agg #[vx], vl] w fun e w' => RefBuildPost vl cells cs w.heap.size e w' ∧ Below w.heap.size w w' := by
  obtain ⟨a, cap, rfl, hl1, hm1, hcell⟩ := hx.open
  obtain ⟨b, cbp, rfl, hl2, hm2, vcell⟩ := hc.open
  have Hc := Lib.hid hcell
  have Hv := Lib.hid vcell
  have HF0 := Lib.hid (fun (h : 0 < cs.length) => (hc.2 cs[0] (List.getElem_mem h)).form)
  have HD0 := Lib.hid (fun h => dim0_get (l := cs) h)
  have HX := Lib.hid (fun W (hb : Below w.heap.size w W) => hx.grown hb)
  have HV := Lib.hid (fun W (hb : Below w.heap.size w W) => hc.grown hb)
  have HAO := Lib.hid hao
  have HVE := Lib.hid hve
  have HMl := Lib.hid (fun k => buildM_length cs cells k)
  clear hx hc hcell hao hve vcell
  have hW0s : ((w.alloc (.cells #[.slice a cells.length cap] 37)).alloc (.cells #[.slice none 0 0, .slice none 0 0] 25)).heap.size = w.heap.size + 1 + 1 := by simp
  have HR := Lib.hid (run_make_masks ((w.alloc (.cells #[.slice a cells.length cap] 37)).alloc (.cells #[.slice none 0 0, .slice none 0 0] 25)) cs.length (w.heap.size + 1 + 1) hcl (by rw [hW0s]; omega))
  rw [hW0s] at HR
  go_enter Try.func22, Try.ntmps22
  obtain ⟨w1, hr, ho, hb1⟩ := HR.out
  clear hW0s
  have hB1 : Below w.heap.size w w1 := by ((have shb1 := hb1.size); (try simp at shb1); (repeat' (first | (with_reducible exact Below.refl _ _) | (with_reducible refine Below.setCell ?_ ?_ _) | (with_reducible refine Below.alloc ?_ ?_ _) | (with_reducible refine Below.drew ?_) | (with_reducible refine Below.trans ?_ (Below.mono hb1 ?_)) | go_size)))
  have hs1 := hb1.size
  have k0 : w1.cell? ⟨w.heap.size, 0, none⟩ = some (.slice a cells.length cap) := (hb1.cell (p := ⟨w.heap.size, 0, none⟩) (by simp; omega)).trans (by go_simp)
  have k1 : w1.cell? ⟨w.heap.size + 1, 0, none⟩ = some (.slice none 0 0) := (hb1.cell (p := ⟨w.heap.size + 1, 0, none⟩) (by simp)).trans (by go_simp)
  have k2 : w1.cell? ⟨w.heap.size + 1, 1, none⟩ = some (.slice none 0 0) := (hb1.cell (p := ⟨w.heap.size + 1, 1, none⟩) (by simp)).trans (by go_simp)
  have k3 : w1.frozen? ⟨w.heap.size + 1, 0, none⟩ = false := (hb1.frozen (p := ⟨w.heap.size + 1, 0, none⟩) (by simp)).trans (by go_simp)
  have k4 : w1.frozen? ⟨w.heap.size + 1, 1, none⟩ = false := (hb1.frozen (p := ⟨w.heap.size + 1, 1, none⟩) (by simp)).trans (by go_simp)
  have hne1 := (ho.lt (w.heap.size + 1 + 1) rfl).2
  have HO := Lib.hid ho
  clear ho
  have HO0 := Lib.hid (HO.out.alloc (.cells #[.slice b cs.length cbp, .slice (some ⟨w.heap.size + 1 + 1, 0, none⟩) cs.length cs.length] 25))
  go_wp2
  go_loopw [7] (fun i wr => ∃ (j : Nat) (y : Value), j ≤ cells.length ∧ i = .int .i64 j ∧ wr.cell? ⟨w1.heap.size, 0, none⟩ = some (.slice b cs.length cbp) ∧ wr.cell? ⟨w1.heap.size, 1, none⟩ = some y ∧ wr.frozen? ⟨w1.heap.size, 0, none⟩ = false ∧ wr.frozen? ⟨w1.heap.size, 1, none⟩ = false ∧
    wr.ownsRow (w.heap.size + 1 + 1) 49 2 y cs.length (cellsM (buildM cs cells j)) ∧ y.ownBlock ≠ some w1.heap.size ∧ (∀ c ∈ cells.take j, fitsC cs c = true) ∧ Below w1.heap.size w1 wr ∧ w1.heap.size < wr.heap.size) (fun i _ => cells.length - (intOf i).toNat)
  case atStart =>
    refine ⟨0, .slice (some ⟨w.heap.size + 1 + 1, 0, none⟩) cs.length cs.length, Nat.zero_le _, rfl, by go_simp, by go_simp, by go_simp, by go_simp, HO0.out, ?_, by simp, by ((repeat' (first | (with_reducible exact Below.refl _ _) | (with_reducible refine Below.setCell ?_ ?_ _) | (with_reducible refine Below.alloc ?_ ?_ _) | (with_reducible refine Below.drew ?_) | (with_reducible refine Below.trans ?_ (Below.mono (by assumption) ?_)) | go_size))), by simp⟩
    intro e
    have e2 : w.heap.size + 1 + 1 = w1.heap.size := Option.some.inj e
    omega
  case round =>
    obtain ⟨j, y, hj, rfl, n0, n1, m0, m1, hown, hne, hfit, hbr, hsz⟩ := hrel
    obtain ⟨y1, y2, rfl⟩ := own_slice hown
    have hBr : Below w.heap.size w wr := by ((have shbr := hbr.size); (try simp at shbr); (have shB1 := hB1.size); (try simp at shB1); (repeat' (first | (with_reducible exact Below.refl _ _) | (with_reducible refine Below.setCell ?_ ?_ _) | (with_reducible refine Below.alloc ?_ ?_ _) | (with_reducible refine Below.drew ?_) | (with_reducible refine Below.trans ?_ (Below.mono hbr ?_)) | (with_reducible refine Below.trans ?_ (Below.mono hB1 ?_)) | go_size)))
    have j0 := (hbr.cell (p := ⟨w.heap.size, 0, none⟩) (by simp; omega)).trans k0
    have HOr := Lib.hid hown
    have HNE := Lib.hid hne
    have HF := Lib.hid hfit
    clear hown hne hfit
    by_cases hlt2 : j < cells.length
    · obtain ⟨b0, off, rfl, hlt, g1, -, -, -, g5⟩ := Hc.out j hlt2
      have e1 := (hBr.cell (p := ⟨b0, off + j * 5, none⟩) hlt).trans g1
      have e5 := (hBr.cell (p := ⟨b0, off + j * 5 + 4, none⟩) hlt).trans g5
      have HVj := Lib.hid (fun W hb => (HX.out W hb).2 cells[j] (List.getElem_mem hlt2))
      have HOK := Lib.hid (cell_ok HAO.out hlt2)
      have HBu := Lib.hid (fun hu => buildM_used (cs := cs) hlt2 hu)
      have HBf := Lib.hid (fun hu => buildM_free (cs := cs) hlt2 hu)
      have HNo := Lib.hid (fun hu => fits_no (cs := cs) hlt2 hu)
      have HTk := Lib.hid (take_fits (cs := cs) HF.out hlt2)
      have HBn := Lib.hid (fun (h : cs.length = 0) k => buildM_none h cells k)
      obtain ⟨av, cv, hav, hlv, hmv⟩ := (HVj.out _ hBr).form
      clear g1 g5
      generalize cells[j] = c at *
      obtain ⟨used, id, cb, ce, sv, vec⟩ := c
      simp only at hav e1 e5
      subst hav
      cases used
      · go_wp2
        go_roundw
        case rel =>
          refine ⟨j + 1, .slice y1 cs.length y2, by omega, by go_num, n0, n1, m0, m1, ?_, HNE.out, HTk.out rfl, hbr, hsz⟩
          rw [HBf.out rfl]; exact HOr.out
        case measure => simp [intOf]; omega
      · by_cases h0 : cs.length = 0
        · have HT := Lib.hid (HTk.out (show fitsC cs ⟨true, id, cb, ce, .slice av vec.length cv, vec⟩ = true by unfold fitsC; rw [decide_eq_true h0]; rfl))
          have HEq := Lib.hid ((HBn.out h0 (j + 1)).trans (HBn.out h0 j).symm)
          have hz : ((cs.length : Int) == 0) = true := beq_iff_eq.2 (by omega)
          clear h0
          go_wp2
          go_roundw
          case rel =>
            refine ⟨j + 1, .slice y1 cs.length y2, by omega, by go_num, n0, n1, m0, m1, ?_, HNE.out, HT.out, hbr, hsz⟩
            rw [HEq.out]; exact HOr.out
          case measure => simp [intOf]; omega
        · have h0p : 0 < cs.length := by omega
          have hz : ((cs.length : Int) == 0) = false := beq_eq_false_iff_ne.2 (by omega)
          obtain ⟨bv, offv, rfl, hltv, gv⟩ := Hv.out 0 h0p
          obtain ⟨uv, cu, hu, -, -⟩ := HF0.out h0p
          have ev : wr.cell? ⟨bv, offv, none⟩ = some (.slice uv (dim0 cs) cu) := (hBr.cell (p := ⟨bv, offv + 0, none⟩) hltv).trans (gv.trans (by rw [hu, HD0.out h0p]))
          have hvok : vecOK vec = true := by
            have h5 : verOK cb ce vec = true := HOK.out
            unfold verOK at h5; rw [Bool.and_eq_true] at h5; exact h5.1
          have hNF := Lib.hid (near_fit HVE.out h0p (u := .slice av vec.length cv) hvok)
          have HFT := Lib.hid (show fitsC cs ⟨true, id, cb, ce, .slice av vec.length cv, vec⟩ = decide (vec.length = dim0 cs) by unfold fitsC fitC; rw [decide_eq_false h0]; rfl)
          have zb0 : b0 < wr.heap.size := by have := hBr.size; omega
          have zbv : bv < wr.heap.size := by have := hBr.size; omega
          have zw0 : w.heap.size < wr.heap.size := by omega
          clear gv hu hvok
          obtain ⟨D, hD⟩ : ∃ D, dim0 cs = D := ⟨_, rfl⟩
          rw [hD] at ev hNF HFT
          have HDD := Lib.hid hD
          clear hD
          obtain ⟨wz, hwz⟩ : ∃ wz, wz = wr := ⟨_, rfl⟩
          subst hwz
          by_cases hd : vec.length = D
          · have HT := Lib.hid (HTk.out (by rw [HFT.out]; exact decide_eq_true hd))
            have HNe := Lib.hid (hNF.out.trans (if_pos hd))
            have hbne : ((vec.length : Int) != (D : Int)) = false := by rw [hd]; exact bne_self_eq_false _
            have HBj := Lib.hid (HBu.out rfl)
            have hpc : placeC cs ⟨true, id, cb, ce, .slice av vec.length cv, vec⟩ = bestK (farD cs vec) (cs.length - 1) := rfl
            rw [hpc, HMl.out] at HBj
            have HN := Lib.hid (fun W hb => r5Nearest _ _ cs vec W (HV.out W hb) (HVj.out W hb) h0p HNe.out)
            have hpl := bestK_le (farD cs vec) (cs.length - 1)
            clear hd hpc h0
            generalize bestK (farD cs vec) (cs.length - 1) = p at *
            go_wp2
            refine wp_grow [] 13 (by kernel_rfl) (by kernel_rfl) (by rfl) (by rfl) ?_
            simp only [List.take_succ_cons, List.take_zero, List.drop_succ_cons, List.drop_zero]
            repeat (first
              | (apply Der.quiet; (rfl); (rfl); (intro w' hw' hctx; have hc' := bcell hw'; have yw0 := fun o => hw'.cell (p := ⟨w.heap.size, o, none⟩) (by first | omega | (simp; done) | (simp; omega)); have yb := fun o => hw'.cell (p := ⟨b0, o, none⟩) zb0; have yv := fun o => hw'.cell (p := ⟨bv, o, none⟩) zbv; clear hctx; go_simp; first | exact rfl | exact ⟨rfl, rfl⟩); simp only [Act.put, List.setIfInBounds_toArray, List.set_cons_succ, List.set_cons_zero, Nat.reduceAdd])
              | (apply Der.skip; (rfl); simp only [Act.put, List.setIfInBounds_toArray, List.set_cons_succ, List.set_cons_zero, Nat.reduceAdd]))
            refine Der.nil (fun w2 hgw2 hctx => ?_)
            clear hctx
            have hb2 : Below _ _ w2 := hgw2
            clear hgw2
            have hb2' : Below wz.heap.size wz w2 := by ((have shb2 := hb2.size); (try simp at shb2); (repeat' (first | (with_reducible exact Below.refl _ _) | (with_reducible refine Below.setCell ?_ ?_ _) | (with_reducible refine Below.alloc ?_ ?_ _) | (with_reducible refine Below.drew ?_) | (with_reducible refine Below.trans ?_ (Below.mono hb2 ?_)) | go_size)))
            have hs2 := hb2'.size
            have n02 := (hb2'.cell (p := ⟨w1.heap.size, 0, none⟩) hsz).trans n0
            have n12 := (hb2'.cell (p := ⟨w1.heap.size, 1, none⟩) hsz).trans n1
            have m02 := (hb2'.frozen (p := ⟨w1.heap.size, 0, none⟩) hsz).trans m0
            have m12 := (hb2'.frozen (p := ⟨w1.heap.size, 1, none⟩) hsz).trans m1
            have j02 := (hb2'.cell (p := ⟨w.heap.size, 0, none⟩) zw0).trans j0
            have e52 := (hb2'.cell (p := ⟨b0, off + j * 5 + 4, none⟩) zb0).trans e5
            have hB2 : Below w.heap.size w w2 := by ((have shb2' := hb2'.size); (try simp at shb2'); (have shBr := hBr.size); (try simp at shBr); (repeat' (first | (with_reducible exact Below.refl _ _) | (with_reducible refine Below.setCell ?_ ?_ _) | (with_reducible refine Below.alloc ?_ ?_ _) | (with_reducible refine Below.drew ?_) | (with_reducible refine Below.trans ?_ (Below.mono hb2' ?_)) | (with_reducible refine Below.trans ?_ (Below.mono hBr ?_)) | go_size)))
            have hbr2 : Below w1.heap.size w1 w2 := by ((have shb2' := hb2'.size); (try simp at shb2'); (have shbr := hbr.size); (try simp at shbr); (repeat' (first | (with_reducible exact Below.refl _ _) | (with_reducible refine Below.setCell ?_ ?_ _) | (with_reducible refine Below.alloc ?_ ?_ _) | (with_reducible refine Below.drew ?_) | (with_reducible refine Below.trans ?_ (Below.mono hb2' ?_)) | (with_reducible refine Below.trans ?_ (Below.mono hbr ?_)) | go_size)))
            have zg2 : w1.heap.size < w2.heap.size := by omega
            have zb2 : b0 < w2.heap.size := by omega
            have zw2 : w.heap.size < w2.heap.size := by omega
            have HO2 := Lib.hid (owns_below HOr.out hb2')
            have hl96 := arena_len HAO.out
            have HPu := Lib.hid (fun W (hb : Below w2.heap.size w2 W) => r13With (.slice (some ⟨bv, offv, none⟩) cs.length cbp) (.slice y1 cs.length y2) cs (buildM cs cells j) p (j : Int) (by rw [HMl.out]; omega) ⟨by omega, by omega⟩ (by rw [HMl.out]; exact hcl) W
              (HV.out W (hB2.trans (hb.mono hB2.size))) (Masks.of_own (owns_below HO2.out hb) (HMl.out j).symm) (NilA.of_owns (owns_below HO2.out hb)))
            clear n0 n1 m0 m1 j0 e1 e5 hl96
            go_wp2
            refine wp_grow [(9, .val (.int .i64 (p : Int))), (11, .rel (fun v W => ∃ y', v = .agg #[.slice (some ⟨bv, offv, none⟩) cs.length cbp, y'] ∧ W.ownsRow w2.heap.size 49 2 y' cs.length (cellsM (withL (putD p (j : Int)) (buildM cs cells j) cs.length))) (fun _ _ _ h hg => by obtain ⟨y', e, ho⟩ := h; exact ⟨y', e, owns_below ho hg⟩))] 12 (by kernel_rfl) (by kernel_rfl) (by rfl) (by rfl) ?_
            simp only [List.take_succ_cons, List.take_zero, List.drop_succ_cons, List.drop_zero]
            repeat (first
              | (apply Der.quiet; (rfl); (rfl); (intro w' hw' hctx; have hc' := bcell hw'; have yw0 := fun o => hw'.cell (p := ⟨w.heap.size, o, none⟩) (by first | omega | (simp; done) | (simp; omega)); have yw10 := fun o => hw'.cell (p := ⟨w1.heap.size, o, none⟩) (by first | omega | (simp; done) | (simp; omega)); have yb := fun o => hw'.cell (p := ⟨b0, o, none⟩) zb2; clear hctx; go_simp; first | exact rfl | exact ⟨rfl, rfl⟩); simp only [Act.put, List.setIfInBounds_toArray, List.set_cons_succ, List.set_cons_zero, Nat.reduceAdd])
              | (apply Der.skip; (rfl); simp only [Act.put, List.setIfInBounds_toArray, List.set_cons_succ, List.set_cons_zero, Nat.reduceAdd]))
            apply Der.val
            · rfl
            · rfl
            · (intro w' hw' hctx; go_simp; refine (HN.out _ (hB2.trans ((undrew hw').mono hB2.size))).mono ?_; rintro e w2 ⟨rfl, hb⟩; exact ⟨_, rfl, rfl, hb⟩)
            simp only [Act.put, List.setIfInBounds_toArray, List.set_cons_succ, List.set_cons_zero, Nat.reduceAdd]
            repeat (first
              | (apply Der.quiet; (rfl); (rfl); (intro w' hw' hctx; have hc' := bcell hw'; clear hctx; go_simp; first | exact rfl | exact ⟨rfl, rfl⟩); simp only [Act.put, List.setIfInBounds_toArray, List.set_cons_succ, List.set_cons_zero, Nat.reduceAdd])
              | (apply Der.skip; (rfl); simp only [Act.put, List.setIfInBounds_toArray, List.set_cons_succ, List.set_cons_zero, Nat.reduceAdd]))
            refine Der.rel (by rfl) (by rfl) (fun w' hw' hctx => ?_) (fun k => ?_)
            · (go_simp; refine (HPu.out _ (undrew hw')).mono ?_; rintro e w5 ⟨⟨y', rfl, ho⟩, hb⟩; rw [HMl.out] at ho; exact ⟨_, rfl, ⟨y', rfl, own_weaken ho (undrew hw').size⟩, hb⟩)
            simp only [Act.put, List.setIfInBounds_toArray, List.set_cons_succ, List.set_cons_zero, Nat.reduceAdd]
            refine Der.nil (fun w3 hg3 hctx => ?_)
            obtain ⟨y', rfl, ho3⟩ := (hctx 11 _ _ (by omega) rfl rfl)
            have hb3 : Below w2.heap.size w2 w3 := undrew hg3
            clear hctx hg3
            have hs3 := hb3.size
            have hny : y'.ownBlock ≠ some w1.heap.size := fun e => by have := (ho3.lt _ e).1; omega
            obtain ⟨z1, z2, rfl⟩ := own_slice ho3
            have n03 := (hb3.cell (p := ⟨w1.heap.size, 0, none⟩) zg2).trans n02
            have n13 := (hb3.cell (p := ⟨w1.heap.size, 1, none⟩) zg2).trans n12
            have m03 := (hb3.frozen (p := ⟨w1.heap.size, 0, none⟩) zg2).trans m02
            have m13 := (hb3.frozen (p := ⟨w1.heap.size, 1, none⟩) zg2).trans m12
            have hbr3 : Below w1.heap.size w1 w3 := by ((have shb3 := hb3.size); (try simp at shb3); (have shbr2 := hbr2.size); (try simp at shbr2); (repeat' (first | (with_reducible exact Below.refl _ _) | (with_reducible refine Below.setCell ?_ ?_ _) | (with_reducible refine Below.alloc ?_ ?_ _) | (with_reducible refine Below.drew ?_) | (with_reducible refine Below.trans ?_ (Below.mono hb3 ?_)) | (with_reducible refine Below.trans ?_ (Below.mono hbr2 ?_)) | go_size)))
            have HO3 := Lib.hid (own_setBox (own_setBox ho3 hny (.slice (some ⟨bv, offv, none⟩) cs.length cbp) (o := 0)) hny (.slice z1 cs.length z2) (o := 1))
            have HNY := Lib.hid hny
            clear ho3 hny n02 n12 m02 m12
            go_wp2
            go_roundw
            case rel =>
              refine ⟨j + 1, .slice z1 cs.length z2, by omega, by go_num, by go_simp, by go_simp, by go_simp, by go_simp, ?_, HNY.out, HT.out, ?_, ?_⟩
              · rw [HBj.out]; exact own_weaken HO3.out (by omega)
              · ((have shbr3 := hbr3.size); (try simp at shbr3); (repeat' (first | (with_reducible exact Below.refl _ _) | (with_reducible refine Below.setCell ?_ ?_ _) | (with_reducible refine Below.alloc ?_ ?_ _) | (with_reducible refine Below.drew ?_) | (with_reducible refine Below.trans ?_ (Below.mono hbr3 ?_)) | go_size)))
              · simp; omega
            case measure => simp [intOf]; omega
          · have HNO := Lib.hid (HNo.out (by rw [HFT.out]; exact decide_eq_false hd))
            have hbne : ((vec.length : Int) != (D : Int)) = true := bne_iff_ne.2 (by omega)
            clear hd h0
            have r0 := (hbr.cell (p := ⟨w.heap.size + 1, 0, none⟩) (by simp; omega)).trans k1
            have r1 := (hbr.cell (p := ⟨w.heap.size + 1, 1, none⟩) (by simp; omega)).trans k2
            have s0 := (hbr.frozen (p := ⟨w.heap.size + 1, 0, none⟩) (by simp; omega)).trans k3
            have s1 := (hbr.frozen (p := ⟨w.heap.size + 1, 1, none⟩) (by simp; omega)).trans k4
            go_wp2
            refine wp_grow [] 13 (by kernel_rfl) (by kernel_rfl) (by rfl) (by rfl) ?_
            simp only [List.take_succ_cons, List.take_zero, List.drop_succ_cons, List.drop_zero]
            repeat (first
              | (apply Der.quiet; (rfl); (rfl); (intro w' hw' hctx; have hc' := bcell hw'; have yw0 := fun o => hw'.cell (p := ⟨w.heap.size, o, none⟩) (by first | omega | (simp; done) | (simp; omega)); have yb := fun o => hw'.cell (p := ⟨b0, o, none⟩) zb0; have yv := fun o => hw'.cell (p := ⟨bv, o, none⟩) zbv; clear hctx; go_simp; first | exact rfl | exact ⟨rfl, rfl⟩); simp only [Act.put, List.setIfInBounds_toArray, List.set_cons_succ, List.set_cons_zero, Nat.reduceAdd])
              | (apply Der.skip; (rfl); simp only [Act.put, List.setIfInBounds_toArray, List.set_cons_succ, List.set_cons_zero, Nat.reduceAdd]))
            refine Der.nil (fun w2 hgw2 hctx => ?_)
            clear hctx
            have hb2 : Below _ _ w2 := hgw2
            clear hgw2
            have hb2' : Below wz.heap.size wz w2 := by ((have shb2 := hb2.size); (try simp at shb2); (repeat' (first | (with_reducible exact Below.refl _ _) | (with_reducible refine Below.setCell ?_ ?_ _) | (with_reducible refine Below.alloc ?_ ?_ _) | (with_reducible refine Below.drew ?_) | (with_reducible refine Below.trans ?_ (Below.mono hb2 ?_)) | go_size)))
            have hs2 := hb2'.size
            have r02 := (hb2'.cell (p := ⟨w.heap.size + 1, 0, none⟩) (by simp; omega)).trans r0
            have r12 := (hb2'.cell (p := ⟨w.heap.size + 1, 1, none⟩) (by simp; omega)).trans r1
            have s02 := (hb2'.frozen (p := ⟨w.heap.size + 1, 0, none⟩) (by simp; omega)).trans s0
            have s12 := (hb2'.frozen (p := ⟨w.heap.size + 1, 1, none⟩) (by simp; omega)).trans s1
            clear r0 r1 s0 s1 n0 n1 m0 m1
            go_wp2
            refine bodyPost_ret (v := .tuple #[.agg #[.slice none 0 0, .slice none 0 0], .bool false]) (by simp only [results, Try.results22]; go_simp) rfl ⟨?_, ?_⟩
            · unfold RefBuildPost; rw [if_pos HNO.out]; rfl
            · ((have shb2' := hb2'.size); (try simp at shb2'); (have shBr := hBr.size); (try simp at shBr); (repeat' (first | (with_reducible exact Below.refl _ _) | (with_reducible refine Below.setCell ?_ ?_ _) | (with_reducible refine Below.alloc ?_ ?_ _) | (with_reducible refine Below.drew ?_) | (with_reducible refine Below.trans ?_ (Below.mono hb2' ?_)) | (with_reducible refine Below.trans ?_ (Below.mono hBr ?_)) | go_size)))
    · have : j = cells.length := by omega
      subst this
      have HT := Lib.hid (show cells.all (fitsC cs) = true from List.all_eq_true.2 (fun c hc => HF.out c (by rw [List.take_of_length_le (Nat.le_refl _)]; exact hc)))
      have r0 := (hbr.cell (p := ⟨w.heap.size + 1, 0, none⟩) (by simp; omega)).trans k1
      have r1 := (hbr.cell (p := ⟨w.heap.size + 1, 1, none⟩) (by simp; omega)).trans k2
      have s0 := (hbr.frozen (p := ⟨w.heap.size + 1, 0, none⟩) (by simp; omega)).trans k3
      have s1 := (hbr.frozen (p := ⟨w.heap.size + 1, 1, none⟩) (by simp; omega)).trans k4
      have zr : w.heap.size + 1 < wr.heap.size := by omega
      go_wp2
      refine bodyPost_ret (v := .tuple #[.agg #[.slice b cs.length cbp, .slice y1 cs.length y2], .bool true]) (by simp only [results, Try.results22]; go_simp) rfl ⟨?_, ?_⟩
      · unfold RefBuildPost; rw [if_neg (by rw [HT.out]; decide)]
        exact ⟨_, rfl, own_weaken (own_setCell (own_setCell HOr.out (by omega) _) (by omega) _) (by omega)⟩
      · ((have shBr := hBr.size); (try simp at shBr); (repeat' (first | (with_reducible exact Below.refl _ _) | (with_reducible refine Below.setCell ?_ ?_ _) | (with_reducible refine Below.alloc ?_ ?_ _) | (with_reducible refine Below.drew ?_) | (with_reducible refine Below.trans ?_ (Below.mono hBr ?_)) | go_size)))
end Go.Proofs.Ytlfmffjlmhpcdaa
