/- wal.frames, walked. -/
import Derived.Test.YtkekidjjmcmjhaaGreatWalH
import Derived.Test.YtkekidjjmcmjhaaGreatWalB
namespace Go.Proofs.YtkekidjjmcmjhaaGreat
open Go.RowKit Go.Shelf
set_option maxRecDepth 100000
attribute [local irreducible] Der

abbrev Pt := Value × List Int
/-- An element: bytes of their own. -/
def GdP (n1 : Nat) (x : Pt) (W : World) : Prop := Byte x.2 ∧ x.2.length ≤ 16000 ∧ W.ownsRow n1 5 1 x.1 x.2.length (x.2.map (Value.int .u8))
/-- What is left of the bytes, in the iterator's box. -/
structure Left (w W : World) (q B : Nat) (bs : List Int) : Prop where
  tw : Tw w.heap.size [q, B] w W
  box : ∃ v, W.cell? ⟨B, 0, none⟩ = some v ∧ Byt W v bs ∧ ∀ ad n c, v = .slice (some ad) n c → ad.block < w.heap.size ∧ ad.block ≠ q ∧ ad.block ≠ B
  fr : W.frozen? ⟨B, 0, none⟩ = false
theorem Left.go {w W W' : World} {q B : Nat} {bs : List Int} (h : Left w W q B bs) (hB : B < w.heap.size) (hq : B ≠ q) (ht : Tw w.heap.size [q] W W') : Left w W' q B bs := by
  obtain ⟨t, ⟨v, c, hv, hb⟩, f⟩ := h
  have hs := t.size
  refine ⟨t.trans (ht.mono (Nat.le_refl _) (fun a ha => .inl (by simp at ha; simp [ha]))), ⟨v, (ht.cell (p := ⟨B, 0, none⟩) hB (by simpa using hq)).trans c, hv.turn ht.size (fun ad n c e => ht.block _ (hb ad n c e).1 (by simpa using (hb ad n c e).2.1)), hb⟩, (ht.frozen (p := ⟨B, 0, none⟩) hB (by simpa using hq)).trans f⟩
theorem Left.below {w W W' : World} {q B : Nat} {bs : List Int} (h : Left w W q B bs) (hB : B < w.heap.size) (hq : B ≠ q) (hb : Below W.heap.size W W') : Left w W' q B bs :=
  h.go hB hq (Tw.of_below (hb.mono h.tw.size))
theorem abides_bel {β : Type} {B : Nat} {J : β → World → Prop} (hJ : AbidesFrom B J) {s : β} {W W' : World} (h : J s W) (hb : Below W.heap.size W W') : J s W' :=
  hJ s W W' none h ⟨hb.os, hb.tape, hb.output, hb.size, fun i hi _ => hb.block i hi⟩ (fun r e => by cases e)

set_option maxRecDepth 100000 in
set_option maxHeartbeats 8000000 in
theorem frames1_in (n : Nat) (hn : 1 ≤ n) (l B q : Nat) (w : World) (bs : List Int) (hbs : bs.length ≤ 100000) (hby : Byte bs) (hB : B < w.heap.size) (hq : B ≠ q) (J Jx : List Pt → World → Prop) (W : World) (hwW : Below w.heap.size w W) (hJ : AbidesFrom W.heap.size J)
    (hJB : ∀ pre W v, J pre W → J pre (W.setCell ⟨B, 0, none⟩ v))
    (hY : ∀ pre x W, J pre W → GdP w.heap.size x W → YieldAt Fence.wide (n - 1) Tryz.prog l #[x.1] W fun e W' =>
      (e = .returned (.bool true) ∧ J (pre ++ [x]) W' ∧ Tw w.heap.size [q] W W') ∨ (e = .returned (.bool false) ∧ Jx (pre ++ [x]) W'))
    (hL : Left w W q B bs) (h0 : J [] W) :
    CallsIn Fence.wide n Tryz.prog 114 #[.func (.yield l) #[] #[], .pointer (some ⟨B, 0, none⟩)] W fun e W' => (∃ v, e = .returned v) ∧
      ((∃ ys, ys.map Prod.snd = framesL bs.length 0 bs ∧ J ys W') ∨ (∃ pre, pre.map Prod.snd <+: framesL bs.length 0 bs ∧ Jx pre W')) := by
  have HY := Lib.hid hY
  have HJ := Lib.hid hJ
  have HJB := Lib.hid hJB
  have HL := Lib.hid hL
  clear hY hJ hJB hL
  refine callsIn_of_wp Tryz.func114 rfl trivial ?_ rfl
  simp only [Tryz.ntmps114, List.size_toArray, List.length_cons, List.length_nil, Nat.reduceAdd, Nat.reduceSub, Array.replicate_succ, Array.replicate_zero, List.push_toArray, List.append_toArray, List.nil_append, List.cons_append]
  gi_wp2
  gi_loopw [3] (fun i wr => ∃ pre : List Pt, i = .int .i64 (pre.length : Int) ∧ J pre wr ∧ Left w wr q B (restOf bs (pre.map Prod.snd)) ∧ Said1 0 bs (pre.map Prod.snd) ∧ W.heap.size ≤ wr.heap.size) (fun i _ => 200000 - (intOf i).toNat)
  case atStart => exact ⟨[], rfl, h0, HL.out, trivial, Nat.le_refl _⟩
  case round =>
    obtain ⟨pre, rfl, hJp, hLp, hSd, hWs⟩ := hrel
    have hlen := said1_len _ _ _ hSd hby
    have hcl := costL_len (pre.map Prod.snd)
    rw [List.length_map] at hcl
    have hpl : pre.length ≤ 100000 := by omega
    have HSD := Lib.hid hSd
    have HLP := Lib.hid hLp
    have HJP := Lib.hid hJp
    obtain ⟨rs, hrs⟩ : ∃ rs, restOf bs (pre.map Prod.snd) = rs := ⟨_, rfl⟩
    rw [hrs] at HLP hlen
    have HRS := Lib.hid hrs
    have hrl : rs.length ≤ 100000 := by omega
    have hrb := hlen.2
    obtain ⟨v, cB, hv, hva⟩ := HLP.out.box
    obtain ⟨a, cap, rfl, hle, hcm, -⟩ := hv.open
    have HV := Lib.hid hv
    have HVA := Lib.hid hva
    have hBr : B < wr.heap.size := by have := HLP.out.tw.size; omega
    clear hSd hLp hJp hv hva hrs hlen
    by_cases hs12 : rs.length < 12
    · have hE := said1_all _ 0 bs.length bs HSD.out (by rw [HRS.out]; exact parse1_short hs12) hby (Nat.le_refl _)
      have HE := Lib.hid hE
      clear hE
      gi_wp2
      go_end0
      exact ⟨⟨_, rfl⟩, .inl ⟨pre, HE.out.symm, HJP.out⟩⟩
    · have h12 : 12 ≤ rs.length := by omega
      gi_wp2_with fail
      refine ⟨trivial, (callsIn_wide.2 (f_scRead _ rs _ HV.out (by omega))).mono ?_⟩
      rintro e w2 ⟨⟨g, rfl, hg, hsc⟩, hb2⟩
      have HSC := Lib.hid hsc
      have s2 := hb2.size
      clear hsc
      gi_wp2_with fail
      refine ⟨trivial, (callsIn_wide.2 (f_Num4 g rs _ HSC.out (by omega) hrb)).mono ?_⟩
      rintro e w3 ⟨rfl, t3⟩
      have b3 : Below wr.heap.size wr w3 := hb2.trans (t3.below s2 (fun a ha => by simp at ha; omega))
      have s3 := b3.size
      have HL3 := Lib.hid (HLP.out.below hB hq b3)
      have cB3 := (b3.cell (p := ⟨B, 0, none⟩) hBr).trans cB
      have hN0 := numB_nonneg (hrb.take 4)
      have hN1 := (numB_lt 4 (rs.take 4) (by rw [List.length_take]; omega) (hrb.take 4)).2
      have hno := parse1_no (n := 0 + pre.length) (bs := rs) h12
      have hok := parse1_ok (n := 0 + pre.length) (bs := rs) h12
      have hne := parse1_ne (n := 0 + pre.length) (bs := rs) h12
      have hownd : ownB rs = (rs.drop 12).take (numB (rs.take 4)).toNat := rfl
      obtain ⟨NI, hNI⟩ : ∃ N, numB (rs.take 4) = N := ⟨_, rfl⟩
      rw [hNI] at hN0 hN1 hno hok hne hownd ⊢
      obtain ⟨N, rfl⟩ : ∃ N : Nat, NI = N := ⟨NI.toNat, by omega⟩
      rw [Int.toNat_natCast] at hok hne hownd
      have HNO := Lib.hid hno
      have HOK := Lib.hid hok
      have HNE := Lib.hid hne
      have HOW := Lib.hid hownd
      have HNI := Lib.hid hNI
      have hN2 : N < 4294967296 := by
        have : (256 : Int) ^ 4 = 4294967296 := by decide
        omega
      clear hno hok hne hownd hNI hN0 hN1 hb2 t3 cB
      have HV3 := Lib.hid (HV.out.grown (b3.mono (Nat.le_refl _)))
      by_cases hbig : 16000 < N
      · have hbig2 : (N : Int) > 16000 := by omega
        have hE := said1_all _ 0 bs.length bs HSD.out (by rw [HRS.out, List.length_map]; exact HNO.out (.inl (by omega))) hby (Nat.le_refl _)
        have HE := Lib.hid hE
        have hJ3 := abides_bel HJ.out HJP.out b3
        clear hE
        gi_wp2
        exact bodyPost_ret (results_none rfl _ _ _) rfl ⟨⟨_, rfl⟩, .inl ⟨pre, HE.out.symm, hJ3⟩⟩
      · have hbig2 : ¬ ((N : Int) > 16000) := by omega
        by_cases hsh : (rs.length : Int) < 12 + N
        · have hE := said1_all _ 0 bs.length bs HSD.out (by rw [HRS.out, List.length_map]; exact HNO.out (.inr hsh)) hby (Nat.le_refl _)
          have HE := Lib.hid hE
          have hJ3 := abides_bel HJ.out HJP.out b3
          clear hE
          gi_wp2
          exact bodyPost_ret (results_none rfl _ _ _) rfl ⟨⟨_, rfl⟩, .inl ⟨pre, HE.out.symm, hJ3⟩⟩
        · have hsh2 : ¬ ((rs.length : Int) < 12 + N) := hsh
          obtain ⟨a1, hr1, hB1, hA1⟩ := run_suf a (12 + N) cap 12 (by omega) (by omega) hcm
          obtain ⟨a2, hr2, hB2, hA2⟩ := run_suf a rs.length cap (12 + N) (by omega) hle hcm
          have e12 : 12 + N - 12 = N := by omega
          rw [e12] at hr1 hB1
          have hr1' : ∀ w : World, (Instr.sliceAt 24 (.slice a (12 + N) cap) (some (.int .i64 12)) none none).run Tryz.prog w = .ok (.slice a1 N (cap - 12)) w := hr1
          have hr2' : ∀ w : World, (Instr.sliceAt 24 (.slice a rs.length cap) (some (.int .i64 (12 + (N : Int)))) none none).run Tryz.prog w = .ok (.slice a2 (rs.length - (12 + N)) (cap - (12 + N))) w := by
            intro w
            have h9 := hr2 w
            rw [show (((12 + N : Nat)) : Int) = 12 + (N : Int) by push_cast; rfl] at h9
            exact h9
          have HB1 := Lib.hid (fun (W : World) l (h : Byt W (.slice a (12 + N) cap) l) => hB1 W l h)
          have HB2 := Lib.hid hB2
          have HA2 := Lib.hid hA2
          have hwl : (rs.take (12 + N)).length = 12 + N := by rw [List.length_take]; omega
          have HVw := Lib.hid (fun (W : World) (h : Byt W (.slice a rs.length cap) rs) => h.cut (k := 12 + N) (by omega))
          have hown : (rs.take (12 + N)).drop 12 = ownB rs := by rw [HOW.out, List.drop_take, e12]
          have HOWN := Lib.hid hown
          have HNL := Lib.hid (show (ownB rs).length = N by rw [HOW.out, List.length_take, List.length_drop]; omega)
          clear hr1 hr2 hB1 hB2 hA1 hA2 e12 hwl hown
          gi_wp2_with fail
          have hvw3 := HVw.out w3 HV3.out
          have ho3 := HB1.out w3 _ hvw3
          rw [HOWN.out] at ho3
          have HVW3 := Lib.hid hvw3
          have hob : Byte (ownB rs) := by rw [← HOWN.out]; exact (hrb.take _).drop 12
          clear hvw3
          refine ⟨trivial, (callsIn_wide.2 (f_bytesClone _ (ownB rs) _ ho3 (by rw [HNL.out]; omega))).mono ?_⟩
          rintro e w4 ⟨⟨v4, rfl, own4⟩, hb4⟩
          have s4 := hb4.size
          have b4 : Below wr.heap.size wr w4 := b3.trans (hb4.mono s3)
          obtain ⟨p4, q4, c4, rfl, hp4⟩ := own_slice own4
          have HO4 := Lib.hid own4
          have e4 : q4 = (ownB rs).length := by
            obtain ⟨x1, x2, e, -⟩ := (Byt.of_owns own4 rfl).open
            simp only [Value.slice.injEq] at e
            exact e.2.1
          subst e4
          have cB4 := (hb4.cell (p := ⟨B, 0, none⟩) (by dsimp; omega)).trans cB3
          clear own4 hp4 ho3 cB3
          gi_wp2_with fail
          refine ⟨trivial, (callsIn_wide.2 (f_frame pre.length _ (ownB rs) _ (Byt.of_owns HO4.out rfl) (by rw [HNL.out]; omega) (by omega) hob)).mono ?_⟩
          rintro e w5 ⟨⟨v5, rfl, own5⟩, hb5⟩
          have s5 := hb5.size
          have b5 : Below wr.heap.size wr w5 := b4.trans (hb5.mono (by omega))
          obtain ⟨p5, q5, c5, rfl, hp5⟩ := own_slice own5
          have HO5 := Lib.hid (Byt.of_owns own5 rfl)
          have cB5 := (hb5.cell (p := ⟨B, 0, none⟩) (by dsimp; omega)).trans cB4
          have HVW5 := Lib.hid ((HVW3.out.grown hb4).grown hb5)
          have HO45 := Lib.hid (owns_below HO4.out hb5)
          clear own5 hp5 cB4
          gi_wp2_with fail
          refine ⟨trivial, (callsIn_wide.2 (f_bytesEqD HO5.out HVW5.out (framB_byte hob) (hrb.take _))).mono ?_⟩
          rintro e w' ⟨rfl, rfl⟩
          by_cases hfr : framB pre.length (ownB rs) = rs.take (12 + N)
          · rw [decide_eq_true hfr]
            have hpar := HOK.out (by rw [not_or]; exact ⟨by omega, by omega⟩) (by rw [Nat.zero_add]; exact hfr)
            have hgd : GdP w.heap.size (.slice p4 (ownB rs).length c4, ownB rs) w5 := ⟨hob, by rw [HNL.out]; omega, owns_base HO45.out (by have := HLP.out.tw.size; omega)⟩
            obtain ⟨fn, tmps, assign, body, hy, hR⟩ := HY.out pre (.slice p4 (ownB rs).length c4, ownB rs) w5 (abides_bel HJ.out HJP.out b5) hgd
            replace hy : (Instr.yield l #[.slice p4 (ownB rs).length c4]).run Tryz.prog w5 = _ := hy
            have HL5 := Lib.hid (HLP.out.below hB hq b5)
            have HPAR := Lib.hid hpar
            have HFR := Lib.hid hfr
            clear hfr hpar hgd
            gi_wp2
            refine hR.mono ?_
            rintro e W3 (⟨rfl, hJ3, hk3⟩ | ⟨rfl, hJx3⟩)
            · have HJ3 := Lib.hid hJ3
              have hL3 := HL5.out.go hB hq hk3
              have s6 := hk3.size
              have cB6 := (hk3.cell (p := ⟨B, 0, none⟩) hB (by simpa using hq)).trans cB5
              have fB6 := hL3.fr
              have HL3 := Lib.hid hL3
              have hl6 : B < W3.heap.size := by have := hL3.tw.size; omega
              have HVr := Lib.hid ((HV3.out.grown (hb4.trans (hb5.mono (by omega)))).turn hk3.size (fun ad n c e => hk3.block _ (HVA.out ad n c e).1 (by simpa using (HVA.out ad n c e).2.1)))
              clear hy hR hJ3 hk3 cB5 hL3
              have hJ6 := HJB.out _ _ (.slice a2 (rs.length - (12 + N)) (cap - (12 + N))) HJ3.out
              have ht6 : Tw w.heap.size [q, B] w (W3.setCell ⟨B, 0, none⟩ (.slice a2 (rs.length - (12 + N)) (cap - (12 + N)))) := HL3.out.tw.setCell (.inl (by simp)) _ _
              have hB6 : Byt (W3.setCell ⟨B, 0, none⟩ (.slice a2 (rs.length - (12 + N)) (cap - (12 + N)))) (.slice a2 (rs.length - (12 + N)) (cap - (12 + N))) (rs.drop (12 + N)) :=
                (HB2.out W3 rs HVr.out).turn (by simp) (fun ad n c e => by
                  simp only [Value.slice.injEq] at e
                  obtain ⟨ad0, e2, e3⟩ := HA2.out ad e.1
                  refine RowKit.Below.heap_setCell _ _ _ _ ?_
                  rw [← e3]
                  have := (HVA.out ad0 rs.length cap (by rw [e2])).2.2
                  exact this)
              have hsn := said1_snoc (pre.map Prod.snd) 0 bs (ownB rs) HSD.out (by rw [HRS.out, List.length_map]; exact HPAR.out)
              have hrn := restOf_snoc (pre.map Prod.snd) bs (ownB rs)
              rw [HRS.out, HNL.out] at hrn
              have e7 : (pre ++ [((.slice p4 (ownB rs).length c4, ownB rs) : Pt)]).map Prod.snd = pre.map Prod.snd ++ [ownB rs] := by simp
              have H7 := Lib.hid (And.intro hsn (And.intro hrn e7))
              have HB6 := Lib.hid hB6
              have HT6 := Lib.hid ht6
              have HJ6 := Lib.hid hJ6
              clear hsn hrn e7 hB6 ht6 hJ6
              gi_wp2
              refine ⟨⟨pre ++ [(.slice p4 (ownB rs).length c4, ownB rs)], by simp, HJ6.out, ?_, by rw [H7.out.2.2]; exact H7.out.1, by simp; omega⟩, by simp [intOf]; omega⟩
              rw [H7.out.2.2, H7.out.2.1]
              refine ⟨HT6.out, ⟨_, by rw [cell_set]; simp [cB6], HB6.out, fun ad n c e => ?_⟩, by rw [World.frozen?_setCell]; exact fB6⟩
              simp only [Value.slice.injEq] at e
              obtain ⟨ad0, e2, e3⟩ := HA2.out ad e.1
              rw [← e3]
              exact HVA.out ad0 rs.length cap (by rw [e2])
            · have hsn := said1_snoc (pre.map Prod.snd) 0 bs (ownB rs) HSD.out (by rw [HRS.out, List.length_map]; exact HPAR.out)
              have hpre := said1_pre _ 0 bs.length bs hsn hby (Nat.le_refl _)
              have e7 : (pre ++ [((.slice p4 (ownB rs).length c4, ownB rs) : Pt)]).map Prod.snd = pre.map Prod.snd ++ [ownB rs] := by simp
              have HP := Lib.hid (show (pre ++ [((.slice p4 (ownB rs).length c4, ownB rs) : Pt)]).map Prod.snd <+: framesL bs.length 0 bs by rw [e7]; exact hpre)
              have HJX := Lib.hid hJx3
              clear hsn hpre e7 hy hR hJx3
              gi_wp2
              exact bodyPost_ret (results_none rfl _ _ _) rfl ⟨⟨_, rfl⟩, .inr ⟨_, HP.out, HJX.out⟩⟩
          · rw [decide_eq_false hfr]
            have hE := said1_all _ 0 bs.length bs HSD.out (by rw [HRS.out, List.length_map]; exact HNE.out (by rw [not_or]; exact ⟨by omega, by omega⟩) (by rw [Nat.zero_add]; exact hfr)) hby (Nat.le_refl _)
            have HE := Lib.hid hE
            have hJ5 := abides_bel HJ.out HJP.out b5
            clear hE hfr
            gi_wp2
            refine ⟨fun _ h => (by cases h), ?_⟩
            gi_wp2
            exact bodyPost_ret (results_none rfl _ _ _) rfl ⟨⟨_, rfl⟩, .inl ⟨pre, HE.out.symm, hJ5⟩⟩
end Go.Proofs.YtkekidjjmcmjhaaGreat
