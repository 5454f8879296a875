/- The contract of quiverlaw13.ListsParts. -/
import Derived.Test.YtlfmffjlmhpcdaaPartsZ
import Derived.Test.YtlfmffjlmhpcdaaWhereZ
namespace Go.Proofs.Ytlfmffjlmhpcdaa
open Go.RowKit
set_option maxRecDepth 100000
attribute [local irreducible] Der

theorem overV_leP {cs : List PV} (h : overV cs = false) : cs.length ≤ 20 := by
  unfold overV at h
  simp only [Bool.or_eq_false_iff, decide_eq_false_iff_not] at h
  omega
/-- The places 0, 1, .. ahead of k. -/
def iK (k : Nat) : List Int := (List.range k).map fun (i : Nat) => (i : Int)
theorem iK_succ (k : Nat) : iK (k + 1) = iK k ++ [(k : Int)] := by unfold iK; rw [List.range_succ, List.map_append]; rfl
theorem iK_len (k : Nat) : (iK k).length = k := by unfold iK; simp
theorem own_box {w w1 w3 : World} {B e size n : Nat} {v : Value} {xs : List Value} (hown : w.ownsRow B e size v n xs) (hgrow : w1.grownBy w3 v.ownBlock) {p : Addr} (h1 : w.heap.size ≤ p.block) (h2 : p.block < w1.heap.size) : w3.cell? p = w1.cell? p :=
  World.cell?_of_block (w := w1) (hgrow.block p.block h2 (fun e => by have := (hown.lt _ e.symm).2; omega))
set_option maxHeartbeats 16000000 in
theorem f_ListsParts (vx vl : Value) (cells : List Cel) (cs : List PV) (w : World) (hx : CelsV w vx cells) (hc : VecsV w vl cs) :
    Calls Try.prog 6 #[.agg #[vx], vl] w fun e w' => e = .returned (.bool true) ∧ Below w.heap.size w w' := by
  obtain ⟨a, cap, rfl, -⟩ := hx.open
  obtain ⟨al, cpl, rfl, -⟩ := hc.open
  have HX := Lib.hid (fun W (hb : Below w.heap.size w W) => hx.grown hb)
  have HV := Lib.hid (fun W (hb : Below w.heap.size w W) => hc.grown hb)
  clear hx hc
  go_enter Try.func6, Try.ntmps6
  go_wp2_with fail
  refine (l13_wakes _).mono ?_
  rintro e w1 ⟨rfl, hb1⟩
  have z1w0 : w.heap.size < w1.heap.size := (by have := hb1.size; (try simp at this); omega)
  have q1w0 := fun o => hb1.cell (p := ⟨w.heap.size, o, none⟩) (by first | omega | (simp; done) | (simp; omega))
  have r1w0 := fun o => hb1.frozen (p := ⟨w.heap.size, o, none⟩) (by first | omega | (simp; done) | (simp; omega))
  have hB1 : Below w.heap.size w w1 := by ((have shb1 := hb1.size); (try simp at shb1); (repeat' (first | (with_reducible exact Below.refl _ _) | (with_reducible refine Below.setCell ?_ ?_ _) | (with_reducible refine Below.alloc ?_ ?_ _) | (with_reducible refine Below.drew ?_) | (with_reducible refine Below.trans ?_ (Below.mono hb1 ?_)) | go_size)))
  have c0_1 : w1.cell? ⟨w.heap.size, 0, none⟩ = some (.slice a cells.length cap) := by rw [q1w0]; go_simp
  clear q1w0 r1w0 hb1
  cases ho2 : overA cells
  case true =>
    go_wp2_with fail
    refine (l13_overArena _ cells _ (HX.out _ (by ((have shB1 := hB1.size); (try simp at shB1); (repeat' (first | (with_reducible exact Below.refl _ _) | (with_reducible refine Below.setCell ?_ ?_ _) | (with_reducible refine Below.alloc ?_ ?_ _) | (with_reducible refine Below.drew ?_) | (with_reducible refine Below.trans ?_ (Below.mono hB1 ?_)) | go_size)))))).mono ?_
    rintro e w2 ⟨rfl, hb2⟩
    rw [ho2]
    go_wp2
    go_ret
    exact ⟨rfl, by ((have shb2 := hb2.size); (try simp at shb2); (have shB1 := hB1.size); (try simp at shB1); (repeat' (first | (with_reducible exact Below.refl _ _) | (with_reducible refine Below.setCell ?_ ?_ _) | (with_reducible refine Below.alloc ?_ ?_ _) | (with_reducible refine Below.drew ?_) | (with_reducible refine Below.trans ?_ (Below.mono hb2 ?_)) | (with_reducible refine Below.trans ?_ (Below.mono hB1 ?_)) | go_size)))⟩
  case false =>
    go_wp2_with fail
    refine (l13_overArena _ cells _ (HX.out _ (by ((have shB1 := hB1.size); (try simp at shB1); (repeat' (first | (with_reducible exact Below.refl _ _) | (with_reducible refine Below.setCell ?_ ?_ _) | (with_reducible refine Below.alloc ?_ ?_ _) | (with_reducible refine Below.drew ?_) | (with_reducible refine Below.trans ?_ (Below.mono hB1 ?_)) | go_size)))))).mono ?_
    rintro e w2 ⟨rfl, hb2⟩
    rw [ho2]
    have hB2 : Below w.heap.size w w2 := by ((have shb2 := hb2.size); (try simp at shb2); (have shB1 := hB1.size); (try simp at shB1); (repeat' (first | (with_reducible exact Below.refl _ _) | (with_reducible refine Below.setCell ?_ ?_ _) | (with_reducible refine Below.alloc ?_ ?_ _) | (with_reducible refine Below.drew ?_) | (with_reducible refine Below.trans ?_ (Below.mono hb2 ?_)) | (with_reducible refine Below.trans ?_ (Below.mono hB1 ?_)) | go_size)))
    have c0_2 := (hb2.cell (p := ⟨w.heap.size, 0, none⟩) (by first | omega | (simp; done) | (simp; omega))).trans c0_1
    have zz0_2 : w.heap.size < w2.heap.size := (by have := hb2.size; (try simp at this); omega)
    clear c0_1
    cases ho3 : overV cs
    case true =>
      go_wp2_with fail
      refine (l13_overVecs _ cs _ (HV.out _ (by ((have shB2 := hB2.size); (try simp at shB2); (repeat' (first | (with_reducible exact Below.refl _ _) | (with_reducible refine Below.setCell ?_ ?_ _) | (with_reducible refine Below.alloc ?_ ?_ _) | (with_reducible refine Below.drew ?_) | (with_reducible refine Below.trans ?_ (Below.mono hB2 ?_)) | go_size)))))).mono ?_
      rintro e w3 ⟨rfl, hb3⟩
      rw [ho3]
      go_wp2
      go_ret
      exact ⟨rfl, by ((have shb3 := hb3.size); (try simp at shb3); (have shB2 := hB2.size); (try simp at shB2); (repeat' (first | (with_reducible exact Below.refl _ _) | (with_reducible refine Below.setCell ?_ ?_ _) | (with_reducible refine Below.alloc ?_ ?_ _) | (with_reducible refine Below.drew ?_) | (with_reducible refine Below.trans ?_ (Below.mono hb3 ?_)) | (with_reducible refine Below.trans ?_ (Below.mono hB2 ?_)) | go_size)))⟩
    case false =>
      go_wp2_with fail
      refine (l13_overVecs _ cs _ (HV.out _ (by ((have shB2 := hB2.size); (try simp at shB2); (repeat' (first | (with_reducible exact Below.refl _ _) | (with_reducible refine Below.setCell ?_ ?_ _) | (with_reducible refine Below.alloc ?_ ?_ _) | (with_reducible refine Below.drew ?_) | (with_reducible refine Below.trans ?_ (Below.mono hB2 ?_)) | go_size)))))).mono ?_
      rintro e w3 ⟨rfl, hb3⟩
      rw [ho3]
      have hB3 : Below w.heap.size w w3 := by ((have shb3 := hb3.size); (try simp at shb3); (have shB2 := hB2.size); (try simp at shB2); (repeat' (first | (with_reducible exact Below.refl _ _) | (with_reducible refine Below.setCell ?_ ?_ _) | (with_reducible refine Below.alloc ?_ ?_ _) | (with_reducible refine Below.drew ?_) | (with_reducible refine Below.trans ?_ (Below.mono hb3 ?_)) | (with_reducible refine Below.trans ?_ (Below.mono hB2 ?_)) | go_size)))
      have c0_3 := (hb3.cell (p := ⟨w.heap.size, 0, none⟩) (by first | omega | (simp; done) | (simp; omega))).trans c0_2
      have zz0_3 : w.heap.size < w3.heap.size := (by have := hb3.size; (try simp at this); omega)
      clear c0_2
      have hl1 := overV_leP ho3
      clear ho2 ho3
      go_wp2_with fail
      refine (f_build _ _ cells cs (by omega) _ (HX.out _ (by ((have shB3 := hB3.size); (try simp at shB3); (repeat' (first | (with_reducible exact Below.refl _ _) | (with_reducible refine Below.setCell ?_ ?_ _) | (with_reducible refine Below.alloc ?_ ?_ _) | (with_reducible refine Below.drew ?_) | (with_reducible refine Below.trans ?_ (Below.mono hB3 ?_)) | go_size))))) (HV.out _ (by ((have shB3 := hB3.size); (try simp at shB3); (repeat' (first | (with_reducible exact Below.refl _ _) | (with_reducible refine Below.setCell ?_ ?_ _) | (with_reducible refine Below.alloc ?_ ?_ _) | (with_reducible refine Below.drew ?_) | (with_reducible refine Below.trans ?_ (Below.mono hB3 ?_)) | go_size)))))).mono ?_
      rintro e w4 ⟨⟨x, rfl, hx⟩, hb4⟩
      have hB4 : Below w.heap.size w w4 := by ((have shb4 := hb4.size); (try simp at shb4); (have shB3 := hB3.size); (try simp at shB3); (repeat' (first | (with_reducible exact Below.refl _ _) | (with_reducible refine Below.setCell ?_ ?_ _) | (with_reducible refine Below.alloc ?_ ?_ _) | (with_reducible refine Below.drew ?_) | (with_reducible refine Below.trans ?_ (Below.mono hb4 ?_)) | (with_reducible refine Below.trans ?_ (Below.mono hB3 ?_)) | go_size)))
      have c0_4 := (hb4.cell (p := ⟨w.heap.size, 0, none⟩) (by first | omega | (simp; done) | (simp; omega))).trans c0_3
      have zz0_4 : w.heap.size < w4.heap.size := (by have := hb4.size; (try simp at this); omega)
      clear c0_3
      have HBmem := Lib.hid (fun p (hp : p ∈ buildC cells cs) => ((HV.out w (Below.refl _ _)).2 p (buildC_mem hp)).grown hB4)
      obtain ⟨xa, xc, ya, yc, rfl⟩ := hx.form
      obtain ⟨v1, v2, ev, hz1, hz2, -⟩ := hx.toV HBmem.out
      simp only [Value.agg.injEq, Array.mk.injEq, List.cons.injEq, and_true] at ev
      obtain ⟨rfl, rfl⟩ := ev
      have HZ1 := Lib.hid (fun W (hb : Below w4.heap.size w4 W) => hz1.grown hb)
      have HZ2 := Lib.hid (fun W (hb : Below w4.heap.size w4 W) => hz2.grown hb)
      clear hx hz1 hz2 HBmem
      by_cases hbad : buildE cells cs ≠ 0 ∨ cs = []
      · have HB0 := Lib.hid (build_empty hbad)
        rw [HB0.out]
        by_cases hE : buildE cells cs = 0
        · have hn : cs.length = 0 := by rcases hbad with h | h; exact absurd hE h; rw [h]; rfl
          rw [hE]
          clear hbad
          have hz : ((cs.length : Int) == 0) = true := beq_iff_eq.2 (by omega)
          go_wp2
          go_ret
          exact ⟨rfl, by ((have shB4 := hB4.size); (try simp at shB4); (repeat' (first | (with_reducible exact Below.refl _ _) | (with_reducible refine Below.setCell ?_ ?_ _) | (with_reducible refine Below.alloc ?_ ?_ _) | (with_reducible refine Below.drew ?_) | (with_reducible refine Below.trans ?_ (Below.mono hB4 ?_)) | go_size)))⟩
        · clear hbad
          obtain ⟨E, hEE⟩ : ∃ E, buildE cells cs = E := ⟨_, rfl⟩
          rw [hEE] at hE ⊢
          have hz : (E != 0) = true := bne_iff_ne.2 hE
          go_wp2
          go_ret
          exact ⟨rfl, by ((have shB4 := hB4.size); (try simp at shB4); (repeat' (first | (with_reducible exact Below.refl _ _) | (with_reducible refine Below.setCell ?_ ?_ _) | (with_reducible refine Below.alloc ?_ ?_ _) | (with_reducible refine Below.drew ?_) | (with_reducible refine Below.trans ?_ (Below.mono hB4 ?_)) | go_size)))⟩
      · have hE : buildE cells cs = 0 := by by_cases h : buildE cells cs = 0; exact h; exact absurd (.inl h) hbad
        have hn : cs ≠ [] := fun h => hbad (.inr h)
        have HOK := Lib.hid (build_zero hE hn)
        have hc0 : 0 < cs.length := List.length_pos_iff.2 hn
        have hc6 : cs.length ≤ 20 := hl1
        obtain ⟨hao, hco, hfit, hBC, hBM⟩ := HOK.out
        have HPF := Lib.hid (parts_facts hn hao hco)
        have HD := Lib.hid (fun s hs hu i hi v u => fit_dist (cs := cs) hco hao hfit (s := s) hs hu (i := i) hi v u)
        have HNP := Lib.hid (fun c => near_place hc0 c)
        have HLen := Lib.hid (arena_len hao)
        rw [hE]
        simp only [hBC, hBM] at HZ1 HZ2 ⊢
        clear hao hco hfit hBC hBM hbad hE hn HOK
        obtain ⟨ms, hms⟩ : ∃ ms, buildM cs cells cells.length = ms := ⟨_, rfl⟩
        rw [hms] at HPF HZ2 ⊢
        clear hms
        obtain ⟨N, hN⟩ : ∃ N : Int, ((usedL cells cells.length).length : Int) = N := ⟨_, rfl⟩
        rw [hN] at HPF
        clear hN
        have HML := Lib.hid HPF.out.len
        have hms20 : ms.length ≤ 20 := by have := HML.out; omega
        have HLC := Lib.hid (fun k => cntK_le ms k)
        have HLM := Lib.hid (fun m => cnt_le m)
        obtain ⟨ya', yc', ey, hl2, hm2, mcell⟩ := (HZ2.out _ (Below.refl _ _)).open
        simp only [Value.slice.injEq, true_and] at ey
        obtain ⟨rfl, rfl⟩ := ey
        have Hm := Lib.hid mcell
        clear mcell
        have hz0 : ((cs.length : Int) == 0) = false := beq_eq_false_iff_ne.2 (by omega)
        go_wp2
        clear hz0
        go_loopw [7, 8, 50] (fun v t i wr => ∃ k : Nat, k ≤ ms.length ∧ i = .int .i64 k ∧ t = .int .i64 (cntK ms k) ∧ wr.ownsRow (w4.heap.size + 1) 3 1 v k ((iK k).map (Value.int .i64)) ∧
            Below (w4.heap.size + 1) (w4.alloc (.cells #[.slice xa cs.length xc, .slice ya ms.length yc] 25)) wr ∧ w4.heap.size + 1 ≤ wr.heap.size) (fun _ _ i _ => ms.length - (intOf i).toNat)
        case atStart => exact ⟨0, by omega, rfl, rfl, World.ownsRow_nil _ _ _ _, Below.refl _ _, by simp⟩
        case round =>
          obtain ⟨k, hk, rfl, rfl, hown, hbr, hsz⟩ := hrel
          obtain ⟨v1, v2, rfl⟩ := own_slice hown
          have HO := Lib.hid hown
          clear hown
          have h4r : Below w4.heap.size w4 wr := by ((have shbr := hbr.size); (try simp at shbr); (repeat' (first | (with_reducible exact Below.refl _ _) | (with_reducible refine Below.setCell ?_ ?_ _) | (with_reducible refine Below.alloc ?_ ?_ _) | (with_reducible refine Below.drew ?_) | (with_reducible refine Below.trans ?_ (Below.mono hbr ?_)) | go_size)))
          by_cases hlt2 : k < ms.length
          · obtain ⟨g, off, rfl, hlt, g1, g2⟩ := Hm.out k hlt2
            have e1 := (h4r.cell (p := ⟨g, off + k * 2, none⟩) hlt).trans g1
            have e2 := (h4r.cell (p := ⟨g, off + k * 2 + 1, none⟩) hlt).trans g2
            have hst : cntK ms (k + 1) = cntK ms k + cntF ms[k].1 ms[k].2 := by
              have : cntK ms (k + 1) = cntK ms k + cntF (mAt ms k).1 (mAt ms k).2 := rfl
              rw [this, mAt_get hlt2]
            have hcm := HLM.out ms[k]
            clear g1 g2
            generalize ms[k] = y at *
            obtain ⟨y1, y2⟩ := y
            simp only at e1 e2 hst hcm
            obtain ⟨c, hc⟩ : ∃ c, cntF y1 y2 = c := ⟨_, rfl⟩
            have htb := HLC.out k
            rw [hc] at hst hcm
            have HC := Lib.hid hc
            have HS := Lib.hid hst
            clear hc hst
            generalize cntK ms k = T at *
            have HOa := Lib.hid ((HO.out.alloc (.cells #[.int .u64 (U y1), .int .u64 (U y2)] 49)).alloc (.cells #[.int .i64 k] 3))
            go_wp2_with (at_builtin; refine append_any rfl _ _ 46 rfl (w4.heap.size + 1) 3 (.int .i64 0) 1 8 Try.underlying46 info_int rfl (by decide) _ k _ rfl HOa.out _ 1 [.int .i64 k] rfl (Sl.fresh (wr.alloc (.cells #[.int .u64 (U y1), .int .u64 (U y2)] 49)) 3 1 [.int .i64 k] (by simp) (by omega)) (NilA.of_some _ _ _) rfl (by simp [Value.oneCell']) (by unfold maxLen; omega) (by omega) (by simp; omega) ?_; intro v' w5 hown' hgrow; refine Hid.out ?_)
            refine Lib.hid ?_
            have hb5 := ((hbr.alloc hsz _).alloc (by simp; omega) _).grown hgrow (by simp; omega) (fun r e => (HO.out.lt r e).1)
            have hs5 := hgrow.size
            simp at hs5
            have bx := own_box HO.out hgrow (p := ⟨wr.heap.size, 0, none⟩) (by simp) (by simp; omega)
            have bx0 : w5.cell? ⟨wr.heap.size, 0, none⟩ = some (.int .u64 (U y1)) := bx.trans (by go_simp)
            have by1 := own_box HO.out hgrow (p := ⟨wr.heap.size, 1, none⟩) (by simp) (by simp; omega)
            have bx1 : w5.cell? ⟨wr.heap.size, 1, none⟩ = some (.int .u64 (U y2)) := by1.trans (by go_simp)
            have HO5 := Lib.hid (show w5.ownsRow (w4.heap.size + 1) 3 1 v' (k + 1) ((iK (k + 1)).map (Value.int .i64)) from by rw [iK_succ, List.map_append]; exact hown')
            clear hown' hgrow bx by1
            go_wp2_with fail
            refine (f_Count y1 y2 _).mono ?_
            rintro e w6 ⟨rfl, hb6⟩
            rw [HC.out]
            have hs6 := hb6.size
            have hw : IntKind.i64.wrap (T + c) = T + c := by rw [IntKind.wrap_i64]; omega
            go_wp2
            go_roundw
            case rel => exact ⟨k + 1, by omega, by go_num, by rw [HS.out], owns_below HO5.out hb6, by ((have shb6 := hb6.size); (try simp at shb6); (have shb5 := hb5.size); (try simp at shb5); (repeat' (first | (with_reducible exact Below.refl _ _) | (with_reducible refine Below.setCell ?_ ?_ _) | (with_reducible refine Below.alloc ?_ ?_ _) | (with_reducible refine Below.drew ?_) | (with_reducible refine Below.trans ?_ (Below.mono hb6 ?_)) | (with_reducible refine Below.trans ?_ (Below.mono hb5 ?_)) | go_size))), by omega⟩
            case measure => simp [intOf]; omega
          · have hkm : k = cs.length := by have := HML.out; omega
            have hk20 : k ≤ 20 := by omega
            obtain ⟨wl, hwl⟩ : ∃ wl, wl = wr := ⟨_, rfl⟩
            subst hwl
            have hB5 : Below w.heap.size w wl := by ((have sh4r := h4r.size); (try simp at sh4r); (have shB4 := hB4.size); (try simp at shB4); (repeat' (first | (with_reducible exact Below.refl _ _) | (with_reducible refine Below.setCell ?_ ?_ _) | (with_reducible refine Below.alloc ?_ ?_ _) | (with_reducible refine Below.drew ?_) | (with_reducible refine Below.trans ?_ (Below.mono h4r ?_)) | (with_reducible refine Below.trans ?_ (Below.mono hB4 ?_)) | go_size)))
            have hIn := Ints.of_owns HO.out
            have hkl : (iK k).length ≤ 1000 := by rw [iK_len]; omega
            have HF := Lib.hid (fun W h1 h2 h3 => f_Union (.slice xa cs.length xc) (.slice ya ms.length yc) (.slice v1 k v2) cs ms (iK k) hkl W h1 h2 h3)
            have hue : unionE cs ms (iK k) = 0 := by rw [hkm]; exact HPF.out.ue
            have hum : unionM cs ms (iK k) = orF ms := by rw [hkm]; exact HPF.out.um
            have hT : cntK ms k = N := by rw [hkm]; exact HPF.out.all
            rw [hue, hum] at HF
            have HIn := Lib.hid hIn
            have hNs := HPF.out.small
            have HCu := Lib.hid HPF.out.cnt
            have HHas := Lib.hid HPF.out.has
            have HWh := Lib.hid HPF.out.wh
            have HFr := Lib.hid HPF.out.free
            rw [hT]
            clear hIn HO hT hue hum hkl HLC HLM Hm HPF hkm
            have zl : w4.heap.size < wl.heap.size := by omega
            have d0 : wl.cell? ⟨w4.heap.size, 0, none⟩ = some (.slice xa cs.length xc) := (hbr.cell (p := ⟨w4.heap.size, 0, none⟩) (by simp)).trans (by go_simp)
            have d1 : wl.cell? ⟨w4.heap.size, 1, none⟩ = some (.slice ya ms.length yc) := (hbr.cell (p := ⟨w4.heap.size, 1, none⟩) (by simp)).trans (by go_simp)
            have c0_5 := (h4r.cell (p := ⟨w.heap.size, 0, none⟩) zz0_4).trans c0_4
            obtain ⟨o, ho⟩ : ∃ o, orF ms = o := ⟨_, rfl⟩
            rw [ho] at HF HCu HHas
            clear ho
            obtain ⟨o1, o2⟩ := o
            go_wp2_with fail
            refine (HF.out _ (HZ1.out _ h4r) (HZ2.out _ h4r) HIn.out).mono ?_
            rintro e w6 ⟨rfl, hb6⟩
            have hs6 := hb6.size
            have hB6 : Below w.heap.size w w6 := by ((have shb6 := hb6.size); (try simp at shb6); (have shB5 := hB5.size); (try simp at shB5); (repeat' (first | (with_reducible exact Below.refl _ _) | (with_reducible refine Below.setCell ?_ ?_ _) | (with_reducible refine Below.alloc ?_ ?_ _) | (with_reducible refine Below.drew ?_) | (with_reducible refine Below.trans ?_ (Below.mono hb6 ?_)) | (with_reducible refine Below.trans ?_ (Below.mono hB5 ?_)) | go_size)))
            have h46 : Below w4.heap.size w4 w6 := by ((have shb6 := hb6.size); (try simp at shb6); (have sh4r := h4r.size); (try simp at sh4r); (repeat' (first | (with_reducible exact Below.refl _ _) | (with_reducible refine Below.setCell ?_ ?_ _) | (with_reducible refine Below.alloc ?_ ?_ _) | (with_reducible refine Below.drew ?_) | (with_reducible refine Below.trans ?_ (Below.mono hb6 ?_)) | (with_reducible refine Below.trans ?_ (Below.mono h4r ?_)) | go_size)))
            have d0_6 := (hb6.cell (p := ⟨w4.heap.size, 0, none⟩) zl).trans d0
            have d1_6 := (hb6.cell (p := ⟨w4.heap.size, 1, none⟩) zl).trans d1
            have c0_6 := (hb6.cell (p := ⟨w.heap.size, 0, none⟩) (by simp; omega)).trans c0_5
            clear d0 d1 c0_5 HF HIn
            go_wp2_with fail
            refine (f_Count o1 o2 _).mono ?_
            rintro e w7 ⟨rfl, hb7⟩
            rw [HCu.out]
            have hs7 := hb7.size
            simp at hs7
            have hb67 : Below w6.heap.size w6 w7 := by ((have shb7 := hb7.size); (try simp at shb7); (repeat' (first | (with_reducible exact Below.refl _ _) | (with_reducible refine Below.setCell ?_ ?_ _) | (with_reducible refine Below.alloc ?_ ?_ _) | (with_reducible refine Below.drew ?_) | (with_reducible refine Below.trans ?_ (Below.mono hb7 ?_)) | go_size)))
            have hB7 : Below w.heap.size w w7 := by ((have shb67 := hb67.size); (try simp at shb67); (have shB6 := hB6.size); (try simp at shB6); (repeat' (first | (with_reducible exact Below.refl _ _) | (with_reducible refine Below.setCell ?_ ?_ _) | (with_reducible refine Below.alloc ?_ ?_ _) | (with_reducible refine Below.drew ?_) | (with_reducible refine Below.trans ?_ (Below.mono hb67 ?_)) | (with_reducible refine Below.trans ?_ (Below.mono hB6 ?_)) | go_size)))
            have h47 : Below w4.heap.size w4 w7 := by ((have shb67 := hb67.size); (try simp at shb67); (have sh46 := h46.size); (try simp at sh46); (repeat' (first | (with_reducible exact Below.refl _ _) | (with_reducible refine Below.setCell ?_ ?_ _) | (with_reducible refine Below.alloc ?_ ?_ _) | (with_reducible refine Below.drew ?_) | (with_reducible refine Below.trans ?_ (Below.mono hb67 ?_)) | (with_reducible refine Below.trans ?_ (Below.mono h46 ?_)) | go_size)))
            have n0_7 : w7.cell? ⟨w6.heap.size, 0, none⟩ = some (.int .u64 (U o1)) := (hb7.cell (p := ⟨w6.heap.size, 0, none⟩) (by simp)).trans (by go_simp)
            have n1_7 : w7.cell? ⟨w6.heap.size, 1, none⟩ = some (.int .u64 (U o2)) := (hb7.cell (p := ⟨w6.heap.size, 1, none⟩) (by simp)).trans (by go_simp)
            have d0_7 := (hb67.cell (p := ⟨w4.heap.size, 0, none⟩) (by simp; omega)).trans d0_6
            have d1_7 := (hb67.cell (p := ⟨w4.heap.size, 1, none⟩) (by simp; omega)).trans d1_6
            have c0_7 := (hb67.cell (p := ⟨w.heap.size, 0, none⟩) (by simp; omega)).trans c0_6
            clear d0_6 d1_6 c0_6 hb7 hb67
            go_wp2_with fail
            refine (f_Free _ cells _ (HX.out _ (by ((have shB7 := hB7.size); (try simp at shB7); (repeat' (first | (with_reducible exact Below.refl _ _) | (with_reducible refine Below.setCell ?_ ?_ _) | (with_reducible refine Below.alloc ?_ ?_ _) | (with_reducible refine Below.drew ?_) | (with_reducible refine Below.trans ?_ (Below.mono hB7 ?_)) | go_size)))))).mono ?_
            rintro e w8 ⟨rfl, hb8⟩
            rw [HFr.out]
            have hs8 := hb8.size
            have hB8 : Below w.heap.size w w8 := by ((have shb8 := hb8.size); (try simp at shb8); (have shB7 := hB7.size); (try simp at shB7); (repeat' (first | (with_reducible exact Below.refl _ _) | (with_reducible refine Below.setCell ?_ ?_ _) | (with_reducible refine Below.alloc ?_ ?_ _) | (with_reducible refine Below.drew ?_) | (with_reducible refine Below.trans ?_ (Below.mono hb8 ?_)) | (with_reducible refine Below.trans ?_ (Below.mono hB7 ?_)) | go_size)))
            have h48 : Below w4.heap.size w4 w8 := by ((have shb8 := hb8.size); (try simp at shb8); (have sh47 := h47.size); (try simp at sh47); (repeat' (first | (with_reducible exact Below.refl _ _) | (with_reducible refine Below.setCell ?_ ?_ _) | (with_reducible refine Below.alloc ?_ ?_ _) | (with_reducible refine Below.drew ?_) | (with_reducible refine Below.trans ?_ (Below.mono hb8 ?_)) | (with_reducible refine Below.trans ?_ (Below.mono h47 ?_)) | go_size)))
            have n0_8 := (hb8.cell (p := ⟨w6.heap.size, 0, none⟩) (by simp; omega)).trans n0_7
            have n1_8 := (hb8.cell (p := ⟨w6.heap.size, 1, none⟩) (by simp; omega)).trans n1_7
            have d0_8 := (hb8.cell (p := ⟨w4.heap.size, 0, none⟩) (by simp; omega)).trans d0_7
            have d1_8 := (hb8.cell (p := ⟨w4.heap.size, 1, none⟩) (by simp; omega)).trans d1_7
            have c0_8 := (hb8.cell (p := ⟨w.heap.size, 0, none⟩) (by simp; omega)).trans c0_7
            have z6_8 : w6.heap.size < w8.heap.size := by omega
            have z4_8 : w4.heap.size < w8.heap.size := by omega
            have z0_8 : w.heap.size < w8.heap.size := by omega
            have hw1 : IntKind.i64.wrap (96 - N) = 96 - N := by rw [IntKind.wrap_i64]; omega
            have hw2 : IntKind.i64.wrap (96 - (96 - N)) = N := by rw [IntKind.wrap_i64]; omega
            clear d0_7 d1_7 c0_7 n0_7 n1_7 hs6 hs7 hs8 hb6 hb8
            go_wp2
            clear hw1 hw2
            have hl96 : cells.length ≤ 96 := by have := HLen.out; omega
            go_loopw [88] (fun i wr => ∃ k : Nat, k ≤ cells.length ∧ i = .int .i64 k ∧ Below w8.heap.size w8 wr) (fun i _ => cells.length - (intOf i).toNat)
            case atStart => exact ⟨0, by omega, rfl, Below.refl _ _⟩
            case round =>
              obtain ⟨wm, hwm⟩ : ∃ wm, wm = wr := ⟨_, rfl⟩
              subst hwm
              obtain ⟨q, hq, rfl, hbm⟩ := hrel
              have hBm : Below w.heap.size w wm := by ((have shbm := hbm.size); (try simp at shbm); (have shB8 := hB8.size); (try simp at shB8); (repeat' (first | (with_reducible exact Below.refl _ _) | (with_reducible refine Below.setCell ?_ ?_ _) | (with_reducible refine Below.alloc ?_ ?_ _) | (with_reducible refine Below.drew ?_) | (with_reducible refine Below.trans ?_ (Below.mono hbm ?_)) | (with_reducible refine Below.trans ?_ (Below.mono hB8 ?_)) | go_size)))
              by_cases hlt2 : q < cells.length
              · have h4m : Below w4.heap.size w4 wm := by ((have shbm := hbm.size); (try simp at shbm); (have sh48 := h48.size); (try simp at sh48); (repeat' (first | (with_reducible exact Below.refl _ _) | (with_reducible refine Below.setCell ?_ ?_ _) | (with_reducible refine Below.alloc ?_ ?_ _) | (with_reducible refine Below.drew ?_) | (with_reducible refine Below.trans ?_ (Below.mono hbm ?_)) | (with_reducible refine Below.trans ?_ (Below.mono h48 ?_)) | go_size)))
                have hsm := hbm.size
                have z4_m : w4.heap.size < wm.heap.size := by omega
                have z6_m : w6.heap.size < wm.heap.size := by omega
                have n0_m := (hbm.cell (p := ⟨w6.heap.size, 0, none⟩) z6_8).trans n0_8
                have n1_m := (hbm.cell (p := ⟨w6.heap.size, 1, none⟩) z6_8).trans n1_8
                have d0_m := (hbm.cell (p := ⟨w4.heap.size, 0, none⟩) z4_8).trans d0_8
                have d1_m := (hbm.cell (p := ⟨w4.heap.size, 1, none⟩) z4_8).trans d1_8
                obtain ⟨a2, cap2, e2, -, -, cc⟩ := (HX.out _ hBm).open
                simp only [Value.slice.injEq, true_and] at e2
                obtain ⟨rfl, rfl⟩ := e2
                obtain ⟨g, off, rfl, hlt, g1, g2, g3, g4, g5⟩ := cc q hlt2
                have hv := (HX.out _ hBm).2 cells[q] (List.getElem_mem hlt2)
                have hwh := HWh.out q hlt2
                have hhas := HHas.out q hlt2
                have HDq := Lib.hid (HD.out q hlt2)
                clear cc
                generalize cells[q] = c at *
                obtain ⟨used, id, cb, ce, sv, vec⟩ := c
                simp only at g1 g2 g3 g4 g5 hv hwh hhas HDq
                obtain ⟨av, cv, rfl, -⟩ := hv.form
                have HVq := Lib.hid (fun W (hb : Below wm.heap.size wm W) => hv.grown hb)
                have HFW := Lib.hid (fun W h1 h2 => f_Where (.slice xa cs.length xc) (.slice ya ms.length yc) cs ms (q : Int) (by omega) W h1 h2)
                rw [hwh] at HFW
                have HHq := Lib.hid hhas
                clear hv hwh hhas
                cases used
                · simp only [Bool.false_eq_true, if_false] at HFW
                  go_wp2_with fail
                  refine (HFW.out _ (HZ1.out _ (by ((have sh4m := h4m.size); (try simp at sh4m); (repeat' (first | (with_reducible exact Below.refl _ _) | (with_reducible refine Below.setCell ?_ ?_ _) | (with_reducible refine Below.alloc ?_ ?_ _) | (with_reducible refine Below.drew ?_) | (with_reducible refine Below.trans ?_ (Below.mono h4m ?_)) | go_size))))) (HZ2.out _ (by ((have sh4m := h4m.size); (try simp at sh4m); (repeat' (first | (with_reducible exact Below.refl _ _) | (with_reducible refine Below.setCell ?_ ?_ _) | (with_reducible refine Below.alloc ?_ ?_ _) | (with_reducible refine Below.drew ?_) | (with_reducible refine Below.trans ?_ (Below.mono h4m ?_)) | go_size)))))).mono ?_
                  rintro e w9 ⟨rfl, hb9⟩
                  have hs9 := hb9.size
                  simp at hs9
                  have hbm9 : Below wm.heap.size wm w9 := by ((have shb9 := hb9.size); (try simp at shb9); (repeat' (first | (with_reducible exact Below.refl _ _) | (with_reducible refine Below.setCell ?_ ?_ _) | (with_reducible refine Below.alloc ?_ ?_ _) | (with_reducible refine Below.drew ?_) | (with_reducible refine Below.trans ?_ (Below.mono hb9 ?_)) | go_size)))
                  have n0_9 := (hbm9.cell (p := ⟨w6.heap.size, 0, none⟩) z6_m).trans n0_m
                  have n1_9 := (hbm9.cell (p := ⟨w6.heap.size, 1, none⟩) z6_m).trans n1_m
                  have m0_9 : w9.cell? ⟨wm.heap.size, 0, none⟩ = some (.bool false) := (hb9.cell (p := ⟨wm.heap.size, 0, none⟩) (by simp)).trans (by go_simp)
                  have m4_9 : w9.cell? ⟨wm.heap.size, 4, none⟩ = some (.slice av vec.length cv) := (hb9.cell (p := ⟨wm.heap.size, 4, none⟩) (by simp)).trans (by go_simp)
                  have z6_9 : w6.heap.size < w9.heap.size := by omega
                  have zm_9 : wm.heap.size < w9.heap.size := by omega
                  clear hb9 n0_m n1_m d0_m d1_m n0_8 n1_8
                  go_wp2
                  refine wp_grow [(7, .val (.bool false))] 12 (by kernel_rfl) (by kernel_rfl) (by rfl) (by rfl) ?_
                  simp only [List.take_succ_cons, List.take_zero, List.drop_succ_cons, List.drop_zero]
                  repeat (first
                    | (apply Der.quiet; (rfl); (rfl); (intro w' hw' hctx; have hc' := bcell hw'; have ywm0 := fun o => hw'.cell (p := ⟨wm.heap.size, o, none⟩) (by first | omega | (simp; done) | (simp; omega)); have yw60 := fun o => hw'.cell (p := ⟨w6.heap.size, o, none⟩) (by first | omega | (simp; done) | (simp; omega)); clear hctx; go_simp; first | exact rfl | exact ⟨rfl, rfl⟩); simp only [Act.put, List.setIfInBounds_toArray, List.set_cons_succ, List.set_cons_zero, Nat.reduceAdd])
                    | (apply Der.skip; (rfl); simp only [Act.put, List.setIfInBounds_toArray, List.set_cons_succ, List.set_cons_zero, Nat.reduceAdd]))
                  apply Der.val
                  · rfl
                  · rfl
                  · (intro w' hw' hctx; go_simp; refine (f_Has_any o1 o2 _ _).mono ?_; rintro e w2 ⟨rfl, hb⟩; exact ⟨_, rfl, by rw [HHq.out], hb⟩)
                  simp only [Act.put, List.setIfInBounds_toArray, List.set_cons_succ, List.set_cons_zero, Nat.reduceAdd]
                  repeat (first
                    | (apply Der.quiet; (rfl); (rfl); (intro w' hw' hctx; have hc' := bcell hw'; have ywm0 := fun o => hw'.cell (p := ⟨wm.heap.size, o, none⟩) (by first | omega | (simp; done) | (simp; omega)); have yw60 := fun o => hw'.cell (p := ⟨w6.heap.size, o, none⟩) (by first | omega | (simp; done) | (simp; omega)); clear hctx; go_simp; first | exact rfl | exact ⟨rfl, rfl⟩); simp only [Act.put, List.setIfInBounds_toArray, List.set_cons_succ, List.set_cons_zero, Nat.reduceAdd])
                    | (apply Der.skip; (rfl); simp only [Act.put, List.setIfInBounds_toArray, List.set_cons_succ, List.set_cons_zero, Nat.reduceAdd]))
                  refine Der.nil (fun w10 hgw10 hctx => ?_)
                  clear hctx
                  have hb10 : Below _ _ w10 := hgw10
                  clear hgw10
                  have z10wm0 : wm.heap.size < w10.heap.size := (by have := hb10.size; (try simp at this); omega)
                  have q10wm0 := fun o => hb10.cell (p := ⟨wm.heap.size, o, none⟩) (by first | omega | (simp; done) | (simp; omega))
                  have r10wm0 := fun o => hb10.frozen (p := ⟨wm.heap.size, o, none⟩) (by first | omega | (simp; done) | (simp; omega))
                  have hs10 := hb10.size
                  simp at hs10
                  have h9_10 : Below w9.heap.size w9 w10 := by ((have shb10 := hb10.size); (try simp at shb10); (repeat' (first | (with_reducible exact Below.refl _ _) | (with_reducible refine Below.setCell ?_ ?_ _) | (with_reducible refine Below.alloc ?_ ?_ _) | (with_reducible refine Below.drew ?_) | (with_reducible refine Below.trans ?_ (Below.mono hb10 ?_)) | go_size)))
                  have hm10 : Below wm.heap.size wm w10 := by ((have sh9_10 := h9_10.size); (try simp at sh9_10); (have shbm9 := hbm9.size); (try simp at shbm9); (repeat' (first | (with_reducible exact Below.refl _ _) | (with_reducible refine Below.setCell ?_ ?_ _) | (with_reducible refine Below.alloc ?_ ?_ _) | (with_reducible refine Below.drew ?_) | (with_reducible refine Below.trans ?_ (Below.mono h9_10 ?_)) | (with_reducible refine Below.trans ?_ (Below.mono hbm9 ?_)) | go_size)))
                  have hB10 : Below w.heap.size w w10 := by ((have shm10 := hm10.size); (try simp at shm10); (have shBm := hBm.size); (try simp at shBm); (repeat' (first | (with_reducible exact Below.refl _ _) | (with_reducible refine Below.setCell ?_ ?_ _) | (with_reducible refine Below.alloc ?_ ?_ _) | (with_reducible refine Below.drew ?_) | (with_reducible refine Below.trans ?_ (Below.mono hm10 ?_)) | (with_reducible refine Below.trans ?_ (Below.mono hBm ?_)) | go_size)))
                  have m0_10 := (h9_10.cell (p := ⟨wm.heap.size, 0, none⟩) zm_9).trans m0_9
                  have m4_10 := (h9_10.cell (p := ⟨wm.heap.size, 4, none⟩) zm_9).trans m4_9
                  have zm_10 : wm.heap.size < w10.heap.size := by omega
                  clear n0_9 n1_9 m0_9 m4_9 z10wm0 q10wm0 r10wm0 hb10 h9_10 hbm9
                  go_wp2
                  go_roundw
                  case rel => exact ⟨q + 1, by omega, by go_num, by ((have shm10 := hm10.size); (try simp at shm10); (have shbm := hbm.size); (try simp at shbm); (repeat' (first | (with_reducible exact Below.refl _ _) | (with_reducible refine Below.setCell ?_ ?_ _) | (with_reducible refine Below.alloc ?_ ?_ _) | (with_reducible refine Below.drew ?_) | (with_reducible refine Below.trans ?_ (Below.mono hm10 ?_)) | (with_reducible refine Below.trans ?_ (Below.mono hbm ?_)) | go_size)))⟩
                  case measure => simp [intOf]; omega
                · simp only [if_true] at HFW
                  have hpl := (HNP.out ⟨true, id, cb, ce, .slice av vec.length cv, vec⟩)
                  simp only at hpl
                  generalize placeC cs ⟨true, id, cb, ce, .slice av vec.length cv, vec⟩ = p at *
                  obtain ⟨hp, hnear⟩ := hpl
                  have HNear := Lib.hid (fun i hi => hnear i hi hp)
                  have HVD := Lib.hid (fun (i : Nat) (hi : i < cs.length) W (h1 : VecV W cs[i].1 cs[i].2) (h2 : VecV W (.slice av vec.length cv) vec) => (f_vecDist cs[i].1 (.slice av vec.length cv) cs[i].2 vec W h1 h2).mono (fun e w' h => (show e = .returned (.tuple #[.int .u64 (distL cs[i].2 vec), .int .i64 0]) ∧ Below W.heap.size W w' from ⟨by
                    have h0 := (HDq.out rfl i hi cs[i].1 (.slice av vec.length cv)).1
                    rw [h.1, h0, if_pos rfl], h.2⟩)))
                  have HBd := Lib.hid (fun (i : Nat) (hi : i < cs.length) => (HDq.out rfl i hi cs[i].1 (.slice av vec.length cv)).2)
                  clear hnear
                  go_wp2_with fail
                  refine (HFW.out _ (HZ1.out _ (by ((have sh4m := h4m.size); (try simp at sh4m); (repeat' (first | (with_reducible exact Below.refl _ _) | (with_reducible refine Below.setCell ?_ ?_ _) | (with_reducible refine Below.alloc ?_ ?_ _) | (with_reducible refine Below.drew ?_) | (with_reducible refine Below.trans ?_ (Below.mono h4m ?_)) | go_size))))) (HZ2.out _ (by ((have sh4m := h4m.size); (try simp at sh4m); (repeat' (first | (with_reducible exact Below.refl _ _) | (with_reducible refine Below.setCell ?_ ?_ _) | (with_reducible refine Below.alloc ?_ ?_ _) | (with_reducible refine Below.drew ?_) | (with_reducible refine Below.trans ?_ (Below.mono h4m ?_)) | go_size)))))).mono ?_
                  rintro e w9 ⟨rfl, hb9⟩
                  have hs9 := hb9.size
                  simp at hs9
                  have hbm9 : Below wm.heap.size wm w9 := by ((have shb9 := hb9.size); (try simp at shb9); (repeat' (first | (with_reducible exact Below.refl _ _) | (with_reducible refine Below.setCell ?_ ?_ _) | (with_reducible refine Below.alloc ?_ ?_ _) | (with_reducible refine Below.drew ?_) | (with_reducible refine Below.trans ?_ (Below.mono hb9 ?_)) | go_size)))
                  have n0_9 := (hbm9.cell (p := ⟨w6.heap.size, 0, none⟩) z6_m).trans n0_m
                  have n1_9 := (hbm9.cell (p := ⟨w6.heap.size, 1, none⟩) z6_m).trans n1_m
                  have m0_9 : w9.cell? ⟨wm.heap.size, 0, none⟩ = some (.bool true) := (hb9.cell (p := ⟨wm.heap.size, 0, none⟩) (by simp)).trans (by go_simp)
                  have m4_9 : w9.cell? ⟨wm.heap.size, 4, none⟩ = some (.slice av vec.length cv) := (hb9.cell (p := ⟨wm.heap.size, 4, none⟩) (by simp)).trans (by go_simp)
                  have z6_9 : w6.heap.size < w9.heap.size := by omega
                  have zm_9 : wm.heap.size < w9.heap.size := by omega
                  clear hb9 n0_m n1_m d0_m d1_m n0_8 n1_8
                  go_wp2
                  refine wp_grow [(7, .val (.bool true))] 12 (by kernel_rfl) (by kernel_rfl) (by rfl) (by rfl) ?_
                  simp only [List.take_succ_cons, List.take_zero, List.drop_succ_cons, List.drop_zero]
                  repeat (first
                    | (apply Der.quiet; (rfl); (rfl); (intro w' hw' hctx; have hc' := bcell hw'; have ywm0 := fun o => hw'.cell (p := ⟨wm.heap.size, o, none⟩) (by first | omega | (simp; done) | (simp; omega)); have yw60 := fun o => hw'.cell (p := ⟨w6.heap.size, o, none⟩) (by first | omega | (simp; done) | (simp; omega)); clear hctx; go_simp; first | exact rfl | exact ⟨rfl, rfl⟩); simp only [Act.put, List.setIfInBounds_toArray, List.set_cons_succ, List.set_cons_zero, Nat.reduceAdd])
                    | (apply Der.skip; (rfl); simp only [Act.put, List.setIfInBounds_toArray, List.set_cons_succ, List.set_cons_zero, Nat.reduceAdd]))
                  apply Der.val
                  · rfl
                  · rfl
                  · (intro w' hw' hctx; go_simp; refine (f_Has_any o1 o2 _ _).mono ?_; rintro e w2 ⟨rfl, hb⟩; exact ⟨_, rfl, by rw [HHq.out], hb⟩)
                  simp only [Act.put, List.setIfInBounds_toArray, List.set_cons_succ, List.set_cons_zero, Nat.reduceAdd]
                  repeat (first
                    | (apply Der.quiet; (rfl); (rfl); (intro w' hw' hctx; have hc' := bcell hw'; have ywm0 := fun o => hw'.cell (p := ⟨wm.heap.size, o, none⟩) (by first | omega | (simp; done) | (simp; omega)); have yw60 := fun o => hw'.cell (p := ⟨w6.heap.size, o, none⟩) (by first | omega | (simp; done) | (simp; omega)); clear hctx; go_simp; first | exact rfl | exact ⟨rfl, rfl⟩); simp only [Act.put, List.setIfInBounds_toArray, List.set_cons_succ, List.set_cons_zero, Nat.reduceAdd])
                    | (apply Der.skip; (rfl); simp only [Act.put, List.setIfInBounds_toArray, List.set_cons_succ, List.set_cons_zero, Nat.reduceAdd]))
                  refine Der.nil (fun w10 hgw10 hctx => ?_)
                  clear hctx
                  have hb10 : Below _ _ w10 := hgw10
                  clear hgw10
                  have z10wm0 : wm.heap.size < w10.heap.size := (by have := hb10.size; (try simp at this); omega)
                  have q10wm0 := fun o => hb10.cell (p := ⟨wm.heap.size, o, none⟩) (by first | omega | (simp; done) | (simp; omega))
                  have r10wm0 := fun o => hb10.frozen (p := ⟨wm.heap.size, o, none⟩) (by first | omega | (simp; done) | (simp; omega))
                  have hs10 := hb10.size
                  simp at hs10
                  have h9_10 : Below w9.heap.size w9 w10 := by ((have shb10 := hb10.size); (try simp at shb10); (repeat' (first | (with_reducible exact Below.refl _ _) | (with_reducible refine Below.setCell ?_ ?_ _) | (with_reducible refine Below.alloc ?_ ?_ _) | (with_reducible refine Below.drew ?_) | (with_reducible refine Below.trans ?_ (Below.mono hb10 ?_)) | go_size)))
                  have hm10 : Below wm.heap.size wm w10 := by ((have sh9_10 := h9_10.size); (try simp at sh9_10); (have shbm9 := hbm9.size); (try simp at shbm9); (repeat' (first | (with_reducible exact Below.refl _ _) | (with_reducible refine Below.setCell ?_ ?_ _) | (with_reducible refine Below.alloc ?_ ?_ _) | (with_reducible refine Below.drew ?_) | (with_reducible refine Below.trans ?_ (Below.mono h9_10 ?_)) | (with_reducible refine Below.trans ?_ (Below.mono hbm9 ?_)) | go_size)))
                  have hB10 : Below w.heap.size w w10 := by ((have shm10 := hm10.size); (try simp at shm10); (have shBm := hBm.size); (try simp at shBm); (repeat' (first | (with_reducible exact Below.refl _ _) | (with_reducible refine Below.setCell ?_ ?_ _) | (with_reducible refine Below.alloc ?_ ?_ _) | (with_reducible refine Below.drew ?_) | (with_reducible refine Below.trans ?_ (Below.mono hm10 ?_)) | (with_reducible refine Below.trans ?_ (Below.mono hBm ?_)) | go_size)))
                  have m0_10 := (h9_10.cell (p := ⟨wm.heap.size, 0, none⟩) zm_9).trans m0_9
                  have m4_10 := (h9_10.cell (p := ⟨wm.heap.size, 4, none⟩) zm_9).trans m4_9
                  have zm_10 : wm.heap.size < w10.heap.size := by omega
                  clear n0_9 n1_9 m0_9 m4_9 z10wm0 q10wm0 r10wm0 hb10 h9_10 hbm9
                  obtain ⟨al', cpl', el, -, -, lc⟩ := (HV.out _ hB10).open
                  simp only [Value.slice.injEq, true_and] at el
                  obtain ⟨rfl, rfl⟩ := el
                  obtain ⟨gl, ol, rfl, hltl, gp⟩ := lc p hp
                  have hvp := (HV.out _ hB10).2 cs[p] (List.getElem_mem hp)
                  have HVDp := Lib.hid (HVD.out p hp)
                  have HBp := HBd.out p hp
                  clear lc
                  generalize hcp : cs[p] = cp at *
                  obtain ⟨vp, lp⟩ := cp
                  simp only at gp hvp HVDp HBp
                  obtain ⟨ap, cap_p, rfl, -⟩ := hvp.form
                  have HVp := Lib.hid (fun W (hb : Below w10.drew.heap.size w10.drew W) => hvp.grown ((Below.refl _ _).drew.trans hb))
                  have HVq2 := Lib.hid (fun W (hb : Below w10.drew.heap.size w10.drew W) => HVq.out W (hm10.trans (((Below.refl w10.heap.size w10).drew.trans hb).mono hm10.size)))
                  obtain ⟨D, hD⟩ : ∃ D, distL lp vec = D := ⟨_, rfl⟩
                  have HNear2 := Lib.hid (show ∀ i (hi : i < cs.length), D ≤ distL cs[i].2 vec ∧ (distL cs[i].2 vec = D → p ≤ i) from fun i hi => by
                    have h := HNear.out i hi
                    rw [← hD]
                    exact h)
                  rw [hD] at HVDp HBp
                  clear hD hcp hvp HNear
                  go_wp2
                  refine wp_grow [(7, .val (.tuple #[.int .u64 D, .int .i64 0]))] 13 (by kernel_rfl) (by kernel_rfl) (by rfl) (by rfl) ?_
                  simp only [List.take_succ_cons, List.take_zero, List.drop_succ_cons, List.drop_zero]
                  repeat (first
                    | (apply Der.quiet; (rfl); (rfl); (intro w' hw' hctx; have hc' := bcell hw'; have ywm0 := fun o => hw'.cell (p := ⟨wm.heap.size, o, none⟩) (by first | omega | (simp; done) | (simp; omega)); have yl := hw'.cell (p := ⟨gl, ol + p, none⟩) (by first | omega | (simp; omega)); clear hctx; go_simp; first | exact rfl | exact ⟨rfl, rfl⟩); simp only [Act.put, List.setIfInBounds_toArray, List.set_cons_succ, List.set_cons_zero, Nat.reduceAdd])
                    | (apply Der.skip; (rfl); simp only [Act.put, List.setIfInBounds_toArray, List.set_cons_succ, List.set_cons_zero, Nat.reduceAdd]))
                  apply Der.val
                  · rfl
                  · rfl
                  · (intro w' hw' hctx; go_simp; refine (HVDp.out _ (HVp.out _ hw') (HVq2.out _ hw')).mono ?_; rintro e w2 ⟨rfl, hb⟩; exact ⟨_, rfl, rfl, hb⟩)
                  simp only [Act.put, List.setIfInBounds_toArray, List.set_cons_succ, List.set_cons_zero, Nat.reduceAdd]
                  repeat (first
                    | (apply Der.quiet; (rfl); (rfl); (intro w' hw' hctx; have hc' := bcell hw'; have ywm0 := fun o => hw'.cell (p := ⟨wm.heap.size, o, none⟩) (by first | omega | (simp; done) | (simp; omega)); clear hctx; go_simp; first | exact rfl | exact ⟨rfl, rfl⟩); simp only [Act.put, List.setIfInBounds_toArray, List.set_cons_succ, List.set_cons_zero, Nat.reduceAdd])
                    | (apply Der.skip; (rfl); simp only [Act.put, List.setIfInBounds_toArray, List.set_cons_succ, List.set_cons_zero, Nat.reduceAdd]))
                  refine Der.nil (fun w11 hgw11 hctx => ?_)
                  clear hctx
                  have hb11 : Below _ _ w11 := hgw11
                  clear hgw11
                  have z11wm0 : wm.heap.size < w11.heap.size := (by have := hb11.size; (try simp at this); omega)
                  have q11wm0 := fun o => hb11.cell (p := ⟨wm.heap.size, o, none⟩) (by first | omega | (simp; done) | (simp; omega))
                  have r11wm0 := fun o => hb11.frozen (p := ⟨wm.heap.size, o, none⟩) (by first | omega | (simp; done) | (simp; omega))
                  have hs11 := hb11.size
                  simp at hs11
                  have h10_11 : Below w10.heap.size w10 w11 := by ((have shb11 := hb11.size); (try simp at shb11); (repeat' (first | (with_reducible exact Below.refl _ _) | (with_reducible refine Below.setCell ?_ ?_ _) | (with_reducible refine Below.alloc ?_ ?_ _) | (with_reducible refine Below.drew ?_) | (with_reducible refine Below.trans ?_ (Below.mono hb11 ?_)) | go_size)))
                  have hm11 : Below wm.heap.size wm w11 := by ((have sh10_11 := h10_11.size); (try simp at sh10_11); (have shm10 := hm10.size); (try simp at shm10); (repeat' (first | (with_reducible exact Below.refl _ _) | (with_reducible refine Below.setCell ?_ ?_ _) | (with_reducible refine Below.alloc ?_ ?_ _) | (with_reducible refine Below.drew ?_) | (with_reducible refine Below.trans ?_ (Below.mono h10_11 ?_)) | (with_reducible refine Below.trans ?_ (Below.mono hm10 ?_)) | go_size)))
                  have hB11 : Below w.heap.size w w11 := by ((have shm11 := hm11.size); (try simp at shm11); (have shBm := hBm.size); (try simp at shBm); (repeat' (first | (with_reducible exact Below.refl _ _) | (with_reducible refine Below.setCell ?_ ?_ _) | (with_reducible refine Below.alloc ?_ ?_ _) | (with_reducible refine Below.drew ?_) | (with_reducible refine Below.trans ?_ (Below.mono hm11 ?_)) | (with_reducible refine Below.trans ?_ (Below.mono hBm ?_)) | go_size)))
                  have m4_11 := (h10_11.cell (p := ⟨wm.heap.size, 4, none⟩) zm_10).trans m4_10
                  have zm_11 : wm.heap.size < w11.heap.size := by omega
                  clear m0_10 m4_10 z11wm0 q11wm0 r11wm0 hb11 h10_11
                  go_wp2
                  go_loopw [129] (fun i wr => ∃ j : Nat, j ≤ cs.length ∧ i = .int .i64 j ∧ Below w11.heap.size w11 wr) (fun i _ => cs.length - (intOf i).toNat)
                  case atStart => exact ⟨0, by omega, rfl, Below.refl _ _⟩
                  case round =>
                    obtain ⟨j, hj, rfl, hbr2⟩ := hrel
                    have hBr : Below w.heap.size w wr := by ((have shbr2 := hbr2.size); (try simp at shbr2); (have shB11 := hB11.size); (try simp at shB11); (repeat' (first | (with_reducible exact Below.refl _ _) | (with_reducible refine Below.setCell ?_ ?_ _) | (with_reducible refine Below.alloc ?_ ?_ _) | (with_reducible refine Below.drew ?_) | (with_reducible refine Below.trans ?_ (Below.mono hbr2 ?_)) | (with_reducible refine Below.trans ?_ (Below.mono hB11 ?_)) | go_size)))
                    have hmr : Below wm.heap.size wm wr := by ((have shbr2 := hbr2.size); (try simp at shbr2); (have shm11 := hm11.size); (try simp at shm11); (repeat' (first | (with_reducible exact Below.refl _ _) | (with_reducible refine Below.setCell ?_ ?_ _) | (with_reducible refine Below.alloc ?_ ?_ _) | (with_reducible refine Below.drew ?_) | (with_reducible refine Below.trans ?_ (Below.mono hbr2 ?_)) | (with_reducible refine Below.trans ?_ (Below.mono hm11 ?_)) | go_size)))
                    by_cases hlt3 : j < cs.length
                    · have m4_r := (hbr2.cell (p := ⟨wm.heap.size, 4, none⟩) zm_11).trans m4_11
                      obtain ⟨al', cpl', el, -, -, lc⟩ := (HV.out _ hBr).open
                      simp only [Value.slice.injEq, true_and] at el
                      obtain ⟨el1, rfl⟩ := el
                      subst el1
                      obtain ⟨gj, oj, ej, hltj, gp'⟩ := lc j hlt3
                      have hvj := (HV.out _ hBr).2 cs[j] (List.getElem_mem hlt3)
                      have HVDj := Lib.hid (HVD.out j hlt3)
                      have hn := HNear2.out j hlt3
                      have hbd := HBd.out j hlt3
                      clear lc
                      simp only [Option.some.injEq, Addr.mk.injEq, and_true] at ej
                      obtain ⟨rfl, rfl⟩ := ej
                      generalize cs[j] = cj at *
                      obtain ⟨vj, lj⟩ := cj
                      simp only at gp' hvj HVDj hn hbd
                      obtain ⟨aj, cap_j, rfl, -⟩ := hvj.form
                      have HVj := Lib.hid hvj
                      obtain ⟨F, hF⟩ : ∃ F, distL lj vec = F := ⟨_, rfl⟩
                      rw [hF] at HVDj hn hbd
                      clear hF hvj
                      go_wp2_with fail
                      refine (HVDj.out _ HVj.out (HVq.out _ (by ((have shmr := hmr.size); (try simp at shmr); (repeat' (first | (with_reducible exact Below.refl _ _) | (with_reducible refine Below.setCell ?_ ?_ _) | (with_reducible refine Below.alloc ?_ ?_ _) | (with_reducible refine Below.drew ?_) | (with_reducible refine Below.trans ?_ (Below.mono hmr ?_)) | go_size)))))).mono ?_
                      rintro e w12 ⟨rfl, hb12⟩
                      have hd1 : decide (F < D) = false := decide_eq_false (by omega)
                      by_cases hFD : F = D
                      · have hd2 : ¬ j < p := by have := hn.2 hFD; omega
                        have hd3 : decide (j < p) = false := decide_eq_false hd2
                        subst hFD
                        clear hn
                        go_wp2
                        go_roundw
                        case rel => exact ⟨j + 1, by omega, by go_num, by ((have shb12 := hb12.size); (try simp at shb12); (have shbr2 := hbr2.size); (try simp at shbr2); (repeat' (first | (with_reducible exact Below.refl _ _) | (with_reducible refine Below.setCell ?_ ?_ _) | (with_reducible refine Below.alloc ?_ ?_ _) | (with_reducible refine Below.drew ?_) | (with_reducible refine Below.trans ?_ (Below.mono hb12 ?_)) | (with_reducible refine Below.trans ?_ (Below.mono hbr2 ?_)) | go_size)))⟩
                        case measure => simp [intOf]; omega
                      · have hd2 : (F == D) = false := beq_eq_false_iff_ne.2 hFD
                        go_wp2
                        go_roundw
                        case rel => exact ⟨j + 1, by omega, by go_num, by ((have shb12 := hb12.size); (try simp at shb12); (have shbr2 := hbr2.size); (try simp at shbr2); (repeat' (first | (with_reducible exact Below.refl _ _) | (with_reducible refine Below.setCell ?_ ?_ _) | (with_reducible refine Below.alloc ?_ ?_ _) | (with_reducible refine Below.drew ?_) | (with_reducible refine Below.trans ?_ (Below.mono hb12 ?_)) | (with_reducible refine Below.trans ?_ (Below.mono hbr2 ?_)) | go_size)))⟩
                        case measure => simp [intOf]; omega
                    · go_wp2
                      go_roundw
                      case rel => exact ⟨q + 1, by omega, by go_num, by ((have shbr2 := hbr2.size); (try simp at shbr2); (have shm11 := hm11.size); (try simp at shm11); (have shbm := hbm.size); (try simp at shbm); (repeat' (first | (with_reducible exact Below.refl _ _) | (with_reducible refine Below.setCell ?_ ?_ _) | (with_reducible refine Below.alloc ?_ ?_ _) | (with_reducible refine Below.drew ?_) | (with_reducible refine Below.trans ?_ (Below.mono hbr2 ?_)) | (with_reducible refine Below.trans ?_ (Below.mono hm11 ?_)) | (with_reducible refine Below.trans ?_ (Below.mono hbm ?_)) | go_size)))⟩
                      case measure => simp [intOf]; omega
              · go_wp2
                go_ret
                exact ⟨rfl, by ((have shBm := hBm.size); (try simp at shBm); (repeat' (first | (with_reducible exact Below.refl _ _) | (with_reducible refine Below.setCell ?_ ?_ _) | (with_reducible refine Below.alloc ?_ ?_ _) | (with_reducible refine Below.drew ?_) | (with_reducible refine Below.trans ?_ (Below.mono hBm ?_)) | go_size)))⟩
end Go.Proofs.Ytlfmffjlmhpcdaa
