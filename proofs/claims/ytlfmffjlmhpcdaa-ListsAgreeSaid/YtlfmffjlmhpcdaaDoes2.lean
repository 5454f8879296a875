/- lists.Remove; the document's Without. -/
import Derived.Test.YtlfmffjlmhpcdaaDoes
namespace Go.Proofs.Ytlfmffjlmhpcdaa
open Go.RowKit
set_option maxRecDepth 100000
attribute [local irreducible] Der

/-- A mask without the slots of another one, as mask.Minus says it. -/
def minusM (g m : M) : M := ((m.1 &&& ~~~g.1) &&& ones, (m.2 &&& ~~~g.2) &&& low32)
theorem c_remove (B i : Nat) (m g : M) (w : World) (h0 : w.cell? ⟨B, 0, none⟩ = some (.int .u64 (U g.1))) (h1 : w.cell? ⟨B, 1, none⟩ = some (.int .u64 (U g.2))) :
    Calls Try.prog 70 #[.int .i64 (i : Int), MV m.1 m.2, .pointer (some ⟨B, 0, none⟩)] w fun e w' => e = .returned (MV (minusM g m).1 (minusM g m).2) ∧ Below w.heap.size w w' := by
  obtain ⟨m1, m2⟩ := m
  obtain ⟨g1, g2⟩ := g
  have l1 : B < w.heap.size := World.block_lt_of_cell? w _ h0
  simp only at h0 h1
  go_enter Try.func70, Try.ntmps70
  go_wp2_with fail
  refine (f_Minus _ _ _ _ _).mono ?_
  rintro e w1 ⟨rfl, hb1⟩
  have z1w0 : w.heap.size < w1.heap.size := (by have := hb1.size; (try simp at this); omega)
  have q1w0 := fun o => hb1.cell (p := ⟨w.heap.size, o, none⟩) (by first | omega | (simp; done) | (simp; omega))
  have r1w0 := fun o => hb1.frozen (p := ⟨w.heap.size, o, none⟩) (by first | omega | (simp; done) | (simp; omega))
  have z1w1 : w.heap.size + 1 < w1.heap.size := (by have := hb1.size; (try simp at this); omega)
  have q1w1 := fun o => hb1.cell (p := ⟨w.heap.size + 1, o, none⟩) (by first | omega | (simp; done) | (simp; omega))
  have r1w1 := fun o => hb1.frozen (p := ⟨w.heap.size + 1, o, none⟩) (by first | omega | (simp; done) | (simp; omega))
  go_wp2
  refine bodyPost_ret (v := MV ((m1 &&& ~~~g1) &&& ones) ((m2 &&& ~~~g2) &&& low32)) (by simp only [results, Try.results70]; go_simp) rfl ⟨rfl, ?_⟩
  ((have shb1 := hb1.size); (try simp at shb1); (repeat' (first | (with_reducible exact Below.refl _ _) | (with_reducible refine Below.setCell ?_ ?_ _) | (with_reducible refine Below.alloc ?_ ?_ _) | (with_reducible refine Below.drew ?_) | (with_reducible refine Below.trans ?_ (Below.mono hb1 ?_)) | go_size)))
theorem enters_remove : ∀ args w, (callFunc 70 args).run Try.prog w = .ok (.enter 70 args) w := enters_of Try.func70 (by kernel_rfl) rfl
def remE (cs : List PV) (ms : List M) (l : List Int) : Int := if listsOK cs ms = false then 230 else (ofF l).2
def remC (cs : List PV) (ms : List M) (l : List Int) : List PV := if remE cs ms l = 0 then cs else []
def remM (cs : List PV) (ms : List M) (l : List Int) : List M := if remE cs ms l = 0 then withL (fun _ m => minusM (ofF l).1 m) ms ms.length else []
def RemPost (cs : List PV) (ms : List M) (l : List Int) (B : Nat) (e : Ending) (w' : World) : Prop := ∃ x, e = .returned (.tuple #[x, .int .i64 (remE cs ms l)]) ∧ ListsO B w' x (remC cs ms l) (remM cs ms l)
theorem rem_nil {cs : List PV} {ms : List M} {l : List Int} {E : Int} (h : remE cs ms l = E) (h2 : E ≠ 0) (B : Nat) (w' : World) : RemPost cs ms l B (.returned (.tuple #[nilL, .int .i64 E])) w' := by
  refine ⟨nilL, by rw [h], ?_⟩
  have hc : remC cs ms l = [] := by unfold remC; rw [if_neg (by rw [h]; exact h2)]
  have hm : remM cs ms l = [] := by unfold remM; rw [if_neg (by rw [h]; exact h2)]
  rw [hc, hm]
  exact nilL_O _ _
theorem ofF_two (l : List Int) : (ofF l).2 = 0 ∨ (ofF l).2 = 2 := by unfold ofF; split; exact .inl rfl; exact .inr rfl
set_option maxHeartbeats 8000000 in
theorem f_Remove (vc vm vv : Value) (cs : List PV) (ms : List M) (l : List Int) (hms : ms.length ≤ 1000) (hcl : cs.length ≤ 1000) (w : World) (hc : VecsV w vc cs) (hm : Masks w vm ms) (hv : Ints w vv l) :
    Calls Try.prog 31 #[.agg #[vc, vm], vv] w fun e w' => RemPost cs ms l w.heap.size e w' ∧ Below w.heap.size w w' := by
  obtain ⟨a, cap, rfl, -⟩ := hc.open
  obtain ⟨a', cap', rfl, -⟩ := hm.open
  obtain ⟨a2, cap2, rfl, -⟩ := hv.open
  have HC := Lib.hid (fun W (hb : Below w.heap.size w W) => hc.grown hb)
  have HM := Lib.hid (fun W (hb : Below w.heap.size w W) => hm.grown hb)
  have HV := Lib.hid (fun W (hb : Below w.heap.size w W) => hv.grown hb)
  clear hc hm hv
  go_enter Try.func31, Try.ntmps31
  go_wp2_with fail
  refine (f_listsCheck _ _ cs ms _ (HC.out _ (by ((repeat' (first | (with_reducible exact Below.refl _ _) | (with_reducible refine Below.setCell ?_ ?_ _) | (with_reducible refine Below.alloc ?_ ?_ _) | (with_reducible refine Below.drew ?_) | (with_reducible refine Below.trans ?_ (Below.mono (by assumption) ?_)) | go_size))))) (HM.out _ (by ((repeat' (first | (with_reducible exact Below.refl _ _) | (with_reducible refine Below.setCell ?_ ?_ _) | (with_reducible refine Below.alloc ?_ ?_ _) | (with_reducible refine Below.drew ?_) | (with_reducible refine Below.trans ?_ (Below.mono (by assumption) ?_)) | go_size)))))).mono ?_
  rintro e w1 ⟨rfl, hb1⟩
  have z1w0 : w.heap.size < w1.heap.size := (by have := hb1.size; (try simp at this); omega)
  have q1w0 := fun o => hb1.cell (p := ⟨w.heap.size, o, none⟩) (by first | omega | (simp; done) | (simp; omega))
  have r1w0 := fun o => hb1.frozen (p := ⟨w.heap.size, o, none⟩) (by first | omega | (simp; done) | (simp; omega))
  have z1w1 : w.heap.size + 1 < w1.heap.size := (by have := hb1.size; (try simp at this); omega)
  have q1w1 := fun o => hb1.cell (p := ⟨w.heap.size + 1, o, none⟩) (by first | omega | (simp; done) | (simp; omega))
  have r1w1 := fun o => hb1.frozen (p := ⟨w.heap.size + 1, o, none⟩) (by first | omega | (simp; done) | (simp; omega))
  have hB1 : Below w.heap.size w w1 := by ((have shb1 := hb1.size); (try simp at shb1); (repeat' (first | (with_reducible exact Below.refl _ _) | (with_reducible refine Below.setCell ?_ ?_ _) | (with_reducible refine Below.alloc ?_ ?_ _) | (with_reducible refine Below.drew ?_) | (with_reducible refine Below.trans ?_ (Below.mono hb1 ?_)) | go_size)))
  have BX1 := Lib.hid (show Box6 w1 w.heap.size (.slice a cs.length cap) (.slice a' ms.length cap') from ⟨by rw [q1w0]; go_simp, by rw [q1w0]; go_simp, by rw [q1w1]; go_simp, by rw [q1w1]; go_simp, by rw [r1w1]; go_simp, by rw [r1w1]; go_simp, z1w1⟩)
  clear q1w0 q1w1 r1w0 r1w1 hb1 z1w0 z1w1
  obtain ⟨c0, c1, r0, r1, f0, f1, zz⟩ := BX1.out
  have z0 : w.heap.size < w1.heap.size := by omega
  cases hok : listsOK cs ms
  · have HP := Lib.hid (fun W => rem_nil (l := l) (show remE cs ms l = 230 by unfold remE; rw [if_pos hok]) (by decide) w.heap.size W)
    have HL := Lib.hid (show listsE cs ms = 230 by unfold listsE; rw [hok]; rfl)
    rw [HL.out]
    clear hok
    go_wp2
    refine bodyPost_ret (v := .tuple #[nilL, .int .i64 230]) (by simp only [results, Try.results31]; unfold nilL; go_simp) rfl ⟨HP.out _, ?_⟩
    ((have shB1 := hB1.size); (try simp at shB1); (repeat' (first | (with_reducible exact Below.refl _ _) | (with_reducible refine Below.setCell ?_ ?_ _) | (with_reducible refine Below.alloc ?_ ?_ _) | (with_reducible refine Below.drew ?_) | (with_reducible refine Below.trans ?_ (Below.mono hB1 ?_)) | go_size)))
  · have HRE := Lib.hid (show remE cs ms l = (ofF l).2 by unfold remE; rw [if_neg (by rw [hok]; decide)])
    have HL := Lib.hid (show listsE cs ms = 0 by unfold listsE; rw [hok]; rfl)
    rw [HL.out]
    clear hok
    go_wp2_with fail
    refine (f_Of _ l _ (HV.out _ hB1)).mono ?_
    rintro e w2 ⟨he, hb2⟩
    unfold OfPost at he
    subst he
    have hB2 : Below w.heap.size w w2 := by ((have shb2 := hb2.size); (try simp at shb2); (have shB1 := hB1.size); (try simp at shB1); (repeat' (first | (with_reducible exact Below.refl _ _) | (with_reducible refine Below.setCell ?_ ?_ _) | (with_reducible refine Below.alloc ?_ ?_ _) | (with_reducible refine Below.drew ?_) | (with_reducible refine Below.trans ?_ (Below.mono hb2 ?_)) | (with_reducible refine Below.trans ?_ (Below.mono hB1 ?_)) | go_size)))
    have BX2 := Lib.hid (BX1.out.go hb2)
    clear c0 c1 r0 r1 f0 f1 z0 zz BX1
    obtain ⟨c0, c1, r0, r1, f0, f1, zz⟩ := BX2.out
    have z0 : w.heap.size < w2.heap.size := by omega
    have h02 := ofF_two l
    have HRC := Lib.hid (show remE cs ms l = 0 → remC cs ms l = cs ∧ remM cs ms l = withL (fun _ m => minusM (ofF l).1 m) ms ms.length from fun h => by unfold remC remM; rw [if_pos h, if_pos h]; exact ⟨rfl, rfl⟩)
    obtain ⟨o, ho⟩ : ∃ o, ofF l = o := ⟨_, rfl⟩
    rw [ho] at h02 HRC HRE ⊢
    clear ho
    obtain ⟨⟨o1, o2⟩, E⟩ := o
    simp only at h02 HRC HRE ⊢
    by_cases hE : E = 0
    · subst hE
      have hR := HRC.out HRE.out
      have HRM := Lib.hid hR
      clear hR HRC h02
      have hD : DoesOn 70 #[.pointer (some ⟨w2.heap.size, 0, none⟩)] (fun _ m => minusM (o1, o2) m) ms (w2.alloc (.cells #[.int .u64 (U o1), .int .u64 (U o2)] 49)) := fun i hi W hW =>
        c_remove w2.heap.size i ms[i] (o1, o2) W ((hW.cell (p := ⟨w2.heap.size, 0, none⟩) (by simp)).trans (by go_simp)) ((hW.cell (p := ⟨w2.heap.size, 1, none⟩) (by simp)).trans (by go_simp))
      have HW := Lib.hid (f_listsWith _ _ enters_remove (fun _ m => minusM (o1, o2) m) _ _ cs ms hcl hms _ (HC.out _ (by ((have shB2 := hB2.size); (try simp at shB2); (repeat' (first | (with_reducible exact Below.refl _ _) | (with_reducible refine Below.setCell ?_ ?_ _) | (with_reducible refine Below.alloc ?_ ?_ _) | (with_reducible refine Below.drew ?_) | (with_reducible refine Below.trans ?_ (Below.mono hB2 ?_)) | go_size))))) (HM.out _ (by ((have shB2 := hB2.size); (try simp at shB2); (repeat' (first | (with_reducible exact Below.refl _ _) | (with_reducible refine Below.setCell ?_ ?_ _) | (with_reducible refine Below.alloc ?_ ?_ _) | (with_reducible refine Below.drew ?_) | (with_reducible refine Below.trans ?_ (Below.mono hB2 ?_)) | go_size))))) hD)
      clear hD
      go_wp2_with fail
      refine HW.out.mono ?_
      rintro e w3 ⟨⟨x, rfl, hx⟩, hb3⟩
      have hb23 : Below w2.heap.size w2 w3 := by ((have shb3 := hb3.size); (try simp at shb3); (repeat' (first | (with_reducible exact Below.refl _ _) | (with_reducible refine Below.setCell ?_ ?_ _) | (with_reducible refine Below.alloc ?_ ?_ _) | (with_reducible refine Below.drew ?_) | (with_reducible refine Below.trans ?_ (Below.mono hb3 ?_)) | go_size)))
      have hB3 : Below w.heap.size w w3 := by ((have shb23 := hb23.size); (try simp at shb23); (have shB2 := hB2.size); (try simp at shB2); (repeat' (first | (with_reducible exact Below.refl _ _) | (with_reducible refine Below.setCell ?_ ?_ _) | (with_reducible refine Below.alloc ?_ ?_ _) | (with_reducible refine Below.drew ?_) | (with_reducible refine Below.trans ?_ (Below.mono hb23 ?_)) | (with_reducible refine Below.trans ?_ (Below.mono hB2 ?_)) | go_size)))
      have BX3 := Lib.hid (BX2.out.go hb23)
      have zz2 : w.heap.size + 1 < w2.heap.size := zz
      clear c0 c1 r0 r1 f0 f1 z0 zz BX2
      have HX := Lib.hid hx
      obtain ⟨xa, xc, xa', xc', rfl⟩ := hx.form
      clear hx HW
      obtain ⟨c0, c1, r0, r1, f0, f1, zz⟩ := BX3.out
      go_wp2
      refine bodyPost_ret (v := .tuple #[.agg #[.slice xa cs.length xc, .slice xa' (withL (fun _ m => minusM (o1, o2) m) ms ms.length).length xc'], .int .i64 0]) (by simp only [results, Try.results31]; go_simp) rfl ⟨⟨_, by rw [HRE.out], ?_⟩, ?_⟩
      · rw [HRM.out.1, HRM.out.2]
        exact ((HX.out.setCell (by simp; omega) _).setCell (by simp; omega) _).weaken (by simp; omega)
      · ((have shB3 := hB3.size); (try simp at shB3); (repeat' (first | (with_reducible exact Below.refl _ _) | (with_reducible refine Below.setCell ?_ ?_ _) | (with_reducible refine Below.alloc ?_ ?_ _) | (with_reducible refine Below.drew ?_) | (with_reducible refine Below.trans ?_ (Below.mono hB3 ?_)) | go_size)))
    · have hE2 : E = 2 := by rcases h02 with h | h; exact absurd h hE; exact h
      subst hE2
      have HP := Lib.hid (fun W => rem_nil HRE.out (by decide) w.heap.size W)
      clear h02 hE HRC
      go_wp2
      refine bodyPost_ret (v := .tuple #[nilL, .int .i64 2]) (by simp only [results, Try.results31]; unfold nilL; go_simp) rfl ⟨HP.out _, ?_⟩
      ((have shB2 := hB2.size); (try simp at shB2); (repeat' (first | (with_reducible exact Below.refl _ _) | (with_reducible refine Below.setCell ?_ ?_ _) | (with_reducible refine Below.alloc ?_ ?_ _) | (with_reducible refine Below.drew ?_) | (with_reducible refine Below.trans ?_ (Below.mono hB2 ?_)) | go_size)))

/-- A mask without one slot, as the document says it. -/
def lessM (s : Int) (m : M) : M := ofAll (withoutL m s 96)
set_option maxHeartbeats 8000000 in
theorem r13Without (vc vm : Value) (cs : List PV) (ms : List M) (s : Int) (h1000 : ms.length ≤ 1000) (w : World) (hc : VecsV w vc cs) (hm : Masks w vm ms) :
    Calls Try.prog 36 #[.agg #[vc, vm], .int .i64 s] w fun e w' =>
      (∃ v, e = .returned (.agg #[vc, v]) ∧ w'.ownsRow w.heap.size 49 2 v ms.length (cellsM (withL (fun _ m => lessM s m) ms ms.length))) ∧ Below w.heap.size w w' := by
  obtain ⟨a, cap, rfl, -⟩ := hc.open
  obtain ⟨a', cap', rfl, hl2, hm2, hcell⟩ := hm.open
  have Hc := Lib.hid hcell
  have HS := Lib.hid (fun k => withL_succ (fun _ m => lessM s m) ms k)
  clear hc hcell hm
  go_enter Try.func36, Try.ntmps36
  go_wp2
  go_loopw [5, 6] (fun v i wr => ∃ k : Nat, k ≤ ms.length ∧ i = .int .i64 k ∧ wr.ownsRow (w.heap.size + 1 + 1) 49 2 v k (cellsM (withL (fun _ m => lessM s m) ms k)) ∧
      Below (w.heap.size + 1 + 1) ((w.alloc (.cells #[.slice a cs.length cap, .slice a' ms.length cap'] 25)).alloc (.cells #[.slice none 0 0, .slice none 0 0] 25)) wr ∧ w.heap.size + 1 + 1 ≤ wr.heap.size) (fun _ i _ => ms.length - (intOf i).toNat)
  case atStart => exact ⟨0, Nat.zero_le _, rfl, World.ownsRow_nil _ _ _ _, Below.refl _ _, by simp⟩
  case round =>
    obtain ⟨k, hk, rfl, hown, hbr, hsz⟩ := hrel
    obtain ⟨v1, v2, rfl⟩ := own_slice hown
    have HO := Lib.hid hown
    clear hown
    have hBr : Below w.heap.size w wr := by ((have shbr := hbr.size); (try simp at shbr); (repeat' (first | (with_reducible exact Below.refl _ _) | (with_reducible refine Below.setCell ?_ ?_ _) | (with_reducible refine Below.alloc ?_ ?_ _) | (with_reducible refine Below.drew ?_) | (with_reducible refine Below.trans ?_ (Below.mono hbr ?_)) | go_size)))
    have c0 : wr.cell? ⟨w.heap.size, 0, none⟩ = some (.slice a cs.length cap) := (hbr.cell (p := ⟨w.heap.size, 0, none⟩) (by simp; omega)).trans (by go_simp)
    have c1 : wr.cell? ⟨w.heap.size, 1, none⟩ = some (.slice a' ms.length cap') := (hbr.cell (p := ⟨w.heap.size, 1, none⟩) (by simp; omega)).trans (by go_simp)
    by_cases hlt2 : k < ms.length
    · obtain ⟨g, off, rfl, hlt, g1, g2⟩ := Hc.out k hlt2
      have e1 := (hBr.cell (p := ⟨g, off + k * 2, none⟩) hlt).trans g1
      have e2 := (hBr.cell (p := ⟨g, off + k * 2 + 1, none⟩) hlt).trans g2
      have hS := HS.out k
      rw [mAt_get hlt2] at hS
      have HSk := Lib.hid hS
      clear g1 g2 hS
      generalize ms[k] = y at *
      obtain ⟨y1, y2⟩ := y
      simp only at e1 e2
      have hz : (ofAll (withoutL (y1, y2) s 96)) = lessM s (y1, y2) := rfl
      obtain ⟨Z, hZ⟩ : ∃ Z, lessM s (y1, y2) = Z := ⟨_, rfl⟩
      rw [hZ] at HSk
      have HWo := Lib.hid (fun W => r_Without y1 y2 s W)
      rw [hz, hZ] at HWo
      clear hz hZ
      obtain ⟨z1, z2⟩ := Z
      go_wp2_with fail
      refine (HWo.out _).mono ?_
      rintro e w3 ⟨rfl, hb3⟩
      have HO3 := Lib.hid ((owns_below HO.out hb3).alloc (.cells #[.int .u64 (U z1), .int .u64 (U z2)] 49))
      have hs3 := hb3.size
      go_wp2_with (at_builtin; refine append_any rfl _ _ 23 rfl (w.heap.size + 1 + 1) 49 (.agg #[.int .u64 0, .int .u64 0]) 2 16 Try.underlying23 info_mask' rfl (by decide) _ k _ rfl HO3.out _ 1 [.int .u64 (U z1), .int .u64 (U z2)] rfl (Sl.fresh w3 49 1 [.int .u64 (U z1), .int .u64 (U z2)] (by simp) (by omega)) (NilA.of_some _ _ _) rfl (cellsM_one' [(z1, z2)]) (by unfold maxLen; omega) (by omega) (by simp; omega) ?_; intro v' w4 hown' hgrow; refine Hid.out ?_)
      refine Lib.hid ?_
      have hbr3 : Below (w.heap.size + 1 + 1) ((w.alloc (.cells #[.slice (some ⟨g, off, none⟩) ms.length cap', .slice (some ⟨g, off, none⟩) ms.length cap'] 25)).alloc (.cells #[.slice none 0 0, .slice none 0 0] 25)) w3 → True := fun _ => trivial
      have hb13 := hbr.trans (hb3.mono hsz)
      have hb4 := (hb13.alloc (by omega) _).grown hgrow (by simp; omega) (fun r e => ((owns_below HO.out hb3).lt r e).1)
      have hs4 := hgrow.size
      simp at hs4
      have HO4 := Lib.hid (show w4.ownsRow (w.heap.size + 1 + 1) 49 2 v' (k + 1) (cellsM (withL (fun _ m => lessM s m) ms (k + 1))) from by rw [HSk.out, cellsM_append]; exact hown')
      clear hown' hgrow hbr3
      go_wp2
      go_roundw
      case rel => exact ⟨k + 1, by omega, by go_num, HO4.out, hb4, by omega⟩
      case measure => simp [intOf]; omega
    · have : k = ms.length := by omega
      subst this
      have z1r : w.heap.size + 1 < wr.heap.size := by omega
      have r0 : wr.cell? ⟨w.heap.size + 1, 0, none⟩ = some (.slice none 0 0) := (hbr.cell (p := ⟨w.heap.size + 1, 0, none⟩) (by simp)).trans (by go_simp)
      have r1 : wr.cell? ⟨w.heap.size + 1, 1, none⟩ = some (.slice none 0 0) := (hbr.cell (p := ⟨w.heap.size + 1, 1, none⟩) (by simp)).trans (by go_simp)
      have f0 : wr.frozen? ⟨w.heap.size + 1, 0, none⟩ = false := (hbr.frozen (p := ⟨w.heap.size + 1, 0, none⟩) (by simp)).trans (by go_simp)
      have f1 : wr.frozen? ⟨w.heap.size + 1, 1, none⟩ = false := (hbr.frozen (p := ⟨w.heap.size + 1, 1, none⟩) (by simp)).trans (by go_simp)
      go_wp2
      refine bodyPost_ret (v := .agg #[.slice a cs.length cap, .slice v1 ms.length v2]) (by simp only [results, Try.results36]; go_simp) rfl ⟨⟨_, rfl, ?_⟩, ?_⟩
      · exact own_weaken (own_setCell (own_setCell HO.out (by omega) _) (by omega) _) (by omega)
      · ((have shBr := hBr.size); (try simp at shBr); (repeat' (first | (with_reducible exact Below.refl _ _) | (with_reducible refine Below.setCell ?_ ?_ _) | (with_reducible refine Below.alloc ?_ ?_ _) | (with_reducible refine Below.drew ?_) | (with_reducible refine Below.trans ?_ (Below.mono hBr ?_)) | go_size)))
end Go.Proofs.Ytlfmffjlmhpcdaa
