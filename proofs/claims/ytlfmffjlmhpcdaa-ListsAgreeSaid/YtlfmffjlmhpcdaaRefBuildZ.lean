/- quiverref13.With: a slot more in one mask. -/
import Derived.Test.YtlfmffjlmhpcdaaBuildZ
import Derived.Test.YtlfmffjlmhpcdaaRefZ
import Derived.Test.YtlfmffjlmhpcdaaWhereZ
namespace Go.Proofs.Ytlfmffjlmhpcdaa
open Go.RowKit
set_option maxRecDepth 100000
attribute [local irreducible] Der

theorem flat_set2 {l : List M} {k : Nat} (h : k < l.length) (m : M) : ((cellsM l).set (k * 2) (.int .u64 (U m.1))).set (k * 2 + 1) (.int .u64 (U m.2)) = cellsM (l.set k m) := by
  unfold cellsM
  induction l generalizing k with
  | nil => simp at h
  | cons x l ih =>
    cases k with
    | zero => simp [List.flatMap_cons]
    | succ k =>
      have hk : k < l.length := by simpa using h
      rw [List.set_cons_succ, List.flatMap_cons, List.flatMap_cons, ← ih hk]
      have e0 : (k + 1) * 2 = (k * 2) + 2 := by omega
      simp only [e0, List.cons_append, List.nil_append, List.set_cons_succ]
theorem withL_set (p : Nat) (s : Int) (ms : List M) (hp : p < ms.length) : withL (putD p s) ms ms.length = ms.set p (ms[p].1 ||| bit0 s, ms[p].2 ||| bit1 s) := by
  apply List.ext_getElem
  · simp [withL]
  · intro i h1 h2
    have hi : i < ms.length := by simpa using h2
    have e : (withL (putD p s) ms ms.length)[i] = putD p s i (mAt ms i) := by simp [withL]
    rw [e, mAt_get hi, List.getElem_set]
    unfold putD
    by_cases hip : i = p
    · subst hip; simp
    · rw [if_neg hip, if_neg (fun e => hip e.symm)]
set_option maxHeartbeats 2000000 in
theorem r13With (vc vm : Value) (cs : List PV) (ms : List M) (p : Nat) (s : Int) (hp : p < ms.length) (hs : isSlot s) (h1000 : ms.length ≤ 1000) (w : World) (hc : VecsV w vc cs) (hm : Masks w vm ms) (hn : NilA vm) :
    Calls Try.prog 34 #[.agg #[vc, vm], .int .i64 (p : Int), .int .i64 s] w fun e w' =>
      (∃ v, e = .returned (.agg #[vc, v]) ∧ w'.ownsRow w.heap.size 49 2 v ms.length (cellsM (withL (putD p s) ms ms.length))) ∧ Below w.heap.size w w' := by
  rw [withL_set p s ms hp]
  obtain ⟨a, cap, rfl, -⟩ := hc.open
  obtain ⟨a', cap', rfl, -⟩ := hm.open
  have hflat : (cellsM ms).length = ms.length * 2 := by rw [cellsM_length]; omega
  obtain ⟨g1, g2⟩ := cellsM_get ms p hp
  have HS := Lib.hid (flat_set2 hp (ms[p].1 ||| bit0 s, ms[p].2 ||| bit1 s))
  generalize ms[p] = y at *
  obtain ⟨y1, y2⟩ := y
  simp only at g1 g2
  obtain ⟨W0, hW0⟩ : ∃ W0, W0 = ((w.alloc (.cells #[.slice a cs.length cap, .slice a' ms.length cap'] 25)).alloc (.cells #[.slice none 0 0, .slice none 0 0] 25)) := ⟨_, rfl⟩
  have hs0 : W0.heap.size = w.heap.size + 1 + 1 := by rw [hW0]; simp
  have k0 : (W0.alloc (.cells #[] 49)).cell? ⟨w.heap.size, 0, none⟩ = some (.slice a cs.length cap) := by rw [hW0]; clear hW0; go_simp
  have k1 : (W0.alloc (.cells #[] 49)).cell? ⟨w.heap.size + 1, 0, none⟩ = some (.slice none 0 0) := by rw [hW0]; clear hW0; go_simp
  have k2 : (W0.alloc (.cells #[] 49)).cell? ⟨w.heap.size + 1, 1, none⟩ = some (.slice none 0 0) := by rw [hW0]; clear hW0; go_simp
  have k3 : (W0.alloc (.cells #[] 49)).frozen? ⟨w.heap.size + 1, 0, none⟩ = false := by rw [hW0]; clear hW0; go_simp
  have k4 : (W0.alloc (.cells #[] 49)).frozen? ⟨w.heap.size + 1, 1, none⟩ = false := by rw [hW0]; clear hW0; go_simp
  have hB0 : Below w.heap.size w W0 := by rw [hW0]; ((repeat' (first | (with_reducible exact Below.refl _ _) | (with_reducible refine Below.setCell ?_ ?_ _) | (with_reducible refine Below.alloc ?_ ?_ _) | (with_reducible refine Below.drew ?_) | (with_reducible refine Below.trans ?_ (Below.mono (by assumption) ?_)) | go_size)))
  have own := World.ownsRow_lit (base := w.heap.size + 1 + 1) (size := 2) (e := 49) W0 #[] 0 (by omega) (by decide) rfl
  have hB1 : Below w.heap.size w (W0.alloc (.cells #[] 49)) := hB0.alloc hB0.size _
  have HSl := Lib.hid (Sl.grown hm hB1)
  have HN := Lib.hid hn
  clear hc hm hn
  rw [hs0] at own
  have hsz : (W0.alloc (.cells #[] 49)).heap.size = w.heap.size + 3 := by simp; omega
  clear hs0 hB0
  subst hW0
  have HK := Lib.hid (And.intro k0 (And.intro k1 (And.intro k2 (And.intro k3 (And.intro k4 hsz)))))
  clear k0 k1 k2 k3 k4 hsz
  have HB1 := Lib.hid hB1
  have HG := Lib.hid (And.intro g1 g2)
  clear hB1 g1 g2
  go_enter Try.func34, Try.ntmps34
  go_wp2_with (at_builtin; refine append_any rfl _ _ 23 rfl (w.heap.size + 1 + 1) 49 (.agg #[.int .u64 0, .int .u64 0]) 2 16 Try.underlying23 info_mask' rfl (by decide) _ 0 _ rfl own _ ms.length (cellsM ms) rfl HSl.out HN.out hflat (cellsM_one' _) (by unfold maxLen; omega) (by omega) (by first | (simp; done) | (simp; omega)) ?_; intro v' w2 hown' hgrow; refine Hid.out ?_)
  refine Lib.hid ?_
  obtain ⟨k0, k1, k2, k3, k4, hsz⟩ := HK.out
  rw [Nat.zero_add, List.nil_append] at hown'
  obtain ⟨g, cp, rfl⟩ := own_addr hown' (by omega)
  have hg := (hown'.lt g rfl)
  have hne : ∀ r, some (w.heap.size + 1 + 1) = some r → ∀ b, b < w.heap.size + 2 → b ≠ r := fun r e b hb => by have e2 : w.heap.size + 1 + 1 = r := Option.some.inj e; omega
  have j0 := (own_cell hgrow (p := ⟨w.heap.size, 0, none⟩) (by rw [hsz]; simp) (fun r e => hne r e _ (by simp))).trans k0
  have j1 := (own_cell hgrow (p := ⟨w.heap.size + 1, 0, none⟩) (by rw [hsz]; simp) (fun r e => hne r e _ (by simp))).trans k1
  have j2 := (own_cell hgrow (p := ⟨w.heap.size + 1, 1, none⟩) (by rw [hsz]; simp) (fun r e => hne r e _ (by simp))).trans k2
  have j3 := (own_frozen hgrow (p := ⟨w.heap.size + 1, 0, none⟩) (by rw [hsz]; simp) (fun r e => hne r e _ (by simp))).trans k3
  have j4 := (own_frozen hgrow (p := ⟨w.heap.size + 1, 1, none⟩) (by rw [hsz]; simp) (fun r e => hne r e _ (by simp))).trans k4
  have hB2 : Below w.heap.size w w2 := HB1.out.grown hgrow (by rw [hsz]; omega) (fun r e => by have e2 : w.heap.size + 1 + 1 = r := Option.some.inj e; omega)
  have hs2 := hgrow.size
  rw [hsz] at hs2
  have HO := Lib.hid hown'
  have hx0 : w2.cell? ⟨g, p * 2, none⟩ = some (.int .u64 (U y1)) := (hown'.cellAt (p * 2) (by omega)).trans (by rw [Nat.mul_comm]; exact HG.out.1)
  have hx1 : w2.cell? ⟨g, p * 2 + 1, none⟩ = some (.int .u64 (U y2)) := (hown'.cellAt (p * 2 + 1) (by omega)).trans (by rw [Nat.mul_comm]; exact HG.out.2)
  have hgw : w.heap.size + 2 ≤ g := hg.1
  have hg2 := hg.2
  clear hgrow hown' hne k0 k1 k2 k3 k4 hsz hg
  go_wp2_with fail
  refine (r_With y1 y2 s hs.1 hs.2 _).mono ?_
  rintro e w3 ⟨rfl, hb3⟩
  have z3w0 : w.heap.size < w3.heap.size := (by have := hb3.size; (try simp at this); omega)
  have q3w0 := fun o => hb3.cell (p := ⟨w.heap.size, o, none⟩) (by first | omega | (simp; done) | (simp; omega))
  have r3w0 := fun o => hb3.frozen (p := ⟨w.heap.size, o, none⟩) (by first | omega | (simp; done) | (simp; omega))
  have z3w1 : w.heap.size + 1 < w3.heap.size := (by have := hb3.size; (try simp at this); omega)
  have q3w1 := fun o => hb3.cell (p := ⟨w.heap.size + 1, o, none⟩) (by first | omega | (simp; done) | (simp; omega))
  have r3w1 := fun o => hb3.frozen (p := ⟨w.heap.size + 1, o, none⟩) (by first | omega | (simp; done) | (simp; omega))
  have h30 := (hb3.cell (p := ⟨w.heap.size, 0, none⟩) (by simp; omega)).trans j0
  have h31 := (hb3.cell (p := ⟨w.heap.size + 1, 0, none⟩) (by simp; omega)).trans j1
  have h32 := (hb3.cell (p := ⟨w.heap.size + 1, 1, none⟩) (by simp; omega)).trans j2
  have h33 := (hb3.frozen (p := ⟨w.heap.size + 1, 0, none⟩) (by simp; omega)).trans j3
  have h34 := (hb3.frozen (p := ⟨w.heap.size + 1, 1, none⟩) (by simp; omega)).trans j4
  have HO3 := Lib.hid (owns_below HO.out hb3)
  have hx2 : w3.cell? ⟨g, p * 2, none⟩ = some (.int .u64 (U y1)) := (HO3.out.cellAt (p * 2) (by omega)).trans (by rw [Nat.mul_comm]; exact HG.out.1)
  have hx3 : w3.cell? ⟨g, p * 2 + 1, none⟩ = some (.int .u64 (U y2)) := (HO3.out.cellAt (p * 2 + 1) (by omega)).trans (by rw [Nat.mul_comm]; exact HG.out.2)
  have hfr := fun j => HO3.out.frozenAt j
  have HW := Lib.hid ((HO3.out.stored (p * 2) (.int .u64 (U (y1 ||| bit0 s)))).1.stored (p * 2 + 1) (.int .u64 (U (y2 ||| bit1 s)))).1
  rw [HS.out] at HW
  clear j0 j1 j2 j3 j4 hx0 hx1 q3w0 q3w1 r3w0 r3w1
  go_wp2
  refine bodyPost_ret (v := .agg #[.slice a cs.length cap, .slice (some ⟨g, 0, none⟩) ms.length cp]) (by simp only [results, Try.results34]; go_simp) rfl ⟨⟨_, rfl, own_weaken (own_setCell (own_setCell HW.out (by omega) _) (by omega) _) (by omega)⟩, ?_⟩
  ((have shb3 := hb3.size); (try simp at shb3); (have shB2 := hB2.size); (try simp at shB2); (repeat' (first | (with_reducible exact Below.refl _ _) | (with_reducible refine Below.setCell ?_ ?_ _) | (with_reducible refine Below.alloc ?_ ?_ _) | (with_reducible refine Below.drew ?_) | (with_reducible refine Below.trans ?_ (Below.mono hb3 ?_)) | (with_reducible refine Below.trans ?_ (Below.mono hB2 ?_)) | go_size)))
end Go.Proofs.Ytlfmffjlmhpcdaa

/- quiverref13.Build. -/
namespace Go.Proofs.Ytlfmffjlmhpcdaa
open Go.RowKit
set_option maxRecDepth 100000
attribute [local irreducible] Der

def fitsC (cs : List PV) (c : Cel) : Bool := !c.used || (decide (cs.length = 0) || fitC cs c)
def RefBuildPost (vl : Value) (cells : List Cel) (cs : List PV) (B : Nat) (e : Ending) (w' : World) : Prop :=
  if cells.all (fitsC cs) = false then e = .returned (.tuple #[nilL, .bool false])
  else ∃ y, e = .returned (.tuple #[.agg #[vl, y], .bool true]) ∧ w'.ownsRow B 49 2 y cs.length (cellsM (buildM cs cells cells.length))
theorem fits_no {cells : List Cel} {cs : List PV} {k : Nat} (h : k < cells.length) (hf : fitsC cs cells[k] = false) : cells.all (fitsC cs) = false :=
  List.all_eq_false.2 ⟨cells[k], List.getElem_mem h, by simp [hf]⟩
theorem take_fits {cells : List Cel} {cs : List PV} {k : Nat} (h : ∀ c ∈ cells.take k, fitsC cs c = true) (hk : k < cells.length) (hf : fitsC cs cells[k] = true) : ∀ c ∈ cells.take (k + 1), fitsC cs c = true := by
  intro c hc
  rw [List.take_succ_eq_append_getElem hk] at hc
  rcases List.mem_append.1 hc with h1 | h1
  · exact h c h1
  · rw [List.mem_singleton.1 h1]; exact hf
theorem buildM_none {cs : List PV} (h : cs.length = 0) (cells : List Cel) (k : Nat) : buildM cs cells k = [] := List.length_eq_zero_iff.1 (by rw [buildM_length]; exact h)
set_option maxHeartbeats 8000000 in
theorem r13Build (vx vl : Value) (cells : List Cel) (cs : List PV) (hcl : cs.length ≤ 1000) (hao : arenaOK cells = true) (hve : vecsE cs = 0) (w : World) (hx : CelsV w vx cells) (hc : VecsV w vl cs) :
    Calls Try.prog 22 #[.agg #[vx], vl] w fun e w' => RefBuildPost vl cells cs w.heap.size e w' ∧ Below w.heap.size w w' := by
  obtain ⟨a, cap, rfl, hl1, hm1, hcell⟩ := hx.open
  obtain ⟨b, cbp, rfl, hl2, hm2, vcell⟩ := hc.open
  have Hc := Lib.hid hcell
  have Hv := Lib.hid vcell
  have HF0 := Lib.hid (fun (h : 0 < cs.length) => (hc.2 cs[0] (List.getElem_mem h)).form)
  have HD0 := Lib.hid (fun h => dim0_get (l := cs) h)
  have HX := Lib.hid (fun W (hb : Below w.heap.size w W) => hx.grown hb)
  have HV := Lib.hid (fun W (hb : Below w.heap.size w W) => hc.grown hb)
  have HAO := Lib.hid hao
  have HVE := Lib.hid hve
  have HMl := Lib.hid (fun k => buildM_length cs cells k)
  clear hx hc hcell hao hve vcell
  have hW0s : ((w.alloc (.cells #[.slice a cells.length cap] 37)).alloc (.cells #[.slice none 0 0, .slice none 0 0] 25)).heap.size = w.heap.size + 1 + 1 := by simp
  have HR := Lib.hid (run_make_masks ((w.alloc (.cells #[.slice a cells.length cap] 37)).alloc (.cells #[.slice none 0 0, .slice none 0 0] 25)) cs.length (w.heap.size + 1 + 1) hcl (by rw [hW0s]; omega))
  rw [hW0s] at HR
  go_enter Try.func22, Try.ntmps22
  obtain ⟨w1, hr, ho, hb1⟩ := HR.out
  clear hW0s
  have hB1 : Below w.heap.size w w1 := by ((have shb1 := hb1.size); (try simp at shb1); (repeat' (first | (with_reducible exact Below.refl _ _) | (with_reducible refine Below.setCell ?_ ?_ _) | (with_reducible refine Below.alloc ?_ ?_ _) | (with_reducible refine Below.drew ?_) | (with_reducible refine Below.trans ?_ (Below.mono hb1 ?_)) | go_size)))
  have hs1 := hb1.size
  have k0 : w1.cell? ⟨w.heap.size, 0, none⟩ = some (.slice a cells.length cap) := (hb1.cell (p := ⟨w.heap.size, 0, none⟩) (by simp; omega)).trans (by go_simp)
  have k1 : w1.cell? ⟨w.heap.size + 1, 0, none⟩ = some (.slice none 0 0) := (hb1.cell (p := ⟨w.heap.size + 1, 0, none⟩) (by simp)).trans (by go_simp)
  have k2 : w1.cell? ⟨w.heap.size + 1, 1, none⟩ = some (.slice none 0 0) := (hb1.cell (p := ⟨w.heap.size + 1, 1, none⟩) (by simp)).trans (by go_simp)
  have k3 : w1.frozen? ⟨w.heap.size + 1, 0, none⟩ = false := (hb1.frozen (p := ⟨w.heap.size + 1, 0, none⟩) (by simp)).trans (by go_simp)
  have k4 : w1.frozen? ⟨w.heap.size + 1, 1, none⟩ = false := (hb1.frozen (p := ⟨w.heap.size + 1, 1, none⟩) (by simp)).trans (by go_simp)
  have hne1 := (ho.lt (w.heap.size + 1 + 1) rfl).2
  have HO := Lib.hid ho
  clear ho
  have HO0 := Lib.hid (HO.out.alloc (.cells #[.slice b cs.length cbp, .slice (some ⟨w.heap.size + 1 + 1, 0, none⟩) cs.length cs.length] 25))
  go_wp2
  go_loopw [7] (fun i wr => ∃ (j : Nat) (y : Value), j ≤ cells.length ∧ i = .int .i64 j ∧ wr.cell? ⟨w1.heap.size, 0, none⟩ = some (.slice b cs.length cbp) ∧ wr.cell? ⟨w1.heap.size, 1, none⟩ = some y ∧ wr.frozen? ⟨w1.heap.size, 0, none⟩ = false ∧ wr.frozen? ⟨w1.heap.size, 1, none⟩ = false ∧
    wr.ownsRow (w.heap.size + 1 + 1) 49 2 y cs.length (cellsM (buildM cs cells j)) ∧ y.ownBlock ≠ some w1.heap.size ∧ (∀ c ∈ cells.take j, fitsC cs c = true) ∧ Below w1.heap.size w1 wr ∧ w1.heap.size < wr.heap.size) (fun i _ => cells.length - (intOf i).toNat)
  case atStart =>
    refine ⟨0, .slice (some ⟨w.heap.size + 1 + 1, 0, none⟩) cs.length cs.length, Nat.zero_le _, rfl, by go_simp, by go_simp, by go_simp, by go_simp, HO0.out, ?_, by simp, by ((repeat' (first | (with_reducible exact Below.refl _ _) | (with_reducible refine Below.setCell ?_ ?_ _) | (with_reducible refine Below.alloc ?_ ?_ _) | (with_reducible refine Below.drew ?_) | (with_reducible refine Below.trans ?_ (Below.mono (by assumption) ?_)) | go_size))), by simp⟩
    intro e
    have e2 : w.heap.size + 1 + 1 = w1.heap.size := Option.some.inj e
    omega
  case round =>
    obtain ⟨j, y, hj, rfl, n0, n1, m0, m1, hown, hne, hfit, hbr, hsz⟩ := hrel
    obtain ⟨y1, y2, rfl⟩ := own_slice hown
    have hBr : Below w.heap.size w wr := by ((have shbr := hbr.size); (try simp at shbr); (have shB1 := hB1.size); (try simp at shB1); (repeat' (first | (with_reducible exact Below.refl _ _) | (with_reducible refine Below.setCell ?_ ?_ _) | (with_reducible refine Below.alloc ?_ ?_ _) | (with_reducible refine Below.drew ?_) | (with_reducible refine Below.trans ?_ (Below.mono hbr ?_)) | (with_reducible refine Below.trans ?_ (Below.mono hB1 ?_)) | go_size)))
    have j0 := (hbr.cell (p := ⟨w.heap.size, 0, none⟩) (by simp; omega)).trans k0
    have HOr := Lib.hid hown
    have HNE := Lib.hid hne
    have HF := Lib.hid hfit
    clear hown hne hfit
    by_cases hlt2 : j < cells.length
    · obtain ⟨b0, off, rfl, hlt, g1, -, -, -, g5⟩ := Hc.out j hlt2
      have e1 := (hBr.cell (p := ⟨b0, off + j * 5, none⟩) hlt).trans g1
      have e5 := (hBr.cell (p := ⟨b0, off + j * 5 + 4, none⟩) hlt).trans g5
      have HVj := Lib.hid (fun W hb => (HX.out W hb).2 cells[j] (List.getElem_mem hlt2))
      have HOK := Lib.hid (cell_ok HAO.out hlt2)
      have HBu := Lib.hid (fun hu => buildM_used (cs := cs) hlt2 hu)
      have HBf := Lib.hid (fun hu => buildM_free (cs := cs) hlt2 hu)
      have HNo := Lib.hid (fun hu => fits_no (cs := cs) hlt2 hu)
      have HTk := Lib.hid (take_fits (cs := cs) HF.out hlt2)
      have HBn := Lib.hid (fun (h : cs.length = 0) k => buildM_none h cells k)
      obtain ⟨av, cv, hav, hlv, hmv⟩ := (HVj.out _ hBr).form
      clear g1 g5
      generalize cells[j] = c at *
      obtain ⟨used, id, cb, ce, sv, vec⟩ := c
      simp only at hav e1 e5
      subst hav
      cases used
      · go_wp2
        go_roundw
        case rel =>
          refine ⟨j + 1, .slice y1 cs.length y2, by omega, by go_num, n0, n1, m0, m1, ?_, HNE.out, HTk.out rfl, hbr, hsz⟩
          rw [HBf.out rfl]; exact HOr.out
        case measure => simp [intOf]; omega
      · by_cases h0 : cs.length = 0
        · have HT := Lib.hid (HTk.out (show fitsC cs ⟨true, id, cb, ce, .slice av vec.length cv, vec⟩ = true by unfold fitsC; rw [decide_eq_true h0]; rfl))
          have HEq := Lib.hid ((HBn.out h0 (j + 1)).trans (HBn.out h0 j).symm)
          have hz : ((cs.length : Int) == 0) = true := beq_iff_eq.2 (by omega)
          clear h0
          go_wp2
          go_roundw
          case rel =>
            refine ⟨j + 1, .slice y1 cs.length y2, by omega, by go_num, n0, n1, m0, m1, ?_, HNE.out, HT.out, hbr, hsz⟩
            rw [HEq.out]; exact HOr.out
          case measure => simp [intOf]; omega
        · have h0p : 0 < cs.length := by omega
          have hz : ((cs.length : Int) == 0) = false := beq_eq_false_iff_ne.2 (by omega)
          obtain ⟨bv, offv, rfl, hltv, gv⟩ := Hv.out 0 h0p
          obtain ⟨uv, cu, hu, -, -⟩ := HF0.out h0p
          have ev : wr.cell? ⟨bv, offv, none⟩ = some (.slice uv (dim0 cs) cu) := (hBr.cell (p := ⟨bv, offv + 0, none⟩) hltv).trans (gv.trans (by rw [hu, HD0.out h0p]))
          have hvok : vecOK vec = true := by
            have h5 : verOK cb ce vec = true := HOK.out
            unfold verOK at h5; rw [Bool.and_eq_true] at h5; exact h5.1
          have hNF := Lib.hid (near_fit HVE.out h0p (u := .slice av vec.length cv) hvok)
          have HFT := Lib.hid (show fitsC cs ⟨true, id, cb, ce, .slice av vec.length cv, vec⟩ = decide (vec.length = dim0 cs) by unfold fitsC fitC; rw [decide_eq_false h0]; rfl)
          have zb0 : b0 < wr.heap.size := by have := hBr.size; omega
          have zbv : bv < wr.heap.size := by have := hBr.size; omega
          have zw0 : w.heap.size < wr.heap.size := by omega
          clear gv hu hvok
          obtain ⟨D, hD⟩ : ∃ D, dim0 cs = D := ⟨_, rfl⟩
          rw [hD] at ev hNF HFT
          have HDD := Lib.hid hD
          clear hD
          obtain ⟨wz, hwz⟩ : ∃ wz, wz = wr := ⟨_, rfl⟩
          subst hwz
          by_cases hd : vec.length = D
          · have HT := Lib.hid (HTk.out (by rw [HFT.out]; exact decide_eq_true hd))
            have HNe := Lib.hid (hNF.out.trans (if_pos hd))
            have hbne : ((vec.length : Int) != (D : Int)) = false := by rw [hd]; exact bne_self_eq_false _
            have HBj := Lib.hid (HBu.out rfl)
            have hpc : placeC cs ⟨true, id, cb, ce, .slice av vec.length cv, vec⟩ = bestK (farD cs vec) (cs.length - 1) := rfl
            rw [hpc, HMl.out] at HBj
            have HN := Lib.hid (fun W hb => r5Nearest _ _ cs vec W (HV.out W hb) (HVj.out W hb) h0p HNe.out)
            have hpl := bestK_le (farD cs vec) (cs.length - 1)
            clear hd hpc h0
            generalize bestK (farD cs vec) (cs.length - 1) = p at *
            go_wp2
            refine wp_grow [] 13 (by kernel_rfl) (by kernel_rfl) (by rfl) (by rfl) ?_
            simp only [List.take_succ_cons, List.take_zero, List.drop_succ_cons, List.drop_zero]
            repeat (first
              | (apply Der.quiet; (rfl); (rfl); (intro w' hw' hctx; have hc' := bcell hw'; have yw0 := fun o => hw'.cell (p := ⟨w.heap.size, o, none⟩) (by first | omega | (simp; done) | (simp; omega)); have yb := fun o => hw'.cell (p := ⟨b0, o, none⟩) zb0; have yv := fun o => hw'.cell (p := ⟨bv, o, none⟩) zbv; clear hctx; go_simp; first | exact rfl | exact ⟨rfl, rfl⟩); simp only [Act.put, List.setIfInBounds_toArray, List.set_cons_succ, List.set_cons_zero, Nat.reduceAdd])
              | (apply Der.skip; (rfl); simp only [Act.put, List.setIfInBounds_toArray, List.set_cons_succ, List.set_cons_zero, Nat.reduceAdd]))
            refine Der.nil (fun w2 hgw2 hctx => ?_)
            clear hctx
            have hb2 : Below _ _ w2 := hgw2
            clear hgw2
            have hb2' : Below wz.heap.size wz w2 := by ((have shb2 := hb2.size); (try simp at shb2); (repeat' (first | (with_reducible exact Below.refl _ _) | (with_reducible refine Below.setCell ?_ ?_ _) | (with_reducible refine Below.alloc ?_ ?_ _) | (with_reducible refine Below.drew ?_) | (with_reducible refine Below.trans ?_ (Below.mono hb2 ?_)) | go_size)))
            have hs2 := hb2'.size
            have n02 := (hb2'.cell (p := ⟨w1.heap.size, 0, none⟩) hsz).trans n0
            have n12 := (hb2'.cell (p := ⟨w1.heap.size, 1, none⟩) hsz).trans n1
            have m02 := (hb2'.frozen (p := ⟨w1.heap.size, 0, none⟩) hsz).trans m0
            have m12 := (hb2'.frozen (p := ⟨w1.heap.size, 1, none⟩) hsz).trans m1
            have j02 := (hb2'.cell (p := ⟨w.heap.size, 0, none⟩) zw0).trans j0
            have e52 := (hb2'.cell (p := ⟨b0, off + j * 5 + 4, none⟩) zb0).trans e5
            have hB2 : Below w.heap.size w w2 := by ((have shb2' := hb2'.size); (try simp at shb2'); (have shBr := hBr.size); (try simp at shBr); (repeat' (first | (with_reducible exact Below.refl _ _) | (with_reducible refine Below.setCell ?_ ?_ _) | (with_reducible refine Below.alloc ?_ ?_ _) | (with_reducible refine Below.drew ?_) | (with_reducible refine Below.trans ?_ (Below.mono hb2' ?_)) | (with_reducible refine Below.trans ?_ (Below.mono hBr ?_)) | go_size)))
            have hbr2 : Below w1.heap.size w1 w2 := by ((have shb2' := hb2'.size); (try simp at shb2'); (have shbr := hbr.size); (try simp at shbr); (repeat' (first | (with_reducible exact Below.refl _ _) | (with_reducible refine Below.setCell ?_ ?_ _) | (with_reducible refine Below.alloc ?_ ?_ _) | (with_reducible refine Below.drew ?_) | (with_reducible refine Below.trans ?_ (Below.mono hb2' ?_)) | (with_reducible refine Below.trans ?_ (Below.mono hbr ?_)) | go_size)))
            have zg2 : w1.heap.size < w2.heap.size := by omega
            have zb2 : b0 < w2.heap.size := by omega
            have zw2 : w.heap.size < w2.heap.size := by omega
            have HO2 := Lib.hid (owns_below HOr.out hb2')
            have hl96 := arena_len HAO.out
            have HPu := Lib.hid (fun W (hb : Below w2.heap.size w2 W) => r13With (.slice (some ⟨bv, offv, none⟩) cs.length cbp) (.slice y1 cs.length y2) cs (buildM cs cells j) p (j : Int) (by rw [HMl.out]; omega) ⟨by omega, by omega⟩ (by rw [HMl.out]; exact hcl) W
              (HV.out W (hB2.trans (hb.mono hB2.size))) (Masks.of_own (owns_below HO2.out hb) (HMl.out j).symm) (NilA.of_owns (owns_below HO2.out hb)))
            clear n0 n1 m0 m1 j0 e1 e5 hl96
            go_wp2
            refine wp_grow [(9, .val (.int .i64 (p : Int))), (11, .rel (fun v W => ∃ y', v = .agg #[.slice (some ⟨bv, offv, none⟩) cs.length cbp, y'] ∧ W.ownsRow w2.heap.size 49 2 y' cs.length (cellsM (withL (putD p (j : Int)) (buildM cs cells j) cs.length))) (fun _ _ _ h hg => by obtain ⟨y', e, ho⟩ := h; exact ⟨y', e, owns_below ho hg⟩))] 12 (by kernel_rfl) (by kernel_rfl) (by rfl) (by rfl) ?_
            simp only [List.take_succ_cons, List.take_zero, List.drop_succ_cons, List.drop_zero]
            repeat (first
              | (apply Der.quiet; (rfl); (rfl); (intro w' hw' hctx; have hc' := bcell hw'; have yw0 := fun o => hw'.cell (p := ⟨w.heap.size, o, none⟩) (by first | omega | (simp; done) | (simp; omega)); have yw10 := fun o => hw'.cell (p := ⟨w1.heap.size, o, none⟩) (by first | omega | (simp; done) | (simp; omega)); have yb := fun o => hw'.cell (p := ⟨b0, o, none⟩) zb2; clear hctx; go_simp; first | exact rfl | exact ⟨rfl, rfl⟩); simp only [Act.put, List.setIfInBounds_toArray, List.set_cons_succ, List.set_cons_zero, Nat.reduceAdd])
              | (apply Der.skip; (rfl); simp only [Act.put, List.setIfInBounds_toArray, List.set_cons_succ, List.set_cons_zero, Nat.reduceAdd]))
            apply Der.val
            · rfl
            · rfl
            · (intro w' hw' hctx; go_simp; refine (HN.out _ (hB2.trans ((undrew hw').mono hB2.size))).mono ?_; rintro e w2 ⟨rfl, hb⟩; exact ⟨_, rfl, rfl, hb⟩)
            simp only [Act.put, List.setIfInBounds_toArray, List.set_cons_succ, List.set_cons_zero, Nat.reduceAdd]
            repeat (first
              | (apply Der.quiet; (rfl); (rfl); (intro w' hw' hctx; have hc' := bcell hw'; clear hctx; go_simp; first | exact rfl | exact ⟨rfl, rfl⟩); simp only [Act.put, List.setIfInBounds_toArray, List.set_cons_succ, List.set_cons_zero, Nat.reduceAdd])
              | (apply Der.skip; (rfl); simp only [Act.put, List.setIfInBounds_toArray, List.set_cons_succ, List.set_cons_zero, Nat.reduceAdd]))
            refine Der.rel (by rfl) (by rfl) (fun w' hw' hctx => ?_) (fun k => ?_)
            · (go_simp; refine (HPu.out _ (undrew hw')).mono ?_; rintro e w5 ⟨⟨y', rfl, ho⟩, hb⟩; rw [HMl.out] at ho; exact ⟨_, rfl, ⟨y', rfl, own_weaken ho (undrew hw').size⟩, hb⟩)
            simp only [Act.put, List.setIfInBounds_toArray, List.set_cons_succ, List.set_cons_zero, Nat.reduceAdd]
            refine Der.nil (fun w3 hg3 hctx => ?_)
            obtain ⟨y', rfl, ho3⟩ := (hctx 11 _ _ (by omega) rfl rfl)
            have hb3 : Below w2.heap.size w2 w3 := undrew hg3
            clear hctx hg3
            have hs3 := hb3.size
            have hny : y'.ownBlock ≠ some w1.heap.size := fun e => by have := (ho3.lt _ e).1; omega
            obtain ⟨z1, z2, rfl⟩ := own_slice ho3
            have n03 := (hb3.cell (p := ⟨w1.heap.size, 0, none⟩) zg2).trans n02
            have n13 := (hb3.cell (p := ⟨w1.heap.size, 1, none⟩) zg2).trans n12
            have m03 := (hb3.frozen (p := ⟨w1.heap.size, 0, none⟩) zg2).trans m02
            have m13 := (hb3.frozen (p := ⟨w1.heap.size, 1, none⟩) zg2).trans m12
            have hbr3 : Below w1.heap.size w1 w3 := by ((have shb3 := hb3.size); (try simp at shb3); (have shbr2 := hbr2.size); (try simp at shbr2); (repeat' (first | (with_reducible exact Below.refl _ _) | (with_reducible refine Below.setCell ?_ ?_ _) | (with_reducible refine Below.alloc ?_ ?_ _) | (with_reducible refine Below.drew ?_) | (with_reducible refine Below.trans ?_ (Below.mono hb3 ?_)) | (with_reducible refine Below.trans ?_ (Below.mono hbr2 ?_)) | go_size)))
            have HO3 := Lib.hid (own_setBox (own_setBox ho3 hny (.slice (some ⟨bv, offv, none⟩) cs.length cbp) (o := 0)) hny (.slice z1 cs.length z2) (o := 1))
            have HNY := Lib.hid hny
            clear ho3 hny n02 n12 m02 m12
            go_wp2
            go_roundw
            case rel =>
              refine ⟨j + 1, .slice z1 cs.length z2, by omega, by go_num, by go_simp, by go_simp, by go_simp, by go_simp, ?_, HNY.out, HT.out, ?_, ?_⟩
              · rw [HBj.out]; exact own_weaken HO3.out (by omega)
              · ((have shbr3 := hbr3.size); (try simp at shbr3); (repeat' (first | (with_reducible exact Below.refl _ _) | (with_reducible refine Below.setCell ?_ ?_ _) | (with_reducible refine Below.alloc ?_ ?_ _) | (with_reducible refine Below.drew ?_) | (with_reducible refine Below.trans ?_ (Below.mono hbr3 ?_)) | go_size)))
              · simp; omega
            case measure => simp [intOf]; omega
          · have HNO := Lib.hid (HNo.out (by rw [HFT.out]; exact decide_eq_false hd))
            have hbne : ((vec.length : Int) != (D : Int)) = true := bne_iff_ne.2 (by omega)
            clear hd h0
            have r0 := (hbr.cell (p := ⟨w.heap.size + 1, 0, none⟩) (by simp; omega)).trans k1
            have r1 := (hbr.cell (p := ⟨w.heap.size + 1, 1, none⟩) (by simp; omega)).trans k2
            have s0 := (hbr.frozen (p := ⟨w.heap.size + 1, 0, none⟩) (by simp; omega)).trans k3
            have s1 := (hbr.frozen (p := ⟨w.heap.size + 1, 1, none⟩) (by simp; omega)).trans k4
            go_wp2
            refine wp_grow [] 13 (by kernel_rfl) (by kernel_rfl) (by rfl) (by rfl) ?_
            simp only [List.take_succ_cons, List.take_zero, List.drop_succ_cons, List.drop_zero]
            repeat (first
              | (apply Der.quiet; (rfl); (rfl); (intro w' hw' hctx; have hc' := bcell hw'; have yw0 := fun o => hw'.cell (p := ⟨w.heap.size, o, none⟩) (by first | omega | (simp; done) | (simp; omega)); have yb := fun o => hw'.cell (p := ⟨b0, o, none⟩) zb0; have yv := fun o => hw'.cell (p := ⟨bv, o, none⟩) zbv; clear hctx; go_simp; first | exact rfl | exact ⟨rfl, rfl⟩); simp only [Act.put, List.setIfInBounds_toArray, List.set_cons_succ, List.set_cons_zero, Nat.reduceAdd])
              | (apply Der.skip; (rfl); simp only [Act.put, List.setIfInBounds_toArray, List.set_cons_succ, List.set_cons_zero, Nat.reduceAdd]))
            refine Der.nil (fun w2 hgw2 hctx => ?_)
            clear hctx
            have hb2 : Below _ _ w2 := hgw2
            clear hgw2
            have hb2' : Below wz.heap.size wz w2 := by ((have shb2 := hb2.size); (try simp at shb2); (repeat' (first | (with_reducible exact Below.refl _ _) | (with_reducible refine Below.setCell ?_ ?_ _) | (with_reducible refine Below.alloc ?_ ?_ _) | (with_reducible refine Below.drew ?_) | (with_reducible refine Below.trans ?_ (Below.mono hb2 ?_)) | go_size)))
            have hs2 := hb2'.size
            have r02 := (hb2'.cell (p := ⟨w.heap.size + 1, 0, none⟩) (by simp; omega)).trans r0
            have r12 := (hb2'.cell (p := ⟨w.heap.size + 1, 1, none⟩) (by simp; omega)).trans r1
            have s02 := (hb2'.frozen (p := ⟨w.heap.size + 1, 0, none⟩) (by simp; omega)).trans s0
            have s12 := (hb2'.frozen (p := ⟨w.heap.size + 1, 1, none⟩) (by simp; omega)).trans s1
            clear r0 r1 s0 s1 n0 n1 m0 m1
            go_wp2
            refine bodyPost_ret (v := .tuple #[.agg #[.slice none 0 0, .slice none 0 0], .bool false]) (by simp only [results, Try.results22]; go_simp) rfl ⟨?_, ?_⟩
            · unfold RefBuildPost; rw [if_pos HNO.out]; rfl
            · ((have shb2' := hb2'.size); (try simp at shb2'); (have shBr := hBr.size); (try simp at shBr); (repeat' (first | (with_reducible exact Below.refl _ _) | (with_reducible refine Below.setCell ?_ ?_ _) | (with_reducible refine Below.alloc ?_ ?_ _) | (with_reducible refine Below.drew ?_) | (with_reducible refine Below.trans ?_ (Below.mono hb2' ?_)) | (with_reducible refine Below.trans ?_ (Below.mono hBr ?_)) | go_size)))
    · have : j = cells.length := by omega
      subst this
      have HT := Lib.hid (show cells.all (fitsC cs) = true from List.all_eq_true.2 (fun c hc => HF.out c (by rw [List.take_of_length_le (Nat.le_refl _)]; exact hc)))
      have r0 := (hbr.cell (p := ⟨w.heap.size + 1, 0, none⟩) (by simp; omega)).trans k1
      have r1 := (hbr.cell (p := ⟨w.heap.size + 1, 1, none⟩) (by simp; omega)).trans k2
      have s0 := (hbr.frozen (p := ⟨w.heap.size + 1, 0, none⟩) (by simp; omega)).trans k3
      have s1 := (hbr.frozen (p := ⟨w.heap.size + 1, 1, none⟩) (by simp; omega)).trans k4
      have zr : w.heap.size + 1 < wr.heap.size := by omega
      go_wp2
      refine bodyPost_ret (v := .tuple #[.agg #[.slice b cs.length cbp, .slice y1 cs.length y2], .bool true]) (by simp only [results, Try.results22]; go_simp) rfl ⟨?_, ?_⟩
      · unfold RefBuildPost; rw [if_neg (by rw [HT.out]; decide)]
        exact ⟨_, rfl, own_weaken (own_setCell (own_setCell HOr.out (by omega) _) (by omega) _) (by omega)⟩
      · ((have shBr := hBr.size); (try simp at shBr); (repeat' (first | (with_reducible exact Below.refl _ _) | (with_reducible refine Below.setCell ?_ ?_ _) | (with_reducible refine Below.alloc ?_ ?_ _) | (with_reducible refine Below.drew ?_) | (with_reducible refine Below.trans ?_ (Below.mono hBr ?_)) | go_size)))
end Go.Proofs.Ytlfmffjlmhpcdaa

/- What lists.Build and quiverref13.Build have in common; the guard on an arena. -/
namespace Go.Proofs.Ytlfmffjlmhpcdaa
open Go.RowKit
set_option maxRecDepth 100000
attribute [local irreducible] Der

def refOK (cells : List Cel) (cs : List PV) : Bool := cells.all (fitsC cs)
def refC (cells : List Cel) (cs : List PV) : List PV := if refOK cells cs then cs else []
def refM (cells : List Cel) (cs : List PV) : List M := if refOK cells cs then buildM cs cells cells.length else []
theorem refBuilt {vl : Value} {cells : List Cel} {cs : List PV} {B : Nat} {e : Ending} {w' : World} (h : RefBuildPost vl cells cs B e w') (hv : VecsV w' vl cs) :
    ∃ vc vm, e = .returned (.tuple #[.agg #[vc, vm], .bool (refOK cells cs)]) ∧ VecsV w' vc (refC cells cs) ∧ Masks w' vm (refM cells cs) := by
  unfold RefBuildPost at h
  unfold refC refM
  cases hr : refOK cells cs
  · rw [if_pos (show cells.all (fitsC cs) = false from hr)] at h
    exact ⟨_, _, h, ⟨⟨Sl.nilS w', NilA.nil⟩, fun p hp => by cases hp⟩, Sl.nilS w'⟩
  · rw [if_neg (by rw [show cells.all (fitsC cs) = true from hr]; decide)] at h
    obtain ⟨y, e1, ho⟩ := h
    exact ⟨_, _, e1, hv, Masks.of_own ho (buildM_length cs cells _).symm⟩
theorem r13build (vx vl : Value) (cells : List Cel) (cs : List PV) (hcl : cs.length ≤ 1000) (hao : arenaOK cells = true) (hco : centsOK cs = true) (w : World) (hx : CelsV w vx cells) (hc : VecsV w vl cs) :
    Calls Try.prog 22 #[.agg #[vx], vl] w fun e w' =>
      (∃ vc vm, e = .returned (.tuple #[.agg #[vc, vm], .bool (refOK cells cs)]) ∧ VecsV w' vc (refC cells cs) ∧ Masks w' vm (refM cells cs)) ∧ Below w.heap.size w w' :=
  (r13Build vx vl cells cs hcl hao (by unfold centsOK at hco; simp at hco; exact hco.2) w hx hc).mono fun _ _ h => ⟨refBuilt h.1 (hc.grown h.2), h.2⟩
theorem sameL_comm (cs : List PV) (ms : List M) (cs' : List PV) (ms' : List M) : sameL cs ms cs' ms' = sameL cs' ms' cs ms := by
  unfold sameL
  congr 1 <;> exact decide_eq_decide.2 ⟨Eq.symm, Eq.symm⟩
theorem all_fits {cs : List PV} (h : cs ≠ []) (cells : List Cel) : refOK cells cs = cells.all (fun c => !c.used || fitC cs c) := by
  unfold refOK fitsC
  have : ¬ cs.length = 0 := fun e => h (List.length_eq_zero_iff.1 e)
  rw [decide_eq_false this]
  simp
theorem refOK_nil (cells : List Cel) : refOK cells [] = true := by
  unfold refOK fitsC
  exact List.all_eq_true.2 fun c _ => by simp
theorem build_ref {cells : List Cel} {cs : List PV} (ha : arenaOK cells = true) (hc : centsOK cs = true) :
    buildE cells cs = (if refOK cells cs then 0 else 151) ∧ buildC cells cs = refC cells cs ∧ buildMs cells cs = refM cells cs := by
  unfold buildE buildC buildMs buildOK refC refM
  rw [ha, hc]
  by_cases hn : cs = []
  · subst hn
    rw [refOK_nil]
    refine ⟨by simp, by simp, ?_⟩
    have := buildM_none (cs := []) rfl cells cells.length
    simp [this]
  · rw [all_fits hn]
    have hi : cs.isEmpty = false := by cases cs with | nil => exact absurd rfl hn | cons _ _ => rfl
    rw [hi, if_neg hn]
    cases h4 : cells.all (fun c => !c.used || fitC cs c) <;> simp
theorem build_bad {cells : List Cel} {cs : List PV} (h : arenaOK cells = false) : buildE cells cs = 190 ∧ buildC cells cs = [] ∧ buildMs cells cs = [] := by
  unfold buildE buildC buildMs buildOK
  rw [h]
  exact ⟨rfl, rfl, rfl⟩
theorem build_no {cells : List Cel} {cs : List PV} (ha : arenaOK cells = true) (h : centsOK cs = false) : buildE cells cs = 230 ∧ buildC cells cs = [] ∧ buildMs cells cs = [] := by
  unfold buildE buildC buildMs buildOK
  rw [ha, h]
  exact ⟨rfl, rfl, rfl⟩
theorem agrees_bad {cs : List PV} {ms : List M} {cells : List Cel} (h : arenaOK cells = false) : agreesF cs ms cells = false := by unfold agreesF; rw [h]; cases listsOK cs ms <;> rfl
theorem agrees_no {cs : List PV} {ms : List M} {cells : List Cel} (h : listsOK cs ms = false) : agreesF cs ms cells = false := by unfold agreesF; rw [h]; rfl
theorem lists_cents {cs : List PV} {ms : List M} (h : listsOK cs ms = true) : centsOK cs = true := by unfold listsOK at h; rw [Bool.and_eq_true] at h; exact h.1
theorem agrees_ref {cs : List PV} {ms : List M} {cells : List Cel} (ha : arenaOK cells = true) (h : listsOK cs ms = true) : agreesF cs ms cells = (refOK cells cs && sameL (refC cells cs) (refM cells cs) cs ms) := by
  obtain ⟨h1, h2, h3⟩ := build_ref ha (lists_cents h)
  unfold agreesF
  rw [h, ha, h1, h2, h3, sameL_comm]
  cases refOK cells cs <;> rfl
theorem same_nil : sameL [] [] [] [] = true := by decide
/-- Is an arena too great for a claim? -/
def overA (cells : List Cel) : Bool := decide (120 < cells.length) || cells.any fun c => decide (50 < c.vec.length)
theorem overA_hit {cells : List Cel} {k : Nat} (h : k < cells.length) (hh : 50 < cells[k].vec.length) : overA cells = true := by
  unfold overA
  rw [Bool.or_eq_true]
  exact .inr (List.any_eq_true.2 ⟨cells[k], List.getElem_mem h, decide_eq_true hh⟩)
theorem overA_none {cells : List Cel} (h0 : ¬ 120 < cells.length) (h : ∀ k (hk : k < cells.length), ¬ 50 < cells[k].vec.length) : overA cells = false := by
  unfold overA
  rw [decide_eq_false h0, Bool.false_or]
  cases ha : cells.any fun c => decide (50 < c.vec.length)
  · rfl
  · obtain ⟨p, hp, hq⟩ := List.any_eq_true.1 ha
    obtain ⟨k, hk, rfl⟩ := List.mem_iff_getElem.1 hp
    exact absurd (of_decide_eq_true hq) (h k hk)
set_option maxHeartbeats 2000000 in
theorem l13_overArena (vx : Value) (cells : List Cel) (w : World) (hx : CelsV w vx cells) : Calls Try.prog 17 #[.agg #[vx]] w fun e w' => e = .returned (.bool (overA cells)) ∧ Below w.heap.size w w' := by
  obtain ⟨a, cap, rfl, hl1, hm1, hcell⟩ := hx.open
  have Hc := Lib.hid hcell
  have HV := Lib.hid (fun k (hk : k < cells.length) => (hx.2 cells[k] (List.getElem_mem hk)).form)
  have HH := Lib.hid (fun k (hk : k < cells.length) hh => overA_hit (cells := cells) hk hh)
  clear hx hcell
  by_cases h20 : 120 < cells.length
  · have HE := Lib.hid (show overA cells = true by unfold overA; rw [decide_eq_true h20]; rfl)
    go_enter Try.func17, Try.ntmps17
    go_wp2
    go_ret
    exact ⟨by rw [HE.out]; rfl, by ((repeat' (first | (with_reducible exact Below.refl _ _) | (with_reducible refine Below.setCell ?_ ?_ _) | (with_reducible refine Below.alloc ?_ ?_ _) | (with_reducible refine Below.drew ?_) | (with_reducible refine Below.trans ?_ (Below.mono (by assumption) ?_)) | go_size)))⟩
  · have HE := Lib.hid (fun h => overA_none (cells := cells) h20 h)
    go_enter Try.func17, Try.ntmps17
    go_wp2
    go_loopw [12] (fun i wr => ∃ k : Nat, k ≤ cells.length ∧ i = .int .i64 k ∧ (∀ j (hj : j < cells.length), j < k → ¬ 50 < cells[j].vec.length) ∧ Below w.heap.size w wr) (fun i _ => cells.length - (intOf i).toNat)
    case atStart => exact ⟨0, Nat.zero_le _, rfl, fun j _ hj => absurd hj (Nat.not_lt_zero _), by ((repeat' (first | (with_reducible exact Below.refl _ _) | (with_reducible refine Below.setCell ?_ ?_ _) | (with_reducible refine Below.alloc ?_ ?_ _) | (with_reducible refine Below.drew ?_) | (with_reducible refine Below.trans ?_ (Below.mono (by assumption) ?_)) | go_size)))⟩
    case round =>
      obtain ⟨k, hk, rfl, hno, hbr⟩ := hrel
      have HK := Lib.hid hno
      clear hno
      by_cases hlt2 : k < cells.length
      · obtain ⟨b, off, rfl, hlt, g1, g2, g3, g4, g5⟩ := Hc.out k hlt2
        have e1 := (hbr.cell (p := ⟨b, off + k * 5, none⟩) hlt).trans g1
        have e2 := (hbr.cell (p := ⟨b, off + k * 5 + 1, none⟩) hlt).trans g2
        have e3 := (hbr.cell (p := ⟨b, off + k * 5 + 2, none⟩) hlt).trans g3
        have e4 := (hbr.cell (p := ⟨b, off + k * 5 + 3, none⟩) hlt).trans g4
        have e5 := (hbr.cell (p := ⟨b, off + k * 5 + 4, none⟩) hlt).trans g5
        obtain ⟨u, c', hu, -⟩ := HV.out k hlt2
        rw [hu] at e5
        have HHk := Lib.hid (HH.out k hlt2)
        have HS := Lib.hid (fun (h0 : ¬ 50 < cells[k].vec.length) j (hj : j < cells.length) (hjk : j < k + 1) => (show ¬ 50 < cells[j].vec.length from by
          rcases Nat.lt_or_ge j k with h | h
          · exact HK.out j hj h
          · have : j = k := by omega
            subst this; exact h0))
        clear g1 g2 g3 g4 g5 hu
        obtain ⟨n, hn⟩ : ∃ n, cells[k].vec.length = n := ⟨_, rfl⟩
        rw [hn] at HHk HS e5
        clear hn
        by_cases h50 : 50 < n
        · have HX := Lib.hid (HHk.out h50)
          go_wp2
          go_ret
          exact ⟨by rw [HX.out]; rfl, by ((have shbr := hbr.size); (try simp at shbr); (repeat' (first | (with_reducible exact Below.refl _ _) | (with_reducible refine Below.setCell ?_ ?_ _) | (with_reducible refine Below.alloc ?_ ?_ _) | (with_reducible refine Below.drew ?_) | (with_reducible refine Below.trans ?_ (Below.mono hbr ?_)) | go_size)))⟩
        · have HX := Lib.hid (HS.out h50)
          go_wp2
          go_roundw
          case rel => exact ⟨k + 1, by omega, by go_num, HX.out, by ((have shbr := hbr.size); (try simp at shbr); (repeat' (first | (with_reducible exact Below.refl _ _) | (with_reducible refine Below.setCell ?_ ?_ _) | (with_reducible refine Below.alloc ?_ ?_ _) | (with_reducible refine Below.drew ?_) | (with_reducible refine Below.trans ?_ (Below.mono hbr ?_)) | go_size)))⟩
          case measure => simp [intOf]; omega
      · have : k = cells.length := by omega
        subst this
        have HX := Lib.hid (HE.out (fun j hj => HK.out j hj hj))
        go_wp2
        go_ret
        exact ⟨by rw [HX.out]; rfl, hbr⟩
end Go.Proofs.Ytlfmffjlmhpcdaa
