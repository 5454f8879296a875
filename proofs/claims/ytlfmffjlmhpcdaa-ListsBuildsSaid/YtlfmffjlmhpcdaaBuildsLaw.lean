/- What lists.Build and quiverref13.Build have in common; the guard on an arena. -/
import Derived.Test.YtlfmffjlmhpcdaaRefBuild
import Derived.Test.YtlfmffjlmhpcdaaWhereL
namespace Go.Proofs.Ytlfmffjlmhpcdaa
open Go.RowKit
set_option maxRecDepth 100000
attribute [local irreducible] Der

def refOK (cells : List Cel) (cs : List PV) : Bool := cells.all (fitsC cs)
def refC (cells : List Cel) (cs : List PV) : List PV := if refOK cells cs then cs else []
def refM (cells : List Cel) (cs : List PV) : List M := if refOK cells cs then buildM cs cells cells.length else []
theorem refBuilt {vl : Value} {cells : List Cel} {cs : List PV} {B : Nat} {e : Ending} {w' : World} (h : RefBuildPost vl cells cs B e w') (hv : VecsV w' vl cs) :
    ∃ vc vm, e = .returned (.tuple #[.agg #[vc, vm], .bool (refOK cells cs)]) ∧ VecsV w' vc (refC cells cs) ∧ Masks w' vm (refM cells cs) := by
  unfold RefBuildPost at h
  unfold refC refM
  cases hr : refOK cells cs
  · rw [if_pos (show cells.all (fitsC cs) = false from hr)] at h
    exact ⟨_, _, h, ⟨⟨Sl.nilS w', NilA.nil⟩, fun p hp => by cases hp⟩, Sl.nilS w'⟩
  · rw [if_neg (by rw [show cells.all (fitsC cs) = true from hr]; decide)] at h
    obtain ⟨y, e1, ho⟩ := h
    exact ⟨_, _, e1, hv, Masks.of_own ho (buildM_length cs cells _).symm⟩
theorem r13build (vx vl : Value) (cells : List Cel) (cs : List PV) (hcl : cs.length ≤ 1000) (hao : arenaOK cells = true) (hco : centsOK cs = true) (w : World) (hx : CelsV w vx cells) (hc : VecsV w vl cs) :
    Calls Try.prog 22 #[.agg #[vx], vl] w fun e w' =>
      (∃ vc vm, e = .returned (.tuple #[.agg #[vc, vm], .bool (refOK cells cs)]) ∧ VecsV w' vc (refC cells cs) ∧ Masks w' vm (refM cells cs)) ∧ Below w.heap.size w w' :=
  (r13Build vx vl cells cs hcl hao (by unfold centsOK at hco; simp at hco; exact hco.2) w hx hc).mono fun _ _ h => ⟨refBuilt h.1 (hc.grown h.2), h.2⟩
theorem sameL_comm (cs : List PV) (ms : List M) (cs' : List PV) (ms' : List M) : sameL cs ms cs' ms' = sameL cs' ms' cs ms := by
  unfold sameL
  congr 1 <;> exact decide_eq_decide.2 ⟨Eq.symm, Eq.symm⟩
theorem all_fits {cs : List PV} (h : cs ≠ []) (cells : List Cel) : refOK cells cs = cells.all (fun c => !c.used || fitC cs c) := by
  unfold refOK fitsC
  have : ¬ cs.length = 0 := fun e => h (List.length_eq_zero_iff.1 e)
  rw [decide_eq_false this]
  simp
theorem refOK_nil (cells : List Cel) : refOK cells [] = true := by
  unfold refOK fitsC
  exact List.all_eq_true.2 fun c _ => by simp
theorem build_ref {cells : List Cel} {cs : List PV} (ha : arenaOK cells = true) (hc : centsOK cs = true) :
    buildE cells cs = (if refOK cells cs then 0 else 151) ∧ buildC cells cs = refC cells cs ∧ buildMs cells cs = refM cells cs := by
  unfold buildE buildC buildMs buildOK refC refM
  rw [ha, hc]
  by_cases hn : cs = []
  · subst hn
    rw [refOK_nil]
    refine ⟨by simp, by simp, ?_⟩
    have := buildM_none (cs := []) rfl cells cells.length
    simp [this]
  · rw [all_fits hn]
    have hi : cs.isEmpty = false := by cases cs with | nil => exact absurd rfl hn | cons _ _ => rfl
    rw [hi, if_neg hn]
    cases h4 : cells.all (fun c => !c.used || fitC cs c) <;> simp
theorem build_bad {cells : List Cel} {cs : List PV} (h : arenaOK cells = false) : buildE cells cs = 190 ∧ buildC cells cs = [] ∧ buildMs cells cs = [] := by
  unfold buildE buildC buildMs buildOK
  rw [h]
  exact ⟨rfl, rfl, rfl⟩
theorem build_no {cells : List Cel} {cs : List PV} (ha : arenaOK cells = true) (h : centsOK cs = false) : buildE cells cs = 230 ∧ buildC cells cs = [] ∧ buildMs cells cs = [] := by
  unfold buildE buildC buildMs buildOK
  rw [ha, h]
  exact ⟨rfl, rfl, rfl⟩
theorem agrees_bad {cs : List PV} {ms : List M} {cells : List Cel} (h : arenaOK cells = false) : agreesF cs ms cells = false := by unfold agreesF; rw [h]; cases listsOK cs ms <;> rfl
theorem agrees_no {cs : List PV} {ms : List M} {cells : List Cel} (h : listsOK cs ms = false) : agreesF cs ms cells = false := by unfold agreesF; rw [h]; rfl
theorem lists_cents {cs : List PV} {ms : List M} (h : listsOK cs ms = true) : centsOK cs = true := by unfold listsOK at h; rw [Bool.and_eq_true] at h; exact h.1
theorem agrees_ref {cs : List PV} {ms : List M} {cells : List Cel} (ha : arenaOK cells = true) (h : listsOK cs ms = true) : agreesF cs ms cells = (refOK cells cs && sameL (refC cells cs) (refM cells cs) cs ms) := by
  obtain ⟨h1, h2, h3⟩ := build_ref ha (lists_cents h)
  unfold agreesF
  rw [h, ha, h1, h2, h3, sameL_comm]
  cases refOK cells cs <;> rfl
theorem same_nil : sameL [] [] [] [] = true := by decide
/-- Is an arena too great for a claim? -/
def overA (cells : List Cel) : Bool := decide (120 < cells.length) || cells.any fun c => decide (50 < c.vec.length)
theorem overA_hit {cells : List Cel} {k : Nat} (h : k < cells.length) (hh : 50 < cells[k].vec.length) : overA cells = true := by
  unfold overA
  rw [Bool.or_eq_true]
  exact .inr (List.any_eq_true.2 ⟨cells[k], List.getElem_mem h, decide_eq_true hh⟩)
theorem overA_none {cells : List Cel} (h0 : ¬ 120 < cells.length) (h : ∀ k (hk : k < cells.length), ¬ 50 < cells[k].vec.length) : overA cells = false := by
  unfold overA
  rw [decide_eq_false h0, Bool.false_or]
  cases ha : cells.any fun c => decide (50 < c.vec.length)
  · rfl
  · obtain ⟨p, hp, hq⟩ := List.any_eq_true.1 ha
    obtain ⟨k, hk, rfl⟩ := List.mem_iff_getElem.1 hp
    exact absurd (of_decide_eq_true hq) (h k hk)
set_option maxHeartbeats 2000000 in
theorem l13_overArena (vx : Value) (cells : List Cel) (w : World) (hx : CelsV w vx cells) : Calls Try.prog 17 #[.agg #[vx]] w fun e w' => e = .returned (.bool (overA cells)) ∧ Below w.heap.size w w' := by
  obtain ⟨a, cap, rfl, hl1, hm1, hcell⟩ := hx.open
  have Hc := Lib.hid hcell
  have HV := Lib.hid (fun k (hk : k < cells.length) => (hx.2 cells[k] (List.getElem_mem hk)).form)
  have HH := Lib.hid (fun k (hk : k < cells.length) hh => overA_hit (cells := cells) hk hh)
  clear hx hcell
  by_cases h20 : 120 < cells.length
  · have HE := Lib.hid (show overA cells = true by unfold overA; rw [decide_eq_true h20]; rfl)
    go_enter Try.func17, Try.ntmps17
    go_wp2
    go_ret
    exact ⟨by rw [HE.out]; rfl, by ((repeat' (first | (with_reducible exact Below.refl _ _) | (with_reducible refine Below.setCell ?_ ?_ _) | (with_reducible refine Below.alloc ?_ ?_ _) | (with_reducible refine Below.drew ?_) | (with_reducible refine Below.trans ?_ (Below.mono (by assumption) ?_)) | go_size)))⟩
  · have HE := Lib.hid (fun h => overA_none (cells := cells) h20 h)
    go_enter Try.func17, Try.ntmps17
    go_wp2
    go_loopw [12] (fun i wr => ∃ k : Nat, k ≤ cells.length ∧ i = .int .i64 k ∧ (∀ j (hj : j < cells.length), j < k → ¬ 50 < cells[j].vec.length) ∧ Below w.heap.size w wr) (fun i _ => cells.length - (intOf i).toNat)
    case atStart => exact ⟨0, Nat.zero_le _, rfl, fun j _ hj => absurd hj (Nat.not_lt_zero _), by ((repeat' (first | (with_reducible exact Below.refl _ _) | (with_reducible refine Below.setCell ?_ ?_ _) | (with_reducible refine Below.alloc ?_ ?_ _) | (with_reducible refine Below.drew ?_) | (with_reducible refine Below.trans ?_ (Below.mono (by assumption) ?_)) | go_size)))⟩
    case round =>
      obtain ⟨k, hk, rfl, hno, hbr⟩ := hrel
      have HK := Lib.hid hno
      clear hno
      by_cases hlt2 : k < cells.length
      · obtain ⟨b, off, rfl, hlt, g1, g2, g3, g4, g5⟩ := Hc.out k hlt2
        have e1 := (hbr.cell (p := ⟨b, off + k * 5, none⟩) hlt).trans g1
        have e2 := (hbr.cell (p := ⟨b, off + k * 5 + 1, none⟩) hlt).trans g2
        have e3 := (hbr.cell (p := ⟨b, off + k * 5 + 2, none⟩) hlt).trans g3
        have e4 := (hbr.cell (p := ⟨b, off + k * 5 + 3, none⟩) hlt).trans g4
        have e5 := (hbr.cell (p := ⟨b, off + k * 5 + 4, none⟩) hlt).trans g5
        obtain ⟨u, c', hu, -⟩ := HV.out k hlt2
        rw [hu] at e5
        have HHk := Lib.hid (HH.out k hlt2)
        have HS := Lib.hid (fun (h0 : ¬ 50 < cells[k].vec.length) j (hj : j < cells.length) (hjk : j < k + 1) => (show ¬ 50 < cells[j].vec.length from by
          rcases Nat.lt_or_ge j k with h | h
          · exact HK.out j hj h
          · have : j = k := by omega
            subst this; exact h0))
        clear g1 g2 g3 g4 g5 hu
        obtain ⟨n, hn⟩ : ∃ n, cells[k].vec.length = n := ⟨_, rfl⟩
        rw [hn] at HHk HS e5
        clear hn
        by_cases h50 : 50 < n
        · have HX := Lib.hid (HHk.out h50)
          go_wp2
          go_ret
          exact ⟨by rw [HX.out]; rfl, by ((have shbr := hbr.size); (try simp at shbr); (repeat' (first | (with_reducible exact Below.refl _ _) | (with_reducible refine Below.setCell ?_ ?_ _) | (with_reducible refine Below.alloc ?_ ?_ _) | (with_reducible refine Below.drew ?_) | (with_reducible refine Below.trans ?_ (Below.mono hbr ?_)) | go_size)))⟩
        · have HX := Lib.hid (HS.out h50)
          go_wp2
          go_roundw
          case rel => exact ⟨k + 1, by omega, by go_num, HX.out, by ((have shbr := hbr.size); (try simp at shbr); (repeat' (first | (with_reducible exact Below.refl _ _) | (with_reducible refine Below.setCell ?_ ?_ _) | (with_reducible refine Below.alloc ?_ ?_ _) | (with_reducible refine Below.drew ?_) | (with_reducible refine Below.trans ?_ (Below.mono hbr ?_)) | go_size)))⟩
          case measure => simp [intOf]; omega
      · have : k = cells.length := by omega
        subst this
        have HX := Lib.hid (HE.out (fun j hj => HK.out j hj hj))
        go_wp2
        go_ret
        exact ⟨by rw [HX.out]; rfl, hbr⟩
end Go.Proofs.Ytlfmffjlmhpcdaa
