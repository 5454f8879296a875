/- arena.copied, arena.has, arena.Put: their contracts. -/
import Derived.Test.YtlfmffjlmhpcdaaBuildZ
import Derived.Deep.CutBlock
namespace Go.Proofs.Ytlfmffjlmhpcdaa
open Go.RowKit
set_option maxRecDepth 100000
attribute [local irreducible] Der

theorem own_setCell_ne {w : World} {B e size n : Nat} {v : Value} {xs : List Value} (h : w.ownsRow B e size v n xs) {g o : Nat} (hg : v.ownBlock ≠ some g) (u : Value) : (w.setCell ⟨g, o, none⟩ u).ownsRow B e size v n xs :=
  h.kept (row := some g) (but_setCell (but_refl w _) u) (.inr hg)
theorem idxF_cases {α : Type} (p : α → Bool) (l : List α) : idxF p l = -1 ∨ ∃ k : Nat, k < l.length ∧ idxF p l = k := by
  unfold idxF
  cases h : l.findIdx? p with
  | none => exact .inl rfl
  | some k =>
    rw [List.findIdx?_eq_some_iff_getElem] at h
    exact .inr ⟨k, h.1, rfl⟩
theorem f_copied (vx : Value) (cells : List Cel) (hlen : cells.length ≤ 1000) (w : World) (hx : CelsV w vx cells) :
    Calls Try.prog 81 #[.agg #[vx]] w fun e w' => (∃ v, e = .returned (.agg #[v]) ∧ w'.ownsRow w.heap.size 60 5 v cells.length (cells.flatMap Cel.cells)) ∧ Below w.heap.size w w' := by
  obtain ⟨a, cap, rfl, -⟩ := hx.open
  have HX := Lib.hid (fun W (hb : Below w.heap.size w W) => hx.grown hb)
  clear hx
  go_enter Try.func81, Try.ntmps81
  go_wp2_with fail
  refine (cloneC _ cells _ (HX.out _ (by ((repeat' (first | (with_reducible exact Below.refl _ _) | (with_reducible refine Below.setCell ?_ ?_ _) | (with_reducible refine Below.alloc ?_ ?_ _) | (with_reducible refine Below.drew ?_) | (with_reducible refine Below.trans ?_ (Below.mono (by assumption) ?_)) | go_size))))) (by omega)).mono ?_
  rintro e w1 ⟨⟨v, rfl, hown⟩, hb1⟩
  have HO := Lib.hid hown
  obtain ⟨a2, c2, rfl⟩ := own_slice hown
  clear hown
  have z1w0 : w.heap.size < w1.heap.size := (by have := hb1.size; (try simp at this); omega)
  have q1w0 := fun o => hb1.cell (p := ⟨w.heap.size, o, none⟩) (by first | omega | (simp; done) | (simp; omega))
  have r1w0 := fun o => hb1.frozen (p := ⟨w.heap.size, o, none⟩) (by first | omega | (simp; done) | (simp; omega))
  have z1w1 : w.heap.size + 1 < w1.heap.size := (by have := hb1.size; (try simp at this); omega)
  have q1w1 := fun o => hb1.cell (p := ⟨w.heap.size + 1, o, none⟩) (by first | omega | (simp; done) | (simp; omega))
  have r1w1 := fun o => hb1.frozen (p := ⟨w.heap.size + 1, o, none⟩) (by first | omega | (simp; done) | (simp; omega))
  go_wp2
  refine bodyPost_ret (v := .agg #[.slice a2 cells.length c2]) (by simp only [results, Try.results81]; go_simp) rfl ⟨⟨_, rfl, own_weaken (own_setCell HO.out (by simp) _) (by simp; omega)⟩, ?_⟩
  ((have shb1 := hb1.size); (try simp at shb1); (repeat' (first | (with_reducible exact Below.refl _ _) | (with_reducible refine Below.setCell ?_ ?_ _) | (with_reducible refine Below.alloc ?_ ?_ _) | (with_reducible refine Below.drew ?_) | (with_reducible refine Below.trans ?_ (Below.mono hb1 ?_)) | go_size)))
/-- Is a slot's cell in use? -/
def hasC (cells : List Cel) (s : Int) : Bool := decide (0 ≤ s ∧ s < cells.length) && (match cells[s.toNat]? with | some c => c.used | none => false)
theorem hasC_at {cells : List Cel} {k : Nat} (h : k < cells.length) : hasC cells (k : Int) = cells[k].used := by
  unfold hasC
  rw [decide_eq_true (by omega), Int.toNat_natCast, List.getElem?_eq_getElem h]; rfl
theorem hasC_no {cells : List Cel} {s : Int} (h : ¬ (0 ≤ s ∧ s < cells.length)) : hasC cells s = false := by unfold hasC; rw [decide_eq_false h]; rfl
set_option maxHeartbeats 1000000 in
theorem f_has (vx : Value) (cells : List Cel) (s : Int) (w : World) (hx : CelsV w vx cells) :
    Calls Try.prog 82 #[.agg #[vx], .int .i64 s] w fun e w' => e = .returned (.bool (hasC cells s)) ∧ Below w.heap.size w w' := by
  obtain ⟨a, cap, rfl, hl, hm, hcell⟩ := hx.open
  have Hc := Lib.hid hcell
  have HY := Lib.hid (fun (k : Nat) h => hasC_at (cells := cells) (k := k) h)
  have HN := Lib.hid (fun h => hasC_no (cells := cells) (s := s) h)
  clear hcell hx
  by_cases h0 : 0 ≤ s
  · by_cases h1 : s < cells.length
    · obtain ⟨k, rfl⟩ : ∃ k : Nat, s = k := ⟨s.toNat, by omega⟩
      have hk : k < cells.length := by omega
      obtain ⟨g, off, rfl, hlt, g1, -⟩ := Hc.out k hk
      have HYk := Lib.hid (HY.out k hk)
      generalize cells[k].used = u at *
      go_enter Try.func82, Try.ntmps82
      go_wp2
      go_ret
      exact ⟨by rw [HYk.out]; rfl, by ((repeat' (first | (with_reducible exact Below.refl _ _) | (with_reducible refine Below.setCell ?_ ?_ _) | (with_reducible refine Below.alloc ?_ ?_ _) | (with_reducible refine Below.drew ?_) | (with_reducible refine Below.trans ?_ (Below.mono (by assumption) ?_)) | go_size)))⟩
    · have HF := Lib.hid (HN.out (by omega))
      have hd : decide (0 ≤ s) = true := decide_eq_true h0
      have hd1 : decide (s < (cells.length : Int)) = false := decide_eq_false h1
      go_enter Try.func82, Try.ntmps82
      go_wp2
      go_ret
      exact ⟨by rw [HF.out]; rfl, by ((repeat' (first | (with_reducible exact Below.refl _ _) | (with_reducible refine Below.setCell ?_ ?_ _) | (with_reducible refine Below.alloc ?_ ?_ _) | (with_reducible refine Below.drew ?_) | (with_reducible refine Below.trans ?_ (Below.mono (by assumption) ?_)) | go_size)))⟩
  · have HF := Lib.hid (HN.out (by omega))
    have hd : decide (0 ≤ s) = false := decide_eq_false h0
    go_enter Try.func82, Try.ntmps82
    go_wp2
    go_ret
    exact ⟨by rw [HF.out]; rfl, by ((repeat' (first | (with_reducible exact Below.refl _ _) | (with_reducible refine Below.setCell ?_ ?_ _) | (with_reducible refine Below.alloc ?_ ?_ _) | (with_reducible refine Below.drew ?_) | (with_reducible refine Below.trans ?_ (Below.mono (by assumption) ?_)) | go_size)))⟩
theorem c_free (c : Cel) (w : World) (h : VecV w c.sv c.vec) : Calls Try.prog 79 #[argC c] w fun x w' => x = .returned (.bool (!c.used)) ∧ Below w.heap.size w w' := by
  obtain ⟨used, id, b, e, sv, vec⟩ := c
  obtain ⟨av, cv, hsv, -⟩ := h.form
  simp only at hsv
  subst hsv
  unfold argC
  clear h
  go_enter Try.func79, Try.ntmps79
  go_wp2
  go_ret
  exact ⟨rfl, by ((repeat' (first | (with_reducible exact Below.refl _ _) | (with_reducible refine Below.setCell ?_ ?_ _) | (with_reducible refine Below.alloc ?_ ?_ _) | (with_reducible refine Below.drew ?_) | (with_reducible refine Below.trans ?_ (Below.mono (by assumption) ?_)) | go_size)))⟩
theorem enters_free : ∀ args w, (callFunc 79 args).run Try.prog w = .ok (.enter 79 args) w := enters_of Try.func79 (by kernel_rfl) rfl
theorem free_on (l : List Cel) (w : World) (h : ∀ c ∈ l, VecV w c.sv c.vec) : PredOn 79 #[] argC (fun c => !c.used) l w := fun c hc W hb => c_free c W ((h c hc).grown hb)
/-- What Put answers. -/
def putE (cells : List Cel) (b e : Int) (vec : List Int) : Int :=
  if arenaOK cells = false then 190 else if verOK b e vec = false then 171 else if idxF (fun c : Cel => !c.used) cells < 0 then 6 else 0
def PutPost (cells : List Cel) (id b e : Int) (vec : List Int) (B : Nat) (x : Ending) (w' : World) : Prop :=
  (putE cells b e vec ≠ 0 ∧ x = .returned (.tuple #[.agg #[.slice none 0 0], .int .i64 0, .int .i64 (putE cells b e vec)])) ∨
  (putE cells b e vec = 0 ∧ ∃ (at_ : Nat) (v sv : Value), at_ < cells.length ∧ idxF (fun c : Cel => !c.used) cells = at_ ∧ x = .returned (.tuple #[.agg #[v], .int .i64 at_, .int .i64 0]) ∧
    w'.ownsRow B 60 5 v cells.length ((cells.set at_ ⟨true, id, b, e, sv, vec⟩).flatMap Cel.cells) ∧ VecV w' sv vec)
theorem put_bad {cells : List Cel} {id b e : Int} {vec : List Int} {E : Int} (h : putE cells b e vec = E) (hE : E ≠ 0) (B : Nat) (w' : World) : PutPost cells id b e vec B (.returned (.tuple #[.agg #[.slice none 0 0], .int .i64 0, .int .i64 E])) w' :=
  .inl ⟨by rw [h]; exact hE, by rw [h]⟩
set_option maxHeartbeats 8000000 in
theorem f_Put (vx vv : Value) (cells : List Cel) (id b e : Int) (vec : List Int) (hlen : cells.length ≤ 1000) (w : World) (hx : CelsV w vx cells) (hv : VecV w vv vec) :
    Calls Try.prog 38 #[.agg #[vx], .int .u64 id, .agg #[.int .u64 b, .int .u64 e, vv]] w fun x w' => PutPost cells id b e vec w.heap.size x w' ∧ Below w.heap.size w w' := by
  obtain ⟨a, cap, rfl, -⟩ := hx.open
  obtain ⟨va, vcp, rfl, -⟩ := hv.form
  have HX := Lib.hid (fun W (hb : Below w.heap.size w W) => hx.grown hb)
  have HV := Lib.hid (fun W (hb : Below w.heap.size w W) => hv.grown hb)
  have hvl : vec.length ≤ 1000000 ∨ verOK b e vec = false := by
    by_cases h : vec.length ≤ 1000000
    · exact .inl h
    · right
      cases hh : verOK b e vec
      · rfl
      · unfold verOK at hh
        rw [Bool.and_eq_true] at hh
        have := vecOK_len hh.1
        omega
  clear hx hv
  go_enter Try.func38, Try.ntmps38
  go_wp2_with fail
  refine (f_arenaCheck _ cells _ (HX.out _ (by ((repeat' (first | (with_reducible exact Below.refl _ _) | (with_reducible refine Below.setCell ?_ ?_ _) | (with_reducible refine Below.alloc ?_ ?_ _) | (with_reducible refine Below.drew ?_) | (with_reducible refine Below.trans ?_ (Below.mono (by assumption) ?_)) | go_size)))))).mono ?_
  rintro x w1 ⟨rfl, hb1⟩
  have z1w0 : w.heap.size < w1.heap.size := (by have := hb1.size; (try simp at this); omega)
  have q1w0 := fun o => hb1.cell (p := ⟨w.heap.size, o, none⟩) (by first | omega | (simp; done) | (simp; omega))
  have r1w0 := fun o => hb1.frozen (p := ⟨w.heap.size, o, none⟩) (by first | omega | (simp; done) | (simp; omega))
  have z1w1 : w.heap.size + 1 < w1.heap.size := (by have := hb1.size; (try simp at this); omega)
  have q1w1 := fun o => hb1.cell (p := ⟨w.heap.size + 1, o, none⟩) (by first | omega | (simp; done) | (simp; omega))
  have r1w1 := fun o => hb1.frozen (p := ⟨w.heap.size + 1, o, none⟩) (by first | omega | (simp; done) | (simp; omega))
  have z1w2 : w.heap.size + 1 + 1 < w1.heap.size := (by have := hb1.size; (try simp at this); omega)
  have q1w2 := fun o => hb1.cell (p := ⟨w.heap.size + 1 + 1, o, none⟩) (by first | omega | (simp; done) | (simp; omega))
  have r1w2 := fun o => hb1.frozen (p := ⟨w.heap.size + 1 + 1, o, none⟩) (by first | omega | (simp; done) | (simp; omega))
  have hB1 : Below w.heap.size w w1 := by ((have shb1 := hb1.size); (try simp at shb1); (repeat' (first | (with_reducible exact Below.refl _ _) | (with_reducible refine Below.setCell ?_ ?_ _) | (with_reducible refine Below.alloc ?_ ?_ _) | (with_reducible refine Below.drew ?_) | (with_reducible refine Below.trans ?_ (Below.mono hb1 ?_)) | go_size)))
  have c0_1 : w1.cell? ⟨w.heap.size, 0, none⟩ = some (.slice a cells.length cap) := by rw [q1w0]; go_simp
  have k0_1 : w1.frozen? ⟨w.heap.size, 0, none⟩ = false := by rw [r1w0]; go_simp
  have v0_1 : w1.cell? ⟨w.heap.size + 1, 0, none⟩ = some (.int .u64 b) := by rw [q1w1]; go_simp
  have v1_1 : w1.cell? ⟨w.heap.size + 1, 1, none⟩ = some (.int .u64 e) := by rw [q1w1]; go_simp
  have v2_1 : w1.cell? ⟨w.heap.size + 1, 2, none⟩ = some (.slice va vec.length vcp) := by rw [q1w1]; go_simp
  have m2_1 : w1.frozen? ⟨w.heap.size + 1, 2, none⟩ = false := by rw [r1w1]; go_simp
  have r0_1 : w1.cell? ⟨w.heap.size + 1 + 1, 0, none⟩ = some (.slice none 0 0) := by rw [q1w2]; go_simp
  have f0_1 : w1.frozen? ⟨w.heap.size + 1 + 1, 0, none⟩ = false := by rw [r1w2]; go_simp
  clear q1w0 q1w1 q1w2 r1w0 r1w1 r1w2 hb1
  cases hao : arenaOK cells
  case false =>
    have HP := Lib.hid (fun W => put_bad (id := id) (show putE cells b e vec = 190 by unfold putE; rw [if_pos hao]) (by decide) w.heap.size W)
    have HE := Lib.hid (show arenaE cells = 190 by unfold arenaE; rw [hao]; rfl)
    rw [HE.out]
    clear hao
    go_wp2
    refine bodyPost_ret (v := .tuple #[.agg #[.slice none 0 0], .int .i64 0, .int .i64 190]) (by simp only [results, Try.results38]; go_simp) rfl ⟨HP.out _, ?_⟩
    ((have shB1 := hB1.size); (try simp at shB1); (repeat' (first | (with_reducible exact Below.refl _ _) | (with_reducible refine Below.setCell ?_ ?_ _) | (with_reducible refine Below.alloc ?_ ?_ _) | (with_reducible refine Below.drew ?_) | (with_reducible refine Below.trans ?_ (Below.mono hB1 ?_)) | go_size)))
  have HAO := Lib.hid hao
  have HE := Lib.hid (show arenaE cells = 0 by unfold arenaE; rw [hao]; rfl)
  rw [HE.out]
  clear hao
  go_wp2_with fail
  refine (f_CheckVersion _ _ _ vec _ (HV.out _ hB1)).mono ?_
  rintro x w2 ⟨rfl, hb2⟩
  have hB2 : Below w.heap.size w w2 := by ((have shb2 := hb2.size); (try simp at shb2); (have shB1 := hB1.size); (try simp at shB1); (repeat' (first | (with_reducible exact Below.refl _ _) | (with_reducible refine Below.setCell ?_ ?_ _) | (with_reducible refine Below.alloc ?_ ?_ _) | (with_reducible refine Below.drew ?_) | (with_reducible refine Below.trans ?_ (Below.mono hb2 ?_)) | (with_reducible refine Below.trans ?_ (Below.mono hB1 ?_)) | go_size)))
  have c0_2 := (hb2.cell (p := ⟨w.heap.size, 0, none⟩) (by simp; omega)).trans c0_1
  have k0_2 := (hb2.frozen (p := ⟨w.heap.size, 0, none⟩) (by simp; omega)).trans k0_1
  have v0_2 := (hb2.cell (p := ⟨w.heap.size + 1, 0, none⟩) (by simp; omega)).trans v0_1
  have v1_2 := (hb2.cell (p := ⟨w.heap.size + 1, 1, none⟩) (by simp; omega)).trans v1_1
  have v2_2 := (hb2.cell (p := ⟨w.heap.size + 1, 2, none⟩) (by simp; omega)).trans v2_1
  have m2_2 := (hb2.frozen (p := ⟨w.heap.size + 1, 2, none⟩) (by simp; omega)).trans m2_1
  have r0_2 := (hb2.cell (p := ⟨w.heap.size + 1 + 1, 0, none⟩) (by simp; omega)).trans r0_1
  have f0_2 := (hb2.frozen (p := ⟨w.heap.size + 1 + 1, 0, none⟩) (by simp; omega)).trans f0_1
  have z2 : w.heap.size + 1 + 1 < w2.heap.size := by have := hb2.size; omega
  clear c0_1 k0_1 v0_1 v1_1 v2_1 m2_1 r0_1 f0_1
  cases hvo : verOK b e vec
  case false =>
    have HP := Lib.hid (fun W => put_bad (id := id) (show putE cells b e vec = 171 by unfold putE; rw [if_neg (by rw [HAO.out]; decide), if_pos hvo]) (by decide) w.heap.size W)
    have HE2 := Lib.hid (show verE b e vec = 171 by unfold verE; rw [hvo]; rfl)
    rw [HE2.out]
    clear hvo
    go_wp2
    refine bodyPost_ret (v := .tuple #[.agg #[.slice none 0 0], .int .i64 0, .int .i64 171]) (by simp only [results, Try.results38]; go_simp) rfl ⟨HP.out _, ?_⟩
    ((have shB2 := hB2.size); (try simp at shB2); (repeat' (first | (with_reducible exact Below.refl _ _) | (with_reducible refine Below.setCell ?_ ?_ _) | (with_reducible refine Below.alloc ?_ ?_ _) | (with_reducible refine Below.drew ?_) | (with_reducible refine Below.trans ?_ (Below.mono hB2 ?_)) | go_size)))
  have HVO := Lib.hid hvo
  have HE2 := Lib.hid (show verE b e vec = 0 by unfold verE; rw [hvo]; rfl)
  have hvl2 : vec.length ≤ 1000000 := by rcases hvl with h | h; exact h; rw [hvo] at h; cases h
  rw [HE2.out]
  clear hvo hvl
  go_wp2_with fail
  refine (idxC _ #[] enters_free (fun c => !c.used) _ cells _ (HX.out _ hB2) (free_on cells _ (HX.out _ hB2).2)).mono ?_
  rintro x w3 ⟨rfl, hb3⟩
  have hB3 : Below w.heap.size w w3 := by ((have shb3 := hb3.size); (try simp at shb3); (have shB2 := hB2.size); (try simp at shB2); (repeat' (first | (with_reducible exact Below.refl _ _) | (with_reducible refine Below.setCell ?_ ?_ _) | (with_reducible refine Below.alloc ?_ ?_ _) | (with_reducible refine Below.drew ?_) | (with_reducible refine Below.trans ?_ (Below.mono hb3 ?_)) | (with_reducible refine Below.trans ?_ (Below.mono hB2 ?_)) | go_size)))
  have c0_3 := (hb3.cell (p := ⟨w.heap.size, 0, none⟩) (by simp; omega)).trans c0_2
  have k0_3 := (hb3.frozen (p := ⟨w.heap.size, 0, none⟩) (by simp; omega)).trans k0_2
  have v0_3 := (hb3.cell (p := ⟨w.heap.size + 1, 0, none⟩) (by simp; omega)).trans v0_2
  have v1_3 := (hb3.cell (p := ⟨w.heap.size + 1, 1, none⟩) (by simp; omega)).trans v1_2
  have v2_3 := (hb3.cell (p := ⟨w.heap.size + 1, 2, none⟩) (by simp; omega)).trans v2_2
  have m2_3 := (hb3.frozen (p := ⟨w.heap.size + 1, 2, none⟩) (by simp; omega)).trans m2_2
  have r0_3 := (hb3.cell (p := ⟨w.heap.size + 1 + 1, 0, none⟩) (by simp; omega)).trans r0_2
  have f0_3 := (hb3.frozen (p := ⟨w.heap.size + 1 + 1, 0, none⟩) (by simp; omega)).trans f0_2
  have z3 : w.heap.size + 1 + 1 < w3.heap.size := by have := hb3.size; omega
  clear c0_2 k0_2 v0_2 v1_2 v2_2 m2_2 r0_2 f0_2 z2
  rcases idxF_cases (fun c : Cel => !c.used) cells with hI | ⟨k, hk, hI⟩
  · have HP := Lib.hid (fun W => put_bad (id := id) (show putE cells b e vec = 6 by unfold putE; rw [if_neg (by rw [HAO.out]; decide), if_neg (by rw [HVO.out]; decide), if_pos (by rw [hI]; decide)]) (by decide) w.heap.size W)
    rw [hI]
    clear hI
    go_wp2
    refine bodyPost_ret (v := .tuple #[.agg #[.slice none 0 0], .int .i64 0, .int .i64 6]) (by simp only [results, Try.results38]; go_simp) rfl ⟨HP.out _, ?_⟩
    ((have shB3 := hB3.size); (try simp at shB3); (repeat' (first | (with_reducible exact Below.refl _ _) | (with_reducible refine Below.setCell ?_ ?_ _) | (with_reducible refine Below.alloc ?_ ?_ _) | (with_reducible refine Below.drew ?_) | (with_reducible refine Below.trans ?_ (Below.mono hB3 ?_)) | go_size)))
  have HPE := Lib.hid (show putE cells b e vec = 0 by unfold putE; rw [if_neg (by rw [HAO.out]; decide), if_neg (by rw [HVO.out]; decide), if_neg (by rw [hI]; omega)])
  have HI := Lib.hid hI
  rw [hI]
  have hkl : ¬ ((k : Int) < 0) := by omega
  clear hI
  go_wp2_with fail
  refine (cloneI _ vec _ (HV.out _ hB3) hvl2).mono ?_
  rintro x w4 ⟨⟨sv, rfl, hsv⟩, hb4⟩
  clear hkl
  have hB4 : Below w.heap.size w w4 := by ((have shb4 := hb4.size); (try simp at shb4); (have shB3 := hB3.size); (try simp at shB3); (repeat' (first | (with_reducible exact Below.refl _ _) | (with_reducible refine Below.setCell ?_ ?_ _) | (with_reducible refine Below.alloc ?_ ?_ _) | (with_reducible refine Below.drew ?_) | (with_reducible refine Below.trans ?_ (Below.mono hb4 ?_)) | (with_reducible refine Below.trans ?_ (Below.mono hB3 ?_)) | go_size)))
  have c0_4 := (hb4.cell (p := ⟨w.heap.size, 0, none⟩) (by simp; omega)).trans c0_3
  have k0_4 := (hb4.frozen (p := ⟨w.heap.size, 0, none⟩) (by simp; omega)).trans k0_3
  have v0_4 := (hb4.cell (p := ⟨w.heap.size + 1, 0, none⟩) (by simp; omega)).trans v0_3
  have v1_4 := (hb4.cell (p := ⟨w.heap.size + 1, 1, none⟩) (by simp; omega)).trans v1_3
  have v2_4 := (hb4.cell (p := ⟨w.heap.size + 1, 2, none⟩) (by simp; omega)).trans v2_3
  have m2_4 := (hb4.frozen (p := ⟨w.heap.size + 1, 2, none⟩) (by simp; omega)).trans m2_3
  have r0_4 := (hb4.cell (p := ⟨w.heap.size + 1 + 1, 0, none⟩) (by simp; omega)).trans r0_3
  have f0_4 := (hb4.frozen (p := ⟨w.heap.size + 1 + 1, 0, none⟩) (by simp; omega)).trans f0_3
  have z4 : w.heap.size + 1 + 1 < w4.heap.size := by have := hb4.size; omega
  clear c0_3 k0_3 v0_3 v1_3 v2_3 m2_3 r0_3 f0_3
  have HSv := Lib.hid hsv
  obtain ⟨sa, sc, rfl⟩ := own_slice hsv
  clear hsv
  go_wp2_with fail
  refine (f_copied _ cells (by omega) _ (HX.out _ (by ((have shB4 := hB4.size); (try simp at shB4); (repeat' (first | (with_reducible exact Below.refl _ _) | (with_reducible refine Below.setCell ?_ ?_ _) | (with_reducible refine Below.alloc ?_ ?_ _) | (with_reducible refine Below.drew ?_) | (with_reducible refine Below.trans ?_ (Below.mono hB4 ?_)) | go_size)))))).mono ?_
  rintro x w5 ⟨⟨v, rfl, hown⟩, hb5⟩
  obtain ⟨W4, hW4⟩ : ∃ W4, w4.setCell ⟨w.heap.size + 1, 2, none⟩ (.slice sa vec.length sc) = W4 := ⟨_, rfl⟩
  have hs4 : W4.heap.size = w4.heap.size := by rw [← hW4]; simp
  have HSv4 := Lib.hid (show W4.ownsRow w3.heap.size 21 1 (.slice sa vec.length sc) vec.length (vec.flatMap fun x => [.int .i32 x]) from by rw [← hW4]; exact own_setCell HSv.out (by omega) _)
  have hB4' : Below w.heap.size w W4 := by rw [← hW4]; ((have shB4 := hB4.size); (try simp at shB4); (repeat' (first | (with_reducible exact Below.refl _ _) | (with_reducible refine Below.setCell ?_ ?_ _) | (with_reducible refine Below.alloc ?_ ?_ _) | (with_reducible refine Below.drew ?_) | (with_reducible refine Below.trans ?_ (Below.mono hB4 ?_)) | go_size)))
  have c0' : W4.cell? ⟨w.heap.size, 0, none⟩ = some (.slice a cells.length cap) := by rw [← hW4]; clear hW4; go_simp
  have k0' : W4.frozen? ⟨w.heap.size, 0, none⟩ = false := by rw [← hW4]; clear hW4; go_simp
  have v0' : W4.cell? ⟨w.heap.size + 1, 0, none⟩ = some (.int .u64 b) := by rw [← hW4]; clear hW4; go_simp
  have v1' : W4.cell? ⟨w.heap.size + 1, 1, none⟩ = some (.int .u64 e) := by rw [← hW4]; clear hW4; go_simp
  have v2' : W4.cell? ⟨w.heap.size + 1, 2, none⟩ = some (.slice sa vec.length sc) := by rw [← hW4]; clear hW4; go_simp
  have r0' : W4.cell? ⟨w.heap.size + 1 + 1, 0, none⟩ = some (.slice none 0 0) := by rw [← hW4]; clear hW4; go_simp
  have f0' : W4.frozen? ⟨w.heap.size + 1 + 1, 0, none⟩ = false := by rw [← hW4]; clear hW4; go_simp
  rw [hW4] at hb5 hown
  clear hW4 c0_4 k0_4 v0_4 v1_4 v2_4 m2_4 r0_4 f0_4
  have hB5 : Below w.heap.size w w5 := by ((have shb5 := hb5.size); (try simp at shb5); (have shB4' := hB4'.size); (try simp at shB4'); (repeat' (first | (with_reducible exact Below.refl _ _) | (with_reducible refine Below.setCell ?_ ?_ _) | (with_reducible refine Below.alloc ?_ ?_ _) | (with_reducible refine Below.drew ?_) | (with_reducible refine Below.trans ?_ (Below.mono hb5 ?_)) | (with_reducible refine Below.trans ?_ (Below.mono hB4' ?_)) | go_size)))
  have c0_5 := (hb5.cell (p := ⟨w.heap.size, 0, none⟩) (by simp; omega)).trans c0'
  have k0_5 := (hb5.frozen (p := ⟨w.heap.size, 0, none⟩) (by simp; omega)).trans k0'
  have v0_5 := (hb5.cell (p := ⟨w.heap.size + 1, 0, none⟩) (by simp; omega)).trans v0'
  have v1_5 := (hb5.cell (p := ⟨w.heap.size + 1, 1, none⟩) (by simp; omega)).trans v1'
  have v2_5 := (hb5.cell (p := ⟨w.heap.size + 1, 2, none⟩) (by simp; omega)).trans v2'
  have r0_5 := (hb5.cell (p := ⟨w.heap.size + 1 + 1, 0, none⟩) (by simp; omega)).trans r0'
  have f0_5 := (hb5.frozen (p := ⟨w.heap.size + 1 + 1, 0, none⟩) (by simp; omega)).trans f0'
  have hs5 := hb5.size
  have z5 : w.heap.size + 1 + 1 < w5.heap.size := by omega
  clear c0' k0' v0' v1' v2' r0' f0'
  obtain ⟨g, cp, rfl⟩ := own_addr hown (by omega)
  have hg := hown.lt g rfl
  have hg1 : W4.heap.size ≤ g := hg.1
  have hg2 : g < w5.heap.size := hg.2
  have HSv5 := Lib.hid (owns_below HSv4.out hb5)
  have hne : (Value.slice sa vec.length sc).ownBlock ≠ some g := fun e => by
    have h1 := (HSv4.out.lt g e).2
    omega
  obtain ⟨w6, hw6⟩ : ∃ w6, w5.setCell ⟨w.heap.size, 0, none⟩ (.slice (some ⟨g, 0, none⟩) cells.length cp) = w6 := ⟨_, rfl⟩
  have HO6 := Lib.hid (show w6.ownsRow W4.heap.size 60 5 (.slice (some ⟨g, 0, none⟩) cells.length cp) cells.length (cells.flatMap Cel.cells) from by rw [← hw6]; exact own_setCell hown (by omega) _)
  have HSv6 := Lib.hid (show w6.ownsRow w3.heap.size 21 1 (.slice sa vec.length sc) vec.length (vec.flatMap fun x => [.int .i32 x]) from by rw [← hw6]; exact own_setCell HSv5.out (by omega) _)
  have HS := Lib.hid (flat_set hk ⟨true, id, b, e, .slice sa vec.length sc, vec⟩)
  have hcl : cells.length * 5 = (cells.flatMap Cel.cells).length := (flatMap_len Cel.cells 5 (fun _ => rfl) cells).symm
  obtain ⟨u0, hx0⟩ := own_at HO6.out (k * 5) (by omega)
  obtain ⟨u1, hx1⟩ := own_at HO6.out (k * 5 + 1) (by omega)
  obtain ⟨u2, hx2⟩ := own_at HO6.out (k * 5 + 2) (by omega)
  obtain ⟨u3, hx3⟩ := own_at HO6.out (k * 5 + 3) (by omega)
  obtain ⟨u4, hx4⟩ := own_at HO6.out (k * 5 + 4) (by omega)
  have hfr := fun j => HO6.out.frozenAt j
  have HW := Lib.hid (((((HO6.out.stored (k * 5) (.bool true)).1.stored (k * 5 + 1) (.int .u64 id)).1.stored (k * 5 + 2) (.int .u64 b)).1.stored (k * 5 + 3) (.int .u64 e)).1.stored (k * 5 + 4) (.slice sa vec.length sc)).1
  rw [HS.out] at HW
  have b0_6 : w6.cell? ⟨w.heap.size, 0, none⟩ = some (.slice (some ⟨g, 0, none⟩) cells.length cp) := by rw [← hw6]; clear hw6; go_simp
  have v0_6 : w6.cell? ⟨w.heap.size + 1, 0, none⟩ = some (.int .u64 b) := by rw [← hw6]; clear hw6; go_simp
  have v1_6 : w6.cell? ⟨w.heap.size + 1, 1, none⟩ = some (.int .u64 e) := by rw [← hw6]; clear hw6; go_simp
  have v2_6 : w6.cell? ⟨w.heap.size + 1, 2, none⟩ = some (.slice sa vec.length sc) := by rw [← hw6]; clear hw6; go_simp
  have r0_6 : w6.cell? ⟨w.heap.size + 1 + 1, 0, none⟩ = some (.slice none 0 0) := by rw [← hw6]; clear hw6; go_simp
  have f0_6 : w6.frozen? ⟨w.heap.size + 1 + 1, 0, none⟩ = false := by rw [← hw6]; clear hw6; go_simp
  have hB6 : Below w.heap.size w w6 := by rw [← hw6]; ((have shB5 := hB5.size); (try simp at shB5); (repeat' (first | (with_reducible exact Below.refl _ _) | (with_reducible refine Below.setCell ?_ ?_ _) | (with_reducible refine Below.alloc ?_ ?_ _) | (with_reducible refine Below.drew ?_) | (with_reducible refine Below.trans ?_ (Below.mono hB5 ?_)) | go_size)))
  have hs6 : w6.heap.size = w5.heap.size := by rw [← hw6]; simp
  go_upto_region 12 with fail
  clear hw6 c0_5 v0_5 v1_5 v2_5 r0_5 f0_5 hown k0_5
  go_wp2
  refine bodyPost_ret (v := .tuple #[.agg #[.slice (some ⟨g, 0, none⟩) cells.length cp], .int .i64 (k : Int), .int .i64 0]) (by simp only [results, Try.results38]; go_simp) rfl ⟨.inr ⟨HPE.out, k, _, .slice sa vec.length sc, hk, HI.out, rfl, ?_, ?_⟩, ?_⟩
  · exact own_weaken (own_setCell HW.out (by omega) _) (by omega)
  · have h5 := own_setCell (own_setCell_ne (own_setCell_ne (own_setCell_ne (own_setCell_ne (own_setCell_ne HSv6.out hne (o := k * 5) (.bool true)) hne (o := k * 5 + 1) (.int .u64 id)) hne (o := k * 5 + 2) (.int .u64 b)) hne (o := k * 5 + 3) (.int .u64 e)) hne (o := k * 5 + 4) (.slice sa vec.length sc)) (g := w.heap.size + 1 + 1) (o := 0) (by omega) (.slice (some ⟨g, 0, none⟩) cells.length cp)
    exact ⟨Sl.of_owns h5, NilA.of_owns h5⟩
  · ((have shB6 := hB6.size); (try simp at shB6); (repeat' (first | (with_reducible exact Below.refl _ _) | (with_reducible refine Below.setCell ?_ ?_ _) | (with_reducible refine Below.alloc ?_ ?_ _) | (with_reducible refine Below.drew ?_) | (with_reducible refine Below.trans ?_ (Below.mono hB6 ?_)) | go_size)))
end Go.Proofs.Ytlfmffjlmhpcdaa
