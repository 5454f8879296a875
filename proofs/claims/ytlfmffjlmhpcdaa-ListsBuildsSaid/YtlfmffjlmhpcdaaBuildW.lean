/- The walk of lists.Build. -/
import Derived.Test.YtlfmffjlmhpcdaaBuild
namespace Go.Proofs.Ytlfmffjlmhpcdaa
open Go.RowKit
set_option maxRecDepth 100000
attribute [local irreducible] Der

/-- Lists of which both rows lie in blocks from B on, and not in block g. -/
def ListsX (B g : Nat) (w : World) (vc vm : Value) (cs : List PV) (ms : List M) : Prop :=
  w.ownsRow B 56 1 vc cs.length (cs.flatMap fun p => [p.1]) ∧ w.ownsRow B 49 2 vm ms.length (cellsM ms) ∧ vc.ownBlock ≠ some g ∧ vm.ownBlock ≠ some g
theorem own_setBox {w : World} {B e size n : Nat} {v : Value} {xs : List Value} (h : w.ownsRow B e size v n xs) {g o : Nat} (hg : v.ownBlock ≠ some g) (u : Value) : (w.setCell ⟨g, o, none⟩ u).ownsRow B e size v n xs :=
  h.kept (row := some g) (but_setCell (but_refl w _) u) (.inr hg)
theorem ListsX.setBox {B g : Nat} {w : World} {vc vm : Value} {cs : List PV} {ms : List M} (h : ListsX B g w vc vm cs ms) (o : Nat) (u : Value) : ListsX B g (w.setCell ⟨g, o, none⟩ u) vc vm cs ms :=
  ⟨own_setBox h.1 h.2.2.1 u, own_setBox h.2.1 h.2.2.2 u, h.2.2⟩
theorem ListsX.grown {B g : Nat} {w w' : World} {vc vm : Value} {cs : List PV} {ms : List M} (h : ListsX B g w vc vm cs ms) (hb : Below w.heap.size w w') : ListsX B g w' vc vm cs ms :=
  ⟨owns_below h.1 hb, owns_below h.2.1 hb, h.2.2⟩
theorem ListsX.of_O {B B' g : Nat} {w : World} {vc vm : Value} {cs : List PV} {ms : List M} (h : ListsO B' w (.agg #[vc, vm]) cs ms) (hg : g < B') (hB : B ≤ B') : ListsX B g w vc vm cs ms := by
  obtain ⟨a, b, e, h1, h2⟩ := h
  simp only [Value.agg.injEq, Array.mk.injEq, List.cons.injEq, and_true] at e
  obtain ⟨rfl, rfl⟩ := e
  exact ⟨own_weaken h1 hB, own_weaken h2 hB, fun e => by have := (h1.lt g e).1; omega, fun e => by have := (h2.lt g e).1; omega⟩
theorem ListsX.toO {B g : Nat} {w : World} {vc vm : Value} {cs : List PV} {ms : List M} (h : ListsX B g w vc vm cs ms) : ListsO B w (.agg #[vc, vm]) cs ms := ⟨vc, vm, rfl, h.1, h.2.1⟩
theorem own_type {w : World} {B e size n g t : Nat} {v : Value} {xs : List Value} {cells : Array Value} (h : w.ownsRow B e size v n xs) (hg : w.heap[g]? = some (.cells cells t)) (hne : t ≠ e) : v.ownBlock ≠ some g := by
  intro e1
  rcases h.2 with ⟨rfl, _⟩ | ⟨g', cap, cur, rfl, _, h2, _⟩
  · cases e1
  · have : g' = g := Option.some.inj e1
    subst this
    rw [hg] at h2
    simp at h2
    exact hne h2.2
theorem ListsX.born {B g t : Nat} {w : World} {vc vm : Value} {cs : List PV} {k : Nat} {cells : Array Value} (h1 : w.ownsRow B 56 1 vc cs.length (cs.flatMap fun p => [p.1])) (h2 : w.ownsRow B 49 2 vm k (cellsM (List.replicate k mZero)))
    (ht : t ≠ 56 ∧ t ≠ 49) (hg : w.heap[g]? = some (.cells cells t)) : ListsX B g w vc vm cs (List.replicate k mZero) :=
  ⟨h1, by rw [List.length_replicate]; exact h2, own_type h1 hg ht.1, own_type h2 hg ht.2⟩
def nilL : Value := .agg #[.slice none 0 0, .slice none 0 0]
def fitC (cs : List PV) (c : Cel) : Bool := decide (c.vec.length = dim0 cs)
theorem near_fit {cs : List PV} (hcs : vecsE cs = 0) (h0 : 0 < cs.length) {u : Value} {v : List Int} (hv : vecOK v = true) : vecsE ((u, v) :: cs) = if v.length = dim0 cs then 0 else 151 := by
  have ha : cs.all (fun p => vecOK p.2) = true := by
    unfold vecsE at hcs
    by_cases h : cs.all (fun p => vecOK p.2) = true
    · exact h
    · rw [if_neg h] at hcs; omega
  have hd : cs.any (otherD (dim0 cs)) = false := by
    unfold vecsE at hcs
    rw [if_pos ha] at hcs
    cases h : cs.any (otherD (dim0 cs))
    · rfl
    · rw [h] at hcs; simp at hcs
  have e1 : vecsE ((u, v) :: cs) = if ((u, v) :: cs).all (fun p => vecOK p.2) then (if ((u, v) :: cs).any (otherD v.length) then 151 else 0) else 150 := rfl
  rw [e1, List.all_cons, ha, hv]
  simp only [Bool.and_self, if_true]
  by_cases hl : v.length = dim0 cs
  · rw [if_pos hl]
    have : ((u, v) :: cs).any (otherD v.length) = false := by
      rw [List.any_cons, hl, hd]
      unfold otherD; simp [hl]
    rw [this]; rfl
  · rw [if_neg hl]
    have : ((u, v) :: cs).any (otherD v.length) = true := by
      cases cs with
      | nil => simp at h0
      | cons p t =>
        refine List.any_eq_true.2 ⟨p, by simp, ?_⟩
        unfold otherD
        have : dim0 (p :: t) = p.2.length := rfl
        rw [this] at hl
        simp; omega
    rw [this]; rfl
def BuildPost (cells : List Cel) (cs : List PV) (B : Nat) (e : Ending) (w' : World) : Prop :=
  if arenaOK cells = false then e = .returned (.tuple #[nilL, .int .i64 190])
  else if centsOK cs = false then e = .returned (.tuple #[nilL, .int .i64 230])
  else if cs = [] then e = .returned (.tuple #[nilL, .int .i64 0])
  else if cells.all (fun c => !c.used || fitC cs c) = false then e = .returned (.tuple #[nilL, .int .i64 151])
  else ∃ x, e = .returned (.tuple #[x, .int .i64 0]) ∧ ListsO B w' x cs (buildM cs cells cells.length)
theorem all_fit_no {cells : List Cel} {cs : List PV} {k : Nat} (h : k < cells.length) (hu : cells[k].used = true) (hf : fitC cs cells[k] = false) : cells.all (fun c => !c.used || fitC cs c) = false :=
  List.all_eq_false.2 ⟨cells[k], List.getElem_mem h, by simp [hu, hf]⟩
theorem all_fit_yes {cells : List Cel} {cs : List PV} (h : ∀ c ∈ cells, (!c.used || fitC cs c) = true) : cells.all (fun c => !c.used || fitC cs c) = true := List.all_eq_true.2 h
theorem arena_len {cells : List Cel} (h : arenaOK cells = true) : cells.length = 96 := by
  unfold arenaOK at h
  rw [Bool.and_eq_true, decide_eq_true_iff] at h
  exact h.1
theorem cell_ok {cells : List Cel} (h : arenaOK cells = true) {k : Nat} (hk : k < cells.length) : cellOK cells[k] = true := by
  unfold arenaOK at h
  rw [Bool.and_eq_true, List.all_eq_true] at h
  exact h.2 _ (List.getElem_mem hk)
theorem take_fit {cells : List Cel} {cs : List PV} {k : Nat} (h : ∀ c ∈ cells.take k, (!c.used || fitC cs c) = true) (hk : k < cells.length) (hf : (!cells[k].used || fitC cs cells[k]) = true) : ∀ c ∈ cells.take (k + 1), (!c.used || fitC cs c) = true := by
  intro c hc
  rw [List.take_succ_eq_append_getElem hk] at hc
  rcases List.mem_append.1 hc with h1 | h1
  · exact h c h1
  · rw [List.mem_singleton.1 h1]; exact hf
set_option maxHeartbeats 8000000 in
theorem f_Build (vx vl : Value) (cells : List Cel) (cs : List PV) (hcl : cs.length ≤ 1000) (w : World) (hx : CelsV w vx cells) (hc : VecsV w vl cs) :
    Calls Try.prog 19 #[.agg #[vx], vl] w fun e w' => BuildPost cells cs w.heap.size e w' ∧ Below w.heap.size w w' := by
  obtain ⟨a, cap, rfl, hl1, hm1, hcell⟩ := hx.open
  obtain ⟨b, cbp, rfl, hl2, hm2⟩ : ∃ a cap, vl = .slice a cs.length cap ∧ cs.length ≤ cap ∧ cap ≤ 9223372036854775807 := by
    obtain ⟨a, cap, e, h1, h2, -⟩ := hc.open; exact ⟨a, cap, e, h1, h2⟩
  have Hc := Lib.hid hcell
  have HX := Lib.hid (fun W (hb : Below w.heap.size w W) => hx.grown hb)
  have HV := Lib.hid (fun W (hb : Below w.heap.size w W) => hc.grown hb)
  clear hx hc hcell
  cases hao : arenaOK cells
  · have HE := Lib.hid (show arenaE cells = 190 by unfold arenaE; rw [hao]; rfl)
    go_enter Try.func19, Try.ntmps19
    go_wp2_with fail
    refine (f_arenaCheck _ cells _ (HX.out _ (by ((repeat' (first | (with_reducible exact Below.refl _ _) | (with_reducible refine Below.setCell ?_ ?_ _) | (with_reducible refine Below.alloc ?_ ?_ _) | (with_reducible refine Below.drew ?_) | (with_reducible refine Below.trans ?_ (Below.mono (by assumption) ?_)) | go_size)))))).mono ?_
    rintro e w1 ⟨rfl, hb1⟩
    rw [HE.out]
    have z1w0 : w.heap.size < w1.heap.size := (by have := hb1.size; (try simp at this); omega)
    have q1w0 := fun o => hb1.cell (p := ⟨w.heap.size, o, none⟩) (by first | omega | (simp; done) | (simp; omega))
    have r1w0 := fun o => hb1.frozen (p := ⟨w.heap.size, o, none⟩) (by first | omega | (simp; done) | (simp; omega))
    have z1w1 : w.heap.size + 1 < w1.heap.size := (by have := hb1.size; (try simp at this); omega)
    have q1w1 := fun o => hb1.cell (p := ⟨w.heap.size + 1, o, none⟩) (by first | omega | (simp; done) | (simp; omega))
    have r1w1 := fun o => hb1.frozen (p := ⟨w.heap.size + 1, o, none⟩) (by first | omega | (simp; done) | (simp; omega))
    go_wp2
    refine bodyPost_ret (v := .tuple #[.agg #[.slice none 0 0, .slice none 0 0], .int .i64 190]) (by simp only [results, Try.results19]; go_simp) rfl ⟨?_, ?_⟩
    · unfold BuildPost; rw [if_pos hao]; rfl
    · ((have shb1 := hb1.size); (try simp at shb1); (repeat' (first | (with_reducible exact Below.refl _ _) | (with_reducible refine Below.setCell ?_ ?_ _) | (with_reducible refine Below.alloc ?_ ?_ _) | (with_reducible refine Below.drew ?_) | (with_reducible refine Below.trans ?_ (Below.mono hb1 ?_)) | go_size)))
  · have HAO := Lib.hid hao
    have HE := Lib.hid (show arenaE cells = 0 by unfold arenaE; rw [hao]; rfl)
    clear hao
    cases hco : centsOK cs
    · have HCO := Lib.hid hco
      clear hco
      go_enter Try.func19, Try.ntmps19
      go_wp2_with fail
      refine (f_arenaCheck _ cells _ (HX.out _ (by ((repeat' (first | (with_reducible exact Below.refl _ _) | (with_reducible refine Below.setCell ?_ ?_ _) | (with_reducible refine Below.alloc ?_ ?_ _) | (with_reducible refine Below.drew ?_) | (with_reducible refine Below.trans ?_ (Below.mono (by assumption) ?_)) | go_size)))))).mono ?_
      rintro e w1 ⟨rfl, hb1⟩
      rw [HE.out]
      have z1w0 : w.heap.size < w1.heap.size := (by have := hb1.size; (try simp at this); omega)
      have q1w0 := fun o => hb1.cell (p := ⟨w.heap.size, o, none⟩) (by first | omega | (simp; done) | (simp; omega))
      have r1w0 := fun o => hb1.frozen (p := ⟨w.heap.size, o, none⟩) (by first | omega | (simp; done) | (simp; omega))
      have z1w1 : w.heap.size + 1 < w1.heap.size := (by have := hb1.size; (try simp at this); omega)
      have q1w1 := fun o => hb1.cell (p := ⟨w.heap.size + 1, o, none⟩) (by first | omega | (simp; done) | (simp; omega))
      have r1w1 := fun o => hb1.frozen (p := ⟨w.heap.size + 1, o, none⟩) (by first | omega | (simp; done) | (simp; omega))
      go_wp2_with fail
      refine (f_centroids _ cs _ (HV.out _ (by ((have shb1 := hb1.size); (try simp at shb1); (repeat' (first | (with_reducible exact Below.refl _ _) | (with_reducible refine Below.setCell ?_ ?_ _) | (with_reducible refine Below.alloc ?_ ?_ _) | (with_reducible refine Below.drew ?_) | (with_reducible refine Below.trans ?_ (Below.mono hb1 ?_)) | go_size)))))).mono ?_
      rintro e w2 ⟨rfl, hb2⟩
      rw [HCO.out]
      have z2w0 : w.heap.size < w2.heap.size := (by have := hb2.size; (try simp at this); omega)
      have q2w0 := fun o => hb2.cell (p := ⟨w.heap.size, o, none⟩) (by first | omega | (simp; done) | (simp; omega))
      have r2w0 := fun o => hb2.frozen (p := ⟨w.heap.size, o, none⟩) (by first | omega | (simp; done) | (simp; omega))
      have z2w1 : w.heap.size + 1 < w2.heap.size := (by have := hb2.size; (try simp at this); omega)
      have q2w1 := fun o => hb2.cell (p := ⟨w.heap.size + 1, o, none⟩) (by first | omega | (simp; done) | (simp; omega))
      have r2w1 := fun o => hb2.frozen (p := ⟨w.heap.size + 1, o, none⟩) (by first | omega | (simp; done) | (simp; omega))
      go_wp2
      refine bodyPost_ret (v := .tuple #[.agg #[.slice none 0 0, .slice none 0 0], .int .i64 230]) (by simp only [results, Try.results19]; go_simp) rfl ⟨?_, ?_⟩
      · unfold BuildPost; rw [if_neg (by rw [HAO.out]; decide), if_pos HCO.out]; rfl
      · ((have shb2 := hb2.size); (try simp at shb2); (have shb1 := hb1.size); (try simp at shb1); (repeat' (first | (with_reducible exact Below.refl _ _) | (with_reducible refine Below.setCell ?_ ?_ _) | (with_reducible refine Below.alloc ?_ ?_ _) | (with_reducible refine Below.drew ?_) | (with_reducible refine Below.trans ?_ (Below.mono hb2 ?_)) | (with_reducible refine Below.trans ?_ (Below.mono hb1 ?_)) | go_size)))
    · have HCO := Lib.hid hco
      clear hco
      have HCE := Lib.hid (show vecsE cs = 0 by have := HCO.out; unfold centsOK at this; simp at this; exact this.2)
      go_enter Try.func19, Try.ntmps19
      go_wp2_with fail
      refine (f_arenaCheck _ cells _ (HX.out _ (by ((repeat' (first | (with_reducible exact Below.refl _ _) | (with_reducible refine Below.setCell ?_ ?_ _) | (with_reducible refine Below.alloc ?_ ?_ _) | (with_reducible refine Below.drew ?_) | (with_reducible refine Below.trans ?_ (Below.mono (by assumption) ?_)) | go_size)))))).mono ?_
      rintro e w1 ⟨rfl, hb1⟩
      rw [HE.out]
      have z1w0 : w.heap.size < w1.heap.size := (by have := hb1.size; (try simp at this); omega)
      have q1w0 := fun o => hb1.cell (p := ⟨w.heap.size, o, none⟩) (by first | omega | (simp; done) | (simp; omega))
      have r1w0 := fun o => hb1.frozen (p := ⟨w.heap.size, o, none⟩) (by first | omega | (simp; done) | (simp; omega))
      have z1w1 : w.heap.size + 1 < w1.heap.size := (by have := hb1.size; (try simp at this); omega)
      have q1w1 := fun o => hb1.cell (p := ⟨w.heap.size + 1, o, none⟩) (by first | omega | (simp; done) | (simp; omega))
      have r1w1 := fun o => hb1.frozen (p := ⟨w.heap.size + 1, o, none⟩) (by first | omega | (simp; done) | (simp; omega))
      go_wp2_with fail
      refine (f_centroids _ cs _ (HV.out _ (by ((have shb1 := hb1.size); (try simp at shb1); (repeat' (first | (with_reducible exact Below.refl _ _) | (with_reducible refine Below.setCell ?_ ?_ _) | (with_reducible refine Below.alloc ?_ ?_ _) | (with_reducible refine Below.drew ?_) | (with_reducible refine Below.trans ?_ (Below.mono hb1 ?_)) | go_size)))))).mono ?_
      rintro e w2 ⟨rfl, hb2⟩
      rw [HCO.out]
      have z2w0 : w.heap.size < w2.heap.size := (by have := hb2.size; (try simp at this); omega)
      have q2w0 := fun o => hb2.cell (p := ⟨w.heap.size, o, none⟩) (by first | omega | (simp; done) | (simp; omega))
      have r2w0 := fun o => hb2.frozen (p := ⟨w.heap.size, o, none⟩) (by first | omega | (simp; done) | (simp; omega))
      have z2w1 : w.heap.size + 1 < w2.heap.size := (by have := hb2.size; (try simp at this); omega)
      have q2w1 := fun o => hb2.cell (p := ⟨w.heap.size + 1, o, none⟩) (by first | omega | (simp; done) | (simp; omega))
      have r2w1 := fun o => hb2.frozen (p := ⟨w.heap.size + 1, o, none⟩) (by first | omega | (simp; done) | (simp; omega))
      have hB2 : Below w.heap.size w w2 := by ((have shb2 := hb2.size); (try simp at shb2); (have shb1 := hb1.size); (try simp at shb1); (repeat' (first | (with_reducible exact Below.refl _ _) | (with_reducible refine Below.setCell ?_ ?_ _) | (with_reducible refine Below.alloc ?_ ?_ _) | (with_reducible refine Below.drew ?_) | (with_reducible refine Below.trans ?_ (Below.mono hb2 ?_)) | (with_reducible refine Below.trans ?_ (Below.mono hb1 ?_)) | go_size)))
      have c0 : w2.cell? ⟨w.heap.size, 0, none⟩ = some (.slice a cells.length cap) := by rw [q2w0]; go_simp
      have r0 : w2.cell? ⟨w.heap.size + 1, 0, none⟩ = some (.slice none 0 0) := by rw [q2w1]; go_simp
      have r1 : w2.cell? ⟨w.heap.size + 1, 1, none⟩ = some (.slice none 0 0) := by rw [q2w1]; go_simp
      have s0 : w2.frozen? ⟨w.heap.size + 1, 0, none⟩ = false := by rw [r2w1]; go_simp
      have s1 : w2.frozen? ⟨w.heap.size + 1, 1, none⟩ = false := by rw [r2w1]; go_simp
      clear q1w0 q1w1 r1w0 r1w1 q2w0 q2w1 r2w0 r2w1 hb1 hb2
      go_wp2
      refine wp_grow [(1, .rel (fun v w => w.ownsRow w2.heap.size 56 1 v cs.length (cs.flatMap fun p => [p.1])) (fun _ _ _ h hg => owns_below h hg)), (4, .rel (fun v w => w.ownsRow w2.heap.size 49 2 v cs.length (cellsM (List.replicate cs.length mZero))) (fun _ _ _ h hg => owns_below h hg)), (6, .rel (NewBox w2.heap.size 25 #[.slice none 0 0, .slice none 0 0]) (fun _ _ _ h hg => NewBox.grown h hg))] 7 (by kernel_rfl) (by kernel_rfl) (by rfl) (by rfl) ?_
      simp only [List.take_succ_cons, List.take_zero, List.drop_succ_cons, List.drop_zero]
      repeat (first
        | (apply Der.quiet; (rfl); (rfl); (intro w' hw' hctx; have hc' := bcell hw'; clear hctx; go_simp; first | exact rfl | exact ⟨rfl, rfl⟩); simp only [Act.put, List.setIfInBounds_toArray, List.set_cons_succ, List.set_cons_zero, Nat.reduceAdd])
        | (apply Der.skip; (rfl); simp only [Act.put, List.setIfInBounds_toArray, List.set_cons_succ, List.set_cons_zero, Nat.reduceAdd]))
      refine Der.rel (by rfl) (by rfl) (fun w' hw' hctx => ?_) (fun k1 => ?_)
      · (go_simp; refine (cloneV _ cs _ (HV.out _ (hB2.trans ((undrew hw').mono hB2.size))) (by omega)).mono ?_; rintro e w3 ⟨⟨v', rfl, ho⟩, hb⟩; exact ⟨_, rfl, own_weaken ho (undrew hw').size, hb⟩)
      simp only [Act.put, List.setIfInBounds_toArray, List.set_cons_succ, List.set_cons_zero, Nat.reduceAdd]
      (first
        | (apply Der.quiet; (rfl); (rfl); (intro w' hw' hctx; have hc' := bcell hw'; clear hctx; go_simp; first | exact rfl | exact ⟨rfl, rfl⟩); simp only [Act.put, List.setIfInBounds_toArray, List.set_cons_succ, List.set_cons_zero, Nat.reduceAdd])
        | (apply Der.skip; (rfl); simp only [Act.put, List.setIfInBounds_toArray, List.set_cons_succ, List.set_cons_zero, Nat.reduceAdd]))
      (first
        | (apply Der.quiet; (rfl); (rfl); (intro w' hw' hctx; have hc' := bcell hw'; clear hctx; go_simp; first | exact rfl | exact ⟨rfl, rfl⟩); simp only [Act.put, List.setIfInBounds_toArray, List.set_cons_succ, List.set_cons_zero, Nat.reduceAdd])
        | (apply Der.skip; (rfl); simp only [Act.put, List.setIfInBounds_toArray, List.set_cons_succ, List.set_cons_zero, Nat.reduceAdd]))
      refine Der.rel (by rfl) (by rfl) (fun w' hw' hctx => ?_) (fun k2 => ?_)
      · (go_simp; obtain ⟨w'', hr, ho, hb⟩ := run_make_masks w' cs.length w2.heap.size hcl (undrew hw').size; rw [hr]; exact ⟨ho, hb⟩)
      simp only [Act.put, List.setIfInBounds_toArray, List.set_cons_succ, List.set_cons_zero, Nat.reduceAdd]
      refine Der.quiet (v := .agg #[k1, k2]) (by rfl) (by rfl) (fun w' hw' hctx => ?_) ?_
      · have h1 := (hctx 1 _ _ (by kernel_rfl) rfl rfl)
        have h4 := (hctx 4 _ _ (by kernel_rfl) rfl rfl)
        obtain ⟨_, _, rfl⟩ := own_slice h1
        obtain ⟨_, _, rfl⟩ := own_slice h4
        clear hctx
        go_simp
      simp only [Act.put, List.setIfInBounds_toArray, List.set_cons_succ, List.set_cons_zero, Nat.reduceAdd]
      refine Der.rel (by rfl) (by rfl) (fun w' hw' hctx => ?_) (fun k3 => ?_)
      · (go_simp; exact ⟨NewBox.new _ _ (undrew hw').size, (Below.refl _ _).alloc (Nat.le_refl _) _⟩)
      simp only [Act.put, List.setIfInBounds_toArray, List.set_cons_succ, List.set_cons_zero, Nat.reduceAdd]
      refine Der.nil (fun w3 hg3 hctx => ?_)
      have h1 := (hctx 1 _ _ (by omega) rfl rfl)
      have h4 := (hctx 4 _ _ (by omega) rfl rfl)
      obtain ⟨Bo, rfl, hBo1, hBo2, hBo3⟩ := (hctx 6 _ _ (by omega) rfl rfl)
      have hb3 : Below w2.heap.size w2 w3 := undrew hg3
      clear hctx hg3
      have hX := ListsX.born (show w3.ownsRow w2.heap.size 56 1 k1 cs.length (cs.flatMap fun p => [p.1]) from h1) (show w3.ownsRow w2.heap.size 49 2 k2 cs.length (cellsM (List.replicate cs.length mZero)) from h4) (by simp) hBo3
      obtain ⟨xa, xc, rfl⟩ := own_slice h1
      obtain ⟨ya, yc, rfl⟩ := own_slice h4
      have HX3 := Lib.hid hX
      have d0 := cell_of_block hBo3 0
      have d1 := cell_of_block hBo3 1
      have d2 := frozen_of_block hBo3 0
      have d3 := frozen_of_block hBo3 1
      simp at d0 d1
      have c0' := (hb3.cell (p := ⟨w.heap.size, 0, none⟩) z2w0).trans c0
      have r0' := (hb3.cell (p := ⟨w.heap.size + 1, 0, none⟩) z2w1).trans r0
      have r1' := (hb3.cell (p := ⟨w.heap.size + 1, 1, none⟩) z2w1).trans r1
      have s0' := (hb3.frozen (p := ⟨w.heap.size + 1, 0, none⟩) z2w1).trans s0
      have s1' := (hb3.frozen (p := ⟨w.heap.size + 1, 1, none⟩) z2w1).trans s1
      clear h1 h4 hX hBo3 c0
      have hB3 : Below w.heap.size w w3 := by ((have shb3 := hb3.size); (try simp at shb3); (have shB2 := hB2.size); (try simp at shB2); (repeat' (first | (with_reducible exact Below.refl _ _) | (with_reducible refine Below.setCell ?_ ?_ _) | (with_reducible refine Below.alloc ?_ ?_ _) | (with_reducible refine Below.drew ?_) | (with_reducible refine Below.trans ?_ (Below.mono hb3 ?_)) | (with_reducible refine Below.trans ?_ (Below.mono hB2 ?_)) | go_size)))
      have hs3 := hb3.size
      by_cases h0 : cs.length = 0
      · have hnil : cs = [] := List.length_eq_zero_iff.1 h0
        go_wp2
        refine bodyPost_ret (v := .tuple #[.agg #[.slice none 0 0, .slice none 0 0], .int .i64 0]) (by simp only [results, Try.results19]; go_simp) rfl ⟨?_, ?_⟩
        · unfold BuildPost; rw [if_neg (by rw [HAO.out]; decide), if_neg (by rw [HCO.out]; decide), if_pos hnil]; rfl
        · ((have shb3 := hb3.size); (try simp at shb3); (have shB2 := hB2.size); (try simp at shB2); (repeat' (first | (with_reducible exact Below.refl _ _) | (with_reducible refine Below.setCell ?_ ?_ _) | (with_reducible refine Below.alloc ?_ ?_ _) | (with_reducible refine Below.drew ?_) | (with_reducible refine Below.trans ?_ (Below.mono hb3 ?_)) | (with_reducible refine Below.trans ?_ (Below.mono hB2 ?_)) | go_size)))
      · have HNE := Lib.hid (show ¬ cs = [] from fun e => h0 (by rw [e]; rfl))
        have HXs := Lib.hid ((HX3.out.setBox 0 (.slice xa cs.length xc)).setBox 1 (.slice ya cs.length yc))
        have HMl := Lib.hid (fun k => buildM_length cs cells k)
        go_wp2
        rw [show ((cs.length : Int) == 0) = false from beq_eq_false_iff_ne.2 (by omega)]
        go_loopw [35] (fun i wr => ∃ (j : Nat) (x y : Value), j ≤ cells.length ∧ i = .int .i64 j ∧ wr.cell? ⟨Bo, 0, none⟩ = some x ∧ wr.cell? ⟨Bo, 1, none⟩ = some y ∧ wr.frozen? ⟨Bo, 0, none⟩ = false ∧ wr.frozen? ⟨Bo, 1, none⟩ = false ∧
          ListsX w2.heap.size Bo wr x y cs (buildM cs cells j) ∧ (∀ c ∈ cells.take j, (!c.used || fitC cs c) = true) ∧ Below w2.heap.size w2 wr ∧ Bo < wr.heap.size) (fun i _ => cells.length - (intOf i).toNat)
        case atStart =>
          refine ⟨0, .slice xa cs.length xc, .slice ya cs.length yc, Nat.zero_le _, rfl, by go_simp, by go_simp, by go_simp, by go_simp, HXs.out, by simp, by ((have shb3 := hb3.size); (try simp at shb3); (repeat' (first | (with_reducible exact Below.refl _ _) | (with_reducible refine Below.setCell ?_ ?_ _) | (with_reducible refine Below.alloc ?_ ?_ _) | (with_reducible refine Below.drew ?_) | (with_reducible refine Below.trans ?_ (Below.mono hb3 ?_)) | go_size))), by simp; omega⟩
        case round =>
          obtain ⟨j, x, y, hj, rfl, n0, n1, m0, m1, hX, hfit, hbr, hsz⟩ := hrel
          obtain ⟨x1, x2, rfl⟩ := own_slice hX.1
          obtain ⟨y1, y2, rfl⟩ := own_slice hX.2.1
          rw [HMl.out] at n1 hX
          have hBr : Below w.heap.size w wr := by ((have shbr := hbr.size); (try simp at shbr); (have shB2 := hB2.size); (try simp at shB2); (repeat' (first | (with_reducible exact Below.refl _ _) | (with_reducible refine Below.setCell ?_ ?_ _) | (with_reducible refine Below.alloc ?_ ?_ _) | (with_reducible refine Below.drew ?_) | (with_reducible refine Below.trans ?_ (Below.mono hbr ?_)) | (with_reducible refine Below.trans ?_ (Below.mono hB2 ?_)) | go_size)))
          have HXr := Lib.hid hX
          have HF := Lib.hid hfit
          clear hX hfit
          by_cases hlt2 : j < cells.length
          · obtain ⟨b0, off, rfl, hlt, g1, g2, g3, g4, g5⟩ := Hc.out j hlt2
            have e1 := (hBr.cell (p := ⟨b0, off + j * 5, none⟩) hlt).trans g1
            have e2 := (hBr.cell (p := ⟨b0, off + j * 5 + 1, none⟩) hlt).trans g2
            have e3 := (hBr.cell (p := ⟨b0, off + j * 5 + 2, none⟩) hlt).trans g3
            have e4 := (hBr.cell (p := ⟨b0, off + j * 5 + 3, none⟩) hlt).trans g4
            have e5 := (hBr.cell (p := ⟨b0, off + j * 5 + 4, none⟩) hlt).trans g5
            have HVj := Lib.hid (fun W hb => (HX.out W hb).2 cells[j] (List.getElem_mem hlt2))
            have HOK := Lib.hid (cell_ok HAO.out hlt2)
            have HBu := Lib.hid (fun hu => buildM_used (cs := cs) hlt2 hu)
            have HBf := Lib.hid (fun hu => buildM_free (cs := cs) hlt2 hu)
            have HNo := Lib.hid (fun hu => all_fit_no (cs := cs) hlt2 hu)
            have HTk := Lib.hid (take_fit (cs := cs) HF.out hlt2)
            obtain ⟨av, cv, hav, hlv, hmv⟩ := (HVj.out _ hBr).form
            clear g1 g2 g3 g4 g5
            generalize cells[j] = c at *
            obtain ⟨used, id, cb, ce, sv, vec⟩ := c
            simp only at hav e1 e2 e3 e4 e5
            subst hav
            cases used
            · go_wp2
              go_roundw
              case rel =>
                refine ⟨j + 1, .slice x1 cs.length x2, .slice y1 cs.length y2, by omega, by go_num, by go_simp, by go_simp, by go_simp, by go_simp, ?_, HTk.out rfl, ?_, ?_⟩
                · rw [HBf.out rfl]; exact HXr.out.grown ((Below.refl _ _).alloc (Nat.le_refl _) _)
                · ((have shbr := hbr.size); (try simp at shbr); (repeat' (first | (with_reducible exact Below.refl _ _) | (with_reducible refine Below.setCell ?_ ?_ _) | (with_reducible refine Below.alloc ?_ ?_ _) | (with_reducible refine Below.drew ?_) | (with_reducible refine Below.trans ?_ (Below.mono hbr ?_)) | go_size)))
                · simp; omega
              case measure => simp [intOf]; omega
            · have hvok : vecOK vec = true := by
                have h5 : verOK cb ce vec = true := HOK.out
                unfold verOK at h5; rw [Bool.and_eq_true] at h5; exact h5.1
              have h0p : 0 < cs.length := by omega
              have hNF := near_fit HCE.out h0p (u := .slice av vec.length cv) hvok
              by_cases hd : vec.length = dim0 cs
              · rw [if_pos hd] at hNF
                have HNF := Lib.hid hNF
                have HT := Lib.hid (HTk.out (show (!true || fitC cs ⟨true, id, cb, ce, .slice av vec.length cv, vec⟩) = true by unfold fitC; simp [hd]))
                have HBj := Lib.hid (HBu.out rfl)
                have HN := Lib.hid (fun W hb => f_near_ok _ _ cs vec W (HV.out W hb) (HVj.out W hb) hcl h0p HNF.out)
                have hpc : placeC cs ⟨true, id, cb, ce, .slice av vec.length cv, vec⟩ = bestK (farD cs vec) (cs.length - 1) := rfl
                rw [hpc] at HBj
                clear hNF hd hpc
                generalize bestK (farD cs vec) (cs.length - 1) = p at *
                go_wp2_with fail
                refine (HN.out _ (by ((have shBr := hBr.size); (try simp at shBr); (repeat' (first | (with_reducible exact Below.refl _ _) | (with_reducible refine Below.setCell ?_ ?_ _) | (with_reducible refine Below.alloc ?_ ?_ _) | (with_reducible refine Below.drew ?_) | (with_reducible refine Below.trans ?_ (Below.mono hBr ?_)) | go_size))))).mono ?_
                rintro e w4 ⟨rfl, hb4⟩
                have hb4' : Below wr.heap.size wr w4 := by ((have shb4 := hb4.size); (try simp at shb4); (repeat' (first | (with_reducible exact Below.refl _ _) | (with_reducible refine Below.setCell ?_ ?_ _) | (with_reducible refine Below.alloc ?_ ?_ _) | (with_reducible refine Below.drew ?_) | (with_reducible refine Below.trans ?_ (Below.mono hb4 ?_)) | go_size)))
                have n04 := (hb4'.cell (p := ⟨Bo, 0, none⟩) hsz).trans n0
                have n14 := (hb4'.cell (p := ⟨Bo, 1, none⟩) hsz).trans n1
                have m04 := (hb4'.frozen (p := ⟨Bo, 0, none⟩) hsz).trans m0
                have m14 := (hb4'.frozen (p := ⟨Bo, 1, none⟩) hsz).trans m1
                have hs4 := hb4'.size
                have hB4 : Below w.heap.size w w4 := by ((have shb4' := hb4'.size); (try simp at shb4'); (have shBr := hBr.size); (try simp at shBr); (repeat' (first | (with_reducible exact Below.refl _ _) | (with_reducible refine Below.setCell ?_ ?_ _) | (with_reducible refine Below.alloc ?_ ?_ _) | (with_reducible refine Below.drew ?_) | (with_reducible refine Below.trans ?_ (Below.mono hb4' ?_)) | (with_reducible refine Below.trans ?_ (Below.mono hBr ?_)) | go_size)))
                have hb24 : Below w2.heap.size w2 w4 := by ((have shb4' := hb4'.size); (try simp at shb4'); (have shbr := hbr.size); (try simp at shbr); (repeat' (first | (with_reducible exact Below.refl _ _) | (with_reducible refine Below.setCell ?_ ?_ _) | (with_reducible refine Below.alloc ?_ ?_ _) | (with_reducible refine Below.drew ?_) | (with_reducible refine Below.trans ?_ (Below.mono hb4' ?_)) | (with_reducible refine Below.trans ?_ (Below.mono hbr ?_)) | go_size)))
                have HX4 := Lib.hid (HXr.out.grown hb4')
                have hl96 := (arena_len HAO.out)
                have HPut := Lib.hid (f_put _ _ cs (buildM cs cells j) p (j : Int) ⟨by omega, by omega⟩ (fun i hi _ => by rw [← mAt_get hi]; exact buildM_chk cs cells (by omega) j i (by omega) (by rw [← HMl.out j]; exact hi)) hcl (by rw [HMl.out]; exact hcl) w4
                  (VecsV.of_own HX4.out.1 rfl (HV.out w (Below.refl _ _)).2 hB4) (Masks.of_own HX4.out.2.1 rfl))
                clear n0 n1 m0 m1 e1 e2 e3 e4 e5 hl96
                go_wp2_with fail
                refine HPut.out.mono ?_
                rintro e w5 ⟨⟨x', rfl, hx'⟩, hb5⟩
                have hb5' : Below w4.heap.size w4 w5 := by ((have shb5 := hb5.size); (try simp at shb5); (repeat' (first | (with_reducible exact Below.refl _ _) | (with_reducible refine Below.setCell ?_ ?_ _) | (with_reducible refine Below.alloc ?_ ?_ _) | (with_reducible refine Below.drew ?_) | (with_reducible refine Below.trans ?_ (Below.mono hb5 ?_)) | go_size)))
                obtain ⟨xa', xc', ya', yc', rfl⟩ := hx'.form
                rw [withL_length, HMl.out] at hx'
                have hz4 : Bo < w4.heap.size := by omega
                have n05 := (hb5'.cell (p := ⟨Bo, 0, none⟩) hz4).trans n04
                have n15 := (hb5'.cell (p := ⟨Bo, 1, none⟩) hz4).trans n14
                have m05 := (hb5'.frozen (p := ⟨Bo, 0, none⟩) hz4).trans m04
                have m15 := (hb5'.frozen (p := ⟨Bo, 1, none⟩) hz4).trans m14
                have hs5 := hb5'.size
                have HX5 := Lib.hid ((ListsX.of_O (g := Bo) (B := w2.heap.size) hx' hz4 (by omega)).setBox 0 (.slice xa' cs.length xc') |>.setBox 1 (.slice ya' cs.length yc'))
                have HMw := Lib.hid (show (withL (putD p (j : Int)) (buildM cs cells j) (buildM cs cells j).length).length = cs.length by rw [withL_length, HMl.out])
                rw [HMw.out]
                have hb25 : Below w2.heap.size w2 w5 := by ((have shb5' := hb5'.size); (try simp at shb5'); (have shb24 := hb24.size); (try simp at shb24); (repeat' (first | (with_reducible exact Below.refl _ _) | (with_reducible refine Below.setCell ?_ ?_ _) | (with_reducible refine Below.alloc ?_ ?_ _) | (with_reducible refine Below.drew ?_) | (with_reducible refine Below.trans ?_ (Below.mono hb5' ?_)) | (with_reducible refine Below.trans ?_ (Below.mono hb24 ?_)) | go_size)))
                clear hx' n04 n14 m04 m14
                go_wp2
                go_roundw
                case rel =>
                  refine ⟨j + 1, .slice xa' cs.length xc', .slice ya' cs.length yc', by omega, by go_num, by go_simp, by go_simp, by go_simp, by go_simp, ?_, HT.out, ?_, ?_⟩
                  · rw [HBj.out, HMl.out]; exact HX5.out
                  · ((have shb25 := hb25.size); (try simp at shb25); (repeat' (first | (with_reducible exact Below.refl _ _) | (with_reducible refine Below.setCell ?_ ?_ _) | (with_reducible refine Below.alloc ?_ ?_ _) | (with_reducible refine Below.drew ?_) | (with_reducible refine Below.trans ?_ (Below.mono hb25 ?_)) | go_size)))
                  · simp; omega
                case measure => simp [intOf]; omega
              · rw [if_neg hd] at hNF
                have HNF := Lib.hid hNF
                have HNO := Lib.hid (HNo.out rfl (show fitC cs ⟨true, id, cb, ce, .slice av vec.length cv, vec⟩ = false by unfold fitC; simp [hd]))
                have HN := Lib.hid (fun W hb => f_near_bad _ _ cs vec W (HV.out W hb) (HVj.out W hb) hcl h0p 151 HNF.out (by decide))
                clear hNF hd
                go_wp2_with fail
                refine (HN.out _ (by ((have shBr := hBr.size); (try simp at shBr); (repeat' (first | (with_reducible exact Below.refl _ _) | (with_reducible refine Below.setCell ?_ ?_ _) | (with_reducible refine Below.alloc ?_ ?_ _) | (with_reducible refine Below.drew ?_) | (with_reducible refine Below.trans ?_ (Below.mono hBr ?_)) | go_size))))).mono ?_
                rintro e w4 ⟨rfl, hb4⟩
                have hb4' : Below wr.heap.size wr w4 := by ((have shb4 := hb4.size); (try simp at shb4); (repeat' (first | (with_reducible exact Below.refl _ _) | (with_reducible refine Below.setCell ?_ ?_ _) | (with_reducible refine Below.alloc ?_ ?_ _) | (with_reducible refine Below.drew ?_) | (with_reducible refine Below.trans ?_ (Below.mono hb4 ?_)) | go_size)))
                have hB4 : Below w.heap.size w w4 := by ((have shb4' := hb4'.size); (try simp at shb4'); (have shBr := hBr.size); (try simp at shBr); (repeat' (first | (with_reducible exact Below.refl _ _) | (with_reducible refine Below.setCell ?_ ?_ _) | (with_reducible refine Below.alloc ?_ ?_ _) | (with_reducible refine Below.drew ?_) | (with_reducible refine Below.trans ?_ (Below.mono hb4' ?_)) | (with_reducible refine Below.trans ?_ (Below.mono hBr ?_)) | go_size)))
                have hb24 : Below w2.heap.size w2 w4 := by ((have shb4' := hb4'.size); (try simp at shb4'); (have shbr := hbr.size); (try simp at shbr); (repeat' (first | (with_reducible exact Below.refl _ _) | (with_reducible refine Below.setCell ?_ ?_ _) | (with_reducible refine Below.alloc ?_ ?_ _) | (with_reducible refine Below.drew ?_) | (with_reducible refine Below.trans ?_ (Below.mono hb4' ?_)) | (with_reducible refine Below.trans ?_ (Below.mono hbr ?_)) | go_size)))
                have zz1 : w.heap.size + 1 < wr.heap.size := by omega
                have zz2 : w.heap.size + 1 < w4.heap.size := by have := hb4'.size; omega
                have r04 := (hb4'.cell (p := ⟨w.heap.size + 1, 0, none⟩) zz1).trans ((hbr.cell (p := ⟨w.heap.size + 1, 0, none⟩) z2w1).trans r0)
                have r14 := (hb4'.cell (p := ⟨w.heap.size + 1, 1, none⟩) zz1).trans ((hbr.cell (p := ⟨w.heap.size + 1, 1, none⟩) z2w1).trans r1)
                have s04 := (hb4'.frozen (p := ⟨w.heap.size + 1, 0, none⟩) zz1).trans ((hbr.frozen (p := ⟨w.heap.size + 1, 0, none⟩) z2w1).trans s0)
                have s14 := (hb4'.frozen (p := ⟨w.heap.size + 1, 1, none⟩) zz1).trans ((hbr.frozen (p := ⟨w.heap.size + 1, 1, none⟩) z2w1).trans s1)
                clear n0 n1 m0 m1 e1 e2 e3 e4 e5
                go_wp2
                refine bodyPost_ret (v := .tuple #[.agg #[.slice none 0 0, .slice none 0 0], .int .i64 151]) (by simp only [results, Try.results19]; go_simp) rfl ⟨?_, ?_⟩
                · unfold BuildPost; rw [if_neg (by rw [HAO.out]; decide), if_neg (by rw [HCO.out]; decide), if_neg HNE.out, if_pos HNO.out]; rfl
                · ((have shB4 := hB4.size); (try simp at shB4); (repeat' (first | (with_reducible exact Below.refl _ _) | (with_reducible refine Below.setCell ?_ ?_ _) | (with_reducible refine Below.alloc ?_ ?_ _) | (with_reducible refine Below.drew ?_) | (with_reducible refine Below.trans ?_ (Below.mono hB4 ?_)) | go_size)))
          · have : j = cells.length := by omega
            subst this
            have HT := Lib.hid (all_fit_yes (cs := cs) (fun c hc => HF.out c (by rw [List.take_of_length_le (Nat.le_refl _)]; exact hc)))
            have zz1 : w.heap.size + 1 < wr.heap.size := by omega
            have r04 := (hbr.cell (p := ⟨w.heap.size + 1, 0, none⟩) z2w1).trans r0
            have r14 := (hbr.cell (p := ⟨w.heap.size + 1, 1, none⟩) z2w1).trans r1
            have s04 := (hbr.frozen (p := ⟨w.heap.size + 1, 0, none⟩) z2w1).trans s0
            have s14 := (hbr.frozen (p := ⟨w.heap.size + 1, 1, none⟩) z2w1).trans s1
            go_wp2
            refine bodyPost_ret (v := .tuple #[.agg #[.slice x1 cs.length x2, .slice y1 cs.length y2], .int .i64 0]) (by simp only [results, Try.results19]; go_simp) rfl ⟨?_, ?_⟩
            · unfold BuildPost; rw [if_neg (by rw [HAO.out]; decide), if_neg (by rw [HCO.out]; decide), if_neg HNE.out, if_neg (by rw [HT.out]; decide)]
              exact ⟨_, rfl, (((HXr.out.toO).setCell (by omega) _).setCell (by omega) _).weaken (by omega)⟩
            · ((have shBr := hBr.size); (try simp at shBr); (repeat' (first | (with_reducible exact Below.refl _ _) | (with_reducible refine Below.setCell ?_ ?_ _) | (with_reducible refine Below.alloc ?_ ?_ _) | (with_reducible refine Below.drew ?_) | (with_reducible refine Below.trans ?_ (Below.mono hBr ?_)) | go_size)))
end Go.Proofs.Ytlfmffjlmhpcdaa
