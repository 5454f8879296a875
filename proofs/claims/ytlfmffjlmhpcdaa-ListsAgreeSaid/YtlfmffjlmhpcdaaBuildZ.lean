/- lists.Build: the lists of centroids that agree with an arena. -/
import Derived.Test.YtlfmffjlmhpcdaaListsZ
import Derived.Laws.OwnMore
namespace Go.Proofs.Ytlfmffjlmhpcdaa
open Go.RowKit
set_option maxRecDepth 100000
attribute [local irreducible] Der

theorem made_masks (n : Nat) : (madeCells (Value.cells (.agg #[.int .u64 0, .int .u64 0])) (n * 2)).toList = cellsM (List.replicate n mZero) := by
  apply List.ext_getElem
  · rw [cellsM_length]; simp [madeCells]; omega
  · intro i h1 h2
    rw [cellsM_length, List.length_replicate] at h2
    have hi : i / 2 < (List.replicate n mZero).length := by rw [List.length_replicate]; omega
    obtain ⟨g1, g2⟩ := cellsM_get (List.replicate n mZero) (i / 2) hi
    have e : i = 2 * (i / 2) ∨ i = 2 * (i / 2) + 1 := by omega
    simp only [List.getElem_replicate, mZero, U_zero] at g1 g2
    rcases e with e | e
    · have h3 : (cellsM (List.replicate n mZero))[i]? = some (.int .u64 0) := by rw [e]; exact g1
      rw [List.getElem?_eq_getElem (by rw [cellsM_length, List.length_replicate]; omega)] at h3
      rw [Option.some.inj h3]
      simp [madeCells, Value.cells]
      have : i % 2 = 0 := by omega
      simp [this]
    · have h3 : (cellsM (List.replicate n mZero))[i]? = some (.int .u64 0) := by rw [e]; exact g2
      rw [List.getElem?_eq_getElem (by rw [cellsM_length, List.length_replicate]; omega)] at h3
      rw [Option.some.inj h3]
      simp [madeCells, Value.cells]
      have : i % 2 = 1 := by omega
      simp [this]
theorem run_make_masks (W : World) (n base : Nat) (hn : n ≤ 1000) (hb : base ≤ W.heap.size) : ∃ w', (Instr.makeSlice 23 (.int .i64 (n : Int)) (.int .i64 (n : Int))).run Try.prog W = .ok (.slice (some ⟨W.heap.size, 0, none⟩) n n) w' ∧
    w'.ownsRow base 49 2 (.slice (some ⟨W.heap.size, 0, none⟩) n n) n (cellsM (List.replicate n mZero)) ∧ Below W.heap.size W w' := by
  obtain ⟨i0, hi, hz0, hz1, hz2⟩ := info_parts info_mask'
  obtain ⟨w', h1, h2, h3⟩ := run_makeSlice_full (P := Try.prog) (w := W) base 23 49 i0 _ 2 Try.underlying23 hi hz0 hz1 .i64 .i64 n (by omega) (by rw [hz2]; omega) (by unfold maxLen; omega) hb
  refine ⟨w', h1, ?_, ?_⟩
  · rw [made_masks] at h2; exact h2
  · exact ⟨h3.os, h3.tape, h3.output, h3.size, fun i hi => h3.block i hi (by simp)⟩
/-- Where a cell's vector belongs. -/
def placeC (cs : List PV) (c : Cel) : Nat := bestK (farD cs c.vec) (cs.length - 1)
/-- The masks that are built of the first k cells. -/
def buildM (cs : List PV) (cells : List Cel) : Nat → List M
  | 0 => List.replicate cs.length mZero
  | k + 1 => match cells[k]? with
    | some c => if c.used then withL (putD (placeC cs c) (k : Int)) (buildM cs cells k) cs.length else buildM cs cells k
    | none => buildM cs cells k
theorem buildM_length (cs : List PV) (cells : List Cel) : ∀ k, (buildM cs cells k).length = cs.length
  | 0 => by simp [buildM]
  | k + 1 => by
    unfold buildM
    split
    · split
      · exact withL_length _ _ _
      · exact buildM_length cs cells k
    · exact buildM_length cs cells k
theorem buildM_used {cs : List PV} {cells : List Cel} {k : Nat} (h : k < cells.length) (hu : cells[k].used = true) : buildM cs cells (k + 1) = withL (putD (placeC cs cells[k]) (k : Int)) (buildM cs cells k) (buildM cs cells k).length := by
  rw [buildM_length]
  show (match cells[k]? with | some c => if c.used then withL (putD (placeC cs c) (k : Int)) (buildM cs cells k) cs.length else buildM cs cells k | none => buildM cs cells k) = _
  rw [List.getElem?_eq_getElem h]
  simp [hu]
theorem buildM_free {cs : List PV} {cells : List Cel} {k : Nat} (h : k < cells.length) (hu : cells[k].used = false) : buildM cs cells (k + 1) = buildM cs cells k := by
  show (match cells[k]? with | some c => if c.used then withL (putD (placeC cs c) (k : Int)) (buildM cs cells k) cs.length else buildM cs cells k | none => buildM cs cells k) = _
  rw [List.getElem?_eq_getElem h]
  simp [hu]
theorem chk_or_bit {b : BitVec 64} (h : chk b = 0) {s : Int} (hs : isSlot s) : chk (b ||| bit1 s) = 0 := by
  have e1 : b &&& ~~~low32 = 0#64 := by unfold chk at h; split at h; assumption; omega
  have e2 : bit1 s &&& ~~~low32 = 0#64 := by
    apply BitVec.eq_of_getLsbD_eq
    intro i hi
    rw [BitVec.getLsbD_and, BitVec.getLsbD_not, bit1_bit s i hi hs.2, low32_bit i hi, BitVec.getLsbD_zero]
    have h2 := hs.2
    by_cases hc : (i : Int) = s - 64
    · have : i < 32 := by omega
      simp [this]
    · simp [hc]
  have e3 : (b ||| bit1 s) &&& ~~~low32 = 0#64 := by
    apply BitVec.eq_of_getLsbD_eq
    intro i hi
    have g1 := congrArg (fun x => BitVec.getLsbD x i) e1
    have g2 := congrArg (fun x => BitVec.getLsbD x i) e2
    simp only [BitVec.getLsbD_and, BitVec.getLsbD_or, BitVec.getLsbD_zero] at g1 g2 ⊢
    cases hx : b.getLsbD i <;> cases hy : (bit1 s).getLsbD i <;> simp_all
  unfold chk; rw [if_pos e3]
theorem mAt_withL (d : Nat → M → M) (ms : List M) (n i : Nat) (h : i < n) : mAt (withL d ms n) i = d i (mAt ms i) := by
  unfold mAt withL
  rw [List.getElem?_map, List.getElem?_range h]
  rfl
theorem buildM_chk (cs : List PV) (cells : List Cel) (h96 : cells.length ≤ 96) : ∀ k i, k ≤ cells.length → i < cs.length → chk (mAt (buildM cs cells k) i).2 = 0
  | 0, i, _, hi => by
    have : mAt (buildM cs cells 0) i = mZero := by unfold mAt buildM; rw [List.getElem?_replicate, if_pos hi]; rfl
    rw [this]; decide
  | k + 1, i, hk, hi => by
    have ih := buildM_chk cs cells h96 k i (by omega) hi
    have hk' : k < cells.length := by omega
    cases hu : cells[k].used
    · rw [buildM_free hk' hu]; exact ih
    · rw [buildM_used hk' hu, buildM_length, mAt_withL _ _ _ _ hi]
      unfold putD
      split
      · exact chk_or_bit ih ⟨by omega, by omega⟩
      · exact ih
end Go.Proofs.Ytlfmffjlmhpcdaa

/- The walk of lists.Build. -/
namespace Go.Proofs.Ytlfmffjlmhpcdaa
open Go.RowKit
set_option maxRecDepth 100000
attribute [local irreducible] Der

/-- Lists of which both rows lie in blocks from B on, and not in block g. -/
def ListsX (B g : Nat) (w : World) (vc vm : Value) (cs : List PV) (ms : List M) : Prop :=
  w.ownsRow B 56 1 vc cs.length (cs.flatMap fun p => [p.1]) ∧ w.ownsRow B 49 2 vm ms.length (cellsM ms) ∧ vc.ownBlock ≠ some g ∧ vm.ownBlock ≠ some g
theorem own_setBox {w : World} {B e size n : Nat} {v : Value} {xs : List Value} (h : w.ownsRow B e size v n xs) {g o : Nat} (hg : v.ownBlock ≠ some g) (u : Value) : (w.setCell ⟨g, o, none⟩ u).ownsRow B e size v n xs :=
  h.kept (row := some g) (but_setCell (but_refl w _) u) (.inr hg)
theorem ListsX.setBox {B g : Nat} {w : World} {vc vm : Value} {cs : List PV} {ms : List M} (h : ListsX B g w vc vm cs ms) (o : Nat) (u : Value) : ListsX B g (w.setCell ⟨g, o, none⟩ u) vc vm cs ms :=
  ⟨own_setBox h.1 h.2.2.1 u, own_setBox h.2.1 h.2.2.2 u, h.2.2⟩
theorem ListsX.grown {B g : Nat} {w w' : World} {vc vm : Value} {cs : List PV} {ms : List M} (h : ListsX B g w vc vm cs ms) (hb : Below w.heap.size w w') : ListsX B g w' vc vm cs ms :=
  ⟨owns_below h.1 hb, owns_below h.2.1 hb, h.2.2⟩
theorem ListsX.of_O {B B' g : Nat} {w : World} {vc vm : Value} {cs : List PV} {ms : List M} (h : ListsO B' w (.agg #[vc, vm]) cs ms) (hg : g < B') (hB : B ≤ B') : ListsX B g w vc vm cs ms := by
  obtain ⟨a, b, e, h1, h2⟩ := h
  simp only [Value.agg.injEq, Array.mk.injEq, List.cons.injEq, and_true] at e
  obtain ⟨rfl, rfl⟩ := e
  exact ⟨own_weaken h1 hB, own_weaken h2 hB, fun e => by have := (h1.lt g e).1; omega, fun e => by have := (h2.lt g e).1; omega⟩
theorem ListsX.toO {B g : Nat} {w : World} {vc vm : Value} {cs : List PV} {ms : List M} (h : ListsX B g w vc vm cs ms) : ListsO B w (.agg #[vc, vm]) cs ms := ⟨vc, vm, rfl, h.1, h.2.1⟩
theorem own_type {w : World} {B e size n g t : Nat} {v : Value} {xs : List Value} {cells : Array Value} (h : w.ownsRow B e size v n xs) (hg : w.heap[g]? = some (.cells cells t)) (hne : t ≠ e) : v.ownBlock ≠ some g := by
  intro e1
  rcases h.2 with ⟨rfl, _⟩ | ⟨g', cap, cur, rfl, _, h2, _⟩
  · cases e1
  · have : g' = g := Option.some.inj e1
    subst this
    rw [hg] at h2
    simp at h2
    exact hne h2.2
theorem ListsX.born {B g t : Nat} {w : World} {vc vm : Value} {cs : List PV} {k : Nat} {cells : Array Value} (h1 : w.ownsRow B 56 1 vc cs.length (cs.flatMap fun p => [p.1])) (h2 : w.ownsRow B 49 2 vm k (cellsM (List.replicate k mZero)))
    (ht : t ≠ 56 ∧ t ≠ 49) (hg : w.heap[g]? = some (.cells cells t)) : ListsX B g w vc vm cs (List.replicate k mZero) :=
  ⟨h1, by rw [List.length_replicate]; exact h2, own_type h1 hg ht.1, own_type h2 hg ht.2⟩
def nilL : Value := .agg #[.slice none 0 0, .slice none 0 0]
def fitC (cs : List PV) (c : Cel) : Bool := decide (c.vec.length = dim0 cs)
theorem near_fit {cs : List PV} (hcs : vecsE cs = 0) (h0 : 0 < cs.length) {u : Value} {v : List Int} (hv : vecOK v = true) : vecsE ((u, v) :: cs) = if v.length = dim0 cs then 0 else 151 := by
  have ha : cs.all (fun p => vecOK p.2) = true := by
    unfold vecsE at hcs
    by_cases h : cs.all (fun p => vecOK p.2) = true
    · exact h
    · rw [if_neg h] at hcs; omega
  have hd : cs.any (otherD (dim0 cs)) = false := by
    unfold vecsE at hcs
    rw [if_pos ha] at hcs
    cases h : cs.any (otherD (dim0 cs))
    · rfl
    · rw [h] at hcs; simp at hcs
  have e1 : vecsE ((u, v) :: cs) = if ((u, v) :: cs).all (fun p => vecOK p.2) then (if ((u, v) :: cs).any (otherD v.length) then 151 else 0) else 150 := rfl
  rw [e1, List.all_cons, ha, hv]
  simp only [Bool.and_self, if_true]
  by_cases hl : v.length = dim0 cs
  · rw [if_pos hl]
    have : ((u, v) :: cs).any (otherD v.length) = false := by
      rw [List.any_cons, hl, hd]
      unfold otherD; simp [hl]
    rw [this]; rfl
  · rw [if_neg hl]
    have : ((u, v) :: cs).any (otherD v.length) = true := by
      cases cs with
      | nil => simp at h0
      | cons p t =>
        refine List.any_eq_true.2 ⟨p, by simp, ?_⟩
        unfold otherD
        have : dim0 (p :: t) = p.2.length := rfl
        rw [this] at hl
        simp; omega
    rw [this]; rfl
def BuildPost (cells : List Cel) (cs : List PV) (B : Nat) (e : Ending) (w' : World) : Prop :=
  if arenaOK cells = false then e = .returned (.tuple #[nilL, .int .i64 190])
  else if centsOK cs = false then e = .returned (.tuple #[nilL, .int .i64 230])
  else if cs = [] then e = .returned (.tuple #[nilL, .int .i64 0])
  else if cells.all (fun c => !c.used || fitC cs c) = false then e = .returned (.tuple #[nilL, .int .i64 151])
  else ∃ x, e = .returned (.tuple #[x, .int .i64 0]) ∧ ListsO B w' x cs (buildM cs cells cells.length)
theorem all_fit_no {cells : List Cel} {cs : List PV} {k : Nat} (h : k < cells.length) (hu : cells[k].used = true) (hf : fitC cs cells[k] = false) : cells.all (fun c => !c.used || fitC cs c) = false :=
  List.all_eq_false.2 ⟨cells[k], List.getElem_mem h, by simp [hu, hf]⟩
theorem all_fit_yes {cells : List Cel} {cs : List PV} (h : ∀ c ∈ cells, (!c.used || fitC cs c) = true) : cells.all (fun c => !c.used || fitC cs c) = true := List.all_eq_true.2 h
theorem arena_len {cells : List Cel} (h : arenaOK cells = true) : cells.length = 96 := by
  unfold arenaOK at h
  rw [Bool.and_eq_true, decide_eq_true_iff] at h
  exact h.1
theorem cell_ok {cells : List Cel} (h : arenaOK cells = true) {k : Nat} (hk : k < cells.length) : cellOK cells[k] = true := by
  unfold arenaOK at h
  rw [Bool.and_eq_true, List.all_eq_true] at h
  exact h.2 _ (List.getElem_mem hk)
theorem take_fit {cells : List Cel} {cs : List PV} {k : Nat} (h : ∀ c ∈ cells.take k, (!c.used || fitC cs c) = true) (hk : k < cells.length) (hf : (!cells[k].used || fitC cs cells[k]) = true) : ∀ c ∈ cells.take (k + 1), (!c.used || fitC cs c) = true := by
  intro c hc
  rw [List.take_succ_eq_append_getElem hk] at hc
  rcases List.mem_append.1 hc with h1 | h1
  · exact h c h1
  · rw [List.mem_singleton.1 h1]; exact hf
set_option maxHeartbeats 8000000 in
theorem f_Build (vx vl : Value) (cells : List Cel) (cs : List PV) (hcl : cs.length ≤ 1000) (w : World) (hx : CelsV w vx cells) (hc : VecsV w vl cs) :
    Calls Try.prog 19 #[.agg #[vx], vl] w fun e w' => BuildPost cells cs w.heap.size e w' ∧ Below w.heap.size w w' := by
  obtain ⟨a, cap, rfl, hl1, hm1, hcell⟩ := hx.open
  obtain ⟨b, cbp, rfl, hl2, hm2⟩ : ∃ a cap, vl = .slice a cs.length cap ∧ cs.length ≤ cap ∧ cap ≤ 9223372036854775807 := by
    obtain ⟨a, cap, e, h1, h2, -⟩ := hc.open; exact ⟨a, cap, e, h1, h2⟩
  have Hc := Lib.hid hcell
  have HX := Lib.hid (fun W (hb : Below w.heap.size w W) => hx.grown hb)
  have HV := Lib.hid (fun W (hb : Below w.heap.size w W) => hc.grown hb)
  clear hx hc hcell
  cases hao : arenaOK cells
  · have HE := Lib.hid (show arenaE cells = 190 by unfold arenaE; rw [hao]; rfl)
    go_enter Try.func19, Try.ntmps19
    go_wp2_with fail
    refine (f_arenaCheck _ cells _ (HX.out _ (by ((repeat' (first | (with_reducible exact Below.refl _ _) | (with_reducible refine Below.setCell ?_ ?_ _) | (with_reducible refine Below.alloc ?_ ?_ _) | (with_reducible refine Below.drew ?_) | (with_reducible refine Below.trans ?_ (Below.mono (by assumption) ?_)) | go_size)))))).mono ?_
    rintro e w1 ⟨rfl, hb1⟩
    rw [HE.out]
    have z1w0 : w.heap.size < w1.heap.size := (by have := hb1.size; (try simp at this); omega)
    have q1w0 := fun o => hb1.cell (p := ⟨w.heap.size, o, none⟩) (by first | omega | (simp; done) | (simp; omega))
    have r1w0 := fun o => hb1.frozen (p := ⟨w.heap.size, o, none⟩) (by first | omega | (simp; done) | (simp; omega))
    have z1w1 : w.heap.size + 1 < w1.heap.size := (by have := hb1.size; (try simp at this); omega)
    have q1w1 := fun o => hb1.cell (p := ⟨w.heap.size + 1, o, none⟩) (by first | omega | (simp; done) | (simp; omega))
    have r1w1 := fun o => hb1.frozen (p := ⟨w.heap.size + 1, o, none⟩) (by first | omega | (simp; done) | (simp; omega))
    go_wp2
    refine bodyPost_ret (v := .tuple #[.agg #[.slice none 0 0, .slice none 0 0], .int .i64 190]) (by simp only [results, Try.results19]; go_simp) rfl ⟨?_, ?_⟩
    · unfold BuildPost; rw [if_pos hao]; rfl
    · ((have shb1 := hb1.size); (try simp at shb1); (repeat' (first | (with_reducible exact Below.refl _ _) | (with_reducible refine Below.setCell ?_ ?_ _) | (with_reducible refine Below.alloc ?_ ?_ _) | (with_reducible refine Below.drew ?_) | (with_reducible refine Below.trans ?_ (Below.mono hb1 ?_)) | go_size)))
  · have HAO := Lib.hid hao
    have HE := Lib.hid (show arenaE cells = 0 by unfold arenaE; rw [hao]; rfl)
    clear hao
    cases hco : centsOK cs
    · have HCO := Lib.hid hco
      clear hco
      go_enter Try.func19, Try.ntmps19
      go_wp2_with fail
      refine (f_arenaCheck _ cells _ (HX.out _ (by ((repeat' (first | (with_reducible exact Below.refl _ _) | (with_reducible refine Below.setCell ?_ ?_ _) | (with_reducible refine Below.alloc ?_ ?_ _) | (with_reducible refine Below.drew ?_) | (with_reducible refine Below.trans ?_ (Below.mono (by assumption) ?_)) | go_size)))))).mono ?_
      rintro e w1 ⟨rfl, hb1⟩
      rw [HE.out]
      have z1w0 : w.heap.size < w1.heap.size := (by have := hb1.size; (try simp at this); omega)
      have q1w0 := fun o => hb1.cell (p := ⟨w.heap.size, o, none⟩) (by first | omega | (simp; done) | (simp; omega))
      have r1w0 := fun o => hb1.frozen (p := ⟨w.heap.size, o, none⟩) (by first | omega | (simp; done) | (simp; omega))
      have z1w1 : w.heap.size + 1 < w1.heap.size := (by have := hb1.size; (try simp at this); omega)
      have q1w1 := fun o => hb1.cell (p := ⟨w.heap.size + 1, o, none⟩) (by first | omega | (simp; done) | (simp; omega))
      have r1w1 := fun o => hb1.frozen (p := ⟨w.heap.size + 1, o, none⟩) (by first | omega | (simp; done) | (simp; omega))
      go_wp2_with fail
      refine (f_centroids _ cs _ (HV.out _ (by ((have shb1 := hb1.size); (try simp at shb1); (repeat' (first | (with_reducible exact Below.refl _ _) | (with_reducible refine Below.setCell ?_ ?_ _) | (with_reducible refine Below.alloc ?_ ?_ _) | (with_reducible refine Below.drew ?_) | (with_reducible refine Below.trans ?_ (Below.mono hb1 ?_)) | go_size)))))).mono ?_
      rintro e w2 ⟨rfl, hb2⟩
      rw [HCO.out]
      have z2w0 : w.heap.size < w2.heap.size := (by have := hb2.size; (try simp at this); omega)
      have q2w0 := fun o => hb2.cell (p := ⟨w.heap.size, o, none⟩) (by first | omega | (simp; done) | (simp; omega))
      have r2w0 := fun o => hb2.frozen (p := ⟨w.heap.size, o, none⟩) (by first | omega | (simp; done) | (simp; omega))
      have z2w1 : w.heap.size + 1 < w2.heap.size := (by have := hb2.size; (try simp at this); omega)
      have q2w1 := fun o => hb2.cell (p := ⟨w.heap.size + 1, o, none⟩) (by first | omega | (simp; done) | (simp; omega))
      have r2w1 := fun o => hb2.frozen (p := ⟨w.heap.size + 1, o, none⟩) (by first | omega | (simp; done) | (simp; omega))
      go_wp2
      refine bodyPost_ret (v := .tuple #[.agg #[.slice none 0 0, .slice none 0 0], .int .i64 230]) (by simp only [results, Try.results19]; go_simp) rfl ⟨?_, ?_⟩
      · unfold BuildPost; rw [if_neg (by rw [HAO.out]; decide), if_pos HCO.out]; rfl
      · ((have shb2 := hb2.size); (try simp at shb2); (have shb1 := hb1.size); (try simp at shb1); (repeat' (first | (with_reducible exact Below.refl _ _) | (with_reducible refine Below.setCell ?_ ?_ _) | (with_reducible refine Below.alloc ?_ ?_ _) | (with_reducible refine Below.drew ?_) | (with_reducible refine Below.trans ?_ (Below.mono hb2 ?_)) | (with_reducible refine Below.trans ?_ (Below.mono hb1 ?_)) | go_size)))
    · have HCO := Lib.hid hco
      clear hco
      have HCE := Lib.hid (show vecsE cs = 0 by have := HCO.out; unfold centsOK at this; simp at this; exact this.2)
      go_enter Try.func19, Try.ntmps19
      go_wp2_with fail
      refine (f_arenaCheck _ cells _ (HX.out _ (by ((repeat' (first | (with_reducible exact Below.refl _ _) | (with_reducible refine Below.setCell ?_ ?_ _) | (with_reducible refine Below.alloc ?_ ?_ _) | (with_reducible refine Below.drew ?_) | (with_reducible refine Below.trans ?_ (Below.mono (by assumption) ?_)) | go_size)))))).mono ?_
      rintro e w1 ⟨rfl, hb1⟩
      rw [HE.out]
      have z1w0 : w.heap.size < w1.heap.size := (by have := hb1.size; (try simp at this); omega)
      have q1w0 := fun o => hb1.cell (p := ⟨w.heap.size, o, none⟩) (by first | omega | (simp; done) | (simp; omega))
      have r1w0 := fun o => hb1.frozen (p := ⟨w.heap.size, o, none⟩) (by first | omega | (simp; done) | (simp; omega))
      have z1w1 : w.heap.size + 1 < w1.heap.size := (by have := hb1.size; (try simp at this); omega)
      have q1w1 := fun o => hb1.cell (p := ⟨w.heap.size + 1, o, none⟩) (by first | omega | (simp; done) | (simp; omega))
      have r1w1 := fun o => hb1.frozen (p := ⟨w.heap.size + 1, o, none⟩) (by first | omega | (simp; done) | (simp; omega))
      go_wp2_with fail
      refine (f_centroids _ cs _ (HV.out _ (by ((have shb1 := hb1.size); (try simp at shb1); (repeat' (first | (with_reducible exact Below.refl _ _) | (with_reducible refine Below.setCell ?_ ?_ _) | (with_reducible refine Below.alloc ?_ ?_ _) | (with_reducible refine Below.drew ?_) | (with_reducible refine Below.trans ?_ (Below.mono hb1 ?_)) | go_size)))))).mono ?_
      rintro e w2 ⟨rfl, hb2⟩
      rw [HCO.out]
      have z2w0 : w.heap.size < w2.heap.size := (by have := hb2.size; (try simp at this); omega)
      have q2w0 := fun o => hb2.cell (p := ⟨w.heap.size, o, none⟩) (by first | omega | (simp; done) | (simp; omega))
      have r2w0 := fun o => hb2.frozen (p := ⟨w.heap.size, o, none⟩) (by first | omega | (simp; done) | (simp; omega))
      have z2w1 : w.heap.size + 1 < w2.heap.size := (by have := hb2.size; (try simp at this); omega)
      have q2w1 := fun o => hb2.cell (p := ⟨w.heap.size + 1, o, none⟩) (by first | omega | (simp; done) | (simp; omega))
      have r2w1 := fun o => hb2.frozen (p := ⟨w.heap.size + 1, o, none⟩) (by first | omega | (simp; done) | (simp; omega))
      have hB2 : Below w.heap.size w w2 := by ((have shb2 := hb2.size); (try simp at shb2); (have shb1 := hb1.size); (try simp at shb1); (repeat' (first | (with_reducible exact Below.refl _ _) | (with_reducible refine Below.setCell ?_ ?_ _) | (with_reducible refine Below.alloc ?_ ?_ _) | (with_reducible refine Below.drew ?_) | (with_reducible refine Below.trans ?_ (Below.mono hb2 ?_)) | (with_reducible refine Below.trans ?_ (Below.mono hb1 ?_)) | go_size)))
      have c0 : w2.cell? ⟨w.heap.size, 0, none⟩ = some (.slice a cells.length cap) := by rw [q2w0]; go_simp
      have r0 : w2.cell? ⟨w.heap.size + 1, 0, none⟩ = some (.slice none 0 0) := by rw [q2w1]; go_simp
      have r1 : w2.cell? ⟨w.heap.size + 1, 1, none⟩ = some (.slice none 0 0) := by rw [q2w1]; go_simp
      have s0 : w2.frozen? ⟨w.heap.size + 1, 0, none⟩ = false := by rw [r2w1]; go_simp
      have s1 : w2.frozen? ⟨w.heap.size + 1, 1, none⟩ = false := by rw [r2w1]; go_simp
      clear q1w0 q1w1 r1w0 r1w1 q2w0 q2w1 r2w0 r2w1 hb1 hb2
      go_wp2
      refine wp_grow [(1, .rel (fun v w => w.ownsRow w2.heap.size 56 1 v cs.length (cs.flatMap fun p => [p.1])) (fun _ _ _ h hg => owns_below h hg)), (4, .rel (fun v w => w.ownsRow w2.heap.size 49 2 v cs.length (cellsM (List.replicate cs.length mZero))) (fun _ _ _ h hg => owns_below h hg)), (6, .rel (NewBox w2.heap.size 25 #[.slice none 0 0, .slice none 0 0]) (fun _ _ _ h hg => NewBox.grown h hg))] 7 (by kernel_rfl) (by kernel_rfl) (by rfl) (by rfl) ?_
      simp only [List.take_succ_cons, List.take_zero, List.drop_succ_cons, List.drop_zero]
      repeat (first
        | (apply Der.quiet; (rfl); (rfl); (intro w' hw' hctx; have hc' := bcell hw'; clear hctx; go_simp; first | exact rfl | exact ⟨rfl, rfl⟩); simp only [Act.put, List.setIfInBounds_toArray, List.set_cons_succ, List.set_cons_zero, Nat.reduceAdd])
        | (apply Der.skip; (rfl); simp only [Act.put, List.setIfInBounds_toArray, List.set_cons_succ, List.set_cons_zero, Nat.reduceAdd]))
      refine Der.rel (by rfl) (by rfl) (fun w' hw' hctx => ?_) (fun k1 => ?_)
      · (go_simp; refine (cloneV _ cs _ (HV.out _ (hB2.trans ((undrew hw').mono hB2.size))) (by omega)).mono ?_; rintro e w3 ⟨⟨v', rfl, ho⟩, hb⟩; exact ⟨_, rfl, own_weaken ho (undrew hw').size, hb⟩)
      simp only [Act.put, List.setIfInBounds_toArray, List.set_cons_succ, List.set_cons_zero, Nat.reduceAdd]
      (first
        | (apply Der.quiet; (rfl); (rfl); (intro w' hw' hctx; have hc' := bcell hw'; clear hctx; go_simp; first | exact rfl | exact ⟨rfl, rfl⟩); simp only [Act.put, List.setIfInBounds_toArray, List.set_cons_succ, List.set_cons_zero, Nat.reduceAdd])
        | (apply Der.skip; (rfl); simp only [Act.put, List.setIfInBounds_toArray, List.set_cons_succ, List.set_cons_zero, Nat.reduceAdd]))
      (first
        | (apply Der.quiet; (rfl); (rfl); (intro w' hw' hctx; have hc' := bcell hw'; clear hctx; go_simp; first | exact rfl | exact ⟨rfl, rfl⟩); simp only [Act.put, List.setIfInBounds_toArray, List.set_cons_succ, List.set_cons_zero, Nat.reduceAdd])
        | (apply Der.skip; (rfl); simp only [Act.put, List.setIfInBounds_toArray, List.set_cons_succ, List.set_cons_zero, Nat.reduceAdd]))
      refine Der.rel (by rfl) (by rfl) (fun w' hw' hctx => ?_) (fun k2 => ?_)
      · (go_simp; obtain ⟨w'', hr, ho, hb⟩ := run_make_masks w' cs.length w2.heap.size hcl (undrew hw').size; rw [hr]; exact ⟨ho, hb⟩)
      simp only [Act.put, List.setIfInBounds_toArray, List.set_cons_succ, List.set_cons_zero, Nat.reduceAdd]
      refine Der.quiet (v := .agg #[k1, k2]) (by rfl) (by rfl) (fun w' hw' hctx => ?_) ?_
      · have h1 := (hctx 1 _ _ (by kernel_rfl) rfl rfl)
        have h4 := (hctx 4 _ _ (by kernel_rfl) rfl rfl)
        obtain ⟨_, _, rfl⟩ := own_slice h1
        obtain ⟨_, _, rfl⟩ := own_slice h4
        clear hctx
        go_simp
      simp only [Act.put, List.setIfInBounds_toArray, List.set_cons_succ, List.set_cons_zero, Nat.reduceAdd]
      refine Der.rel (by rfl) (by rfl) (fun w' hw' hctx => ?_) (fun k3 => ?_)
      · (go_simp; exact ⟨NewBox.new _ _ (undrew hw').size, (Below.refl _ _).alloc (Nat.le_refl _) _⟩)
      simp only [Act.put, List.setIfInBounds_toArray, List.set_cons_succ, List.set_cons_zero, Nat.reduceAdd]
      refine Der.nil (fun w3 hg3 hctx => ?_)
      have h1 := (hctx 1 _ _ (by omega) rfl rfl)
      have h4 := (hctx 4 _ _ (by omega) rfl rfl)
      obtain ⟨Bo, rfl, hBo1, hBo2, hBo3⟩ := (hctx 6 _ _ (by omega) rfl rfl)
      have hb3 : Below w2.heap.size w2 w3 := undrew hg3
      clear hctx hg3
      have hX := ListsX.born (show w3.ownsRow w2.heap.size 56 1 k1 cs.length (cs.flatMap fun p => [p.1]) from h1) (show w3.ownsRow w2.heap.size 49 2 k2 cs.length (cellsM (List.replicate cs.length mZero)) from h4) (by simp) hBo3
      obtain ⟨xa, xc, rfl⟩ := own_slice h1
      obtain ⟨ya, yc, rfl⟩ := own_slice h4
      have HX3 := Lib.hid hX
      have d0 := cell_of_block hBo3 0
      have d1 := cell_of_block hBo3 1
      have d2 := frozen_of_block hBo3 0
      have d3 := frozen_of_block hBo3 1
      simp at d0 d1
      have c0' := (hb3.cell (p := ⟨w.heap.size, 0, none⟩) z2w0).trans c0
      have r0' := (hb3.cell (p := ⟨w.heap.size + 1, 0, none⟩) z2w1).trans r0
      have r1' := (hb3.cell (p := ⟨w.heap.size + 1, 1, none⟩) z2w1).trans r1
      have s0' := (hb3.frozen (p := ⟨w.heap.size + 1, 0, none⟩) z2w1).trans s0
      have s1' := (hb3.frozen (p := ⟨w.heap.size + 1, 1, none⟩) z2w1).trans s1
      clear h1 h4 hX hBo3 c0
      have hB3 : Below w.heap.size w w3 := by ((have shb3 := hb3.size); (try simp at shb3); (have shB2 := hB2.size); (try simp at shB2); (repeat' (first | (with_reducible exact Below.refl _ _) | (with_reducible refine Below.setCell ?_ ?_ _) | (with_reducible refine Below.alloc ?_ ?_ _) | (with_reducible refine Below.drew ?_) | (with_reducible refine Below.trans ?_ (Below.mono hb3 ?_)) | (with_reducible refine Below.trans ?_ (Below.mono hB2 ?_)) | go_size)))
      have hs3 := hb3.size
      by_cases h0 : cs.length = 0
      · have hnil : cs = [] := List.length_eq_zero_iff.1 h0
        go_wp2
        refine bodyPost_ret (v := .tuple #[.agg #[.slice none 0 0, .slice none 0 0], .int .i64 0]) (by simp only [results, Try.results19]; go_simp) rfl ⟨?_, ?_⟩
        · unfold BuildPost; rw [if_neg (by rw [HAO.out]; decide), if_neg (by rw [HCO.out]; decide), if_pos hnil]; rfl
        · ((have shb3 := hb3.size); (try simp at shb3); (have shB2 := hB2.size); (try simp at shB2); (repeat' (first | (with_reducible exact Below.refl _ _) | (with_reducible refine Below.setCell ?_ ?_ _) | (with_reducible refine Below.alloc ?_ ?_ _) | (with_reducible refine Below.drew ?_) | (with_reducible refine Below.trans ?_ (Below.mono hb3 ?_)) | (with_reducible refine Below.trans ?_ (Below.mono hB2 ?_)) | go_size)))
      · have HNE := Lib.hid (show ¬ cs = [] from fun e => h0 (by rw [e]; rfl))
        have HXs := Lib.hid ((HX3.out.setBox 0 (.slice xa cs.length xc)).setBox 1 (.slice ya cs.length yc))
        have HMl := Lib.hid (fun k => buildM_length cs cells k)
        go_wp2
        rw [show ((cs.length : Int) == 0) = false from beq_eq_false_iff_ne.2 (by omega)]
        go_loopw [35] (fun i wr => ∃ (j : Nat) (x y : Value), j ≤ cells.length ∧ i = .int .i64 j ∧ wr.cell? ⟨Bo, 0, none⟩ = some x ∧ wr.cell? ⟨Bo, 1, none⟩ = some y ∧ wr.frozen? ⟨Bo, 0, none⟩ = false ∧ wr.frozen? ⟨Bo, 1, none⟩ = false ∧
          ListsX w2.heap.size Bo wr x y cs (buildM cs cells j) ∧ (∀ c ∈ cells.take j, (!c.used || fitC cs c) = true) ∧ Below w2.heap.size w2 wr ∧ Bo < wr.heap.size) (fun i _ => cells.length - (intOf i).toNat)
        case atStart =>
          refine ⟨0, .slice xa cs.length xc, .slice ya cs.length yc, Nat.zero_le _, rfl, by go_simp, by go_simp, by go_simp, by go_simp, HXs.out, by simp, by ((have shb3 := hb3.size); (try simp at shb3); (repeat' (first | (with_reducible exact Below.refl _ _) | (with_reducible refine Below.setCell ?_ ?_ _) | (with_reducible refine Below.alloc ?_ ?_ _) | (with_reducible refine Below.drew ?_) | (with_reducible refine Below.trans ?_ (Below.mono hb3 ?_)) | go_size))), by simp; omega⟩
        case round =>
          obtain ⟨j, x, y, hj, rfl, n0, n1, m0, m1, hX, hfit, hbr, hsz⟩ := hrel
          obtain ⟨x1, x2, rfl⟩ := own_slice hX.1
          obtain ⟨y1, y2, rfl⟩ := own_slice hX.2.1
          rw [HMl.out] at n1 hX
          have hBr : Below w.heap.size w wr := by ((have shbr := hbr.size); (try simp at shbr); (have shB2 := hB2.size); (try simp at shB2); (repeat' (first | (with_reducible exact Below.refl _ _) | (with_reducible refine Below.setCell ?_ ?_ _) | (with_reducible refine Below.alloc ?_ ?_ _) | (with_reducible refine Below.drew ?_) | (with_reducible refine Below.trans ?_ (Below.mono hbr ?_)) | (with_reducible refine Below.trans ?_ (Below.mono hB2 ?_)) | go_size)))
          have HXr := Lib.hid hX
          have HF := Lib.hid hfit
          clear hX hfit
          by_cases hlt2 : j < cells.length
          · obtain ⟨b0, off, rfl, hlt, g1, g2, g3, g4, g5⟩ := Hc.out j hlt2
            have e1 := (hBr.cell (p := ⟨b0, off + j * 5, none⟩) hlt).trans g1
            have e2 := (hBr.cell (p := ⟨b0, off + j * 5 + 1, none⟩) hlt).trans g2
            have e3 := (hBr.cell (p := ⟨b0, off + j * 5 + 2, none⟩) hlt).trans g3
            have e4 := (hBr.cell (p := ⟨b0, off + j * 5 + 3, none⟩) hlt).trans g4
            have e5 := (hBr.cell (p := ⟨b0, off + j * 5 + 4, none⟩) hlt).trans g5
            have HVj := Lib.hid (fun W hb => (HX.out W hb).2 cells[j] (List.getElem_mem hlt2))
            have HOK := Lib.hid (cell_ok HAO.out hlt2)
            have HBu := Lib.hid (fun hu => buildM_used (cs := cs) hlt2 hu)
            have HBf := Lib.hid (fun hu => buildM_free (cs := cs) hlt2 hu)
            have HNo := Lib.hid (fun hu => all_fit_no (cs := cs) hlt2 hu)
            have HTk := Lib.hid (take_fit (cs := cs) HF.out hlt2)
            obtain ⟨av, cv, hav, hlv, hmv⟩ := (HVj.out _ hBr).form
            clear g1 g2 g3 g4 g5
            generalize cells[j] = c at *
            obtain ⟨used, id, cb, ce, sv, vec⟩ := c
            simp only at hav e1 e2 e3 e4 e5
            subst hav
            cases used
            · go_wp2
              go_roundw
              case rel =>
                refine ⟨j + 1, .slice x1 cs.length x2, .slice y1 cs.length y2, by omega, by go_num, by go_simp, by go_simp, by go_simp, by go_simp, ?_, HTk.out rfl, ?_, ?_⟩
                · rw [HBf.out rfl]; exact HXr.out.grown ((Below.refl _ _).alloc (Nat.le_refl _) _)
                · ((have shbr := hbr.size); (try simp at shbr); (repeat' (first | (with_reducible exact Below.refl _ _) | (with_reducible refine Below.setCell ?_ ?_ _) | (with_reducible refine Below.alloc ?_ ?_ _) | (with_reducible refine Below.drew ?_) | (with_reducible refine Below.trans ?_ (Below.mono hbr ?_)) | go_size)))
                · simp; omega
              case measure => simp [intOf]; omega
            · have hvok : vecOK vec = true := by
                have h5 : verOK cb ce vec = true := HOK.out
                unfold verOK at h5; rw [Bool.and_eq_true] at h5; exact h5.1
              have h0p : 0 < cs.length := by omega
              have hNF := near_fit HCE.out h0p (u := .slice av vec.length cv) hvok
              by_cases hd : vec.length = dim0 cs
              · rw [if_pos hd] at hNF
                have HNF := Lib.hid hNF
                have HT := Lib.hid (HTk.out (show (!true || fitC cs ⟨true, id, cb, ce, .slice av vec.length cv, vec⟩) = true by unfold fitC; simp [hd]))
                have HBj := Lib.hid (HBu.out rfl)
                have HN := Lib.hid (fun W hb => f_near_ok _ _ cs vec W (HV.out W hb) (HVj.out W hb) hcl h0p HNF.out)
                have hpc : placeC cs ⟨true, id, cb, ce, .slice av vec.length cv, vec⟩ = bestK (farD cs vec) (cs.length - 1) := rfl
                rw [hpc] at HBj
                clear hNF hd hpc
                generalize bestK (farD cs vec) (cs.length - 1) = p at *
                go_wp2_with fail
                refine (HN.out _ (by ((have shBr := hBr.size); (try simp at shBr); (repeat' (first | (with_reducible exact Below.refl _ _) | (with_reducible refine Below.setCell ?_ ?_ _) | (with_reducible refine Below.alloc ?_ ?_ _) | (with_reducible refine Below.drew ?_) | (with_reducible refine Below.trans ?_ (Below.mono hBr ?_)) | go_size))))).mono ?_
                rintro e w4 ⟨rfl, hb4⟩
                have hb4' : Below wr.heap.size wr w4 := by ((have shb4 := hb4.size); (try simp at shb4); (repeat' (first | (with_reducible exact Below.refl _ _) | (with_reducible refine Below.setCell ?_ ?_ _) | (with_reducible refine Below.alloc ?_ ?_ _) | (with_reducible refine Below.drew ?_) | (with_reducible refine Below.trans ?_ (Below.mono hb4 ?_)) | go_size)))
                have n04 := (hb4'.cell (p := ⟨Bo, 0, none⟩) hsz).trans n0
                have n14 := (hb4'.cell (p := ⟨Bo, 1, none⟩) hsz).trans n1
                have m04 := (hb4'.frozen (p := ⟨Bo, 0, none⟩) hsz).trans m0
                have m14 := (hb4'.frozen (p := ⟨Bo, 1, none⟩) hsz).trans m1
                have hs4 := hb4'.size
                have hB4 : Below w.heap.size w w4 := by ((have shb4' := hb4'.size); (try simp at shb4'); (have shBr := hBr.size); (try simp at shBr); (repeat' (first | (with_reducible exact Below.refl _ _) | (with_reducible refine Below.setCell ?_ ?_ _) | (with_reducible refine Below.alloc ?_ ?_ _) | (with_reducible refine Below.drew ?_) | (with_reducible refine Below.trans ?_ (Below.mono hb4' ?_)) | (with_reducible refine Below.trans ?_ (Below.mono hBr ?_)) | go_size)))
                have hb24 : Below w2.heap.size w2 w4 := by ((have shb4' := hb4'.size); (try simp at shb4'); (have shbr := hbr.size); (try simp at shbr); (repeat' (first | (with_reducible exact Below.refl _ _) | (with_reducible refine Below.setCell ?_ ?_ _) | (with_reducible refine Below.alloc ?_ ?_ _) | (with_reducible refine Below.drew ?_) | (with_reducible refine Below.trans ?_ (Below.mono hb4' ?_)) | (with_reducible refine Below.trans ?_ (Below.mono hbr ?_)) | go_size)))
                have HX4 := Lib.hid (HXr.out.grown hb4')
                have hl96 := (arena_len HAO.out)
                have HPut := Lib.hid (f_put _ _ cs (buildM cs cells j) p (j : Int) ⟨by omega, by omega⟩ (fun i hi _ => by rw [← mAt_get hi]; exact buildM_chk cs cells (by omega) j i (by omega) (by rw [← HMl.out j]; exact hi)) hcl (by rw [HMl.out]; exact hcl) w4
                  (VecsV.of_own HX4.out.1 rfl (HV.out w (Below.refl _ _)).2 hB4) (Masks.of_own HX4.out.2.1 rfl))
                clear n0 n1 m0 m1 e1 e2 e3 e4 e5 hl96
                go_wp2_with fail
                refine HPut.out.mono ?_
                rintro e w5 ⟨⟨x', rfl, hx'⟩, hb5⟩
                have hb5' : Below w4.heap.size w4 w5 := by ((have shb5 := hb5.size); (try simp at shb5); (repeat' (first | (with_reducible exact Below.refl _ _) | (with_reducible refine Below.setCell ?_ ?_ _) | (with_reducible refine Below.alloc ?_ ?_ _) | (with_reducible refine Below.drew ?_) | (with_reducible refine Below.trans ?_ (Below.mono hb5 ?_)) | go_size)))
                obtain ⟨xa', xc', ya', yc', rfl⟩ := hx'.form
                rw [withL_length, HMl.out] at hx'
                have hz4 : Bo < w4.heap.size := by omega
                have n05 := (hb5'.cell (p := ⟨Bo, 0, none⟩) hz4).trans n04
                have n15 := (hb5'.cell (p := ⟨Bo, 1, none⟩) hz4).trans n14
                have m05 := (hb5'.frozen (p := ⟨Bo, 0, none⟩) hz4).trans m04
                have m15 := (hb5'.frozen (p := ⟨Bo, 1, none⟩) hz4).trans m14
                have hs5 := hb5'.size
                have HX5 := Lib.hid ((ListsX.of_O (g := Bo) (B := w2.heap.size) hx' hz4 (by omega)).setBox 0 (.slice xa' cs.length xc') |>.setBox 1 (.slice ya' cs.length yc'))
                have HMw := Lib.hid (show (withL (putD p (j : Int)) (buildM cs cells j) (buildM cs cells j).length).length = cs.length by rw [withL_length, HMl.out])
                rw [HMw.out]
                have hb25 : Below w2.heap.size w2 w5 := by ((have shb5' := hb5'.size); (try simp at shb5'); (have shb24 := hb24.size); (try simp at shb24); (repeat' (first | (with_reducible exact Below.refl _ _) | (with_reducible refine Below.setCell ?_ ?_ _) | (with_reducible refine Below.alloc ?_ ?_ _) | (with_reducible refine Below.drew ?_) | (with_reducible refine Below.trans ?_ (Below.mono hb5' ?_)) | (with_reducible refine Below.trans ?_ (Below.mono hb24 ?_)) | go_size)))
                clear hx' n04 n14 m04 m14
                go_wp2
                go_roundw
                case rel =>
                  refine ⟨j + 1, .slice xa' cs.length xc', .slice ya' cs.length yc', by omega, by go_num, by go_simp, by go_simp, by go_simp, by go_simp, ?_, HT.out, ?_, ?_⟩
                  · rw [HBj.out, HMl.out]; exact HX5.out
                  · ((have shb25 := hb25.size); (try simp at shb25); (repeat' (first | (with_reducible exact Below.refl _ _) | (with_reducible refine Below.setCell ?_ ?_ _) | (with_reducible refine Below.alloc ?_ ?_ _) | (with_reducible refine Below.drew ?_) | (with_reducible refine Below.trans ?_ (Below.mono hb25 ?_)) | go_size)))
                  · simp; omega
                case measure => simp [intOf]; omega
              · rw [if_neg hd] at hNF
                have HNF := Lib.hid hNF
                have HNO := Lib.hid (HNo.out rfl (show fitC cs ⟨true, id, cb, ce, .slice av vec.length cv, vec⟩ = false by unfold fitC; simp [hd]))
                have HN := Lib.hid (fun W hb => f_near_bad _ _ cs vec W (HV.out W hb) (HVj.out W hb) hcl h0p 151 HNF.out (by decide))
                clear hNF hd
                go_wp2_with fail
                refine (HN.out _ (by ((have shBr := hBr.size); (try simp at shBr); (repeat' (first | (with_reducible exact Below.refl _ _) | (with_reducible refine Below.setCell ?_ ?_ _) | (with_reducible refine Below.alloc ?_ ?_ _) | (with_reducible refine Below.drew ?_) | (with_reducible refine Below.trans ?_ (Below.mono hBr ?_)) | go_size))))).mono ?_
                rintro e w4 ⟨rfl, hb4⟩
                have hb4' : Below wr.heap.size wr w4 := by ((have shb4 := hb4.size); (try simp at shb4); (repeat' (first | (with_reducible exact Below.refl _ _) | (with_reducible refine Below.setCell ?_ ?_ _) | (with_reducible refine Below.alloc ?_ ?_ _) | (with_reducible refine Below.drew ?_) | (with_reducible refine Below.trans ?_ (Below.mono hb4 ?_)) | go_size)))
                have hB4 : Below w.heap.size w w4 := by ((have shb4' := hb4'.size); (try simp at shb4'); (have shBr := hBr.size); (try simp at shBr); (repeat' (first | (with_reducible exact Below.refl _ _) | (with_reducible refine Below.setCell ?_ ?_ _) | (with_reducible refine Below.alloc ?_ ?_ _) | (with_reducible refine Below.drew ?_) | (with_reducible refine Below.trans ?_ (Below.mono hb4' ?_)) | (with_reducible refine Below.trans ?_ (Below.mono hBr ?_)) | go_size)))
                have hb24 : Below w2.heap.size w2 w4 := by ((have shb4' := hb4'.size); (try simp at shb4'); (have shbr := hbr.size); (try simp at shbr); (repeat' (first | (with_reducible exact Below.refl _ _) | (with_reducible refine Below.setCell ?_ ?_ _) | (with_reducible refine Below.alloc ?_ ?_ _) | (with_reducible refine Below.drew ?_) | (with_reducible refine Below.trans ?_ (Below.mono hb4' ?_)) | (with_reducible refine Below.trans ?_ (Below.mono hbr ?_)) | go_size)))
                have zz1 : w.heap.size + 1 < wr.heap.size := by omega
                have zz2 : w.heap.size + 1 < w4.heap.size := by have := hb4'.size; omega
                have r04 := (hb4'.cell (p := ⟨w.heap.size + 1, 0, none⟩) zz1).trans ((hbr.cell (p := ⟨w.heap.size + 1, 0, none⟩) z2w1).trans r0)
                have r14 := (hb4'.cell (p := ⟨w.heap.size + 1, 1, none⟩) zz1).trans ((hbr.cell (p := ⟨w.heap.size + 1, 1, none⟩) z2w1).trans r1)
                have s04 := (hb4'.frozen (p := ⟨w.heap.size + 1, 0, none⟩) zz1).trans ((hbr.frozen (p := ⟨w.heap.size + 1, 0, none⟩) z2w1).trans s0)
                have s14 := (hb4'.frozen (p := ⟨w.heap.size + 1, 1, none⟩) zz1).trans ((hbr.frozen (p := ⟨w.heap.size + 1, 1, none⟩) z2w1).trans s1)
                clear n0 n1 m0 m1 e1 e2 e3 e4 e5
                go_wp2
                refine bodyPost_ret (v := .tuple #[.agg #[.slice none 0 0, .slice none 0 0], .int .i64 151]) (by simp only [results, Try.results19]; go_simp) rfl ⟨?_, ?_⟩
                · unfold BuildPost; rw [if_neg (by rw [HAO.out]; decide), if_neg (by rw [HCO.out]; decide), if_neg HNE.out, if_pos HNO.out]; rfl
                · ((have shB4 := hB4.size); (try simp at shB4); (repeat' (first | (with_reducible exact Below.refl _ _) | (with_reducible refine Below.setCell ?_ ?_ _) | (with_reducible refine Below.alloc ?_ ?_ _) | (with_reducible refine Below.drew ?_) | (with_reducible refine Below.trans ?_ (Below.mono hB4 ?_)) | go_size)))
          · have : j = cells.length := by omega
            subst this
            have HT := Lib.hid (all_fit_yes (cs := cs) (fun c hc => HF.out c (by rw [List.take_of_length_le (Nat.le_refl _)]; exact hc)))
            have zz1 : w.heap.size + 1 < wr.heap.size := by omega
            have r04 := (hbr.cell (p := ⟨w.heap.size + 1, 0, none⟩) z2w1).trans r0
            have r14 := (hbr.cell (p := ⟨w.heap.size + 1, 1, none⟩) z2w1).trans r1
            have s04 := (hbr.frozen (p := ⟨w.heap.size + 1, 0, none⟩) z2w1).trans s0
            have s14 := (hbr.frozen (p := ⟨w.heap.size + 1, 1, none⟩) z2w1).trans s1
            go_wp2
            refine bodyPost_ret (v := .tuple #[.agg #[.slice x1 cs.length x2, .slice y1 cs.length y2], .int .i64 0]) (by simp only [results, Try.results19]; go_simp) rfl ⟨?_, ?_⟩
            · unfold BuildPost; rw [if_neg (by rw [HAO.out]; decide), if_neg (by rw [HCO.out]; decide), if_neg HNE.out, if_neg (by rw [HT.out]; decide)]
              exact ⟨_, rfl, (((HXr.out.toO).setCell (by omega) _).setCell (by omega) _).weaken (by omega)⟩
            · ((have shBr := hBr.size); (try simp at shBr); (repeat' (first | (with_reducible exact Below.refl _ _) | (with_reducible refine Below.setCell ?_ ?_ _) | (with_reducible refine Below.alloc ?_ ?_ _) | (with_reducible refine Below.drew ?_) | (with_reducible refine Below.trans ?_ (Below.mono hBr ?_)) | go_size)))
end Go.Proofs.Ytlfmffjlmhpcdaa

/- lists.Agrees. -/
namespace Go.Proofs.Ytlfmffjlmhpcdaa
open Go.RowKit
set_option maxRecDepth 100000
attribute [local irreducible] Der

/-- What lists.Build gives, in one: the error, the centroids, the masks. -/
def buildE (cells : List Cel) (cs : List PV) : Int :=
  if arenaOK cells = false then 190 else if centsOK cs = false then 230 else if cs = [] then 0 else if cells.all (fun c => !c.used || fitC cs c) = false then 151 else 0
def buildOK (cells : List Cel) (cs : List PV) : Bool := arenaOK cells && (centsOK cs && (!cs.isEmpty && cells.all (fun c => !c.used || fitC cs c)))
def buildC (cells : List Cel) (cs : List PV) : List PV := if buildOK cells cs then cs else []
def buildMs (cells : List Cel) (cs : List PV) : List M := if buildOK cells cs then buildM cs cells cells.length else []
theorem nilL_O (B : Nat) (w : World) : ListsO B w nilL [] [] := ⟨_, _, rfl, World.ownsRow_nil _ _ _ _, World.ownsRow_nil _ _ _ _⟩
theorem built {cells : List Cel} {cs : List PV} {B : Nat} {e : Ending} {w' : World} (h : BuildPost cells cs B e w') : ∃ x, e = .returned (.tuple #[x, .int .i64 (buildE cells cs)]) ∧ ListsO B w' x (buildC cells cs) (buildMs cells cs) := by
  unfold BuildPost at h
  unfold buildC buildMs buildE buildOK
  by_cases h1 : arenaOK cells = false
  · rw [if_pos h1] at h; rw [if_pos h1, h1]; exact ⟨_, h, nilL_O _ _⟩
  · rw [if_neg h1] at h ⊢
    by_cases h2 : centsOK cs = false
    · rw [if_pos h2] at h; rw [if_pos h2, h2]; simp only [Bool.false_and, Bool.and_false]; exact ⟨_, h, nilL_O _ _⟩
    · rw [if_neg h2] at h ⊢
      by_cases h3 : cs = []
      · rw [if_pos h3] at h; rw [if_pos h3]; subst h3; simp only [List.isEmpty_nil, Bool.not_true, Bool.false_and, Bool.and_false]; exact ⟨_, h, nilL_O _ _⟩
      · rw [if_neg h3] at h ⊢
        by_cases h4 : cells.all (fun c => !c.used || fitC cs c) = false
        · rw [if_pos h4] at h; rw [if_pos h4, h4]; simp only [Bool.and_false]; exact ⟨_, h, nilL_O _ _⟩
        · rw [if_neg h4] at h ⊢
          obtain ⟨x, e1, e2⟩ := h
          have g1 : arenaOK cells = true := by simpa using h1
          have g2 : centsOK cs = true := by simpa using h2
          have g3 : cs.isEmpty = false := by cases cs with | nil => exact absurd rfl h3 | cons _ _ => rfl
          have g4 : cells.all (fun c => !c.used || fitC cs c) = true := by
            cases h : cells.all (fun c => !c.used || fitC cs c)
            · exact absurd h h4
            · rfl
          rw [g1, g2, g3, g4]
          exact ⟨x, e1, e2⟩
theorem f_build (vx vl : Value) (cells : List Cel) (cs : List PV) (hcl : cs.length ≤ 1000) (w : World) (hx : CelsV w vx cells) (hc : VecsV w vl cs) :
    Calls Try.prog 19 #[.agg #[vx], vl] w fun e w' => (∃ x, e = .returned (.tuple #[x, .int .i64 (buildE cells cs)]) ∧ ListsO w.heap.size w' x (buildC cells cs) (buildMs cells cs)) ∧ Below w.heap.size w w' :=
  (f_Build vx vl cells cs hcl w hx hc).mono fun _ _ h => ⟨built h.1, h.2⟩
theorem buildC_mem {cells : List Cel} {cs : List PV} {p : PV} (h : p ∈ buildC cells cs) : p ∈ cs := by
  unfold buildC at h; split at h
  · exact h
  · cases h
/-- Do lists agree with an arena? -/
def agreesF (cs : List PV) (ms : List M) (cells : List Cel) : Bool := listsOK cs ms && (arenaOK cells && (decide (buildE cells cs = 0) && sameL cs ms (buildC cells cs) (buildMs cells cs)))
set_option maxHeartbeats 4000000 in
theorem f_Agrees (vc vm vx : Value) (cs : List PV) (ms : List M) (cells : List Cel) (hcl : cs.length ≤ 1000) (w : World) (hc : VecsV w vc cs) (hm : Masks w vm ms) (hx : CelsV w vx cells) :
    Calls Try.prog 20 #[.agg #[vc, vm], .agg #[vx]] w fun e w' => e = .returned (.bool (agreesF cs ms cells)) ∧ Below w.heap.size w w' := by
  obtain ⟨a, cap, rfl, -⟩ := hc.open
  obtain ⟨a', cap', rfl, -⟩ := hm.open
  obtain ⟨b, cbp, rfl, -⟩ := hx.open
  have HV := Lib.hid (fun W (hb : Below w.heap.size w W) => hc.grown hb)
  have HM := Lib.hid (fun W (hb : Below w.heap.size w W) => hm.grown hb)
  have HX := Lib.hid (fun W (hb : Below w.heap.size w W) => hx.grown hb)
  clear hc hm hx
  cases h1 : listsOK cs ms
  · have HE := Lib.hid (show agreesF cs ms cells = false by unfold agreesF; rw [h1]; rfl)
    have HL := Lib.hid (show listsE cs ms = 230 by unfold listsE; rw [h1]; rfl)
    clear h1
    go_enter Try.func20, Try.ntmps20
    go_wp2_with fail
    refine (f_listsCheck _ _ cs ms _ (HV.out _ (by ((repeat' (first | (with_reducible exact Below.refl _ _) | (with_reducible refine Below.setCell ?_ ?_ _) | (with_reducible refine Below.alloc ?_ ?_ _) | (with_reducible refine Below.drew ?_) | (with_reducible refine Below.trans ?_ (Below.mono (by assumption) ?_)) | go_size))))) (HM.out _ (by ((repeat' (first | (with_reducible exact Below.refl _ _) | (with_reducible refine Below.setCell ?_ ?_ _) | (with_reducible refine Below.alloc ?_ ?_ _) | (with_reducible refine Below.drew ?_) | (with_reducible refine Below.trans ?_ (Below.mono (by assumption) ?_)) | go_size)))))).mono ?_
    rintro e w1 ⟨rfl, hb1⟩
    rw [HL.out]
    go_wp2
    go_ret
    exact ⟨by rw [HE.out]; rfl, by ((have shb1 := hb1.size); (try simp at shb1); (repeat' (first | (with_reducible exact Below.refl _ _) | (with_reducible refine Below.setCell ?_ ?_ _) | (with_reducible refine Below.alloc ?_ ?_ _) | (with_reducible refine Below.drew ?_) | (with_reducible refine Below.trans ?_ (Below.mono hb1 ?_)) | go_size)))⟩
  · cases h2 : arenaOK cells
    · have HE := Lib.hid (show agreesF cs ms cells = false by unfold agreesF; rw [h1, h2]; rfl)
      have HL := Lib.hid (show listsE cs ms = 0 by unfold listsE; rw [h1]; rfl)
      have HA := Lib.hid (show arenaE cells = 190 by unfold arenaE; rw [h2]; rfl)
      clear h1 h2
      go_enter Try.func20, Try.ntmps20
      go_wp2_with fail
      refine (f_listsCheck _ _ cs ms _ (HV.out _ (by ((repeat' (first | (with_reducible exact Below.refl _ _) | (with_reducible refine Below.setCell ?_ ?_ _) | (with_reducible refine Below.alloc ?_ ?_ _) | (with_reducible refine Below.drew ?_) | (with_reducible refine Below.trans ?_ (Below.mono (by assumption) ?_)) | go_size))))) (HM.out _ (by ((repeat' (first | (with_reducible exact Below.refl _ _) | (with_reducible refine Below.setCell ?_ ?_ _) | (with_reducible refine Below.alloc ?_ ?_ _) | (with_reducible refine Below.drew ?_) | (with_reducible refine Below.trans ?_ (Below.mono (by assumption) ?_)) | go_size)))))).mono ?_
      rintro e w1 ⟨rfl, hb1⟩
      rw [HL.out]
      have z1w0 : w.heap.size < w1.heap.size := (by have := hb1.size; (try simp at this); omega)
      have q1w0 := fun o => hb1.cell (p := ⟨w.heap.size, o, none⟩) (by first | omega | (simp; done) | (simp; omega))
      have r1w0 := fun o => hb1.frozen (p := ⟨w.heap.size, o, none⟩) (by first | omega | (simp; done) | (simp; omega))
      have z1w1 : w.heap.size + 1 < w1.heap.size := (by have := hb1.size; (try simp at this); omega)
      have q1w1 := fun o => hb1.cell (p := ⟨w.heap.size + 1, o, none⟩) (by first | omega | (simp; done) | (simp; omega))
      have r1w1 := fun o => hb1.frozen (p := ⟨w.heap.size + 1, o, none⟩) (by first | omega | (simp; done) | (simp; omega))
      go_wp2_with fail
      refine (f_arenaCheck _ cells _ (HX.out _ (by ((have shb1 := hb1.size); (try simp at shb1); (repeat' (first | (with_reducible exact Below.refl _ _) | (with_reducible refine Below.setCell ?_ ?_ _) | (with_reducible refine Below.alloc ?_ ?_ _) | (with_reducible refine Below.drew ?_) | (with_reducible refine Below.trans ?_ (Below.mono hb1 ?_)) | go_size)))))).mono ?_
      rintro e w2 ⟨rfl, hb2⟩
      rw [HA.out]
      go_wp2
      go_ret
      exact ⟨by rw [HE.out]; rfl, by ((have shb2 := hb2.size); (try simp at shb2); (have shb1 := hb1.size); (try simp at shb1); (repeat' (first | (with_reducible exact Below.refl _ _) | (with_reducible refine Below.setCell ?_ ?_ _) | (with_reducible refine Below.alloc ?_ ?_ _) | (with_reducible refine Below.drew ?_) | (with_reducible refine Below.trans ?_ (Below.mono hb2 ?_)) | (with_reducible refine Below.trans ?_ (Below.mono hb1 ?_)) | go_size)))⟩
    · have HE := Lib.hid (show agreesF cs ms cells = (decide (buildE cells cs = 0) && sameL cs ms (buildC cells cs) (buildMs cells cs)) by unfold agreesF; rw [h1, h2]; rfl)
      have HL := Lib.hid (show listsE cs ms = 0 by unfold listsE; rw [h1]; rfl)
      have HA := Lib.hid (show arenaE cells = 0 by unfold arenaE; rw [h2]; rfl)
      have HS := Lib.hid (fun p (hp : p ∈ buildC cells cs) => (HV.out w (Below.refl _ _)).2 p (buildC_mem hp))
      have HBd := Lib.hid (fun W hb => f_build (.slice b cells.length cbp) (.slice a cs.length cap) cells cs hcl W (HX.out W hb) (HV.out W hb))
      clear h1 h2
      generalize buildC cells cs = bc at *
      generalize buildMs cells cs = bm at *
      obtain ⟨E, hEE⟩ : ∃ E, buildE cells cs = E := ⟨_, rfl⟩
      rw [hEE] at HE HBd
      clear hEE
      go_enter Try.func20, Try.ntmps20
      go_wp2_with fail
      refine (f_listsCheck _ _ cs ms _ (HV.out _ (by ((repeat' (first | (with_reducible exact Below.refl _ _) | (with_reducible refine Below.setCell ?_ ?_ _) | (with_reducible refine Below.alloc ?_ ?_ _) | (with_reducible refine Below.drew ?_) | (with_reducible refine Below.trans ?_ (Below.mono (by assumption) ?_)) | go_size))))) (HM.out _ (by ((repeat' (first | (with_reducible exact Below.refl _ _) | (with_reducible refine Below.setCell ?_ ?_ _) | (with_reducible refine Below.alloc ?_ ?_ _) | (with_reducible refine Below.drew ?_) | (with_reducible refine Below.trans ?_ (Below.mono (by assumption) ?_)) | go_size)))))).mono ?_
      rintro e w1 ⟨rfl, hb1⟩
      rw [HL.out]
      have z1w0 : w.heap.size < w1.heap.size := (by have := hb1.size; (try simp at this); omega)
      have q1w0 := fun o => hb1.cell (p := ⟨w.heap.size, o, none⟩) (by first | omega | (simp; done) | (simp; omega))
      have r1w0 := fun o => hb1.frozen (p := ⟨w.heap.size, o, none⟩) (by first | omega | (simp; done) | (simp; omega))
      have z1w1 : w.heap.size + 1 < w1.heap.size := (by have := hb1.size; (try simp at this); omega)
      have q1w1 := fun o => hb1.cell (p := ⟨w.heap.size + 1, o, none⟩) (by first | omega | (simp; done) | (simp; omega))
      have r1w1 := fun o => hb1.frozen (p := ⟨w.heap.size + 1, o, none⟩) (by first | omega | (simp; done) | (simp; omega))
      go_wp2_with fail
      refine (f_arenaCheck _ cells _ (HX.out _ (by ((have shb1 := hb1.size); (try simp at shb1); (repeat' (first | (with_reducible exact Below.refl _ _) | (with_reducible refine Below.setCell ?_ ?_ _) | (with_reducible refine Below.alloc ?_ ?_ _) | (with_reducible refine Below.drew ?_) | (with_reducible refine Below.trans ?_ (Below.mono hb1 ?_)) | go_size)))))).mono ?_
      rintro e w2 ⟨rfl, hb2⟩
      rw [HA.out]
      have z2w0 : w.heap.size < w2.heap.size := (by have := hb2.size; (try simp at this); omega)
      have q2w0 := fun o => hb2.cell (p := ⟨w.heap.size, o, none⟩) (by first | omega | (simp; done) | (simp; omega))
      have r2w0 := fun o => hb2.frozen (p := ⟨w.heap.size, o, none⟩) (by first | omega | (simp; done) | (simp; omega))
      have z2w1 : w.heap.size + 1 < w2.heap.size := (by have := hb2.size; (try simp at this); omega)
      have q2w1 := fun o => hb2.cell (p := ⟨w.heap.size + 1, o, none⟩) (by first | omega | (simp; done) | (simp; omega))
      have r2w1 := fun o => hb2.frozen (p := ⟨w.heap.size + 1, o, none⟩) (by first | omega | (simp; done) | (simp; omega))
      go_wp2_with fail
      refine (HBd.out _ (by ((have shb2 := hb2.size); (try simp at shb2); (have shb1 := hb1.size); (try simp at shb1); (repeat' (first | (with_reducible exact Below.refl _ _) | (with_reducible refine Below.setCell ?_ ?_ _) | (with_reducible refine Below.alloc ?_ ?_ _) | (with_reducible refine Below.drew ?_) | (with_reducible refine Below.trans ?_ (Below.mono hb2 ?_)) | (with_reducible refine Below.trans ?_ (Below.mono hb1 ?_)) | go_size))))).mono ?_
      rintro e w3 ⟨⟨x, rfl, hx⟩, hb3⟩
      have z3w0 : w.heap.size < w3.heap.size := (by have := hb3.size; (try simp at this); omega)
      have q3w0 := fun o => hb3.cell (p := ⟨w.heap.size, o, none⟩) (by first | omega | (simp; done) | (simp; omega))
      have r3w0 := fun o => hb3.frozen (p := ⟨w.heap.size, o, none⟩) (by first | omega | (simp; done) | (simp; omega))
      have z3w1 : w.heap.size + 1 < w3.heap.size := (by have := hb3.size; (try simp at this); omega)
      have q3w1 := fun o => hb3.cell (p := ⟨w.heap.size + 1, o, none⟩) (by first | omega | (simp; done) | (simp; omega))
      have r3w1 := fun o => hb3.frozen (p := ⟨w.heap.size + 1, o, none⟩) (by first | omega | (simp; done) | (simp; omega))
      have hB3 : Below w.heap.size w w3 := by ((have shb3 := hb3.size); (try simp at shb3); (have shb2 := hb2.size); (try simp at shb2); (have shb1 := hb1.size); (try simp at shb1); (repeat' (first | (with_reducible exact Below.refl _ _) | (with_reducible refine Below.setCell ?_ ?_ _) | (with_reducible refine Below.alloc ?_ ?_ _) | (with_reducible refine Below.drew ?_) | (with_reducible refine Below.trans ?_ (Below.mono hb3 ?_)) | (with_reducible refine Below.trans ?_ (Below.mono hb2 ?_)) | (with_reducible refine Below.trans ?_ (Below.mono hb1 ?_)) | go_size)))
      have HXL := Lib.hid hx
      obtain ⟨xa, xc, ya, yc, rfl⟩ := hx.form
      obtain ⟨v1, v2, ev, hz1, hz2, -⟩ := hx.toV (fun p hp => (HS.out p hp).grown hB3)
      simp only [Value.agg.injEq, Array.mk.injEq, List.cons.injEq, and_true] at ev
      obtain ⟨rfl, rfl⟩ := ev
      have HZ1 := fun W (hb : Below w3.heap.size w3 W) => hz1.grown hb
      have HZ2 := fun W (hb : Below w3.heap.size w3 W) => hz2.grown hb
      clear hz1 hz2
      clear hx
      by_cases hE : E = 0
      · subst hE
        go_wp2_with fail
        refine (f_listsSame _ _ _ _ cs bc ms bm _ (HV.out _ (by ((have shB3 := hB3.size); (try simp at shB3); (repeat' (first | (with_reducible exact Below.refl _ _) | (with_reducible refine Below.setCell ?_ ?_ _) | (with_reducible refine Below.alloc ?_ ?_ _) | (with_reducible refine Below.drew ?_) | (with_reducible refine Below.trans ?_ (Below.mono hB3 ?_)) | go_size))))) (HM.out _ (by ((have shB3 := hB3.size); (try simp at shB3); (repeat' (first | (with_reducible exact Below.refl _ _) | (with_reducible refine Below.setCell ?_ ?_ _) | (with_reducible refine Below.alloc ?_ ?_ _) | (with_reducible refine Below.drew ?_) | (with_reducible refine Below.trans ?_ (Below.mono hB3 ?_)) | go_size))))) (HZ1 _ (by ((repeat' (first | (with_reducible exact Below.refl _ _) | (with_reducible refine Below.setCell ?_ ?_ _) | (with_reducible refine Below.alloc ?_ ?_ _) | (with_reducible refine Below.drew ?_) | (with_reducible refine Below.trans ?_ (Below.mono (by assumption) ?_)) | go_size))))) (HZ2 _ (by ((repeat' (first | (with_reducible exact Below.refl _ _) | (with_reducible refine Below.setCell ?_ ?_ _) | (with_reducible refine Below.alloc ?_ ?_ _) | (with_reducible refine Below.drew ?_) | (with_reducible refine Below.trans ?_ (Below.mono (by assumption) ?_)) | go_size)))))).mono ?_
        rintro e w4 ⟨rfl, hb4⟩
        go_wp2
        go_ret
        exact ⟨by rw [HE.out]; rfl, by ((have shb4 := hb4.size); (try simp at shb4); (have shB3 := hB3.size); (try simp at shB3); (repeat' (first | (with_reducible exact Below.refl _ _) | (with_reducible refine Below.setCell ?_ ?_ _) | (with_reducible refine Below.alloc ?_ ?_ _) | (with_reducible refine Below.drew ?_) | (with_reducible refine Below.trans ?_ (Below.mono hb4 ?_)) | (with_reducible refine Below.trans ?_ (Below.mono hB3 ?_)) | go_size)))⟩
      · have HE2 := Lib.hid (show agreesF cs ms cells = false by rw [HE.out, decide_eq_false hE]; rfl)
        go_wp2
        go_ret
        exact ⟨by rw [HE2.out]; rfl, by ((have shB3 := hB3.size); (try simp at shB3); (repeat' (first | (with_reducible exact Below.refl _ _) | (with_reducible refine Below.setCell ?_ ?_ _) | (with_reducible refine Below.alloc ?_ ?_ _) | (with_reducible refine Below.drew ?_) | (with_reducible refine Below.trans ?_ (Below.mono hB3 ?_)) | go_size)))⟩
end Go.Proofs.Ytlfmffjlmhpcdaa

/- The document's arena: quiverref09.New, quiverref09.With. -/
namespace Go.Proofs.Ytlfmffjlmhpcdaa
open Go.RowKit
set_option maxRecDepth 100000
attribute [local irreducible] Der

def freeC : Cel := ⟨false, 0, 0, 0, .slice none 0 0, []⟩
theorem made_cells : (madeCells (Value.cells (.agg #[.bool false, .int .u64 0, .int .u64 0, .int .u64 0, .slice none 0 0])) (96 * 5)).toList = (List.replicate 96 freeC).flatMap Cel.cells := by kernel_rfl
theorem run_make_cells (W : World) (base : Nat) (hb : base ≤ W.heap.size) : ∃ w', (Instr.makeSlice 35 (.int .i64 96) (.int .i64 96)).run Try.prog W = .ok (.slice (some ⟨W.heap.size, 0, none⟩) 96 96) w' ∧
    w'.ownsRow base 60 5 (.slice (some ⟨W.heap.size, 0, none⟩) 96 96) 96 ((List.replicate 96 freeC).flatMap Cel.cells) ∧ Below W.heap.size W w' := by
  obtain ⟨i0, hi, hz0, hz1, hz2⟩ := info_parts info_cell
  obtain ⟨w', h1, h2, h3⟩ := run_makeSlice_full (P := Try.prog) (w := W) base 35 60 i0 _ 5 Try.underlying35 hi hz0 hz1 .i64 .i64 96 (by omega) (by rw [hz2]; omega) (by unfold maxLen; omega) hb
  refine ⟨w', h1, ?_, ?_⟩
  · rw [made_cells] at h2; exact h2
  · exact ⟨h3.os, h3.tape, h3.output, h3.size, fun i hi => h3.block i hi (by simp)⟩
theorem CelsV.of_own {w : World} {B n : Nat} {v : Value} {l : List Cel} (h : w.ownsRow B 60 5 v n (l.flatMap Cel.cells)) (hn : n = l.length) (hi : ∀ c ∈ l, VecV w c.sv c.vec) : CelsV w v l := by
  subst hn
  exact ⟨⟨Sl.of_owns h, NilA.of_owns h⟩, hi⟩
set_option maxHeartbeats 1000000 in
theorem r9New (w : World) : Calls Try.prog 84 #[] w fun e w' => (∃ v, e = .returned (.agg #[v]) ∧ w'.ownsRow w.heap.size 60 5 v 96 ((List.replicate 96 freeC).flatMap Cel.cells)) ∧ Below w.heap.size w w' := by
  go_enter Try.func84, Try.ntmps84
  have HR := Lib.hid (run_make_cells (w.alloc (.cells #[.slice none 0 0] 37)) (w.heap.size + 1) (by simp))
  obtain ⟨w1, hr, ho, hb⟩ := HR.out
  have HO := Lib.hid ho
  have c0 : w1.cell? ⟨w.heap.size, 0, none⟩ = some (.slice none 0 0) := (hb.cell (p := ⟨w.heap.size, 0, none⟩) (by simp)).trans (by go_simp)
  have f0 : w1.frozen? ⟨w.heap.size, 0, none⟩ = false := (hb.frozen (p := ⟨w.heap.size, 0, none⟩) (by simp)).trans (by go_simp)
  have hb1 : Below w.heap.size w w1 := by ((have shb := hb.size); (try simp at shb); (repeat' (first | (with_reducible exact Below.refl _ _) | (with_reducible refine Below.setCell ?_ ?_ _) | (with_reducible refine Below.alloc ?_ ?_ _) | (with_reducible refine Below.drew ?_) | (with_reducible refine Below.trans ?_ (Below.mono hb ?_)) | go_size)))
  have hs : (w.alloc (.cells #[.slice none 0 0] 37)).heap.size = w.heap.size + 1 := by simp
  rw [hs] at hr HO
  clear ho HR
  go_wp2
  refine bodyPost_ret (v := .agg #[.slice (some ⟨w.heap.size + 1, 0, none⟩) 96 96]) (by simp only [results, Try.results84]; go_simp) rfl ⟨⟨_, rfl, own_weaken (own_setCell HO.out (by simp) _) (by omega)⟩, ?_⟩
  ((have shb1 := hb1.size); (try simp at shb1); (repeat' (first | (with_reducible exact Below.refl _ _) | (with_reducible refine Below.setCell ?_ ?_ _) | (with_reducible refine Below.alloc ?_ ?_ _) | (with_reducible refine Below.drew ?_) | (with_reducible refine Below.trans ?_ (Below.mono hb1 ?_)) | go_size)))
theorem flat_set {l : List Cel} {k : Nat} (h : k < l.length) (c : Cel) : (((((l.flatMap Cel.cells).set (k * 5) (.bool c.used)).set (k * 5 + 1) (.int .u64 c.id)).set (k * 5 + 2) (.int .u64 c.b)).set (k * 5 + 3) (.int .u64 c.e)).set (k * 5 + 4) c.sv = (l.set k c).flatMap Cel.cells := by
  induction l generalizing k with
  | nil => simp at h
  | cons x l ih =>
    cases k with
    | zero => simp [Cel.cells, List.flatMap_cons]
    | succ k =>
      have hk : k < l.length := by simpa using h
      rw [List.set_cons_succ, List.flatMap_cons, List.flatMap_cons, ← ih hk]
      have e : ∀ j, (k + 1) * 5 + j = (k * 5 + j) + 5 := by intro j; omega
      have e0 : (k + 1) * 5 = (k * 5) + 5 := by omega
      simp only [e0, Cel.cells, List.cons_append, List.nil_append, List.set_cons_succ]
theorem cellC_one (c : Cel) (h : c.sv.oneCell' = true) : ∀ u ∈ c.cells, u.oneCell' = true := by
  intro u hu
  simp only [Cel.cells, List.mem_cons, List.not_mem_nil, or_false] at hu
  rcases hu with rfl | rfl | rfl | rfl | rfl <;> first | rfl | exact h
theorem own_at {w : World} {B e size n g c : Nat} {xs : List Value} (h : w.ownsRow B e size (.slice (some ⟨g, 0, none⟩) n c) n xs) (j : Nat) (hj : j < n * size) : ∃ u, w.cell? ⟨g, j, none⟩ = some u := by
  have h1 := h.cellAt j hj
  rw [List.getElem?_eq_getElem (by rw [h.1]; exact hj)] at h1
  exact ⟨_, h1⟩
set_option maxHeartbeats 2000000 in
theorem r9With (vx : Value) (cells : List Cel) (k : Nat) (hk : k < cells.length) (h1000 : cells.length ≤ 1000) (c : Cel) (w : World) (hx : CelsV w vx cells) (hc : VecV w c.sv c.vec) : Calls Try.prog 83 #[.agg #[vx], .int .i64 (k : Int), argC c] w fun e w' =>
    (∃ v, e = .returned (.agg #[v]) ∧ w'.ownsRow w.heap.size 60 5 v cells.length ((cells.set k c).flatMap Cel.cells)) ∧ Below w.heap.size w w' := by
  obtain ⟨used, id, cb, ce, sv, vec⟩ := c
  simp only at hc
  unfold argC
  obtain ⟨av, cs', rfl, -⟩ := hc.form
  have HX := Lib.hid (fun W (hb : Below w.heap.size w W) => hx.grown hb)
  have HI := Lib.hid hx.2
  have HS := Lib.hid (flat_set hk ⟨used, id, cb, ce, .slice av vec.length cs', vec⟩)
  obtain ⟨a, cap, rfl, -⟩ := hx.open
  have hflat := flatMap_len Cel.cells 5 (fun _ => rfl) cells
  obtain ⟨W0, hW0⟩ : ∃ W0, W0 = (((w.alloc (.cells #[.slice a cells.length cap] 37)).alloc (.cells #[.bool used, .int .u64 id, .int .u64 cb, .int .u64 ce, .slice av vec.length cs'] 60)).alloc (.cells #[.slice none 0 0] 37)) := ⟨_, rfl⟩
  have hs0 : W0.heap.size = w.heap.size + 1 + 1 + 1 := by rw [hW0]; simp
  have k0 : (W0.alloc (.cells #[] 60)).cell? ⟨w.heap.size + 1, 0, none⟩ = some (.bool used) := by rw [hW0]; clear hW0; go_simp
  have k1 : (W0.alloc (.cells #[] 60)).cell? ⟨w.heap.size + 1, 1, none⟩ = some (.int .u64 id) := by rw [hW0]; clear hW0; go_simp
  have k2 : (W0.alloc (.cells #[] 60)).cell? ⟨w.heap.size + 1, 2, none⟩ = some (.int .u64 cb) := by rw [hW0]; clear hW0; go_simp
  have k3 : (W0.alloc (.cells #[] 60)).cell? ⟨w.heap.size + 1, 3, none⟩ = some (.int .u64 ce) := by rw [hW0]; clear hW0; go_simp
  have k4 : (W0.alloc (.cells #[] 60)).cell? ⟨w.heap.size + 1, 4, none⟩ = some (.slice av vec.length cs') := by rw [hW0]; clear hW0; go_simp
  have k5 : (W0.alloc (.cells #[] 60)).cell? ⟨w.heap.size + 1 + 1, 0, none⟩ = some (.slice none 0 0) := by rw [hW0]; clear hW0; go_simp
  have k6 : (W0.alloc (.cells #[] 60)).frozen? ⟨w.heap.size + 1 + 1, 0, none⟩ = false := by rw [hW0]; clear hW0; go_simp
  have k7 : (W0.alloc (.cells #[] 60)).cell? ⟨w.heap.size, 0, none⟩ = some (.slice a cells.length cap) := by rw [hW0]; clear hW0; go_simp
  have hB0 : Below w.heap.size w W0 := by rw [hW0]; ((repeat' (first | (with_reducible exact Below.refl _ _) | (with_reducible refine Below.setCell ?_ ?_ _) | (with_reducible refine Below.alloc ?_ ?_ _) | (with_reducible refine Below.drew ?_) | (with_reducible refine Below.trans ?_ (Below.mono (by assumption) ?_)) | go_size)))
  have own := World.ownsRow_lit (base := w.heap.size + 1 + 1 + 1) (size := 5) (e := 60) W0 #[] 0 (by omega) (by decide) rfl
  have hB1 : Below w.heap.size w (W0.alloc (.cells #[] 60)) := hB0.alloc hB0.size _
  have HSl := Lib.hid (Sl.grown hx.1.1 hB1)
  have HN := Lib.hid hx.1.2
  clear hx hc
  rw [hs0] at own
  have hsz : (W0.alloc (.cells #[] 60)).heap.size = w.heap.size + 4 := by simp; omega
  clear hs0 hB0
  subst hW0
  have HK := Lib.hid (And.intro k0 (And.intro k1 (And.intro k2 (And.intro k3 (And.intro k4 (And.intro k5 (And.intro k6 hsz)))))))
  clear k0 k1 k2 k3 k4 k5 k6 k7 hsz
  have HB1 := Lib.hid hB1
  clear hB1
  go_enter Try.func83, Try.ntmps83
  go_wp2_with (at_builtin; refine append_any rfl _ _ 35 rfl (w.heap.size + 1 + 1 + 1) 60 (.agg #[.bool false, .int .u64 0, .int .u64 0, .int .u64 0, .slice none 0 0]) 5 56 Try.underlying35 info_cell rfl (by decide) _ 0 _ rfl own _ cells.length (cells.flatMap Cel.cells) rfl HSl.out HN.out hflat (Cels.one HI.out) (by unfold maxLen; omega) (by omega) (by first | (simp; done) | (simp; omega)) ?_; intro v' w2 hown' hgrow; refine Hid.out ?_)
  refine Lib.hid ?_
  obtain ⟨k0, k1, k2, k3, k4, k5, k6, hsz⟩ := HK.out
  obtain ⟨g, cp, rfl⟩ := own_addr hown' (by omega)
  have hg := (hown'.lt g rfl)
  have hne : ∀ r, some (w.heap.size + 1 + 1 + 1) = some r → ∀ b, b < w.heap.size + 3 → b ≠ r := fun r e b hb => by have e2 : w.heap.size + 1 + 1 + 1 = r := Option.some.inj e; omega
  have j0 := (own_cell hgrow (p := ⟨w.heap.size + 1, 0, none⟩) (by rw [hsz]; simp) (fun r e => hne r e _ (by simp))).trans k0
  have j1 := (own_cell hgrow (p := ⟨w.heap.size + 1, 1, none⟩) (by rw [hsz]; simp) (fun r e => hne r e _ (by simp))).trans k1
  have j2 := (own_cell hgrow (p := ⟨w.heap.size + 1, 2, none⟩) (by rw [hsz]; simp) (fun r e => hne r e _ (by simp))).trans k2
  have j3 := (own_cell hgrow (p := ⟨w.heap.size + 1, 3, none⟩) (by rw [hsz]; simp) (fun r e => hne r e _ (by simp))).trans k3
  have j4 := (own_cell hgrow (p := ⟨w.heap.size + 1, 4, none⟩) (by rw [hsz]; simp) (fun r e => hne r e _ (by simp))).trans k4
  have j5 := (own_cell hgrow (p := ⟨w.heap.size + 1 + 1, 0, none⟩) (by rw [hsz]; simp) (fun r e => hne r e _ (by simp))).trans k5
  have j6 := (own_frozen hgrow (p := ⟨w.heap.size + 1 + 1, 0, none⟩) (by rw [hsz]; simp) (fun r e => hne r e _ (by simp))).trans k6
  have hB2 : Below w.heap.size w w2 := HB1.out.grown hgrow (by rw [hsz]; omega) (fun r e => by have e2 : w.heap.size + 1 + 1 + 1 = r := Option.some.inj e; omega)
  have hs2 := hgrow.size
  rw [hsz] at hs2
  rw [Nat.zero_add, List.nil_append] at hown'
  have HO := Lib.hid hown'
  have hcl : cells.length * 5 = (cells.flatMap Cel.cells).length := hflat.symm
  obtain ⟨u0, hx0⟩ := own_at hown' (k * 5) (by omega)
  obtain ⟨u1, hx1⟩ := own_at hown' (k * 5 + 1) (by omega)
  obtain ⟨u2, hx2⟩ := own_at hown' (k * 5 + 2) (by omega)
  obtain ⟨u3, hx3⟩ := own_at hown' (k * 5 + 3) (by omega)
  obtain ⟨u4, hx4⟩ := own_at hown' (k * 5 + 4) (by omega)
  have hfr := fun j => hown'.frozenAt j
  clear hgrow hown' hne k0 k1 k2 k3 k4 k5 k6 hsz
  have HW := Lib.hid (((((HO.out.stored (k * 5) (.bool used)).1.stored (k * 5 + 1) (.int .u64 id)).1.stored (k * 5 + 2) (.int .u64 cb)).1.stored (k * 5 + 3) (.int .u64 ce)).1.stored (k * 5 + 4) (.slice av vec.length cs')).1
  rw [HS.out] at HW
  have hgw : w.heap.size + 3 ≤ g := hg.1
  go_wp2
  refine bodyPost_ret (v := .agg #[.slice (some ⟨g, 0, none⟩) cells.length cp]) (by simp only [results, Try.results83]; go_simp) rfl ⟨⟨_, rfl, own_weaken (own_setCell HW.out (by omega) _) (by omega)⟩, ?_⟩
  ((have shB2 := hB2.size); (try simp at shB2); (repeat' (first | (with_reducible exact Below.refl _ _) | (with_reducible refine Below.setCell ?_ ?_ _) | (with_reducible refine Below.alloc ?_ ?_ _) | (with_reducible refine Below.drew ?_) | (with_reducible refine Below.trans ?_ (Below.mono hB2 ?_)) | go_size)))
end Go.Proofs.Ytlfmffjlmhpcdaa
