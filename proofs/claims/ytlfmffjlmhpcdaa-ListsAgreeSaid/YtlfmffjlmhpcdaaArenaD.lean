/- arena.Drop of one slot: its contract. -/
import Derived.Test.YtlfmffjlmhpcdaaArenaP
import Derived.Maps.RangeRun
import Derived.Laws.IdiomRangeMap
namespace Go.Proofs.Ytlfmffjlmhpcdaa
open Go.RowKit Go.ChangeMaps
set_option maxRecDepth 100000
attribute [local irreducible] Der

@[go_sem] theorem run_mk (w : World) : (Instr.makeMap 118 none).run Try.prog w = .ok (.map (some w.heap.size)) (w.alloc (.map #[] 0)) := rfl
def ent (s : Int) : MapEntry := { key := .int .i64 s, val := .bool true, born := 0 }
@[go_sem] theorem run_look0 (w : World) (m : Nat) (s : Int) (hb : w.heap[m]? = some (.map #[] 0)) : (Instr.lookup 118 (.map (some m)) (.int .i64 s) false).run Try.prog w = .ok (.bool false) w := by
  have h1 : Try.prog.underlying 118 = some (.map 3 4) := Try.underlying118
  have h2 : Try.prog.underlying 3 = some (.int .i64) := Try.underlying3
  have hf : Instr.findNow (.int .i64) (.int .i64 s) ([] : List MapEntry) 0 = some none := rfl
  have hc : (Instr.checkKey true 10000 3 (.int .i64 s)).run Try.prog w = .ok () w := MapKept.run_checkKey (k := .int .i64 s) h2 (by simp [MapKept.IsKey]) true 9999
  have hz : (zeroValue 4).run Try.prog w = .ok (.bool false) w := by kernel_rfl
  simp [Instr.lookup, run_underlying h1, MapKept.run_getObj_map hb, hc, MapKept.run_findKey h2 hf, Result.andThen, hz]
@[go_sem] theorem run_upd0 (w : World) (m : Nat) (s : Int) (hb : w.heap[m]? = some (.map #[] 0)) : (Instr.mapUpdate 118 (.map (some m)) (.int .i64 s) (.bool true)).run Try.prog w = .ok () (setBlock w m (.map #[ent s] 1)) := by
  have h1 : Try.prog.underlying 118 = some (.map 3 4) := Try.underlying118
  have h2 : Try.prog.underlying 3 = some (.int .i64) := Try.underlying3
  have hf : Instr.findNow (.int .i64) (.int .i64 s) ([] : List MapEntry) 0 = some none := rfl
  have hc : (Instr.checkKey false 10000 3 (.int .i64 s)).run Try.prog w = .ok () w := MapKept.run_checkKey (k := .int .i64 s) h2 (by simp [MapKept.IsKey]) false 9999
  simp [Instr.mapUpdate, run_underlying h1, MapKept.run_getObj_map hb, hc, MapKept.run_findKey h2 hf, MapKept.run_setObj_map _ hb, Result.andThen, setBlock, ent]
@[go_sem] theorem run_range1 (w : World) (m : Nat) (s : Int) (hb : w.heap[m]? = some (.map #[ent s] 1)) : (Instr.range 118 (.map (some m))).run Try.prog w = .ok (.pointer (some ⟨w.heap.size, 0, none⟩)) (w.alloc (.mapIter (some m) 1 #[] 1)) :=
  run_range_map w 118 3 4 m _ 1 Try.underlying118 hb
@[go_sem] theorem run_next1 (w : World) (ty : TypeId) (r m : Nat) (s : Int) (hr : w.heap[r]? = some (.mapIter (some m) 1 #[] 1)) (hb : w.heap[m]? = some (.map #[ent s] 1)) :
    (Instr.next (.pointer (some ⟨r, 0, none⟩)) false ty).run Try.prog w = .ok (.tuple #[.bool true, .int .i64 s, .bool true]) (setBlock w r (.mapIter (some m) 1 #[0] 1)) := by
  have hso := run_setObj_at (P := Try.prog) hr (.mapIter (some m) 1 #[0] 1)
  simp only [Instr.next, getObj, Sem.run_bind, Sem.run, hr, hb, Result.andThen]
  simp [ent, hso, Result.andThen, Question.forced]
@[go_sem] theorem run_next2 (w : World) (ty : TypeId) (r m : Nat) (s : Int) (hr : w.heap[r]? = some (.mapIter (some m) 1 #[0] 1)) (hb : w.heap[m]? = some (.map #[ent s] 1)) :
    (Instr.next (.pointer (some ⟨r, 0, none⟩)) false ty).run Try.prog w = .ok (.tuple #[.bool false]) w := by
  have hold : ∀ x ∈ (#[ent s] : Array MapEntry).toList, x.born < 1 := by simp [ent]
  rcases run_next_at (P := Try.prog) w ty r m 1 1 #[0] #[ent s] 1 hr hb hold (Nat.le_refl _) with h | ⟨e, he, -⟩
  · exact h.2
  · simp [Go.leftOf, ent] at he
@[go_sem] theorem run_entry1 (w : World) (r m : Nat) (s : Int) (hr : w.heap[r]? = some (.mapIter (some m) 1 #[0] 1)) (hb : w.heap[m]? = some (.map #[ent s] 1)) :
    (Instr.entry (.pointer (some ⟨r, 0, none⟩))).run Try.prog w = .ok (.tuple #[.int .i64 s, .bool true]) w :=
  run_entry_at (P := Try.prog) w r m 1 #[] #[ent s] 1 (ent s) hr hb (by simp) (by simp)
theorem setBlock_get (w : World) {m k : Nat} (o : Obj) (h : k ≠ m) : (setBlock w m o).heap[k]? = w.heap[k]? := by
  unfold setBlock; exact Array.getElem?_setIfInBounds_ne (Ne.symm h)
theorem setBlock_new (w : World) {m : Nat} (o : Obj) (h : m < w.heap.size) : (setBlock w m o).heap[m]? = some o := by
  unfold setBlock; exact Array.getElem?_setIfInBounds_self_of_lt h
theorem setBlock_size (w : World) (m : Nat) (o : Obj) : (setBlock w m o).heap.size = w.heap.size := by unfold setBlock; simp
theorem below_setBlock {n : Nat} {w w' : World} {m : Nat} (h : Below n w w') (hm : n ≤ m) (o : Obj) : Below n w (setBlock w' m o) :=
  ⟨h.os, h.tape, h.output, by rw [setBlock_size]; exact h.size, fun k hk => by rw [setBlock_get w' o (by omega)]; exact h.block k hk⟩
theorem own_setBlock {w : World} {B e size n : Nat} {v : Value} {xs : List Value} (h : w.ownsRow B e size v n xs) {r : Nat} (hr : v.ownBlock ≠ some r) (o : Obj) : (setBlock w r o).ownsRow B e size v n xs :=
  h.kept (row := some r) ⟨rfl, rfl, rfl, by rw [setBlock_size]; exact Nat.le_refl _, fun j _ hj => setBlock_get w o (fun e => hj (by rw [e]))⟩ (.inr hr)
theorem set5_get (w : World) {g j : Nat} (o0 o1 o2 o3 o4 : Nat) (u0 u1 u2 u3 u4 : Value) (h : j ≠ g) : (((((w.setCell ⟨g, o0, none⟩ u0).setCell ⟨g, o1, none⟩ u1).setCell ⟨g, o2, none⟩ u2).setCell ⟨g, o3, none⟩ u3).setCell ⟨g, o4, none⟩ u4).heap[j]? = w.heap[j]? := by
  rw [Below.heap_setCell _ ⟨g, o4, none⟩ u4 j h, Below.heap_setCell _ ⟨g, o3, none⟩ u3 j h, Below.heap_setCell _ ⟨g, o2, none⟩ u2 j h, Below.heap_setCell _ ⟨g, o1, none⟩ u1 j h, Below.heap_setCell _ ⟨g, o0, none⟩ u0 j h]
/-- A cell that is free. -/
def zeroC : Cel := ⟨false, 0, 0, 0, .slice none 0 0, []⟩
/-- What Drop of one slot answers. -/
def dropE (cells : List Cel) (s : Int) : Int := if arenaOK cells = false then 190 else if hasC cells s = false then 191 else 0
def DropPost (cells : List Cel) (s : Int) (B : Nat) (x : Ending) (w' : World) : Prop :=
  (dropE cells s ≠ 0 ∧ x = .returned (.tuple #[.agg #[.slice none 0 0], .int .i64 (dropE cells s)])) ∨
  (dropE cells s = 0 ∧ ∃ (k : Nat) (v : Value), k < cells.length ∧ s = k ∧ x = .returned (.tuple #[.agg #[v], .int .i64 0]) ∧ w'.ownsRow B 60 5 v cells.length ((cells.set k zeroC).flatMap Cel.cells))
theorem drop_bad {cells : List Cel} {s : Int} {E : Int} (h : dropE cells s = E) (hE : E ≠ 0) (B : Nat) (w' : World) : DropPost cells s B (.returned (.tuple #[.agg #[.slice none 0 0], .int .i64 E])) w' :=
  .inl ⟨by rw [h]; exact hE, by rw [h]⟩
theorem hasC_in {cells : List Cel} {s : Int} (h : hasC cells s = true) : ∃ k : Nat, k < cells.length ∧ s = k := by
  by_cases hr : 0 ≤ s ∧ s < cells.length
  · exact ⟨s.toNat, by omega, by omega⟩
  · rw [hasC_no hr] at h; cases h
set_option maxHeartbeats 8000000 in
theorem f_Drop1 (vx vs : Value) (cells : List Cel) (s : Int) (hlen : cells.length ≤ 1000) (w : World) (hx : CelsV w vx cells) (hs : Ints w vs [s]) :
    Calls Try.prog 39 #[.agg #[vx], vs] w fun x w' => DropPost cells s w.heap.size x w' ∧ Below w.heap.size w w' := by
  obtain ⟨a, cap, rfl, -⟩ := hx.open
  obtain ⟨sa, sc, rfl, -, -, scell⟩ := hs.open
  obtain ⟨g0, o0, rfl, hlt0, g1⟩ := scell 0 (by simp)
  have HX := Lib.hid (fun W (hb : Below w.heap.size w W) => hx.grown hb)
  clear hx hs scell
  rw [Nat.add_zero] at g1
  simp only [List.getElem_cons_zero] at g1
  go_enter Try.func39, Try.ntmps39
  go_wp2_with fail
  refine (f_arenaCheck _ cells _ (HX.out _ (by ((repeat' (first | (with_reducible exact Below.refl _ _) | (with_reducible refine Below.setCell ?_ ?_ _) | (with_reducible refine Below.alloc ?_ ?_ _) | (with_reducible refine Below.drew ?_) | (with_reducible refine Below.trans ?_ (Below.mono (by assumption) ?_)) | go_size)))))).mono ?_
  rintro x w1 ⟨rfl, hb1⟩
  have z1w0 : w.heap.size < w1.heap.size := (by have := hb1.size; (try simp at this); omega)
  have q1w0 := fun o => hb1.cell (p := ⟨w.heap.size, o, none⟩) (by first | omega | (simp; done) | (simp; omega))
  have r1w0 := fun o => hb1.frozen (p := ⟨w.heap.size, o, none⟩) (by first | omega | (simp; done) | (simp; omega))
  have z1w1 : w.heap.size + 1 < w1.heap.size := (by have := hb1.size; (try simp at this); omega)
  have q1w1 := fun o => hb1.cell (p := ⟨w.heap.size + 1, o, none⟩) (by first | omega | (simp; done) | (simp; omega))
  have r1w1 := fun o => hb1.frozen (p := ⟨w.heap.size + 1, o, none⟩) (by first | omega | (simp; done) | (simp; omega))
  have hB1 : Below w.heap.size w w1 := by ((have shb1 := hb1.size); (try simp at shb1); (repeat' (first | (with_reducible exact Below.refl _ _) | (with_reducible refine Below.setCell ?_ ?_ _) | (with_reducible refine Below.alloc ?_ ?_ _) | (with_reducible refine Below.drew ?_) | (with_reducible refine Below.trans ?_ (Below.mono hb1 ?_)) | go_size)))
  have c0_1 : w1.cell? ⟨w.heap.size, 0, none⟩ = some (.slice a cells.length cap) := by rw [q1w0]; go_simp
  have k0_1 : w1.frozen? ⟨w.heap.size, 0, none⟩ = false := by rw [r1w0]; go_simp
  have r0_1 : w1.cell? ⟨w.heap.size + 1, 0, none⟩ = some (.slice none 0 0) := by rw [q1w1]; go_simp
  have f0_1 : w1.frozen? ⟨w.heap.size + 1, 0, none⟩ = false := by rw [r1w1]; go_simp
  have e1 := (hB1.cell (p := ⟨g0, o0, none⟩) hlt0).trans g1
  clear q1w0 q1w1 r1w0 r1w1 hb1
  cases hao : arenaOK cells
  case false =>
    have HP := Lib.hid (fun W => drop_bad (show dropE cells s = 190 by unfold dropE; rw [if_pos hao]) (by decide) w.heap.size W)
    have HE := Lib.hid (show arenaE cells = 190 by unfold arenaE; rw [hao]; rfl)
    rw [HE.out]
    clear hao
    go_wp2
    refine bodyPost_ret (v := .tuple #[.agg #[.slice none 0 0], .int .i64 190]) (by simp only [results, Try.results39]; go_simp) rfl ⟨HP.out _, ?_⟩
    ((have shB1 := hB1.size); (try simp at shB1); (repeat' (first | (with_reducible exact Below.refl _ _) | (with_reducible refine Below.setCell ?_ ?_ _) | (with_reducible refine Below.alloc ?_ ?_ _) | (with_reducible refine Below.drew ?_) | (with_reducible refine Below.trans ?_ (Below.mono hB1 ?_)) | go_size)))
  have HAO := Lib.hid hao
  have HE := Lib.hid (show arenaE cells = 0 by unfold arenaE; rw [hao]; rfl)
  rw [HE.out]
  clear hao
  have hm0 : (w1.alloc (.map #[] 0)).heap[w1.heap.size]? = some (.map #[] 0) := World.alloc_heap_new w1 _
  have hlk := run_look0 (w1.alloc (.map #[] 0)) w1.heap.size s hm0
  have zg : g0 < w1.heap.size := by have := hB1.size; omega
  go_wp2
  refine wp_loop_rounds 2 ?_
  rw [rounds_succ]
  go_wp2_with fail
  refine (f_has _ cells s _ (HX.out _ (by ((have shB1 := hB1.size); (try simp at shB1); (repeat' (first | (with_reducible exact Below.refl _ _) | (with_reducible refine Below.setCell ?_ ?_ _) | (with_reducible refine Below.alloc ?_ ?_ _) | (with_reducible refine Below.drew ?_) | (with_reducible refine Below.trans ?_ (Below.mono hB1 ?_)) | go_size)))))).mono ?_
  rintro x w2 ⟨rfl, hb2⟩
  have hs2 := hb2.size
  simp at hs2
  have h12 : Below w1.heap.size w1 w2 := by ((have shb2 := hb2.size); (try simp at shb2); (repeat' (first | (with_reducible exact Below.refl _ _) | (with_reducible refine Below.setCell ?_ ?_ _) | (with_reducible refine Below.alloc ?_ ?_ _) | (with_reducible refine Below.drew ?_) | (with_reducible refine Below.trans ?_ (Below.mono hb2 ?_)) | go_size)))
  have hB2 : Below w.heap.size w w2 := by ((have sh12 := h12.size); (try simp at sh12); (have shB1 := hB1.size); (try simp at shB1); (repeat' (first | (with_reducible exact Below.refl _ _) | (with_reducible refine Below.setCell ?_ ?_ _) | (with_reducible refine Below.alloc ?_ ?_ _) | (with_reducible refine Below.drew ?_) | (with_reducible refine Below.trans ?_ (Below.mono h12 ?_)) | (with_reducible refine Below.trans ?_ (Below.mono hB1 ?_)) | go_size)))
  have c0_2 := (h12.cell (p := ⟨w.heap.size, 0, none⟩) z1w0).trans c0_1
  have k0_2 := (h12.frozen (p := ⟨w.heap.size, 0, none⟩) z1w0).trans k0_1
  have r0_2 := (h12.cell (p := ⟨w.heap.size + 1, 0, none⟩) z1w1).trans r0_1
  have f0_2 := (h12.frozen (p := ⟨w.heap.size + 1, 0, none⟩) z1w1).trans f0_1
  have hm2 : w2.heap[w1.heap.size]? = some (.map #[] 0) := (hb2.block w1.heap.size (by simp)).trans hm0
  have z2w0 : w.heap.size < w2.heap.size := by omega
  have z2w1 : w.heap.size + 1 < w2.heap.size := by omega
  clear hm0 hlk c0_1 k0_1 r0_1 f0_1 e1 h12 hb2
  cases hh : hasC cells s
  case false =>
    have HP := Lib.hid (fun W => drop_bad (show dropE cells s = 191 by unfold dropE; rw [if_neg (by rw [HAO.out]; decide), if_pos hh]) (by decide) w.heap.size W)
    clear hh
    go_wp2
    refine bodyPost_ret (v := .tuple #[.agg #[.slice none 0 0], .int .i64 191]) (by simp only [results, Try.results39]; go_simp) rfl ⟨HP.out _, ?_⟩
    ((have shB2 := hB2.size); (try simp at shB2); (repeat' (first | (with_reducible exact Below.refl _ _) | (with_reducible refine Below.setCell ?_ ?_ _) | (with_reducible refine Below.alloc ?_ ?_ _) | (with_reducible refine Below.drew ?_) | (with_reducible refine Below.trans ?_ (Below.mono hB2 ?_)) | go_size)))
  have HDE := Lib.hid (show dropE cells s = 0 by unfold dropE; rw [if_neg (by rw [HAO.out]; decide), if_neg (by rw [hh]; decide)])
  obtain ⟨k, hk, rfl⟩ := hasC_in hh
  clear hh
  have hup := run_upd0 w2 w1.heap.size k hm2
  obtain ⟨W2, hW2⟩ : ∃ W2, setBlock w2 w1.heap.size (.map #[ent k] 1) = W2 := ⟨_, rfl⟩
  rw [hW2] at hup
  have hsz2 : W2.heap.size = w2.heap.size := by rw [← hW2]; exact setBlock_size _ _ _
  have hmW : W2.heap[w1.heap.size]? = some (.map #[ent k] 1) := by rw [← hW2]; exact setBlock_new _ _ (by omega)
  have hBW : Below w.heap.size w W2 := by rw [← hW2]; exact below_setBlock hB2 (by omega) _
  have c0_W : W2.cell? ⟨w.heap.size, 0, none⟩ = some (.slice a cells.length cap) := by rw [← hW2, World.cell?_of_block (setBlock_get w2 _ (by simp; omega))]; exact c0_2
  have k0_W : W2.frozen? ⟨w.heap.size, 0, none⟩ = false := by rw [← hW2, World.frozen?_of_block (setBlock_get w2 _ (by simp; omega))]; exact k0_2
  have r0_W : W2.cell? ⟨w.heap.size + 1, 0, none⟩ = some (.slice none 0 0) := by rw [← hW2, World.cell?_of_block (setBlock_get w2 _ (by simp; omega))]; exact r0_2
  have f0_W : W2.frozen? ⟨w.heap.size + 1, 0, none⟩ = false := by rw [← hW2, World.frozen?_of_block (setBlock_get w2 _ (by simp; omega))]; exact f0_2
  clear hW2 hm2 c0_2 k0_2 r0_2 f0_2
  go_wp2
  rw [rounds_succ]
  clear hup
  go_wp2_with fail
  refine (f_copied _ cells (by omega) _ (HX.out _ hBW)).mono ?_
  rintro x w3 ⟨⟨v, rfl, hown⟩, hb3⟩
  have hs3 := hb3.size
  have hB3 : Below w.heap.size w w3 := by ((have shb3 := hb3.size); (try simp at shb3); (have shBW := hBW.size); (try simp at shBW); (repeat' (first | (with_reducible exact Below.refl _ _) | (with_reducible refine Below.setCell ?_ ?_ _) | (with_reducible refine Below.alloc ?_ ?_ _) | (with_reducible refine Below.drew ?_) | (with_reducible refine Below.trans ?_ (Below.mono hb3 ?_)) | (with_reducible refine Below.trans ?_ (Below.mono hBW ?_)) | go_size)))
  have c0_3 := (hb3.cell (p := ⟨w.heap.size, 0, none⟩) (by simp; omega)).trans c0_W
  have k0_3 := (hb3.frozen (p := ⟨w.heap.size, 0, none⟩) (by simp; omega)).trans k0_W
  have r0_3 := (hb3.cell (p := ⟨w.heap.size + 1, 0, none⟩) (by simp; omega)).trans r0_W
  have f0_3 := (hb3.frozen (p := ⟨w.heap.size + 1, 0, none⟩) (by simp; omega)).trans f0_W
  have hm3 : w3.heap[w1.heap.size]? = some (.map #[ent k] 1) := (hb3.block w1.heap.size (by omega)).trans hmW
  clear c0_W k0_W r0_W f0_W hmW
  obtain ⟨g, cp, rfl⟩ := own_addr hown (by omega)
  have hg := hown.lt g rfl
  have hg1 : W2.heap.size ≤ g := hg.1
  have hg2 : g < w3.heap.size := hg.2
  -- behind the store into the box: the range's own block, its step, and the entry
  obtain ⟨w4, hw4⟩ : ∃ w4, w3.setCell ⟨w.heap.size, 0, none⟩ (.slice (some ⟨g, 0, none⟩) cells.length cp) = w4 := ⟨_, rfl⟩
  have hs4 : w4.heap.size = w3.heap.size := by rw [← hw4]; simp
  have hget4 : ∀ j, j ≠ w.heap.size → w4.heap[j]? = w3.heap[j]? := fun j hj => by rw [← hw4]; exact Below.heap_setCell _ _ _ _ hj
  go_upto_region 13 with fail
  have hm4 : w4.heap[w1.heap.size]? = some (.map #[ent k] 1) := (hget4 _ (by omega)).trans hm3
  have HO4 := Lib.hid (show w4.ownsRow W2.heap.size 60 5 (.slice (some ⟨g, 0, none⟩) cells.length cp) cells.length (cells.flatMap Cel.cells) from by rw [← hw4]; exact own_setCell hown (by omega) _)
  have b0_4 : w4.cell? ⟨w.heap.size, 0, none⟩ = some (.slice (some ⟨g, 0, none⟩) cells.length cp) := by rw [← hw4]; clear hw4; go_simp
  have r0_4 : w4.cell? ⟨w.heap.size + 1, 0, none⟩ = some (.slice none 0 0) := by rw [← hw4]; clear hw4; go_simp
  have f0_4 : w4.frozen? ⟨w.heap.size + 1, 0, none⟩ = false := by rw [← hw4]; clear hw4; go_simp
  have hB4 : Below w.heap.size w w4 := by rw [← hw4]; ((have shB3 := hB3.size); (try simp at shB3); (repeat' (first | (with_reducible exact Below.refl _ _) | (with_reducible refine Below.setCell ?_ ?_ _) | (with_reducible refine Below.alloc ?_ ?_ _) | (with_reducible refine Below.drew ?_) | (with_reducible refine Below.trans ?_ (Below.mono hB3 ?_)) | go_size)))
  have hrg := run_range1 w4 w1.heap.size k hm4
  have hr5 : (w4.alloc (.mapIter (some w1.heap.size) 1 #[] 1)).heap[w4.heap.size]? = some (.mapIter (some w1.heap.size) 1 #[] 1) := World.alloc_heap_new w4 _
  have hm5 : (w4.alloc (.mapIter (some w1.heap.size) 1 #[] 1)).heap[w1.heap.size]? = some (.map #[ent k] 1) := (heap_alloc_old w4 _ (by omega)).trans hm4
  obtain ⟨w6, hw6⟩ : ∃ w6, setBlock (w4.alloc (.mapIter (some w1.heap.size) 1 #[] 1)) w4.heap.size (.mapIter (some w1.heap.size) 1 #[0] 1) = w6 := ⟨_, rfl⟩
  have hnx := run_next1 (w4.alloc (.mapIter (some w1.heap.size) 1 #[] 1)) 0 w4.heap.size w1.heap.size k hr5 hm5
  rw [hw6] at hnx
  have hs6 : w6.heap.size = w4.heap.size + 1 := by rw [← hw6, setBlock_size]; simp
  have hr6 : w6.heap[w4.heap.size]? = some (.mapIter (some w1.heap.size) 1 #[0] 1) := by rw [← hw6]; exact setBlock_new _ _ (by simp)
  have hm6 : w6.heap[w1.heap.size]? = some (.map #[ent k] 1) := by rw [← hw6, setBlock_get _ _ (by omega)]; exact hm5
  have hen := run_entry1 w6 w4.heap.size w1.heap.size k hr6 hm6
  have HO6 := Lib.hid (show w6.ownsRow W2.heap.size 60 5 (.slice (some ⟨g, 0, none⟩) cells.length cp) cells.length (cells.flatMap Cel.cells) from by
    rw [← hw6]
    exact own_setBlock (HO4.out.alloc _) (by show some g ≠ some w4.heap.size; intro e; have := Option.some.inj e; omega) _)
  have hget6 : ∀ j, j < w4.heap.size → w6.heap[j]? = w4.heap[j]? := fun j hj => by rw [← hw6, setBlock_get _ _ (by omega)]; exact heap_alloc_old w4 _ hj
  have b0_6 : w6.cell? ⟨w.heap.size, 0, none⟩ = some (.slice (some ⟨g, 0, none⟩) cells.length cp) := (World.cell?_of_block (hget6 _ (by simp; omega))).trans b0_4
  have r0_6 : w6.cell? ⟨w.heap.size + 1, 0, none⟩ = some (.slice none 0 0) := (World.cell?_of_block (hget6 _ (by simp; omega))).trans r0_4
  have f0_6 : w6.frozen? ⟨w.heap.size + 1, 0, none⟩ = false := (World.frozen?_of_block (hget6 _ (by simp; omega))).trans f0_4
  have hB6 : Below w.heap.size w w6 := by rw [← hw6]; exact below_setBlock (hB4.alloc hB4.size _) hB4.size _
  have HS := Lib.hid (flat_set hk zeroC)
  have hcl : cells.length * 5 = (cells.flatMap Cel.cells).length := (flatMap_len Cel.cells 5 (fun _ => rfl) cells).symm
  obtain ⟨u0, hx0⟩ := own_at HO6.out (k * 5) (by omega)
  obtain ⟨u1, hx1⟩ := own_at HO6.out (k * 5 + 1) (by omega)
  obtain ⟨u2, hx2⟩ := own_at HO6.out (k * 5 + 2) (by omega)
  obtain ⟨u3, hx3⟩ := own_at HO6.out (k * 5 + 3) (by omega)
  obtain ⟨u4, hx4⟩ := own_at HO6.out (k * 5 + 4) (by omega)
  have hfr := fun j => HO6.out.frozenAt j
  have HW := Lib.hid (((((HO6.out.stored (k * 5) (.bool false)).1.stored (k * 5 + 1) (.int .u64 0)).1.stored (k * 5 + 2) (.int .u64 0)).1.stored (k * 5 + 3) (.int .u64 0)).1.stored (k * 5 + 4) (.slice none 0 0)).1
  rw [show (((((cells.flatMap Cel.cells).set (k * 5) (.bool false)).set (k * 5 + 1) (.int .u64 0)).set (k * 5 + 2) (.int .u64 0)).set (k * 5 + 3) (.int .u64 0)).set (k * 5 + 4) (.slice none 0 0) = (cells.set k zeroC).flatMap Cel.cells from HS.out] at HW
  have hnx2 := run_next2 (((((w6.setCell ⟨g, k * 5, none⟩ (.bool false)).setCell ⟨g, k * 5 + 1, none⟩ (.int .u64 0)).setCell ⟨g, k * 5 + 2, none⟩ (.int .u64 0)).setCell ⟨g, k * 5 + 3, none⟩ (.int .u64 0)).setCell ⟨g, k * 5 + 4, none⟩ (.slice none 0 0)) 0 w4.heap.size w1.heap.size k
    ((set5_get w6 _ _ _ _ _ _ _ _ _ _ (by omega)).trans hr6) ((set5_get w6 _ _ _ _ _ _ _ _ _ _ (by omega)).trans hm6)
  clear hw6 hr5 hm5 hm4 hm3 hget4 hget6 b0_4 r0_4 f0_4 hown c0_3 k0_3 r0_3 f0_3 hw4
  have hs4' : w3.heap.size ≤ w4.heap.size := by omega
  have hs6' : w4.heap.size < w6.heap.size := by omega
  have hz2' : w2.heap.size ≤ W2.heap.size := by omega
  clear hs4 hs6 hsz2
  go_wp2
  refine wp_loop_rounds 2 ?_
  rw [rounds_succ]
  go_wp2
  rw [rounds_succ]
  go_wp2
  refine bodyPost_ret (v := .tuple #[.agg #[.slice (some ⟨g, 0, none⟩) cells.length cp], .int .i64 0]) (by simp only [results, Try.results39]; go_simp) rfl ⟨.inr ⟨HDE.out, k, _, hk, rfl, rfl, ?_⟩, ?_⟩
  · exact own_weaken (own_setCell HW.out (by omega) _) (by omega)
  · ((have shB6 := hB6.size); (try simp at shB6); (repeat' (first | (with_reducible exact Below.refl _ _) | (with_reducible refine Below.setCell ?_ ?_ _) | (with_reducible refine Below.alloc ?_ ?_ _) | (with_reducible refine Below.drew ?_) | (with_reducible refine Below.trans ?_ (Below.mono hB6 ?_)) | go_size)))
end Go.Proofs.Ytlfmffjlmhpcdaa
