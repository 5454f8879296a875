/- lists.with: lists in which something is done to each mask; lists.put; lists.Same. -/
import Derived.Test.YtlfmffjlmhpcdaaListsC
import Derived.Test.YtlfmffjlmhpcdaaRefF
namespace Go.Proofs.Ytlfmffjlmhpcdaa
open Go.RowKit
set_option maxRecDepth 100000
attribute [local irreducible] Der

theorem own_cell {w w' : World} {row : Option Nat} (h : w.grownBy w' row) {p : Addr} (h1 : p.block < w.heap.size) (h2 : ∀ r, row = some r → p.block ≠ r) : w'.cell? p = w.cell? p :=
  World.cell?_of_block (w := w) (h.block p.block h1 (fun e => h2 p.block e.symm rfl))
theorem own_frozen {w w' : World} {row : Option Nat} (h : w.grownBy w' row) {p : Addr} (h1 : p.block < w.heap.size) (h2 : ∀ r, row = some r → p.block ≠ r) : w'.frozen? p = w.frozen? p :=
  World.frozen?_of_block (w := w) (h.block p.block h1 (fun e => h2 p.block e.symm rfl))
theorem own_setCell {w : World} {B e size n : Nat} {v : Value} {xs : List Value} (h : w.ownsRow B e size v n xs) {g o : Nat} (hg : g < B) (u : Value) : (w.setCell ⟨g, o, none⟩ u).ownsRow B e size v n xs := by
  refine h.kept (row := some g) (but_setCell (but_refl w _) u) ?_
  by_cases hv : v.ownBlock = none
  · exact .inl hv
  · refine .inr fun e => ?_
    have := (h.lt g e).1
    omega
theorem info_mask' : (Try.prog.info? 49).map (fun i => (i.zero, i.size, i.bytes)) = some (some (.agg #[.int .u64 0, .int .u64 0]), 2, 16) := by kernel_rfl
theorem cellsM_one' (l : List M) : ∀ u ∈ cellsM l, u.oneCell' = true := by
  intro u hu
  unfold cellsM at hu
  obtain ⟨m, _, hm⟩ := List.mem_flatMap.1 hu
  simp at hm
  rcases hm with rfl | rfl <;> rfl
theorem Masks.of_own {w : World} {B n : Nat} {v : Value} {l : List M} (h : w.ownsRow B 49 2 v n (cellsM l)) (hn : n = l.length) : Masks w v l := by subst hn; exact Sl.of_owns h
/-- What is done to the first k masks. -/
def withL (d : Nat → M → M) (ms : List M) (k : Nat) : List M := (List.range k).map fun i => d i (mAt ms i)
theorem withL_succ (d : Nat → M → M) (ms : List M) (k : Nat) : withL d ms (k + 1) = withL d ms k ++ [d k (mAt ms k)] := by unfold withL; rw [List.range_succ, List.map_append]; rfl
theorem withL_length (d : Nat → M → M) (ms : List M) (k : Nat) : (withL d ms k).length = k := by unfold withL; simp
theorem cellsM_append (l m : List M) : cellsM (l ++ m) = cellsM l ++ cellsM m := by unfold cellsM; rw [List.flatMap_append]
/-- The calls of function k do d to each mask that is handed to it with its place. -/
def DoesOn (k : Nat) (lb : Array Value) (d : Nat → M → M) (ms : List M) (w : World) : Prop :=
  ∀ i (h : i < ms.length), ∀ w', Below w.heap.size w w' → Calls Try.prog k (#[.int .i64 (i : Nat), MV ms[i].1 ms[i].2] ++ lb) w' fun e w'' => e = .returned (MV (d i ms[i]).1 (d i ms[i]).2) ∧ Below w'.heap.size w' w''
/-- Lists, as a value, in memory. -/
def ListsV (w : World) (x : Value) (cs : List PV) (ms : List M) : Prop := ∃ vc vm, x = .agg #[vc, vm] ∧ VecsV w vc cs ∧ Masks w vm ms ∧ NilA vm
theorem ListsV.grown {w w' : World} {x : Value} {cs : List PV} {ms : List M} (h : ListsV w x cs ms) (hb : Below w.heap.size w w') : ListsV w' x cs ms := by
  obtain ⟨vc, vm, e, h1, h2, h3⟩ := h
  exact ⟨vc, vm, e, h1.grown hb, h2.grown hb, h3⟩
theorem own_slice {w : World} {B e size n : Nat} {v : Value} {xs : List Value} (h : w.ownsRow B e size v n xs) : ∃ a c, v = .slice a n c := by
  rcases h.2 with ⟨e, h0⟩ | ⟨g, c, cur, e, _⟩
  · exact ⟨none, 0, by rw [e, h0]⟩
  · exact ⟨_, _, e⟩
theorem own_weaken {w : World} {B B' e size n : Nat} {v : Value} {xs : List Value} (h : w.ownsRow B e size v n xs) (hb : B' ≤ B) : w.ownsRow B' e size v n xs := by
  refine ⟨h.1, ?_⟩
  rcases h.2 with h0 | ⟨g, cap, cur, e1, e2, e3⟩
  · exact .inl h0
  · exact .inr ⟨g, cap, cur, e1, Nat.le_trans hb e2, e3⟩
/-- Lists that a call has made: both rows lie in blocks from B on. -/
def ListsO (B : Nat) (w : World) (x : Value) (cs : List PV) (ms : List M) : Prop := ∃ vc vm, x = .agg #[vc, vm] ∧ w.ownsRow B 56 1 vc cs.length (cs.flatMap fun p => [p.1]) ∧ w.ownsRow B 49 2 vm ms.length (cellsM ms)
theorem ListsO.toV {B : Nat} {w : World} {x : Value} {cs : List PV} {ms : List M} (h : ListsO B w x cs ms) (hi : ∀ p ∈ cs, VecV w p.1 p.2) : ListsV w x cs ms := by
  obtain ⟨vc, vm, e, h1, h2⟩ := h
  exact ⟨vc, vm, e, ⟨⟨Sl.of_owns h1, NilA.of_owns h1⟩, hi⟩, Sl.of_owns h2, NilA.of_owns h2⟩
theorem ListsO.setCell {B g o : Nat} {w : World} {x : Value} {cs : List PV} {ms : List M} (h : ListsO B w x cs ms) (hg : g < B) (u : Value) : ListsO B (w.setCell ⟨g, o, none⟩ u) x cs ms := by
  obtain ⟨vc, vm, e, h1, h2⟩ := h
  exact ⟨vc, vm, e, own_setCell h1 hg u, own_setCell h2 hg u⟩
theorem ListsO.grown {B : Nat} {w w' : World} {x : Value} {cs : List PV} {ms : List M} (h : ListsO B w x cs ms) (hb : Below w.heap.size w w') : ListsO B w' x cs ms := by
  obtain ⟨vc, vm, e, h1, h2⟩ := h
  exact ⟨vc, vm, e, owns_below h1 hb, owns_below h2 hb⟩
theorem ListsO.weaken {B B' : Nat} {w : World} {x : Value} {cs : List PV} {ms : List M} (h : ListsO B w x cs ms) (hb : B' ≤ B) : ListsO B' w x cs ms := by
  obtain ⟨vc, vm, e, h1, h2⟩ := h
  exact ⟨vc, vm, e, own_weaken h1 hb, own_weaken h2 hb⟩
theorem ListsO.form {B : Nat} {w : World} {x : Value} {cs : List PV} {ms : List M} (h : ListsO B w x cs ms) : ∃ a c a' c', x = .agg #[.slice a cs.length c, .slice a' ms.length c'] := by
  obtain ⟨vc, vm, e, h1, h2⟩ := h
  obtain ⟨a, c, rfl⟩ := own_slice h1
  obtain ⟨a', c', rfl⟩ := own_slice h2
  exact ⟨a, c, a', c', e⟩
theorem own_addr {w : World} {B e size n : Nat} {v : Value} {xs : List Value} (h : w.ownsRow B e size v n xs) (hn : 0 < n) : ∃ g c, v = .slice (some ⟨g, 0, none⟩) n c := by
  rcases h.2 with ⟨_, h0⟩ | ⟨g, c, cur, e, _⟩
  · omega
  · exact ⟨g, c, e⟩
theorem VecsV.of_own {w0 w : World} {B n : Nat} {v : Value} {cs : List PV} (h : w.ownsRow B 56 1 v n (cs.flatMap fun p => [p.1])) (hn : n = cs.length) (hi : ∀ p ∈ cs, VecV w0 p.1 p.2) (hb : Below w0.heap.size w0 w) : VecsV w v cs := by
  subst hn
  exact ⟨⟨Sl.of_owns h, NilA.of_owns h⟩, fun p hp => (hi p hp).grown hb⟩
set_option maxHeartbeats 4000000 in
theorem f_listsWith (k : Nat) (lb : Array Value) (eg : ∀ args w, (callFunc k args).run Try.prog w = .ok (.enter k args) w) (d : Nat → M → M) (vc vm : Value) (cs : List PV) (ms : List M) (hcl : cs.length ≤ 1000) (hms : ms.length ≤ 1000) (w : World) (hc : VecsV w vc cs) (hm : Masks w vm ms) (hd : DoesOn k lb d ms w) :
    Calls Try.prog 69 #[.agg #[vc, vm], .func (.func k) #[] lb] w fun e w' => (∃ x, e = .returned x ∧ ListsO w.heap.size w' x cs (withL d ms ms.length)) ∧ Below w.heap.size w w' := by
  obtain ⟨a, cap, rfl, hl1, hm1⟩ : ∃ a cap, vc = .slice a cs.length cap ∧ cs.length ≤ cap ∧ cap ≤ 9223372036854775807 := by
    obtain ⟨a, cap, e, h1, h2, -⟩ := hc.open; exact ⟨a, cap, e, h1, h2⟩
  obtain ⟨a', cap', rfl, hl2, hm2, hcell⟩ := hm.open
  have Hc := Lib.hid hcell
  have HV := Lib.hid (fun W (hb : Below w.heap.size w W) => hc.grown hb)
  have HV2 := Lib.hid hc.2
  have HD := Lib.hid hd
  have HS := Lib.hid (fun k => withL_succ d ms k)
  have HL := Lib.hid (fun k => withL_length d ms k)
  clear hc hcell hm hd
  go_enter Try.func69, Try.ntmps69
  go_wp2_with fail
  refine (cloneV _ cs _ (HV.out _ (by ((repeat' (first | (with_reducible exact Below.refl _ _) | (with_reducible refine Below.setCell ?_ ?_ _) | (with_reducible refine Below.alloc ?_ ?_ _) | (with_reducible refine Below.drew ?_) | (with_reducible refine Below.trans ?_ (Below.mono (by assumption) ?_)) | go_size))))) (by omega)).mono ?_
  rintro e w1 ⟨⟨vc', rfl, hown⟩, hb1⟩
  have hB1 : Below w.heap.size w w1 := by ((have shb1 := hb1.size); (try simp at shb1); (repeat' (first | (with_reducible exact Below.refl _ _) | (with_reducible refine Below.setCell ?_ ?_ _) | (with_reducible refine Below.alloc ?_ ?_ _) | (with_reducible refine Below.drew ?_) | (with_reducible refine Below.trans ?_ (Below.mono hb1 ?_)) | go_size)))
  have hVc : VecsV w1 vc' cs := ⟨⟨Sl.of_owns hown, NilA.of_owns hown⟩, fun p hp => (HV2.out p hp).grown hB1⟩
  have HOc := Lib.hid hown
  obtain ⟨a3, cap3, rfl, -⟩ := hVc.open
  clear hVc hown
  have z1w0 : w.heap.size < w1.heap.size := (by have := hb1.size; (try simp at this); omega)
  have q1w0 := fun o => hb1.cell (p := ⟨w.heap.size, o, none⟩) (by first | omega | (simp; done) | (simp; omega))
  have r1w0 := fun o => hb1.frozen (p := ⟨w.heap.size, o, none⟩) (by first | omega | (simp; done) | (simp; omega))
  have z1w1 : w.heap.size + 1 < w1.heap.size := (by have := hb1.size; (try simp at this); omega)
  have q1w1 := fun o => hb1.cell (p := ⟨w.heap.size + 1, o, none⟩) (by first | omega | (simp; done) | (simp; omega))
  have r1w1 := fun o => hb1.frozen (p := ⟨w.heap.size + 1, o, none⟩) (by first | omega | (simp; done) | (simp; omega))
  have c0 : w1.cell? ⟨w.heap.size, 1, none⟩ = some (.slice a' ms.length cap') := by rw [q1w0]; go_simp
  have r0 : w1.cell? ⟨w.heap.size + 1, 0, none⟩ = some (.slice none 0 0) := by rw [q1w1]; go_simp
  have r1 : w1.cell? ⟨w.heap.size + 1, 1, none⟩ = some (.slice none 0 0) := by rw [q1w1]; go_simp
  have s0 : w1.frozen? ⟨w.heap.size + 1, 0, none⟩ = false := by rw [r1w1]; go_simp
  have s1 : w1.frozen? ⟨w.heap.size + 1, 1, none⟩ = false := by rw [r1w1]; go_simp
  clear q1w0 q1w1 r1w0 r1w1 hb1
  go_wp2
  go_loopw [15] (fun i wr => ∃ (j : Nat) (v : Value), j ≤ ms.length ∧ i = .int .i64 j ∧ wr.cell? ⟨w1.heap.size, 0, none⟩ = some (.slice a3 cs.length cap3) ∧ wr.cell? ⟨w1.heap.size, 1, none⟩ = some v ∧ wr.frozen? ⟨w1.heap.size, 0, none⟩ = false ∧ wr.frozen? ⟨w1.heap.size, 1, none⟩ = false ∧
    wr.ownsRow (w1.heap.size + 1) 49 2 v j (cellsM (withL d ms j)) ∧ Below w1.heap.size w1 wr ∧ w1.heap.size + 1 ≤ wr.heap.size) (fun i _ => ms.length - (intOf i).toNat)
  case atStart =>
    refine ⟨0, .slice none 0 0, Nat.zero_le _, rfl, by go_simp, by go_simp, by go_simp, by go_simp, World.ownsRow_nil _ _ _ _, by ((repeat' (first | (with_reducible exact Below.refl _ _) | (with_reducible refine Below.setCell ?_ ?_ _) | (with_reducible refine Below.alloc ?_ ?_ _) | (with_reducible refine Below.drew ?_) | (with_reducible refine Below.trans ?_ (Below.mono (by assumption) ?_)) | go_size))), by simp⟩
  case round =>
    obtain ⟨j, v, hj, rfl, n0, n1, m0, m1, hown, hbr, hsz⟩ := hrel
    have HO := Lib.hid hown
    clear hown
    have hBr : Below w.heap.size w wr := by ((have shbr := hbr.size); (try simp at shbr); (have shB1 := hB1.size); (try simp at shB1); (repeat' (first | (with_reducible exact Below.refl _ _) | (with_reducible refine Below.setCell ?_ ?_ _) | (with_reducible refine Below.alloc ?_ ?_ _) | (with_reducible refine Below.drew ?_) | (with_reducible refine Below.trans ?_ (Below.mono hbr ?_)) | (with_reducible refine Below.trans ?_ (Below.mono hB1 ?_)) | go_size)))
    by_cases hlt2 : j < ms.length
    · obtain ⟨b, off, rfl, hlt, g1, g2⟩ := Hc.out j hlt2
      have e1 := (hBr.cell (p := ⟨b, off + j * 2, none⟩) hlt).trans g1
      have e2 := (hBr.cell (p := ⟨b, off + j * 2 + 1, none⟩) hlt).trans g2
      have HDj := Lib.hid (HD.out j hlt2)
      have hS := HS.out j
      rw [mAt_get hlt2] at hS
      have HSj := Lib.hid hS
      clear g1 g2 hS
      generalize ms[j] = y at *
      obtain ⟨y1, y2⟩ := y
      obtain ⟨Z, hZ⟩ : ∃ Z, d j (y1, y2) = Z := ⟨_, rfl⟩
      rw [hZ] at HSj HDj
      clear hZ
      have hzz : w1.heap.size < wr.heap.size := by omega
      have hzw : w.heap.size < wr.heap.size := by omega
      obtain ⟨wz, hwz⟩ : ∃ wz, wz = wr := ⟨_, rfl⟩
      subst hwz
      go_wp2
      refine wp_grow [(5, .val (MV (Z).1 (Z).2)), (6, .rel (fun v w => Masks w v [Z] ∧ NilA v) (fun _ _ _ h hg => ⟨h.1.grown hg, h.2⟩))] 7 (by kernel_rfl) (by kernel_rfl) (by rfl) (by rfl) ?_
      simp only [List.take_succ_cons, List.take_zero, List.drop_succ_cons, List.drop_zero]
      repeat (first
        | (apply Der.quiet; (rfl); (rfl); (intro w' hw' hctx; have hc' := bcell hw'; have ywz0 := fun o => hw'.cell (p := ⟨wz.heap.size, o, none⟩) (by first | omega | (simp; done) | (simp; omega)); have yb := fun o => hw'.cell (p := ⟨w1.heap.size, o, none⟩) (by simp; omega); clear hctx; go_simp; first | exact rfl | exact ⟨rfl, rfl⟩); simp only [Act.put, List.setIfInBounds_toArray, List.set_cons_succ, List.set_cons_zero, Nat.reduceAdd])
        | (apply Der.skip; (rfl); simp only [Act.put, List.setIfInBounds_toArray, List.set_cons_succ, List.set_cons_zero, Nat.reduceAdd]))
      apply Der.val
      · rfl
      · rfl
      · (intro w' hw' hctx; go_simp; refine (HDj.out _ ((hBr.alloc hBr.size _).trans ((undrew hw').mono (by have := hBr.size; simp; omega)))).mono ?_; rintro e w2 ⟨rfl, hb⟩; exact ⟨_, rfl, rfl, hb⟩)
      simp only [Act.put, List.setIfInBounds_toArray, List.set_cons_succ, List.set_cons_zero, Nat.reduceAdd]
      refine Der.rel (by rfl) (by rfl) (fun w' hw' hctx => ?_) (fun sb => ?_)
      · (go_simp; exact ⟨⟨Sl.fresh w' 49 1 _ rfl (by omega), NilA.of_some _ _ _⟩, (Below.refl _ _).alloc (Nat.le_refl _) _⟩)
      simp only [Act.put, List.setIfInBounds_toArray, List.set_cons_succ, List.set_cons_zero, Nat.reduceAdd]
      refine Der.nil (fun w2 hg2 hctx => ?_)
      have hcx : Masks w2 sb [Z] ∧ NilA sb := hctx 6 _ _ (by omega) rfl rfl
      clear hctx
      have hb2 : Below _ _ w2 := hg2
      clear hg2
      have hb2' : Below wz.heap.size wz w2 := by ((have shb2 := hb2.size); (try simp at shb2); (repeat' (first | (with_reducible exact Below.refl _ _) | (with_reducible refine Below.setCell ?_ ?_ _) | (with_reducible refine Below.alloc ?_ ?_ _) | (with_reducible refine Below.drew ?_) | (with_reducible refine Below.trans ?_ (Below.mono hb2 ?_)) | go_size)))
      have HO2 := Lib.hid (owns_below HO.out hb2')
      have HX := Lib.hid hcx
      obtain ⟨asb, csb, rfl, -⟩ := hcx.1.open
      obtain ⟨av, cv, rfl⟩ := own_slice HO.out
      have hs2 := hb2'.size
      have n02 := (hb2'.cell (p := ⟨w1.heap.size, 0, none⟩) hzz).trans n0
      have n12 := (hb2'.cell (p := ⟨w1.heap.size, 1, none⟩) hzz).trans n1
      have m02 := (hb2'.frozen (p := ⟨w1.heap.size, 0, none⟩) hzz).trans m0
      have m12 := (hb2'.frozen (p := ⟨w1.heap.size, 1, none⟩) hzz).trans m1
      clear hcx n0 n1 m0 m1 e1 e2 hb2
      refine append_any rfl _ _ 23 rfl (w1.heap.size + 1) 49 (.agg #[.int .u64 0, .int .u64 0]) 2 16 Try.underlying23 info_mask' rfl (by decide) _ j _ rfl HO2.out _ 1 (cellsM [Z]) rfl (show Sl w2 _ 1 (cellsM [Z]) from HX.out.1) HX.out.2 rfl (cellsM_one' _) (by unfold maxLen; omega) (by omega) (by omega) ?_
      intro v' w3 hown' hgrow
      have hne : ∀ r, (Value.slice av j cv).ownBlock = some r → w1.heap.size ≠ r := fun r e => (by have := (HO2.out.lt r e).1; omega)
      have n03 := (own_cell hgrow (p := ⟨w1.heap.size, 0, none⟩) (by simp; omega) hne).trans n02
      have n13 := (own_cell hgrow (p := ⟨w1.heap.size, 1, none⟩) (by simp; omega) hne).trans n12
      have m03 := (own_frozen hgrow (p := ⟨w1.heap.size, 0, none⟩) (by simp; omega) hne).trans m02
      have m13 := (own_frozen hgrow (p := ⟨w1.heap.size, 1, none⟩) (by simp; omega) hne).trans m12
      have hb3 : Below w1.heap.size w1 w3 := (show Below w1.heap.size w1 w2 by ((have shb2' := hb2'.size); (try simp at shb2'); (have shbr := hbr.size); (try simp at shbr); (repeat' (first | (with_reducible exact Below.refl _ _) | (with_reducible refine Below.setCell ?_ ?_ _) | (with_reducible refine Below.alloc ?_ ?_ _) | (with_reducible refine Below.drew ?_) | (with_reducible refine Below.trans ?_ (Below.mono hb2' ?_)) | (with_reducible refine Below.trans ?_ (Below.mono hbr ?_)) | go_size)))).grown hgrow (by omega) (fun r e => by have := (HO2.out.lt r e).1; omega)
      have hs3 : w1.heap.size + 1 ≤ w3.heap.size := (by have := hgrow.size; omega)
      rw [← cellsM_append, ← HSj.out] at hown'
      have HO3 := Lib.hid hown'
      obtain ⟨g', cap4, rfl⟩ := own_addr hown' (by omega)
      clear hown' hgrow hne n02 n12 m02 m12
      go_wp2
      go_roundw
      case rel =>
        refine ⟨j + 1, _, by omega, by go_num, ?_, ?_, ?_, ?_, own_setCell HO3.out (by omega) _, ?_, ?_⟩
        · go_simp
        · go_simp
        · go_simp
        · go_simp
        · ((have shb3 := hb3.size); (try simp at shb3); (repeat' (first | (with_reducible exact Below.refl _ _) | (with_reducible refine Below.setCell ?_ ?_ _) | (with_reducible refine Below.alloc ?_ ?_ _) | (with_reducible refine Below.drew ?_) | (with_reducible refine Below.trans ?_ (Below.mono hb3 ?_)) | go_size)))
        · simp; omega
      case measure => simp [intOf]; omega
    · have : j = ms.length := by omega
      subst this
      have r0' := (hbr.cell (p := ⟨w.heap.size + 1, 0, none⟩) z1w1).trans r0
      have r1' := (hbr.cell (p := ⟨w.heap.size + 1, 1, none⟩) z1w1).trans r1
      have s0' := (hbr.frozen (p := ⟨w.heap.size + 1, 0, none⟩) z1w1).trans s0
      have s1' := (hbr.frozen (p := ⟨w.heap.size + 1, 1, none⟩) z1w1).trans s1
      obtain ⟨av, capv, hv⟩ := own_slice HO.out
      have HL' := Lib.hid (HL.out ms.length)
      have HOw := Lib.hid (own_setCell (own_setCell (owns_below HOc.out hbr) (g := w.heap.size + 1) (o := 0) (by simp) (.slice a3 cs.length cap3)) (g := w.heap.size + 1) (o := 1) (by simp) (.slice av ms.length capv))
      have HOm := Lib.hid (own_setCell (own_setCell HO.out (g := w.heap.size + 1) (o := 0) (by omega) (.slice a3 cs.length cap3)) (g := w.heap.size + 1) (o := 1) (by omega) (.slice av ms.length capv))
      have HN := Lib.hid (NilA.of_owns HO.out)
      subst hv
      have hBf : Below w.heap.size w ((wr.setCell ⟨w.heap.size + 1, 0, none⟩ (.slice a3 cs.length cap3)).setCell ⟨w.heap.size + 1, 1, none⟩ (.slice av ms.length capv)) := by ((have shBr := hBr.size); (try simp at shBr); (repeat' (first | (with_reducible exact Below.refl _ _) | (with_reducible refine Below.setCell ?_ ?_ _) | (with_reducible refine Below.alloc ?_ ?_ _) | (with_reducible refine Below.drew ?_) | (with_reducible refine Below.trans ?_ (Below.mono hBr ?_)) | go_size)))
      go_wp2
      refine bodyPost_ret (v := .agg #[.slice a3 cs.length cap3, .slice av ms.length capv]) (by simp only [results, Try.results69]; go_simp) rfl ⟨⟨_, rfl, _, _, rfl, own_weaken HOw.out (by simp; omega), own_weaken (by rw [HL'.out]; exact HOm.out) (by omega)⟩, hBf⟩
end Go.Proofs.Ytlfmffjlmhpcdaa
