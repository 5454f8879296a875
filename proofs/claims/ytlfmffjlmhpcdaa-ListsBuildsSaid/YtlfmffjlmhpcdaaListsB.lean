/- Lists that may be: lists.Check. -/
import Derived.Test.YtlfmffjlmhpcdaaListsA
namespace Go.Proofs.Ytlfmffjlmhpcdaa
open Go.RowKit
set_option maxRecDepth 100000
attribute [local irreducible] Der

/-- A new box of the region's own. -/
def NewBox (B0 t : Nat) (cs : Array Value) (v : Value) (w : World) : Prop := ∃ B, v = .pointer (some ⟨B, 0, none⟩) ∧ B0 ≤ B ∧ B < w.heap.size ∧ w.heap[B]? = some (.cells cs t)
theorem NewBox.grown {B0 t : Nat} {cs : Array Value} {v : Value} {w w' : World} (h : NewBox B0 t cs v w) (hg : Below w.heap.size w w') : NewBox B0 t cs v w' := by
  obtain ⟨B, e, h0, h1, h2⟩ := h
  exact ⟨B, e, h0, Nat.lt_of_lt_of_le h1 hg.size, (hg.block B h1).trans h2⟩
theorem NewBox.new {B0 t : Nat} (cs : Array Value) (w : World) (h : B0 ≤ w.heap.size) : NewBox B0 t cs (.pointer (some ⟨w.heap.size, 0, none⟩)) (w.alloc (.cells cs t)) :=
  ⟨_, rfl, h, by simp, World.alloc_heap_new w _⟩
theorem cell_of_block {w : World} {B t : Nat} {cs : Array Value} (h : w.heap[B]? = some (.cells cs t)) (j : Nat) : w.cell? ⟨B, j, none⟩ = cs[j]? := by unfold World.cell?; rw [h]; simp
theorem frozen_of_block {w : World} {B t : Nat} {cs : Array Value} (h : w.heap[B]? = some (.cells cs t)) (j : Nat) : w.frozen? ⟨B, j, none⟩ = false := by unfold World.frozen?; rw [h]; simp

def mAt (ms : List M) (i : Nat) : M := ms[i]?.getD mZero
theorem mAt_get {ms : List M} {i : Nat} (h : i < ms.length) : mAt ms i = ms[i] := by unfold mAt; rw [List.getElem?_eq_getElem h]; rfl
/-- What a mask has in common with those ahead of it. -/
def metM (ms : List M) (i : Nat) : M := andAll [mAt ms i, orF (ms.take i)]
def okAt (ms : List M) (i : Nat) : Bool := decide (chk (mAt ms i).2 = 0) && decide (cntF (metM ms i).1 (metM ms i).2 = 0)
def masksOK (ms : List M) : Bool := (List.range ms.length).all (okAt ms)
/-- May lists be? -/
def listsOK (cs : List PV) (ms : List M) : Bool := centsOK cs && (decide (ms.length = cs.length) && masksOK ms)
def listsE (cs : List PV) (ms : List M) : Int := if listsOK cs ms then 0 else 230
theorem masksOK_no {ms : List M} {k : Nat} (h : k < ms.length) (hh : okAt ms k = false) : masksOK ms = false :=
  List.all_eq_false.2 ⟨k, List.mem_range.2 h, by simp [hh]⟩
theorem masksOK_yes {ms : List M} (h : ∀ k, k < ms.length → okAt ms k = true) : masksOK ms = true :=
  List.all_eq_true.2 fun k hk => h k (List.mem_range.1 hk)
theorem Masks.pre {w : World} {a : Option Addr} {cap : Nat} {ms : List M} (h : Masks w (.slice a ms.length cap) ms) (i : Nat) (hi : i ≤ ms.length) : Masks w (.slice a i cap) (ms.take i) := by
  obtain ⟨a', cap', e, hl, hm, hc⟩ := h.form
  simp only [Value.slice.injEq, true_and] at e
  obtain ⟨rfl, rfl⟩ := e
  have hlen : (ms.take i).length = i := by rw [List.length_take]; omega
  refine ⟨_, _, by rw [hlen], by omega, hm, fun hne => ?_⟩
  have e2 : cellsM ms = cellsM (ms.take i) ++ cellsM (ms.drop i) := by unfold cellsM; rw [← List.flatMap_append, List.take_append_drop]
  obtain ⟨b, off, ha, hb, hcell⟩ := hc (by rw [e2]; intro e3; exact hne (List.append_eq_nil_iff.1 e3).1)
  refine ⟨b, off, ha, hb, fun j hj => ?_⟩
  have hj2 : j < (cellsM ms).length := by rw [e2, List.length_append]; omega
  rw [hcell j hj2]
  congr 1
  have h3 : (cellsM ms)[j]? = (cellsM (ms.take i))[j]? := by rw [e2, List.getElem?_append_left hj]
  rw [List.getElem?_eq_getElem hj2, List.getElem?_eq_getElem hj] at h3
  exact Option.some.inj h3
theorem cntF_pos (a b : BitVec 64) : 0 ≤ cntF a b := by have := cnt_list (a, b); simp only at this; omega
set_option maxHeartbeats 4000000 in
theorem f_listsCheck (vc vm : Value) (cs : List PV) (ms : List M) (w : World) (hc : VecsV w vc cs) (hm : Masks w vm ms) : Calls Try.prog 11 #[.agg #[vc, vm]] w fun e w' => e = .returned (.int .i64 (listsE cs ms)) ∧ Below w.heap.size w w' := by
  obtain ⟨a, cap, rfl, hl1, hm1⟩ : ∃ a cap, vc = .slice a cs.length cap ∧ cs.length ≤ cap ∧ cap ≤ 9223372036854775807 := by
    obtain ⟨a, cap, e, h1, h2, -⟩ := hc.open; exact ⟨a, cap, e, h1, h2⟩
  obtain ⟨a', cap', rfl, hl2, hm2, hcell⟩ := hm.open
  have Hc := Lib.hid hcell
  have HV := Lib.hid (fun W (hb : Below w.heap.size w W) => hc.grown hb)
  have HM := Lib.hid hm
  clear hc hcell hm
  cases hco : centsOK cs
  · have HE := Lib.hid (show listsE cs ms = 230 by unfold listsE listsOK; rw [hco]; rfl)
    have HC := Lib.hid hco
    clear hco
    go_enter Try.func11, Try.ntmps11
    go_wp2_with fail
    refine (f_centroids _ cs _ (HV.out _ (by ((repeat' (first | (with_reducible exact Below.refl _ _) | (with_reducible refine Below.setCell ?_ ?_ _) | (with_reducible refine Below.alloc ?_ ?_ _) | (with_reducible refine Below.drew ?_) | (with_reducible refine Below.trans ?_ (Below.mono (by assumption) ?_)) | go_size)))))).mono ?_
    rintro e w1 ⟨rfl, hb1⟩
    rw [HC.out]
    have z1w0 : w.heap.size < w1.heap.size := (by have := hb1.size; (try simp at this); omega)
    have q1w0 := fun o => hb1.cell (p := ⟨w.heap.size, o, none⟩) (by first | omega | (simp; done) | (simp; omega))
    have r1w0 := fun o => hb1.frozen (p := ⟨w.heap.size, o, none⟩) (by first | omega | (simp; done) | (simp; omega))
    go_wp2
    go_ret
    refine ⟨by rw [HE.out]; rfl, by ((have shb1 := hb1.size); (try simp at shb1); (repeat' (first | (with_reducible exact Below.refl _ _) | (with_reducible refine Below.setCell ?_ ?_ _) | (with_reducible refine Below.alloc ?_ ?_ _) | (with_reducible refine Below.drew ?_) | (with_reducible refine Below.trans ?_ (Below.mono hb1 ?_)) | go_size)))⟩
  · have HC := Lib.hid hco
    by_cases hlen : ms.length = cs.length
    · have HE := Lib.hid (show listsE cs ms = if masksOK ms then 0 else 230 by unfold listsE listsOK; rw [hco, decide_eq_true hlen]; rfl)
      have hn : ((ms.length : Int) != (cs.length : Int)) = false := by simp [hlen]
      have HN := Lib.hid (fun k h hh => masksOK_no (ms := ms) (k := k) h hh)
      have HY := Lib.hid (fun h => masksOK_yes (ms := ms) h)
      clear hco hlen
      go_enter Try.func11, Try.ntmps11
      go_wp2_with fail
      refine (f_centroids _ cs _ (HV.out _ (by ((repeat' (first | (with_reducible exact Below.refl _ _) | (with_reducible refine Below.setCell ?_ ?_ _) | (with_reducible refine Below.alloc ?_ ?_ _) | (with_reducible refine Below.drew ?_) | (with_reducible refine Below.trans ?_ (Below.mono (by assumption) ?_)) | go_size)))))).mono ?_
      rintro e w1 ⟨rfl, hb1⟩
      rw [HC.out]
      have z1w0 : w.heap.size < w1.heap.size := (by have := hb1.size; (try simp at this); omega)
      have q1w0 := fun o => hb1.cell (p := ⟨w.heap.size, o, none⟩) (by first | omega | (simp; done) | (simp; omega))
      have r1w0 := fun o => hb1.frozen (p := ⟨w.heap.size, o, none⟩) (by first | omega | (simp; done) | (simp; omega))
      have hbx0 : w1.cell? ⟨w.heap.size, 0, none⟩ = some (.slice a cs.length cap) := by rw [q1w0]; go_simp
      have hbx1 : w1.cell? ⟨w.heap.size, 1, none⟩ = some (.slice a' ms.length cap') := by rw [q1w0]; go_simp
      have hB1 : Below w.heap.size w w1 := by ((have shb1 := hb1.size); (try simp at shb1); (repeat' (first | (with_reducible exact Below.refl _ _) | (with_reducible refine Below.setCell ?_ ?_ _) | (with_reducible refine Below.alloc ?_ ?_ _) | (with_reducible refine Below.drew ?_) | (with_reducible refine Below.trans ?_ (Below.mono hb1 ?_)) | go_size)))
      clear q1w0 r1w0 hb1
      go_wp2
      go_loopw [22] (fun i wr => ∃ k : Nat, k ≤ ms.length ∧ i = .int .i64 k ∧ (∀ j, j < k → okAt ms j = true) ∧ Below w1.heap.size w1 wr) (fun i _ => ms.length - (intOf i).toNat)
      case atStart => exact ⟨0, Nat.zero_le _, rfl, fun j hj => absurd hj (Nat.not_lt_zero _), Below.refl _ _⟩
      case round =>
        obtain ⟨k, hk, rfl, hall, hbr⟩ := hrel
        have HA := Lib.hid hall
        clear hall
        have hsz := hbr.size
        have hBr : Below w.heap.size w wr := by ((have shbr := hbr.size); (try simp at shbr); (have shB1 := hB1.size); (try simp at shB1); (repeat' (first | (with_reducible exact Below.refl _ _) | (with_reducible refine Below.setCell ?_ ?_ _) | (with_reducible refine Below.alloc ?_ ?_ _) | (with_reducible refine Below.drew ?_) | (with_reducible refine Below.trans ?_ (Below.mono hbr ?_)) | (with_reducible refine Below.trans ?_ (Below.mono hB1 ?_)) | go_size)))
        have c0 := (hbr.cell (p := ⟨w.heap.size, 0, none⟩) z1w0).trans hbx0
        have c1 := (hbr.cell (p := ⟨w.heap.size, 1, none⟩) z1w0).trans hbx1
        by_cases hlt2 : k < ms.length
        · obtain ⟨b, off, rfl, hlt, g1, g2⟩ := Hc.out k hlt2
          have e1 := (hBr.cell (p := ⟨b, off + k * 2, none⟩) hlt).trans g1
          have e2 := (hBr.cell (p := ⟨b, off + k * 2 + 1, none⟩) hlt).trans g2
          clear g1 g2
          have HMk := Lib.hid (Masks.pre HM.out k (by omega))
          have HNk := Lib.hid (HN.out k hlt2)
          have hok : okAt ms k = (decide (chk ms[k].2 = 0) && decide (cntF (andAll [ms[k], orF (ms.take k)]).1 (andAll [ms[k], orF (ms.take k)]).2 = 0)) := by
            unfold okAt metM; rw [mAt_get hlt2]
          have HOK := Lib.hid hok
          clear hok
          generalize ms[k] = y at *
          obtain ⟨y1, y2⟩ := y
          obtain ⟨X, hX⟩ : ∃ X, orF (ms.take k) = X := ⟨_, rfl⟩
          rw [hX] at HOK
          have HX := Lib.hid hX
          obtain ⟨Z, hZ⟩ : ∃ Z, andAll [(y1, y2), X] = Z := ⟨_, rfl⟩
          rw [hZ] at HOK
          have HZ := Lib.hid hZ
          clear hX hZ
          have hzz : b < wr.heap.size := by have := hBr.size; omega
          have hkc : k ≤ cap' := by omega
          have hzw : w.heap.size < wr.heap.size := by omega
          obtain ⟨wz, hwz⟩ : ∃ wz, wz = wr := ⟨_, rfl⟩
          subst hwz
          go_wp2
          refine wp_grow [(5, .val (MV (X).1 (X).2)), (6, .rel (fun v w => Masks w v [(y1, y2), X]) (fun _ _ _ h hg => h.grown hg)), (7, .val (MV (Z).1 (Z).2)), (8, .rel (NewBox (wz.heap.size + 1) 49 #[.int .u64 0, .int .u64 0]) (fun _ _ _ h hg => NewBox.grown h hg))] 9 (by kernel_rfl) (by kernel_rfl) (by rfl) (by rfl) ?_
          simp only [List.take_succ_cons, List.take_zero, List.drop_succ_cons, List.drop_zero]
          repeat (first
            | (apply Der.quiet; (rfl); (rfl); (intro w' hw' hctx; have hc' := bcell hw'; have ywz0 := fun o => hw'.cell (p := ⟨wz.heap.size, o, none⟩) (by first | omega | (simp; done) | (simp; omega)); have yb := fun o => hw'.cell (p := ⟨w.heap.size, o, none⟩) (by simp; omega); clear hctx; go_simp; first | exact rfl | exact ⟨rfl, rfl⟩); simp only [Act.put, List.setIfInBounds_toArray, List.set_cons_succ, List.set_cons_zero, Nat.reduceAdd])
            | (apply Der.skip; (rfl); simp only [Act.put, List.setIfInBounds_toArray, List.set_cons_succ, List.set_cons_zero, Nat.reduceAdd]))
          apply Der.val
          · rfl
          · rfl
          · (intro w' hw' hctx; go_simp; refine (f_Or _ (ms.take k) _ (HMk.out.grown ((hBr.alloc hBr.size _).trans ((undrew hw').mono (by simp; omega))))).mono ?_; rintro e w2 ⟨rfl, hb⟩; exact ⟨_, rfl, by rw [HX.out], hb⟩)
          simp only [Act.put, List.setIfInBounds_toArray, List.set_cons_succ, List.set_cons_zero, Nat.reduceAdd]
          refine Der.rel (by rfl) (by rfl) (fun w' hw' hctx => ?_) (fun s1 => ?_)
          · (go_simp; exact ⟨Sl.fresh w' _ 2 _ rfl (by omega), (Below.refl _ _).alloc (Nat.le_refl _) _⟩)
          simp only [Act.put, List.setIfInBounds_toArray, List.set_cons_succ, List.set_cons_zero, Nat.reduceAdd]
          apply Der.val
          · rfl
          · rfl
          · (intro w' hw' hctx; go_simp; refine (f_And _ [(y1, y2), X] _ (hctx 6 _ _ (by kernel_rfl) rfl rfl)).mono ?_; rintro e w2 ⟨rfl, hb⟩; exact ⟨_, rfl, by rw [HZ.out], hb⟩)
          simp only [Act.put, List.setIfInBounds_toArray, List.set_cons_succ, List.set_cons_zero, Nat.reduceAdd]
          refine Der.rel (by rfl) (by rfl) (fun w' hw' hctx => ?_) (fun nb => ?_)
          · (go_simp; exact ⟨NewBox.new _ _ (by have := hw'.size; simp at this; omega), (Below.refl _ _).alloc (Nat.le_refl _) _⟩)
          simp only [Act.put, List.setIfInBounds_toArray, List.set_cons_succ, List.set_cons_zero, Nat.reduceAdd]
          refine Der.nil (fun w2 hg2 hctx => ?_)
          have hcx : NewBox (wz.heap.size + 1) 49 #[.int .u64 0, .int .u64 0] nb w2 := hctx 8 _ _ (by omega) rfl rfl
          clear hctx
          obtain ⟨B, rfl, hB0, hB1', hB2⟩ := hcx
          have hb2 : Below _ _ w2 := hg2
          clear hg2
          have z2wz0 : wz.heap.size < w2.heap.size := (by have := hb2.size; (try simp at this); omega)
          have q2wz0 := fun o => hb2.cell (p := ⟨wz.heap.size, o, none⟩) (by first | omega | (simp; done) | (simp; omega))
          have r2wz0 := fun o => hb2.frozen (p := ⟨wz.heap.size, o, none⟩) (by first | omega | (simp; done) | (simp; omega))
          have p0 := cell_of_block hB2 0
          have p1 := cell_of_block hB2 1
          have s0 := frozen_of_block hB2 0
          have s1' := frozen_of_block hB2 1
          simp only [List.getElem?_toArray, List.getElem?_cons_zero, List.getElem?_cons_succ] at p0 p1
          have hB3 : Below w1.heap.size w1 w2 := by ((have shb2 := hb2.size); (try simp at shb2); (have shbr := hbr.size); (try simp at shbr); (repeat' (first | (with_reducible exact Below.refl _ _) | (with_reducible refine Below.setCell ?_ ?_ _) | (with_reducible refine Below.alloc ?_ ?_ _) | (with_reducible refine Below.drew ?_) | (with_reducible refine Below.trans ?_ (Below.mono hb2 ?_)) | (with_reducible refine Below.trans ?_ (Below.mono hbr ?_)) | go_size)))
          have hneB : ¬ B = wz.heap.size := by omega
          have hneB' : ¬ wz.heap.size = B := by omega
          have t0 : w2.cell? ⟨wz.heap.size, 0, none⟩ = some (.int .u64 (U y1)) := by rw [q2wz0]; go_simp
          have t1 : w2.cell? ⟨wz.heap.size, 1, none⟩ = some (.int .u64 (U y2)) := by rw [q2wz0]; go_simp
          have hBB : w1.heap.size ≤ B := by omega
          clear q2wz0 r2wz0 hB2 e1 e2
          have HC1 := Lib.hid (show chk y2 = if decide (chk y2 = 0) then 0 else 200 by unfold chk; split <;> simp)
          go_wp2_with fail
          refine (f_Check _ _ _).mono ?_
          rintro e w3 ⟨rfl, hb3⟩
          rw [HC1.out]
          have hb3s := hb3.size
          simp at hb3s
          have v0 := (hb3.cell (p := ⟨B, 0, none⟩) (by simp; omega))
          have v1 := (hb3.cell (p := ⟨B, 1, none⟩) (by simp; omega))
          have v0' : w3.cell? ⟨B, 0, none⟩ = some (.int .u64 (U Z.1)) := by rw [v0]; go_simp
          have v1' : w3.cell? ⟨B, 1, none⟩ = some (.int .u64 (U Z.2)) := by rw [v1]; go_simp
          have hB4 : Below w1.heap.size w1 w3 := by ((have shb3 := hb3.size); (try simp at shb3); (have shB3 := hB3.size); (try simp at shB3); (repeat' (first | (with_reducible exact Below.refl _ _) | (with_reducible refine Below.setCell ?_ ?_ _) | (with_reducible refine Below.alloc ?_ ?_ _) | (with_reducible refine Below.drew ?_) | (with_reducible refine Below.trans ?_ (Below.mono hb3 ?_)) | (with_reducible refine Below.trans ?_ (Below.mono hB3 ?_)) | go_size)))
          clear v0 v1 hb3 p0 p1 s0 s1' t0 t1
          cases hq : decide (chk y2 = 0)
          · have HQ := Lib.hid hq
            rw [hq] at HOK
            have HE2 := Lib.hid (HNk.out HOK.out)
            have HE3 := Lib.hid (show listsE cs ms = 230 by rw [HE.out, HE2.out]; rfl)
            clear hq
            go_wp2
            go_ret
            refine ⟨by rw [HE3.out]; rfl, by ((have shB4 := hB4.size); (try simp at shB4); (have shB1 := hB1.size); (try simp at shB1); (repeat' (first | (with_reducible exact Below.refl _ _) | (with_reducible refine Below.setCell ?_ ?_ _) | (with_reducible refine Below.alloc ?_ ?_ _) | (with_reducible refine Below.drew ?_) | (with_reducible refine Below.trans ?_ (Below.mono hB4 ?_)) | (with_reducible refine Below.trans ?_ (Below.mono hB1 ?_)) | go_size)))⟩
          · rw [hq] at HOK
            clear hq
            have hpos := cntF_pos Z.1 Z.2
            go_wp2_with fail
            refine (f_Count _ _ _).mono ?_
            rintro e w4 ⟨rfl, hb4⟩
            obtain ⟨n, hn'⟩ : ∃ n, cntF Z.1 Z.2 = n := ⟨_, rfl⟩
            rw [hn'] at HOK hpos ⊢
            clear hn'
            by_cases hn0 : n = 0
            · have HOK2 := Lib.hid (show okAt ms k = true by rw [HOK.out, decide_eq_true hn0]; rfl)
              have HA2 := Lib.hid (fun j (hj : j < k + 1) => (show okAt ms j = true by
                rcases Nat.lt_or_ge j k with h | h
                · exact HA.out j h
                · have : j = k := by omega
                  subst this; exact HOK2.out))
              have hng : ¬ 0 < n := by omega
              clear hn0
              go_wp2
              go_roundw
              case rel => exact ⟨k + 1, by omega, by go_num, HA2.out, by ((have shb4 := hb4.size); (try simp at shb4); (have shB4 := hB4.size); (try simp at shB4); (repeat' (first | (with_reducible exact Below.refl _ _) | (with_reducible refine Below.setCell ?_ ?_ _) | (with_reducible refine Below.alloc ?_ ?_ _) | (with_reducible refine Below.drew ?_) | (with_reducible refine Below.trans ?_ (Below.mono hb4 ?_)) | (with_reducible refine Below.trans ?_ (Below.mono hB4 ?_)) | go_size)))⟩
              case measure => simp [intOf]; omega
            · have HE2 := Lib.hid (HNk.out (by rw [HOK.out, decide_eq_false hn0]; rfl))
              have HE3 := Lib.hid (show listsE cs ms = 230 by rw [HE.out, HE2.out]; rfl)
              have hng : 0 < n := by omega
              clear hn0
              go_wp2
              go_ret
              refine ⟨by rw [HE3.out]; rfl, by ((have shb4 := hb4.size); (try simp at shb4); (have shB4 := hB4.size); (try simp at shB4); (have shB1 := hB1.size); (try simp at shB1); (repeat' (first | (with_reducible exact Below.refl _ _) | (with_reducible refine Below.setCell ?_ ?_ _) | (with_reducible refine Below.alloc ?_ ?_ _) | (with_reducible refine Below.drew ?_) | (with_reducible refine Below.trans ?_ (Below.mono hb4 ?_)) | (with_reducible refine Below.trans ?_ (Below.mono hB4 ?_)) | (with_reducible refine Below.trans ?_ (Below.mono hB1 ?_)) | go_size)))⟩
        · have : k = ms.length := by omega
          subst this
          have HE3 := Lib.hid (show listsE cs ms = 0 by rw [HE.out, HY.out HA.out]; rfl)
          go_wp2
          go_ret
          refine ⟨by rw [HE3.out]; rfl, hBr⟩
    · have HE := Lib.hid (show listsE cs ms = 230 by unfold listsE listsOK; rw [hco, decide_eq_false hlen]; rfl)
      have hn : ((ms.length : Int) != (cs.length : Int)) = true := by simp; omega
      clear hco hlen
      go_enter Try.func11, Try.ntmps11
      go_wp2_with fail
      refine (f_centroids _ cs _ (HV.out _ (by ((repeat' (first | (with_reducible exact Below.refl _ _) | (with_reducible refine Below.setCell ?_ ?_ _) | (with_reducible refine Below.alloc ?_ ?_ _) | (with_reducible refine Below.drew ?_) | (with_reducible refine Below.trans ?_ (Below.mono (by assumption) ?_)) | go_size)))))).mono ?_
      rintro e w1 ⟨rfl, hb1⟩
      rw [HC.out]
      have z1w0 : w.heap.size < w1.heap.size := (by have := hb1.size; (try simp at this); omega)
      have q1w0 := fun o => hb1.cell (p := ⟨w.heap.size, o, none⟩) (by first | omega | (simp; done) | (simp; omega))
      have r1w0 := fun o => hb1.frozen (p := ⟨w.heap.size, o, none⟩) (by first | omega | (simp; done) | (simp; omega))
      go_wp2
      go_ret
      refine ⟨by rw [HE.out]; rfl, by ((have shb1 := hb1.size); (try simp at shb1); (repeat' (first | (with_reducible exact Below.refl _ _) | (with_reducible refine Below.setCell ?_ ?_ _) | (with_reducible refine Below.alloc ?_ ?_ _) | (with_reducible refine Below.drew ?_) | (with_reducible refine Below.trans ?_ (Below.mono hb1 ?_)) | go_size)))⟩
end Go.Proofs.Ytlfmffjlmhpcdaa
