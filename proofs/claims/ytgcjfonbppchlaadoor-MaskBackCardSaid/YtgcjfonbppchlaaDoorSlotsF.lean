/- The contract of mask.Slots: a range over the iterator, gathered by append. -/
import Derived.Test.YtgcjfonbppchlaaDoorSlots
namespace Go.Proofs.YtgcjfonbppchlaaDoor
open Go.RowKit Go.Shelf
set_option maxRecDepth 100000
attribute [local irreducible] Der
attribute [local go_sem] Oper.semAt_some

set_option maxRecDepth 100000 in
set_option maxHeartbeats 2000000 in
theorem f_Slots (a b : BitVec 64) (w : World) (h0 : 0 < w.heap.size) (ht : Tab w) : Calls Tryd.prog 8 #[MV a b] w fun e W' =>
    (∃ v, e = .returned v ∧ W'.ownsRow w.heap.size 3 1 v (slotsK (a, b) 96).length ((slotsK (a, b) 96).map (Value.int .i64))) ∧ Below w.heap.size w W' := by
  obtain ⟨i0, hi, hz0, hz1, hz2⟩ := info_parts info_int
  have HL := Lib.hid (slotsK_le (a, b) 96)
  have HT := Lib.hid ht
  clear ht
  refine (callsIn_wide (n := 3)).1 ?_
  have h1 : 1 ≤ 3 := by omega
  refine callsIn_of_wp_marks Tryd.func8 rfl trivial ?_ rfl
  simp only [Tryd.ntmps8, List.size_toArray, List.length_cons, List.length_nil, Nat.reduceAdd, Nat.reduceSub, Array.replicate_succ, Array.replicate_zero, List.push_toArray, List.append_toArray, List.nil_append, List.cons_append]
  gi_wp2_with (refine ⟨trivial, ?_⟩; gi_at_call 21; refine (callsIn_wide.2 (f_slots _ _ _)).mono ?_; rintro e w' ⟨rfl, rfl⟩)
  have bO := Boxed.new (w.alloc (.cells #[.int .u64 (U a), .int .u64 (U b)] 25)) 22 (.slice none 0 0)
  rw [World.size_alloc] at bO
  have hB0 : Below w.heap.size w (((w.alloc (.cells #[.int .u64 (U a), .int .u64 (U b)] 25)).alloc (.cells #[.slice none 0 0] 22)).alloc (.cells #[.int .u64 (U a), .int .u64 (U b)] 25)) := by ((repeat' (first | (with_reducible exact Below.refl _ _) | (with_reducible refine Below.setCell ?_ ?_ _) | (with_reducible refine Below.alloc ?_ ?_ _) | (with_reducible refine Below.drew ?_) | (with_reducible refine Below.trans ?_ (Below.mono (by assumption) ?_)) | go_size)))
  have HT3 := HT.out.grown h0 hB0
  have hll := HL.out
  have hm0 : (((w.alloc (.cells #[.int .u64 (U a), .int .u64 (U b)] 25)).alloc (.cells #[.slice none 0 0] 22)).alloc (.cells #[.int .u64 (U a), .int .u64 (U b)] 25)).cell? ⟨w.heap.size + 1 + 1, 0, none⟩ = some (.int .u64 (U a)) := by go_simp
  have hm1 : (((w.alloc (.cells #[.int .u64 (U a), .int .u64 (U b)] 25)).alloc (.cells #[.slice none 0 0] 22)).alloc (.cells #[.int .u64 (U a), .int .u64 (U b)] 25)).cell? ⟨w.heap.size + 1 + 1, 1, none⟩ = some (.int .u64 (U b)) := by go_simp
  obtain ⟨W3, hW3⟩ : ∃ W3, (((w.alloc (.cells #[.int .u64 (U a), .int .u64 (U b)] 25)).alloc (.cells #[.slice none 0 0] 22)).alloc (.cells #[.int .u64 (U a), .int .u64 (U b)] 25)) = W3 := ⟨_, rfl⟩
  have hsz : W3.heap.size = w.heap.size + 3 := by rw [← hW3]; simp
  have bO3 : Boxed W3 (w.heap.size + 1) 22 (.slice none 0 0) := by rw [← hW3]; exact bO.alloc _
  rw [hW3] at hB0 HT3 hm0 hm1 ⊢
  have stops := slots_stops 2 (by omega) (w.heap.size + 1 + 1) w.heap.size a b W3 h0 (by omega) (by omega) hm0 hm1 HT3
  clear bO hm0 hm1 HT3
  refine wpIn_rangeFunc_ownG rfl h1 (gf := 40) (lb := #[.pointer (some ⟨w.heap.size + 1 + 1, 0, none⟩)]) rfl trivial (enters_of Tryd.func40 (by kernel_rfl) rfl)
    stops belowK_t (belowK_b (by omega)) (Below.refl _ _) (fun _ => rfl)
    (fun pre W => (∃ v, Boxed W (w.heap.size + 1) 22 v ∧ W.ownsRow w.heap.size 3 1 v pre.length (pre.map (Value.int .i64)) ∧ True) ∧ Below w.heap.size w W)
    (fun _ _ _ => False)
    (OwnFrom.and (Own.from (holdsRow_own w.heap.size (w.heap.size + 1) 22 3 1 (fun (pre : List Int) => pre.length) (fun pre => pre.map (Value.int .i64)) (fun pre v => True)) _) (ownFrom_below (Nat.le_refl _) (by omega)))
    (fun _ _ _ _ _ hs _ _ => hs)
    ⟨⟨_, bO3, World.ownsRow_nil _ _ _ _, trivial⟩, hB0⟩
    (fun x => { tmps := #[MV a b, .pointer (some ⟨w.heap.size, 0, none⟩), .slice none 0 0, .pointer (some ⟨w.heap.size + 1, 0, none⟩), .int .i64 x, .agg #[.int .u64 (U a), .int .u64 (U b)], .func (.func 40) #[] #[.pointer (some ⟨w.heap.size + 1 + 1, 0, none⟩)], .int .i64 x, undef, undef, undef, undef, undef], defers := [] }) ?assign ?body ?done ?stop
  case assign =>
    intro l x W K hK
    gi_wp2
    exact hK
  case body =>
    rintro l pre x W ⟨⟨v, hv, hrow, -⟩, hB⟩ hlt
    have hc := hv.cell
    gi_wp2_with (gi_at_builtin; refine wpListIn_append_own _ rfl _ _ 22 rfl w.heap.size 3 i0 (.int .i64 0) 1 8 Tryd.underlying22 hi hz0 hz1 hz2 rfl (by decide) _ _ _ rfl (hrow.alloc _) ⟨W.heap.size, 0, none⟩ 1 1 [.int .i64 x] rfl rfl (cell_one_new _ _ _) (by simp [Value.oneCell']) (by unfold maxLen; omega) (by omega) (by have := hB.size; simp; omega) ?_; intro v' w1 hown' hgrow _; obtain ⟨g', cap', rfl⟩ := ownsRow_succ hown'; obtain ⟨hv1, hv2, hr2, hk2, hb2⟩ := hv.appended (by decide) hrow hB.size (by omega) hown' hgrow; have hc1 := hv1.cell; have hf1 := hv1.frozen)
    exact ⟨hk2.from _, hb2, ⟨_, hv2, by simpa using hr2, trivial⟩, hB.trans hb2⟩
  case done =>
    rintro D ys W hD rfl ⟨⟨v, hv, hrow, -⟩, hB⟩ hK
    have hc := hv.cell
    gi_wp2
    refine ⟨by simp, .inl ⟨_, _, rfl, run_takeDeferred hK, ?_⟩⟩
    exact ⟨_, results_tmp rfl _ _ _, ⟨v, rfl, ownsRow_putObj hrow _ hK rfl⟩, hB.trans (belowK_b (w := w) (Nat.le_refl _) W D _ _ (by omega) hK rfl rfl)⟩
  case stop =>
    rintro D c pre W _ _ h _
    exact h.elim

/-- What is left of a mask from a number on gives the slots from there on. -/
theorem slots_from (m : M) (q : Int) : slotsK (mMinus m (belowM q)) 96 = (slotsK m 96).filter (fun x => decide (q ≤ x)) := by
  unfold slotsK
  rw [List.filter_filter]
  refine List.filter_congr fun x hx => ?_
  unfold seqL at hx
  obtain ⟨i, hi, rfl⟩ := List.mem_map.1 hx
  have h96 := List.mem_range.1 hi
  unfold hasM mMinus belowM
  by_cases h : (0 + (i : Int)) < 64
  · simp only [if_pos h, BitVec.getLsbD_and, BitVec.getLsbD_not]
    rw [lowBits_bit _ _ (by omega), show ((((0 + (i : Int)) % 64).toNat : Nat) : Int) = 0 + i by omega]
    have h2 : decide (((0 + (i : Int)) % 64).toNat < 64) = true := decide_eq_true (by omega)
    have e : (!decide (0 + (i : Int) < q)) = decide (q ≤ 0 + (i : Int)) := by rw [← decide_not]; simp only [Int.not_lt]
    rw [h2, e, Bool.true_and, Bool.and_comm]
  · simp only [if_neg h, BitVec.getLsbD_and, BitVec.getLsbD_not]
    rw [lowBits_bit _ _ (by omega)]
    have h2 : decide (((0 + (i : Int)) % 64).toNat < 64) = true := decide_eq_true (by omega)
    have e : (!decide (((((0 + (i : Int)) % 64).toNat : Nat) : Int) < q - 64)) = decide (q ≤ 0 + (i : Int)) := by
      rw [← decide_not]
      have : (¬ ((((0 + (i : Int)) % 64).toNat : Nat) : Int) < q - 64) ↔ (q ≤ 0 + (i : Int)) := by omega
      simp only [this]
    rw [h2, e, Bool.true_and, Bool.and_comm]
theorem nextF_cons (L : List Int) (n : Int) {x : Int} {t : List Int} (h : L.filter (fun x => decide (n ≤ x)) = x :: t) : nextF L n = (x, true) := by
  unfold nextF
  rw [← List.head?_filter, h]; rfl
theorem nextF_nil (L : List Int) (n : Int) (h : L.filter (fun x => decide (n ≤ x)) = []) : nextF L n = (0, false) := by
  unfold nextF
  rw [← List.head?_filter, h]; rfl

/-- A function value that gives the slots of the mask (a, b). -/
def IterM (a b : BitVec 64) (v : Value) (w : World) : Prop :=
  ∃ B, v = .func (.func 40) #[] #[.pointer (some ⟨B, 0, none⟩)] ∧ B < w.heap.size ∧ w.cell? ⟨B, 0, none⟩ = some (.int .u64 (U a)) ∧ w.cell? ⟨B, 1, none⟩ = some (.int .u64 (U b))
theorem IterM.grown {a b : BitVec 64} {v : Value} {w w' : World} (h : IterM a b v w) (hg : Below w.heap.size w w') : IterM a b v w' := by
  obtain ⟨B, e, h1, h2, h3⟩ := h
  exact ⟨B, e, Nat.lt_of_lt_of_le h1 hg.size, (hg.cell (p := ⟨B, 0, none⟩) h1).trans h2, (hg.cell (p := ⟨B, 1, none⟩) h1).trans h3⟩
set_option maxRecDepth 100000 in
set_option maxHeartbeats 2000000 in
theorem f_Next (a b : BitVec 64) (n q : Int) (hq : (if n < 0 then 0 else n) = q) (hn : n ≤ 9223372036854775807) (w : World) (h0 : 0 < w.heap.size) (ht : Tab w) : Calls Tryd.prog 11 #[MV a b, .int .i64 n] w fun e W' =>
    e = .returned (.tuple #[.int .i64 (nextF (slotsK (a, b) 96) n).1, .bool (nextF (slotsK (a, b) 96) n).2]) ∧ Below w.heap.size w W' := by
  have q0 : 0 ≤ q := by split at hq <;> omega
  have q1 : q ≤ 9223372036854775807 := by split at hq <;> omega
  have hs : slotsK (a &&& ~~~ lowBits q, b &&& ~~~ lowBits (q - 64)) 96 = (slotsK (a, b) 96).filter (fun x => decide (n ≤ x)) := by
    refine (slots_from (a, b) q).trans ?_
    refine List.filter_congr fun x hx => ?_
    have := (slotsK_slot (a, b) x hx).1
    have e : (q ≤ x) ↔ (n ≤ x) := by split at hq <;> omega
    simp only [e]
  have HS := Lib.hid hs
  have HT := Lib.hid ht
  clear ht hs
  refine (callsIn_wide (n := 3)).1 ?_
  have h1 : 1 ≤ 3 := by omega
  refine callsIn_of_wp_marks Tryd.func11 rfl trivial ?_ rfl
  simp only [Tryd.ntmps11, List.size_toArray, List.length_cons, List.length_nil, Nat.reduceAdd, Nat.reduceSub, Array.replicate_succ, Array.replicate_zero, List.push_toArray, List.append_toArray, List.nil_append, List.cons_append]
  gi_wp2
  refine wpIn_wide.2 ?_
  refine wp_grow [(3, .val (MV (lowBits q) (lowBits (q - 64)))), (4, .val (MV (a &&& ~~~ lowBits q) (b &&& ~~~ lowBits (q - 64)))), (5, .rel (IterM (a &&& ~~~ lowBits q) (b &&& ~~~ lowBits (q - 64))) (fun _ _ _ h hg => IterM.grown h hg))] 6 (by kernel_rfl) (by kernel_rfl) (by rfl) (by rfl) ?_
  simp only [List.take_succ_cons, List.take_zero, List.drop_succ_cons, List.drop_zero]
  repeat (first
    | (apply Der.quiet; (rfl); (rfl); (intro w' hw' hctx; have hc' := bcell hw'; have yw0 := fun o => hw'.cell (p := ⟨w.heap.size, o, none⟩) (by first | omega | (simp; done) | (simp; omega)); have yw1 := fun o => hw'.cell (p := ⟨w.heap.size + 1, o, none⟩) (by first | omega | (simp; done) | (simp; omega)); have yw2 := fun o => hw'.cell (p := ⟨w.heap.size + 1 + 1, o, none⟩) (by first | omega | (simp; done) | (simp; omega)); clear hctx; go_simp; first | exact rfl | exact ⟨rfl, rfl⟩); simp only [Act.put, List.setIfInBounds_toArray, List.set_cons_succ, List.set_cons_zero, Nat.reduceAdd])
    | (apply Der.skip; (rfl); simp only [Act.put, List.setIfInBounds_toArray, List.set_cons_succ, List.set_cons_zero, Nat.reduceAdd]))
  apply Der.val
  · rfl
  · rfl
  · (intro w' hw' hctx; go_simp; refine (f_below _ q0 q1 _).mono ?_; rintro e w2 ⟨rfl, hb⟩; exact ⟨_, rfl, rfl, hb⟩)
  simp only [Act.put, List.setIfInBounds_toArray, List.set_cons_succ, List.set_cons_zero, Nat.reduceAdd]
  apply Der.val
  · rfl
  · rfl
  · (intro w' hw' hctx; go_simp; refine (f_minus _ _ _ _ _).mono ?_; rintro e w2 ⟨rfl, hb⟩; exact ⟨_, rfl, rfl, hb⟩)
  simp only [Act.put, List.setIfInBounds_toArray, List.set_cons_succ, List.set_cons_zero, Nat.reduceAdd]
  refine Der.rel (by rfl) (by rfl) (fun w' hw' hctx => ?_) (fun sv => ?_)
  · (go_simp; refine (f_slots _ _ _).mono ?_; rintro e w3 ⟨rfl, rfl⟩; exact ⟨_, rfl, ⟨_, rfl, by simp, by go_simp, by go_simp⟩, (Below.refl _ _).alloc (Nat.le_refl _) _⟩)
  simp only [Act.put, List.setIfInBounds_toArray, List.set_cons_succ, List.set_cons_zero, Nat.reduceAdd]
  refine Der.nil (fun w2 hg2 hctx => ?_)
  have hcx : IterM (a &&& ~~~ lowBits q) (b &&& ~~~ lowBits (q - 64)) sv w2 := hctx 5 _ _ (by omega) rfl rfl
  obtain ⟨B, rfl, hB1, hB2, hB3⟩ := hcx
  clear hctx
  have hb2 : Below _ _ w2 := hg2
  clear hg2
  have z2w0 : w.heap.size < w2.heap.size := (by have := hb2.size; (try simp at this); omega)
  have q2w0 := fun o => hb2.cell (p := ⟨w.heap.size, o, none⟩) (by first | omega | (simp; done) | (simp; omega))
  have r2w0 := fun o => hb2.frozen (p := ⟨w.heap.size, o, none⟩) (by first | omega | (simp; done) | (simp; omega))
  have z2w1 : w.heap.size + 1 < w2.heap.size := (by have := hb2.size; (try simp at this); omega)
  have q2w1 := fun o => hb2.cell (p := ⟨w.heap.size + 1, o, none⟩) (by first | omega | (simp; done) | (simp; omega))
  have r2w1 := fun o => hb2.frozen (p := ⟨w.heap.size + 1, o, none⟩) (by first | omega | (simp; done) | (simp; omega))
  have z2w2 : w.heap.size + 1 + 1 < w2.heap.size := (by have := hb2.size; (try simp at this); omega)
  have q2w2 := fun o => hb2.cell (p := ⟨w.heap.size + 1 + 1, o, none⟩) (by first | omega | (simp; done) | (simp; omega))
  have r2w2 := fun o => hb2.frozen (p := ⟨w.heap.size + 1 + 1, o, none⟩) (by first | omega | (simp; done) | (simp; omega))
  have hb2' : Below w.heap.size w w2 := by ((have shb2 := hb2.size); (try simp at shb2); (repeat' (first | (with_reducible exact Below.refl _ _) | (with_reducible refine Below.setCell ?_ ?_ _) | (with_reducible refine Below.alloc ?_ ?_ _) | (with_reducible refine Below.drew ?_) | (with_reducible refine Below.trans ?_ (Below.mono hb2 ?_)) | go_size)))
  have HT2 := HT.out.grown h0 hb2'
  go_wp2
  gi_wp2
  have c1 : w2.cell? ⟨w.heap.size + 1, 0, none⟩ = some (.int .i64 0) := by rw [q2w1]; go_simp
  have f1 : w2.frozen? ⟨w.heap.size + 1, 0, none⟩ = false := by rw [r2w1]; go_simp
  have c2 : w2.cell? ⟨w.heap.size + 1 + 1, 0, none⟩ = some (.bool false) := by rw [q2w2]; go_simp
  have f2 : w2.frozen? ⟨w.heap.size + 1 + 1, 0, none⟩ = false := by rw [r2w2]; go_simp
  clear q2w0 q2w1 q2w2 r2w0 r2w1 r2w2 hb2
  have stops := slots_stops 2 (by omega) B w.heap.size _ _ w2 h0 (by omega) hB1 hB2 hB3 HT2
  refine wpIn_rangeFunc_ownG rfl h1 (gf := 40) (lb := #[.pointer (some ⟨B, 0, none⟩)]) rfl trivial (enters_of Tryd.func40 (by kernel_rfl) rfl)
    stops belowK_t (belowK_b (by omega)) (Below.refl _ _) (fun _ => rfl)
    (fun pre W => (pre = [] ∧ W.cell? ⟨w.heap.size + 1, 0, none⟩ = some (.int .i64 0) ∧ W.frozen? ⟨w.heap.size + 1, 0, none⟩ = false ∧ W.cell? ⟨w.heap.size + 1 + 1, 0, none⟩ = some (.bool false) ∧ W.frozen? ⟨w.heap.size + 1 + 1, 0, none⟩ = false) ∧ Below w.heap.size w W)
    (fun c pre W => (c = .ret ∧ ∃ x, pre = [x] ∧ W.cell? ⟨w.heap.size + 1, 0, none⟩ = some (.int .i64 x) ∧ W.cell? ⟨w.heap.size + 1 + 1, 0, none⟩ = some (.bool true)) ∧ Below w.heap.size w W)
    (OwnFrom.and (Own.from (fun s A B row hs hg hr => ⟨hs.1, cell_kept hs.2.1 hg hr, (frozen_kept hs.2.1 hg hr).trans hs.2.2.1, cell_kept hs.2.2.2.1 hg hr, (frozen_kept hs.2.2.2.1 hg hr).trans hs.2.2.2.2⟩) _) (ownFrom_below (Nat.le_refl _) (by omega)))
    (fun c => OwnFrom.and (Own.from (fun s A B row hs hg hr => by obtain ⟨hc, x, e1, e2, e3⟩ := hs; exact ⟨hc, x, e1, cell_kept e2 hg hr, cell_kept e3 hg hr⟩) _) (ownFrom_below (Nat.le_refl _) (by omega)))
    ⟨⟨rfl, c1, f1, c2, f2⟩, hb2'⟩
    (fun x => { tmps := #[MV a b, .int .i64 n, .pointer (some ⟨w.heap.size, 0, none⟩), undef, .pointer (some ⟨w.heap.size + 1, 0, none⟩), .pointer (some ⟨w.heap.size + 1 + 1, 0, none⟩), .int .i64 x, .agg #[.int .u64 (U a), .int .u64 (U b)], .int .i64 n, .int .i64 q, MV (lowBits q) (lowBits (q - 64)), MV (a &&& ~~~ lowBits q) (b &&& ~~~ lowBits (q - 64)), .func (.func 40) #[] #[.pointer (some ⟨B, 0, none⟩)], .int .i64 x, undef], defers := [] }) ?assign ?body ?done ?stop
  case assign =>
    intro l x W K hK
    gi_wp2
    exact hK
  case body =>
    rintro l pre x W ⟨⟨rfl, hc1, hf1, hc2, hf2⟩, hB⟩ hlt
    gi_wp2
    refine ⟨((KeepsOthers.setCell _ _ _).trans (KeepsOthers.setCell _ _ _)).from _, ⟨rfl, x, rfl, ?_, ?_⟩, ?_⟩
    · go_simp
    · go_simp
    · exact (hB.setCell (p := ⟨w.heap.size + 1, 0, none⟩) (by simp) _).setCell (p := ⟨w.heap.size + 1 + 1, 0, none⟩) (by simp; omega) _
  case done =>
    rintro D ys W hD rfl ⟨⟨hnil, hc1, hf1, hc2, hf2⟩, hB⟩ hK
    rw [HS.out] at hnil
    have hnx := Lib.hid (nextF_nil _ _ hnil)
    clear hnil
    gi_wp2
    have hcA : ((W.setCell ⟨w.heap.size + 1, 0, none⟩ (.int .i64 0)).setCell ⟨w.heap.size + 1 + 1, 0, none⟩ (.bool false)).cell? ⟨w.heap.size + 1, 0, none⟩ = some (.int .i64 0) := by go_simp
    have hcB : ((W.setCell ⟨w.heap.size + 1, 0, none⟩ (.int .i64 0)).setCell ⟨w.heap.size + 1 + 1, 0, none⟩ (.bool false)).cell? ⟨w.heap.size + 1 + 1, 0, none⟩ = some (.bool false) := by go_simp
    have hK' := ((KeepsOthers.setCell W ⟨w.heap.size + 1, 0, none⟩ (.int .i64 0)).trans (KeepsOthers.setCell _ ⟨w.heap.size + 1 + 1, 0, none⟩ (.bool false))).same D _ hK rfl
    have hB' := (hB.setCell (p := ⟨w.heap.size + 1, 0, none⟩) (by simp) (.int .i64 0)).setCell (p := ⟨w.heap.size + 1 + 1, 0, none⟩) (by simp; omega) (.bool false)
    refine ⟨by simp, .inl ⟨_, _, rfl, run_takeDeferred hK', ?_⟩⟩
    have hc5 := cell_kept hcA (grownBy_putObj' _ D (.deferred none)) (fun r e => by cases e; exact ⟨_, hK', rfl⟩)
    have hc6 := cell_kept hcB (grownBy_putObj' _ D (.deferred none)) (fun r e => by cases e; exact ⟨_, hK', rfl⟩)
    refine ⟨.tuple #[.int .i64 0, .bool false], ?_, by rw [hnx.out], hB'.trans (belowK_b (w := w) (Nat.le_refl _) _ D _ _ (by omega) hK' rfl rfl)⟩
    simp [results, Tryd.f11, go_sem, hc5, hc6]
  case stop =>
    rintro D c pre W hD ⟨t, ht⟩ ⟨⟨rfl, x, rfl, hc1, hc2⟩, hB⟩ hK
    rw [HS.out] at ht
    have hnx := Lib.hid (nextF_cons _ _ ht.symm)
    clear ht
    gi_wp2
    refine ⟨by simp, .inl ⟨_, _, rfl, run_takeDeferred hK, ?_⟩⟩
    have hc5 := cell_kept hc1 (grownBy_putObj' _ D (.deferred none)) (fun r e => by cases e; exact ⟨_, hK, rfl⟩)
    have hc6 := cell_kept hc2 (grownBy_putObj' _ D (.deferred none)) (fun r e => by cases e; exact ⟨_, hK, rfl⟩)
    refine ⟨.tuple #[.int .i64 x, .bool true], ?_, by rw [hnx.out], hB.trans (belowK_b (w := w) (Nat.le_refl _) W D _ _ (by omega) hK rfl rfl)⟩
    simp [results, Tryd.f11, go_sem, hc5, hc6]
end Go.Proofs.YtgcjfonbppchlaaDoor
