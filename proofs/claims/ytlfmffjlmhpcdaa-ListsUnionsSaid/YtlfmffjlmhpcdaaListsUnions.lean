/- The contract of quiverlaw13.ListsUnions. -/
import Derived.Test.YtlfmffjlmhpcdaaUnionZ
import Derived.Test.YtlfmffjlmhpcdaaEdge
import Derived.Test.YtlfmffjlmhpcdaaWhereZ
namespace Go.Proofs.Ytlfmffjlmhpcdaa
open Go.RowKit
set_option maxRecDepth 100000
attribute [local irreducible] Der

/-- The beginnings that fresh rows of numbers keep. -/
def SL (a b : List Int) : List (List Value) := [[], a.map (Value.int .i64), a.map (Value.int .i64) ++ b.map (Value.int .i64)]
theorem SL_0 (a b : List Int) : [] ∈ SL a b := by simp [SL]
theorem SL_1 (a b : List Int) : a.map (Value.int .i64) ∈ SL a b := by simp [SL]
theorem SL_2 (a b : List Int) : a.map (Value.int .i64) ++ b.map (Value.int .i64) ∈ SL a b := by simp [SL]
theorem SL_pre (a b : List Int) : ∀ X, X ∈ SL a b → X <+: a.map (Value.int .i64) ++ b.map (Value.int .i64) := by
  intro X hX
  simp only [SL, List.mem_cons, List.not_mem_nil, or_false] at hX
  rcases hX with rfl | rfl | rfl
  · exact List.nil_prefix
  · exact List.prefix_append _ _
  · exact List.prefix_refl _
/-- A fresh, empty row; one with the numbers a; a box of a mask. -/
def p0 (n : Nat) (v : Value) (w : World) : Prop := w.ownsRow n 3 1 v 0 [] ∧ ∃ g, v = .slice (some ⟨g, 0, none⟩) 0 0
def p1 (n : Nat) (a : List Int) (v : Value) (w : World) : Prop := w.ownsRow n 3 1 v a.length (a.map (Value.int .i64))
def p2 (n : Nat) (a b : List Int) (v : Value) (w : World) : Prop := w.ownsRow n 3 1 v (a.length + b.length) (a.map (Value.int .i64) ++ b.map (Value.int .i64))
def pB (n : Nat) (v : Value) (w : World) : Prop := ∃ g cur, v = .pointer (some ⟨g, 0, none⟩) ∧ n ≤ g ∧ w.heap[g]? = some (.cells cur 49 (0, 0)) ∧ cur.size = 2
theorem p0_keep {n : Nat} {a b : List Int} (v : Value) (w w' : World) (h : p0 n v w) (hg : GrL n (SL a b) w w') : p0 n v w' := ⟨own_keep h.1 (SL_0 a b) hg, h.2⟩
theorem p1_keep {n : Nat} {a b : List Int} (v : Value) (w w' : World) (h : p1 n a v w) (hg : GrL n (SL a b) w w') : p1 n a v w' := own_keep h (SL_1 a b) hg
theorem p2_keep {n : Nat} {a b : List Int} (v : Value) (w w' : World) (h : p2 n a b v w) (hg : GrL n (SL a b) w w') : p2 n a b v w' := own_keep h (SL_2 a b) hg
theorem pB_keep {n : Nat} {a b : List Int} (v : Value) (w w' : World) (h : pB n v w) (hg : GrL n (SL a b) w w') : pB n v w' := by
  obtain ⟨g, cur, h1, h2, h3, h4⟩ := h
  obtain ⟨cur', k1, k2, -⟩ := hg.2 g cur _ h2 h3
  exact ⟨g, cur', h1, h2, k1, k2.trans h4⟩
theorem p2_ints {n : Nat} {a b : List Int} {v : Value} {w : World} (h : p2 n a b v w) : Ints w v (a ++ b) := by
  unfold p2 at h
  rw [← List.map_append] at h
  exact Ints.of_owns h
theorem pB_cells {n : Nat} {v : Value} {w : World} (h : pB n v w) : ∃ g u0 u1, v = .pointer (some ⟨g, 0, none⟩) ∧ n ≤ g ∧ g < w.heap.size ∧ w.cell? ⟨g, 0, none⟩ = some u0 ∧ w.cell? ⟨g, 1, none⟩ = some u1 ∧ w.frozen? ⟨g, 0, none⟩ = false ∧ w.frozen? ⟨g, 1, none⟩ = false := by
  obtain ⟨g, cur, h1, h2, h3, h4⟩ := h
  have hlt := (Array.getElem?_eq_some_iff.1 h3).1
  refine ⟨g, cur[0], cur[1], h1, h2, hlt, ?_, ?_, ?_, ?_⟩
  all_goals simp [World.cell?, World.frozen?, h3, h4]
theorem gr1 {n : Nat} {S : List (List Value)} {w w' : World} (h : GrL n S w.drew w') (hn : n = w.heap.size) : Below w.drew.heap.size w.drew w' := by subst hn; exact h.1
theorem overL_len {cs : List PV} {ms : List M} (h : overL cs ms = false) : ms.length ≤ 20 := by
  unfold overL at h
  simp only [Bool.or_eq_false_iff, decide_eq_false_iff_not] at h
  omega
set_option maxHeartbeats 16000000 in
theorem f_ListsUnions (vc vm va vb : Value) (cs : List PV) (ms : List M) (a b : List Int) (w : World) (hc : VecsV w vc cs) (hm : Masks w vm ms) (ha : Ints w va a) (hna : NilA va) (hb : Ints w vb b) (hnb : NilA vb) :
    Calls Try.prog 5 #[.agg #[vc, vm], va, vb] w fun e w' => e = .returned (.bool true) ∧ Below w.heap.size w w' := by
  obtain ⟨ca, ccp, rfl, -⟩ := hc.open
  obtain ⟨ma, mcp, rfl, -⟩ := hm.open
  obtain ⟨aa, acp, rfl, -⟩ := ha.open
  obtain ⟨ba, bcp, rfl, -⟩ := hb.open
  have HC := Lib.hid (fun W (h : Below w.heap.size w W) => hc.grown h)
  have HM := Lib.hid (fun W (h : Below w.heap.size w W) => hm.grown h)
  have HA := Lib.hid (fun W (h : Below w.heap.size w W) => ha.grown h)
  have HBB := Lib.hid (fun W (h : Below w.heap.size w W) => hb.grown h)
  have HNa := Lib.hid hna
  have HNb := Lib.hid hnb
  clear hc hm ha hb hna hnb
  go_enter Try.func5, Try.ntmps5
  go_wp2_with fail
  refine (l13_wakes _).mono ?_
  rintro e w1 ⟨rfl, hb1⟩
  have z1w0 : w.heap.size < w1.heap.size := (by have := hb1.size; (try simp at this); omega)
  have q1w0 := fun o => hb1.cell (p := ⟨w.heap.size, o, none⟩) (by first | omega | (simp; done) | (simp; omega))
  have r1w0 := fun o => hb1.frozen (p := ⟨w.heap.size, o, none⟩) (by first | omega | (simp; done) | (simp; omega))
  have hB1 : Below w.heap.size w w1 := by ((have shb1 := hb1.size); (try simp at shb1); (repeat' (first | (with_reducible exact Below.refl _ _) | (with_reducible refine Below.setCell ?_ ?_ _) | (with_reducible refine Below.alloc ?_ ?_ _) | (with_reducible refine Below.drew ?_) | (with_reducible refine Below.trans ?_ (Below.mono hb1 ?_)) | go_size)))
  have c0_1 : w1.cell? ⟨w.heap.size, 0, none⟩ = some (.slice ca cs.length ccp) := by rw [q1w0]; go_simp
  have c1_1 : w1.cell? ⟨w.heap.size, 1, none⟩ = some (.slice ma ms.length mcp) := by rw [q1w0]; go_simp
  clear q1w0 r1w0 hb1
  cases ho2 : overL cs ms
  case true =>
    go_wp2_with fail
    refine (l13_over _ _ cs ms _ (HC.out _ hB1) (HM.out _ hB1)).mono ?_
    rintro e w2 ⟨rfl, hb2⟩
    rw [ho2]
    go_wp2
    go_ret
    exact ⟨rfl, by ((have shb2 := hb2.size); (try simp at shb2); (have shB1 := hB1.size); (try simp at shB1); (repeat' (first | (with_reducible exact Below.refl _ _) | (with_reducible refine Below.setCell ?_ ?_ _) | (with_reducible refine Below.alloc ?_ ?_ _) | (with_reducible refine Below.drew ?_) | (with_reducible refine Below.trans ?_ (Below.mono hb2 ?_)) | (with_reducible refine Below.trans ?_ (Below.mono hB1 ?_)) | go_size)))⟩
  case false =>
    have hms := overL_len ho2
    go_wp2_with fail
    refine (l13_over _ _ cs ms _ (HC.out _ hB1) (HM.out _ hB1)).mono ?_
    rintro e w2 ⟨rfl, hb2⟩
    rw [ho2]
    have hB2 : Below w.heap.size w w2 := by ((have shb2 := hb2.size); (try simp at shb2); (have shB1 := hB1.size); (try simp at shB1); (repeat' (first | (with_reducible exact Below.refl _ _) | (with_reducible refine Below.setCell ?_ ?_ _) | (with_reducible refine Below.alloc ?_ ?_ _) | (with_reducible refine Below.drew ?_) | (with_reducible refine Below.trans ?_ (Below.mono hb2 ?_)) | (with_reducible refine Below.trans ?_ (Below.mono hB1 ?_)) | go_size)))
    have c0_2 := (hb2.cell (p := ⟨w.heap.size, 0, none⟩) (by first | omega | (simp; done) | (simp; omega))).trans c0_1
    have c1_2 := (hb2.cell (p := ⟨w.heap.size, 1, none⟩) (by first | omega | (simp; done) | (simp; omega))).trans c1_1
    have zz0_2 : w.heap.size < w2.heap.size := (by have := hb2.size; (try simp at this); omega)
    clear c0_1 c1_1
    clear ho2
    by_cases ha40 : 40 < a.length
    · go_wp2
      go_ret
      exact ⟨rfl, by ((have shB2 := hB2.size); (try simp at shB2); (repeat' (first | (with_reducible exact Below.refl _ _) | (with_reducible refine Below.setCell ?_ ?_ _) | (with_reducible refine Below.alloc ?_ ?_ _) | (with_reducible refine Below.drew ?_) | (with_reducible refine Below.trans ?_ (Below.mono hB2 ?_)) | go_size)))⟩
    · by_cases hb40 : 40 < b.length
      · go_wp2
        go_ret
        exact ⟨rfl, by ((have shB2 := hB2.size); (try simp at shB2); (repeat' (first | (with_reducible exact Below.refl _ _) | (with_reducible refine Below.setCell ?_ ?_ _) | (with_reducible refine Below.alloc ?_ ?_ _) | (with_reducible refine Below.drew ?_) | (with_reducible refine Below.trans ?_ (Below.mono hB2 ?_)) | go_size)))⟩
      · go_wp2
        obtain ⟨E, hE⟩ : ∃ E, unionE cs ms (a ++ b) = E := ⟨_, rfl⟩
        obtain ⟨O, hO⟩ : ∃ O, unionM cs ms (a ++ b) = O := ⟨_, rfl⟩
        have HF := Lib.hid (fun W vl h1 h2 h3 => f_Union (.slice ca cs.length ccp) (.slice ma ms.length mcp) vl cs ms (a ++ b) (by simp; omega) W h1 h2 h3)
        rw [hE, hO] at HF
        have HE := Lib.hid hE
        have HO := Lib.hid hO
        clear hE hO
        refine wp_growE (G := GrL w2.heap.size (SL a b)) (GrL.refl _ _) (fun _ _ _ => GrL.trans) 11 9 [(1, .rel (p0 w2.heap.size) (p0_keep (a := a) (b := b))), (3, .rel (p1 w2.heap.size a) (p1_keep (b := b))), (5, .rel (p2 w2.heap.size a b) p2_keep), (6, .val (.tuple #[MV O.1 O.2, .int .i64 E])), (10, .rel (pB w2.heap.size) (pB_keep (a := a) (b := b)))] 11 (by kernel_rfl) (by kernel_rfl) (by kernel_rfl) (by decide) (by rfl) (by rfl) (fun d hd c act W v h => by subst hd; exact h) ?_
        simp only [List.take_succ_cons, List.take_zero, List.drop_succ_cons, List.drop_zero]
        repeat (first
          | (apply Der.quiet; (rfl); (rfl); (intro w' hw' hctx; replace hw' := gr1 hw' rfl; have hc' := bcell hw'; have yw0 := fun o => hw'.cell (p := ⟨w.heap.size, o, none⟩) (by first | omega | (simp; done) | (simp; omega)); clear hctx; go_simp; first | exact rfl | exact ⟨rfl, rfl⟩); simp only [Act.put, List.setIfInBounds_toArray, List.set_cons_succ, List.set_cons_zero, Nat.reduceAdd])
          | (apply Der.skip; (rfl); simp only [Act.put, List.setIfInBounds_toArray, List.set_cons_succ, List.set_cons_zero, Nat.reduceAdd]))
        refine Der.rel (by rfl) (by rfl) (fun w' hw' hctx => ?_) (fun v1_2 => ?_)
        · go_simp
          exact ⟨⟨World.ownsRow_made w' #[] 0 hw'.1.size (by decide) rfl, _, rfl⟩, GrL.of_below hw'.1.size ((Below.refl _ _).alloc (Nat.le_refl _) _)⟩
        simp only [Act.put, List.setIfInBounds_toArray, List.set_cons_succ, List.set_cons_zero, Nat.reduceAdd]
        repeat (first
          | (apply Der.quiet; (rfl); (rfl); (intro w' hw' hctx; replace hw' := gr1 hw' rfl; have hc' := bcell hw'; clear hctx; go_simp; first | exact rfl | exact ⟨rfl, rfl⟩); simp only [Act.put, List.setIfInBounds_toArray, List.set_cons_succ, List.set_cons_zero, Nat.reduceAdd])
          | (apply Der.skip; (rfl); simp only [Act.put, List.setIfInBounds_toArray, List.set_cons_succ, List.set_cons_zero, Nat.reduceAdd]))
        refine Der.rel (by rfl) (by rfl) (fun w' hw' hctx => ?_) (fun v3_2 => ?_)
        · have h1 : p0 w2.heap.size v1_2 w' := hctx 1 _ _ (by kernel_rfl) rfl rfl
          obtain ⟨h1a, g, h1b⟩ := h1
          obtain ⟨v', w'', hr, ho, hg⟩ := run_append_ints w' w2.heap.size (SL a b) 46 v1_2 0 [] h1a (.slice aa a.length acp) a (HA.out w' (hB2.trans (((Below.refl w2.heap.size w2).drew.trans hw'.1).mono hB2.size))) HNa.out (.inr ⟨g, h1b⟩) (by omega) hw'.1.size
          have ho2 : p1 w2.heap.size a v' w'' := by unfold p1; simpa using ho
          exact gives_append (.tmp 31) (.tmp 32) 46 rfl rfl rfl hr ⟨ho2, hg⟩
        simp only [Act.put, List.setIfInBounds_toArray, List.set_cons_succ, List.set_cons_zero, Nat.reduceAdd]
        repeat (first
          | (apply Der.quiet; (rfl); (rfl); (intro w' hw' hctx; replace hw' := gr1 hw' rfl; have hc' := bcell hw'; clear hctx; go_simp; first | exact rfl | exact ⟨rfl, rfl⟩); simp only [Act.put, List.setIfInBounds_toArray, List.set_cons_succ, List.set_cons_zero, Nat.reduceAdd])
          | (apply Der.skip; (rfl); simp only [Act.put, List.setIfInBounds_toArray, List.set_cons_succ, List.set_cons_zero, Nat.reduceAdd]))
        refine Der.rel (by rfl) (by rfl) (fun w' hw' hctx => ?_) (fun v5_2 => ?_)
        · have h1 : p1 w2.heap.size a v3_2 w' := hctx 3 _ _ (by kernel_rfl) rfl rfl
          obtain ⟨v', w'', hr, ho, hg⟩ := run_append_ints w' w2.heap.size (SL a b) 46 v3_2 _ _ h1 _ b (HBB.out w' (hB2.trans (((Below.refl w2.heap.size w2).drew.trans hw'.1).mono hB2.size))) HNb.out (.inl (SL_pre _ _)) (by omega) hw'.1.size
          exact gives_append (.tmp 33) (.tmp 34) 46 rfl rfl rfl hr ⟨ho, hg⟩
        simp only [Act.put, List.setIfInBounds_toArray, List.set_cons_succ, List.set_cons_zero, Nat.reduceAdd]
        apply Der.val
        · rfl
        · rfl
        · intro w' hw' hctx
          have h1 : p2 w2.heap.size a b v5_2 w' := hctx 5 _ _ (by kernel_rfl) rfl rfl
          have hbw := hB2.trans (((Below.refl w2.heap.size w2).drew.trans hw'.1).mono hB2.size)
          obtain ⟨x5, l5, c5, rfl⟩ : ∃ x l c, v5_2 = .slice x l c := by
            obtain ⟨x, c, e, -⟩ := (p2_ints h1).open; exact ⟨x, _, c, e⟩
          go_simp
          refine (HF.out w' _ (HC.out _ hbw) (HM.out _ hbw) (p2_ints h1)).mono ?_
          rintro e w'' ⟨rfl, hb⟩
          exact ⟨_, rfl, rfl, GrL.of_below hw'.1.size hb⟩
        simp only [Act.put, List.setIfInBounds_toArray, List.set_cons_succ, List.set_cons_zero, Nat.reduceAdd]
        repeat (first
          | (apply Der.quiet; (rfl); (rfl); (intro w' hw' hctx; replace hw' := gr1 hw' rfl; have hc' := bcell hw'; clear hctx; go_simp; first | exact rfl | exact ⟨rfl, rfl⟩); simp only [Act.put, List.setIfInBounds_toArray, List.set_cons_succ, List.set_cons_zero, Nat.reduceAdd])
          | (apply Der.skip; (rfl); simp only [Act.put, List.setIfInBounds_toArray, List.set_cons_succ, List.set_cons_zero, Nat.reduceAdd]))
        refine Der.rel (by rfl) (by rfl) (fun w' hw' hctx => ?_) (fun v7_2 => ?_)
        · go_simp
          exact ⟨⟨w'.heap.size, #[.int .u64 0, .int .u64 0], rfl, hw'.1.size, World.alloc_heap_new w' _, rfl⟩, GrL.of_below hw'.1.size ((Below.refl _ _).alloc (Nat.le_refl _) _)⟩
        simp only [Act.put, List.setIfInBounds_toArray, List.set_cons_succ, List.set_cons_zero, Nat.reduceAdd]
        refine Der.nil (fun w3 hg3 hctx => ?_)
        have hbox : pB w2.heap.size v7_2 w3 := hctx 10 _ _ (by decide) rfl rfl
        have hb3 : Below w2.heap.size w2 w3 := (Below.refl w2.heap.size w2).drew.trans hg3.1
        clear hctx hg3
        obtain ⟨g2, u0_2, u1_2, rfl, hgn2, hgs2, bx0_2, bx1_2, f0_2, f1_2⟩ := pB_cells hbox
        clear hbox
        have hB3 : Below w.heap.size w w3 := by ((have shb3 := hb3.size); (try simp at shb3); (have shB2 := hB2.size); (try simp at shB2); (repeat' (first | (with_reducible exact Below.refl _ _) | (with_reducible refine Below.setCell ?_ ?_ _) | (with_reducible refine Below.alloc ?_ ?_ _) | (with_reducible refine Below.drew ?_) | (with_reducible refine Below.trans ?_ (Below.mono hb3 ?_)) | (with_reducible refine Below.trans ?_ (Below.mono hB2 ?_)) | go_size)))
        have c0_3 := (hb3.cell (p := ⟨w.heap.size, 0, none⟩) (by first | omega | (simp; done) | (simp; omega))).trans c0_2
        have c1_3 := (hb3.cell (p := ⟨w.heap.size, 1, none⟩) (by first | omega | (simp; done) | (simp; omega))).trans c1_2
        have zz0_3 : w.heap.size < w3.heap.size := (by have := hb3.size; (try simp at this); omega)
        clear c0_2 c1_2
        have HUB := Lib.hid (fun h => unions_bad (cs := cs) (ms := ms) (a := a) (b := b) h)
        have HUK := Lib.hid (fun h => unions_ok (cs := cs) (ms := ms) (a := a) (b := b) h)
        rw [HE.out, HO.out] at HUB HUK
        obtain ⟨F, hF⟩ : ∃ F, unionE cs ms a = F := ⟨_, rfl⟩
        obtain ⟨X, hX⟩ : ∃ X, unionM cs ms a = X := ⟨_, rfl⟩
        obtain ⟨G, hG⟩ : ∃ G, unionE cs ms b = G := ⟨_, rfl⟩
        obtain ⟨Y, hY⟩ : ∃ Y, unionM cs ms b = Y := ⟨_, rfl⟩
        have HFa := Lib.hid (fun W h1 h2 h3 => f_Union (.slice ca cs.length ccp) (.slice ma ms.length mcp) (.slice aa a.length acp) cs ms a (by omega) W h1 h2 h3)
        have HFb := Lib.hid (fun W h1 h2 h3 => f_Union (.slice ca cs.length ccp) (.slice ma ms.length mcp) (.slice ba b.length bcp) cs ms b (by omega) W h1 h2 h3)
        rw [hF, hX] at HFa
        rw [hG, hY] at HFb
        rw [hF, hX, hG, hY] at HUK
        rw [hF, hG] at HUB
        clear hF hX hG hY HE HO HF
        obtain ⟨o1, o2⟩ := O
        obtain ⟨x1, x2⟩ := X
        obtain ⟨y1, y2⟩ := Y
        go_wp2_with fail
        obtain ⟨w4, hw4⟩ : ∃ w4, ((w3.setCell ⟨g2, 0, none⟩ (.int .u64 (U o1))).setCell ⟨g2, 1, none⟩ (.int .u64 (U o2))) = w4 := ⟨_, rfl⟩
        have hs4 : w4.heap.size = w3.heap.size := by rw [← hw4]; simp
        have hb24 : Below w2.heap.size w2 w4 := by rw [← hw4]; exact (hb3.setCell (p := ⟨g2, 0, none⟩) hgn2 _).setCell (p := ⟨g2, 1, none⟩) hgn2 _
        have b0_4 : w4.cell? ⟨g2, 0, none⟩ = some (.int .u64 (U o1)) := by rw [← hw4]; clear hw4; go_simp
        have b1_4 : w4.cell? ⟨g2, 1, none⟩ = some (.int .u64 (U o2)) := by rw [← hw4]; clear hw4; go_simp
        have c0_4 : w4.cell? ⟨w.heap.size, 0, none⟩ = some (.slice ca cs.length ccp) := by rw [← hw4]; clear hw4; have : w.heap.size < g2 := by omega
                                                                                           go_simp
        have c1_4 : w4.cell? ⟨w.heap.size, 1, none⟩ = some (.slice ma ms.length mcp) := by rw [← hw4]; clear hw4; have : w.heap.size < g2 := by omega
                                                                                           go_simp
        rw [hw4]
        have zg_4 : g2 < w4.heap.size := by omega
        have zz0_4 : w.heap.size < w4.heap.size := by omega
        have hB4 : Below w.heap.size w w4 := by ((have shb24 := hb24.size); (try simp at shb24); (have shB2 := hB2.size); (try simp at shB2); (repeat' (first | (with_reducible exact Below.refl _ _) | (with_reducible refine Below.setCell ?_ ?_ _) | (with_reducible refine Below.alloc ?_ ?_ _) | (with_reducible refine Below.drew ?_) | (with_reducible refine Below.trans ?_ (Below.mono hb24 ?_)) | (with_reducible refine Below.trans ?_ (Below.mono hB2 ?_)) | go_size)))
        clear hw4 bx0_2 bx1_2 f0_2 f1_2 c0_3 c1_3 hb3 hgs2
        refine (HFa.out _ (HC.out _ hB4) (HM.out _ hB4) (HA.out _ hB4)).mono ?_
        rintro e w5 ⟨rfl, hb5⟩
        have hB5 : Below w.heap.size w w5 := by ((have shb5 := hb5.size); (try simp at shb5); (have shB4 := hB4.size); (try simp at shB4); (repeat' (first | (with_reducible exact Below.refl _ _) | (with_reducible refine Below.setCell ?_ ?_ _) | (with_reducible refine Below.alloc ?_ ?_ _) | (with_reducible refine Below.drew ?_) | (with_reducible refine Below.trans ?_ (Below.mono hb5 ?_)) | (with_reducible refine Below.trans ?_ (Below.mono hB4 ?_)) | go_size)))
        have hs5 := hb5.size
        have c0_5 := (hb5.cell (p := ⟨w.heap.size, 0, none⟩) zz0_4).trans c0_4
        have c1_5 := (hb5.cell (p := ⟨w.heap.size, 1, none⟩) zz0_4).trans c1_4
        have b0_5 := (hb5.cell (p := ⟨g2, 0, none⟩) zg_4).trans b0_4
        have b1_5 := (hb5.cell (p := ⟨g2, 1, none⟩) zg_4).trans b1_4
        have zz0_5 : w.heap.size < w5.heap.size := by omega
        have zg_5 : g2 < w5.heap.size := by omega
        clear c0_4 c1_4 b0_4 b1_4
        go_wp2_with fail
        refine (HFb.out _ (HC.out _ (by ((have shB5 := hB5.size); (try simp at shB5); (repeat' (first | (with_reducible exact Below.refl _ _) | (with_reducible refine Below.setCell ?_ ?_ _) | (with_reducible refine Below.alloc ?_ ?_ _) | (with_reducible refine Below.drew ?_) | (with_reducible refine Below.trans ?_ (Below.mono hB5 ?_)) | go_size))))) (HM.out _ (by ((have shB5 := hB5.size); (try simp at shB5); (repeat' (first | (with_reducible exact Below.refl _ _) | (with_reducible refine Below.setCell ?_ ?_ _) | (with_reducible refine Below.alloc ?_ ?_ _) | (with_reducible refine Below.drew ?_) | (with_reducible refine Below.trans ?_ (Below.mono hB5 ?_)) | go_size))))) (HBB.out _ (by ((have shB5 := hB5.size); (try simp at shB5); (repeat' (first | (with_reducible exact Below.refl _ _) | (with_reducible refine Below.setCell ?_ ?_ _) | (with_reducible refine Below.alloc ?_ ?_ _) | (with_reducible refine Below.drew ?_) | (with_reducible refine Below.trans ?_ (Below.mono hB5 ?_)) | go_size)))))).mono ?_
        rintro e w6 ⟨rfl, hb6⟩
        have hB6 : Below w.heap.size w w6 := by ((have shb6 := hb6.size); (try simp at shb6); (have shB5 := hB5.size); (try simp at shB5); (repeat' (first | (with_reducible exact Below.refl _ _) | (with_reducible refine Below.setCell ?_ ?_ _) | (with_reducible refine Below.alloc ?_ ?_ _) | (with_reducible refine Below.drew ?_) | (with_reducible refine Below.trans ?_ (Below.mono hb6 ?_)) | (with_reducible refine Below.trans ?_ (Below.mono hB5 ?_)) | go_size)))
        have hs6 := hb6.size
        simp at hs6
        have h56 : Below w5.heap.size w5 w6 := by ((have shb6 := hb6.size); (try simp at shb6); (repeat' (first | (with_reducible exact Below.refl _ _) | (with_reducible refine Below.setCell ?_ ?_ _) | (with_reducible refine Below.alloc ?_ ?_ _) | (with_reducible refine Below.drew ?_) | (with_reducible refine Below.trans ?_ (Below.mono hb6 ?_)) | go_size)))
        have c0_6 := (h56.cell (p := ⟨w.heap.size, 0, none⟩) zz0_5).trans c0_5
        have c1_6 := (h56.cell (p := ⟨w.heap.size, 1, none⟩) zz0_5).trans c1_5
        have b0_6 := (h56.cell (p := ⟨g2, 0, none⟩) zg_5).trans b0_5
        have b1_6 := (h56.cell (p := ⟨g2, 1, none⟩) zg_5).trans b1_5
        have x0_6 : w6.cell? ⟨w5.heap.size, 0, none⟩ = some (.int .u64 (U x1)) := (hb6.cell (p := ⟨w5.heap.size, 0, none⟩) (by simp)).trans (by go_simp)
        have x1_6 : w6.cell? ⟨w5.heap.size, 1, none⟩ = some (.int .u64 (U x2)) := (hb6.cell (p := ⟨w5.heap.size, 1, none⟩) (by simp)).trans (by go_simp)
        have zz0_6 : w.heap.size < w6.heap.size := by omega
        have zg_6 : g2 < w6.heap.size := by omega
        have z5_6 : w5.heap.size < w6.heap.size := by omega
        clear c0_5 c1_5 b0_5 b1_5 hb6 h56
        by_cases hE0 : E = 0
        · obtain ⟨rfl, rfl, hH, hO1, hO2⟩ := HUK.out hE0
          subst hE0
          go_wp2
          obtain ⟨w7, hw7⟩ : ∃ w7, w6.alloc (.cells #[.int .u64 (U y1), .int .u64 (U y2)] 49) = w7 := ⟨_, rfl⟩
          have hb67 : Below w6.heap.size w6 w7 := by rw [← hw7]; exact (Below.refl _ _).alloc (Nat.le_refl _) _
          have hs7 : w7.heap.size = w6.heap.size + 1 := by rw [← hw7]; simp
          have y0_7 : w7.cell? ⟨w6.heap.size, 0, none⟩ = some (.int .u64 (U y1)) := by rw [← hw7]; clear hw7; go_simp
          have y1_7 : w7.cell? ⟨w6.heap.size, 1, none⟩ = some (.int .u64 (U y2)) := by rw [← hw7]; clear hw7; go_simp
          rw [hw7]
          have hB7 : Below w.heap.size w w7 := by ((have shb67 := hb67.size); (try simp at shb67); (have shB6 := hB6.size); (try simp at shB6); (repeat' (first | (with_reducible exact Below.refl _ _) | (with_reducible refine Below.setCell ?_ ?_ _) | (with_reducible refine Below.alloc ?_ ?_ _) | (with_reducible refine Below.drew ?_) | (with_reducible refine Below.trans ?_ (Below.mono hb67 ?_)) | (with_reducible refine Below.trans ?_ (Below.mono hB6 ?_)) | go_size)))
          have c0_7 := (hb67.cell (p := ⟨w.heap.size, 0, none⟩) zz0_6).trans c0_6
          have c1_7 := (hb67.cell (p := ⟨w.heap.size, 1, none⟩) zz0_6).trans c1_6
          have b0_7 := (hb67.cell (p := ⟨g2, 0, none⟩) zg_6).trans b0_6
          have b1_7 := (hb67.cell (p := ⟨g2, 1, none⟩) zg_6).trans b1_6
          have x0_7 := (hb67.cell (p := ⟨w5.heap.size, 0, none⟩) z5_6).trans x0_6
          have x1_7 := (hb67.cell (p := ⟨w5.heap.size, 1, none⟩) z5_6).trans x1_6
          have zz0_7 : w.heap.size < w7.heap.size := by omega
          have zg_7 : g2 < w7.heap.size := by omega
          have z5_7 : w5.heap.size < w7.heap.size := by omega
          have z6_7 : w6.heap.size < w7.heap.size := by omega
          clear c0_6 c1_6 b0_6 b1_6 x0_6 x1_6 hw7 hb67 hs7
          have HF2 := Lib.hid (fun W vl h1 h2 h3 => f_Union (.slice ca cs.length ccp) (.slice ma ms.length mcp) vl cs ms (a ++ a) (by simp; omega) W h1 h2 h3)
          rw [hH, hO2] at HF2
          have HO1 := Lib.hid hO1
          clear hO1 hO2 hH HUK HUB HFa HFb
          refine wp_growE (G := GrL w7.heap.size (SL a a)) (GrL.refl _ _) (fun _ _ _ => GrL.trans) 11 9 [(1, .rel (p0 w7.heap.size) (p0_keep (a := a) (b := a))), (3, .rel (p1 w7.heap.size a) (p1_keep (b := a))), (5, .rel (p2 w7.heap.size a a) p2_keep), (6, .val (.tuple #[MV ((x1, x2) : M).1 ((x1, x2) : M).2, .int .i64 (0 : Int)])), (10, .rel (pB w7.heap.size) (pB_keep (a := a) (b := a)))] 11 (by kernel_rfl) (by kernel_rfl) (by kernel_rfl) (by decide) (by rfl) (by rfl) (fun d hd c act W v h => by subst hd; exact h) ?_
          simp only [List.take_succ_cons, List.take_zero, List.drop_succ_cons, List.drop_zero]
          repeat (first
            | (apply Der.quiet; (rfl); (rfl); (intro w' hw' hctx; replace hw' := gr1 hw' rfl; have hc' := bcell hw'; have yw0 := fun o => hw'.cell (p := ⟨w.heap.size, o, none⟩) (by first | omega | (simp; done) | (simp; omega)); clear hctx; go_simp; first | exact rfl | exact ⟨rfl, rfl⟩); simp only [Act.put, List.setIfInBounds_toArray, List.set_cons_succ, List.set_cons_zero, Nat.reduceAdd])
            | (apply Der.skip; (rfl); simp only [Act.put, List.setIfInBounds_toArray, List.set_cons_succ, List.set_cons_zero, Nat.reduceAdd]))
          refine Der.rel (by rfl) (by rfl) (fun w' hw' hctx => ?_) (fun v1_7 => ?_)
          · go_simp
            exact ⟨⟨World.ownsRow_made w' #[] 0 hw'.1.size (by decide) rfl, _, rfl⟩, GrL.of_below hw'.1.size ((Below.refl _ _).alloc (Nat.le_refl _) _)⟩
          simp only [Act.put, List.setIfInBounds_toArray, List.set_cons_succ, List.set_cons_zero, Nat.reduceAdd]
          repeat (first
            | (apply Der.quiet; (rfl); (rfl); (intro w' hw' hctx; replace hw' := gr1 hw' rfl; have hc' := bcell hw'; clear hctx; go_simp; first | exact rfl | exact ⟨rfl, rfl⟩); simp only [Act.put, List.setIfInBounds_toArray, List.set_cons_succ, List.set_cons_zero, Nat.reduceAdd])
            | (apply Der.skip; (rfl); simp only [Act.put, List.setIfInBounds_toArray, List.set_cons_succ, List.set_cons_zero, Nat.reduceAdd]))
          refine Der.rel (by rfl) (by rfl) (fun w' hw' hctx => ?_) (fun v3_7 => ?_)
          · have h1 : p0 w7.heap.size v1_7 w' := hctx 1 _ _ (by kernel_rfl) rfl rfl
            obtain ⟨h1a, g, h1b⟩ := h1
            obtain ⟨v', w'', hr, ho, hg⟩ := run_append_ints w' w7.heap.size (SL a a) 46 v1_7 0 [] h1a (.slice aa a.length acp) a (HA.out w' (hB7.trans (((Below.refl w7.heap.size w7).drew.trans hw'.1).mono hB7.size))) HNa.out (.inr ⟨g, h1b⟩) (by omega) hw'.1.size
            have ho2 : p1 w7.heap.size a v' w'' := by unfold p1; simpa using ho
            exact gives_append (.tmp 66) (.tmp 67) 46 rfl rfl rfl hr ⟨ho2, hg⟩
          simp only [Act.put, List.setIfInBounds_toArray, List.set_cons_succ, List.set_cons_zero, Nat.reduceAdd]
          repeat (first
            | (apply Der.quiet; (rfl); (rfl); (intro w' hw' hctx; replace hw' := gr1 hw' rfl; have hc' := bcell hw'; clear hctx; go_simp; first | exact rfl | exact ⟨rfl, rfl⟩); simp only [Act.put, List.setIfInBounds_toArray, List.set_cons_succ, List.set_cons_zero, Nat.reduceAdd])
            | (apply Der.skip; (rfl); simp only [Act.put, List.setIfInBounds_toArray, List.set_cons_succ, List.set_cons_zero, Nat.reduceAdd]))
          refine Der.rel (by rfl) (by rfl) (fun w' hw' hctx => ?_) (fun v5_7 => ?_)
          · have h1 : p1 w7.heap.size a v3_7 w' := hctx 3 _ _ (by kernel_rfl) rfl rfl
            obtain ⟨v', w'', hr, ho, hg⟩ := run_append_ints w' w7.heap.size (SL a a) 46 v3_7 _ _ h1 _ a (HA.out w' (hB7.trans (((Below.refl w7.heap.size w7).drew.trans hw'.1).mono hB7.size))) HNa.out (.inl (SL_pre _ _)) (by omega) hw'.1.size
            exact gives_append (.tmp 68) (.tmp 69) 46 rfl rfl rfl hr ⟨ho, hg⟩
          simp only [Act.put, List.setIfInBounds_toArray, List.set_cons_succ, List.set_cons_zero, Nat.reduceAdd]
          apply Der.val
          · rfl
          · rfl
          · intro w' hw' hctx
            have h1 : p2 w7.heap.size a a v5_7 w' := hctx 5 _ _ (by kernel_rfl) rfl rfl
            have hbw := hB7.trans (((Below.refl w7.heap.size w7).drew.trans hw'.1).mono hB7.size)
            obtain ⟨x5, l5, c5, rfl⟩ : ∃ x l c, v5_7 = .slice x l c := by
              obtain ⟨x, c, e, -⟩ := (p2_ints h1).open; exact ⟨x, _, c, e⟩
            go_simp
            refine (HF2.out w' _ (HC.out _ hbw) (HM.out _ hbw) (p2_ints h1)).mono ?_
            rintro e w'' ⟨rfl, hb⟩
            exact ⟨_, rfl, rfl, GrL.of_below hw'.1.size hb⟩
          simp only [Act.put, List.setIfInBounds_toArray, List.set_cons_succ, List.set_cons_zero, Nat.reduceAdd]
          repeat (first
            | (apply Der.quiet; (rfl); (rfl); (intro w' hw' hctx; replace hw' := gr1 hw' rfl; have hc' := bcell hw'; clear hctx; go_simp; first | exact rfl | exact ⟨rfl, rfl⟩); simp only [Act.put, List.setIfInBounds_toArray, List.set_cons_succ, List.set_cons_zero, Nat.reduceAdd])
            | (apply Der.skip; (rfl); simp only [Act.put, List.setIfInBounds_toArray, List.set_cons_succ, List.set_cons_zero, Nat.reduceAdd]))
          refine Der.rel (by rfl) (by rfl) (fun w' hw' hctx => ?_) (fun v7_7 => ?_)
          · go_simp
            exact ⟨⟨w'.heap.size, #[.int .u64 0, .int .u64 0], rfl, hw'.1.size, World.alloc_heap_new w' _, rfl⟩, GrL.of_below hw'.1.size ((Below.refl _ _).alloc (Nat.le_refl _) _)⟩
          simp only [Act.put, List.setIfInBounds_toArray, List.set_cons_succ, List.set_cons_zero, Nat.reduceAdd]
          refine Der.nil (fun w8 hg8 hctx => ?_)
          have hbox : pB w7.heap.size v7_7 w8 := hctx 10 _ _ (by decide) rfl rfl
          have hb8 : Below w7.heap.size w7 w8 := (Below.refl w7.heap.size w7).drew.trans hg8.1
          clear hctx hg8
          obtain ⟨g7, u0_7, u1_7, rfl, hgn7, hgs7, bx0_7, bx1_7, f0_7, f1_7⟩ := pB_cells hbox
          clear hbox
          have c0_8 := (hb8.cell (p := ⟨w.heap.size, 0, none⟩) zz0_7).trans c0_7
          have b0_8 := (hb8.cell (p := ⟨g2, 0, none⟩) zg_7).trans b0_7
          have b1_8 := (hb8.cell (p := ⟨g2, 1, none⟩) zg_7).trans b1_7
          have x0_8 := (hb8.cell (p := ⟨w5.heap.size, 0, none⟩) z5_7).trans x0_7
          have x1_8 := (hb8.cell (p := ⟨w5.heap.size, 1, none⟩) z5_7).trans x1_7
          have y0_8 := (hb8.cell (p := ⟨w6.heap.size, 0, none⟩) z6_7).trans y0_7
          have y1_8 := (hb8.cell (p := ⟨w6.heap.size, 1, none⟩) z6_7).trans y1_7
          have hB8 : Below w.heap.size w w8 := by ((have shb8 := hb8.size); (try simp at shb8); (have shB7 := hB7.size); (try simp at shB7); (repeat' (first | (with_reducible exact Below.refl _ _) | (with_reducible refine Below.setCell ?_ ?_ _) | (with_reducible refine Below.alloc ?_ ?_ _) | (with_reducible refine Below.drew ?_) | (with_reducible refine Below.trans ?_ (Below.mono hb8 ?_)) | (with_reducible refine Below.trans ?_ (Below.mono hB7 ?_)) | go_size)))
          clear b0_7 b1_7 x0_7 x1_7 y0_7 y1_7 c0_7 c1_7 c0_8
          go_wp2
          obtain ⟨w9, hw9⟩ : ∃ w9, ((w8.setCell ⟨g7, 0, none⟩ (.int .u64 (U x1))).setCell ⟨g7, 1, none⟩ (.int .u64 (U x2))) = w9 := ⟨_, rfl⟩
          have hs9 : w9.heap.size = w8.heap.size := by rw [← hw9]; simp
          have hb89 : Below w7.heap.size w8 w9 := by rw [← hw9]; exact ((Below.refl _ _).setCell (p := ⟨g7, 0, none⟩) hgn7 _).setCell (p := ⟨g7, 1, none⟩) hgn7 _
          have t0_9 : w9.cell? ⟨g7, 0, none⟩ = some (.int .u64 (U x1)) := by rw [← hw9]; clear hw9; go_simp
          have t1_9 : w9.cell? ⟨g7, 1, none⟩ = some (.int .u64 (U x2)) := by rw [← hw9]; clear hw9; go_simp
          rw [hw9]
          have b0_9 := (hb89.cell (p := ⟨g2, 0, none⟩) zg_7).trans b0_8
          have b1_9 := (hb89.cell (p := ⟨g2, 1, none⟩) zg_7).trans b1_8
          have x0_9 := (hb89.cell (p := ⟨w5.heap.size, 0, none⟩) z5_7).trans x0_8
          have x1_9 := (hb89.cell (p := ⟨w5.heap.size, 1, none⟩) z5_7).trans x1_8
          have y0_9 := (hb89.cell (p := ⟨w6.heap.size, 0, none⟩) z6_7).trans y0_8
          have y1_9 := (hb89.cell (p := ⟨w6.heap.size, 1, none⟩) z6_7).trans y1_8
          have hB9 : Below w.heap.size w w9 := by ((have shb89 := hb89.size); (try simp at shb89); (have shB8 := hB8.size); (try simp at shB8); (repeat' (first | (with_reducible exact Below.refl _ _) | (with_reducible refine Below.setCell ?_ ?_ _) | (with_reducible refine Below.alloc ?_ ?_ _) | (with_reducible refine Below.drew ?_) | (with_reducible refine Below.trans ?_ (Below.mono hb89 ?_)) | (with_reducible refine Below.trans ?_ (Below.mono hB8 ?_)) | go_size)))
          have zg_9 : g2 < w9.heap.size := by have := hb8.size; omega
          have z5_9 : w5.heap.size < w9.heap.size := by have := hb8.size; omega
          have z6_9 : w6.heap.size < w9.heap.size := by have := hb8.size; omega
          have z7_9 : g7 < w9.heap.size := by omega
          clear hs9
          clear hw9 hb89 b0_8 b1_8 x0_8 x1_8 y0_8 y1_8 bx0_7 bx1_7 f0_7 f1_7
          refine wp_grow [(14, .rel (fun v w => Masks w v [(x1, x2), (y1, y2)]) (fun _ _ _ h hg => h.grown hg)), (15, .val (MV o1 o2))] 24 (by kernel_rfl) (by kernel_rfl) (by rfl) (by rfl) ?_
          simp only [List.take_succ_cons, List.take_zero, List.drop_succ_cons, List.drop_zero]
          repeat (first
            | (apply Der.quiet; (rfl); (rfl); (intro w' hw' hctx; have hc' := bcell hw'; have yw50 := fun o => hw'.cell (p := ⟨w5.heap.size, o, none⟩) (by first | omega | (simp; done) | (simp; omega)); have yw60 := fun o => hw'.cell (p := ⟨w6.heap.size, o, none⟩) (by first | omega | (simp; done) | (simp; omega)); have yg2 := fun o => hw'.cell (p := ⟨g2, o, none⟩) (by first | omega | (simp; omega)); have yg7 := fun o => hw'.cell (p := ⟨g7, o, none⟩) (by first | omega | (simp; omega)); clear hctx; go_simp; first | exact rfl | exact ⟨rfl, rfl⟩); simp only [Act.put, List.setIfInBounds_toArray, List.set_cons_succ, List.set_cons_zero, Nat.reduceAdd])
            | (apply Der.skip; (rfl); simp only [Act.put, List.setIfInBounds_toArray, List.set_cons_succ, List.set_cons_zero, Nat.reduceAdd]))
          refine Der.rel (by rfl) (by rfl) (fun w' hw' hctx => ?_) (fun s1 => ?_)
          · (go_simp; exact ⟨Sl.fresh w' _ 2 _ rfl (by omega), (Below.refl _ _).alloc (Nat.le_refl _) _⟩)
          simp only [Act.put, List.setIfInBounds_toArray, List.set_cons_succ, List.set_cons_zero, Nat.reduceAdd]
          apply Der.val
          · rfl
          · rfl
          · (intro w' hw' hctx; go_simp; refine (f_Or _ [(x1, x2), (y1, y2)] _ (hctx 14 _ _ (by kernel_rfl) rfl rfl)).mono ?_; rintro e w2 ⟨rfl, hb⟩; exact ⟨_, rfl, by rw [← HO1.out], hb⟩)
          simp only [Act.put, List.setIfInBounds_toArray, List.set_cons_succ, List.set_cons_zero, Nat.reduceAdd]
          repeat (first
            | (apply Der.quiet; (rfl); (rfl); (intro w' hw' hctx; have hc' := bcell hw'; have yw50 := fun o => hw'.cell (p := ⟨w5.heap.size, o, none⟩) (by first | omega | (simp; done) | (simp; omega)); have yw60 := fun o => hw'.cell (p := ⟨w6.heap.size, o, none⟩) (by first | omega | (simp; done) | (simp; omega)); have yg2 := fun o => hw'.cell (p := ⟨g2, o, none⟩) (by first | omega | (simp; omega)); have yg7 := fun o => hw'.cell (p := ⟨g7, o, none⟩) (by first | omega | (simp; omega)); clear hctx; go_simp; first | exact rfl | exact ⟨rfl, rfl⟩); simp only [Act.put, List.setIfInBounds_toArray, List.set_cons_succ, List.set_cons_zero, Nat.reduceAdd])
            | (apply Der.skip; (rfl); simp only [Act.put, List.setIfInBounds_toArray, List.set_cons_succ, List.set_cons_zero, Nat.reduceAdd]))
          refine Der.nil (fun w10 hgw10 hctx => ?_)
          clear hctx
          have hb10 : Below _ _ w10 := hgw10
          clear hgw10
          go_wp2
          go_ret
          exact ⟨rfl, by ((have shb10 := hb10.size); (try simp at shb10); (have shB9 := hB9.size); (try simp at shB9); (repeat' (first | (with_reducible exact Below.refl _ _) | (with_reducible refine Below.setCell ?_ ?_ _) | (with_reducible refine Below.alloc ?_ ?_ _) | (with_reducible refine Below.drew ?_) | (with_reducible refine Below.trans ?_ (Below.mono hb10 ?_)) | (with_reducible refine Below.trans ?_ (Below.mono hB9 ?_)) | go_size)))⟩
        · obtain ⟨hz, hor⟩ := HUB.out hE0
          simp only [mZero, Prod.mk.injEq] at hz
          obtain ⟨rfl, rfl⟩ := hz
          rw [U_zero] at b0_6 b1_6
          have hE1 : (E != 0) = true := bne_iff_ne.2 hE0
          by_cases hF0 : F = 0
          · have hG0 : G ≠ 0 := by rcases hor with h | h; exact absurd hF0 h; exact h
            have hG1 : (G != 0) = true := bne_iff_ne.2 hG0
            subst hF0
            clear hor
            go_wp2
            go_ret
            exact ⟨rfl, by ((have shB6 := hB6.size); (try simp at shB6); (repeat' (first | (with_reducible exact Below.refl _ _) | (with_reducible refine Below.setCell ?_ ?_ _) | (with_reducible refine Below.alloc ?_ ?_ _) | (with_reducible refine Below.drew ?_) | (with_reducible refine Below.trans ?_ (Below.mono hB6 ?_)) | go_size)))⟩
          · have hF1 : (F != 0) = true := bne_iff_ne.2 hF0
            clear hor
            go_wp2
            go_ret
            exact ⟨rfl, by ((have shB6 := hB6.size); (try simp at shB6); (repeat' (first | (with_reducible exact Below.refl _ _) | (with_reducible refine Below.setCell ?_ ?_ _) | (with_reducible refine Below.alloc ?_ ?_ _) | (with_reducible refine Below.drew ?_) | (with_reducible refine Below.trans ?_ (Below.mono hB6 ?_)) | go_size)))⟩
end Go.Proofs.Ytlfmffjlmhpcdaa
