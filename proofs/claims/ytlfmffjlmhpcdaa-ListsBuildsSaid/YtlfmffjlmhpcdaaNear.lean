/- The contracts of cmp.Compare, cmp.Or, vec.Compare, vec.Dist, vec.Nearest, and of the document's Nearest. -/
import Derived.Test.YtlfmffjlmhpcdaaRef5
import Derived.Test.YtlfmffjlmhpcdaaClone
namespace Go.Proofs.Ytlfmffjlmhpcdaa
open Go.RowKit
set_option maxRecDepth 100000
attribute [local irreducible] Der

def cmpI (a b : Int) : Int := if a < b then -1 else if b < a then 1 else 0
theorem c_isNaN (a : Int) (w : World) : Calls Try.prog 117 #[.int .u64 a] w fun e w' => e = .returned (.bool false) ∧ w' = w := by
  go_enter Try.func117, Try.ntmps117
  go_wp2
  go_ret
  exact ⟨by simp, rfl⟩
theorem c_Compare (a b : Int) (w : World) : Calls Try.prog 113 #[.int .u64 a, .int .u64 b] w fun e w' => e = .returned (.int .i64 (cmpI a b)) ∧ Below w.heap.size w w' := by
  by_cases h1 : a < b
  · have H := Lib.hid (show cmpI a b = -1 by unfold cmpI; rw [if_pos h1])
    go_enter Try.func113, Try.ntmps113
    go_wp2_with (go_at_call 117; refine (c_isNaN _ _).mono ?_; rintro e w' ⟨rfl, rfl⟩)
    go_ret
    exact ⟨by rw [H.out]; rfl, Below.refl _ _⟩
  · by_cases h2 : b < a
    · have H := Lib.hid (show cmpI a b = 1 by unfold cmpI; rw [if_neg h1, if_pos h2])
      go_enter Try.func113, Try.ntmps113
      go_wp2_with (go_at_call 117; refine (c_isNaN _ _).mono ?_; rintro e w' ⟨rfl, rfl⟩)
      go_ret
      exact ⟨by rw [H.out]; rfl, Below.refl _ _⟩
    · have H := Lib.hid (show cmpI a b = 0 by unfold cmpI; rw [if_neg h1, if_neg h2])
      go_enter Try.func113, Try.ntmps113
      go_wp2_with (go_at_call 117; refine (c_isNaN _ _).mono ?_; rintro e w' ⟨rfl, rfl⟩)
      go_ret
      exact ⟨by rw [H.out]; rfl, Below.refl _ _⟩
/-- The first of two that is not zero. -/
def or2 (x y : Int) : Int := if x = 0 then y else x
set_option maxHeartbeats 1000000 in
theorem c_Or (v : Value) (x y : Int) (w : World) (h : Ints w v [x, y]) : Calls Try.prog 112 #[v] w fun e w' => e = .returned (.int .i64 (or2 x y)) ∧ Below w.heap.size w w' := by
  obtain ⟨a, cap, rfl, hl, hm, hcell⟩ := h.open
  obtain ⟨b, off, rfl, hb, g0⟩ := hcell 0 (by simp)
  obtain ⟨b', off', hbo, -, g1⟩ := hcell 1 (by simp)
  simp only [Option.some.injEq, Addr.mk.injEq, and_true] at hbo
  obtain ⟨rfl, rfl⟩ := hbo
  simp only [List.length_cons, List.length_nil, Nat.zero_add, Nat.reduceAdd, List.getElem_cons_zero, List.getElem_cons_succ, Nat.add_zero] at *
  clear hcell h
  by_cases h0 : x = 0
  · have H := Lib.hid (show or2 x y = y by unfold or2; rw [if_pos h0])
    have hx : (x != 0) = false := by simp [h0]
    clear h0
    by_cases hy : y = 0
    · have hyb : (y != 0) = false := by simp [hy]
      have HY := Lib.hid hy
      clear hy
      go_enter Try.func112, Try.ntmps112
      go_wp2
      refine wp_loop_rounds 3 ?_
      rw [rounds_succ]
      go_wp2
      rw [rounds_succ]
      go_wp2
      rw [rounds_succ]
      go_wp2
      go_ret
      exact ⟨by rw [H.out, HY.out]; rfl, Below.refl _ _⟩
    · have hyb : (y != 0) = true := by simp [hy]
      clear hy
      go_enter Try.func112, Try.ntmps112
      go_wp2
      refine wp_loop_rounds 3 ?_
      rw [rounds_succ]
      go_wp2
      rw [rounds_succ]
      go_wp2
      go_ret
      exact ⟨by rw [H.out]; rfl, Below.refl _ _⟩
  · have H := Lib.hid (show or2 x y = x by unfold or2; rw [if_neg h0])
    have hx : (x != 0) = true := by simp [h0]
    clear h0
    go_enter Try.func112, Try.ntmps112
    go_wp2
    refine wp_loop_rounds 3 ?_
    rw [rounds_succ]
    go_wp2
    go_ret
    exact ⟨by rw [H.out]; rfl, Below.refl _ _⟩
theorem f_vecCompare (i d j c : Int) (w : World) : Calls Try.prog 95 #[.agg #[.int .u64 i, .int .u64 d], .agg #[.int .u64 j, .int .u64 c]] w fun e w' => e = .returned (.int .i64 (or2 (cmpI d c) (cmpI i j))) ∧ Below w.heap.size w w' := by
  go_enter Try.func95, Try.ntmps95
  go_wp2
  generalize hX : cmpI d c = X at *
  generalize hY : cmpI i j = Y at *
  have HX := Lib.hid hX
  have HY := Lib.hid hY
  clear hX hY
  refine wp_grow [(4, .val (.int .i64 X)), (9, .val (.int .i64 Y)), (10, .rel (fun v w => Ints w v [X, Y]) (fun _ _ _ h hg => h.grown hg)), (11, .val (.int .i64 (or2 X Y)))] 12 (by kernel_rfl) (by kernel_rfl) (by rfl) (by rfl) ?_
  simp only [List.take_succ_cons, List.take_zero, List.drop_succ_cons, List.drop_zero]
  repeat (first
    | (apply Der.quiet; (rfl); (rfl); (intro w' hw' hctx; have hc' := bcell hw'; have yw0 := fun o => hw'.cell (p := ⟨w.heap.size, o, none⟩) (by first | omega | (simp; done) | (simp; omega)); have yw1 := fun o => hw'.cell (p := ⟨w.heap.size + 1, o, none⟩) (by first | omega | (simp; done) | (simp; omega)); clear hctx; go_simp; first | exact rfl | exact ⟨rfl, rfl⟩); simp only [Act.put, List.setIfInBounds_toArray, List.set_cons_succ, List.set_cons_zero, Nat.reduceAdd])
    | (apply Der.skip; (rfl); simp only [Act.put, List.setIfInBounds_toArray, List.set_cons_succ, List.set_cons_zero, Nat.reduceAdd]))
  apply Der.val
  · rfl
  · rfl
  · (intro w' hw' hctx; go_simp; refine (c_Compare _ _ _).mono ?_; rintro e w2 ⟨rfl, hb⟩; exact ⟨_, rfl, congrArg (Value.int .i64) HX.out, hb⟩)
  simp only [Act.put, List.setIfInBounds_toArray, List.set_cons_succ, List.set_cons_zero, Nat.reduceAdd]
  repeat (first
    | (apply Der.quiet; (rfl); (rfl); (intro w' hw' hctx; have hc' := bcell hw'; have yw0 := fun o => hw'.cell (p := ⟨w.heap.size, o, none⟩) (by first | omega | (simp; done) | (simp; omega)); have yw1 := fun o => hw'.cell (p := ⟨w.heap.size + 1, o, none⟩) (by first | omega | (simp; done) | (simp; omega)); clear hctx; go_simp; first | exact rfl | exact ⟨rfl, rfl⟩); simp only [Act.put, List.setIfInBounds_toArray, List.set_cons_succ, List.set_cons_zero, Nat.reduceAdd])
    | (apply Der.skip; (rfl); simp only [Act.put, List.setIfInBounds_toArray, List.set_cons_succ, List.set_cons_zero, Nat.reduceAdd]))
  apply Der.val
  · rfl
  · rfl
  · (intro w' hw' hctx; go_simp; refine (c_Compare _ _ _).mono ?_; rintro e w2 ⟨rfl, hb⟩; exact ⟨_, rfl, congrArg (Value.int .i64) HY.out, hb⟩)
  simp only [Act.put, List.setIfInBounds_toArray, List.set_cons_succ, List.set_cons_zero, Nat.reduceAdd]
  refine Der.rel (by rfl) (by rfl) (fun w' hw' hctx => ?_) (fun s1 => ?_)
  · (go_simp; exact ⟨Sl.fresh w' _ 2 _ rfl (by omega), (Below.refl _ _).alloc (Nat.le_refl _) _⟩)
  simp only [Act.put, List.setIfInBounds_toArray, List.set_cons_succ, List.set_cons_zero, Nat.reduceAdd]
  apply Der.val
  · rfl
  · rfl
  · (intro w' hw' hctx; go_simp; refine (c_Or _ X Y _ (hctx 10 _ _ (by kernel_rfl) rfl rfl)).mono ?_; rintro e w2 ⟨rfl, hb⟩; exact ⟨_, rfl, rfl, hb⟩)
  simp only [Act.put, List.setIfInBounds_toArray, List.set_cons_succ, List.set_cons_zero, Nat.reduceAdd]
  refine Der.nil (fun w2 hgw2 hctx => ?_)
  clear hctx
  have hb2 : Below _ _ w2 := hgw2
  clear hgw2
  go_wp2
  go_ret
  refine ⟨by rw [HX.out, HY.out]; rfl, ?_⟩
  ((have shb2 := hb2.size); (try simp at shb2); (repeat' (first | (with_reducible exact Below.refl _ _) | (with_reducible refine Below.setCell ?_ ?_ _) | (with_reducible refine Below.alloc ?_ ?_ _) | (with_reducible refine Below.drew ?_) | (with_reducible refine Below.trans ?_ (Below.mono hb2 ?_)) | go_size)))
theorem f_vecDist (v u : Value) (l m : List Int) (w : World) (h : VecV w v l) (h' : VecV w u m) : Calls Try.prog 29 #[v, u] w fun e w' =>
    e = .returned (.tuple #[.int .u64 (if vecsE [(v, l), (u, m)] = 0 then distL l m else 0), .int .i64 (vecsE [(v, l), (u, m)])]) ∧ Below w.heap.size w w' := by
  obtain ⟨a, cap, rfl, hl, hm⟩ := h.form
  obtain ⟨a', cap', rfl, hl', hm'⟩ := h'.form
  have H := Lib.hid h
  have H' := Lib.hid h'
  clear h h'
  have hB : Below w.heap.size w (w.alloc (.cells #[.slice a l.length cap, .slice a' m.length cap'] 56)) := (Below.refl _ _).alloc (Nat.le_refl _) _
  have hV : VecsV (w.alloc (.cells #[.slice a l.length cap, .slice a' m.length cap'] 56)) (.slice (some ⟨w.heap.size, 0, none⟩) 2 2) [(.slice a l.length cap, l), (.slice a' m.length cap', m)] := by
    refine ⟨⟨Sl.fresh w 56 2 _ rfl (by omega), NilA.of_some _ _ _⟩, fun p hp => ?_⟩
    simp only [List.mem_cons, List.not_mem_nil, or_false] at hp
    rcases hp with rfl | rfl
    · exact H.out.grown hB
    · exact H'.out.grown hB
  have HV := Lib.hid hV
  clear hV
  by_cases he : vecsE [(.slice a l.length cap, l), (.slice a' m.length cap', m)] = 0
  · have hall : vecOK l = true ∧ vecOK m = true ∧ l.length = m.length := by
      unfold vecsE at he
      split at he
      · rename_i h1
        split at he
        · omega
        · rename_i h2
          simp [otherD, dim0] at h1 h2
          exact ⟨h1.1, h1.2, by omega⟩
      · omega
    have HE := Lib.hid he
    have HA := Lib.hid hall
    clear he hall
    go_enter Try.func29, Try.ntmps29
    go_wp2_with fail
    refine (f_vecAll _ _ _ HV.out).mono ?_
    rintro e w1 ⟨rfl, hb1⟩
    rw [HE.out]
    go_wp2_with fail
    refine (f_dist _ _ l m HA.out.1 HA.out.2.1 HA.out.2.2 _ (H.out.grown (by ((have shb1 := hb1.size); (try simp at shb1); (repeat' (first | (with_reducible exact Below.refl _ _) | (with_reducible refine Below.setCell ?_ ?_ _) | (with_reducible refine Below.alloc ?_ ?_ _) | (with_reducible refine Below.drew ?_) | (with_reducible refine Below.trans ?_ (Below.mono hb1 ?_)) | go_size))))) (H'.out.grown (by ((have shb1 := hb1.size); (try simp at shb1); (repeat' (first | (with_reducible exact Below.refl _ _) | (with_reducible refine Below.setCell ?_ ?_ _) | (with_reducible refine Below.alloc ?_ ?_ _) | (with_reducible refine Below.drew ?_) | (with_reducible refine Below.trans ?_ (Below.mono hb1 ?_)) | go_size)))))).mono ?_
    rintro e w2 ⟨rfl, hb2⟩
    go_wp2
    go_ret2
    refine ⟨rfl, ?_⟩
    ((have shb2 := hb2.size); (try simp at shb2); (have shb1 := hb1.size); (try simp at shb1); (repeat' (first | (with_reducible exact Below.refl _ _) | (with_reducible refine Below.setCell ?_ ?_ _) | (with_reducible refine Below.alloc ?_ ?_ _) | (with_reducible refine Below.drew ?_) | (with_reducible refine Below.trans ?_ (Below.mono hb2 ?_)) | (with_reducible refine Below.trans ?_ (Below.mono hb1 ?_)) | go_size)))
  · obtain ⟨E, hE⟩ : ∃ E, vecsE [(.slice a l.length cap, l), (.slice a' m.length cap', m)] = E := ⟨_, rfl⟩
    rw [hE] at he
    simp only [hE, if_neg he]
    have HE := Lib.hid hE
    have hee : (E != 0) = true := by simp [he]
    clear he hE
    go_enter Try.func29, Try.ntmps29
    go_wp2_with fail
    refine (f_vecAll _ _ _ HV.out).mono ?_
    rintro e w1 ⟨rfl, hb1⟩
    rw [HE.out]
    go_wp2
    go_ret2
    refine ⟨rfl, ?_⟩
    ((have shb1 := hb1.size); (try simp at shb1); (repeat' (first | (with_reducible exact Below.refl _ _) | (with_reducible refine Below.setCell ?_ ?_ _) | (with_reducible refine Below.alloc ?_ ?_ _) | (with_reducible refine Below.drew ?_) | (with_reducible refine Below.trans ?_ (Below.mono hb1 ?_)) | go_size)))

theorem vecsE_cons {u : Value} {x : List Int} {l : List PV} (h : vecsE ((u, x) :: l) = 0) : vecOK x = true ∧ (∀ p ∈ l, vecOK p.2 = true ∧ p.2.length = x.length) := by
  unfold vecsE at h
  split at h
  · rename_i h1
    split at h
    · omega
    · rename_i h2
      simp only [List.all_cons, Bool.and_eq_true, List.all_eq_true] at h1
      refine ⟨h1.1, fun p hp => ⟨h1.2 p hp, ?_⟩⟩
      simp only [List.any_cons, Bool.or_eq_true, not_or, List.any_eq_true, not_exists, not_and] at h2
      have := h2.2 p hp
      unfold otherD dim0 at this
      simp at this
      omega
  · omega
/-- The best of the first k + 1 by a measure: the first of the least. -/
def bestK (d : Nat → Int) : Nat → Nat
  | 0 => 0
  | k + 1 => if d (k + 1) < d (bestK d k) then k + 1 else bestK d k
theorem bestK_le (d : Nat → Int) : ∀ k, bestK d k ≤ k
  | 0 => Nat.le_refl _
  | k + 1 => by unfold bestK; split; omega; have := bestK_le d k; omega
/-- How far the vectors of a row are from one. -/
def farD (l : List PV) (x : List Int) (i : Nat) : Int := distL ((l[i]?.map (·.2)).getD []) x
theorem farD_get {l : List PV} {x : List Int} {i : Nat} (h : i < l.length) : farD l x i = distL l[i].2 x := by unfold farD; rw [List.getElem?_eq_getElem h]; rfl
theorem owns_built (w : World) (e : TypeId) (x : Value) : (w.alloc (.cells #[x] e)).ownsRow w.heap.size e 1 (.slice (some ⟨w.heap.size, 0, none⟩) 1 1) 1 [x] :=
  ⟨rfl, .inr ⟨w.heap.size, 1, #[x], rfl, Nat.le_refl _, World.alloc_heap_new w _, by omega, by decide, rfl, by simp⟩⟩
theorem f_near_nil (a : Option Addr) (c : Nat) (u : Value) (w : World) : Calls Try.prog 53 #[.slice a 0 c, u] w fun e w' => e = .returned (.tuple #[.int .i64 0, .int .i64 4]) ∧ Below w.heap.size w w' := by
  go_enter Try.func53, Try.ntmps53
  go_wp2
  go_ret2
  exact ⟨rfl, Below.refl _ _⟩
set_option maxHeartbeats 2000000 in
theorem f_near_bad (v u : Value) (l : List PV) (x : List Int) (w : World) (h : VecsV w v l) (h' : VecV w u x) (hlen : l.length ≤ 1000) (h0 : 0 < l.length) (E : Int) (hE : vecsE ((u, x) :: l) = E) (he : E ≠ 0) :
    Calls Try.prog 53 #[v, u] w fun e w' => e = .returned (.tuple #[.int .i64 0, .int .i64 E]) ∧ Below w.heap.size w w' := by
  have H := Lib.hid h
  have H' := Lib.hid h'
  have HE := Lib.hid hE
  obtain ⟨a, cap, rfl, hl, hm⟩ : ∃ a cap, v = .slice a l.length cap ∧ l.length ≤ cap ∧ cap ≤ 9223372036854775807 := by
    obtain ⟨a, cap, e, h1, h2, -⟩ := h.open; exact ⟨a, cap, e, h1, h2⟩
  obtain ⟨a', cap', rfl, hl', hm'⟩ := h'.form
  have hee : (E != 0) = true := by simp [he]
  have hne : ¬ l = [] := by intro e; subst e; simp at h0
  have hflat := flatMap_len (fun p : PV => [p.1]) 1 (fun _ => rfl) l
  have own := owns_built w 56 (.slice a' x.length cap')
  have hB : Below w.heap.size w (w.alloc (.cells #[.slice a' x.length cap'] 56)) := (Below.refl _ _).alloc (Nat.le_refl _) _
  clear h h' he hE
  go_enter Try.func53, Try.ntmps53
  go_wp2_with (at_builtin; refine append_any rfl _ _ 22 rfl w.heap.size 56 (.slice none 0 0) 1 24 Try.underlying22 info_vecs rfl (by decide) _ 1 _ rfl own _ l.length (l.flatMap fun p => [p.1]) rfl (Sl.grown H.out.1.1 hB) H.out.1.2 hflat (Vecs.one H.out.2) (by unfold maxLen; omega) (by omega) (by simp) ?_; intro v' w2 hown' hgrow)
  have hb2 : Below w.heap.size w w2 := hB.grown hgrow (by simp) (fun q hq => by have e : w.heap.size = q := Option.some.inj hq; omega)
  have hV : VecsV w2 v' ((.slice a' x.length cap', x) :: l) := by
    refine ⟨⟨?_, NilA.of_owns hown'⟩, fun p hp => ?_⟩
    · have := Sl.of_owns hown'
      rw [Nat.add_comm] at this
      exact this
    · rcases List.mem_cons.1 hp with rfl | hp
      · exact H'.out.grown hb2
      · exact (H.out.2 p hp).grown hb2
  have HV := Lib.hid hV
  clear hV hown' hgrow own hB
  go_wp2_with fail
  refine (f_vecAll _ _ _ HV.out).mono ?_
  rintro e w3 ⟨rfl, hb3⟩
  rw [HE.out]
  go_wp2
  go_ret2
  refine ⟨rfl, ?_⟩
  ((have shb3 := hb3.size); (try simp at shb3); (have shb2 := hb2.size); (try simp at shb2); (repeat' (first | (with_reducible exact Below.refl _ _) | (with_reducible refine Below.setCell ?_ ?_ _) | (with_reducible refine Below.alloc ?_ ?_ _) | (with_reducible refine Below.drew ?_) | (with_reducible refine Below.trans ?_ (Below.mono hb3 ?_)) | (with_reducible refine Below.trans ?_ (Below.mono hb2 ?_)) | go_size)))
end Go.Proofs.Ytlfmffjlmhpcdaa
