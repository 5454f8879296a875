/- The contracts of vec.both (an iterator over two vectors) and of vec.dist. -/
import Derived.Test.YtlfmffjlmhpcdaaVec
import Derived.RangeFuncNested
import Derived.RangeFuncBound
import Derived.RangeFuncCalls
import Derived.RangeFuncLeaves
import Derived.RangeFuncBox
import Derived.Shelf.RegionOpen
import Derived.OwnWalkIn
import Derived.TacticsInMore
import Derived.LoopNIn
import Derived.LoopIn
import Derived.Maps.AppendAt
namespace Go.Proofs.Ytlfmffjlmhpcdaa
open Go.RowKit Go.Shelf
set_option maxRecDepth 100000
attribute [local irreducible] Der
attribute [local go_sem] Oper.semAt_some

/-- All blocks below n but block g lie as they lay. -/
structure KeepBut (n g : Nat) (W W' : World) : Prop where
  size : W.heap.size ≤ W'.heap.size
  block : ∀ i, i < n → i ≠ g → W'.heap[i]? = W.heap[i]?
theorem KeepBut.refl (n g : Nat) (W : World) : KeepBut n g W W := ⟨Nat.le_refl _, fun _ _ _ => rfl⟩
theorem KeepBut.trans {n g : Nat} {A B C : World} (h : KeepBut n g A B) (k : KeepBut n g B C) : KeepBut n g A C := ⟨Nat.le_trans h.size k.size, fun i hi hg => (k.block i hi hg).trans (h.block i hi hg)⟩
theorem KeepBut.putObj {n g : Nat} {w : World} (hn : n ≤ w.heap.size) (W : World) (l : Nat) (o o' : Obj) (hl : w.heap.size ≤ l) (_ : W.heap[l]? = some o) (_ : o.isCells = false) (_ : o.isWalk = false) : KeepBut n g W (W.putObj l o') :=
  ⟨by simp [World.putObj], fun i hi _ => World.putObj_heap_other (by omega)⟩
theorem KeepBut.setCell {n g : Nat} {A W : World} (h : KeepBut n g A W) (o : Nat) (v : Value) : KeepBut n g A (W.setCell ⟨g, o, none⟩ v) :=
  h.trans ⟨by simp [World.setCell], fun i _ hg => Below.heap_setCell _ _ _ _ hg⟩
theorem KeepBut.cell {n g : Nat} {W W' : World} (h : KeepBut n g W W') {p : Addr} (h1 : p.block < n) (h2 : p.block ≠ g) : W'.cell? p = W.cell? p := World.cell?_of_block (w := W) (h.block p.block h1 h2)

/-- Components that may be. -/
abbrev Cmp2 := { p : Int × Int // (-1073741823 ≤ p.1 ∧ p.1 ≤ 1073741823) ∧ (-1073741823 ≤ p.2 ∧ p.2 ≤ 1073741823) }
def vals (zs : List Cmp2) : List (Int × Int) := zs.map (·.1)
/-- The two vectors lie there, and their boxes. -/
structure TwoV (B1 B2 : Nat) (v1 v2 : Value) (l m : List Int) (W : World) : Prop where
  c1 : W.cell? ⟨B1, 0, none⟩ = some v1
  c2 : W.cell? ⟨B2, 0, none⟩ = some v2
  r1 : VecV W v1 l
  r2 : VecV W v2 m
theorem take_vals {zs : List Cmp2} {k : Nat} (h : k < zs.length) : zs.take (k + 1) = zs.take k ++ [zs[k]] := List.take_succ_eq_append_getElem h

set_option maxHeartbeats 2000000 in
theorem both1_in (n : Nat) (hn : 1 ≤ n) (l0 B1 B2 : Nat) (v1 v2 : Value) (l m : List Int) (zs : List Cmp2) (hlen : l.length = m.length) (hz : vals zs = l.zip m) (Good : World → Prop) (hGood : ∀ W, Good W → TwoV B1 B2 v1 v2 l m W) (Kp : World → World → Prop) (hKp : ∀ W W', Kp W W' → Good W → Good W')
    (J Jx : List Cmp2 → World → Prop) (W : World)
    (hY : ∀ pre x W, J pre W → pre.length < zs.length → YieldAt Fence.wide (n - 1) Try.prog l0 #[.int .i64 x.1.1, .int .i64 x.1.2] W fun e W' =>
      (e = .returned (.bool true) ∧ J (pre ++ [x]) W' ∧ Kp W W') ∨ (e = .returned (.bool false) ∧ Jx (pre ++ [x]) W'))
    (hG' : Good W) (h0 : J [] W) :
    CallsIn Fence.wide n Try.prog 115 #[.func (.yield l0) #[] #[], .pointer (some ⟨B1, 0, none⟩), .pointer (some ⟨B2, 0, none⟩)] W fun e W' => (∃ v, e = .returned v) ∧
      ((∃ ys, ys = zs ∧ J ys W') ∨ (∃ pre, pre <+: zs ∧ Jx pre W')) := by
  have HY := Lib.hid hY
  have HK := Lib.hid hKp
  have HG := Lib.hid hG'
  have HGd := Lib.hid hGood
  have hG := hGood _ hG'
  have hzl : zs.length = l.length := by have := congrArg List.length hz; simp [vals, hlen] at this; omega
  have HZ := Lib.hid (fun k (h : k < zs.length) (h1 : k < l.length) (h2 : k < m.length) => (show zs[k].1.1 = l[k] ∧ zs[k].1.2 = m[k] by
    have e := congrArg (fun x : List (Int × Int) => x[k]?) hz
    simp only [vals, List.getElem?_map] at e
    rw [List.getElem?_eq_getElem h, List.getElem?_eq_getElem (by simp; omega)] at e
    simp at e
    exact ⟨by rw [e], by rw [e]⟩))
  obtain ⟨a, cap, rfl, hl, hm⟩ := hG.r1.form
  obtain ⟨a', cap', rfl, hl', hm'⟩ := hG.r2.form
  have b1 := hG.c1
  have b2 := hG.c2
  have HLen := Lib.hid hlen
  have HZL := Lib.hid hzl
  clear hY hKp hG hG' hGood hz hzl
  rw [← hlen] at b2 hl'
  refine callsIn_of_wp Try.func115 rfl trivial ?_ rfl
  simp only [Try.ntmps115, List.size_toArray, List.length_cons, List.length_nil, Nat.reduceAdd, Nat.reduceSub, Array.replicate_succ, Array.replicate_zero, List.push_toArray, List.append_toArray, List.nil_append, List.cons_append]
  clear hlen
  gi_wp2
  gi_loopw [8] (fun i wr => ∃ k : Nat, k ≤ l.length ∧ i = .int .i64 k ∧ J (zs.take k) wr ∧ Good wr) (fun i _ => l.length - (intOf i).toNat)
  case atStart => exact ⟨0, Nat.zero_le _, rfl, h0, HG.out⟩
  case round =>
    obtain ⟨k, hk, rfl, hJs, hgd⟩ := hrel
    have hg := HGd.out _ hgd
    by_cases hlt : k < l.length
    · have hm2 : k < m.length := by rw [← HLen.out]; exact hlt
      have hz2 : k < zs.length := by rw [HZL.out]; exact hlt
      obtain ⟨_, _, e1, -, -, hcell⟩ := hg.r1.open
      obtain ⟨_, _, e2, -, -, hcell'⟩ := hg.r2.open
      simp only [Value.slice.injEq] at e1 e2
      obtain ⟨rfl, -, rfl⟩ := e1
      obtain ⟨rfl, -, rfl⟩ := e2
      obtain ⟨g, off, rfl, hgl, g1⟩ := hcell k hlt
      obtain ⟨g', off', rfl, hgl', g2⟩ := hcell' k hm2
      have c2 := hg.c2
      have HGk := Lib.hid hgd
      obtain ⟨z1, z2⟩ := HZ.out k hz2 hlt hm2
      have HTk := Lib.hid (take_vals hz2)
      obtain ⟨fn, tmps, assign, body, hy, hR⟩ := HY.out _ zs[k] wr hJs (by simp; omega)
      have bd := zs[k].2
      rw [← z1] at g1
      rw [← z2] at g2
      rw [← HLen.out] at c2
      clear z1 z2 hcell hcell' hg hgd
      generalize zs[k] = z at *
      obtain ⟨⟨z1, z2⟩, hzb⟩ := z
      simp only at g1 g2 hy hR bd
      obtain ⟨⟨b1', b2'⟩, b3', b4'⟩ := bd
      have HTO := Lib.hid hm2
      clear hm2
      gi_wp2
      refine hR.mono ?_
      rintro e W3 (⟨rfl, hJ3, hk3⟩ | ⟨rfl, hJx3⟩)
      · rw [← HTk.out] at hJ3
        have HG3 := Lib.hid (HK.out _ _ hk3 HGk.out)
        clear hy hR hk3
        gi_wp2
        go_roundw
        case rel => exact ⟨k + 1, by omega, by go_num, hJ3, HG3.out⟩
        case measure => simp [intOf]; omega
      · gi_wp2
        refine bodyPost_ret (results_none rfl _ _ _) rfl ?_
        exact ⟨⟨_, rfl⟩, .inr ⟨_, by rw [← HTk.out]; exact List.take_prefix _ _, hJx3⟩⟩
    · obtain rfl : k = l.length := by omega
      have e : zs.take l.length = zs := by rw [← HZL.out, List.take_length]
      rw [e] at hJs
      clear e
      gi_wp2
      go_end0
      exact ⟨⟨_, rfl⟩, .inl ⟨_, rfl, hJs⟩⟩
/-- vec.both hands back a value over which a range gives two vectors' components, pair by pair. -/
theorem both_stops (n : Nat) (hn : 1 ≤ n) (B1 B2 : Nat) (v1 v2 : Value) (l m : List Int) (zs : List Cmp2) (hlen : l.length = m.length) (hz : vals zs = l.zip m) (Good : World → Prop) (hGood : ∀ W, Good W → TwoV B1 B2 v1 v2 l m W) (Kp : World → World → Prop) (hKp : ∀ W W', Kp W W' → Good W → Good W')
    (w : World) (hG : ∀ W, Below w.heap.size w W → Good W) :
    SeqStopsK Fence.wide n Try.prog 115 #[.pointer (some ⟨B1, 0, none⟩), .pointer (some ⟨B2, 0, none⟩)] (fun x : Cmp2 => #[Value.int .i64 x.1.1, Value.int .i64 x.1.2]) Kp (fun ys => ys = zs) (fun pre => pre <+: zs) zs.length w := fun l0 J Jx W hW _ _ hY hj =>
  both1_in n hn l0 B1 B2 v1 v2 l m zs hlen hz Good hGood Kp hKp J Jx W hY (hG W hW) hj
theorem f_both (a a' : Option Addr) (n n' c c' : Nat) (w : World) : Calls Try.prog 105 #[.slice a n c, .slice a' n' c'] w fun e w' => e = .returned (.func (.func 115) #[] #[.pointer (some ⟨w.heap.size, 0, none⟩), .pointer (some ⟨w.heap.size + 1, 0, none⟩)]) ∧ w' = (w.alloc (.cells #[.slice a n c] 56)).alloc (.cells #[.slice a' n' c'] 56) := by
  go_enter Try.func105, Try.ntmps105
  go_wp2
  go_ret
  exact ⟨rfl, rfl⟩
def sqs (zs : List Cmp2) : Int := (zs.map fun z => (z.1.1 - z.1.2) * (z.1.1 - z.1.2)).sum
theorem sqs_snoc (zs : List Cmp2) (z : Cmp2) : sqs (zs ++ [z]) = sqs zs + (z.1.1 - z.1.2) * (z.1.1 - z.1.2) := by simp [sqs]
theorem sq_bound {d : Int} (h0 : 0 ≤ d) (h1 : d ≤ 2147483646) : 0 ≤ d * d ∧ d * d ≤ 4611686009837453316 := by
  refine ⟨Int.mul_nonneg h0 h0, ?_⟩
  have := Int.mul_le_mul h1 h1 h0 (by omega)
  omega
theorem sqs_bound : ∀ zs : List Cmp2, 0 ≤ sqs zs ∧ sqs zs ≤ 4611686009837453316 * zs.length
  | [] => by simp [sqs]
  | z :: zs => by
    have ih := sqs_bound zs
    have hz := z.2
    have e : sqs (z :: zs) = (z.1.1 - z.1.2) * (z.1.1 - z.1.2) + sqs zs := by simp [sqs]
    have hb : 0 ≤ (z.1.1 - z.1.2) * (z.1.1 - z.1.2) ∧ (z.1.1 - z.1.2) * (z.1.1 - z.1.2) ≤ 4611686009837453316 := by
      by_cases h : 0 ≤ z.1.1 - z.1.2
      · exact sq_bound h (by omega)
      · have := sq_bound (d := -(z.1.1 - z.1.2)) (by omega) (by omega)
        rwa [Int.neg_mul_neg] at this
    rw [e, List.length_cons]
    omega
theorem dist_step (x y S : Int) (h1 : -1073741823 ≤ x) (h2 : x ≤ 1073741823) (h3 : -1073741823 ≤ y) (h4 : y ≤ 1073741823) (h5 : 0 ≤ S) (h6 : S ≤ 13835058029512359948) (h : ¬ x - y < y - x) : IntKind.u64.wrap (S + IntKind.u64.wrap ((x - y) * (x - y))) = S + (x - y) * (x - y) := by
  have := sq_bound (d := x - y) (by omega) (by omega)
  rw [IntKind.wrap_u64, IntKind.wrap_u64]; omega
theorem dist_step' (x y S : Int) (h1 : -1073741823 ≤ x) (h2 : x ≤ 1073741823) (h3 : -1073741823 ≤ y) (h4 : y ≤ 1073741823) (h5 : 0 ≤ S) (h6 : S ≤ 13835058029512359948) (h : x - y < y - x) : IntKind.u64.wrap (S + IntKind.u64.wrap ((y - x) * (y - x))) = S + (x - y) * (x - y) := by
  have := sq_bound (d := y - x) (by omega) (by omega)
  have e : (x - y) * (x - y) = (y - x) * (y - x) := by rw [← Int.neg_mul_neg, Int.neg_sub]
  rw [e, IntKind.wrap_u64, IntKind.wrap_u64]; omega
set_option maxHeartbeats 2000000 in
theorem dist_in (v u : Value) (l m : List Int) (zs : List Cmp2) (hz : vals zs = l.zip m) (hlen : l.length = m.length) (h4 : zs.length ≤ 4) (w : World) (h : VecV w v l) (h' : VecV w u m) :
    Calls Try.prog 65 #[v, u] w fun e w' => e = .returned (.int .u64 (sqs zs)) ∧ Below w.heap.size w w' := by
  obtain ⟨a, cap, rfl, hl, hm⟩ := h.form
  obtain ⟨a', cap', rfl, hl', hm'⟩ := h'.form
  have H := Lib.hid h
  have H' := Lib.hid h'
  have HZ := Lib.hid hz
  have HLen := Lib.hid hlen
  have HS := Lib.hid (fun zs z => sqs_snoc zs z)
  have HB := Lib.hid sqs_bound
  clear h h' hz hlen
  refine (callsIn_wide (n := 3)).1 ?_
  have h1 : 1 ≤ 3 := by omega
  refine callsIn_of_wp_marks Try.func65 rfl trivial ?_ rfl
  simp only [Try.ntmps65, List.size_toArray, List.length_cons, List.length_nil, Nat.reduceAdd, Nat.reduceSub, Array.replicate_succ, Array.replicate_zero, List.push_toArray, List.append_toArray, List.nil_append, List.cons_append]
  gi_wp2_with (refine ⟨trivial, ?_⟩; gi_at_call 105; refine (callsIn_wide.2 (f_both _ _ _ _ _ _ _)).mono ?_; rintro e w' ⟨rfl, rfl⟩)
  have bN : Boxed ((w.alloc (.cells #[.int .u64 0] 47)).alloc (.cells #[.slice a l.length cap] 56) |>.alloc (.cells #[.slice a' m.length cap'] 56)) w.heap.size 47 (.int .u64 0) := ((Boxed.new w 47 (.int .u64 0)).alloc _).alloc _
  have hB0 : Below w.heap.size w (((w.alloc (.cells #[.int .u64 0] 47)).alloc (.cells #[.slice a l.length cap] 56)).alloc (.cells #[.slice a' m.length cap'] 56)) := by ((repeat' (first | (with_reducible exact Below.refl _ _) | (with_reducible refine Below.setCell ?_ ?_ _) | (with_reducible refine Below.alloc ?_ ?_ _) | (with_reducible refine Below.drew ?_) | (with_reducible refine Below.trans ?_ (Below.mono (by assumption) ?_)) | go_size)))
  have hm0 : (((w.alloc (.cells #[.int .u64 0] 47)).alloc (.cells #[.slice a l.length cap] 56)).alloc (.cells #[.slice a' m.length cap'] 56)).cell? ⟨w.heap.size + 1, 0, none⟩ = some (.slice a l.length cap) := by go_simp
  have hm1 : (((w.alloc (.cells #[.int .u64 0] 47)).alloc (.cells #[.slice a l.length cap] 56)).alloc (.cells #[.slice a' m.length cap'] 56)).cell? ⟨w.heap.size + 1 + 1, 0, none⟩ = some (.slice a' m.length cap') := by go_simp
  obtain ⟨W3, hW3⟩ : ∃ W3, (((w.alloc (.cells #[.int .u64 0] 47)).alloc (.cells #[.slice a l.length cap] 56)).alloc (.cells #[.slice a' m.length cap'] 56)) = W3 := ⟨_, rfl⟩
  have hsz : W3.heap.size = w.heap.size + 3 := by rw [← hW3]; simp
  rw [hW3] at bN hB0 hm0 hm1 ⊢
  clear hW3
  have hgood : TwoV (w.heap.size + 1) (w.heap.size + 1 + 1) (.slice a l.length cap) (.slice a' m.length cap') l m W3 ∧ Below w.heap.size w W3 := ⟨⟨hm0, hm1, H.out.grown hB0, H'.out.grown hB0⟩, hB0⟩
  have hKeep : ∀ W W', KeepBut (w.heap.size + 3) w.heap.size W W' ∧ Below w.heap.size W W' → (TwoV (w.heap.size + 1) (w.heap.size + 1 + 1) (.slice a l.length cap) (.slice a' m.length cap') l m W ∧ Below w.heap.size w W) → (TwoV (w.heap.size + 1) (w.heap.size + 1 + 1) (.slice a l.length cap) (.slice a' m.length cap') l m W' ∧ Below w.heap.size w W') := by
    rintro W W' ⟨hk, hb⟩ ⟨hg, hB⟩
    have hB' := hB.trans hb
    exact ⟨⟨(hk.cell (p := ⟨w.heap.size + 1, 0, none⟩) (by simp) (by simp)).trans hg.c1, (hk.cell (p := ⟨w.heap.size + 1 + 1, 0, none⟩) (by simp) (by simp; omega)).trans hg.c2, H.out.grown hB', H'.out.grown hB'⟩, hB'⟩
  refine wpIn_rangeFunc_ownG rfl h1 (gf := 115) (lb := #[.pointer (some ⟨w.heap.size + 1, 0, none⟩), .pointer (some ⟨w.heap.size + 1 + 1, 0, none⟩)]) rfl trivial (enters_of Try.func115 (by kernel_rfl) rfl)
    (both_stops 2 (by omega) _ _ _ _ l m zs HLen.out HZ.out _ (fun _ h => h.1) _ hKeep W3 (fun W hW => ⟨⟨(hW.cell (p := ⟨w.heap.size + 1, 0, none⟩) (by simp; omega)).trans hm0, (hW.cell (p := ⟨w.heap.size + 1 + 1, 0, none⟩) (by simp; omega)).trans hm1, H.out.grown (hB0.trans (hW.mono (by omega))), H'.out.grown (hB0.trans (hW.mono (by omega)))⟩, hB0.trans (hW.mono (by omega))⟩))
    (fun h k => ⟨h.1.trans k.1, h.2.trans k.2⟩) (fun W l o o' hl h1 h2 h3 => ⟨KeepBut.putObj (by omega) W l o o' hl h1 h2 h3, belowK_b (by omega) W l o o' hl h1 h2 h3⟩) (Below.refl _ _) (fun _ => rfl)
    (fun (pre : List Cmp2) W => (W.cell? ⟨w.heap.size, 0, none⟩ = some (.int .u64 (sqs pre)) ∧ W.frozen? ⟨w.heap.size, 0, none⟩ = false) ∧ Below w.heap.size w W)
    (fun _ _ _ => False)
    (OwnFrom.and (Own.from (fun s A B row hs hg hr => ⟨cell_kept hs.1 hg hr, (frozen_kept hs.1 hg hr).trans hs.2⟩) _) (ownFrom_below (Nat.le_refl _) (by omega)))
    (fun _ _ _ _ _ hs _ _ => hs)
    ⟨⟨bN.cell, bN.frozen⟩, hB0⟩
    (fun x => { tmps := #[.slice a l.length cap, .slice a' m.length cap', undef, undef, .int .u64 0, .pointer (some ⟨w.heap.size, 0, none⟩), .int .i64 x.1.1, .int .i64 x.1.2, undef, .slice a l.length cap, .slice a' m.length cap', .func (.func 115) #[] #[.pointer (some ⟨w.heap.size + 1, 0, none⟩), .pointer (some ⟨w.heap.size + 1 + 1, 0, none⟩)], .int .i64 x.1.1, .int .i64 x.1.2, undef, undef, undef, undef, undef, undef, undef, undef, undef, undef, undef, undef, undef, undef], defers := [] }) ?assign ?body ?done ?stop
  case assign =>
    intro l x W K hK
    gi_wp2
    exact hK
  case body =>
    rintro l pre ⟨⟨x, y⟩, ⟨bx1, bx2⟩, by1, by2⟩ W ⟨⟨hc, hf⟩, hB⟩ hlt
    have hs1 := HS.out pre ⟨(x, y), ⟨bx1, bx2⟩, by1, by2⟩
    have hs2 := HB.out pre
    simp only at hs1 hc hf ⊢
    have hpl : (pre.length : Int) ≤ 3 := by omega
    simp only at bx1 bx2 by1 by2
    have HS1 := Lib.hid hs1
    clear hs1
    have HE := Lib.hid (dist_step x y (sqs pre) bx1 bx2 by1 by2 hs2.1 (by omega))
    have HE' := Lib.hid (dist_step' x y (sqs pre) bx1 bx2 by1 by2 hs2.1 (by omega))
    clear hs2
    by_cases hxy : x - y < y - x
    all_goals
      gi_wp2
      refine ⟨(KeepsOthers.setCell _ _ _).from _, ⟨(KeepBut.refl _ _ _).setCell _ _, (Below.refl w.heap.size W).setCell (p := ⟨w.heap.size, 0, none⟩) (Nat.le_refl _) _⟩, ⟨?_, ?_⟩, hB.setCell (p := ⟨w.heap.size, 0, none⟩) (Nat.le_refl _) _⟩
      · rw [HS1.out]
        refine (World.cell?_setCell_same' _ _ _ (by rw [hc]; rfl)).trans (congrArg some (congrArg (Value.int .u64) ?_))
        first | exact HE'.out hxy | exact HE.out hxy
      · rw [World.frozen?_setCell]; exact hf
  case done =>
    rintro D ys W hD rfl ⟨⟨hc, _⟩, hB⟩ hK
    gi_wp2
    refine ⟨by simp, .inl ⟨_, _, rfl, run_takeDeferred hK, ?_⟩⟩
    exact ⟨_, results_tmp rfl _ _ _, rfl, hB.trans (belowK_b (w := w) (Nat.le_refl _) W D _ _ (by omega) hK rfl rfl)⟩
  case stop =>
    rintro D c pre W _ _ h _
    exact h.elim
theorem vecOK_len {l : List Int} (h : vecOK l = true) : 1 ≤ l.length ∧ l.length ≤ 4 := by
  unfold vecOK at h; simp only [Bool.and_eq_true, decide_eq_true_eq] at h; exact ⟨h.1, h.2.1⟩
theorem vecOK_mem {l : List Int} (h : vecOK l = true) : ∀ x ∈ l, -1073741823 ≤ x ∧ x ≤ 1073741823 := by
  unfold vecOK at h
  simp only [Bool.and_eq_true, Bool.not_eq_true', List.any_eq_false, badI, Bool.or_eq_true, decide_eq_true_eq] at h
  intro x hx
  have := h.2.2 x hx
  omega
/-- The distance of two vectors. -/
def distL (l m : List Int) : Int := ((l.zip m).map fun p => (p.1 - p.2) * (p.1 - p.2)).sum
def cmps (l m : List Int) (hl : vecOK l = true) (hm : vecOK m = true) : List Cmp2 :=
  (l.zip m).attach.map fun ⟨p, hp⟩ => ⟨p, vecOK_mem hl p.1 (List.of_mem_zip hp).1, vecOK_mem hm p.2 (List.of_mem_zip hp).2⟩
theorem vals_cmps (l m : List Int) (hl : vecOK l = true) (hm : vecOK m = true) : vals (cmps l m hl hm) = l.zip m := by
  unfold vals cmps
  rw [List.map_map]
  exact (List.attach_map_subtype_val (l.zip m))
theorem sqs_vals (zs : List Cmp2) : sqs zs = ((vals zs).map fun p => (p.1 - p.2) * (p.1 - p.2)).sum := by
  unfold sqs vals; rw [List.map_map]; rfl
theorem f_dist (v u : Value) (l m : List Int) (hl : vecOK l = true) (hm : vecOK m = true) (hlen : l.length = m.length) (w : World) (h : VecV w v l) (h' : VecV w u m) :
    Calls Try.prog 65 #[v, u] w fun e w' => e = .returned (.int .u64 (distL l m)) ∧ Below w.heap.size w w' := by
  have hv := vals_cmps l m hl hm
  have hc : (cmps l m hl hm).length ≤ 4 := by
    have h1 := congrArg List.length hv
    have h2 := vecOK_len hl
    simp [vals] at h1
    omega
  have he : sqs (cmps l m hl hm) = distL l m := by rw [sqs_vals, hv]; rfl
  rw [← he]
  exact dist_in v u l m (cmps l m hl hm) hv hlen hc w h h'
theorem distL_bound {l m : List Int} (hl : vecOK l = true) (hm : vecOK m = true) : 0 ≤ distL l m ∧ distL l m < 18446744073709551616 := by
  have hv := vals_cmps l m hl hm
  have hc : (cmps l m hl hm).length ≤ 4 := by
    have h1 := congrArg List.length hv
    have h2 := vecOK_len hl
    simp [vals] at h1
    omega
  have he : sqs (cmps l m hl hm) = distL l m := by rw [sqs_vals, hv]; rfl
  have := sqs_bound (cmps l m hl hm)
  omega
end Go.Proofs.Ytlfmffjlmhpcdaa
