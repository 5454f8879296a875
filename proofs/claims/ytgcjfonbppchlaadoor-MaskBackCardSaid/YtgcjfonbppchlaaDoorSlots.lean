/- The iterator of a mask's slots: its contract. -/
import Derived.Test.YtgcjfonbppchlaaDoorTzW
import Derived.RangeFuncNested
import Derived.RangeFuncBound
import Derived.RangeFuncCalls
import Derived.RangeFuncLeaves
import Derived.RangeFuncBox
import Derived.Shelf.Abstract
import Derived.Shelf.RegionOpen
import Derived.OwnWalkIn
import Derived.TacticsInMore
import Derived.LoopNIn
import Derived.LoopIn
import Derived.Maps.AppendAt
namespace Go.Proofs.YtgcjfonbppchlaaDoor
open Go.RowKit Go.Shelf
set_option maxRecDepth 100000
attribute [local irreducible] Der
attribute [local go_sem] Oper.semAt_some

/-- What the first k words of a mask give. -/
def wordsL (m : M) (k : Nat) : List Int :=
  if k = 0 then [] else if k = 1 then (lowsL (m.1 &&& ones)).map (fun (i : Nat) => (i : Int)) else slotsK m 96
theorem wordsL_1 (m : M) : wordsL m 1 = wordsL m 0 ++ (lowsL (m.1 &&& ones)).map (fun (i : Nat) => (i : Int)) := by simp [wordsL]
theorem wordsL_2 (m : M) : wordsL m 2 = wordsL m 1 ++ (lowsL (m.2 &&& low32)).map (fun (i : Nat) => 64 + (i : Int)) := by
  have := slots_lows m
  simp only [wordsL, if_neg (show ¬ (2 = 0) by decide), if_neg (show ¬ (2 = 1) by decide), if_neg (show ¬ (1 = 0) by decide), if_true]
  rw [this]
  congr 1
theorem wordsL_pre (m : M) (k : Nat) (h : k ≤ 2) : wordsL m k <+: slotsK m 96 := by
  match k, h with
  | 0, _ => exact List.nil_prefix
  | 1, _ => rw [slots_lows]; exact ⟨_, rfl⟩
  | 2, _ => exact List.prefix_refl _
theorem U_pred (x : BitVec 64) : IntKind.u64.wrap (U x - 1) = U (x - 1#64) := by
  unfold U; rw [IntKind.wrap_u64, BitVec.toNat_sub]; have := x.isLt; simp; omega
theorem Tab.below {n₀ : Nat} {w w' : World} (h : Tab w) (h0 : 0 < n₀) (hb : Below n₀ w w') : Tab w' := fun i v hv => (hb.cell (p := ⟨0, i, none⟩) h0).trans (h i v hv)
theorem abides_below {β : Type} {B : Nat} {J : β → World → Prop} (hJ : AbidesFrom B J) {s : β} {W W' : World} (h : J s W) (hb : Below W.heap.size W W') : J s W' :=
  hJ s W W' none h ⟨hb.os, hb.tape, hb.output, hb.size, fun i hi _ => hb.block i hi⟩ (fun r e => by cases e)

set_option maxRecDepth 100000 in
set_option maxHeartbeats 2000000 in
theorem slots1_in (n : Nat) (hn : 1 ≤ n) (l Bm n₀ : Nat) (a b : BitVec 64) (J Jx : List Int → World → Prop) (W : World) (hJ : AbidesFrom W.heap.size J)
    (hY : ∀ pre x W, J pre W → pre.length < 97 → YieldAt Fence.wide (n - 1) Tryd.prog l #[.int .i64 x] W fun e W' =>
      (e = .returned (.bool true) ∧ J (pre ++ [x]) W' ∧ Below n₀ W W') ∨ (e = .returned (.bool false) ∧ Jx (pre ++ [x]) W'))
    (h0n : 0 < n₀) (hn₀ : n₀ ≤ W.heap.size) (hBm : Bm < W.heap.size) (hc0 : W.cell? ⟨Bm, 0, none⟩ = some (.int .u64 (U a))) (hc1 : W.cell? ⟨Bm, 1, none⟩ = some (.int .u64 (U b))) (ht : Tab W) (h0 : J [] W) :
    CallsIn Fence.wide n Tryd.prog 40 #[.func (.yield l) #[] #[], .pointer (some ⟨Bm, 0, none⟩)] W fun e W' => (∃ v, e = .returned v) ∧
      ((∃ ys, ys = slotsK (a, b) 96 ∧ J ys W') ∨ (∃ pre, pre <+: slotsK (a, b) 96 ∧ Jx pre W')) := by
  have HY := Lib.hid hY
  have HJ := Lib.hid hJ
  have HT := Lib.hid ht
  have HS1 := Lib.hid (wordsL_1 (a, b))
  have HS2 := Lib.hid (wordsL_2 (a, b))
  have HP := Lib.hid (fun k h => wordsL_pre (a, b) k h)
  have HL := Lib.hid (slotsK_le (a, b) 96)
  clear hY hJ ht
  refine callsIn_of_wp Tryd.func40 rfl trivial ?_ rfl
  simp only [Tryd.ntmps40, List.size_toArray, List.length_cons, List.length_nil, Nat.reduceAdd, Nat.reduceSub, Array.replicate_succ, Array.replicate_zero, List.push_toArray, List.append_toArray, List.nil_append, List.cons_append]
  gi_wp2
  refine wpIn_wide.2 ?_
  refine wp_grow [(1, .val (MV ones low32)), (2, .val (MV (a &&& ones) (b &&& low32)))] 4 (by kernel_rfl) (by kernel_rfl) (by rfl) (by rfl) ?_
  simp only [List.take_succ_cons, List.take_zero, List.drop_succ_cons, List.drop_zero]
  repeat (first
    | (apply Der.quiet; (rfl); (rfl); (intro w' hw' hctx; have hc' := bcell hw'; have y1 := fun o => hw'.cell (p := ⟨Bm, o, none⟩) hBm; clear hctx; go_simp; first | exact rfl | exact ⟨rfl, rfl⟩); simp only [Act.put, List.setIfInBounds_toArray, List.set_cons_succ, List.set_cons_zero, Nat.reduceAdd])
    | (apply Der.skip; (rfl); simp only [Act.put, List.setIfInBounds_toArray, List.set_cons_succ, List.set_cons_zero, Nat.reduceAdd]))
  apply Der.val
  · rfl
  · rfl
  · (intro w' hw' hctx; go_simp; refine (f_all _).mono ?_; rintro e w2 ⟨rfl, hb⟩; exact ⟨_, rfl, rfl, hb⟩)
  simp only [Act.put, List.setIfInBounds_toArray, List.set_cons_succ, List.set_cons_zero, Nat.reduceAdd]
  apply Der.val
  · rfl
  · rfl
  · (intro w' hw' hctx; go_simp; refine (f_and _ _ _ _ _).mono ?_; rintro e w2 ⟨rfl, hb⟩; exact ⟨_, rfl, rfl, hb⟩)
  simp only [Act.put, List.setIfInBounds_toArray, List.set_cons_succ, List.set_cons_zero, Nat.reduceAdd]
  repeat (first
    | (apply Der.quiet; (rfl); (rfl); (intro w' hw' hctx; have hc' := bcell hw'; have y1 := fun o => hw'.cell (p := ⟨Bm, o, none⟩) hBm; clear hctx; go_simp; first | exact rfl | exact ⟨rfl, rfl⟩); simp only [Act.put, List.setIfInBounds_toArray, List.set_cons_succ, List.set_cons_zero, Nat.reduceAdd])
    | (apply Der.skip; (rfl); simp only [Act.put, List.setIfInBounds_toArray, List.set_cons_succ, List.set_cons_zero, Nat.reduceAdd]))
  refine Der.nil (fun w2 hgw2 hctx => ?_)
  clear hctx
  have hb2 : Below _ _ w2 := hgw2
  clear hgw2
  have h02 : J [] w2 := abides_below HJ.out h0 (by ((have shb2 := hb2.size); (try simp at shb2); (repeat' (first | (with_reducible exact Below.refl _ _) | (with_reducible refine Below.setCell ?_ ?_ _) | (with_reducible refine Below.alloc ?_ ?_ _) | (with_reducible refine Below.drew ?_) | (with_reducible refine Below.trans ?_ (Below.mono hb2 ?_)) | go_size))))
  have hW2 : Below n₀ W w2 := ((Below.refl _ _).drew.trans hb2).mono hn₀
  have HT2 := Lib.hid ((HT.out).grown (by omega) (((Below.refl _ _).drew.trans hb2)))
  clear h0 hb2 HT HJ
  go_wp2
  gi_wp2
  gi_loopw [8] (fun i wr => ∃ (k : Nat) (z : Int), k ≤ 2 ∧ z = (k : Int) ∧ i = .int .i64 z ∧ J (wordsL (a, b) k) wr ∧ Below n₀ w2 wr)
    (fun i _ => 2 - (intOf i).toNat)
  case atStart => exact ⟨0, 0, by omega, rfl, rfl, h02, Below.refl _ _⟩
  case round =>
    obtain ⟨k, z, hk, hz, rfl, hJs, hnx⟩ := hrel
    by_cases hlt : k < 2
    · obtain ⟨wo, hwo⟩ : ∃ wo, wo = wr := ⟨_, rfl⟩
      subst hwo
      rcases (show k = 0 ∨ k = 1 by omega) with rfl | rfl
      · obtain rfl : z = 0 := hz
        gi_wp2
        gi_loopw [4] (fun v wr => ∃ (x : BitVec 64) (pre : List Int), v = .int .u64 (U x) ∧ wordsL (a, b) 1 = pre ++ (lowsL x).map (fun(i:Nat)=>(i:Int)) ∧ J pre wr ∧ Below n₀ w2 wr)
          (fun v _ => (lowsL (BitVec.ofInt 64 (intOf v))).length)
        case atStart => exact ⟨(a&&&ones), _, rfl, HS1.out, hJs, hnx⟩
        case round =>
          obtain ⟨x, pre, rfl, hpre, hJ2, hn2⟩ := hrel
          have HPre := Lib.hid hpre
          clear hpre
          by_cases hx0 : x = 0#64
          · subst hx0
            have HE : wordsL (a, b) 1 = pre := by rw [HPre.out, lowsL_zero]; simp
            have HE' := Lib.hid HE
            clear HE
            gi_wp2
            exact ⟨⟨1, 1, by omega, rfl, rfl, by rw [HE'.out]; exact hJ2, hn2⟩, by simp [intOf]⟩
          · obtain ⟨t, hl⟩ := lowAt_exists hx0
            have hx2 : (U x != 0) = true := by rw [bne, U_beq_zero]; simp [hx0]
            have HX0 := Lib.hid hx0
            clear hx0
            have ht := hl.1
            have HLow := Lib.hid hl
            clear hl
            obtain ⟨fn, tmps, assign, body, hy, hR⟩ := HY.out pre (t:Int) wr hJ2 (by have h1 := (HP.out 1 (by omega)).length_le; have h2 := HL.out; have h3 := congrArg List.length HPre.out; simp at h3; omega)
            gi_wp2_with (refine ⟨trivial, ?_⟩; gi_at_call 41; refine (callsIn_wide.2 (f_Trailing x t HLow.out _ (HT2.out.below h0n hn2))).mono ?_; rintro e w' ⟨rfl, rfl⟩)
            refine hR.mono ?_
            rintro e W3 (⟨rfl, hJ3, hk3⟩ | ⟨rfl, hJx3⟩)
            · gi_wp2
              clear hy hR
              go_roundw
              case rel => exact ⟨x &&& (x - 1#64), pre ++ [(t:Int)], by rw [U_pred, bits_and_U], by rw [HPre.out, lowsL_step HLow.out]; simp, hJ3, hn2.trans hk3⟩
              case measure => (rw [U_pred, bits_and_U]; simp only [intOf, ofInt_U]; rw [lowsL_step HLow.out]; simp)
            · gi_wp2
              refine bodyPost_ret (results_none rfl _ _ _) rfl ?_
              exact ⟨⟨_, rfl⟩, .inr ⟨pre ++ [(t:Int)], List.IsPrefix.trans ⟨(lowsL (x &&& (x - 1#64))).map (fun(i:Nat)=>(i:Int)), by rw [HPre.out, lowsL_step HLow.out]; simp⟩ (HP.out 1 (by omega)), hJx3⟩⟩
      · obtain rfl : z = 1 := hz
        gi_wp2
        gi_loopw [4] (fun v wr => ∃ (x : BitVec 64) (pre : List Int), v = .int .u64 (U x) ∧ wordsL (a, b) 2 = pre ++ (lowsL x).map (fun(i:Nat)=>64+(i:Int)) ∧ J pre wr ∧ Below n₀ w2 wr)
          (fun v _ => (lowsL (BitVec.ofInt 64 (intOf v))).length)
        case atStart => exact ⟨(b&&&low32), _, rfl, HS2.out, hJs, hnx⟩
        case round =>
          obtain ⟨x, pre, rfl, hpre, hJ2, hn2⟩ := hrel
          have HPre := Lib.hid hpre
          clear hpre
          by_cases hx0 : x = 0#64
          · subst hx0
            have HE : wordsL (a, b) 2 = pre := by rw [HPre.out, lowsL_zero]; simp
            have HE' := Lib.hid HE
            clear HE
            gi_wp2
            exact ⟨⟨2, 2, by omega, rfl, rfl, by rw [HE'.out]; exact hJ2, hn2⟩, by simp [intOf]⟩
          · obtain ⟨t, hl⟩ := lowAt_exists hx0
            have hx2 : (U x != 0) = true := by rw [bne, U_beq_zero]; simp [hx0]
            have HX0 := Lib.hid hx0
            clear hx0
            have ht := hl.1
            have HLow := Lib.hid hl
            clear hl
            obtain ⟨fn, tmps, assign, body, hy, hR⟩ := HY.out pre (64+(t:Int)) wr hJ2 (by have h1 := (HP.out 2 (by omega)).length_le; have h2 := HL.out; have h3 := congrArg List.length HPre.out; simp at h3; omega)
            gi_wp2_with (refine ⟨trivial, ?_⟩; gi_at_call 41; refine (callsIn_wide.2 (f_Trailing x t HLow.out _ (HT2.out.below h0n hn2))).mono ?_; rintro e w' ⟨rfl, rfl⟩)
            refine hR.mono ?_
            rintro e W3 (⟨rfl, hJ3, hk3⟩ | ⟨rfl, hJx3⟩)
            · gi_wp2
              clear hy hR
              go_roundw
              case rel => exact ⟨x &&& (x - 1#64), pre ++ [(64+(t:Int))], by rw [U_pred, bits_and_U], by rw [HPre.out, lowsL_step HLow.out]; simp, hJ3, hn2.trans hk3⟩
              case measure => (rw [U_pred, bits_and_U]; simp only [intOf, ofInt_U]; rw [lowsL_step HLow.out]; simp)
            · gi_wp2
              refine bodyPost_ret (results_none rfl _ _ _) rfl ?_
              exact ⟨⟨_, rfl⟩, .inr ⟨pre ++ [(64+(t:Int))], List.IsPrefix.trans ⟨(lowsL (x &&& (x - 1#64))).map (fun(i:Nat)=>64+(i:Int)), by rw [HPre.out, lowsL_step HLow.out]; simp⟩ (HP.out 2 (by omega)), hJx3⟩⟩
    · obtain rfl : k = 2 := by omega
      obtain rfl : z = 2 := hz
      gi_wp2
      go_end0
      exact ⟨⟨_, rfl⟩, .inl ⟨_, rfl, hJs⟩⟩

/-- mask.slots hands back a value over which a range gives a mask's slots, rising. -/
theorem slots_stops (n : Nat) (hn : 1 ≤ n) (Bm n₀ : Nat) (a b : BitVec 64) (w : World) (h0 : 0 < n₀) (hn₀ : n₀ ≤ w.heap.size) (hBm : Bm < w.heap.size)
    (hc0 : w.cell? ⟨Bm, 0, none⟩ = some (.int .u64 (U a))) (hc1 : w.cell? ⟨Bm, 1, none⟩ = some (.int .u64 (U b))) (ht : Tab w) :
    SeqStopsK Fence.wide n Tryd.prog 40 #[.pointer (some ⟨Bm, 0, none⟩)] (fun x : Int => #[Value.int .i64 x]) (Below n₀) (fun ys => ys = slotsK (a, b) 96) (fun pre => pre <+: slotsK (a, b) 96) 97 w := fun l J Jx W hW hJ _ hY hj =>
  slots1_in n hn l Bm n₀ a b J Jx W hJ hY h0 (by have := hW.size; omega) (by have := hW.size; omega) ((hW.cell (p := ⟨Bm, 0, none⟩) hBm).trans hc0) ((hW.cell (p := ⟨Bm, 1, none⟩) hBm).trans hc1) (ht.grown (by omega) hW) hj

theorem f_slots (a b : BitVec 64) (w : World) : Calls Tryd.prog 21 #[MV a b] w fun e w' => e = .returned (.func (.func 40) #[] #[.pointer (some ⟨w.heap.size, 0, none⟩)]) ∧ w' = w.alloc (.cells #[.int .u64 (U a), .int .u64 (U b)] 25) := by
  go_enter Tryd.func21, Tryd.ntmps21
  go_wp2
  go_ret
  exact ⟨rfl, rfl⟩
end Go.Proofs.YtgcjfonbppchlaaDoor
