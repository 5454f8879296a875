/- The contracts of the functions of package mask that work word by word: each, and, or, minus, all, below, slot, bit, Check. -/
import Derived.Test.YtgcjfonbppchlaaDoorProg
import Derived.Test.YtgcjfonbppchlaaDoorKit
import Derived.Test.YtgcjfonbppchlaaDoorRegion
import Derived.Laws.Bits128
namespace Go.Proofs.YtgcjfonbppchlaaDoor
open Go.RowKit
set_option maxRecDepth 100000

abbrev MV (a b : BitVec 64) : Value := .agg #[.int .u64 (U a), .int .u64 (U b)]

theorem c_andNot (a b : BitVec 64) (w : World) : Calls Tryd.prog 43 #[.int .u64 (U a), .int .u64 (U b)] w fun e w' => e = .returned (.int .u64 (U (a &&& ~~~b))) ∧ w' = w := by
  go_enter Tryd.func43, Tryd.ntmps43
  go_wp2
  go_ret
  exact ⟨by rw [← bits_andNot_U]; rfl, rfl⟩
theorem c_and (a b : BitVec 64) (w : World) : Calls Tryd.prog 42 #[.int .u64 (U a), .int .u64 (U b)] w fun e w' => e = .returned (.int .u64 (U (a &&& b))) ∧ w' = w := by
  go_enter Tryd.func42, Tryd.ntmps42
  go_wp2
  go_ret
  exact ⟨by rw [← bits_and_U]; rfl, rfl⟩
theorem c_or (a b : BitVec 64) (w : World) : Calls Tryd.prog 28 #[.int .u64 (U a), .int .u64 (U b)] w fun e w' => e = .returned (.int .u64 (U (a ||| b))) ∧ w' = w := by
  go_enter Tryd.func28, Tryd.ntmps28
  go_wp2
  go_ret
  exact ⟨by rw [← bits_or_U]; rfl, rfl⟩

set_option maxRecDepth 100000 in
set_option maxHeartbeats 1000000 in
theorem c_each (k : Nat) (eg : ∀ args w, (callFunc k args).run Tryd.prog w = .ok (.enter k args) w) (op : BitVec 64 → BitVec 64 → BitVec 64)
    (hc : ∀ x y w, Calls Tryd.prog k #[.int .u64 (U x), .int .u64 (U y)] w fun e w' => e = .returned (.int .u64 (U (op x y))) ∧ w' = w) (a b c d : BitVec 64) (w : World) :
    Calls Tryd.prog 27 #[MV a b, MV c d, .func (.func k) #[] #[]] w fun e w' => e = .returned (MV (op a c) (op b d)) ∧ Below w.heap.size w w' := by
  have Hc := Lib.hid hc
  clear hc
  go_enter Tryd.func27, Tryd.ntmps27
  go_wp2
  refine wp_loop_rounds 3 ?_
  rw [rounds_succ]
  go_wp2
  refine wp_tail 9 (by kernel_rfl) (by kernel_rfl) ?_
  simp only [List.take_succ_cons, List.take_zero, List.drop_succ_cons, List.drop_zero]
  repeat still_step
  still_call (Hc.out _ _ _)
  refine wpStill_nil ?_
  go_wp2
  rw [rounds_succ]
  go_wp2
  refine wp_tail 9 (by kernel_rfl) (by kernel_rfl) ?_
  simp only [List.take_succ_cons, List.take_zero, List.drop_succ_cons, List.drop_zero]
  repeat still_step
  still_call (Hc.out _ _ _)
  refine wpStill_nil ?_
  go_wp2
  rw [rounds_succ]
  go_wp2
  go_returns
  refine ⟨rfl, ?_⟩
  go_grown

end Go.Proofs.YtgcjfonbppchlaaDoor

/- The contracts of the functions of package mask that work on whole masks, but for the loops over rows of them. -/
namespace Go.Proofs.YtgcjfonbppchlaaDoor
open Go.RowKit
set_option maxRecDepth 100000

theorem mask_size (w : World) : (sizeOf 23).run Tryd.prog w = .ok 1 w := by kernel_rfl
theorem mask_agg (w : World) : (isAgg 23).run Tryd.prog w = .ok false w := by kernel_rfl
@[go_sem] theorem run_eq_mask (x y z t : Int) (w : World) : (Op.equalIn 10000 25 (.agg #[.int .u64 x, .int .u64 y]) (.agg #[.int .u64 z, .int .u64 t])).run Tryd.prog w = .ok (x == z && y == t) w :=
  run_equalIn_arr2 9998 25 23 .u64 .u64 x y z t w Tryd.underlying25 Tryd.underlying23 mask_size mask_agg

def ones : BitVec 64 := BitVec.allOnes 64
def low32 : BitVec 64 := 4294967295#64
/-- The lowest k bits of a word. -/
def lowBits (k : Int) : BitVec 64 := if 64 ≤ k then ones else if 0 < k then BitVec.ofNat 64 (2 ^ k.toNat - 1) else 0#64
theorem lowBits_big {k : Int} (h : 64 ≤ k) : lowBits k = ones := by unfold lowBits; rw [if_pos h]
theorem lowBits_neg {k : Int} (h : k ≤ 0) : lowBits k = 0#64 := by unfold lowBits; rw [if_neg (by omega), if_neg (by omega)]
theorem U_ones : U ones = 18446744073709551615 := by decide
theorem U_low {k : Int} (h0 : 0 < k) (h1 : k < 64) : IntKind.u64.wrap (IntKind.u64.wrap (2 ^ k.toNat) - 1) = U (lowBits k) := by
  have hp : (2 : Nat) ^ k.toNat < 2 ^ 64 := Nat.pow_lt_pow_right (by omega) (by omega)
  have hp1 : 1 ≤ (2 : Nat) ^ k.toNat := Nat.one_le_two_pow
  unfold lowBits U
  rw [if_neg (by omega), if_pos h0, BitVec.toNat_ofNat, Nat.mod_eq_of_lt (by omega), IntKind.wrap_u64, IntKind.wrap_u64]
  have e : ((2 : Int) ^ k.toNat) = ((2 ^ k.toNat : Nat) : Int) := by simp
  rw [e]
  generalize (2 : Nat) ^ k.toNat = x at *
  omega

/-- The word of a slot: the bit n modulo 64. -/
def bitW (n : Int) : BitVec 64 := BitVec.ofNat 64 (2 ^ (n % 64).toNat)
theorem U_bit (n : Int) : IntKind.u64.wrap (2 ^ (n % 64).toNat) = U (bitW n) := by
  unfold bitW U
  rw [BitVec.toNat_ofNat, IntKind.wrap_u64]
  have e : ((2 : Int) ^ (n % 64).toNat) = ((2 ^ (n % 64).toNat : Nat) : Int) := by simp
  rw [e]
  omega
def bit0 (n : Int) : BitVec 64 := if n < 64 then bitW n else 0#64
def bit1 (n : Int) : BitVec 64 := if n < 64 then 0#64 else bitW n

theorem f_minus (a b c d : BitVec 64) (w : World) : Calls Tryd.prog 24 #[MV a b, MV c d] w fun e w' => e = .returned (MV (a &&& ~~~c) (b &&& ~~~d)) ∧ Below w.heap.size w w' := by
  go_enter Tryd.func24, Tryd.ntmps24
  go_wp2_with (go_at_call 27; refine (c_each _ (enters_of Tryd.func43 (by kernel_rfl) rfl) _ c_andNot _ _ _ _ _).mono ?_; rintro e w1 ⟨rfl, hb1⟩; have z1w0 : w.heap.size < w1.heap.size := (by have := hb1.size; (try simp at this); omega); have q1w0 := fun o => hb1.cell (p := ⟨w.heap.size, o, none⟩) (by first | omega | (simp; done) | (simp; omega)); have r1w0 := fun o => hb1.frozen (p := ⟨w.heap.size, o, none⟩) (by first | omega | (simp; done) | (simp; omega)); have z1w1 : w.heap.size + 1 < w1.heap.size := (by have := hb1.size; (try simp at this); omega); have q1w1 := fun o => hb1.cell (p := ⟨w.heap.size + 1, o, none⟩) (by first | omega | (simp; done) | (simp; omega)); have r1w1 := fun o => hb1.frozen (p := ⟨w.heap.size + 1, o, none⟩) (by first | omega | (simp; done) | (simp; omega)); have z1w2 : w.heap.size + 1 + 1 < w1.heap.size := (by have := hb1.size; (try simp at this); omega); have q1w2 := fun o => hb1.cell (p := ⟨w.heap.size + 1 + 1, o, none⟩) (by first | omega | (simp; done) | (simp; omega)); have r1w2 := fun o => hb1.frozen (p := ⟨w.heap.size + 1 + 1, o, none⟩) (by first | omega | (simp; done) | (simp; omega)))
  refine bodyPost_ret (v := MV (a &&& ~~~c) (b &&& ~~~d)) (by simp only [results, Tryd.results24]; go_simp) rfl ⟨rfl, ?_⟩
  ((repeat' (first | (with_reducible exact Below.refl _ _) | (with_reducible refine Below.setCell ?_ ?_ _) | (with_reducible refine Below.alloc ?_ ?_ _) | (with_reducible refine Below.drew ?_) | (with_reducible refine Below.trans ?_ (Below.mono (by assumption) ?_)) | go_size)))
theorem f_and (a b c d : BitVec 64) (w : World) : Calls Tryd.prog 23 #[MV a b, MV c d] w fun e w' => e = .returned (MV (a &&& c) (b &&& d)) ∧ Below w.heap.size w w' := by
  go_enter Tryd.func23, Tryd.ntmps23
  go_wp2_with (go_at_call 27; refine (c_each _ (enters_of Tryd.func42 (by kernel_rfl) rfl) _ c_and _ _ _ _ _).mono ?_; rintro e w1 ⟨rfl, hb1⟩; have z1w0 : w.heap.size < w1.heap.size := (by have := hb1.size; (try simp at this); omega); have q1w0 := fun o => hb1.cell (p := ⟨w.heap.size, o, none⟩) (by first | omega | (simp; done) | (simp; omega)); have r1w0 := fun o => hb1.frozen (p := ⟨w.heap.size, o, none⟩) (by first | omega | (simp; done) | (simp; omega)); have z1w1 : w.heap.size + 1 < w1.heap.size := (by have := hb1.size; (try simp at this); omega); have q1w1 := fun o => hb1.cell (p := ⟨w.heap.size + 1, o, none⟩) (by first | omega | (simp; done) | (simp; omega)); have r1w1 := fun o => hb1.frozen (p := ⟨w.heap.size + 1, o, none⟩) (by first | omega | (simp; done) | (simp; omega)); have z1w2 : w.heap.size + 1 + 1 < w1.heap.size := (by have := hb1.size; (try simp at this); omega); have q1w2 := fun o => hb1.cell (p := ⟨w.heap.size + 1 + 1, o, none⟩) (by first | omega | (simp; done) | (simp; omega)); have r1w2 := fun o => hb1.frozen (p := ⟨w.heap.size + 1 + 1, o, none⟩) (by first | omega | (simp; done) | (simp; omega)))
  refine bodyPost_ret (v := MV (a &&& c) (b &&& d)) (by simp only [results, Tryd.results23]; go_simp) rfl ⟨rfl, ?_⟩
  ((repeat' (first | (with_reducible exact Below.refl _ _) | (with_reducible refine Below.setCell ?_ ?_ _) | (with_reducible refine Below.alloc ?_ ?_ _) | (with_reducible refine Below.drew ?_) | (with_reducible refine Below.trans ?_ (Below.mono (by assumption) ?_)) | go_size)))
theorem f_or (a b c d : BitVec 64) (w : World) : Calls Tryd.prog 17 #[MV a b, MV c d] w fun e w' => e = .returned (MV (a ||| c) (b ||| d)) ∧ Below w.heap.size w w' := by
  go_enter Tryd.func17, Tryd.ntmps17
  go_wp2_with (go_at_call 27; refine (c_each _ (enters_of Tryd.func28 (by kernel_rfl) rfl) _ c_or _ _ _ _ _).mono ?_; rintro e w1 ⟨rfl, hb1⟩; have z1w0 : w.heap.size < w1.heap.size := (by have := hb1.size; (try simp at this); omega); have q1w0 := fun o => hb1.cell (p := ⟨w.heap.size, o, none⟩) (by first | omega | (simp; done) | (simp; omega)); have r1w0 := fun o => hb1.frozen (p := ⟨w.heap.size, o, none⟩) (by first | omega | (simp; done) | (simp; omega)); have z1w1 : w.heap.size + 1 < w1.heap.size := (by have := hb1.size; (try simp at this); omega); have q1w1 := fun o => hb1.cell (p := ⟨w.heap.size + 1, o, none⟩) (by first | omega | (simp; done) | (simp; omega)); have r1w1 := fun o => hb1.frozen (p := ⟨w.heap.size + 1, o, none⟩) (by first | omega | (simp; done) | (simp; omega)); have z1w2 : w.heap.size + 1 + 1 < w1.heap.size := (by have := hb1.size; (try simp at this); omega); have q1w2 := fun o => hb1.cell (p := ⟨w.heap.size + 1 + 1, o, none⟩) (by first | omega | (simp; done) | (simp; omega)); have r1w2 := fun o => hb1.frozen (p := ⟨w.heap.size + 1 + 1, o, none⟩) (by first | omega | (simp; done) | (simp; omega)))
  refine bodyPost_ret (v := MV (a ||| c) (b ||| d)) (by simp only [results, Tryd.results17]; go_simp) rfl ⟨rfl, ?_⟩
  ((repeat' (first | (with_reducible exact Below.refl _ _) | (with_reducible refine Below.setCell ?_ ?_ _) | (with_reducible refine Below.alloc ?_ ?_ _) | (with_reducible refine Below.drew ?_) | (with_reducible refine Below.trans ?_ (Below.mono (by assumption) ?_)) | go_size)))
theorem f_below (n : Int) (h0 : 0 ≤ n) (h1 : n ≤ 9223372036854775807) (w : World) : Calls Tryd.prog 25 #[.int .i64 n] w fun e w' => e = .returned (MV (lowBits n) (lowBits (n - 64))) ∧ Below w.heap.size w w' := by
  go_enter Tryd.func25, Tryd.ntmps25
  go_wp2
  refine wp_loop_rounds 3 ?_
  rw [rounds_succ]
  go_wp2
  all_goals rw [rounds_succ]
  all_goals go_wp2
  all_goals rw [rounds_succ]
  all_goals go_wp2
  all_goals go_returns
  all_goals constructor
  · rw [lowBits_big (by omega), lowBits_big (k := n - 64) (by omega), MV, U_ones]
  · ((repeat' (first | (with_reducible exact Below.refl _ _) | (with_reducible refine Below.setCell ?_ ?_ _) | (with_reducible refine Below.alloc ?_ ?_ _) | (with_reducible refine Below.drew ?_) | (with_reducible refine Below.trans ?_ (Below.mono (by assumption) ?_)) | go_size)))
  · rw [lowBits_big (by omega), MV, U_ones, U_low (by omega) (by omega)]
  · ((repeat' (first | (with_reducible exact Below.refl _ _) | (with_reducible refine Below.setCell ?_ ?_ _) | (with_reducible refine Below.alloc ?_ ?_ _) | (with_reducible refine Below.drew ?_) | (with_reducible refine Below.trans ?_ (Below.mono (by assumption) ?_)) | go_size)))
  · rw [lowBits_big (by omega), lowBits_neg (by omega), MV, U_ones, U_zero]
  · ((repeat' (first | (with_reducible exact Below.refl _ _) | (with_reducible refine Below.setCell ?_ ?_ _) | (with_reducible refine Below.alloc ?_ ?_ _) | (with_reducible refine Below.drew ?_) | (with_reducible refine Below.trans ?_ (Below.mono (by assumption) ?_)) | go_size)))
  · rw [lowBits_neg (k := n - 64) (by omega), MV, U_zero, U_low (by omega) (by omega)]
  · ((repeat' (first | (with_reducible exact Below.refl _ _) | (with_reducible refine Below.setCell ?_ ?_ _) | (with_reducible refine Below.alloc ?_ ?_ _) | (with_reducible refine Below.drew ?_) | (with_reducible refine Below.trans ?_ (Below.mono (by assumption) ?_)) | go_size)))
  · rw [lowBits_neg (by omega), lowBits_neg (by omega), MV, U_zero]
  · ((repeat' (first | (with_reducible exact Below.refl _ _) | (with_reducible refine Below.setCell ?_ ?_ _) | (with_reducible refine Below.alloc ?_ ?_ _) | (with_reducible refine Below.drew ?_) | (with_reducible refine Below.trans ?_ (Below.mono (by assumption) ?_)) | go_size)))
theorem low_all : lowBits 96 = ones ∧ lowBits (96 - 64) = low32 := by decide
theorem f_all (w : World) : Calls Tryd.prog 22 #[] w fun e w' => e = .returned (MV ones low32) ∧ Below w.heap.size w w' := by
  go_enter Tryd.func22, Tryd.ntmps22
  go_wp2_with (go_at_call 25; refine (f_below _ (by omega) (by omega) _).mono ?_; rintro e w1 ⟨rfl, hb1⟩; have z1w0 : w.heap.size < w1.heap.size := (by have := hb1.size; (try simp at this); omega); have q1w0 := fun o => hb1.cell (p := ⟨w.heap.size, o, none⟩) (by first | omega | (simp; done) | (simp; omega)); have r1w0 := fun o => hb1.frozen (p := ⟨w.heap.size, o, none⟩) (by first | omega | (simp; done) | (simp; omega)))
  refine bodyPost_ret (v := MV (lowBits 96) (lowBits (96 - 64))) (by simp only [results, Tryd.results22]; go_simp) rfl ⟨rfl, ?_⟩
  ((repeat' (first | (with_reducible exact Below.refl _ _) | (with_reducible refine Below.setCell ?_ ?_ _) | (with_reducible refine Below.alloc ?_ ?_ _) | (with_reducible refine Below.drew ?_) | (with_reducible refine Below.trans ?_ (Below.mono (by assumption) ?_)) | go_size)))
theorem f_slot (n : Int) (w : World) : Calls Tryd.prog 16 #[.int .i64 n] w fun e w' => e = .returned (.bool (decide (0 ≤ n ∧ n < 96))) ∧ w' = w := by
  go_enter Tryd.func16, Tryd.ntmps16
  go_wp2
  all_goals go_ret
  · exact ⟨by simp; omega, rfl⟩
  · exact ⟨by simp; omega, rfl⟩
theorem f_bit (n : Int) (h0 : 0 ≤ n) (h1 : n < 96) (w : World) : Calls Tryd.prog 18 #[.int .i64 n] w fun e w' => e = .returned (MV (bit0 n) (bit1 n)) ∧ Below w.heap.size w w' := by
  by_cases hn : n < 64
  · have e1 : n / 64 = 0 := by omega
    go_enter Tryd.func18, Tryd.ntmps18
    go_wp2
    go_returns
    constructor
    · unfold bit0 bit1; rw [if_pos hn, if_pos hn, MV, U_zero, U_bit]
    · ((repeat' (first | (with_reducible exact Below.refl _ _) | (with_reducible refine Below.setCell ?_ ?_ _) | (with_reducible refine Below.alloc ?_ ?_ _) | (with_reducible refine Below.drew ?_) | (with_reducible refine Below.trans ?_ (Below.mono (by assumption) ?_)) | go_size)))
  · have e1 : n / 64 = 1 := by omega
    go_enter Tryd.func18, Tryd.ntmps18
    go_wp2
    go_returns
    constructor
    · unfold bit0 bit1; rw [if_neg (by omega), if_neg (by omega), MV, U_zero, U_bit]
    · ((repeat' (first | (with_reducible exact Below.refl _ _) | (with_reducible refine Below.setCell ?_ ?_ _) | (with_reducible refine Below.alloc ?_ ?_ _) | (with_reducible refine Below.drew ?_) | (with_reducible refine Below.trans ?_ (Below.mono (by assumption) ?_)) | go_size)))
/-- What Check answers. -/
def chk (b : BitVec 64) : Int := if b &&& ~~~low32 = 0#64 then 0 else 200
theorem and_ones (a : BitVec 64) : a &&& ~~~ones = 0#64 := by unfold ones; simp
theorem f_Not (a b : BitVec 64) (w : World) : Calls Tryd.prog 15 #[MV a b] w fun e w' => e = .returned (MV (ones &&& ~~~a) (low32 &&& ~~~b)) ∧ Below w.heap.size w w' := by
  go_enter Tryd.func15, Tryd.ntmps15
  go_wp2
  refine wp_grow [(0, .val (MV ones low32)), (2, .val (MV (ones &&& ~~~a) (low32 &&& ~~~b)))] 3 (by kernel_rfl) (by kernel_rfl) (by rfl) (by rfl) ?_
  simp only [List.take_succ_cons, List.take_zero, List.drop_succ_cons, List.drop_zero]
  apply Der.val
  · rfl
  · rfl
  · (intro w' hw' hctx; go_simp; refine (f_all _).mono ?_; rintro e w2 ⟨rfl, hb⟩; exact ⟨_, rfl, rfl, hb⟩)
  simp only [Act.put, List.setIfInBounds_toArray, List.set_cons_succ, List.set_cons_zero, Nat.reduceAdd]
  repeat (first
    | (apply Der.quiet; (rfl); (rfl); (intro w' hw' hctx; have hc' := bcell hw'; clear hctx; go_simp; first | exact rfl | exact ⟨rfl, rfl⟩); simp only [Act.put, List.setIfInBounds_toArray, List.set_cons_succ, List.set_cons_zero, Nat.reduceAdd])
    | (apply Der.skip; (rfl); simp only [Act.put, List.setIfInBounds_toArray, List.set_cons_succ, List.set_cons_zero, Nat.reduceAdd]))
  apply Der.val
  · rfl
  · rfl
  · (intro w' hw' hctx; go_simp; refine (f_minus _ _ _ _ _).mono ?_; rintro e w2 ⟨rfl, hb⟩; exact ⟨_, rfl, rfl, hb⟩)
  simp only [Act.put, List.setIfInBounds_toArray, List.set_cons_succ, List.set_cons_zero, Nat.reduceAdd]
  refine Der.nil (fun w2 hgw2 hctx => ?_)
  clear hctx
  have hb2 : Below _ _ w2 := hgw2
  clear hgw2
  have z2w0 : w.heap.size < w2.heap.size := (by have := hb2.size; (try simp at this); omega)
  have q2w0 := fun o => hb2.cell (p := ⟨w.heap.size, o, none⟩) (by first | omega | (simp; done) | (simp; omega))
  have r2w0 := fun o => hb2.frozen (p := ⟨w.heap.size, o, none⟩) (by first | omega | (simp; done) | (simp; omega))
  have z2w1 : w.heap.size + 1 < w2.heap.size := (by have := hb2.size; (try simp at this); omega)
  have q2w1 := fun o => hb2.cell (p := ⟨w.heap.size + 1, o, none⟩) (by first | omega | (simp; done) | (simp; omega))
  have r2w1 := fun o => hb2.frozen (p := ⟨w.heap.size + 1, o, none⟩) (by first | omega | (simp; done) | (simp; omega))
  go_wp2
  refine bodyPost_ret (v := MV (ones &&& ~~~a) (low32 &&& ~~~b)) (by simp only [results, Tryd.results15]; go_simp) rfl ⟨rfl, ?_⟩
  ((repeat' (first | (with_reducible exact Below.refl _ _) | (with_reducible refine Below.setCell ?_ ?_ _) | (with_reducible refine Below.alloc ?_ ?_ _) | (with_reducible refine Below.drew ?_) | (with_reducible refine Below.trans ?_ (Below.mono (by assumption) ?_)) | go_size)))
end Go.Proofs.YtgcjfonbppchlaaDoor

/- Rows of masks in memory, and the contracts of And, Or, Of over them. -/
namespace Go.Proofs.YtgcjfonbppchlaaDoor
open Go.RowKit
set_option maxRecDepth 100000

abbrev M := BitVec 64 × BitVec 64
def mAnd (m n : M) : M := (m.1 &&& n.1, m.2 &&& n.2)
def mOr (m n : M) : M := (m.1 ||| n.1, m.2 ||| n.2)
def mMinus (m n : M) : M := (m.1 &&& ~~~n.1, m.2 &&& ~~~n.2)
def mAll : M := (ones, low32)
def mZero : M := (0#64, 0#64)
def mBit (n : Int) : M := (bit0 n, bit1 n)
def andAll (l : List M) : M := l.foldl mAnd mAll
def orAll (l : List M) : M := l.foldl mOr mZero
def ofAll (l : List Int) : M := l.foldl (fun m n => mOr m (mBit n)) mZero

/-- The value is a slice, and its elements, n cells each, are these. -/
structure Sl (w : World) (v : Value) (len : Nat) (cs : List Value) : Prop where
  form : ∃ a cap, v = .slice a len cap ∧ len ≤ cap ∧ cap ≤ 9223372036854775807 ∧ (cs ≠ [] → ∃ b off, a = some ⟨b, off, none⟩ ∧ b < w.heap.size ∧ ∀ i (h : i < cs.length), w.cell? ⟨b, off + i, none⟩ = some cs[i])

theorem Sl.grown {w w' : World} {v : Value} {len : Nat} {cs : List Value} (h : Sl w v len cs) (hb : Below w.heap.size w w') : Sl w' v len cs := by
  obtain ⟨a, cap, hv, hl, hm, hc⟩ := h.form
  refine ⟨a, cap, hv, hl, hm, fun hne => ?_⟩
  obtain ⟨b, off, ha, hlt, hcell⟩ := hc hne
  exact ⟨b, off, ha, Nat.lt_of_lt_of_le hlt hb.size, fun i hi => (hb.cell (p := ⟨b, off + i, none⟩) hlt).trans (hcell i hi)⟩

def cellsM (l : List M) : List Value := l.flatMap fun m => [.int .u64 (U m.1), .int .u64 (U m.2)]
theorem cellsM_length (l : List M) : (cellsM l).length = 2 * l.length := by
  unfold cellsM; induction l with
  | nil => rfl
  | cons x l ih => simp [List.flatMap_cons, ih]; omega
theorem cellsM_get (l : List M) (i : Nat) (h : i < l.length) : (cellsM l)[2 * i]? = some (.int .u64 (U l[i].1)) ∧ (cellsM l)[2 * i + 1]? = some (.int .u64 (U l[i].2)) := by
  induction l generalizing i with
  | nil => simp at h
  | cons x l ih =>
    cases i with
    | zero => simp [cellsM]
    | succ i =>
      have := ih i (by simpa using h)
      have e : cellsM (x :: l) = Value.int .u64 (U x.1) :: Value.int .u64 (U x.2) :: cellsM l := by simp [cellsM]
      rw [e, show 2 * (i + 1) = 2 * i + 1 + 1 by omega]
      simpa using this
def Masks (w : World) (v : Value) (l : List M) : Prop := Sl w v l.length (cellsM l)
theorem Masks.at {w : World} {v : Value} {l : List M} (h : Masks w v l) (hne : l ≠ []) : ∃ b off cap, v = .slice (some ⟨b, off, none⟩) l.length cap ∧ l.length ≤ cap ∧ cap ≤ 9223372036854775807 ∧ b < w.heap.size ∧
    ∀ i (hi : i < l.length), w.cell? ⟨b, off + i * 2, none⟩ = some (.int .u64 (U l[i].1)) ∧ w.cell? ⟨b, off + i * 2 + 1, none⟩ = some (.int .u64 (U l[i].2)) := by
  obtain ⟨a, cap, hv, hl, hm, hc⟩ := h.form
  have hne' : cellsM l ≠ [] := by
    intro e; have := cellsM_length l; rw [e] at this; simp at this
    exact hne (List.eq_nil_of_length_eq_zero (by omega))
  obtain ⟨b, off, rfl, hlt, hcell⟩ := hc hne'
  refine ⟨b, off, cap, hv, hl, hm, hlt, fun i hi => ?_⟩
  have hlen := cellsM_length l
  obtain ⟨g1, g2⟩ := cellsM_get l i hi
  have c1 := hcell (2 * i) (by omega)
  have c2 := hcell (2 * i + 1) (by omega)
  rw [List.getElem?_eq_getElem (by omega)] at g1 g2
  rw [show off + i * 2 = off + 2 * i by omega, show off + 2 * i + 1 = off + (2 * i + 1) by omega]
  exact ⟨c1.trans g1, c2.trans g2⟩
theorem Masks.nil {w : World} {v : Value} (h : Masks w v []) : ∃ a cap, v = .slice a 0 cap := by
  obtain ⟨a, cap, hv, _⟩ := h.form
  exact ⟨a, cap, hv⟩

theorem foldl_take_succ {α β : Type} (f : β → α → β) (z : β) (l : List α) (k : Nat) (h : k < l.length) : (l.take (k + 1)).foldl f z = f ((l.take k).foldl f z) l[k] := by
  rw [List.take_succ_eq_append_getElem h, List.foldl_append]; rfl

theorem Masks.open {w : World} {v : Value} {l : List M} (h : Masks w v l) : ∃ a cap, v = .slice a l.length cap ∧ l.length ≤ cap ∧ cap ≤ 9223372036854775807 ∧
    ∀ i (hi : i < l.length), ∃ b off, a = some ⟨b, off, none⟩ ∧ b < w.heap.size ∧ w.cell? ⟨b, off + i * 2, none⟩ = some (.int .u64 (U l[i].1)) ∧ w.cell? ⟨b, off + i * 2 + 1, none⟩ = some (.int .u64 (U l[i].2)) := by
  obtain ⟨a, cap, hv, hl, hm, hc⟩ := h.form
  refine ⟨a, cap, hv, hl, hm, fun i hi => ?_⟩
  have hne : l ≠ [] := by intro e; subst e; simp at hi
  obtain ⟨b, off, cap', hv', _, _, hlt, hcell⟩ := h.at hne
  rw [hv] at hv'
  simp only [Value.slice.injEq] at hv'
  exact ⟨b, off, hv'.1, hlt, hcell i hi⟩

def Ints (w : World) (v : Value) (l : List Int) : Prop := Sl w v l.length (l.map (Value.int .i64))
theorem Ints.open {w : World} {v : Value} {l : List Int} (h : Ints w v l) : ∃ a cap, v = .slice a l.length cap ∧ l.length ≤ cap ∧ cap ≤ 9223372036854775807 ∧
    ∀ i (hi : i < l.length), ∃ b off, a = some ⟨b, off, none⟩ ∧ b < w.heap.size ∧ w.cell? ⟨b, off + i, none⟩ = some (.int .i64 l[i]) := by
  obtain ⟨a, cap, hv, hl, hm, hc⟩ := h.form
  refine ⟨a, cap, hv, hl, hm, fun i hi => ?_⟩
  obtain ⟨b, off, ha, hlt, hcell⟩ := hc (by intro e; simp at e; subst e; simp at hi)
  exact ⟨b, off, ha, hlt, (hcell i (by simpa using hi)).trans (by simp)⟩
theorem Masks.grown {w w' : World} {v : Value} {l : List M} (h : Masks w v l) (hb : Below w.heap.size w w') : Masks w' v l := Sl.grown h hb
theorem Ints.grown {w w' : World} {v : Value} {l : List Int} (h : Ints w v l) (hb : Below w.heap.size w w') : Ints w' v l := Sl.grown h hb

set_option maxHeartbeats 400000 in
theorem f_And (v : Value) (l : List M) (w : World) (h : Masks w v l) : Calls Tryd.prog 10 #[v] w fun e w' => e = .returned (MV (andAll l).1 (andAll l).2) ∧ Below w.heap.size w w' := by
  obtain ⟨a, cap, rfl, hl, hm, hcell⟩ := h.open
  have Hcell := Lib.hid hcell
  clear hcell h
  go_enter Tryd.func10, Tryd.ntmps10
  go_wp2_with (go_at_call 22; refine (f_all _).mono ?_; rintro e w1 ⟨rfl, hb1⟩; have z1w0 : w.heap.size < w1.heap.size := (by have := hb1.size; (try simp at this); omega); have q1w0 := fun o => hb1.cell (p := ⟨w.heap.size, o, none⟩) (by first | omega | (simp; done) | (simp; omega)); have r1w0 := fun o => hb1.frozen (p := ⟨w.heap.size, o, none⟩) (by first | omega | (simp; done) | (simp; omega)))
  go_loopw [9] (fun i wr => ∃ k : Nat, k ≤ l.length ∧ i = .int .i64 k ∧ wr.cell? ⟨w1.heap.size, 0, none⟩ = some (.int .u64 (U ((l.take k).foldl mAnd mAll).1)) ∧ wr.cell? ⟨w1.heap.size, 1, none⟩ = some (.int .u64 (U ((l.take k).foldl mAnd mAll).2)) ∧
      wr.frozen? ⟨w1.heap.size, 0, none⟩ = false ∧ wr.frozen? ⟨w1.heap.size, 1, none⟩ = false ∧ Below w1.heap.size w1 wr ∧ w1.heap.size < wr.heap.size) (fun i _ => l.length - (intOf i).toNat)
  case atStart => exact ⟨0, Nat.zero_le _, rfl, by simp [mAll], by simp [mAll], by simp, by simp, (Below.refl _ _).alloc (Nat.le_refl _) _, by simp⟩
  case round =>
    obtain ⟨k, hk, rfl, hc0, hc1', hf0, hf1, hbr, hz⟩ := hrel
    have hB : Below w.heap.size w wr := by ((have shbr := hbr.size); (try simp at shbr); (have shb1 := hb1.size); (try simp at shb1); (repeat' (first | (with_reducible exact Below.refl _ _) | (with_reducible refine Below.setCell ?_ ?_ _) | (with_reducible refine Below.alloc ?_ ?_ _) | (with_reducible refine Below.drew ?_) | (with_reducible refine Below.trans ?_ (Below.mono hbr ?_)) | (with_reducible refine Below.trans ?_ (Below.mono hb1 ?_)) | go_size)))
    have zrw0 : w.heap.size < wr.heap.size := (by have := hbr.size; (try simp at this); omega)
    have qrw0 := fun o => hbr.cell (p := ⟨w.heap.size, o, none⟩) (by first | omega | (simp; done) | (simp; omega))
    have rrw0 := fun o => hbr.frozen (p := ⟨w.heap.size, o, none⟩) (by first | omega | (simp; done) | (simp; omega))
    by_cases hlt2 : k < l.length
    · obtain ⟨b, off, rfl, hlt, g1, g2⟩ := Hcell.out k hlt2
      have e1 := (hB.cell (p := ⟨b, off + k * 2, none⟩) hlt).trans g1
      have e2 := (hB.cell (p := ⟨b, off + k * 2 + 1, none⟩) hlt).trans g2
      have hstep := Lib.hid (foldl_take_succ mAnd mAll l k hlt2)
      clear g1 g2
      generalize hX : (l.take k).foldl mAnd mAll = X at *
      go_wp2_with (go_at_call 23; refine (f_and _ _ _ _ _).mono ?_; rintro e w2 ⟨rfl, hb2⟩; have z2wr0 : wr.heap.size < w2.heap.size := (by have := hb2.size; (try simp at this); omega); have q2wr0 := fun o => hb2.cell (p := ⟨wr.heap.size, o, none⟩) (by first | omega | (simp; done) | (simp; omega)); have r2wr0 := fun o => hb2.frozen (p := ⟨wr.heap.size, o, none⟩) (by first | omega | (simp; done) | (simp; omega)); have z2w10 : w1.heap.size < w2.heap.size := (by have := hb2.size; (try simp at this); omega); have q2w10 := fun o => hb2.cell (p := ⟨w1.heap.size, o, none⟩) (by first | omega | (simp; done) | (simp; omega)); have r2w10 := fun o => hb2.frozen (p := ⟨w1.heap.size, o, none⟩) (by first | omega | (simp; done) | (simp; omega)))
      go_roundw
      case rel =>
        refine ⟨k + 1, by omega, by go_num, ?_, ?_, ?_, ?_, ?_, ?_⟩
        · rw [hstep.out]; go_simp; rfl
        · rw [hstep.out]; go_simp; rfl
        · go_simp
        · go_simp
        · ((have shb2 := hb2.size); (try simp at shb2); (have shbr := hbr.size); (try simp at shbr); (repeat' (first | (with_reducible exact Below.refl _ _) | (with_reducible refine Below.setCell ?_ ?_ _) | (with_reducible refine Below.alloc ?_ ?_ _) | (with_reducible refine Below.drew ?_) | (with_reducible refine Below.trans ?_ (Below.mono hb2 ?_)) | (with_reducible refine Below.trans ?_ (Below.mono hbr ?_)) | go_size)))
        · simp; omega
      case measure => simp [intOf]; omega
    · have : k = l.length := by omega
      subst this
      rw [List.take_length] at hc0 hc1'
      go_wp2
      refine bodyPost_ret (v := MV (l.foldl mAnd mAll).1 (l.foldl mAnd mAll).2) (by simp only [results, Tryd.results10]; go_simp) rfl ⟨rfl, ?_⟩
      ((have shB := hB.size); (try simp at shB); (repeat' (first | (with_reducible exact Below.refl _ _) | (with_reducible refine Below.setCell ?_ ?_ _) | (with_reducible refine Below.alloc ?_ ?_ _) | (with_reducible refine Below.drew ?_) | (with_reducible refine Below.trans ?_ (Below.mono hB ?_)) | go_size)))

def orF (l : List M) : M := mAnd (orAll l) mAll
def isSlot (n : Int) : Prop := 0 ≤ n ∧ n < 96
instance (n : Int) : Decidable (isSlot n) := by unfold isSlot; infer_instance
/-- What Of answers. -/
def ofF (l : List Int) : M × Int := if ∀ x ∈ l, isSlot x then (ofAll l, 0) else (mZero, 2)
def OfPost (l : List Int) (e : Ending) : Prop := e = .returned (.tuple #[MV (ofF l).1.1 (ofF l).1.2, .int .i64 (ofF l).2])
theorem ofPost_bad {l : List Int} {k : Nat} (hk : k < l.length) (h : ¬ isSlot l[k]) : OfPost l (.returned (.tuple #[.agg #[.int .u64 0, .int .u64 0], .int .i64 2])) := by
  have : ofF l = (mZero, 2) := by
    unfold ofF; rw [if_neg]; intro hall; exact h (hall _ (List.getElem_mem hk))
  unfold OfPost; rw [this]; simp only [mZero, MV, U_zero]
theorem ofPost_ok {l : List Int} (h : ∀ x ∈ l, isSlot x) : OfPost l (.returned (.tuple #[MV (ofAll l).1 (ofAll l).2, .int .i64 0])) := by
  have : ofF l = (ofAll l, 0) := by unfold ofF; rw [if_pos h]
  unfold OfPost; rw [this]
theorem ofAll_snoc (l : List Int) (k : Nat) (h : k < l.length) : ofAll (l.take (k + 1)) = mOr (ofAll (l.take k)) (mBit l[k]) := by
  unfold ofAll; exact foldl_take_succ (fun m n => mOr m (mBit n)) mZero l k h

theorem all_snoc {α : Type} {P : α → Prop} {l : List α} {k : Nat} (h : k < l.length) {y : α} (hy : l[k] = y) (h1 : ∀ x ∈ l.take k, P x) (h2 : P y) : ∀ x ∈ l.take (k + 1), P x := by
  rw [List.take_succ_eq_append_getElem h, hy]
  intro x hx
  rcases List.mem_append.1 hx with hx | hx
  · exact h1 x hx
  · simp at hx; subst hx; exact h2

set_option maxHeartbeats 400000 in
theorem f_Of (v : Value) (l : List Int) (w : World) (h : Ints w v l) : Calls Tryd.prog 5 #[v] w fun e w' => OfPost l e ∧ Below w.heap.size w w' := by
  obtain ⟨a, cap, rfl, hl, hm, hcell⟩ := h.open
  have Hcell := Lib.hid hcell
  clear hcell h
  go_enter Tryd.func5, Tryd.ntmps5
  go_wp2
  go_loopw [9] (fun i wr => ∃ k : Nat, k ≤ l.length ∧ i = .int .i64 k ∧ (∀ x ∈ l.take k, isSlot x) ∧ wr.cell? ⟨w.heap.size + 1, 0, none⟩ = some (.int .u64 (U (ofAll (l.take k)).1)) ∧ wr.cell? ⟨w.heap.size + 1, 1, none⟩ = some (.int .u64 (U (ofAll (l.take k)).2)) ∧
      wr.frozen? ⟨w.heap.size + 1, 0, none⟩ = false ∧ wr.frozen? ⟨w.heap.size + 1, 1, none⟩ = false ∧
      Below (w.heap.size + 1) (w.alloc (.cells #[.int .u64 0, .int .u64 0] 25)) wr ∧ w.heap.size + 1 < wr.heap.size) (fun i _ => l.length - (intOf i).toNat)
  case atStart => exact ⟨0, Nat.zero_le _, rfl, by simp, by simp [ofAll, mZero, U_zero], by simp [ofAll, mZero, U_zero], by simp, by simp, (Below.refl _ _).alloc (by simp) _, by simp⟩
  case round =>
    obtain ⟨k, hk, rfl, hall, hc0, hc1', hf0, hf1, hbr, hz⟩ := hrel
    have hB : Below w.heap.size w wr := by ((have shbr := hbr.size); (try simp at shbr); (repeat' (first | (with_reducible exact Below.refl _ _) | (with_reducible refine Below.setCell ?_ ?_ _) | (with_reducible refine Below.alloc ?_ ?_ _) | (with_reducible refine Below.drew ?_) | (with_reducible refine Below.trans ?_ (Below.mono hbr ?_)) | go_size)))
    have zrw0 : w.heap.size < wr.heap.size := (by have := hbr.size; (try simp at this); omega)
    have qrw0 := fun o => hbr.cell (p := ⟨w.heap.size, o, none⟩) (by first | omega | (simp; done) | (simp; omega))
    have rrw0 := fun o => hbr.frozen (p := ⟨w.heap.size, o, none⟩) (by first | omega | (simp; done) | (simp; omega))
    have Hall := Lib.hid hall
    clear hall
    by_cases hlt2 : k < l.length
    · obtain ⟨b, off, rfl, hlt, g1⟩ := Hcell.out k hlt2
      have e1 := (hB.cell (p := ⟨b, off + k, none⟩) hlt).trans g1
      have hstep := Lib.hid (ofAll_snoc l k hlt2)
      clear g1
      generalize hX : ofAll (l.take k) = X at *
      by_cases hs : isSlot l[k]
      · have hs' : 0 ≤ l[k] ∧ l[k] < 96 := hs
        have Hs := Lib.hid hs
        clear hs
        have hd : (decide (0 ≤ l[k] ∧ l[k] < 96)) = true := decide_eq_true hs'
        generalize hy : l[k] = y at *
        go_wp2_with (go_at_call 16; refine (f_slot _ _).mono ?_; rintro e wx ⟨rfl, rfl⟩; rw [hd])
        refine wp_grow [(2, .val (MV (bit0 y) (bit1 y))), (3, .val (MV (X.1 ||| bit0 y) (X.2 ||| bit1 y)))] 4 (by kernel_rfl) (by kernel_rfl) (by rfl) (by rfl) ?_
        simp only [List.take_succ_cons, List.take_zero, List.drop_succ_cons, List.drop_zero]
        repeat (first
          | (apply Der.quiet; (rfl); (rfl); (intro w' hw' hctx; have hc' := bcell hw'; have qs := fun o => hw'.cell (p := ⟨w.heap.size + 1, o, none⟩) (by simp; omega); clear hctx; go_simp; first | exact rfl | exact ⟨rfl, rfl⟩); simp only [Act.put, List.setIfInBounds_toArray, List.set_cons_succ, List.set_cons_zero, Nat.reduceAdd])
          | (apply Der.skip; (rfl); simp only [Act.put, List.setIfInBounds_toArray, List.set_cons_succ, List.set_cons_zero, Nat.reduceAdd]))
        apply Der.val
        · rfl
        · rfl
        · (intro w' hw' hctx; go_simp; refine (f_bit y (by omega) (by omega) _).mono ?_; rintro e w2 ⟨rfl, hb⟩; exact ⟨_, rfl, rfl, hb⟩)
        simp only [Act.put, List.setIfInBounds_toArray, List.set_cons_succ, List.set_cons_zero, Nat.reduceAdd]
        apply Der.val
        · rfl
        · rfl
        · (intro w' hw' hctx; go_simp; refine (f_or _ _ _ _ _).mono ?_; rintro e w2 ⟨rfl, hb⟩; exact ⟨_, rfl, rfl, hb⟩)
        simp only [Act.put, List.setIfInBounds_toArray, List.set_cons_succ, List.set_cons_zero, Nat.reduceAdd]
        refine Der.nil (fun w2 hgw2 hctx => ?_)
        clear hctx
        have hb2 : Below _ _ w2 := hgw2
        clear hgw2
        have z2w0 : w.heap.size < w2.heap.size := (by have := hb2.size; (try simp at this); omega)
        have q2w0 := fun o => hb2.cell (p := ⟨w.heap.size, o, none⟩) (by first | omega | (simp; done) | (simp; omega))
        have r2w0 := fun o => hb2.frozen (p := ⟨w.heap.size, o, none⟩) (by first | omega | (simp; done) | (simp; omega))
        have z2w1 : w.heap.size + 1 < w2.heap.size := (by have := hb2.size; (try simp at this); omega)
        have q2w1 := fun o => hb2.cell (p := ⟨w.heap.size + 1, o, none⟩) (by first | omega | (simp; done) | (simp; omega))
        have r2w1 := fun o => hb2.frozen (p := ⟨w.heap.size + 1, o, none⟩) (by first | omega | (simp; done) | (simp; omega))
        go_wp2
        go_roundw
        case rel =>
          refine ⟨k + 1, by omega, by go_num, all_snoc hlt2 hy Hall.out Hs.out, ?_, ?_, ?_, ?_, ?_, ?_⟩
          · rw [hstep.out]; go_simp; rfl
          · rw [hstep.out]; go_simp; rfl
          · go_simp
          · go_simp
          · ((have shb2 := hb2.size); (try simp at shb2); (have shbr := hbr.size); (try simp at shbr); (repeat' (first | (with_reducible exact Below.refl _ _) | (with_reducible refine Below.setCell ?_ ?_ _) | (with_reducible refine Below.alloc ?_ ?_ _) | (with_reducible refine Below.drew ?_) | (with_reducible refine Below.trans ?_ (Below.mono hb2 ?_)) | (with_reducible refine Below.trans ?_ (Below.mono hbr ?_)) | go_size)))
          · simp; omega
        case measure => simp [intOf]; omega
      · have Hs := Lib.hid (ofPost_bad hlt2 hs)
        have hd : (decide (0 ≤ l[k] ∧ l[k] < 96)) = false := decide_eq_false hs
        clear hs hstep
        generalize hy : l[k] = y at *
        go_wp2_with (go_at_call 16; refine (f_slot _ _).mono ?_; rintro e wx ⟨rfl, rfl⟩; rw [hd])
        refine bodyPost_ret (v := .tuple #[.agg #[.int .u64 0, .int .u64 0], .int .i64 2]) (by simp only [results, Tryd.results5]; go_simp) rfl ⟨Hs.out, ?_⟩
        ((have shB := hB.size); (try simp at shB); (repeat' (first | (with_reducible exact Below.refl _ _) | (with_reducible refine Below.setCell ?_ ?_ _) | (with_reducible refine Below.alloc ?_ ?_ _) | (with_reducible refine Below.drew ?_) | (with_reducible refine Below.trans ?_ (Below.mono hB ?_)) | go_size)))
    · have : k = l.length := by omega
      subst this
      rw [List.take_length] at hc0 hc1' Hall
      have Hp := Lib.hid (ofPost_ok Hall.out)
      generalize hX : ofAll l = X at *
      go_wp2
      refine bodyPost_ret (v := .tuple #[MV X.1 X.2, .int .i64 0]) (by simp only [results, Tryd.results5]; go_simp) rfl ⟨Hp.out, ?_⟩
      ((have shB := hB.size); (try simp at shB); (repeat' (first | (with_reducible exact Below.refl _ _) | (with_reducible refine Below.setCell ?_ ?_ _) | (with_reducible refine Below.alloc ?_ ?_ _) | (with_reducible refine Below.drew ?_) | (with_reducible refine Below.trans ?_ (Below.mono hB ?_)) | go_size)))
end Go.Proofs.YtgcjfonbppchlaaDoor

/- The contracts of Range, Minus, with, With, Without, Count, Place and math/bits.OnesCount64. -/
namespace Go.Proofs.YtgcjfonbppchlaaDoor
open Go.RowKit
set_option maxRecDepth 100000

/-- The words of OnesCount64's text, kept from simp. -/
def shrW (n : Nat) (a : BitVec 64) : BitVec 64 := a >>> n
def andW (c : Nat) (a : BitVec 64) : BitVec 64 := a &&& BitVec.ofNat 64 c
def addW (a b : BitVec 64) : BitVec 64 := a + b
theorem U_shr (n : Nat) (a : BitVec 64) : U a / ((2 ^ n : Nat) : Int) = U (shrW n a) := by
  unfold shrW U
  rw [BitVec.toNat_ushiftRight, Nat.shiftRight_eq_div_pow]
  exact (Int.natCast_ediv _ _).symm
theorem U_sh1 (a : BitVec 64) : U a / 2 = U (shrW 1 a) := U_shr 1 a
theorem U_sh2 (a : BitVec 64) : U a / 4 = U (shrW 2 a) := U_shr 2 a
theorem U_sh4 (a : BitVec 64) : U a / 16 = U (shrW 4 a) := U_shr 4 a
theorem U_sh8 (a : BitVec 64) : U a / 256 = U (shrW 8 a) := U_shr 8 a
theorem U_sh16 (a : BitVec 64) : U a / 65536 = U (shrW 16 a) := U_shr 16 a
theorem U_sh32 (a : BitVec 64) : U a / 4294967296 = U (shrW 32 a) := U_shr 32 a
theorem U_andc (c : Nat) (hc : c < 18446744073709551616) (a : BitVec 64) : bits .and .u64 (U a) (c : Int) = U (andW c a) := by
  have e : (c : Int) = U (BitVec.ofNat 64 c) := by unfold U; rw [BitVec.toNat_ofNat, Nat.mod_eq_of_lt hc]
  rw [e, bits_and_U]; rfl
theorem U_and5 (a : BitVec 64) : bits .and .u64 (U a) 6148914691236517205 = U (andW 6148914691236517205 a) := U_andc 6148914691236517205 (by omega) a
theorem U_and3 (a : BitVec 64) : bits .and .u64 (U a) 3689348814741910323 = U (andW 3689348814741910323 a) := U_andc 3689348814741910323 (by omega) a
theorem U_andf (a : BitVec 64) : bits .and .u64 (U a) 1085102592571150095 = U (andW 1085102592571150095 a) := U_andc 1085102592571150095 (by omega) a
theorem U_add (a b : BitVec 64) : IntKind.u64.wrap (U a + U b) = U (addW a b) := by
  unfold addW U; rw [IntKind.wrap_u64, BitVec.toNat_add]; omega
def pc1 (x : BitVec 64) : BitVec 64 := addW (andW 6148914691236517205 (shrW 1 x)) (andW 6148914691236517205 x)
def pc2 (x : BitVec 64) : BitVec 64 := addW (andW 3689348814741910323 (shrW 2 x)) (andW 3689348814741910323 x)
def pc3 (x : BitVec 64) : BitVec 64 := andW 1085102592571150095 (addW (shrW 4 x) x)
def pc4 (x : BitVec 64) : BitVec 64 := addW x (shrW 8 x)
def pc5 (x : BitVec 64) : BitVec 64 := addW x (shrW 16 x)
def pc6 (x : BitVec 64) : BitVec 64 := addW x (shrW 32 x)
def pcE (x : BitVec 64) : Int := bits .and .i64 (wrap64 (U (pc6 (pc5 (pc4 (pc3 (pc2 (pc1 x)))))))) 127
section
attribute [local go_sem] U_sh1 U_sh2 U_sh4 U_sh8 U_sh16 U_sh32 U_and5 U_and3 U_andf U_add
theorem f_OnesCount64 (x : BitVec 64) (w : World) : Calls Tryd.prog 26 #[.int .u64 (U x)] w fun e w' => e = .returned (.int .i64 (pcE x)) ∧ w' = w := by
  go_enter Tryd.func26, Tryd.ntmps26
  go_wp2
  go_ret
  exact ⟨rfl, rfl⟩
end

@[go_sem] theorem run_index_mask0 (x y : Value) (w : World) : (Instr.index 25 (.agg #[x, y]) (.int .i64 0)).run Tryd.prog w = .ok x w := by kernel_rfl
@[go_sem] theorem run_index_mask1 (x y : Value) (w : World) : (Instr.index 25 (.agg #[x, y]) (.int .i64 1)).run Tryd.prog w = .ok y w := by kernel_rfl
theorem pcE_eq (x : BitVec 64) : pcE x = U (pc6 (pc5 (pc4 (pc3 (pc2 (pc1 x)))))) % 128 := by
  unfold pcE; rw [i64_and127]; generalize U _ = y; unfold wrap64; omega
theorem pcE_bd (x : BitVec 64) : 0 ≤ pcE x ∧ pcE x ≤ 127 := by
  rw [pcE_eq]; generalize U _ = y; omega
def cntF (a b : BitVec 64) : Int := pcE (a &&& ones) + pcE (b &&& low32)
theorem cntF_bd (a b : BitVec 64) : 0 ≤ cntF a b ∧ cntF a b ≤ 254 := by
  have := pcE_bd (a &&& ones); have := pcE_bd (b &&& low32); unfold cntF; omega
theorem f_Count (a b : BitVec 64) (w : World) : Calls Tryd.prog 14 #[MV a b] w fun e w' => e = .returned (.int .i64 (cntF a b)) ∧ Below w.heap.size w w' := by
  have b1 := pcE_bd (a &&& ones)
  have b2 := pcE_bd (b &&& low32)
  go_enter Tryd.func14, Tryd.ntmps14
  go_wp2
  refine wp_grow [(1, .val (MV ones low32)), (2, .val (MV (a &&& ones) (b &&& low32)))] 4 (by kernel_rfl) (by kernel_rfl) (by rfl) (by rfl) ?_
  simp only [List.take_succ_cons, List.take_zero, List.drop_succ_cons, List.drop_zero]
  repeat (first
    | (apply Der.quiet; (rfl); (rfl); (intro w' hw' hctx; have hc' := bcell hw'; clear hctx; go_simp; first | exact rfl | exact ⟨rfl, rfl⟩); simp only [Act.put, List.setIfInBounds_toArray, List.set_cons_succ, List.set_cons_zero, Nat.reduceAdd])
    | (apply Der.skip; (rfl); simp only [Act.put, List.setIfInBounds_toArray, List.set_cons_succ, List.set_cons_zero, Nat.reduceAdd]))
  apply Der.val
  · rfl
  · rfl
  · (intro w' hw' hctx; go_simp; refine (f_all _).mono ?_; rintro e w2 ⟨rfl, hb⟩; exact ⟨_, rfl, rfl, hb⟩)
  simp only [Act.put, List.setIfInBounds_toArray, List.set_cons_succ, List.set_cons_zero, Nat.reduceAdd]
  apply Der.val
  · rfl
  · rfl
  · (intro w' hw' hctx; go_simp; refine (f_and _ _ _ _ _).mono ?_; rintro e w2 ⟨rfl, hb⟩; exact ⟨_, rfl, rfl, hb⟩)
  simp only [Act.put, List.setIfInBounds_toArray, List.set_cons_succ, List.set_cons_zero, Nat.reduceAdd]
  repeat (first
    | (apply Der.quiet; (rfl); (rfl); (intro w' hw' hctx; have hc' := bcell hw'; clear hctx; go_simp; first | exact rfl | exact ⟨rfl, rfl⟩); simp only [Act.put, List.setIfInBounds_toArray, List.set_cons_succ, List.set_cons_zero, Nat.reduceAdd])
    | (apply Der.skip; (rfl); simp only [Act.put, List.setIfInBounds_toArray, List.set_cons_succ, List.set_cons_zero, Nat.reduceAdd]))
  refine Der.nil (fun w2 hgw2 hctx => ?_)
  clear hctx
  have hb2 : Below _ _ w2 := hgw2
  clear hgw2
  have z2w0 : w.heap.size < w2.heap.size := (by have := hb2.size; (try simp at this); omega)
  have q2w0 := fun o => hb2.cell (p := ⟨w.heap.size, o, none⟩) (by first | omega | (simp; done) | (simp; omega))
  have r2w0 := fun o => hb2.frozen (p := ⟨w.heap.size, o, none⟩) (by first | omega | (simp; done) | (simp; omega))
  go_wp2
  refine wp_loop_rounds 3 ?_
  rw [rounds_succ]
  go_wp2_with (go_at_call 26; refine (f_OnesCount64 _ _).mono ?_; rintro e wx ⟨rfl, rfl⟩)
  rw [rounds_succ]
  go_wp2_with (go_at_call 26; refine (f_OnesCount64 _ _).mono ?_; rintro e wx ⟨rfl, rfl⟩)
  rw [rounds_succ]
  go_wp2
  go_ret
  refine ⟨rfl, ?_⟩
  ((have shb2 := hb2.size); (try simp at shb2); (repeat' (first | (with_reducible exact Below.refl _ _) | (with_reducible refine Below.setCell ?_ ?_ _) | (with_reducible refine Below.alloc ?_ ?_ _) | (with_reducible refine Below.drew ?_) | (with_reducible refine Below.trans ?_ (Below.mono hb2 ?_)) | go_size)))
theorem f_Place (a b : BitVec 64) (n m : Int) (hm : (if n < 0 then 0 else n) = m) (h2 : 0 ≤ m) (h3 : m ≤ 9223372036854775807) (w : World) : Calls Tryd.prog 12 #[MV a b, .int .i64 n] w fun e w' =>
    e = .returned (.int .i64 (cntF (a &&& lowBits m) (b &&& lowBits (m - 64)))) ∧ Below w.heap.size w w' := by
  go_enter Tryd.func12, Tryd.ntmps12
  go_wp2
  refine wp_grow [(3, .val (MV (lowBits m) (lowBits (m - 64)))), (4, .val (MV (a &&& lowBits m) (b &&& lowBits (m - 64)))), (5, .val (.int .i64 (cntF (a &&& lowBits m) (b &&& lowBits (m - 64)))))] 6 (by kernel_rfl) (by kernel_rfl) (by rfl) (by rfl) ?_
  simp only [List.take_succ_cons, List.take_zero, List.drop_succ_cons, List.drop_zero]
  repeat (first
    | (apply Der.quiet; (rfl); (rfl); (intro w' hw' hctx; have hc' := bcell hw'; clear hctx; go_simp; first | exact rfl | exact ⟨rfl, rfl⟩); simp only [Act.put, List.setIfInBounds_toArray, List.set_cons_succ, List.set_cons_zero, Nat.reduceAdd])
    | (apply Der.skip; (rfl); simp only [Act.put, List.setIfInBounds_toArray, List.set_cons_succ, List.set_cons_zero, Nat.reduceAdd]))
  apply Der.val
  · rfl
  · rfl
  · (intro w' hw' hctx; go_simp; refine (f_below _ h2 h3 _).mono ?_; rintro e w2 ⟨rfl, hb⟩; exact ⟨_, rfl, rfl, hb⟩)
  simp only [Act.put, List.setIfInBounds_toArray, List.set_cons_succ, List.set_cons_zero, Nat.reduceAdd]
  apply Der.val
  · rfl
  · rfl
  · (intro w' hw' hctx; go_simp; refine (f_and _ _ _ _ _).mono ?_; rintro e w2 ⟨rfl, hb⟩; exact ⟨_, rfl, rfl, hb⟩)
  simp only [Act.put, List.setIfInBounds_toArray, List.set_cons_succ, List.set_cons_zero, Nat.reduceAdd]
  apply Der.val
  · rfl
  · rfl
  · (intro w' hw' hctx; go_simp; refine (f_Count _ _ _).mono ?_; rintro e w2 ⟨rfl, hb⟩; exact ⟨_, rfl, rfl, hb⟩)
  simp only [Act.put, List.setIfInBounds_toArray, List.set_cons_succ, List.set_cons_zero, Nat.reduceAdd]
  refine Der.nil (fun w2 hgw2 hctx => ?_)
  clear hctx
  have hb2 : Below _ _ w2 := hgw2
  clear hgw2
  have z2w0 : w.heap.size < w2.heap.size := (by have := hb2.size; (try simp at this); omega)
  have q2w0 := fun o => hb2.cell (p := ⟨w.heap.size, o, none⟩) (by first | omega | (simp; done) | (simp; omega))
  have r2w0 := fun o => hb2.frozen (p := ⟨w.heap.size, o, none⟩) (by first | omega | (simp; done) | (simp; omega))
  go_wp2
  go_ret
  refine ⟨rfl, ?_⟩
  ((have shb2 := hb2.size); (try simp at shb2); (repeat' (first | (with_reducible exact Below.refl _ _) | (with_reducible refine Below.setCell ?_ ?_ _) | (with_reducible refine Below.alloc ?_ ?_ _) | (with_reducible refine Below.drew ?_) | (with_reducible refine Below.trans ?_ (Below.mono hb2 ?_)) | go_size)))

end Go.Proofs.YtgcjfonbppchlaaDoor

/- 'wakes' of the statements on masks; what variadic calls hand on. -/
namespace Go.Proofs.YtgcjfonbppchlaaDoor
open Go.RowKit
set_option maxRecDepth 100000

theorem Sl.of_cells {w : World} {b len cap : Nat} {cs : List Value} (hb : b < w.heap.size) (h1 : len ≤ cap) (h2 : cap ≤ 9223372036854775807) (hc : ∀ i (h : i < cs.length), w.cell? ⟨b, i, none⟩ = some cs[i]) :
    Sl w (.slice (some ⟨b, 0, none⟩) len cap) len cs :=
  ⟨⟨_, _, rfl, h1, h2, fun _ => ⟨b, 0, rfl, hb, fun i hi => by rw [Nat.zero_add]; exact hc i hi⟩⟩⟩
theorem Sl.fresh (w : World) (e : Nat) (len : Nat) (cs : List Value) {b : Nat} (hb : b = w.heap.size) (h : len ≤ 9223372036854775807) : Sl (w.alloc (.cells cs.toArray e)) (.slice (some ⟨b, 0, none⟩) len len) len cs := by
  subst hb
  refine Sl.of_cells (by simp) (Nat.le_refl _) h fun i hi => ?_
  have : (w.alloc (.cells cs.toArray e)).heap[w.heap.size]? = some (.cells cs.toArray e) := by
    show (w.heap.push _)[w.heap.size]? = _; simp
  unfold World.cell?
  rw [this]
  simp [hi]
theorem Sl.nilS (w : World) : Sl w (.slice none 0 0) 0 [] := ⟨⟨_, _, rfl, Nat.le_refl _, by omega, fun h => absurd rfl h⟩⟩

theorem wk_of : ofF [0, 64, 3] = ((9#64, 1#64), 0) := by decide
theorem wk_of2 : ofF [96] = ((0#64, 0#64), 2) := by decide
theorem wk_cnt : cntF 9#64 1#64 = 3 := by decide +kernel
theorem wk_cnt2 : cntF (ones &&& 18446744073709551615#64) (low32 &&& 18446744073709551615#64) = 96 := by decide +kernel
theorem f_wakes (w : World) : Calls Tryd.prog 4 #[] w fun e w' => e = .returned (.bool true) ∧ Below w.heap.size w w' := by
  go_enter Tryd.func4, Tryd.ntmps4
  go_wp2_with fail
  refine (f_Of _ [0, 64, 3] _ (Sl.fresh w 3 3 _ rfl (by omega))).mono ?_
  rintro e w1 ⟨he, hb1⟩
  unfold OfPost at he
  rw [wk_of] at he
  subst he
  go_wp2_with fail
  refine (f_Of _ [96] _ (Sl.fresh _ 3 1 _ (by simp) (by omega))).mono ?_
  rintro e w2 ⟨he, hb2⟩
  unfold OfPost at he
  rw [wk_of2] at he
  subst he
  have z2w10 : w1.heap.size < w2.heap.size := (by have := hb2.size; (try simp at this); omega)
  have q2w10 := fun o => hb2.cell (p := ⟨w1.heap.size, o, none⟩) (by first | omega | (simp; done) | (simp; omega))
  have r2w10 := fun o => hb2.frozen (p := ⟨w1.heap.size, o, none⟩) (by first | omega | (simp; done) | (simp; omega))
  have u1 : (U 9#64 == 9) = true := by decide
  have u2 : (U 1#64 == 1) = true := by decide
  go_wp2_with fail
  refine (f_Count _ _ _).mono ?_
  rintro e w3 ⟨rfl, hb3⟩
  rw [wk_cnt]
  go_wp2_with fail
  refine (f_Not 0#64 0#64 _).mono ?_
  rintro e w4 ⟨rfl, hb4⟩
  go_wp2_with fail
  refine (f_Count _ _ _).mono ?_
  rintro e w5 ⟨rfl, hb5⟩
  rw [wk_cnt2]
  go_wp2
  go_ret
  refine ⟨rfl, ?_⟩
  ((have shb5 := hb5.size); (try simp at shb5); (have shb4 := hb4.size); (try simp at shb4); (have shb3 := hb3.size); (try simp at shb3); (have shb2 := hb2.size); (try simp at shb2); (have shb1 := hb1.size); (try simp at shb1); (repeat' (first | (with_reducible exact Below.refl _ _) | (with_reducible refine Below.setCell ?_ ?_ _) | (with_reducible refine Below.alloc ?_ ?_ _) | (with_reducible refine Below.drew ?_) | (with_reducible refine Below.trans ?_ (Below.mono hb5 ?_)) | (with_reducible refine Below.trans ?_ (Below.mono hb4 ?_)) | (with_reducible refine Below.trans ?_ (Below.mono hb3 ?_)) | (with_reducible refine Below.trans ?_ (Below.mono hb2 ?_)) | (with_reducible refine Below.trans ?_ (Below.mono hb1 ?_)) | go_size)))
end Go.Proofs.YtgcjfonbppchlaaDoor
