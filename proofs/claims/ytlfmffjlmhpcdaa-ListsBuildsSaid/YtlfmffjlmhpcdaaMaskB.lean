/- The contracts of the functions of package mask that work on whole masks, but for the loops over rows of them. -/
import Derived.Test.YtlfmffjlmhpcdaaMaskA
import Derived.Test.YtlfmffjlmhpcdaaRegion
namespace Go.Proofs.Ytlfmffjlmhpcdaa
open Go.RowKit

theorem mask_size (w : World) : (sizeOf 47).run Try.prog w = .ok 1 w := by kernel_rfl
theorem mask_agg (w : World) : (isAgg 47).run Try.prog w = .ok false w := by kernel_rfl
@[go_sem] theorem run_eq_mask (x y z t : Int) (w : World) : (Op.equalIn 10000 49 (.agg #[.int .u64 x, .int .u64 y]) (.agg #[.int .u64 z, .int .u64 t])).run Try.prog w = .ok (x == z && y == t) w :=
  run_equalIn_arr2 9998 49 47 .u64 .u64 x y z t w Try.underlying49 Try.underlying47 mask_size mask_agg

def ones : BitVec 64 := BitVec.allOnes 64
def low32 : BitVec 64 := 4294967295#64
/-- The lowest k bits of a word. -/
def lowBits (k : Int) : BitVec 64 := if 64 ≤ k then ones else if 0 < k then BitVec.ofNat 64 (2 ^ k.toNat - 1) else 0#64
theorem lowBits_big {k : Int} (h : 64 ≤ k) : lowBits k = ones := by unfold lowBits; rw [if_pos h]
theorem lowBits_neg {k : Int} (h : k ≤ 0) : lowBits k = 0#64 := by unfold lowBits; rw [if_neg (by omega), if_neg (by omega)]
theorem U_ones : U ones = 18446744073709551615 := by decide
theorem U_low {k : Int} (h0 : 0 < k) (h1 : k < 64) : IntKind.u64.wrap (IntKind.u64.wrap (2 ^ k.toNat) - 1) = U (lowBits k) := by
  have hp : (2 : Nat) ^ k.toNat < 2 ^ 64 := Nat.pow_lt_pow_right (by omega) (by omega)
  have hp1 : 1 ≤ (2 : Nat) ^ k.toNat := Nat.one_le_two_pow
  unfold lowBits U
  rw [if_neg (by omega), if_pos h0, BitVec.toNat_ofNat, Nat.mod_eq_of_lt (by omega), IntKind.wrap_u64, IntKind.wrap_u64]
  have e : ((2 : Int) ^ k.toNat) = ((2 ^ k.toNat : Nat) : Int) := by simp
  rw [e]
  generalize (2 : Nat) ^ k.toNat = x at *
  omega

/-- The word of a slot: the bit n modulo 64. -/
def bitW (n : Int) : BitVec 64 := BitVec.ofNat 64 (2 ^ (n % 64).toNat)
theorem U_bit (n : Int) : IntKind.u64.wrap (2 ^ (n % 64).toNat) = U (bitW n) := by
  unfold bitW U
  rw [BitVec.toNat_ofNat, IntKind.wrap_u64]
  have e : ((2 : Int) ^ (n % 64).toNat) = ((2 ^ (n % 64).toNat : Nat) : Int) := by simp
  rw [e]
  omega
def bit0 (n : Int) : BitVec 64 := if n < 64 then bitW n else 0#64
def bit1 (n : Int) : BitVec 64 := if n < 64 then 0#64 else bitW n

theorem f_minus (a b c d : BitVec 64) (w : World) : Calls Try.prog 88 #[MV a b, MV c d] w fun e w' => e = .returned (MV (a &&& ~~~c) (b &&& ~~~d)) ∧ Below w.heap.size w w' := by
  go_enter Try.func88, Try.ntmps88
  go_wp2_with (go_at_call 99; refine (c_each _ (enters_of Try.func110 (by kernel_rfl) rfl) _ c_andNot _ _ _ _ _).mono ?_; rintro e w1 ⟨rfl, hb1⟩; have z1w0 : w.heap.size < w1.heap.size := (by have := hb1.size; (try simp at this); omega); have q1w0 := fun o => hb1.cell (p := ⟨w.heap.size, o, none⟩) (by first | omega | (simp; done) | (simp; omega)); have r1w0 := fun o => hb1.frozen (p := ⟨w.heap.size, o, none⟩) (by first | omega | (simp; done) | (simp; omega)); have z1w1 : w.heap.size + 1 < w1.heap.size := (by have := hb1.size; (try simp at this); omega); have q1w1 := fun o => hb1.cell (p := ⟨w.heap.size + 1, o, none⟩) (by first | omega | (simp; done) | (simp; omega)); have r1w1 := fun o => hb1.frozen (p := ⟨w.heap.size + 1, o, none⟩) (by first | omega | (simp; done) | (simp; omega)); have z1w2 : w.heap.size + 1 + 1 < w1.heap.size := (by have := hb1.size; (try simp at this); omega); have q1w2 := fun o => hb1.cell (p := ⟨w.heap.size + 1 + 1, o, none⟩) (by first | omega | (simp; done) | (simp; omega)); have r1w2 := fun o => hb1.frozen (p := ⟨w.heap.size + 1 + 1, o, none⟩) (by first | omega | (simp; done) | (simp; omega)))
  refine bodyPost_ret (v := MV (a &&& ~~~c) (b &&& ~~~d)) (by simp only [results, Try.results88]; go_simp) rfl ⟨rfl, ?_⟩
  ((repeat' (first | (with_reducible exact Below.refl _ _) | (with_reducible refine Below.setCell ?_ ?_ _) | (with_reducible refine Below.alloc ?_ ?_ _) | (with_reducible refine Below.drew ?_) | (with_reducible refine Below.trans ?_ (Below.mono (by assumption) ?_)) | go_size)))
theorem f_and (a b c d : BitVec 64) (w : World) : Calls Try.prog 58 #[MV a b, MV c d] w fun e w' => e = .returned (MV (a &&& c) (b &&& d)) ∧ Below w.heap.size w w' := by
  go_enter Try.func58, Try.ntmps58
  go_wp2_with (go_at_call 99; refine (c_each _ (enters_of Try.func101 (by kernel_rfl) rfl) _ c_and _ _ _ _ _).mono ?_; rintro e w1 ⟨rfl, hb1⟩; have z1w0 : w.heap.size < w1.heap.size := (by have := hb1.size; (try simp at this); omega); have q1w0 := fun o => hb1.cell (p := ⟨w.heap.size, o, none⟩) (by first | omega | (simp; done) | (simp; omega)); have r1w0 := fun o => hb1.frozen (p := ⟨w.heap.size, o, none⟩) (by first | omega | (simp; done) | (simp; omega)); have z1w1 : w.heap.size + 1 < w1.heap.size := (by have := hb1.size; (try simp at this); omega); have q1w1 := fun o => hb1.cell (p := ⟨w.heap.size + 1, o, none⟩) (by first | omega | (simp; done) | (simp; omega)); have r1w1 := fun o => hb1.frozen (p := ⟨w.heap.size + 1, o, none⟩) (by first | omega | (simp; done) | (simp; omega)); have z1w2 : w.heap.size + 1 + 1 < w1.heap.size := (by have := hb1.size; (try simp at this); omega); have q1w2 := fun o => hb1.cell (p := ⟨w.heap.size + 1 + 1, o, none⟩) (by first | omega | (simp; done) | (simp; omega)); have r1w2 := fun o => hb1.frozen (p := ⟨w.heap.size + 1 + 1, o, none⟩) (by first | omega | (simp; done) | (simp; omega)))
  refine bodyPost_ret (v := MV (a &&& c) (b &&& d)) (by simp only [results, Try.results58]; go_simp) rfl ⟨rfl, ?_⟩
  ((repeat' (first | (with_reducible exact Below.refl _ _) | (with_reducible refine Below.setCell ?_ ?_ _) | (with_reducible refine Below.alloc ?_ ?_ _) | (with_reducible refine Below.drew ?_) | (with_reducible refine Below.trans ?_ (Below.mono (by assumption) ?_)) | go_size)))
theorem f_or (a b c d : BitVec 64) (w : World) : Calls Try.prog 57 #[MV a b, MV c d] w fun e w' => e = .returned (MV (a ||| c) (b ||| d)) ∧ Below w.heap.size w w' := by
  go_enter Try.func57, Try.ntmps57
  go_wp2_with (go_at_call 99; refine (c_each _ (enters_of Try.func100 (by kernel_rfl) rfl) _ c_or _ _ _ _ _).mono ?_; rintro e w1 ⟨rfl, hb1⟩; have z1w0 : w.heap.size < w1.heap.size := (by have := hb1.size; (try simp at this); omega); have q1w0 := fun o => hb1.cell (p := ⟨w.heap.size, o, none⟩) (by first | omega | (simp; done) | (simp; omega)); have r1w0 := fun o => hb1.frozen (p := ⟨w.heap.size, o, none⟩) (by first | omega | (simp; done) | (simp; omega)); have z1w1 : w.heap.size + 1 < w1.heap.size := (by have := hb1.size; (try simp at this); omega); have q1w1 := fun o => hb1.cell (p := ⟨w.heap.size + 1, o, none⟩) (by first | omega | (simp; done) | (simp; omega)); have r1w1 := fun o => hb1.frozen (p := ⟨w.heap.size + 1, o, none⟩) (by first | omega | (simp; done) | (simp; omega)); have z1w2 : w.heap.size + 1 + 1 < w1.heap.size := (by have := hb1.size; (try simp at this); omega); have q1w2 := fun o => hb1.cell (p := ⟨w.heap.size + 1 + 1, o, none⟩) (by first | omega | (simp; done) | (simp; omega)); have r1w2 := fun o => hb1.frozen (p := ⟨w.heap.size + 1 + 1, o, none⟩) (by first | omega | (simp; done) | (simp; omega)))
  refine bodyPost_ret (v := MV (a ||| c) (b ||| d)) (by simp only [results, Try.results57]; go_simp) rfl ⟨rfl, ?_⟩
  ((repeat' (first | (with_reducible exact Below.refl _ _) | (with_reducible refine Below.setCell ?_ ?_ _) | (with_reducible refine Below.alloc ?_ ?_ _) | (with_reducible refine Below.drew ?_) | (with_reducible refine Below.trans ?_ (Below.mono (by assumption) ?_)) | go_size)))
theorem f_below (n : Int) (h0 : 0 ≤ n) (h1 : n ≤ 9223372036854775807) (w : World) : Calls Try.prog 102 #[.int .i64 n] w fun e w' => e = .returned (MV (lowBits n) (lowBits (n - 64))) ∧ Below w.heap.size w w' := by
  go_enter Try.func102, Try.ntmps102
  go_wp2
  refine wp_loop_rounds 3 ?_
  rw [rounds_succ]
  go_wp2
  all_goals rw [rounds_succ]
  all_goals go_wp2
  all_goals rw [rounds_succ]
  all_goals go_wp2
  all_goals go_returns
  all_goals constructor
  · rw [lowBits_big (by omega), lowBits_big (k := n - 64) (by omega), MV, U_ones]
  · ((repeat' (first | (with_reducible exact Below.refl _ _) | (with_reducible refine Below.setCell ?_ ?_ _) | (with_reducible refine Below.alloc ?_ ?_ _) | (with_reducible refine Below.drew ?_) | (with_reducible refine Below.trans ?_ (Below.mono (by assumption) ?_)) | go_size)))
  · rw [lowBits_big (by omega), MV, U_ones, U_low (by omega) (by omega)]
  · ((repeat' (first | (with_reducible exact Below.refl _ _) | (with_reducible refine Below.setCell ?_ ?_ _) | (with_reducible refine Below.alloc ?_ ?_ _) | (with_reducible refine Below.drew ?_) | (with_reducible refine Below.trans ?_ (Below.mono (by assumption) ?_)) | go_size)))
  · rw [lowBits_big (by omega), lowBits_neg (by omega), MV, U_ones, U_zero]
  · ((repeat' (first | (with_reducible exact Below.refl _ _) | (with_reducible refine Below.setCell ?_ ?_ _) | (with_reducible refine Below.alloc ?_ ?_ _) | (with_reducible refine Below.drew ?_) | (with_reducible refine Below.trans ?_ (Below.mono (by assumption) ?_)) | go_size)))
  · rw [lowBits_neg (k := n - 64) (by omega), MV, U_zero, U_low (by omega) (by omega)]
  · ((repeat' (first | (with_reducible exact Below.refl _ _) | (with_reducible refine Below.setCell ?_ ?_ _) | (with_reducible refine Below.alloc ?_ ?_ _) | (with_reducible refine Below.drew ?_) | (with_reducible refine Below.trans ?_ (Below.mono (by assumption) ?_)) | go_size)))
  · rw [lowBits_neg (by omega), lowBits_neg (by omega), MV, U_zero]
  · ((repeat' (first | (with_reducible exact Below.refl _ _) | (with_reducible refine Below.setCell ?_ ?_ _) | (with_reducible refine Below.alloc ?_ ?_ _) | (with_reducible refine Below.drew ?_) | (with_reducible refine Below.trans ?_ (Below.mono (by assumption) ?_)) | go_size)))
theorem low_all : lowBits 96 = ones ∧ lowBits (96 - 64) = low32 := by decide
theorem f_all (w : World) : Calls Try.prog 59 #[] w fun e w' => e = .returned (MV ones low32) ∧ Below w.heap.size w w' := by
  go_enter Try.func59, Try.ntmps59
  go_wp2_with (go_at_call 102; refine (f_below _ (by omega) (by omega) _).mono ?_; rintro e w1 ⟨rfl, hb1⟩; have z1w0 : w.heap.size < w1.heap.size := (by have := hb1.size; (try simp at this); omega); have q1w0 := fun o => hb1.cell (p := ⟨w.heap.size, o, none⟩) (by first | omega | (simp; done) | (simp; omega)); have r1w0 := fun o => hb1.frozen (p := ⟨w.heap.size, o, none⟩) (by first | omega | (simp; done) | (simp; omega)))
  refine bodyPost_ret (v := MV (lowBits 96) (lowBits (96 - 64))) (by simp only [results, Try.results59]; go_simp) rfl ⟨rfl, ?_⟩
  ((repeat' (first | (with_reducible exact Below.refl _ _) | (with_reducible refine Below.setCell ?_ ?_ _) | (with_reducible refine Below.alloc ?_ ?_ _) | (with_reducible refine Below.drew ?_) | (with_reducible refine Below.trans ?_ (Below.mono (by assumption) ?_)) | go_size)))
theorem f_slot (n : Int) (w : World) : Calls Try.prog 62 #[.int .i64 n] w fun e w' => e = .returned (.bool (decide (0 ≤ n ∧ n < 96))) ∧ w' = w := by
  go_enter Try.func62, Try.ntmps62
  go_wp2
  all_goals go_ret
  · exact ⟨by simp; omega, rfl⟩
  · exact ⟨by simp; omega, rfl⟩
theorem f_bit (n : Int) (h0 : 0 ≤ n) (h1 : n < 96) (w : World) : Calls Try.prog 63 #[.int .i64 n] w fun e w' => e = .returned (MV (bit0 n) (bit1 n)) ∧ Below w.heap.size w w' := by
  by_cases hn : n < 64
  · have e1 : n / 64 = 0 := by omega
    go_enter Try.func63, Try.ntmps63
    go_wp2
    go_returns
    constructor
    · unfold bit0 bit1; rw [if_pos hn, if_pos hn, MV, U_zero, U_bit]
    · ((repeat' (first | (with_reducible exact Below.refl _ _) | (with_reducible refine Below.setCell ?_ ?_ _) | (with_reducible refine Below.alloc ?_ ?_ _) | (with_reducible refine Below.drew ?_) | (with_reducible refine Below.trans ?_ (Below.mono (by assumption) ?_)) | go_size)))
  · have e1 : n / 64 = 1 := by omega
    go_enter Try.func63, Try.ntmps63
    go_wp2
    go_returns
    constructor
    · unfold bit0 bit1; rw [if_neg (by omega), if_neg (by omega), MV, U_zero, U_bit]
    · ((repeat' (first | (with_reducible exact Below.refl _ _) | (with_reducible refine Below.setCell ?_ ?_ _) | (with_reducible refine Below.alloc ?_ ?_ _) | (with_reducible refine Below.drew ?_) | (with_reducible refine Below.trans ?_ (Below.mono (by assumption) ?_)) | go_size)))
/-- What Check answers. -/
def chk (b : BitVec 64) : Int := if b &&& ~~~low32 = 0#64 then 0 else 200
theorem and_ones (a : BitVec 64) : a &&& ~~~ones = 0#64 := by unfold ones; simp
theorem f_Check (a b : BitVec 64) (w : World) : Calls Try.prog 43 #[MV a b] w fun e w' => e = .returned (.int .i64 (chk b)) ∧ Below w.heap.size w w' := by
  have e1 : (a &&& ~~~ones == 0#64) = true := by simp [and_ones]
  cases e2 : (b &&& ~~~low32 == 0#64)
  all_goals
    have hk : Hid (chk b = if (b &&& ~~~low32 == 0#64) = true then 0 else 200) := by unfold chk Hid; simp
    rw [e2] at hk
    go_enter Try.func43, Try.ntmps43
    go_wp2
    refine wp_grow [(1, .val (MV ones low32)), (2, .val (MV (a &&& ~~~ones) (b &&& ~~~low32)))] 5 (by kernel_rfl) (by kernel_rfl) (by rfl) (by rfl) ?_
    simp only [List.take_succ_cons, List.take_zero, List.drop_succ_cons, List.drop_zero]
    repeat (first
      | (apply Der.quiet; (rfl); (rfl); (intro w' hw' hctx; have hc' := bcell hw'; clear hctx; go_simp; first | exact rfl | exact ⟨rfl, rfl⟩); simp only [Act.put, List.setIfInBounds_toArray, List.set_cons_succ, List.set_cons_zero, Nat.reduceAdd])
      | (apply Der.skip; (rfl); simp only [Act.put, List.setIfInBounds_toArray, List.set_cons_succ, List.set_cons_zero, Nat.reduceAdd]))
    apply Der.val
    · rfl
    · rfl
    · (intro w' hw' hctx; go_simp; refine (f_all _).mono ?_; rintro e w2 ⟨rfl, hb⟩; exact ⟨_, rfl, rfl, hb⟩)
    simp only [Act.put, List.setIfInBounds_toArray, List.set_cons_succ, List.set_cons_zero, Nat.reduceAdd]
    apply Der.val
    · rfl
    · rfl
    · (intro w' hw' hctx; go_simp; refine (f_minus _ _ _ _ _).mono ?_; rintro e w2 ⟨rfl, hb⟩; exact ⟨_, rfl, rfl, hb⟩)
    simp only [Act.put, List.setIfInBounds_toArray, List.set_cons_succ, List.set_cons_zero, Nat.reduceAdd]
    repeat (first
      | (apply Der.quiet; (rfl); (rfl); (intro w' hw' hctx; have hc' := bcell hw'; clear hctx; go_simp; first | exact rfl | exact ⟨rfl, rfl⟩); simp only [Act.put, List.setIfInBounds_toArray, List.set_cons_succ, List.set_cons_zero, Nat.reduceAdd])
      | (apply Der.skip; (rfl); simp only [Act.put, List.setIfInBounds_toArray, List.set_cons_succ, List.set_cons_zero, Nat.reduceAdd]))
    refine Der.nil (fun w2 hgw2 hctx => ?_)
    clear hctx
    have hb2 : Below _ _ w2 := hgw2
    clear hgw2
    have z2w0 : w.heap.size < w2.heap.size := (by have := hb2.size; (try simp at this); omega)
    have q2w0 := fun o => hb2.cell (p := ⟨w.heap.size, o, none⟩) (by first | omega | (simp; done) | (simp; omega))
    have r2w0 := fun o => hb2.frozen (p := ⟨w.heap.size, o, none⟩) (by first | omega | (simp; done) | (simp; omega))
    go_wp2
    go_ret
    refine ⟨by rw [hk.out]; rfl, ?_⟩
    ((repeat' (first | (with_reducible exact Below.refl _ _) | (with_reducible refine Below.setCell ?_ ?_ _) | (with_reducible refine Below.alloc ?_ ?_ _) | (with_reducible refine Below.drew ?_) | (with_reducible refine Below.trans ?_ (Below.mono (by assumption) ?_)) | go_size)))
end Go.Proofs.Ytlfmffjlmhpcdaa
