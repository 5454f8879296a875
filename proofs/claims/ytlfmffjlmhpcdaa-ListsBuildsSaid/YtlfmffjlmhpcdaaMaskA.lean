/- The contracts of the functions of package mask that work word by word: each, and, or, minus, all, below, slot, bit, Check. -/
import Derived.Test.YtlfmffjlmhpcdaaProg
import Derived.Test.YtlfmffjlmhpcdaaKit
namespace Go.Proofs.Ytlfmffjlmhpcdaa
open Go.RowKit

abbrev MV (a b : BitVec 64) : Value := .agg #[.int .u64 (U a), .int .u64 (U b)]

theorem c_andNot (a b : BitVec 64) (w : World) : Calls Try.prog 110 #[.int .u64 (U a), .int .u64 (U b)] w fun e w' => e = .returned (.int .u64 (U (a &&& ~~~b))) ∧ w' = w := by
  go_enter Try.func110, Try.ntmps110
  go_wp2
  go_ret
  exact ⟨by rw [← bits_andNot_U]; rfl, rfl⟩
theorem c_and (a b : BitVec 64) (w : World) : Calls Try.prog 101 #[.int .u64 (U a), .int .u64 (U b)] w fun e w' => e = .returned (.int .u64 (U (a &&& b))) ∧ w' = w := by
  go_enter Try.func101, Try.ntmps101
  go_wp2
  go_ret
  exact ⟨by rw [← bits_and_U]; rfl, rfl⟩
theorem c_or (a b : BitVec 64) (w : World) : Calls Try.prog 100 #[.int .u64 (U a), .int .u64 (U b)] w fun e w' => e = .returned (.int .u64 (U (a ||| b))) ∧ w' = w := by
  go_enter Try.func100, Try.ntmps100
  go_wp2
  go_ret
  exact ⟨by rw [← bits_or_U]; rfl, rfl⟩

set_option maxRecDepth 100000 in
set_option maxHeartbeats 1000000 in
theorem c_each (k : Nat) (eg : ∀ args w, (callFunc k args).run Try.prog w = .ok (.enter k args) w) (op : BitVec 64 → BitVec 64 → BitVec 64)
    (hc : ∀ x y w, Calls Try.prog k #[.int .u64 (U x), .int .u64 (U y)] w fun e w' => e = .returned (.int .u64 (U (op x y))) ∧ w' = w) (a b c d : BitVec 64) (w : World) :
    Calls Try.prog 99 #[MV a b, MV c d, .func (.func k) #[] #[]] w fun e w' => e = .returned (MV (op a c) (op b d)) ∧ Below w.heap.size w w' := by
  have Hc := Lib.hid hc
  clear hc
  go_enter Try.func99, Try.ntmps99
  go_wp2
  refine wp_loop_rounds 3 ?_
  rw [rounds_succ]
  go_wp2
  refine wp_tail 9 (by kernel_rfl) (by kernel_rfl) ?_
  simp only [List.take_succ_cons, List.take_zero, List.drop_succ_cons, List.drop_zero]
  repeat still_step
  still_call (Hc.out _ _ _)
  refine wpStill_nil ?_
  go_wp2
  rw [rounds_succ]
  go_wp2
  refine wp_tail 9 (by kernel_rfl) (by kernel_rfl) ?_
  simp only [List.take_succ_cons, List.take_zero, List.drop_succ_cons, List.drop_zero]
  repeat still_step
  still_call (Hc.out _ _ _)
  refine wpStill_nil ?_
  go_wp2
  rw [rounds_succ]
  go_wp2
  go_returns
  refine ⟨rfl, ?_⟩
  go_grown

end Go.Proofs.Ytlfmffjlmhpcdaa
