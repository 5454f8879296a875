/- The contracts of the functions of package mask that work word by word: each, and, or, minus, all, below, slot, bit, Check. -/
import Derived.Test.YtbanmngngfanhaaDoorProg
import Derived.Test.YtbanmngngfanhaaDoorKit
namespace Go.Proofs.YtbanmngngfanhaaDoor
open Go.RowKit

abbrev MV (a b : BitVec 64) : Value := .agg #[.int .u64 (U a), .int .u64 (U b)]

theorem c_andNot (a b : BitVec 64) (w : World) : Calls Tryd.prog 38 #[.int .u64 (U a), .int .u64 (U b)] w fun e w' => e = .returned (.int .u64 (U (a &&& ~~~b))) ∧ w' = w := by
  go_enter Tryd.func38, Tryd.ntmps38
  go_wp2
  go_ret
  exact ⟨by rw [← bits_andNot_U]; rfl, rfl⟩
theorem c_and (a b : BitVec 64) (w : World) : Calls Tryd.prog 37 #[.int .u64 (U a), .int .u64 (U b)] w fun e w' => e = .returned (.int .u64 (U (a &&& b))) ∧ w' = w := by
  go_enter Tryd.func37, Tryd.ntmps37
  go_wp2
  go_ret
  exact ⟨by rw [← bits_and_U]; rfl, rfl⟩
theorem c_or (a b : BitVec 64) (w : World) : Calls Tryd.prog 39 #[.int .u64 (U a), .int .u64 (U b)] w fun e w' => e = .returned (.int .u64 (U (a ||| b))) ∧ w' = w := by
  go_enter Tryd.func39, Tryd.ntmps39
  go_wp2
  go_ret
  exact ⟨by rw [← bits_or_U]; rfl, rfl⟩

set_option maxHeartbeats 1000000 in
theorem c_each (k : Nat) (hk : k = 38 ∨ k = 37 ∨ k = 39) (op : BitVec 64 → BitVec 64 → BitVec 64)
    (hc : ∀ x y w, Calls Tryd.prog k #[.int .u64 (U x), .int .u64 (U y)] w fun e w' => e = .returned (.int .u64 (U (op x y))) ∧ w' = w) (a b c d : BitVec 64) (w : World) :
    Calls Tryd.prog 36 #[MV a b, MV c d, .func (.func k) #[] #[]] w fun e w' => e = .returned (MV (op a c) (op b d)) ∧ Below w.heap.size w w' := by
  have Hc := Lib.hid hc
  clear hc
  rcases hk with rfl | rfl | rfl
  all_goals
    go_enter Tryd.func36, Tryd.ntmps36
    go_wp2
    refine wp_loop_rounds 3 ?_
    rw [rounds_succ]
    go_wp2
    refine wp_tail 9 (by kernel_rfl) (by kernel_rfl) ?_
    simp only [List.take_succ_cons, List.take_zero, List.drop_succ_cons, List.drop_zero]
    repeat still_step
    still_call (Hc.out _ _ _)
    refine wpStill_nil ?_
    go_wp2
    rw [rounds_succ]
    go_wp2
    refine wp_tail 9 (by kernel_rfl) (by kernel_rfl) ?_
    simp only [List.take_succ_cons, List.take_zero, List.drop_succ_cons, List.drop_zero]
    repeat still_step
    still_call (Hc.out _ _ _)
    refine wpStill_nil ?_
    go_wp2
    rw [rounds_succ]
    go_wp2
    go_returns
    refine ⟨rfl, ?_⟩
    go_grown

end Go.Proofs.YtbanmngngfanhaaDoor
