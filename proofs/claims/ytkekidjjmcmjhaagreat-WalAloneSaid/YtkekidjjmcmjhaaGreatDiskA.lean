/- The contracts of the small functions of package disk: New, Room, Ops, Dead, Size, lives. -/
import Derived.Test.YtkekidjjmcmjhaaGreatDisk
namespace Go.Proofs.YtkekidjjmcmjhaaGreat
open Go.RowKit
set_option maxRecDepth 100000

theorem w64 {x : Int} (h : -9223372036854775808 ≤ x) (h2 : x ≤ 9223372036854775807) : W64 x := WalkArith.wf_i64 (by omega)

abbrev DP (b : Nat) : Value := .pointer (some ⟨b, 0, none⟩)
section
variable {w : World} {A : List Nat} {b m : Nat} {s : DS}

theorem f_Room (h : Disk w A b m s) : Calls Tryz.prog 76 #[DP b] w fun e w' => e = .returned (.int .i64 s.room) ∧ Below w.heap.size w w' := by
  have c0 := h.c0
  clear h
  go_enter Tryz.func76, Tryz.ntmps76
  go_wp2
  go_ret
  exact ⟨rfl, Below.refl _ _⟩
theorem f_Ops (h : Disk w A b m s) : Calls Tryz.prog 72 #[DP b] w fun e w' => e = .returned (.int .i64 s.ops) ∧ Below w.heap.size w w' := by
  have c0 := h.c2
  clear h
  go_enter Tryz.func72, Tryz.ntmps72
  go_wp2
  go_ret
  exact ⟨rfl, Below.refl _ _⟩
theorem f_Dead (h : Disk w A b m s) : Calls Tryz.prog 73 #[DP b] w fun e w' => e = .returned (.bool s.dead) ∧ Below w.heap.size w w' := by
  have c0 := h.c5
  clear h
  go_enter Tryz.func73, Tryz.ntmps73
  go_wp2
  go_ret
  exact ⟨rfl, Below.refl _ _⟩

theorem zero_file (w : World) : (zeroValue 75).run Tryz.prog w = .ok zf w := by kernel_rfl

theorem Disk.look (h : Disk w A b m s) (x : Int) : ∃ G sl, Mp Tryz.prog 3 w m 4 G ∧ (∀ y, FileOp w A (G y) (s.fl y)) ∧ (G x).getD zf = .agg #[sl, .int .i64 (s.at x).sy, .bool (s.at x).kp] ∧ (G x).isSome = (s.fl x).isSome ∧ Byt w sl (s.at x).bs ∧
    ∀ ad n c, sl = .slice (some ad) n c → ad.block < w.heap.size ∧ ad.block ∉ A := by
  obtain ⟨G, g1, g2⟩ := h.files
  obtain ⟨⟨sl, e, h1, h2⟩, h3⟩ := (g2 x).get
  exact ⟨G, sl, g1, g2, e, h3, h1, h2⟩

@[local go_sem] theorem field_all (a : Option Addr) (n c : Nat) (y k : Value) (w : World) : (Instr.field 75 (.agg #[.slice a n c, y, k]) 0).run Tryz.prog w = .ok (.slice a n c) w := by rfl

theorem f_Size (h : Disk w A b m s) (x : Int) (hx : W64 x) : Calls Tryz.prog 13 #[DP b, .int .i64 x] w fun e w' => e = .returned (.int .i64 (s.len x)) ∧ Below w.heap.size w w' := by
  obtain ⟨G, sl, g1, g2, e, -, hB, -⟩ := h.look x
  obtain ⟨a, cap, rfl, -⟩ := hB.open
  have c0 := h.c1
  clear h hB
  have E := Lib.hid e
  clear e
  go_enter Tryz.func13, Tryz.ntmps13
  go_wp2_with (at_lookup; refine wp_look _ rfl _ _ 69 rfl 3 75 Tryz.underlying3 Tryz.underlying69 (zero_file _) m 4 rfl g1 x rfl hx _ E.out ?_)
  go_ret
  exact ⟨rfl, Below.refl _ _⟩

/-! ### names -/
theorem f_wrong (x : Int) (w : World) : Calls Tryz.prog 77 #[.int .i64 x] w fun e w' => e = .returned (.bool (!nameB x)) ∧ w' = w := by
  go_enter Tryz.func77, Tryz.ntmps77
  by_cases h : x < 0
  · go_wp2
    go_ret
    exact ⟨by (have h0 : ¬ (0 ≤ x) := by omega); simp [nameB, h0], rfl⟩
  · go_wp2
    go_ret
    refine ⟨?_, rfl⟩
    have h0 : 0 ≤ x := by omega
    by_cases h4 : x < 4
    · have h5 : ¬ (4 ≤ x) := by omega
      simp [nameB, h4, h0, h5]
    · have h5 : 4 ≤ x := by omega
      simp [nameB, h4, h0, h5]
end
end Go.Proofs.YtkekidjjmcmjhaaGreat
