/- The contracts of slices.Grow from nothing, and slices.Concat of two slices of bytes. -/
import Derived.Test.YtkekidjjmcmjhaaGreatDiskD
import Derived.Lib.Walk
import Derived.Lib.SliceRun
import Derived.Lib.AppendZerosOnto
namespace Go.Proofs.YtkekidjjmcmjhaaGreat
open Go.RowKit Go.Lib
set_option maxRecDepth 100000

set_option maxHeartbeats 2000000 in
theorem f_Grow (n : Nat) (w : World) (hn : n ≤ 1000000) :
    Calls Tryz.prog 79 #[.slice none 0 0, .int .i64 n] w fun e w' => (∃ v', e = .returned v' ∧ w'.ownsRow w.heap.size 5 1 v' 0 []) ∧ Below w.heap.size w w' := by
  have h1 : ¬ ((n : Int) < 0) := by omega
  have h3 : IntKind.i64.wrap (n : Int) = n := wr64 (by omega) (by omega)
  obtain ⟨i0, hi, hz0, hz1, hz2⟩ := info_parts info_byte
  have z25 : ∀ w, (Go.sizeOf 5).run Tryz.prog w = .ok 1 w := fun w => by simp [Go.sizeOf, typeInfo, hi, hz1]
  by_cases h0 : n = 0
  · subst h0
    clear h1 h3 hi hz0 hz1 hz2 z25
    go_enter Tryz.func79, Tryz.ntmps79
    go_wp2
    go_ret
    exact ⟨⟨_, rfl, World.ownsRow_nil _ _ _ _⟩, Below.refl _ _⟩
  · have h4 : (n : Int) > 0 := by omega
    have hrz : ∀ ty, (Builtin.append_ #[24, 3] ty #[.slice none 0 0, .int .i64 (n : Int)]).run Tryz.prog w =
        .ok (.slice (some ⟨w.heap.size, 0, none⟩) n (grownCap w n 0 5)) (w.drew.alloc (.cells ((#[] : Array Value) ++ Builtin.zeroCells (Value.int .u8 0).cells n ++ Builtin.zeroCells (Value.int .u8 0).cells (grownCap w n 0 5 - n)) 5)) := fun ty => by
      have h := Lib.run_append_grow_zeros w 24 3 ty 5 i0 (.int .u8 0) .i64 .i64 Tryz.underlying24 Tryz.underlying3 hi hz0 none 0 0 [] (run_firstCells_none w.drew i0.size 0 0 0) n (by omega) (by omega) (by omega) (by omega)
        (by rw [hz2]; omega) (growslice_fits (by omega) (by rw [hz2]; omega))
      rw [Nat.zero_add] at h
      exact h
    have hGn : n ≤ grownCap w n 0 5 := grownCap_ge w _ _ _
    have hG63 : grownCap w n 0 5 ≤ maxLen := grownCap_le_maxLen w n 0 5 (by unfold maxLen; omega)
    obtain ⟨G, hG⟩ : ∃ G, G = grownCap w n 0 5 := ⟨_, rfl⟩
    rw [← hG] at hrz hGn hG63
    clear hG hi hz0 hz1 hz2
    have hG2 : G ≤ 9223372036854775807 := by unfold maxLen at hG63; omega
    obtain ⟨cs, hcs⟩ : ∃ cs : Array Value, (#[] : Array Value) ++ Builtin.zeroCells (Value.int .u8 0).cells n ++ Builtin.zeroCells (Value.int .u8 0).cells (G - n) = cs := ⟨_, rfl⟩
    have hsz : cs.size = G * 1 := by
      rw [← hcs]
      simp [Builtin.zeroCells, Value.cells]; omega
    rw [hcs] at hrz
    clear hcs
    go_enter Tryz.func79, Tryz.ntmps79
    go_wp2_with (at_builtin; refine Lib.wpList_append_run _ rfl _ _ _ _ rfl _ _ rfl rfl _ _ (hrz _) ?_)
    go_ret
    refine ⟨⟨_, rfl, World.ownsRow_made w.drew cs G (by simp) hG63 hsz⟩, ?_⟩
    exact ((Below.refl _ _).drew).alloc (by simp) _

set_option maxHeartbeats 2000000 in
theorem f_Concat (v x y : Value) (l1 l2 : List Int) (w : World) (hv : Sl w v 2 [x, y]) (hx : Byt w x l1) (hy : Byt w y l2) (h1 : l1.length ≤ 400000) (h2 : l2.length ≤ 400000) :
    Calls Tryz.prog 38 #[v] w fun e w' => (∃ v', e = .returned v' ∧ w'.ownsRow w.heap.size 5 1 v' (l1 ++ l2).length ((l1 ++ l2).map (Value.int .u8))) ∧ Below w.heap.size w w' := by
  obtain ⟨a, cap, rfl, hl, hm, hc⟩ := hv.form
  obtain ⟨bb, off, rfl, hlt, hcell⟩ := hc (by simp)
  have k0 : w.cell? ⟨bb, off, none⟩ = some x := hcell 0 (by simp)
  have k1 : w.cell? ⟨bb, off + 1, none⟩ = some y := hcell 1 (by simp)
  clear hc hcell
  obtain ⟨a1, cap1, rfl, -⟩ := hx.open
  obtain ⟨a2, cap2, rfl, -⟩ := hy.open
  have HX := Lib.hid hx
  have HY := Lib.hid hy
  have e1 : IntKind.i64.wrap ((l1.length : Int) + (l2.length : Int)) = ((l1.length + l2.length : Nat) : Int) := by rw [wr64 (by omega) (by omega)]; simp
  have e0 : IntKind.i64.wrap (l1.length : Int) = (l1.length : Int) := wr64 (by omega) (by omega)
  clear hx hy hv
  go_enter Tryz.func38, Tryz.ntmps38
  go_wp2
  refine wp_loop_rounds 3 ?_
  rw [rounds_succ]
  go_wp2
  rw [rounds_succ]
  go_wp2
  rw [rounds_succ]
  go_wp2_with (go_at_call 79; refine (f_Grow (l1.length + l2.length) _ (by omega)).mono ?_; rintro e w2 ⟨⟨v2, rfl, own2⟩, hb2⟩)
  have m0 : w2.cell? ⟨bb, off, none⟩ = some (.slice a1 l1.length cap1) := (hb2.cell (p := ⟨bb, off, none⟩) hlt).trans k0
  have m1 : w2.cell? ⟨bb, off + 1, none⟩ = some (.slice a2 l2.length cap2) := (hb2.cell (p := ⟨bb, off + 1, none⟩) hlt).trans k1
  have hs2 := hb2.size
  refine wp_loop_rounds 3 ?_
  rw [rounds_succ]
  go_wp2_with (at_builtin; refine append_any rfl _ _ 24 rfl w.heap.size 5 (.int .u8 0) 1 1 Tryz.underlying24 info_byte rfl (by decide) _ 0 [] rfl own2 _ l1.length (l1.map (Value.int .u8)) rfl (HX.out.1.grown hb2) HX.out.2 (by simp) (Byt.one _) (by unfold maxLen; omega) (by omega) hs2 ?_; intro v3 w3 own3 hg3; refine Hid.out ?_)
  refine Lib.hid ?_
  have hb3 : Below w.heap.size w w3 := hb2.grown hg3 hs2 (fun q hq => (own2.lt q hq).1)
  rw [Nat.zero_add, List.nil_append] at own3
  have hs3 := hb3.size
  have n1 : w3.cell? ⟨bb, off + 1, none⟩ = some (.slice a2 l2.length cap2) := (hb3.cell (p := ⟨bb, off + 1, none⟩) hlt).trans k1
  clear m0 m1 own2 hg3
  go_wp2
  rw [rounds_succ]
  go_wp2_with (at_builtin; refine append_any rfl _ _ 24 rfl w.heap.size 5 (.int .u8 0) 1 1 Tryz.underlying24 info_byte rfl (by decide) _ _ _ rfl own3 _ l2.length (l2.map (Value.int .u8)) rfl (HY.out.1.grown hb3) HY.out.2 (by simp) (Byt.one _) (by unfold maxLen; omega) (by omega) hs3 ?_; intro v4 w4 own4 hg4; refine Hid.out ?_)
  refine Lib.hid ?_
  have hb4 : Below w.heap.size w w4 := hb3.grown hg4 hs3 (fun q hq => (own3.lt q hq).1)
  have HO := Lib.hid own4
  clear own4 own3 hg4 n1
  go_wp2
  rw [rounds_succ]
  go_wp2
  go_ret
  exact ⟨⟨_, rfl, by simpa using HO.out⟩, hb4⟩
end Go.Proofs.YtkekidjjmcmjhaaGreat
