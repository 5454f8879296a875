/- wakes: the disk does something. -/
import Derived.Test.YtlhkacjfonihjaaOpRun
import Derived.Laws.MakeOwn
namespace Go.Proofs.Ytlhkacjfonihjaa
open Go.RowKit
set_option maxRecDepth 100000

def z10 : List Int := List.replicate 10 0
def z20 : List Int := List.replicate 20 0
def k1 : DS := appendS (newS 40) 0 z10
def k2 : DS := withS k1 0 ask0 syncF
def k3 : DS := appendS k2 0 z20
def k4 : DS := crashS k3 [true, false, true]
theorem k1_e : appendE (newS 40) 0 z10 = 0 := by decide +kernel
theorem k2_e : withE k1 0 ask0 = 0 := by decide +kernel
theorem k3_e : appendE k2 0 z20 = 0 := by decide +kernel
theorem k3_p : pendL k3 = [0, 0, 0] := by decide +kernel
theorem k4_l : k4.len 0 = 18 := by decide +kernel
theorem zero_byte (n : Nat) : ∀ c ∈ List.replicate n (0 : Int), 0 ≤ c ∧ c < 256 := by
  intro c hc
  rw [(List.mem_replicate.1 hc).2]; decide
theorem k1_ok : k1.Ok := append_ok (new_ok (by decide) (by decide)) 0 z10 (zero_byte 10)
theorem k2_ok : k2.Ok := sync_ok k1_ok 0
theorem k3_ok : k3.Ok := append_ok k2_ok 0 z20 (zero_byte 20)
theorem k_ops : k1.ops = 1 ∧ k2.ops = 2 ∧ k3.ops = 3 := by decide +kernel

theorem made_bytes (n : Nat) : (madeCells #[Value.int .u8 0] n).toList = List.replicate n (Value.int .u8 0) := by
  apply List.ext_getElem
  · simp [madeCells]
  · intro i h1 h2
    simp [madeCells, Nat.mod_one]

theorem make_bytes (W : World) (n : Nat) (hn : n ≤ 1000) : ∃ w', (Instr.makeSlice 31 (.int .i64 n) (.int .i64 n)).run Try.prog W = .ok (.slice (some ⟨W.heap.size, 0, none⟩) n n) w' ∧
    w'.ownsRow W.heap.size 5 1 (.slice (some ⟨W.heap.size, 0, none⟩) n n) n ((List.replicate n (0 : Int)).map (Value.int .u8)) ∧ Below W.heap.size W w' := by
  obtain ⟨i0, hi, hz0, hz1, hz2⟩ := info_parts info_byte
  obtain ⟨w', h1, h2, h3⟩ := run_makeSlice_full (P := Try.prog) (w := W) W.heap.size 31 5 i0 _ 1 Try.underlying31 hi hz0 hz1 .i64 .i64 n (by omega) (by rw [hz2]; omega) (by unfold maxLen; omega) (Nat.le_refl _)
  refine ⟨w', h1, ?_, ?_⟩
  · have e : ((List.replicate n (0 : Int)).map (Value.int .u8)) = (List.replicate n (Value.int .u8 0)) := by simp
    rw [e]
    rw [← made_bytes]
    simpa [Value.cells] using h2
  · exact ⟨h3.os, h3.tape, h3.output, h3.size, fun i hi => h3.block i hi (by simp)⟩

theorem Below.drewn {n : Nat} {w w' : World} (q : Nat) (h : Below n w w') : Below n w (w'.drewN q) := ⟨h.os, h.tape, h.output, h.size, h.block⟩
theorem fresh_zeros (w7 : World) (t : Nat) {w8 : World} (h8 : w8 = w7.alloc (Obj.cells #[Value.int IntKind.i64 0, Value.int IntKind.i64 0, Value.int IntKind.i64 0] t)) (j : Nat) (hj : j < [(0:Int), 0, 0].length) :
    w8.cell? ⟨w7.heap.size, 0 + j, none⟩ = some (.int .i64 ([(0:Int), 0, 0].getD j 0)) := by
  have h := Sl.fresh w7 t 3 [Value.int IntKind.i64 0, Value.int IntKind.i64 0, Value.int IntKind.i64 0] rfl (by decide)
  obtain ⟨a, cap, hv, hl, hm, hc⟩ := h.form
  obtain ⟨b, off, ha, hlt, hcell⟩ := hc (by simp)
  have := hcell j (by simpa using hj)
  simp only [Value.slice.injEq] at hv
  rw [ha] at hv
  simp only [Option.some.injEq, Addr.mk.injEq] at hv
  rw [← hv.1.1, ← hv.1.2.1] at this
  rw [h8]
  refine Eq.trans this ?_
  rcases j with _ | _ | _ | j
  · rfl
  · rfl
  · rfl
  · simp at hj; omega

theorem f_wakes (w : World) : Calls Try.prog 9 #[] w fun e w' => e = .returned (.bool true) ∧ Below w.heap.size w w' := by
  go_enter Try.func9, Try.ntmps9
  go_wp2_with fail
  refine (f_New 40 w (by omega) (by omega)).mono ?_
  rintro e w1 ⟨rfl, h1, hb1⟩
  have H1 := Lib.hid h1
  clear h1
  obtain ⟨w2, m2, o2, hb2⟩ := make_bytes w1 10 (by omega)
  replace m2 : (Instr.makeSlice 31 (.int .i64 10) (.int .i64 10)).run Try.prog w1 = _ := m2
  have h2 := H1.out.below hb2
  have H2 := Lib.hid h2
  have hl1 : ∀ ad n c, Value.slice (some ⟨w1.heap.size, 0, none⟩) 10 10 = .slice (some ad) n c → ad.block < w2.heap.size ∧ ad.block ≠ w.heap.size + 1 ∧ ad.block ≠ w.heap.size := fun ad n c e => by
    simp only [Value.slice.injEq, Option.some.injEq] at e
    rw [← e.1]
    have := H1.out.blt
    have := (o2.lt w1.heap.size rfl).2
    dsimp; omega
  have hy2 : Byt w2 (.slice (some ⟨w1.heap.size, 0, none⟩) 10 10) z10 := Byt.of_owns (o2 : w2.ownsRow w1.heap.size 5 1 _ 10 (z10.map (Value.int .u8))) rfl
  go_wp2_with fail
  refine (f_Append H2.out (new_ok (by decide) (by decide)) (by decide) 0 (by decide) _ z10 hy2 (by decide) hl1).mono ?_
  rintro e w3 ⟨rfl, h3, t3⟩
  rw [k1_e]
  replace h3 : Disk w3 _ _ _ k1 := h3
  have H3 := Lib.hid h3
  clear h2 h3 m2 o2 hy2 hl1
  go_wp2_with fail
  refine (f_Sync H3.out k1_ok (by rw [k_ops.1]; decide) 0 (by decide)).mono ?_
  rintro e w4 ⟨rfl, h4, t4⟩
  rw [k2_e]
  replace h4 : Disk w4 _ _ _ k2 := h4
  have H4 := Lib.hid h4
  clear h4
  obtain ⟨w5, m5, o5, hb5⟩ := make_bytes w4 20 (by omega)
  replace m5 : (Instr.makeSlice 31 (.int .i64 20) (.int .i64 20)).run Try.prog w4 = _ := m5
  have h5 := H4.out.below hb5
  have H5 := Lib.hid h5
  have hl5 : ∀ ad n c, Value.slice (some ⟨w4.heap.size, 0, none⟩) 20 20 = .slice (some ad) n c → ad.block < w5.heap.size ∧ ad.block ≠ w.heap.size + 1 ∧ ad.block ≠ w.heap.size := fun ad n c e => by
    simp only [Value.slice.injEq, Option.some.injEq] at e
    rw [← e.1]
    have := H4.out.blt
    have := (o5.lt w4.heap.size rfl).2
    dsimp; omega
  have hy5 : Byt w5 (.slice (some ⟨w4.heap.size, 0, none⟩) 20 20) z20 := Byt.of_owns (o5 : w5.ownsRow w4.heap.size 5 1 _ 20 (z20.map (Value.int .u8))) rfl
  go_wp2_with fail
  refine (f_Append H5.out k2_ok (by rw [k_ops.2.1]; decide) 0 (by decide) _ z20 hy5 (by decide) hl5).mono ?_
  rintro e w6 ⟨rfl, h6, t6⟩
  rw [k3_e]
  replace h6 : Disk w6 _ _ _ k3 := h6
  have H6 := Lib.hid h6
  clear h5 h6 m5 o5 hy5 hl5
  go_wp2_with fail
  refine (f_Pending H6.out k3_ok).mono ?_
  rintro e w7 ⟨⟨v7, rfl, o7⟩, hb7⟩
  rw [k3_p] at o7
  obtain ⟨a7, c7, g7, og7, rfl, hle7, hcap7, hrow7⟩ := row_open o7
  obtain ⟨rfl, hBg, hgo, -, hcells⟩ := hrow7 (by decide)
  have H7 := Lib.hid (H6.out.below hb7)
  have hg7 := (Array.getElem?_eq_some_iff.1 hgo).1
  have HC7 := Lib.hid hcells
  clear hrow7 hcells hgo o7
  go_wp2_with fail
  refine (Try.slices_Equal_int g7 0 3 c7 w7.heap.size 0 3 3 [0, 0, 0] [0, 0, 0] _ (by decide) (by decide) (by decide) (by decide) (fun j hj => ?_) (fun j hj => ?_)).mono ?_
  · rw [Nat.zero_add]
    rw [(((Below.refl _ w7).alloc (Nat.le_refl _) _).cell (p := ⟨g7, j, none⟩) hg7).trans (HC7.out j hj), List.getD_eq_getElem?_getD, List.getElem?_eq_getElem hj]; rfl
  · exact fresh_zeros w7 _ rfl j hj
  rintro e w8 ⟨rfl, q, rfl⟩
  dsimp only
  obtain ⟨w8, h8⟩ : ∃ w8, w8 = (w7.alloc (Obj.cells #[Value.int IntKind.i64 0, Value.int IntKind.i64 0, Value.int IntKind.i64 0] 3)).drewN q := ⟨_, rfl⟩
  have hb8 : Below w7.heap.size w7 w8 := by
    rw [h8]; exact Below.drewn q ((Below.refl _ w7).alloc (Nat.le_refl _) _)
  rw [← h8]
  have H8 := Lib.hid (H7.out.below hb8)
  clear h8 HC7
  go_wp2_with fail
  have hk : Bools (w8.alloc (Obj.cells #[Value.bool true, Value.bool false, Value.bool true] 4)) (Value.slice (some { block := w8.heap.size, off := 0 }) 3 3) [true, false, true] :=
    Sl.fresh w8 _ 3 [Value.bool true, Value.bool false, Value.bool true] rfl (by decide)
  refine (f_Crash (H8.out.below ((Below.refl _ w8).alloc (Nat.le_refl _) _)) k3_ok _ [true, false, true] hk (by decide)).mono ?_
  rintro e w9 ⟨rfl, h9, t9⟩
  replace h9 : Disk w9 _ _ _ k4 := h9
  have H9 := Lib.hid h9
  clear h9 hk
  go_wp2_with fail
  refine (f_Size H9.out 0 (by decide)).mono ?_
  rintro e w10 ⟨rfl, hb10⟩
  rw [k4_l]
  go_wp2
  go_ret
  refine ⟨rfl, ?_⟩
  have z1 := H1.out.blt
  have n1 := hb1.size
  have n2 := hb2.size
  have n3 := t3.size
  have n4 := t4.size
  have n5 := hb5.size
  have n6 := t6.size
  have n7 := hb7.size
  have n8 := hb8.size
  have n9 := t9.size
  simp only [World.size_alloc] at n9
  have hL : ∀ a ∈ [w.heap.size + 1, w.heap.size], w.heap.size ≤ a := by simp
  exact hb1.trans ((hb2.mono (by omega)).trans ((t3.below (by omega) hL).trans ((t4.below (by omega) hL).trans ((hb5.mono (by omega)).trans ((t6.below (by omega) hL).trans ((hb7.mono (by omega)).trans ((hb8.mono (by omega)).trans ((((Below.refl _ w8).alloc (Nat.le_refl _) _).mono (by omega)).trans ((t9.below (by simp only [World.size_alloc]; omega) hL).trans (hb10.mono (by omega)))))))))))
end Go.Proofs.Ytlhkacjfonihjaa
