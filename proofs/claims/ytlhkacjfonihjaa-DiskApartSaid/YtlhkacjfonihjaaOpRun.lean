/- The contract of run: what is done to a disk. -/
import Derived.Test.YtlhkacjfonihjaaFew
namespace Go.Proofs.Ytlhkacjfonihjaa
open Go.RowKit
set_option maxRecDepth 100000

def ku (k : Int) : Int := (IntKind.u64.wrap k).tmod 12
def runS (s : DS) (o : Opr) : DS :=
  if ku o.kind = 3 ∨ ku o.kind = 4 then withS s o.file ask0 syncF
  else if ku o.kind = 5 then withS s o.file ask0 id
  else if ku o.kind = 6 then withS s o.file (askT o.n) (truncF o.n)
  else if ku o.kind = 7 then renameS s o.file o.n
  else if ku o.kind = 8 then removeS s o.file
  else if ku o.kind = 9 then armS s o.n
  else if ku o.kind = 10 then failS s o.n
  else if ku o.kind = 11 then crashS s (o.keep.take 200)
  else appendS s o.file (o.bytes.take 300)
def runE (s : DS) (o : Opr) : Int :=
  if ku o.kind = 3 ∨ ku o.kind = 4 then withE s o.file ask0
  else if ku o.kind = 5 then withE s o.file ask0
  else if ku o.kind = 6 then withE s o.file (askT o.n)
  else if ku o.kind = 7 then renameE s o.file o.n
  else if ku o.kind = 8 then withE s o.file ask0
  else if ku o.kind = 9 then setsE s o.n
  else if ku o.kind = 10 then setsE s o.n
  else if ku o.kind = 11 then 0
  else appendE s o.file (o.bytes.take 300)
def runB (s : DS) (o : Opr) : List Int := if ku o.kind = 5 then (if withE s o.file ask0 = 0 then (s.at o.file).bs else []) else []

theorem frozen_own {w : World} {B e size n c : Nat} {g : Nat} {xs : List Value} (h : w.ownsRow B e size (.slice (some ⟨g, 0, none⟩) n c) n xs) (o : Nat) : w.frozen? ⟨g, o, none⟩ = false := by
  rcases h.2 with ⟨h1, _⟩ | ⟨g', cap, cur, hv, hB, hg, _⟩
  · simp at h1
  · simp only [Value.slice.injEq, Option.some.injEq, Addr.mk.injEq] at hv
    rw [← hv.1.1] at hg
    simp [World.frozen?, hg]
theorem cell_own {w : World} {B e n c : Nat} {g : Nat} {xs : List Value} (h : w.ownsRow B e 1 (.slice (some ⟨g, 0, none⟩) n c) n xs) (i : Nat) (hi : i < xs.length) : w.cell? ⟨g, i, none⟩ = some xs[i] := by
  have := h.cells (g := g) rfl i xs[i] (by simp [hi])
  have e : (⟨g, 0, none⟩ : Addr).add i = ⟨g, i, none⟩ := by unfold Addr.add; split <;> simp_all
  rw [e] at this
  exact this

section
variable {w : World} {A : List Nat} {b m : Nat} {s : DS}

set_option maxRecDepth 100000 in
set_option maxHeartbeats 4000000 in
theorem f_run (h : Disk w A b m s) (hok : s.Ok) (hop : s.ops < 1000000) (o : Opr) (ho : OpIs w o) : Calls Try.prog 14 #[OV o, DP b] w fun e w' =>
    ∃ v, e = .returned (.tuple #[v, .int .i64 (runE s o)]) ∧ Byt w' v (runB s o) ∧ Disk w' A b m (runS s o) ∧ Tw w.heap.size [b, m] w w' := by
  have HD := Lib.hid h
  have hbl := h.blt
  have hml := h.mlt
  have hb1 : Below w.heap.size w (w.alloc (.cells #[.int .i64 o.kind, .int .i64 o.file, .int .i64 o.n, o.bv, o.kv] 34)) := (Below.refl _ _).alloc (Nat.le_refl _) _
  have HF := f_few (ho.grown hb1)
  have HO := Lib.hid ho
  obtain ⟨ab, cb, ebv, -⟩ := ho.b.open
  obtain ⟨ak, ck, ekv, -⟩ := ho.k.1.open
  obtain ⟨kind, file, n, bv, kv, bytes, keep⟩ := o
  dsimp only at ebv ekv
  subst ebv ekv
  have HFF := Lib.hid HF
  clear h ho HF
  obtain ⟨S0, hS0⟩ : ∃ x, runS s ⟨kind, file, n, .slice ab bytes.length cb, .slice ak keep.length ck, bytes, keep⟩ = x := ⟨_, rfl⟩
  obtain ⟨E0, hE0⟩ : ∃ x, runE s ⟨kind, file, n, .slice ab bytes.length cb, .slice ak keep.length ck, bytes, keep⟩ = x := ⟨_, rfl⟩
  obtain ⟨B0, hB0⟩ : ∃ x, runB s ⟨kind, file, n, .slice ab bytes.length cb, .slice ak keep.length ck, bytes, keep⟩ = x := ⟨_, rfl⟩
  rw [hS0, hE0, hB0]
  unfold runS at hS0
  unfold runE at hE0
  unfold runB at hB0
  dsimp only at hS0 hE0 hB0
  have HS := Lib.hid hS0
  have HE := Lib.hid hE0
  have HBB := Lib.hid hB0
  clear hS0 hE0 hB0
  go_enter Try.func14, Try.ntmps14
  go_wp2_with fail
  refine HFF.out.mono ?_
  rintro e w1 ⟨bv, kv, rfl, ownb, ownk, hne, hb2⟩
  dsimp only at ownb ownk ⊢
  have hs1 := hb2.size
  have hs0 : (w.alloc (.cells #[.int .i64 kind, .int .i64 file, .int .i64 n, .slice ab bytes.length cb, .slice ak keep.length ck] 34)).heap.size = w.heap.size + 1 := by simp
  rw [hs0] at hs1 ownb ownk
  obtain ⟨p1, q1, c1, rfl, hp1⟩ := own_slice ownb
  obtain ⟨p2, q2, c2, rfl, hp2⟩ := own_slice ownk
  have c00 : w1.cell? ⟨w.heap.size, 0, none⟩ = some (.int .i64 kind) := by rw [hb2.cell (p := ⟨w.heap.size, 0, none⟩) (by dsimp; omega)]; go_simp
  have c01 : w1.cell? ⟨w.heap.size, 1, none⟩ = some (.int .i64 file) := by rw [hb2.cell (p := ⟨w.heap.size, 1, none⟩) (by dsimp; omega)]; go_simp
  have c02 : w1.cell? ⟨w.heap.size, 2, none⟩ = some (.int .i64 n) := by rw [hb2.cell (p := ⟨w.heap.size, 2, none⟩) (by dsimp; omega)]; go_simp
  have c03 : w1.cell? ⟨w.heap.size, 3, none⟩ = some (.slice ab bytes.length cb) := by rw [hb2.cell (p := ⟨w.heap.size, 3, none⟩) (by dsimp; omega)]; go_simp
  have c04 : w1.cell? ⟨w.heap.size, 4, none⟩ = some (.slice ak keep.length ck) := by rw [hb2.cell (p := ⟨w.heap.size, 4, none⟩) (by dsimp; omega)]; go_simp
  have g00 : w1.frozen? ⟨w.heap.size, 0, none⟩ = false := by rw [hb2.frozen (p := ⟨w.heap.size, 0, none⟩) (by dsimp; omega)]; go_simp
  have g01 : w1.frozen? ⟨w.heap.size, 1, none⟩ = false := by rw [hb2.frozen (p := ⟨w.heap.size, 1, none⟩) (by dsimp; omega)]; go_simp
  have g02 : w1.frozen? ⟨w.heap.size, 2, none⟩ = false := by rw [hb2.frozen (p := ⟨w.heap.size, 2, none⟩) (by dsimp; omega)]; go_simp
  have g03 : w1.frozen? ⟨w.heap.size, 3, none⟩ = false := by rw [hb2.frozen (p := ⟨w.heap.size, 3, none⟩) (by dsimp; omega)]; go_simp
  have g04 : w1.frozen? ⟨w.heap.size, 4, none⟩ = false := by rw [hb2.frozen (p := ⟨w.heap.size, 4, none⟩) (by dsimp; omega)]; go_simp
  have OB := Lib.hid ownb
  have OK := Lib.hid ownk
  clear ownb ownk
  obtain ⟨W2, hW2⟩ : ∃ W2, ((((w1.setCell ⟨w.heap.size, 0, none⟩ (.int .i64 kind)).setCell ⟨w.heap.size, 1, none⟩ (.int .i64 file)).setCell ⟨w.heap.size, 2, none⟩ (.int .i64 n)).setCell ⟨w.heap.size, 3, none⟩ (.slice p1 q1 c1)).setCell ⟨w.heap.size, 4, none⟩ (.slice p2 q2 c2) = W2 := ⟨_, rfl⟩
  have d00 : W2.cell? ⟨w.heap.size, 0, none⟩ = some (.int .i64 kind) := by rw [← hW2]; simp [cell_set, c00]
  have d01 : W2.cell? ⟨w.heap.size, 1, none⟩ = some (.int .i64 file) := by rw [← hW2]; simp [cell_set, c01]
  have d02 : W2.cell? ⟨w.heap.size, 2, none⟩ = some (.int .i64 n) := by rw [← hW2]; simp [cell_set, c02]
  have d03 : W2.cell? ⟨w.heap.size, 3, none⟩ = some (.slice p1 q1 c1) := by rw [← hW2]; simp [cell_set, c03]
  have d04 : W2.cell? ⟨w.heap.size, 4, none⟩ = some (.slice p2 q2 c2) := by rw [← hW2]; simp [cell_set, c04]
  have hWk : ∀ k, k ≠ w.heap.size → W2.heap[k]? = w1.heap[k]? := fun k hk => by
    rw [← hW2, RowKit.Below.heap_setCell _ _ _ _ hk, RowKit.Below.heap_setCell _ _ _ _ hk, RowKit.Below.heap_setCell _ _ _ _ hk, RowKit.Below.heap_setCell _ _ _ _ hk, RowKit.Below.heap_setCell _ _ _ _ hk]
  have hWs : W2.heap.size = w1.heap.size := by rw [← hW2]; simp
  have HWK := Lib.hid hWk
  clear hWk
  have hBW : Below w.heap.size w W2 := by
    rw [← hW2]
    exact (((((hb1.trans (hb2.mono (by omega))).setCell (p := ⟨w.heap.size, 0, none⟩) (Nat.le_refl _) _).setCell (p := ⟨w.heap.size, 1, none⟩) (Nat.le_refl _) _).setCell (p := ⟨w.heap.size, 2, none⟩) (Nat.le_refl _) _).setCell (p := ⟨w.heap.size, 3, none⟩) (Nat.le_refl _) _).setCell (p := ⟨w.heap.size, 4, none⟩) (Nat.le_refl _) _
  have HB2 := Lib.hid hBW
  have H2 := Lib.hid (HD.out.below hBW)
  have hwf : W64 file := HO.out.wf
  have hwn : W64 n := HO.out.wn
  have sub2 : ∀ n : Nat, ∀ a ∈ [b, m], a ∈ [b, m] ∨ n ≤ a := fun n a ha => .inl ha
  clear hBW
  go_wp2_with fail
  · have hk : ku kind = 3 := by have h9 := ‹((IntKind.u64.wrap kind).tmod 12 == 3) = true›; unfold ku; simpa using h9
    have hE := HE.out
    have hS := HS.out
    have hB := HBB.out
    rw [hk] at hE hS hB
    simp at hE hS hB
    refine (f_Sync H2.out hok hop file hwf).mono ?_
    rintro e w3 ⟨rfl, h3, t3⟩
    obtain ⟨e1, he1⟩ : ∃ e1, withE s file ask0 = e1 := ⟨_, rfl⟩
    rw [he1] at hE ⊢
    subst hE hS hB
    clear he1
    go_wp2
    go_returns
    exact ⟨_, rfl, Byt.nil _, h3, (Tw.of_below HB2.out).trans (t3.mono (by omega) (sub2 _))⟩
  · have hk : ku kind = 4 := by have h9 := ‹((IntKind.u64.wrap kind).tmod 12 == 4) = true›; unfold ku; simpa using h9
    have hE := HE.out
    have hS := HS.out
    have hB := HBB.out
    rw [hk] at hE hS hB
    simp at hE hS hB
    refine (f_Sync H2.out hok hop file hwf).mono ?_
    rintro e w3 ⟨rfl, h3, t3⟩
    obtain ⟨e1, he1⟩ : ∃ e1, withE s file ask0 = e1 := ⟨_, rfl⟩
    rw [he1] at hE ⊢
    subst hE hS hB
    clear he1
    go_wp2
    go_returns
    exact ⟨_, rfl, Byt.nil _, h3, (Tw.of_below HB2.out).trans (t3.mono (by omega) (sub2 _))⟩
  · have hk : ku kind = 5 := by have h9 := ‹((IntKind.u64.wrap kind).tmod 12 == 5) = true›; unfold ku; simpa using h9
    have hE := HE.out
    have hS := HS.out
    have hB := HBB.out
    rw [hk] at hE hS hB
    simp at hE hS hB
    refine (f_Read H2.out hok hop file hwf).mono ?_
    rintro e w3 ⟨v, rfl, hv, h3, t3, -⟩
    rw [hB] at hv
    have hvs := hv.open
    obtain ⟨av, cv, rfl, -⟩ := hvs
    obtain ⟨e1, he1⟩ : ∃ e1, withE s file ask0 = e1 := ⟨_, rfl⟩
    rw [he1] at hE ⊢
    subst hE hS
    clear he1 hB
    go_wp2
    go_returns
    exact ⟨_, rfl, hv, h3, (Tw.of_below HB2.out).trans (t3.mono (by omega) (sub2 _))⟩
  · have hk : ku kind = 6 := by have h9 := ‹((IntKind.u64.wrap kind).tmod 12 == 6) = true›; unfold ku; simpa using h9
    have hE := HE.out
    have hS := HS.out
    have hB := HBB.out
    rw [hk] at hE hS hB
    simp at hE hS hB
    refine (f_Truncate H2.out hok hop file n hwf).mono ?_
    rintro e w3 ⟨rfl, h3, t3⟩
    obtain ⟨e1, he1⟩ : ∃ e1, withE s file (askT n) = e1 := ⟨_, rfl⟩
    rw [he1] at hE ⊢
    subst hE hS hB
    clear he1
    go_wp2
    go_returns
    exact ⟨_, rfl, Byt.nil _, h3, (Tw.of_below HB2.out).trans (t3.mono (by omega) (sub2 _))⟩
  · have hk : ku kind = 7 := by have h9 := ‹((IntKind.u64.wrap kind).tmod 12 == 7) = true›; unfold ku; simpa using h9
    have hE := HE.out
    have hS := HS.out
    have hB := HBB.out
    rw [hk] at hE hS hB
    simp at hE hS hB
    refine (f_Rename H2.out hok hop file n hwf hwn).mono ?_
    rintro e w3 ⟨rfl, h3, t3⟩
    obtain ⟨e1, he1⟩ : ∃ e1, renameE s file n = e1 := ⟨_, rfl⟩
    rw [he1] at hE ⊢
    subst hE hS hB
    clear he1
    go_wp2
    go_returns
    exact ⟨_, rfl, Byt.nil _, h3, (Tw.of_below HB2.out).trans (t3.mono (by omega) (sub2 _))⟩
  · have hk : ku kind = 8 := by have h9 := ‹((IntKind.u64.wrap kind).tmod 12 == 8) = true›; unfold ku; simpa using h9
    have hE := HE.out
    have hS := HS.out
    have hB := HBB.out
    rw [hk] at hE hS hB
    simp at hE hS hB
    refine (f_Remove H2.out hok hop file hwf).mono ?_
    rintro e w3 ⟨rfl, h3, t3⟩
    obtain ⟨e1, he1⟩ : ∃ e1, withE s file ask0 = e1 := ⟨_, rfl⟩
    rw [he1] at hE ⊢
    subst hE hS hB
    clear he1
    go_wp2
    go_returns
    exact ⟨_, rfl, Byt.nil _, h3, (Tw.of_below HB2.out).trans (t3.mono (by omega) (sub2 _))⟩
  · have hk : ku kind = 9 := by have h9 := ‹((IntKind.u64.wrap kind).tmod 12 == 9) = true›; unfold ku; simpa using h9
    have hE := HE.out
    have hS := HS.out
    have hB := HBB.out
    rw [hk] at hE hS hB
    simp at hE hS hB
    refine (f_Arm H2.out n).mono ?_
    rintro e w3 ⟨rfl, h3, t3⟩
    obtain ⟨e1, he1⟩ : ∃ e1, setsE s n = e1 := ⟨_, rfl⟩
    rw [he1] at hE ⊢
    subst hE hS hB
    clear he1
    go_wp2
    go_returns
    exact ⟨_, rfl, Byt.nil _, h3, (Tw.of_below HB2.out).trans (t3.mono (by omega) (sub2 _))⟩
  · have hk : ku kind = 10 := by have h9 := ‹((IntKind.u64.wrap kind).tmod 12 == 10) = true›; unfold ku; simpa using h9
    have hE := HE.out
    have hS := HS.out
    have hB := HBB.out
    rw [hk] at hE hS hB
    simp at hE hS hB
    refine (f_Fail H2.out n).mono ?_
    rintro e w3 ⟨rfl, h3, t3⟩
    obtain ⟨e1, he1⟩ : ∃ e1, setsE s n = e1 := ⟨_, rfl⟩
    rw [he1] at hE ⊢
    subst hE hS hB
    clear he1
    go_wp2
    go_returns
    exact ⟨_, rfl, Byt.nil _, h3, (Tw.of_below HB2.out).trans (t3.mono (by omega) (sub2 _))⟩
  · have hk : ku kind = 11 := by have h9 := ‹((IntKind.u64.wrap kind).tmod 12 == 11) = true›; unfold ku; simpa using h9
    have hE := HE.out
    have hS := HS.out
    have hB := HBB.out
    rw [hk] at hE hS hB
    simp at hE hS hB
    refine (f_Crash H2.out hok _ (keep.take 200) (Sl.of_owns (own_block OK.out (fun g hg => HWK.out g (by have := OK.out.lt g hg; omega)))) (by simp; omega)).mono ?_
    rintro e w3 ⟨rfl, h3, t3⟩
    obtain ⟨e1, he1⟩ : ∃ e1, (0 : Int) = e1 := ⟨_, rfl⟩
    rw [he1] at hE ⊢
    subst hE hS hB
    clear he1
    go_wp2
    go_returns
    exact ⟨_, rfl, Byt.nil _, h3, (Tw.of_below HB2.out).trans (t3.mono (by omega) (sub2 _))⟩
  · have n3 : ku kind ≠ 3 := by have h9 := ‹((IntKind.u64.wrap kind).tmod 12 == 3) = false›; unfold ku; simpa using h9
    have n4 : ku kind ≠ 4 := by have h9 := ‹((IntKind.u64.wrap kind).tmod 12 == 4) = false›; unfold ku; simpa using h9
    have n5 : ku kind ≠ 5 := by have h9 := ‹((IntKind.u64.wrap kind).tmod 12 == 5) = false›; unfold ku; simpa using h9
    have n6 : ku kind ≠ 6 := by have h9 := ‹((IntKind.u64.wrap kind).tmod 12 == 6) = false›; unfold ku; simpa using h9
    have n7 : ku kind ≠ 7 := by have h9 := ‹((IntKind.u64.wrap kind).tmod 12 == 7) = false›; unfold ku; simpa using h9
    have n8 : ku kind ≠ 8 := by have h9 := ‹((IntKind.u64.wrap kind).tmod 12 == 8) = false›; unfold ku; simpa using h9
    have n9 : ku kind ≠ 9 := by have h9 := ‹((IntKind.u64.wrap kind).tmod 12 == 9) = false›; unfold ku; simpa using h9
    have n10 : ku kind ≠ 10 := by have h9 := ‹((IntKind.u64.wrap kind).tmod 12 == 10) = false›; unfold ku; simpa using h9
    have n11 : ku kind ≠ 11 := by have h9 := ‹((IntKind.u64.wrap kind).tmod 12 == 11) = false›; unfold ku; simpa using h9
    have hE := HE.out
    have hS := HS.out
    have hB := HBB.out
    simp only [n3, n4, n5, n6, n7, n8, n9, n10, n11, or_self, if_false] at hE hS hB
    clear n3 n4 n5 n6 n7 n8 n9 n10 n11
    subst hB
    have hlt : (bytes.take 300).length ≤ 300 := by simp; omega
    have ob2 : W2.ownsRow (w.heap.size + 1) 5 1 (.slice p1 q1 c1) (bytes.take 300).length ((bytes.take 300).map (Value.int .u8)) := own_block OB.out (fun g hg => HWK.out g (by have := OB.out.lt g hg; omega))
    have hby : Byt W2 (.slice p1 q1 c1) (bytes.take 300) := Byt.of_owns ob2 rfl
    have hd0 : ∀ C : List Nat, (∀ a ∈ C, w.heap.size ≤ a ∧ a < W2.heap.size) → Disk W2 (C ++ A) b m s := fun C hC => HD.out.more HB2.out hC
    have hbA := HD.out.hb
    have hmA := HD.out.hm
    obtain ⟨e1, he1⟩ : ∃ e1, appendE s file (bytes.take 300) = e1 := ⟨_, rfl⟩
    rcases ob2.2 with ⟨hnil, hz⟩ | ⟨g, cap, cur, hv, hBg, hg, hle, hcm, -⟩
    · simp only [Value.slice.injEq] at hnil
      obtain ⟨rfl, rfl, rfl⟩ := hnil
      refine (f_Append (H2.out) hok hop file hwf _ (bytes.take 300) hby (by omega) (fun ad n c e => by cases e)).mono ?_
      rintro e w3 ⟨rfl, h3, t3⟩
      rw [he1] at hE ⊢
      subst hE hS
      have u3 : w3.cell? ⟨w.heap.size, 3, none⟩ = some (.slice none 0 0) := (t3.cell (p := ⟨w.heap.size, 3, none⟩) (by dsimp; omega) (by simp; omega)).trans d03
      clear he1 hby ob2
      go_wp2
      refine wp_loop_rounds 1 ?_
      rw [rounds_succ]
      go_wp2
      go_returns
      exact ⟨_, rfl, Byt.nil _, h3, (Tw.of_below HB2.out).trans (t3.mono (by omega) (sub2 _))⟩
    · simp only [Value.slice.injEq] at hv
      obtain ⟨rfl, rfl, rfl⟩ := hv
      have hgl := (Array.getElem?_eq_some_iff.1 hg).1
      refine (f_Append (hd0 [g] (by intro a ha; simp at ha; omega)) hok hop file hwf _ (bytes.take 300) hby (by omega) (fun ad n c e => by
        simp only [Value.slice.injEq, Option.some.injEq] at e
        rw [← e.1]; dsimp; omega)).mono ?_
      rintro e w3 ⟨rfl, h3, t3⟩
      rw [he1] at hE ⊢
      subst hE hS
      have u3 : w3.cell? ⟨w.heap.size, 3, none⟩ = some (.slice (some ⟨g, 0, none⟩) (bytes.take 300).length c1) := (t3.cell (p := ⟨w.heap.size, 3, none⟩) (by dsimp; omega) (by simp; omega)).trans d03
      have ob3 := own_block (w' := w3) ob2 (fun g' hg' => by
        cases hg'
        exact t3.block g hgl (by simp; omega))
      have OB3 := Lib.hid ob3
      have hs3 := t3.size
      have HX3 := Lib.hid h3
      have TX3 := Lib.hid t3
      obtain ⟨L, hL⟩ : ∃ L, (bytes.take 300).length = L := ⟨_, rfl⟩
      rw [hL] at u3 OB3 hle hlt ⊢
      clear he1 hby ob2 ob3 h3 t3 hg
      go_wp2
      go_loopw [78] (fun i wr => ∃ k : Nat, k ≤ L ∧ i = .int .i64 k ∧ (∃ l' : List Int, l'.length = L ∧ wr.ownsRow (w.heap.size + 1) 5 1 (.slice (some ⟨g, 0, none⟩) L c1) L (l'.map (Value.int .u8))) ∧ Tw w3.heap.size [g] w3 wr) (fun i _ => L - (intOf i).toNat)
      case atStart => exact ⟨0, Nat.zero_le _, rfl, ⟨_, hL, OB3.out⟩, Tw.refl _ _ _⟩
      case round =>
        obtain ⟨k, hk, rfl, ⟨l', hl', ow⟩, hT⟩ := hrel
        have v3 : wr.cell? ⟨w.heap.size, 3, none⟩ = some (.slice (some ⟨g, 0, none⟩) L c1) := (hT.cell (p := ⟨w.heap.size, 3, none⟩) (by dsimp; omega) (by simp; omega)).trans u3
        by_cases hkl : k < L
        · have hcell := cell_own ow k (by simp; omega)
          have hfr := frozen_own ow k
          obtain ⟨y, hy⟩ : ∃ y, l'[k]'(by omega) = y := ⟨_, rfl⟩
          simp only [List.getElem_map, hy] at hcell
          have OW := Lib.hid ow
          clear ow hy
          go_wp2
          have hst := (OW.out.stored (g := g) k (.int .u8 (bits .xor .u8 y 85))).1
          exact ⟨⟨k + 1, by omega, by simp, ⟨l'.set k (bits .xor .u8 y 85), by simp [hl'], by rw [List.map_set]; exact hst⟩, hT.setCell (b := g) (.inl (by simp)) k _⟩, by simp [intOf]; omega⟩
        · obtain rfl : k = L := by omega
          have hD9 := HX3.out.turn (w' := wr) (A' := A) hT.size (fun a ha => ⟨.inl (List.mem_append_right _ ha), Nat.lt_of_lt_of_le (HX3.out.lt a (List.mem_append_right _ ha)) hT.size⟩) hbA hmA (fun k hk hkA => hT.block k hk (fun hc => hkA (List.mem_append_left _ hc))) (hT.block b HX3.out.blt (by simp; omega)) (hT.block m HX3.out.mlt (by simp; omega))
          have H9 := Lib.hid hD9
          clear hD9 ow
          go_wp2
          go_returns
          exact ⟨_, rfl, Byt.nil _, H9.out, ((Tw.of_below HB2.out).trans (TX3.out.mono (by omega) (sub2 _))).trans (hT.mono (by omega) (fun a ha => by simp at ha; exact .inr (by omega)))⟩
end
end Go.Proofs.Ytlhkacjfonihjaa
