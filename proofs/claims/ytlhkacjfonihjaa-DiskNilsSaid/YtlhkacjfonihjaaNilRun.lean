/- run on a disk that is nil. -/
import Derived.Test.YtlhkacjfonihjaaNils
namespace Go.Proofs.Ytlhkacjfonihjaa
open Go.RowKit
set_option maxRecDepth 100000

set_option maxRecDepth 100000 in
set_option maxHeartbeats 4000000 in
theorem n_run (o : Opr) (w : World) (ho : OpIs w o) : Calls Try.prog 14 #[OV o, .pointer none] w fun e w' =>
    e = .returned (.tuple #[.slice none 0 0, .int .i64 1]) ∧ Below w.heap.size w w' := by
  have hb1 : Below w.heap.size w (w.alloc (.cells #[.int .i64 o.kind, .int .i64 o.file, .int .i64 o.n, o.bv, o.kv] 34)) := (Below.refl _ _).alloc (Nat.le_refl _) _
  have HF := f_few (ho.grown hb1)
  have HO := Lib.hid ho
  obtain ⟨ab, cb, ebv, -⟩ := ho.b.open
  obtain ⟨ak, ck, ekv, -⟩ := ho.k.1.open
  obtain ⟨kind, file, n, bv, kv, bytes, keep⟩ := o
  dsimp only at ebv ekv
  subst ebv ekv
  have HFF := Lib.hid HF
  clear ho HF
  go_enter Try.func14, Try.ntmps14
  go_wp2_with fail
  refine HFF.out.mono ?_
  rintro e w1 ⟨bv, kv, rfl, ownb, ownk, hne, hb2⟩
  dsimp only at ownb ownk ⊢
  have hs1 := hb2.size
  have hs0 : (w.alloc (.cells #[.int .i64 kind, .int .i64 file, .int .i64 n, .slice ab bytes.length cb, .slice ak keep.length ck] 34)).heap.size = w.heap.size + 1 := by simp
  rw [hs0] at hs1 ownb ownk
  obtain ⟨p1, q1, c1, rfl, hp1⟩ := own_slice ownb
  obtain ⟨p2, q2, c2, rfl, hp2⟩ := own_slice ownk
  have c00 : w1.cell? ⟨w.heap.size, 0, none⟩ = some (.int .i64 kind) := by rw [hb2.cell (p := ⟨w.heap.size, 0, none⟩) (by dsimp; omega)]; go_simp
  have c01 : w1.cell? ⟨w.heap.size, 1, none⟩ = some (.int .i64 file) := by rw [hb2.cell (p := ⟨w.heap.size, 1, none⟩) (by dsimp; omega)]; go_simp
  have c02 : w1.cell? ⟨w.heap.size, 2, none⟩ = some (.int .i64 n) := by rw [hb2.cell (p := ⟨w.heap.size, 2, none⟩) (by dsimp; omega)]; go_simp
  have c03 : w1.cell? ⟨w.heap.size, 3, none⟩ = some (.slice ab bytes.length cb) := by rw [hb2.cell (p := ⟨w.heap.size, 3, none⟩) (by dsimp; omega)]; go_simp
  have c04 : w1.cell? ⟨w.heap.size, 4, none⟩ = some (.slice ak keep.length ck) := by rw [hb2.cell (p := ⟨w.heap.size, 4, none⟩) (by dsimp; omega)]; go_simp
  have g00 : w1.frozen? ⟨w.heap.size, 0, none⟩ = false := by rw [hb2.frozen (p := ⟨w.heap.size, 0, none⟩) (by dsimp; omega)]; go_simp
  have g01 : w1.frozen? ⟨w.heap.size, 1, none⟩ = false := by rw [hb2.frozen (p := ⟨w.heap.size, 1, none⟩) (by dsimp; omega)]; go_simp
  have g02 : w1.frozen? ⟨w.heap.size, 2, none⟩ = false := by rw [hb2.frozen (p := ⟨w.heap.size, 2, none⟩) (by dsimp; omega)]; go_simp
  have g03 : w1.frozen? ⟨w.heap.size, 3, none⟩ = false := by rw [hb2.frozen (p := ⟨w.heap.size, 3, none⟩) (by dsimp; omega)]; go_simp
  have g04 : w1.frozen? ⟨w.heap.size, 4, none⟩ = false := by rw [hb2.frozen (p := ⟨w.heap.size, 4, none⟩) (by dsimp; omega)]; go_simp
  have OB := Lib.hid ownb
  have OK := Lib.hid ownk
  clear ownb ownk
  obtain ⟨W2, hW2⟩ : ∃ W2, ((((w1.setCell ⟨w.heap.size, 0, none⟩ (.int .i64 kind)).setCell ⟨w.heap.size, 1, none⟩ (.int .i64 file)).setCell ⟨w.heap.size, 2, none⟩ (.int .i64 n)).setCell ⟨w.heap.size, 3, none⟩ (.slice p1 q1 c1)).setCell ⟨w.heap.size, 4, none⟩ (.slice p2 q2 c2) = W2 := ⟨_, rfl⟩
  have d00 : W2.cell? ⟨w.heap.size, 0, none⟩ = some (.int .i64 kind) := by rw [← hW2]; simp [cell_set, c00]
  have d01 : W2.cell? ⟨w.heap.size, 1, none⟩ = some (.int .i64 file) := by rw [← hW2]; simp [cell_set, c01]
  have d02 : W2.cell? ⟨w.heap.size, 2, none⟩ = some (.int .i64 n) := by rw [← hW2]; simp [cell_set, c02]
  have d03 : W2.cell? ⟨w.heap.size, 3, none⟩ = some (.slice p1 q1 c1) := by rw [← hW2]; simp [cell_set, c03]
  have d04 : W2.cell? ⟨w.heap.size, 4, none⟩ = some (.slice p2 q2 c2) := by rw [← hW2]; simp [cell_set, c04]
  have hWk : ∀ k, k ≠ w.heap.size → W2.heap[k]? = w1.heap[k]? := fun k hk => by
    rw [← hW2, RowKit.Below.heap_setCell _ _ _ _ hk, RowKit.Below.heap_setCell _ _ _ _ hk, RowKit.Below.heap_setCell _ _ _ _ hk, RowKit.Below.heap_setCell _ _ _ _ hk, RowKit.Below.heap_setCell _ _ _ _ hk]
  have hWs : W2.heap.size = w1.heap.size := by rw [← hW2]; simp
  have HWK := Lib.hid hWk
  clear hWk
  have hBW : Below w.heap.size w W2 := by
    rw [← hW2]
    exact (((((hb1.trans (hb2.mono (by omega))).setCell (p := ⟨w.heap.size, 0, none⟩) (Nat.le_refl _) _).setCell (p := ⟨w.heap.size, 1, none⟩) (Nat.le_refl _) _).setCell (p := ⟨w.heap.size, 2, none⟩) (Nat.le_refl _) _).setCell (p := ⟨w.heap.size, 3, none⟩) (Nat.le_refl _) _).setCell (p := ⟨w.heap.size, 4, none⟩) (Nat.le_refl _) _
  have HB2 := Lib.hid hBW
  have hwf : W64 file := HO.out.wf
  have hwn : W64 n := HO.out.wn
  clear hBW
  go_wp2_with fail
  · refine (n_Sync file _).mono ?_
    rintro e w3 ⟨rfl, hb3⟩
    go_wp2
    go_returns
    exact ⟨rfl, HB2.out.trans (hb3.mono (by omega))⟩
  · refine (n_Sync file _).mono ?_
    rintro e w3 ⟨rfl, hb3⟩
    go_wp2
    go_returns
    exact ⟨rfl, HB2.out.trans (hb3.mono (by omega))⟩
  · refine (n_Read file _).mono ?_
    rintro e w3 ⟨rfl, hb3⟩
    go_wp2
    go_returns
    exact ⟨rfl, HB2.out.trans (hb3.mono (by omega))⟩
  · refine (n_Truncate file n _).mono ?_
    rintro e w3 ⟨rfl, hb3⟩
    go_wp2
    go_returns
    exact ⟨rfl, HB2.out.trans (hb3.mono (by omega))⟩
  · refine (n_Rename file n _).mono ?_
    rintro e w3 ⟨rfl, hb3⟩
    go_wp2
    go_returns
    exact ⟨rfl, HB2.out.trans (hb3.mono (by omega))⟩
  · refine (n_Remove file _).mono ?_
    rintro e w3 ⟨rfl, hb3⟩
    go_wp2
    go_returns
    exact ⟨rfl, HB2.out.trans (hb3.mono (by omega))⟩
  · refine (n_Arm n _).mono ?_
    rintro e w3 ⟨rfl, hb3⟩
    go_wp2
    go_returns
    exact ⟨rfl, HB2.out.trans (hb3.mono (by omega))⟩
  · refine (n_Fail n _).mono ?_
    rintro e w3 ⟨rfl, hb3⟩
    go_wp2
    go_returns
    exact ⟨rfl, HB2.out.trans (hb3.mono (by omega))⟩
  · refine (n_Crash _ _ _ _).mono ?_
    rintro e w3 ⟨rfl, hb3⟩
    go_wp2
    go_returns
    exact ⟨rfl, HB2.out.trans (hb3.mono (by omega))⟩
  · have hlt : (bytes.take 300).length ≤ 300 := by simp; omega
    have ob2 : W2.ownsRow (w.heap.size + 1) 5 1 (.slice p1 q1 c1) (bytes.take 300).length ((bytes.take 300).map (Value.int .u8)) := own_block OB.out (fun g hg => HWK.out g (by have := OB.out.lt g hg; omega))
    rcases ob2.2 with ⟨hnil, hz⟩ | ⟨g, cap, cur, hv, hBg, hg, hle, hcm, -⟩
    · simp only [Value.slice.injEq] at hnil
      obtain ⟨rfl, rfl, rfl⟩ := hnil
      refine (n_Append file _ _).mono ?_
      rintro e w3 ⟨rfl, hb3⟩
      have u3 : w3.cell? ⟨w.heap.size, 3, none⟩ = some (.slice none 0 0) := (hb3.cell (p := ⟨w.heap.size, 3, none⟩) (by dsimp; omega)).trans d03
      have HB3 := Lib.hid hb3
      clear ob2 hb3
      go_wp2
      refine wp_loop_rounds 1 ?_
      rw [rounds_succ]
      go_wp2
      go_returns
      exact ⟨rfl, HB2.out.trans (HB3.out.mono (by omega))⟩
    · simp only [Value.slice.injEq] at hv
      obtain ⟨rfl, rfl, rfl⟩ := hv
      have hgl := (Array.getElem?_eq_some_iff.1 hg).1
      refine (n_Append file _ _).mono ?_
      rintro e w3 ⟨rfl, hb3⟩
      have u3 : w3.cell? ⟨w.heap.size, 3, none⟩ = some (.slice (some ⟨g, 0, none⟩) (bytes.take 300).length c1) := (hb3.cell (p := ⟨w.heap.size, 3, none⟩) (by dsimp; omega)).trans d03
      have ob3 := own_block (w' := w3) ob2 (fun g' hg' => by
        cases hg'
        exact hb3.block g hgl)
      have OB3 := Lib.hid ob3
      have hs3 := hb3.size
      have TX3 := Lib.hid hb3
      obtain ⟨L, hL⟩ : ∃ L, (bytes.take 300).length = L := ⟨_, rfl⟩
      rw [hL] at u3 OB3 hle hlt ⊢
      clear ob2 ob3 hb3 hg
      go_wp2
      go_loopw [78] (fun i wr => ∃ k : Nat, k ≤ L ∧ i = .int .i64 k ∧ (∃ l' : List Int, l'.length = L ∧ wr.ownsRow (w.heap.size + 1) 5 1 (.slice (some ⟨g, 0, none⟩) L c1) L (l'.map (Value.int .u8))) ∧ Tw w3.heap.size [g] w3 wr) (fun i _ => L - (intOf i).toNat)
      case atStart => exact ⟨0, Nat.zero_le _, rfl, ⟨_, hL, OB3.out⟩, Tw.refl _ _ _⟩
      case round =>
        obtain ⟨k, hk, rfl, ⟨l', hl', ow⟩, hT⟩ := hrel
        have v3 : wr.cell? ⟨w.heap.size, 3, none⟩ = some (.slice (some ⟨g, 0, none⟩) L c1) := (hT.cell (p := ⟨w.heap.size, 3, none⟩) (by dsimp; omega) (by simp; omega)).trans u3
        by_cases hkl : k < L
        · have hcell := cell_own ow k (by simp; omega)
          have hfr := frozen_own ow k
          obtain ⟨y, hy⟩ : ∃ y, l'[k]'(by omega) = y := ⟨_, rfl⟩
          simp only [List.getElem_map, hy] at hcell
          have OW := Lib.hid ow
          clear ow hy
          go_wp2
          have hst := (OW.out.stored (g := g) k (.int .u8 (bits .xor .u8 y 85))).1
          exact ⟨⟨k + 1, by omega, by simp, ⟨l'.set k (bits .xor .u8 y 85), by simp [hl'], by rw [List.map_set]; exact hst⟩, hT.setCell (b := g) (.inl (by simp)) k _⟩, by simp [intOf]; omega⟩
        · obtain rfl : k = L := by omega
          clear ow
          go_wp2
          go_returns
          exact ⟨rfl, HB2.out.trans ((TX3.out.mono (by omega)).trans (hT.below (by omega) (by intro a ha; simp at ha; omega)))⟩
end Go.Proofs.Ytlhkacjfonihjaa
