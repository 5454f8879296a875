/- The walk of DiskNils. -/
import Derived.Test.YtlhkacjfonihjaaNilRun
import Derived.Test.YtlhkacjfonihjaaDRun
namespace Go.Proofs.Ytlhkacjfonihjaa
open Go.RowKit
set_option maxRecDepth 100000

set_option maxRecDepth 100000 in
set_option maxHeartbeats 4000000 in
theorem f_DiskNils (v : Value) (l : List Int) (o : Opr) (w : World) (hv : Ints w v l) (hl : ∀ x ∈ l, W64 x) (ho : OpIs w o) :
    Calls Try.prog 7 #[v, OV o] w fun e w' => e = .returned (.bool true) ∧ Below w.heap.size w w' := by
  have H := Lib.hid hv
  obtain ⟨a, cap, rfl, hle, hm, hcell⟩ := Sl.form hv
  have Hc := Lib.hid hcell
  have HL := Lib.hid hl
  have HO := Lib.hid ho
  obtain ⟨ab, cb, ebv, -⟩ := ho.b.open
  obtain ⟨ak, ck, ekv, -⟩ := ho.k.1.open
  clear hcell hv hl ho
  obtain ⟨kind, file, n, bv, kv, bytes, keep⟩ := o
  dsimp only at ebv ekv
  subst ebv ekv
  go_enter Try.func7, Try.ntmps7
  have HB0 := Lib.hid (show Below w.heap.size w (w.alloc (.cells #[.int .i64 kind, .int .i64 file, .int .i64 n, .slice ab bytes.length cb, .slice ak keep.length ck] 34)) from (Below.refl _ _).alloc (Nat.le_refl _) _)
  go_wp2_with fail
  refine (f_wakes _).mono ?_
  rintro e w1 ⟨rfl, hb1⟩
  have c0 : ∀ i, w1.cell? ⟨w.heap.size, i, none⟩ = _ := fun i => hb1.cell (p := ⟨w.heap.size, i, none⟩) (by simp)
  have HB1 := Lib.hid (HB0.out.trans (hb1.mono (by simp)))
  have hz1 : w.heap.size < w1.heap.size := by have := hb1.size; simp at this; omega
  clear hb1
  go_wp2
  go_loopw [17] (fun i wr => ∃ k : Nat, k ≤ l.length ∧ i = .int .i64 k ∧ Below w1.heap.size w1 wr) (fun i _ => l.length - (intOf i).toNat)
  case atStart => exact ⟨0, Nat.zero_le _, rfl, Below.refl _ _⟩
  case round =>
    obtain ⟨k, hk, rfl, hbr⟩ := hrel
    have hzr := hbr.size
    have d0 : wr.cell? ⟨w.heap.size, 0, none⟩ = some (.int .i64 kind) := ((hbr.cell (p := ⟨w.heap.size, 0, none⟩) (by dsimp; omega)).trans (c0 0)).trans (by go_simp)
    have d1 : wr.cell? ⟨w.heap.size, 1, none⟩ = some (.int .i64 file) := ((hbr.cell (p := ⟨w.heap.size, 1, none⟩) (by dsimp; omega)).trans (c0 1)).trans (by go_simp)
    have d2 : wr.cell? ⟨w.heap.size, 2, none⟩ = some (.int .i64 n) := ((hbr.cell (p := ⟨w.heap.size, 2, none⟩) (by dsimp; omega)).trans (c0 2)).trans (by go_simp)
    have d3 : wr.cell? ⟨w.heap.size, 3, none⟩ = some (.slice ab bytes.length cb) := ((hbr.cell (p := ⟨w.heap.size, 3, none⟩) (by dsimp; omega)).trans (c0 3)).trans (by go_simp)
    have d4 : wr.cell? ⟨w.heap.size, 4, none⟩ = some (.slice ak keep.length ck) := ((hbr.cell (p := ⟨w.heap.size, 4, none⟩) (by dsimp; omega)).trans (c0 4)).trans (by go_simp)
    clear c0
    by_cases hlt2 : k < l.length
    · obtain ⟨bb, off, rfl, hltb, hcc⟩ := Hc.out (by intro e; simp at e; subst e; simp at hlt2)
      have hx := hcc k (by simpa using hlt2)
      simp only [List.getElem_map] at hx
      have hxw := HL.out l[k] (List.getElem_mem hlt2)
      have e0 := ((HB1.out.trans (hbr.mono (by omega))).cell (p := ⟨bb, off + k, none⟩) hltb).trans hx
      generalize l[k] = x at *
      clear hcc hx
      by_cases h10 : (k : Int) = 10
      · have h10' : k = 10 := by omega
        subst h10'
        go_wp2_with fail
        refine (n_run ⟨kind, file, n, .slice ab bytes.length cb, .slice ak keep.length ck, bytes, keep⟩ _ (HO.out.grown (HB1.out.trans (hbr.mono (by omega))))).mono ?_
        rintro e w2 ⟨rfl, hb2⟩
        have e1 : w2.cell? ⟨w.heap.size, 1, none⟩ = some (.int .i64 file) := (hb2.cell (p := ⟨w.heap.size, 1, none⟩) (by dsimp; omega)).trans d1
        go_wp2_with fail
        refine (n_Copy _).mono ?_
        rintro e w3 ⟨rfl, hb3⟩
        have e1 : w3.cell? ⟨w.heap.size, 1, none⟩ = some (.int .i64 file) := (hb3.cell (p := ⟨w.heap.size, 1, none⟩) (by have := hb2.size;  dsimp; omega)).trans e1
        go_wp2_with fail
        refine (n_Room _).mono ?_
        rintro e w4 ⟨rfl, hb4⟩
        have e1 : w4.cell? ⟨w.heap.size, 1, none⟩ = some (.int .i64 file) := (hb4.cell (p := ⟨w.heap.size, 1, none⟩) (by have := hb2.size; have := hb3.size; dsimp; omega)).trans e1
        go_wp2_with fail
        refine (n_Files _).mono ?_
        rintro e w5 ⟨rfl, hb5⟩
        have e1 : w5.cell? ⟨w.heap.size, 1, none⟩ = some (.int .i64 file) := (hb5.cell (p := ⟨w.heap.size, 1, none⟩) (by have := hb2.size; have := hb3.size; have := hb4.size; dsimp; omega)).trans e1
        go_wp2_with fail
        refine (n_Size _ _).mono ?_
        rintro e w6 ⟨rfl, hb6⟩
        have e1 : w6.cell? ⟨w.heap.size, 1, none⟩ = some (.int .i64 file) := (hb6.cell (p := ⟨w.heap.size, 1, none⟩) (by have := hb2.size; have := hb3.size; have := hb4.size; have := hb5.size; dsimp; omega)).trans e1
        go_wp2_with fail
        refine (n_Pending _).mono ?_
        rintro e w7 ⟨rfl, hb7⟩
        have e1 : w7.cell? ⟨w.heap.size, 1, none⟩ = some (.int .i64 file) := (hb7.cell (p := ⟨w.heap.size, 1, none⟩) (by have := hb2.size; have := hb3.size; have := hb4.size; have := hb5.size; have := hb6.size; dsimp; omega)).trans e1
        go_wp2_with fail
        refine (n_Ops _).mono ?_
        rintro e w8 ⟨rfl, hb8⟩
        have e1 : w8.cell? ⟨w.heap.size, 1, none⟩ = some (.int .i64 file) := (hb8.cell (p := ⟨w.heap.size, 1, none⟩) (by have := hb2.size; have := hb3.size; have := hb4.size; have := hb5.size; have := hb6.size; have := hb7.size; dsimp; omega)).trans e1
        go_wp2_with fail
        refine (n_Dead _).mono ?_
        rintro e w9 ⟨rfl, hb9⟩
        have e1 : w9.cell? ⟨w.heap.size, 1, none⟩ = some (.int .i64 file) := (hb9.cell (p := ⟨w.heap.size, 1, none⟩) (by have := hb2.size; have := hb3.size; have := hb4.size; have := hb5.size; have := hb6.size; have := hb7.size; have := hb8.size; dsimp; omega)).trans e1
        go_wp2
        go_ret
        exact ⟨rfl, HB1.out.trans ((hbr.mono (by omega)).trans ((hb2.mono (by have := hb2.size; have := hb3.size; have := hb4.size; have := hb5.size; have := hb6.size; have := hb7.size; have := hb8.size; have := hb9.size; omega)).trans ((hb3.mono (by have := hb2.size; have := hb3.size; have := hb4.size; have := hb5.size; have := hb6.size; have := hb7.size; have := hb8.size; have := hb9.size; omega)).trans ((hb4.mono (by have := hb2.size; have := hb3.size; have := hb4.size; have := hb5.size; have := hb6.size; have := hb7.size; have := hb8.size; have := hb9.size; omega)).trans ((hb5.mono (by have := hb2.size; have := hb3.size; have := hb4.size; have := hb5.size; have := hb6.size; have := hb7.size; have := hb8.size; have := hb9.size; omega)).trans ((hb6.mono (by have := hb2.size; have := hb3.size; have := hb4.size; have := hb5.size; have := hb6.size; have := hb7.size; have := hb8.size; have := hb9.size; omega)).trans ((hb7.mono (by have := hb2.size; have := hb3.size; have := hb4.size; have := hb5.size; have := hb6.size; have := hb7.size; have := hb8.size; have := hb9.size; omega)).trans ((hb8.mono (by have := hb2.size; have := hb3.size; have := hb4.size; have := hb5.size; have := hb6.size; have := hb7.size; have := hb8.size; have := hb9.size; omega)).trans (hb9.mono (by have := hb2.size; have := hb3.size; have := hb4.size; have := hb5.size; have := hb6.size; have := hb7.size; have := hb8.size; have := hb9.size; omega))))))))))⟩
      · by_cases hg : 1 ≤ x ∧ x ≤ 65536
        · have hg1 : ¬ (x < 1) := by omega
          have hg2 : ¬ (65536 < x) := by omega
          have hg3 := hg.1
          have hg4 := hg.2
          go_wp2_with fail
          refine (f_New x wr hg.1 hg.2).mono ?_
          rintro e w2 ⟨rfl, hd2, hb2⟩
          have HD2 := Lib.hid hd2
          clear hd2
          go_wp2_with fail
          refine (f_Room HD2.out).mono ?_
          rintro e w3 ⟨rfl, hb3⟩
          have hr : (newS x).room = x := rfl
          rw [hr]
          go_wp2
          go_roundw
          case rel => exact ⟨k + 1, by omega, by go_num, hbr.trans ((hb2.mono (by omega)).trans (hb3.mono (by have := hb2.size; omega)))⟩
          case measure => simp [intOf]; omega
        · go_wp2_with fail
          refine (f_New_bad x wr hg).mono ?_
          rintro e w2 ⟨rfl, hb2⟩
          by_cases hx1 : x < 1
          · have hx2 : ¬ (1 ≤ x) := by omega
            go_wp2
            go_roundw
            case rel => exact ⟨k + 1, by omega, by go_num, hbr.trans (hb2.mono (by omega))⟩
            case measure => simp [intOf]; omega
          · have hx2 : 1 ≤ x := by omega
            have hx3 : ¬ (x ≤ 65536) := by omega
            go_wp2
            go_roundw
            case rel => exact ⟨k + 1, by omega, by go_num, hbr.trans (hb2.mono (by omega))⟩
            case measure => simp [intOf]; omega
    · go_wp2_with fail
      refine (n_run ⟨kind, file, n, .slice ab bytes.length cb, .slice ak keep.length ck, bytes, keep⟩ _ (HO.out.grown (HB1.out.trans (hbr.mono (by omega))))).mono ?_
      rintro e w2 ⟨rfl, hb2⟩
      have e1 : w2.cell? ⟨w.heap.size, 1, none⟩ = some (.int .i64 file) := (hb2.cell (p := ⟨w.heap.size, 1, none⟩) (by dsimp; omega)).trans d1
      go_wp2_with fail
      refine (n_Copy _).mono ?_
      rintro e w3 ⟨rfl, hb3⟩
      have e1 : w3.cell? ⟨w.heap.size, 1, none⟩ = some (.int .i64 file) := (hb3.cell (p := ⟨w.heap.size, 1, none⟩) (by have := hb2.size;  dsimp; omega)).trans e1
      go_wp2_with fail
      refine (n_Room _).mono ?_
      rintro e w4 ⟨rfl, hb4⟩
      have e1 : w4.cell? ⟨w.heap.size, 1, none⟩ = some (.int .i64 file) := (hb4.cell (p := ⟨w.heap.size, 1, none⟩) (by have := hb2.size; have := hb3.size; dsimp; omega)).trans e1
      go_wp2_with fail
      refine (n_Files _).mono ?_
      rintro e w5 ⟨rfl, hb5⟩
      have e1 : w5.cell? ⟨w.heap.size, 1, none⟩ = some (.int .i64 file) := (hb5.cell (p := ⟨w.heap.size, 1, none⟩) (by have := hb2.size; have := hb3.size; have := hb4.size; dsimp; omega)).trans e1
      go_wp2_with fail
      refine (n_Size _ _).mono ?_
      rintro e w6 ⟨rfl, hb6⟩
      have e1 : w6.cell? ⟨w.heap.size, 1, none⟩ = some (.int .i64 file) := (hb6.cell (p := ⟨w.heap.size, 1, none⟩) (by have := hb2.size; have := hb3.size; have := hb4.size; have := hb5.size; dsimp; omega)).trans e1
      go_wp2_with fail
      refine (n_Pending _).mono ?_
      rintro e w7 ⟨rfl, hb7⟩
      have e1 : w7.cell? ⟨w.heap.size, 1, none⟩ = some (.int .i64 file) := (hb7.cell (p := ⟨w.heap.size, 1, none⟩) (by have := hb2.size; have := hb3.size; have := hb4.size; have := hb5.size; have := hb6.size; dsimp; omega)).trans e1
      go_wp2_with fail
      refine (n_Ops _).mono ?_
      rintro e w8 ⟨rfl, hb8⟩
      have e1 : w8.cell? ⟨w.heap.size, 1, none⟩ = some (.int .i64 file) := (hb8.cell (p := ⟨w.heap.size, 1, none⟩) (by have := hb2.size; have := hb3.size; have := hb4.size; have := hb5.size; have := hb6.size; have := hb7.size; dsimp; omega)).trans e1
      go_wp2_with fail
      refine (n_Dead _).mono ?_
      rintro e w9 ⟨rfl, hb9⟩
      have e1 : w9.cell? ⟨w.heap.size, 1, none⟩ = some (.int .i64 file) := (hb9.cell (p := ⟨w.heap.size, 1, none⟩) (by have := hb2.size; have := hb3.size; have := hb4.size; have := hb5.size; have := hb6.size; have := hb7.size; have := hb8.size; dsimp; omega)).trans e1
      go_wp2
      go_ret
      exact ⟨rfl, HB1.out.trans ((hbr.mono (by omega)).trans ((hb2.mono (by have := hb2.size; have := hb3.size; have := hb4.size; have := hb5.size; have := hb6.size; have := hb7.size; have := hb8.size; have := hb9.size; omega)).trans ((hb3.mono (by have := hb2.size; have := hb3.size; have := hb4.size; have := hb5.size; have := hb6.size; have := hb7.size; have := hb8.size; have := hb9.size; omega)).trans ((hb4.mono (by have := hb2.size; have := hb3.size; have := hb4.size; have := hb5.size; have := hb6.size; have := hb7.size; have := hb8.size; have := hb9.size; omega)).trans ((hb5.mono (by have := hb2.size; have := hb3.size; have := hb4.size; have := hb5.size; have := hb6.size; have := hb7.size; have := hb8.size; have := hb9.size; omega)).trans ((hb6.mono (by have := hb2.size; have := hb3.size; have := hb4.size; have := hb5.size; have := hb6.size; have := hb7.size; have := hb8.size; have := hb9.size; omega)).trans ((hb7.mono (by have := hb2.size; have := hb3.size; have := hb4.size; have := hb5.size; have := hb6.size; have := hb7.size; have := hb8.size; have := hb9.size; omega)).trans ((hb8.mono (by have := hb2.size; have := hb3.size; have := hb4.size; have := hb5.size; have := hb6.size; have := hb7.size; have := hb8.size; have := hb9.size; omega)).trans (hb9.mono (by have := hb2.size; have := hb3.size; have := hb4.size; have := hb5.size; have := hb6.size; have := hb7.size; have := hb8.size; have := hb9.size; omega))))))))))⟩
end Go.Proofs.Ytlhkacjfonihjaa
