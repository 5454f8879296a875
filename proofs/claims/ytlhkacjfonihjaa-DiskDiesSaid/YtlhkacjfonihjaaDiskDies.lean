/- The walk of DiskDies. -/
import Derived.Test.YtlhkacjfonihjaaDRun
namespace Go.Proofs.Ytlhkacjfonihjaa
open Go.RowKit
set_option maxRecDepth 100000

def atN (x : Int) : Int := (IntKind.u64.wrap x).tmod 6
theorem atN_le (x : Int) : 0 ≤ atN x ∧ atN x < 6 := by
  unfold atN
  have : 0 ≤ IntKind.u64.wrap x := by unfold IntKind.wrap; simp [IntKind.bits, IntKind.signed]; omega
  rw [Int.tmod_eq_emod_of_nonneg this]
  omega

set_option maxRecDepth 100000 in
set_option maxHeartbeats 4000000 in
theorem f_DiskDies (room : Int) (hroom : W64 room) (v : Value) (l : List Opr) (at_ : Int) (w : World) (h : OpsV w v l) :
    Calls Try.prog 3 #[.int .i64 room, v, .int .i64 at_] w fun e w' => e = .returned (.bool true) ∧ Below w.heap.size w w' := by
  have H := Lib.hid h
  have hok := h.ok
  obtain ⟨a, cap, rfl, hl, hm, hcell⟩ := h.open
  have Hc := Lib.hid hcell
  have hOK := Lib.hid hok
  have hst := lrun_ok room hok 40
  rw [List.take_of_length_le (l := l.take 40) (by simp; omega)] at hst
  have hcm : CalmS (lrunS room l) := opsS_calm (new_calm _) _
  have HCM := Lib.hid hcm
  have HST := Lib.hid hst
  clear hcell h hok hst hcm
  have hn := atN_le at_
  obtain ⟨n, hne⟩ : ∃ n, atN at_ = n := ⟨_, rfl⟩
  rw [hne] at hn
  have hne' : (IntKind.u64.wrap at_).tmod 6 = n := hne
  have ew0 : IntKind.i64.wrap n = n := wr64 (by omega) (by omega)
  go_enter Try.func3, Try.ntmps3
  go_wp2_with fail
  refine (f_wakes w).mono ?_
  rintro e w1 ⟨rfl, hb1⟩
  have hz1 := hb1.size
  go_wp2_with fail
  refine (f_lrun room hroom _ l w1 (H.out.grown hb1)).mono ?_
  rintro e w2 ⟨rfl, hd2, hb2⟩
  obtain ⟨b, hb⟩ : ∃ b, w1.heap.size + 1 = b := ⟨_, rfl⟩
  obtain ⟨m, hm⟩ : ∃ m, w1.heap.size = m := ⟨_, rfl⟩
  rw [hb, hm] at hd2
  rw [hb]
  obtain ⟨s, hs⟩ : ∃ s, lrunS room l = s := ⟨_, rfl⟩
  rw [hs] at hd2
  have hso : s.Ok ∧ s.ops ≤ 40 := by rw [← hs]; exact HST.out
  have hsc : CalmS s := by rw [← hs]; exact HCM.out
  have HD2 := Lib.hid hd2
  have hz2 := hd2.blt
  clear hd2 hs HCM HST
  have hops := hso.1.ops
  go_wp2_with fail
  refine (f_Ops HD2.out).mono ?_
  rintro e w3 ⟨rfl, hb3⟩
  have HD3 := Lib.hid (HD2.out.below hb3)
  obtain ⟨B, hB⟩ : ∃ B, s.ops = B := ⟨_, rfl⟩
  rw [hB] at hops hso ⊢
  go_wp2_with fail
  refine (f_Arm HD3.out n).mono ?_
  have hse : setsE s n = 0 := by unfold setsE; rw [hsc.dead]; simp; omega
  rw [hse]
  rintro e w4 ⟨rfl, hd4, hb4⟩
  have hs4 : armS s n = { s with armed := n } := by unfold armS; rw [if_pos hse]
  rw [hs4] at hd4
  have ho4 : ({ s with armed := n } : DS).Ok := hs4 ▸ arm_ok hso.1 (n := n) (by omega)
  have hi4 : DInv B n { s with armed := n } := ⟨fun _ => ⟨hn.1, by show n + s.ops = _; omega⟩, fun hd => by have := hsc.dead; rw [show s.dead = true from hd] at this; cases this⟩
  obtain ⟨s4, hs4'⟩ : ∃ s4, ({ s with armed := n } : DS) = s4 := ⟨_, rfl⟩
  rw [hs4'] at hd4 ho4 hi4
  have hp4 : s4.ops = B := by rw [← hs4']; exact hB
  have ewB1 : IntKind.i64.wrap (B + n) = B + n := wr64 (by omega) (by omega)
  have ewB2 : IntKind.i64.wrap (B + n + 1) = B + n + 1 := wr64 (by omega) (by omega)
  have HD4 := Lib.hid hd4
  have hz4 := hd4.blt
  clear hd4 hs4 hs4' hse
  have hb14 : Below w.heap.size w w4 := by
    have n2 := hb2.size
    have n3 := hb3.size
    exact hb1.trans ((hb2.mono (by omega)).trans ((hb3.mono (by omega)).trans (hb4.below (by omega) (by intro a ha; simp at ha; omega))))
  clear hb1 hb2 hb3 hb4 HD2 HD3 hsc
  go_wp2_with fail
  go_loopw [38] (fun i wr => ∃ (k : Nat) (s' : DS), k ≤ l.length ∧ i = .int .i64 k ∧ Disk wr [b, m] b m s' ∧ s'.Ok ∧ s'.ops ≤ 40 + (min k 40 : Nat) ∧ DInv B n s' ∧ Below w.heap.size w wr) (fun i _ => l.length - (intOf i).toNat)
  case atStart => exact ⟨0, s4, Nat.zero_le _, rfl, HD4.out, ho4, by omega, hi4, hb14⟩
  case round =>
    obtain ⟨k, s', hk, rfl, hD, hso', hop', hi', hbr⟩ := hrel
    have HD := Lib.hid hD
    have HSO := Lib.hid hso'
    have hzr := hD.blt
    clear hD hso' HD4 hi4 ho4
    by_cases hlt2 : k < l.length
    · obtain ⟨bb, off, rfl, hlt, g1, g2, g3, g4, g5⟩ := Hc.out k hlt2
      have e1 := (hbr.cell (p := ⟨bb, off + k * 5, none⟩) hlt).trans g1
      have e2 := (hbr.cell (p := ⟨bb, off + k * 5 + 1, none⟩) hlt).trans g2
      have e3 := (hbr.cell (p := ⟨bb, off + k * 5 + 2, none⟩) hlt).trans g3
      have e4 := (hbr.cell (p := ⟨bb, off + k * 5 + 3, none⟩) hlt).trans g4
      have e5 := (hbr.cell (p := ⟨bb, off + k * 5 + 4, none⟩) hlt).trans g5
      have hO := (H.out.2 l[k] (List.getElem_mem hlt2)).grown hbr
      have HO := Lib.hid hO
      obtain ⟨ab, cb, ebv, -⟩ := hO.b.open
      obtain ⟨ak, ck, ekv, -⟩ := hO.k.1.open
      clear g1 g2 g3 g4 g5 hO
      generalize l[k] = y at *
      obtain ⟨kind, file, nn, bv, kv, bytes, keep⟩ := y
      dsimp only at e1 e2 e3 e4 e5 ebv ekv
      subst ebv ekv
      have HBA := Lib.hid (show Below wr.heap.size wr (wr.alloc (.cells #[.int .i64 kind, .int .i64 file, .int .i64 nn, .slice ab bytes.length cb, .slice ak keep.length ck] 34)) from (Below.refl _ _).alloc (Nat.le_refl _) _)
      by_cases h40 : (k : Int) = 40
      · have h40' : k = 40 := by omega
        subst h40'
        have e1 : wr.cell? ⟨bb, off + 200, none⟩ = _ := e1
        have e2 : wr.cell? ⟨bb, off + 200 + 1, none⟩ = _ := e2
        have e3 : wr.cell? ⟨bb, off + 200 + 2, none⟩ = _ := e3
        have e4 : wr.cell? ⟨bb, off + 200 + 3, none⟩ = _ := e4
        have e5 : wr.cell? ⟨bb, off + 200 + 4, none⟩ = _ := e5
        go_wp2_with fail
        refine (f_Crash (HD.out.below HBA.out) HSO.out _ [] (Sl.nilS _) (by decide)).mono ?_
        rintro e w5 ⟨rfl, hD5, hT5⟩
        have HD5 := Lib.hid hD5
        clear hD5
        go_wp2_with fail
        refine (f_Dead HD5.out).mono ?_
        rintro e w6 ⟨rfl, hb6⟩
        have hcd : (crashS s' []).dead = false := rfl
        rw [hcd]
        go_wp2
        go_ret
        have hz := HBA.out.size
        exact ⟨rfl, hbr.trans ((HBA.out.mono (by omega)).trans ((hT5.below (by omega) (by intro a ha; simp at ha; omega)).trans (hb6.mono (by have := hT5.size; omega))))⟩
      · by_cases hku : (IntKind.u64.wrap kind).tmod 12 < 9
        · have hnk : ku kind < 9 := hku
          have hst := run_step s' ⟨kind, file, nn, .slice ab bytes.length cb, .slice ak keep.length ck, bytes, keep⟩ hnk
          obtain ⟨hi2, hd9, hl9⟩ := dinv_step hi' hst
          have hd2 := dinv_dead hi2
          have hkeep := fun h => (hst.dead h).2
          have hpo := run_ops s' ⟨kind, file, nn, .slice ab bytes.length cb, .slice ak keep.length ck, bytes, keep⟩
          have hok2 := run_ok HSO.out (o := ⟨kind, file, nn, .slice ab bytes.length cb, .slice ak keep.length ck, bytes, keep⟩) HO.out.byte (w64_le HO.out.wn).2
          have hz0 := HSO.out.ops
          obtain ⟨S2, hS2⟩ : ∃ x, runS s' ⟨kind, file, nn, .slice ab bytes.length cb, .slice ak keep.length ck, bytes, keep⟩ = x := ⟨_, rfl⟩
          obtain ⟨E2, hE2⟩ : ∃ x, runE s' ⟨kind, file, nn, .slice ab bytes.length cb, .slice ak keep.length ck, bytes, keep⟩ = x := ⟨_, rfl⟩
          rw [hS2] at hi2 hl9 hd2 hpo hok2 hkeep
          rw [hE2] at hd9 hl9
          have HS2 := Lib.hid hS2
          have HE2 := Lib.hid hE2
          have HOK2 := Lib.hid hok2
          have HI2 := Lib.hid hi2
          have HI' := Lib.hid hi'
          clear hst hok2 hS2 hE2 hi2 hi'
          go_wp2_with fail
          refine (f_Dead (HD.out.below HBA.out)).mono ?_
          rintro e w5 ⟨rfl, hb5⟩
          have c50 := hb5.cell (p := ⟨wr.heap.size, 0, none⟩) (by simp)
          have c51 := hb5.cell (p := ⟨wr.heap.size, 1, none⟩) (by simp)
          have c52 := hb5.cell (p := ⟨wr.heap.size, 2, none⟩) (by simp)
          have c53 := hb5.cell (p := ⟨wr.heap.size, 3, none⟩) (by simp)
          have c54 := hb5.cell (p := ⟨wr.heap.size, 4, none⟩) (by simp)
          have hz5 : wr.heap.size < w5.heap.size := by have := hb5.size; simp at this; omega
          have HB5 := Lib.hid (HBA.out.trans (hb5.mono (by simp)))
          clear hb5
          have D0 := Lib.hid (rfl : s'.dead = s'.dead)
          obtain ⟨d0, hd0⟩ : ∃ d0, s'.dead = d0 := ⟨_, rfl⟩
          rw [hd0] at hd9 hl9 hkeep ⊢
          go_wp2_with fail
          refine (f_run (HD.out.below HB5.out) HSO.out (by omega) ⟨kind, file, nn, .slice ab bytes.length cb, .slice ak keep.length ck, bytes, keep⟩ (HO.out.grown HB5.out)).mono ?_
          rintro e w6 ⟨v6, rfl, -, hD6, hT6⟩
          rw [HS2.out] at hD6
          rw [HE2.out]
          have HD6 := Lib.hid hD6
          have hz6 := hD6.blt
          have HT6 := Lib.hid hT6
          clear hD6 hT6 c50 c51 c52 c53 c54
          obtain ⟨d2, hd2e⟩ : ∃ d2, S2.dead = d2 := ⟨_, rfl⟩
          obtain ⟨q2, hq2⟩ : ∃ q2, S2.ops = q2 := ⟨_, rfl⟩
          have hdd : d2 = decide (q2 = B + n + 1) := by rw [← hd2e, ← hq2]; exact hd2.1
          have hqq : q2 ≤ B + n + 1 := by rw [← hq2]; exact hd2.2
          have hgt : ¬ (B + n + 1 < q2) := by omega
          have hqe : (q2 == B + n + 1) = d2 := by rw [hdd, Bool.eq_iff_iff]; simp
          have hqp : q2 ≤ 40 + (min (k + 1) 40 : Nat) := by rw [← hq2]; omega
          have hDD : ∀ W, Below w6.heap.size w6 W → Calls Try.prog 13 #[DP b] W fun e W' => e = .returned (.bool d2) ∧ Below W.heap.size W W' := fun W h => by
            rw [← hd2e]; exact f_Dead (HD6.out.below h)
          have hOO : ∀ W, Below w6.heap.size w6 W → Calls Try.prog 11 #[DP b] W fun e W' => e = .returned (.int .i64 q2) ∧ Below W.heap.size W W' := fun W h => by
            rw [← hq2]; exact f_Ops (HD6.out.below h)
          have HDD := Lib.hid hDD
          have HOO := Lib.hid hOO
          have h3 : (d0 = true ∧ d2 = true ∧ E2 = 9) ∨ (d0 = false ∧ d2 = true ∧ E2 = 9) ∨ (d0 = false ∧ d2 = false) := by
            cases d0 with
            | true =>
              have e1 := hkeep rfl
              refine .inl ⟨rfl, ?_, hd9 rfl⟩
              rw [← hd2e, e1]; exact hd0
            | false =>
              cases d2 with
              | true => exact .inr (.inl ⟨rfl, rfl, hl9 rfl hd2e⟩)
              | false => exact .inr (.inr ⟨rfl, rfl⟩)
          clear hDD hOO hkeep hd9 hl9 hd2 hdd
          have hfin : ∀ W, Below w6.heap.size w6 W → ∃ (k_1 : Nat) (s' : DS), k_1 ≤ l.length ∧ Value.int .i64 ((k : Int) + 1) = .int .i64 k_1 ∧ Disk W [b, m] b m s' ∧ s'.Ok ∧ s'.ops ≤ 40 + (min k_1 40 : Nat) ∧ DInv B n s' ∧ Below w.heap.size w W := fun W hW =>
            ⟨k + 1, S2, by omega, by go_num, HD6.out.below hW, HOK2.out, by rw [hq2]; exact hqp, HI2.out, hbr.trans ((HB5.out.mono (by omega)).trans ((HT6.out.below (by omega) (by intro a ha; simp at ha; omega)).trans (hW.mono (by have := HT6.out.size; omega))))⟩
          have HFIN := Lib.hid hfin
          clear hfin
          rcases h3 with ⟨rfl, rfl, rfl⟩ | ⟨rfl, rfl, rfl⟩ | ⟨rfl, rfl⟩
          · go_wp2_with fail
            refine (HDD.out _ (Below.refl _ _)).mono ?_
            rintro e w7 ⟨rfl, hb7⟩
            have hc7 : Below w6.heap.size w6 w7 := hb7
            clear hb7
            go_wp2_with fail
            refine (HOO.out _ hc7).mono ?_
            rintro e w8 ⟨rfl, hb8⟩
            have hc8 : Below w6.heap.size w6 w8 := hc7.trans (hb8.mono hc7.size)
            clear hb8
            go_wp2_with fail
            refine (HOO.out _ hc8).mono ?_
            rintro e w9 ⟨rfl, hb9⟩
            have hc9 : Below w6.heap.size w6 w9 := hc8.trans (hb9.mono hc8.size)
            clear hb9
            go_wp2
            go_roundw
            case rel => exact HFIN.out _ hc9
            case measure => simp [intOf]; omega
          · go_wp2_with fail
            refine (HDD.out _ (Below.refl _ _)).mono ?_
            rintro e w7 ⟨rfl, hb7⟩
            have hc7 : Below w6.heap.size w6 w7 := hb7
            clear hb7
            go_wp2_with fail
            refine (HOO.out _ hc7).mono ?_
            rintro e w8 ⟨rfl, hb8⟩
            have hc8 : Below w6.heap.size w6 w8 := hc7.trans (hb8.mono hc7.size)
            clear hb8
            go_wp2_with fail
            refine (HDD.out _ hc8).mono ?_
            rintro e w9 ⟨rfl, hb9⟩
            have hc9 : Below w6.heap.size w6 w9 := hc8.trans (hb9.mono hc8.size)
            clear hb9
            go_wp2_with fail
            refine (HOO.out _ hc9).mono ?_
            rintro e w10 ⟨rfl, hb10⟩
            have hc10 : Below w6.heap.size w6 w10 := hc9.trans (hb10.mono hc9.size)
            clear hb10
            go_wp2
            go_roundw
            case rel => exact HFIN.out _ hc10
            case measure => simp [intOf]; omega
          · go_wp2_with fail
            refine (HDD.out _ (Below.refl _ _)).mono ?_
            rintro e w7 ⟨rfl, hb7⟩
            have hc7 : Below w6.heap.size w6 w7 := hb7
            clear hb7
            go_wp2_with fail
            refine (HOO.out _ hc7).mono ?_
            rintro e w8 ⟨rfl, hb8⟩
            have hc8 : Below w6.heap.size w6 w8 := hc7.trans (hb8.mono hc7.size)
            clear hb8
            go_wp2_with fail
            refine (HDD.out _ hc8).mono ?_
            rintro e w9 ⟨rfl, hb9⟩
            have hc9 : Below w6.heap.size w6 w9 := hc8.trans (hb9.mono hc8.size)
            clear hb9
            go_wp2_with fail
            refine (HOO.out _ hc9).mono ?_
            rintro e w10 ⟨rfl, hb10⟩
            have hc10 : Below w6.heap.size w6 w10 := hc9.trans (hb10.mono hc9.size)
            clear hb10
            go_wp2
            go_roundw
            case rel => exact HFIN.out _ hc10
            case measure => simp [intOf]; omega
        · go_wp2
          go_roundw
          case rel => exact ⟨k + 1, s', by omega, by go_num, HD.out.below HBA.out, HSO.out, by omega, hi', hbr.trans (HBA.out.mono (by omega))⟩
          case measure => simp [intOf]; omega
    · go_wp2_with fail
      refine (f_Crash HD.out HSO.out _ [] (Sl.nilS _) (by decide)).mono ?_
      rintro e w5 ⟨rfl, hD5, hT5⟩
      have HD5 := Lib.hid hD5
      clear hD5
      go_wp2_with fail
      refine (f_Dead HD5.out).mono ?_
      rintro e w6 ⟨rfl, hb6⟩
      have hcd : (crashS s' []).dead = false := rfl
      rw [hcd]
      go_wp2
      go_ret
      exact ⟨rfl, hbr.trans ((hT5.below (by omega) (by intro a ha; simp at ha; omega)).trans (hb6.mono (by have := hT5.size; omega)))⟩
end Go.Proofs.Ytlhkacjfonihjaa
