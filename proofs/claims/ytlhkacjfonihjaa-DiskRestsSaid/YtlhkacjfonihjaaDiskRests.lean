/- The walk of DiskRests. -/
import Derived.Test.YtlhkacjfonihjaaDRun
import Derived.Test.YtlhkacjfonihjaaRestLaw
import Derived.Test.YtlhkacjfonihjaaBytesD
namespace Go.Proofs.Ytlhkacjfonihjaa
open Go.RowKit
set_option maxRecDepth 100000

set_option maxRecDepth 100000 in
set_option maxHeartbeats 4000000 in
theorem f_DiskRests (room : Int) (hroom : W64 room) (v : Value) (l : List Opr) (kv : Value) (keep : List Bool) (w : World) (h : OpsV w v l) (hkv : BoolN w kv keep) :
    Calls Try.prog 4 #[.int .i64 room, v, kv] w fun e w' => e = .returned (.bool true) ∧ Below w.heap.size w w' := by
  have H := Lib.hid h
  have hst := lrun_ok room h.ok 40
  rw [List.take_of_length_le (l := l.take 40) (by simp; omega)] at hst
  have hcm : CalmS (lrunS room l) := opsS_calm (new_calm _) _
  obtain ⟨a, cap, rfl, hl, hm, -⟩ := h.open
  obtain ⟨ak, ck, rfl, hlk, hmk, -⟩ := hkv.1.open
  obtain ⟨s, hs⟩ : ∃ s, lrunS room l = s := ⟨_, rfl⟩
  have hso : s.Ok ∧ s.ops ≤ 40 := by rw [← hs]; exact hst
  rw [hs] at hcm
  have HK := Lib.hid hkv
  have HS := Lib.hid hs
  have HSO := Lib.hid hso.1
  have HCM := Lib.hid hcm
  have hops := hso.2
  have hn4 := namesOf_len s
  clear h hkv hst hs hso hcm
  go_enter Try.func4, Try.ntmps4
  go_wp2_with fail
  refine (f_wakes w).mono ?_
  rintro e w1 ⟨rfl, hb1⟩
  have hz1 := hb1.size
  go_wp2_with fail
  refine (f_lrun room hroom _ l w1 (H.out.grown hb1)).mono ?_
  rw [HS.out]
  rintro e w2 ⟨rfl, hd2, hb2⟩
  obtain ⟨b, hb⟩ : ∃ b, w1.heap.size + 1 = b := ⟨_, rfl⟩
  obtain ⟨m, hm'⟩ : ∃ m, w1.heap.size = m := ⟨_, rfl⟩
  rw [hb, hm'] at hd2
  rw [hb]
  have HD2 := Lib.hid hd2
  have hz2 := hd2.blt
  have hb12 : Below w.heap.size w w2 := hb1.trans (hb2.mono hz1)
  clear hd2 hb2 hb1
  go_wp2_with fail
  refine (f_Files HD2.out HSO.out).mono ?_
  rintro e w3 ⟨⟨v3, rfl, own3⟩, hb3⟩
  obtain ⟨a3, c3, g3, og3, rfl, hle3, hcap3, hrow3⟩ := row_open own3
  have HR3 := Lib.hid hrow3
  have n3 := hb3.size
  have HD3 := Lib.hid (HD2.out.below hb3)
  clear own3 hrow3
  go_wp2
  go_loopw [28] (fun i wr => ∃ (k : Nat) (s' : DS), k ≤ (namesOf s).length ∧ i = .int .i64 k ∧ Synced s s' ((namesOf s).take k) ∧ Disk wr [b, m] b m s' ∧ Tw w3.heap.size [b, m] w3 wr) (fun i _ => (namesOf s).length - (intOf i).toNat)
  case atStart => exact ⟨0, s, Nat.zero_le _, rfl, ⟨HSO.out, HCM.out, rfl, by simp, fun x => by simp⟩, HD3.out, Tw.refl _ _ _⟩
  case round =>
    obtain ⟨k, s', hk, rfl, hsy, hD, hT⟩ := hrel
    have HD := Lib.hid hD
    have hsr := hT.size
    have hzo := hsy.ops
    have hok' := hsy.ok.ops
    have hlt4 : ((namesOf s).take k).length ≤ 4 := by simp; omega
    by_cases hlt : k < (namesOf s).length
    · obtain ⟨x, hx⟩ : ∃ x, (namesOf s)[k] = x := ⟨_, rfl⟩
      have hmem : x ∈ namesOf s := hx ▸ List.getElem_mem hlt
      have hnot : x ∉ (namesOf s).take k := hx ▸ names_notin s k hlt
      obtain ⟨he0, hs2⟩ := hsy.step hmem hnot
      obtain ⟨rfl, hBg, hgo, -, hcells⟩ := HR3.out (by intro e; rw [e] at hlt; simp at hlt)
      have hg4 := (Array.getElem?_eq_some_iff.1 hgo).1
      have ex : wr.cell? ⟨g3, k, none⟩ = some (.int .i64 x) := by
        rw [hT.cell (p := ⟨g3, k, none⟩) hg4 (by simp; omega), hcells k hlt, hx]
      have htk : (namesOf s).take (k + 1) = (namesOf s).take k ++ [x] := by rw [List.take_succ_eq_append_getElem hlt, hx]
      rw [← htk] at hs2
      have HS2 := Lib.hid hs2
      have HSY := Lib.hid hsy
      clear hcells hgo hx htk hs2 hsy
      go_wp2_with fail
      refine (f_Sync HD.out HSY.out.ok (by omega) x (names_w64 hmem)).mono ?_
      rw [he0]
      rintro e w5 ⟨rfl, hd5, t5⟩
      have HD5 := Lib.hid hd5
      clear hd5
      go_wp2
      go_roundw
      case rel => exact ⟨k + 1, _, by omega, by go_num, HS2.out, HD5.out, hT.trans (t5.mono (by omega) (fun a ha => .inl ha))⟩
      case measure => simp [intOf]; omega
    · have hke : k = (namesOf s).length := by omega
      subst hke
      rw [List.take_length] at hsy hlt4 hzo
      obtain ⟨r1, r2⟩ := rest_crash HSO.out hsy (keep.take 200)
      obtain ⟨q1, q2, q3, q4⟩ := hsy.all HSO.out
      have HSY := Lib.hid hsy
      have HQ3 := Lib.hid q3
      have HR1 := Lib.hid r1
      have hdd := hsy.calm.dead
      clear hsy hD q4 r1 q1 q3
      go_wp2_with fail
      refine (f_whole HD.out HSY.out.ok (by omega) hdd).mono ?_
      rintro e w5 ⟨vw, rfl, hF5, hd5, hb5⟩
      obtain ⟨v0, v1, v2, v3', rfl, B0, B1, B2, B3⟩ := hF5
      obtain ⟨x0, y0, rfl, -⟩ := B0.1.open
      obtain ⟨x1, y1, rfl, -⟩ := B1.1.open
      obtain ⟨x2, y2, rfl, -⟩ := B2.1.open
      obtain ⟨x3, y3, rfl, -⟩ := B3.1.open
      have HB0 := Lib.hid B0
      have HB1 := Lib.hid B1
      have HB2 := Lib.hid B2
      have HB3 := Lib.hid B3
      have HD5 := Lib.hid hd5
      have n5 := hb5.size
      clear B0 B1 B2 B3 hd5
      go_wp2_with fail
      have hb6 : Below w5.heap.size w5 (w5.alloc (.cells #[.slice x0 (s'.at 0).bs.length y0, .slice x1 (s'.at 1).bs.length y1, .slice x2 (s'.at 2).bs.length y2, .slice x3 (s'.at 3).bs.length y3] 41)) := (Below.refl _ _).alloc (Nat.le_refl _) _
      have n6 : (w5.alloc (.cells #[.slice x0 (s'.at 0).bs.length y0, .slice x1 (s'.at 1).bs.length y1, .slice x2 (s'.at 2).bs.length y2, .slice x3 (s'.at 3).bs.length y3] 41)).heap.size = w5.heap.size + 1 := by simp
      have c60 : (w5.alloc (.cells #[.slice x0 (s'.at 0).bs.length y0, .slice x1 (s'.at 1).bs.length y1, .slice x2 (s'.at 2).bs.length y2, .slice x3 (s'.at 3).bs.length y3] 41)).cell? ⟨w5.heap.size, 0, none⟩ = some (.slice x0 (s'.at 0).bs.length y0) := by go_simp
      have c61 : (w5.alloc (.cells #[.slice x0 (s'.at 0).bs.length y0, .slice x1 (s'.at 1).bs.length y1, .slice x2 (s'.at 2).bs.length y2, .slice x3 (s'.at 3).bs.length y3] 41)).cell? ⟨w5.heap.size, 1, none⟩ = some (.slice x1 (s'.at 1).bs.length y1) := by go_simp
      have c62 : (w5.alloc (.cells #[.slice x0 (s'.at 0).bs.length y0, .slice x1 (s'.at 1).bs.length y1, .slice x2 (s'.at 2).bs.length y2, .slice x3 (s'.at 3).bs.length y3] 41)).cell? ⟨w5.heap.size, 2, none⟩ = some (.slice x2 (s'.at 2).bs.length y2) := by go_simp
      have c63 : (w5.alloc (.cells #[.slice x0 (s'.at 0).bs.length y0, .slice x1 (s'.at 1).bs.length y1, .slice x2 (s'.at 2).bs.length y2, .slice x3 (s'.at 3).bs.length y3] 41)).cell? ⟨w5.heap.size, 3, none⟩ = some (.slice x3 (s'.at 3).bs.length y3) := by go_simp
      obtain ⟨w6, hw6⟩ : ∃ w6, (w5.alloc (.cells #[.slice x0 (s'.at 0).bs.length y0, .slice x1 (s'.at 1).bs.length y1, .slice x2 (s'.at 2).bs.length y2, .slice x3 (s'.at 3).bs.length y3] 41)) = w6 := ⟨_, rfl⟩
      rw [hw6] at hb6 n6 c60 c61 c62 c63 ⊢
      clear hw6
      have HD6 := Lib.hid (HD5.out.below hb6)
      have HC60 := Lib.hid c60
      have HC61 := Lib.hid c61
      have HC62 := Lib.hid c62
      have HC63 := Lib.hid c63
      clear c60 c61 c62 c63
      refine (f_Files HD6.out HSY.out.ok).mono ?_
      rintro e w7 ⟨⟨v7, rfl, own7⟩, hb7⟩
      rw [q2] at own7
      obtain ⟨a7, c7, g7, og7, rfl, hle7, hcap7, hrow7⟩ := row_open own7
      have HR7 := Lib.hid hrow7
      have n7 := hb7.size
      have HD7 := Lib.hid (HD6.out.below hb7)
      clear own7 hrow7
      go_wp2_with fail
      refine (f_Pending HD7.out HSY.out.ok).mono ?_
      rw [r2]
      rintro e w8 ⟨⟨v8, rfl, own8⟩, hb8⟩
      obtain ⟨a8, c8, g8, og8, rfl, hle8, hcap8, -⟩ := row_open own8
      have n8 := hb8.size
      have HD8 := Lib.hid (HD7.out.below hb8)
      clear own8
      have hmn : min (keep.length : Int) 200 = ((min keep.length 200 : Nat) : Int) := by omega
      have hcut := run_cut2b ak keep.length ck (min keep.length 200) (by omega) hlk hmk
      have hb58 : Below w5.heap.size w5 w8 := hb6.trans ((hb7.mono (by omega)).trans (hb8.mono (by omega)))
      have hw8 : Below w.heap.size w w8 := hb12.trans ((hb3.mono (by omega)).trans ((hT.below (by omega) (by intro a ha; simp at ha; omega)).trans ((hb5.mono (by omega)).trans (hb58.mono (by omega)))))
      have hkb : Bools w8 (.slice ak (min keep.length 200) ck) (keep.take 200) := by
        have h9 := Sl.cut (HK.out.1.grown hw8) (k := min keep.length 200) (by omega)
        have e9 : keep.take (min keep.length 200) = keep.take 200 := by
          rcases Nat.lt_or_ge 200 keep.length with h9 | h9
          · rw [show min keep.length 200 = 200 by omega]
          · rw [List.take_of_length_le (by omega), List.take_of_length_le (by omega)]
        have e10 : (keep.take 200).length = min keep.length 200 := by simp; omega
        unfold Bools
        rw [e10, ← e9]
        simpa using h9
      go_wp2_with fail
      refine (f_Crash HD8.out HSY.out.ok _ (keep.take 200) hkb (by simp; omega)).mono ?_
      rintro e w9 ⟨rfl, hd9, t9⟩
      have hk9 := crash_ok HSY.out.ok (keep.take 200)
      have ho9 : (crashS s' (keep.take 200)).ops = s'.ops := rfl
      have hde9 : (crashS s' (keep.take 200)).dead = false := rfl
      obtain ⟨s9, hs9⟩ : ∃ s9, crashS s' (keep.take 200) = s9 := ⟨_, rfl⟩
      have hfl9 : ∀ x, s9.fl x = s'.fl x := fun x => by rw [← hs9]; exact HR1.out x
      rw [hs9] at hd9 hk9 ho9 hde9
      have HK9 := Lib.hid hk9
      have HFL9 := Lib.hid hfl9
      have HD9 := Lib.hid hd9
      have n9 := t9.size
      clear hs9 hk9 hfl9 hd9 hkb
      go_wp2_with fail
      refine (f_whole HD9.out HK9.out (by omega) hde9).mono ?_
      rintro e w10 ⟨vw2, rfl, hF10, hd10, hb10⟩
      obtain ⟨e0, e1, e2, e3, rfl, B0, B1, B2, B3⟩ := hF10
      obtain ⟨t0, u0, rfl, -⟩ := B0.1.open
      obtain ⟨t1, u1, rfl, -⟩ := B1.1.open
      obtain ⟨t2, u2, rfl, -⟩ := B2.1.open
      obtain ⟨t3, u3, rfl, -⟩ := B3.1.open
      have HE0 := Lib.hid B0
      have HE1 := Lib.hid B1
      have HE2 := Lib.hid B2
      have HE3 := Lib.hid B3
      have HD10 := Lib.hid hd10
      have n10 := hb10.size
      clear B0 B1 B2 B3 hd10
      go_wp2_with fail
      have hb11 : Below w10.heap.size w10 (w10.alloc (.cells #[.slice t0 (s9.at 0).bs.length u0, .slice t1 (s9.at 1).bs.length u1, .slice t2 (s9.at 2).bs.length u2, .slice t3 (s9.at 3).bs.length u3] 41)) := (Below.refl _ _).alloc (Nat.le_refl _) _
      have n11 : (w10.alloc (.cells #[.slice t0 (s9.at 0).bs.length u0, .slice t1 (s9.at 1).bs.length u1, .slice t2 (s9.at 2).bs.length u2, .slice t3 (s9.at 3).bs.length u3] 41)).heap.size = w10.heap.size + 1 := by simp
      have c10 : (w10.alloc (.cells #[.slice t0 (s9.at 0).bs.length u0, .slice t1 (s9.at 1).bs.length u1, .slice t2 (s9.at 2).bs.length u2, .slice t3 (s9.at 3).bs.length u3] 41)).cell? ⟨w10.heap.size, 0, none⟩ = some (.slice t0 (s9.at 0).bs.length u0) := by go_simp
      have c11 : (w10.alloc (.cells #[.slice t0 (s9.at 0).bs.length u0, .slice t1 (s9.at 1).bs.length u1, .slice t2 (s9.at 2).bs.length u2, .slice t3 (s9.at 3).bs.length u3] 41)).cell? ⟨w10.heap.size, 1, none⟩ = some (.slice t1 (s9.at 1).bs.length u1) := by go_simp
      have c12 : (w10.alloc (.cells #[.slice t0 (s9.at 0).bs.length u0, .slice t1 (s9.at 1).bs.length u1, .slice t2 (s9.at 2).bs.length u2, .slice t3 (s9.at 3).bs.length u3] 41)).cell? ⟨w10.heap.size, 2, none⟩ = some (.slice t2 (s9.at 2).bs.length u2) := by go_simp
      have c13 : (w10.alloc (.cells #[.slice t0 (s9.at 0).bs.length u0, .slice t1 (s9.at 1).bs.length u1, .slice t2 (s9.at 2).bs.length u2, .slice t3 (s9.at 3).bs.length u3] 41)).cell? ⟨w10.heap.size, 3, none⟩ = some (.slice t3 (s9.at 3).bs.length u3) := by go_simp
      obtain ⟨w11, hw11⟩ : ∃ w11, (w10.alloc (.cells #[.slice t0 (s9.at 0).bs.length u0, .slice t1 (s9.at 1).bs.length u1, .slice t2 (s9.at 2).bs.length u2, .slice t3 (s9.at 3).bs.length u3] 41)) = w11 := ⟨_, rfl⟩
      rw [hw11] at hb11 n11 c10 c11 c12 c13 ⊢
      clear hw11
      have HC10 := Lib.hid c10
      have HC11 := Lib.hid c11
      have HC12 := Lib.hid c12
      have HC13 := Lib.hid c13
      clear c10 c11 c12 c13
      refine (f_Files (HD10.out.below hb11) HK9.out).mono ?_
      have hnm9 : namesOf s9 = namesOf s := by rw [← q2]; exact names_of_some fun x => by rw [HFL9.out]
      rw [hnm9]
      rintro e w12 ⟨⟨v12, rfl, own12⟩, hb12'⟩
      obtain ⟨a12, c12, g12, og12, rfl, hle12, hcap12, hrow12⟩ := row_open own12
      have n12 := hb12'.size
      have HR12 := Lib.hid hrow12
      clear own12 hrow12
      have hb912 : Below w9.heap.size w9 w12 := hb10.trans ((hb11.mono (by omega)).trans (hb12'.mono (by omega)))
      go_wp2_with fail
      refine (f_eqInts hn4 (fun hne => ?_) (fun hne => ?_)).mono ?_
      · obtain ⟨r1, r3, r4, -, r5⟩ := HR7.out hne
        have hg7 := (Array.getElem?_eq_some_iff.1 r4).1
        refine ⟨_, r1, fun i hi => ?_⟩
        rw [hb912.cell (p := ⟨g7, i, none⟩) (by dsimp; omega), t9.cell (p := ⟨g7, i, none⟩) (by dsimp; omega) (by simp; omega), hb8.cell (p := ⟨g7, i, none⟩) hg7]
        exact r5 i hi
      · obtain ⟨r1, r3, r4, -, r5⟩ := HR12.out hne
        exact ⟨_, r1, r5⟩
      rintro e w13 ⟨rfl, hb13⟩
      have n13 := hb13.size
      have hb1013 : Below w11.heap.size w11 w13 := hb12'.trans (hb13.mono (by omega))
      have hb913 : Below w9.heap.size w9 w13 := hb912.trans (hb13.mono (by omega))
      have hat : ∀ x, (s9.at x).bs = (s'.at x).bs := fun x => by unfold DS.at; rw [HFL9.out]
      have HB58 := Lib.hid hb58
      have hw9 : Below w.heap.size w w9 := hw8.trans (t9.below (by omega) (by intro a ha; simp at ha; omega))
      have hw13 : Below w.heap.size w w13 := hw9.trans (hb913.mono (by omega))
      have D6 : ∀ j u, w6.cell? ⟨w5.heap.size, j, none⟩ = some u → w13.cell? ⟨w5.heap.size, j, none⟩ = some u := fun j u hu => by
        rw [hb913.cell (p := ⟨w5.heap.size, j, none⟩) (by dsimp; omega), t9.cell (p := ⟨w5.heap.size, j, none⟩) (by dsimp; omega) (by simp; omega), hb8.cell (p := ⟨w5.heap.size, j, none⟩) (by dsimp; omega), hb7.cell (p := ⟨w5.heap.size, j, none⟩) (by dsimp; omega)]; exact hu
      have D11 : ∀ j u, w11.cell? ⟨w10.heap.size, j, none⟩ = some u → w13.cell? ⟨w10.heap.size, j, none⟩ = some u := fun j u hu => by
        rw [hb1013.cell (p := ⟨w10.heap.size, j, none⟩) (by dsimp; omega)]; exact hu
      have BW : ∀ v l, ByO wr.heap.size w5 v l → Byt w13 v l := fun v l hb => (((hb.below hb58).tw t9 (by intro a ha; simp at ha; omega)).below hb913).1
      have BE : ∀ v l, ByO w9.heap.size w10 v l → Byt w13 v l := fun v l hb => (hb.below (hb11.trans (hb1013.mono (by omega)))).1
      have p0 := D6 _ _ HC60.out
      have o0 := D11 _ _ HC10.out
      have M0 := Lib.hid (BW _ _ HB0.out)
      have N0' := BE _ _ HE0.out
      rw [hat] at N0'
      have N0 := Lib.hid N0'
      clear N0'
      have L0 : (s9.at 0).bs.length = (s'.at 0).bs.length := by rw [hat]
      have p1 := D6 _ _ HC61.out
      have o1 := D11 _ _ HC11.out
      have M1 := Lib.hid (BW _ _ HB1.out)
      have N1' := BE _ _ HE1.out
      rw [hat] at N1'
      have N1 := Lib.hid N1'
      clear N1'
      have L1 : (s9.at 1).bs.length = (s'.at 1).bs.length := by rw [hat]
      have p2 := D6 _ _ HC62.out
      have o2 := D11 _ _ HC12.out
      have M2 := Lib.hid (BW _ _ HB2.out)
      have N2' := BE _ _ HE2.out
      rw [hat] at N2'
      have N2 := Lib.hid N2'
      clear N2'
      have L2 : (s9.at 2).bs.length = (s'.at 2).bs.length := by rw [hat]
      have p3 := D6 _ _ HC63.out
      have o3 := D11 _ _ HC13.out
      have M3 := Lib.hid (BW _ _ HB3.out)
      have N3' := BE _ _ HE3.out
      rw [hat] at N3'
      have N3 := Lib.hid N3'
      clear N3'
      have L3 : (s9.at 3).bs.length = (s'.at 3).bs.length := by rw [hat]
      rw [L0] at o0
      rw [L1] at o1
      rw [L2] at o2
      rw [L3] at o3
      have HW13 := Lib.hid hw13
      have n513 : w5.heap.size < w13.heap.size := by omega
      have n1013 : w10.heap.size < w13.heap.size := by omega
      clear hb58 hw8 hw9 hw13 D6 D11 BW BE hat hb11 hb912 hb913 hb1013 hb13 hb12' hb10 t9 hb6 hb7 hb8 hb5 hT hb12 hb3 L0 L1 L2 L3
      go_wp2
      go_loopw [76] (fun i wr => ∃ k : Nat, k ≤ 4 ∧ i = .int .i64 k ∧ Below w13.heap.size w13 wr) (fun i _ => 4 - (intOf i).toNat)
      case atStart => exact ⟨0, by omega, rfl, Below.refl _ _⟩
      case round =>
        obtain ⟨k, hk, rfl, hbr⟩ := hrel
        have nr := hbr.size
        by_cases hlt : k < 4
        · have hk4 : k = 0 ∨ k = 1 ∨ k = 2 ∨ k = 3 := by omega
          rcases hk4 with rfl | rfl | rfl | rfl
          · have pp := (hbr.cell (p := ⟨w5.heap.size, 0, none⟩) n513).trans p0
            have oo := (hbr.cell (p := ⟨w10.heap.size, 0, none⟩) n1013).trans o0
            have MM := Lib.hid (M0.out.grown hbr)
            have NN := Lib.hid (N0.out.grown hbr)
            have n5r : w5.heap.size < wr.heap.size := by omega
            have n10r : w10.heap.size < wr.heap.size := by omega
            go_wp2
            refine wp_grow [(6, .val (.bool true))] 8 (by kernel_rfl) (by kernel_rfl) (by rfl) (by rfl) ?_
            simp only [List.take_succ_cons, List.take_zero, List.drop_succ_cons, List.drop_zero]
            repeat (first
              | (apply Der.quiet; (rfl); (rfl); (intro w' hw' hctx; have hc' := bcell hw'; have y0 := (hw'.cell (p := ⟨w5.heap.size, 0, none⟩) (by dsimp; omega)).trans pp; have y1 := (hw'.cell (p := ⟨w10.heap.size, 0, none⟩) (by dsimp; omega)).trans oo; clear hctx; go_simp; first | exact rfl | exact ⟨rfl, rfl⟩); simp only [Act.put, List.setIfInBounds_toArray, List.set_cons_succ, List.set_cons_zero, Nat.reduceAdd])
              | (apply Der.skip; (rfl); simp only [Act.put, List.setIfInBounds_toArray, List.set_cons_succ, List.set_cons_zero, Nat.reduceAdd]))
            apply Der.val
            · rfl
            · rfl
            · (intro w' hw' hctx; go_simp; refine (f_bytesEqB (MM.out.grown ((Below.refl _ _).drew.trans hw')) (NN.out.grown ((Below.refl _ _).drew.trans hw'))).mono ?_; rintro e w2 ⟨rfl, hb⟩; exact ⟨_, rfl, rfl, hb⟩)
            simp only [Act.put, List.setIfInBounds_toArray, List.set_cons_succ, List.set_cons_zero, Nat.reduceAdd]
            repeat (first
              | (apply Der.quiet; (rfl); (rfl); (intro w' hw' hctx; have hc' := bcell hw'; clear hctx; go_simp; first | exact rfl | exact ⟨rfl, rfl⟩); simp only [Act.put, List.setIfInBounds_toArray, List.set_cons_succ, List.set_cons_zero, Nat.reduceAdd])
              | (apply Der.skip; (rfl); simp only [Act.put, List.setIfInBounds_toArray, List.set_cons_succ, List.set_cons_zero, Nat.reduceAdd]))
            refine Der.nil (fun w14 hgw14 hctx => ?_)
            clear hctx
            have hb14 : Below _ _ w14 := hgw14
            clear hgw14
            go_wp2
            go_roundw
            case rel => exact ⟨0 + 1, by omega, by go_num, hbr.trans (((Below.refl _ _).drew.trans hb14).mono nr)⟩
            case measure => simp [intOf]
          · have pp := (hbr.cell (p := ⟨w5.heap.size, 1, none⟩) n513).trans p1
            have oo := (hbr.cell (p := ⟨w10.heap.size, 1, none⟩) n1013).trans o1
            have MM := Lib.hid (M1.out.grown hbr)
            have NN := Lib.hid (N1.out.grown hbr)
            have n5r : w5.heap.size < wr.heap.size := by omega
            have n10r : w10.heap.size < wr.heap.size := by omega
            go_wp2
            refine wp_grow [(6, .val (.bool true))] 8 (by kernel_rfl) (by kernel_rfl) (by rfl) (by rfl) ?_
            simp only [List.take_succ_cons, List.take_zero, List.drop_succ_cons, List.drop_zero]
            repeat (first
              | (apply Der.quiet; (rfl); (rfl); (intro w' hw' hctx; have hc' := bcell hw'; have y0 := (hw'.cell (p := ⟨w5.heap.size, 1, none⟩) (by dsimp; omega)).trans pp; have y1 := (hw'.cell (p := ⟨w10.heap.size, 1, none⟩) (by dsimp; omega)).trans oo; clear hctx; go_simp; first | exact rfl | exact ⟨rfl, rfl⟩); simp only [Act.put, List.setIfInBounds_toArray, List.set_cons_succ, List.set_cons_zero, Nat.reduceAdd])
              | (apply Der.skip; (rfl); simp only [Act.put, List.setIfInBounds_toArray, List.set_cons_succ, List.set_cons_zero, Nat.reduceAdd]))
            apply Der.val
            · rfl
            · rfl
            · (intro w' hw' hctx; go_simp; refine (f_bytesEqB (MM.out.grown ((Below.refl _ _).drew.trans hw')) (NN.out.grown ((Below.refl _ _).drew.trans hw'))).mono ?_; rintro e w2 ⟨rfl, hb⟩; exact ⟨_, rfl, rfl, hb⟩)
            simp only [Act.put, List.setIfInBounds_toArray, List.set_cons_succ, List.set_cons_zero, Nat.reduceAdd]
            repeat (first
              | (apply Der.quiet; (rfl); (rfl); (intro w' hw' hctx; have hc' := bcell hw'; clear hctx; go_simp; first | exact rfl | exact ⟨rfl, rfl⟩); simp only [Act.put, List.setIfInBounds_toArray, List.set_cons_succ, List.set_cons_zero, Nat.reduceAdd])
              | (apply Der.skip; (rfl); simp only [Act.put, List.setIfInBounds_toArray, List.set_cons_succ, List.set_cons_zero, Nat.reduceAdd]))
            refine Der.nil (fun w14 hgw14 hctx => ?_)
            clear hctx
            have hb14 : Below _ _ w14 := hgw14
            clear hgw14
            go_wp2
            go_roundw
            case rel => exact ⟨1 + 1, by omega, by go_num, hbr.trans (((Below.refl _ _).drew.trans hb14).mono nr)⟩
            case measure => simp [intOf]
          · have pp := (hbr.cell (p := ⟨w5.heap.size, 2, none⟩) n513).trans p2
            have oo := (hbr.cell (p := ⟨w10.heap.size, 2, none⟩) n1013).trans o2
            have MM := Lib.hid (M2.out.grown hbr)
            have NN := Lib.hid (N2.out.grown hbr)
            have n5r : w5.heap.size < wr.heap.size := by omega
            have n10r : w10.heap.size < wr.heap.size := by omega
            go_wp2
            refine wp_grow [(6, .val (.bool true))] 8 (by kernel_rfl) (by kernel_rfl) (by rfl) (by rfl) ?_
            simp only [List.take_succ_cons, List.take_zero, List.drop_succ_cons, List.drop_zero]
            repeat (first
              | (apply Der.quiet; (rfl); (rfl); (intro w' hw' hctx; have hc' := bcell hw'; have y0 := (hw'.cell (p := ⟨w5.heap.size, 2, none⟩) (by dsimp; omega)).trans pp; have y1 := (hw'.cell (p := ⟨w10.heap.size, 2, none⟩) (by dsimp; omega)).trans oo; clear hctx; go_simp; first | exact rfl | exact ⟨rfl, rfl⟩); simp only [Act.put, List.setIfInBounds_toArray, List.set_cons_succ, List.set_cons_zero, Nat.reduceAdd])
              | (apply Der.skip; (rfl); simp only [Act.put, List.setIfInBounds_toArray, List.set_cons_succ, List.set_cons_zero, Nat.reduceAdd]))
            apply Der.val
            · rfl
            · rfl
            · (intro w' hw' hctx; go_simp; refine (f_bytesEqB (MM.out.grown ((Below.refl _ _).drew.trans hw')) (NN.out.grown ((Below.refl _ _).drew.trans hw'))).mono ?_; rintro e w2 ⟨rfl, hb⟩; exact ⟨_, rfl, rfl, hb⟩)
            simp only [Act.put, List.setIfInBounds_toArray, List.set_cons_succ, List.set_cons_zero, Nat.reduceAdd]
            repeat (first
              | (apply Der.quiet; (rfl); (rfl); (intro w' hw' hctx; have hc' := bcell hw'; clear hctx; go_simp; first | exact rfl | exact ⟨rfl, rfl⟩); simp only [Act.put, List.setIfInBounds_toArray, List.set_cons_succ, List.set_cons_zero, Nat.reduceAdd])
              | (apply Der.skip; (rfl); simp only [Act.put, List.setIfInBounds_toArray, List.set_cons_succ, List.set_cons_zero, Nat.reduceAdd]))
            refine Der.nil (fun w14 hgw14 hctx => ?_)
            clear hctx
            have hb14 : Below _ _ w14 := hgw14
            clear hgw14
            go_wp2
            go_roundw
            case rel => exact ⟨2 + 1, by omega, by go_num, hbr.trans (((Below.refl _ _).drew.trans hb14).mono nr)⟩
            case measure => simp [intOf]
          · have pp := (hbr.cell (p := ⟨w5.heap.size, 3, none⟩) n513).trans p3
            have oo := (hbr.cell (p := ⟨w10.heap.size, 3, none⟩) n1013).trans o3
            have MM := Lib.hid (M3.out.grown hbr)
            have NN := Lib.hid (N3.out.grown hbr)
            have n5r : w5.heap.size < wr.heap.size := by omega
            have n10r : w10.heap.size < wr.heap.size := by omega
            go_wp2
            refine wp_grow [(6, .val (.bool true))] 8 (by kernel_rfl) (by kernel_rfl) (by rfl) (by rfl) ?_
            simp only [List.take_succ_cons, List.take_zero, List.drop_succ_cons, List.drop_zero]
            repeat (first
              | (apply Der.quiet; (rfl); (rfl); (intro w' hw' hctx; have hc' := bcell hw'; have y0 := (hw'.cell (p := ⟨w5.heap.size, 3, none⟩) (by dsimp; omega)).trans pp; have y1 := (hw'.cell (p := ⟨w10.heap.size, 3, none⟩) (by dsimp; omega)).trans oo; clear hctx; go_simp; first | exact rfl | exact ⟨rfl, rfl⟩); simp only [Act.put, List.setIfInBounds_toArray, List.set_cons_succ, List.set_cons_zero, Nat.reduceAdd])
              | (apply Der.skip; (rfl); simp only [Act.put, List.setIfInBounds_toArray, List.set_cons_succ, List.set_cons_zero, Nat.reduceAdd]))
            apply Der.val
            · rfl
            · rfl
            · (intro w' hw' hctx; go_simp; refine (f_bytesEqB (MM.out.grown ((Below.refl _ _).drew.trans hw')) (NN.out.grown ((Below.refl _ _).drew.trans hw'))).mono ?_; rintro e w2 ⟨rfl, hb⟩; exact ⟨_, rfl, rfl, hb⟩)
            simp only [Act.put, List.setIfInBounds_toArray, List.set_cons_succ, List.set_cons_zero, Nat.reduceAdd]
            repeat (first
              | (apply Der.quiet; (rfl); (rfl); (intro w' hw' hctx; have hc' := bcell hw'; clear hctx; go_simp; first | exact rfl | exact ⟨rfl, rfl⟩); simp only [Act.put, List.setIfInBounds_toArray, List.set_cons_succ, List.set_cons_zero, Nat.reduceAdd])
              | (apply Der.skip; (rfl); simp only [Act.put, List.setIfInBounds_toArray, List.set_cons_succ, List.set_cons_zero, Nat.reduceAdd]))
            refine Der.nil (fun w14 hgw14 hctx => ?_)
            clear hctx
            have hb14 : Below _ _ w14 := hgw14
            clear hgw14
            go_wp2
            go_roundw
            case rel => exact ⟨3 + 1, by omega, by go_num, hbr.trans (((Below.refl _ _).drew.trans hb14).mono nr)⟩
            case measure => simp [intOf]
        · have hk4 : k = 4 := by omega
          subst hk4
          go_wp2
          go_ret
          exact ⟨rfl, HW13.out.trans (hbr.mono (by omega))⟩
end Go.Proofs.Ytlhkacjfonihjaa
