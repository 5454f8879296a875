/- The walk of DiskLives. -/
import Derived.Test.YtlhkacjfonihjaaDRun
import Derived.Test.YtlhkacjfonihjaaBoxD
namespace Go.Proofs.Ytlhkacjfonihjaa
open Go.RowKit
set_option maxRecDepth 100000

theorem set_true (N k : Nat) (h : k < N) : (List.replicate k true ++ List.replicate (N - k) false).set k true = List.replicate (k + 1) true ++ List.replicate (N - (k + 1)) false := by
  rw [List.set_append_right _ _ (by simp), List.length_replicate, Nat.sub_self]
  obtain ⟨q, hq⟩ : ∃ q, N - k = q + 1 := ⟨N - k - 1, by omega⟩
  rw [hq, List.replicate_succ, List.set_cons_zero, List.replicate_succ' (n := k), show N - (k + 1) = q by omega]
  simp

set_option maxRecDepth 100000 in
set_option maxHeartbeats 4000000 in
theorem f_DiskLives (room : Int) (hroom : W64 room) (v : Value) (l : List Opr) (kv : Value) (keep : List Bool) (w : World) (h : OpsV w v l) (hkv : BoolN w kv keep) :
    Calls Try.prog 5 #[.int .i64 room, v, kv] w fun e w' => e = .returned (.bool true) ∧ Below w.heap.size w w' := by
  have H := Lib.hid h
  have hst := lrun_ok room h.ok 40
  rw [List.take_of_length_le (l := l.take 40) (by simp; omega)] at hst
  have hcm : CalmS (lrunS room l) := opsS_calm (new_calm _) _
  obtain ⟨a, cap, rfl, hl, hm, -⟩ := h.open
  obtain ⟨ak, ck, rfl, hlk, hmk, -⟩ := hkv.1.open
  obtain ⟨s, hs⟩ : ∃ s, lrunS room l = s := ⟨_, rfl⟩
  have hso : s.Ok ∧ s.ops ≤ 40 := by rw [← hs]; exact hst
  rw [hs] at hcm
  have HK := Lib.hid hkv
  have HS := Lib.hid hs
  have HSO := Lib.hid hso.1
  have hdead := hcm.dead
  have hops := hso.2
  have hpl := pieces_len hso.1
  obtain ⟨N, hN⟩ : ∃ N, (pieces s).length = N := ⟨_, rfl⟩
  have hpd : (pendL s).length = N := by rw [← hN]; unfold pendL; simp
  -- the three crashes
  obtain ⟨sn, hsn⟩ : ∃ x, crashS s [] = x := ⟨_, rfl⟩
  obtain ⟨sk, hsk⟩ : ∃ x, crashS s (keep.take 200) = x := ⟨_, rfl⟩
  obtain ⟨sa, hsa⟩ : ∃ x, crashS s (List.replicate N true) = x := ⟨_, rfl⟩
  have L1 := Lib.hid (fun x => (show (sn.at x).bs <+: (sk.at x).bs by rw [← hsn, ← hsk]; exact crash_none hso.1 _ x))
  have L2 := Lib.hid (fun x => (show (sk.at x).bs <+: (s.at x).bs by rw [← hsk]; exact crash_pre hso.1 _ x))
  have L3 := Lib.hid (fun x => (show (sa.at x).bs = (s.at x).bs by rw [← hsa, ← hN]; exact crash_all hso.1 x))
  have L4 : pendL sk = [] := by rw [← hsk]; exact crash_pend hso.1 _
  have K1 := Lib.hid (show sn.Ok by rw [← hsn]; exact crash_ok hso.1 _)
  have K2 := Lib.hid (show sk.Ok by rw [← hsk]; exact crash_ok hso.1 _)
  have K3 := Lib.hid (show sa.Ok by rw [← hsa]; exact crash_ok hso.1 _)
  have o1 : sn.ops < 900000 := by rw [← hsn]; show s.ops < 900000; omega
  have o2 : sk.ops < 900000 := by rw [← hsk]; show s.ops < 900000; omega
  have o3 : sa.ops < 900000 := by rw [← hsa]; show s.ops < 900000; omega
  have d1 : sn.dead = false := by rw [← hsn]; rfl
  have d2 : sk.dead = false := by rw [← hsk]; rfl
  have d3 : sa.dead = false := by rw [← hsa]; rfl
  have HSN := Lib.hid hsn
  have HSK := Lib.hid hsk
  have HSA := Lib.hid hsa
  clear h hkv hst hs hso hcm hsn hsk hsa hN
  rw [show (pieces s).length = N by rw [← hpd]; unfold pendL; simp] at hpl
  go_enter Try.func5, Try.ntmps5
  go_wp2_with fail
  refine (f_wakes w).mono ?_
  rintro e w1 ⟨rfl, hb1⟩
  have hz1 := hb1.size
  go_wp2_with fail
  refine (f_lrun room hroom _ l w1 (H.out.grown hb1)).mono ?_
  rw [HS.out]
  rintro e w2 ⟨rfl, hd2, hb2⟩
  obtain ⟨b, hb⟩ : ∃ b, w1.heap.size + 1 = b := ⟨_, rfl⟩
  obtain ⟨m, hm'⟩ : ∃ m, w1.heap.size = m := ⟨_, rfl⟩
  rw [hb, hm'] at hd2
  rw [hb]
  have HD2 := Lib.hid hd2
  have hz2 := hd2.blt
  have hz2' := hd2.mlt
  have hb12 : Below w.heap.size w w2 := hb1.trans (hb2.mono hz1)
  have hbw : w.heap.size ≤ b ∧ w.heap.size ≤ m := by omega
  clear hd2 hb2 hb1 hb hm'
  -- was
  go_wp2_with fail
  refine (f_whole HD2.out HSO.out (by omega) hdead).mono ?_
  rintro e w3 ⟨vw, rfl, hF3, hd3, hb3⟩
  have n3 := hb3.size
  obtain ⟨x0, y0, x1, y1, x2, y2, x3, y3, rfl, hB3⟩ := hF3.open n3
  have HD3 := Lib.hid hd3
  clear hd3 hF3
  go_wp2_with fail
  have hb4 : Below w3.heap.size w3 (w3.alloc (.cells #[.slice x0 (s.at 0).bs.length y0, .slice x1 (s.at 1).bs.length y1, .slice x2 (s.at 2).bs.length y2, .slice x3 (s.at 3).bs.length y3] 41)) := (Below.refl _ _).alloc (Nat.le_refl _) _
  have n4 : (w3.alloc (.cells #[.slice x0 (s.at 0).bs.length y0, .slice x1 (s.at 1).bs.length y1, .slice x2 (s.at 2).bs.length y2, .slice x3 (s.at 3).bs.length y3] 41)).heap.size = w3.heap.size + 1 := by simp
  obtain ⟨w4, hw4⟩ : ∃ w4, (w3.alloc (.cells #[.slice x0 (s.at 0).bs.length y0, .slice x1 (s.at 1).bs.length y1, .slice x2 (s.at 2).bs.length y2, .slice x3 (s.at 3).bs.length y3] 41)) = w4 := ⟨_, rfl⟩
  rw [hw4] at hb4 n4 hB3 ⊢
  clear hw4
  have HX3 := Lib.hid hB3
  have HD4 := Lib.hid (HD3.out.below hb4)
  clear hB3
  -- the three copies
  refine (f_Copy HD4.out HSO.out).mono ?_
  rintro e w5 ⟨b5, m5, rfl, hb5, hm5, hd5, hc5, hk5⟩
  have n5 := hk5.size
  have u5 := hc5.blt
  have u5' := hc5.mlt
  have ne5 := hc5.ne
  have HD5 := Lib.hid hd5
  have HC5 := Lib.hid hc5
  have HX5 := Lib.hid (HX3.out.below hk5)
  clear hd5 hc5
  go_wp2_with fail
  refine (f_Copy HD5.out HSO.out).mono ?_
  rintro e w6 ⟨b6, m6, rfl, hb6, hm6, hd6, hc6, hk6⟩
  have n6 := hk6.size
  have u6 := hc6.blt
  have u6' := hc6.mlt
  have ne6 := hc6.ne
  have HD6 := Lib.hid hd6
  have HC6 := Lib.hid hc6
  have HC56 := Lib.hid (HC5.out.more hk6 (C := [b6, m6]) (by intro a ha; simp at ha; omega))
  have HX6 := Lib.hid (HX5.out.below hk6)
  clear hd6 hc6
  go_wp2_with fail
  refine (f_Copy HD6.out HSO.out).mono ?_
  rintro e w7 ⟨b7, m7, rfl, hb7, hm7, hd7, hc7, hk7⟩
  have n7 := hk7.size
  have u7 := hc7.blt
  have u7' := hc7.mlt
  have ne7 := hc7.ne
  have HD7 := Lib.hid hd7
  have HC7 := Lib.hid hc7
  have HC57 := Lib.hid (HC56.out.more hk7 (C := [b7, m7]) (by intro a ha; simp at ha; omega))
  have HC67 := Lib.hid (HC6.out.more hk7 (C := [b7, m7]) (by intro a ha; simp at ha; omega))
  have HX7 := Lib.hid (HX6.out.below hk7)
  clear hd7 hc7
  -- what is pending
  go_wp2_with fail
  refine (f_Pending HD7.out HSO.out).mono ?_
  rintro e w8 ⟨⟨v8, rfl, own8⟩, hk8⟩
  obtain ⟨a8, c8, g8, og8, rfl, hle8, hcap8, -⟩ := row_open own8
  rw [hpd] at hle8 ⊢
  have n8 := hk8.size
  obtain ⟨w9, hr9, own9, hk9, n9⟩ := make_bools w8 N (by omega)
  have OW9 := Lib.hid own9
  clear own8 own9
  go_wp2
  go_loopw [51] (fun i wr => ∃ k : Nat, k ≤ N ∧ i = .int .i64 k ∧ wr.ownsRow w8.heap.size 4 1 (.slice (some ⟨w8.heap.size, 0, none⟩) N N) N ((List.replicate k true ++ List.replicate (N - k) false).map Value.bool) ∧ Tw w9.heap.size [w8.heap.size] w9 wr) (fun i _ => N - (intOf i).toNat)
  case atStart => exact ⟨0, Nat.zero_le _, rfl, by simpa using OW9.out, Tw.refl _ _ _⟩
  case round =>
    obtain ⟨k, hk, rfl, ow, hT⟩ := hrel
    by_cases hlt : k < N
    · have hcell := cell_own ow k (by simp; omega)
      have hfr := frozen_own ow k
      obtain ⟨y, hy⟩ : ∃ y, ((List.replicate k true ++ List.replicate (N - k) false).map Value.bool)[k]'(by simp; omega) = y := ⟨_, rfl⟩
      rw [hy] at hcell
      have OW := Lib.hid ow
      clear ow hy
      go_wp2
      have hst := (OW.out.stored (g := w8.heap.size) k (.bool true)).1
      exact ⟨⟨k + 1, by omega, by simp, by rw [← set_true N k hlt, List.map_set]; exact hst, hT.setCell (b := w8.heap.size) (.inl (by simp)) k _⟩, by simp [intOf]; omega⟩
    · obtain rfl : k = N := by omega
      obtain ⟨w10, hw10⟩ : ∃ w10, wr = w10 := ⟨_, rfl⟩
      rw [hw10] at ow hT ⊢
      clear hw10 wr
      have hk10 : Below w8.heap.size w8 w10 := hk9.trans (hT.below (by omega) (by simp))
      have n10 := hk10.size
      have hlo := hT.size
      have HOW := Lib.hid ow
      have HC510 := Lib.hid ((HC57.out.below hk8).below hk10)
      have HC610 := Lib.hid ((HC67.out.below hk8).below hk10)
      have HC710 := Lib.hid ((HC7.out.below hk8).below hk10)
      have HX10 := Lib.hid ((HX7.out.below hk8).below hk10)
      have hw10 : Below w.heap.size w w10 := hb12.trans ((hb3.mono (by omega)).trans ((hb4.mono (by omega)).trans ((hk5.mono (by omega)).trans ((hk6.mono (by omega)).trans ((hk7.mono (by omega)).trans ((hk8.mono (by omega)).trans (hk10.mono (by omega))))))))
      have HW10 := Lib.hid hw10
      have HK10 := Lib.hid (HK.out.1.grown hw10)
      clear ow hT hk10 hw10 hb12 hb3 hb4 hk5 hk6 hk7 hk8 hk9 OW9 HC57 HC67 HC7 HX7 HX6 HX5 HX3
      go_wp2_with fail
      refine (f_Crash HC510.out HSO.out _ [] (Sl.nilS _) (by simp)).mono ?_
      rw [HSN.out]
      rintro e w11 ⟨rfl, hd11, t11⟩
      have n11 := t11.size
      have HD11 := Lib.hid hd11
      have HC611 := Lib.hid (HC610.out.tw t11 (by intro a ha; simp at ha ⊢; omega) (by simp; omega) (by simp; omega))
      have HC711 := Lib.hid (HC710.out.tw t11 (by intro a ha; simp at ha ⊢; omega) (by simp; omega) (by simp; omega))
      have HX11 := Lib.hid (HX10.out.tw t11 (by intro a ha; simp at ha; omega))
      have HW11 := Lib.hid (HW10.out.trans (t11.below (n' := w.heap.size) (by omega) (by intro a ha; simp at ha; omega)))
      have z8 : w8.heap.size < w10.heap.size := by omega
      have z8n : w8.heap.size ∉ [b5, m5] := by simp; omega
      have z8k : w8.heap.size ∉ [b6, m6] := by simp; omega
      have how11 := own_block (w' := w11) HOW.out (fun g hg => by
        have e : w8.heap.size = g := Option.some.inj hg
        rw [← e]; exact t11.block _ z8 z8n)
      have HOW11 := Lib.hid how11
      clear how11
      have hmn : min (keep.length : Int) 200 = ((min keep.length 200 : Nat) : Int) := by omega
      have hcut := run_cut2b ak keep.length ck (min keep.length 200) (by omega) hlk hmk
      have hkb : Bools w11 (.slice ak (min keep.length 200) ck) (keep.take 200) := by
        have h9 := Sl.cut (HK.out.1.grown HW11.out) (k := min keep.length 200) (by omega)
        have e9 : keep.take (min keep.length 200) = keep.take 200 := by
          rcases Nat.lt_or_ge 200 keep.length with h9 | h9
          · rw [show min keep.length 200 = 200 by omega]
          · rw [List.take_of_length_le (by omega), List.take_of_length_le (by omega)]
        have e10 : (keep.take 200).length = min keep.length 200 := by simp; omega
        unfold Bools
        rw [e10, ← e9]
        simpa using h9
      have HKB := Lib.hid hkb
      clear hd11 t11 hkb HC610 HC710 HX10 HW10 HOW HC510
      go_wp2_with fail
      refine (f_Crash HC611.out HSO.out _ (keep.take 200) HKB.out (by simp; omega)).mono ?_
      rw [HSK.out]
      rintro e w12 ⟨rfl, hd12, t12⟩
      have n12 := t12.size
      have HD12 := Lib.hid hd12
      have HC512 := Lib.hid (HD11.out.tw t12 (by intro a ha; simp at ha ⊢; omega) (by simp; omega) (by simp; omega))
      have HC712 := Lib.hid (HC711.out.tw t12 (by intro a ha; simp at ha ⊢; omega) (by simp; omega) (by simp; omega))
      have HX12 := Lib.hid (HX11.out.tw t12 (by intro a ha; simp at ha; omega))
      have HW12 := Lib.hid (HW11.out.trans (t12.below (n' := w.heap.size) (by omega) (by intro a ha; simp at ha; omega)))
      have how12 := own_block (w' := w12) HOW11.out (fun g hg => by
        have e : w8.heap.size = g := Option.some.inj hg
        rw [← e]; exact t12.block _ (by omega) z8k)
      have HOW12 := Lib.hid how12
      clear how12
      have hbo : Bools w12 (.slice (some ⟨w8.heap.size, 0, none⟩) k k) (List.replicate k true) := by
        have h9 := Sl.of_owns HOW12.out
        unfold Bools
        simpa using h9
      have HBO := Lib.hid hbo
      clear hd12 t12 hbo HC611 HC711 HX11 HW11 HOW11 HD11 HKB HOW12
      go_wp2_with fail
      refine (f_Crash HC712.out HSO.out _ (List.replicate k true) HBO.out (by simp; omega)).mono ?_
      rw [HSA.out]
      rintro e w13 ⟨rfl, hd13, t13⟩
      have n13 := t13.size
      have HC713 := Lib.hid hd13
      have HC513 := Lib.hid (HC512.out.tw t13 (by intro a ha; simp at ha ⊢; omega) (by simp; omega) (by simp; omega))
      have HC613 := Lib.hid (HD12.out.tw t13 (by intro a ha; simp at ha ⊢; omega) (by simp; omega) (by simp; omega))
      have HX13 := Lib.hid (HX12.out.tw t13 (by intro a ha; simp at ha; omega))
      have HW13 := Lib.hid (HW12.out.trans (t13.below (n' := w.heap.size) (by omega) (by intro a ha; simp at ha; omega)))
      clear hd13 t13 HC512 HC712 HX12 HW12 HD12 HBO
      go_wp2_with fail
      refine (f_whole HC513.out K1.out o1 d1).mono ?_
      rintro e w14 ⟨vw14, rfl, hF14, hd14, hk14⟩
      have n14 := hk14.size
      obtain ⟨x140, y140, x141, y141, x142, y142, x143, y143, rfl, hB14⟩ := hF14.open n14
      clear hd14 hF14
      go_wp2_with fail
      have hk15 : Below w14.heap.size w14 (w14.alloc (.cells #[.slice x140 (sn.at 0).bs.length y140, .slice x141 (sn.at 1).bs.length y141, .slice x142 (sn.at 2).bs.length y142, .slice x143 (sn.at 3).bs.length y143] 41)) := (Below.refl _ _).alloc (Nat.le_refl _) _
      have n15 : (w14.alloc (.cells #[.slice x140 (sn.at 0).bs.length y140, .slice x141 (sn.at 1).bs.length y141, .slice x142 (sn.at 2).bs.length y142, .slice x143 (sn.at 3).bs.length y143] 41)).heap.size = w14.heap.size + 1 := by simp
      obtain ⟨w15, hw15⟩ : ∃ w15, (w14.alloc (.cells #[.slice x140 (sn.at 0).bs.length y140, .slice x141 (sn.at 1).bs.length y141, .slice x142 (sn.at 2).bs.length y142, .slice x143 (sn.at 3).bs.length y143] 41)) = w15 := ⟨_, rfl⟩
      rw [hw15] at hk15 n15 hB14 ⊢
      clear hw15
      have HX14 := Lib.hid hB14
      have hk1315 : Below w13.heap.size w13 w15 := hk14.trans (hk15.mono (by omega))
      clear hB14 hk14 hk15
      have HX15 := Lib.hid (HX13.out.below hk1315)
      have HC615 := Lib.hid (HC613.out.below hk1315)
      have HC715 := Lib.hid (HC713.out.below hk1315)
      have HW15 := Lib.hid (HW13.out.trans (hk1315.mono (by omega)))
      clear hk1315 HX13 HC513 HC613 HC713 HW13
      go_wp2_with fail
      refine (f_whole HC615.out K2.out o2 d2).mono ?_
      rintro e w16 ⟨vw16, rfl, hF16, hd16, hk16⟩
      have n16 := hk16.size
      obtain ⟨x160, y160, x161, y161, x162, y162, x163, y163, rfl, hB16⟩ := hF16.open n16
      clear hd16 hF16
      go_wp2_with fail
      have hk17 : Below w16.heap.size w16 (w16.alloc (.cells #[.slice x160 (sk.at 0).bs.length y160, .slice x161 (sk.at 1).bs.length y161, .slice x162 (sk.at 2).bs.length y162, .slice x163 (sk.at 3).bs.length y163] 41)) := (Below.refl _ _).alloc (Nat.le_refl _) _
      have n17 : (w16.alloc (.cells #[.slice x160 (sk.at 0).bs.length y160, .slice x161 (sk.at 1).bs.length y161, .slice x162 (sk.at 2).bs.length y162, .slice x163 (sk.at 3).bs.length y163] 41)).heap.size = w16.heap.size + 1 := by simp
      obtain ⟨w17, hw17⟩ : ∃ w17, (w16.alloc (.cells #[.slice x160 (sk.at 0).bs.length y160, .slice x161 (sk.at 1).bs.length y161, .slice x162 (sk.at 2).bs.length y162, .slice x163 (sk.at 3).bs.length y163] 41)) = w17 := ⟨_, rfl⟩
      rw [hw17] at hk17 n17 hB16 ⊢
      clear hw17
      have HX16 := Lib.hid hB16
      have hk1517 : Below w15.heap.size w15 w17 := hk16.trans (hk17.mono (by omega))
      clear hB16 hk16 hk17
      have HX17 := Lib.hid (HX15.out.below hk1517)
      have HXA17 := Lib.hid (HX14.out.below hk1517)
      have HC617 := Lib.hid (HC615.out.below hk1517)
      have HC717 := Lib.hid (HC715.out.below hk1517)
      have HW17 := Lib.hid (HW15.out.trans (hk1517.mono (by omega)))
      clear hk1517 HX15 HX14 HC615 HC715 HW15
      go_wp2_with fail
      refine (f_whole HC717.out K3.out o3 d3).mono ?_
      rintro e w18 ⟨vw18, rfl, hF18, hd18, hk18⟩
      have n18 := hk18.size
      obtain ⟨x180, y180, x181, y181, x182, y182, x183, y183, rfl, hB18⟩ := hF18.open n18
      clear hd18 hF18
      go_wp2_with fail
      have hk19 : Below w18.heap.size w18 (w18.alloc (.cells #[.slice x180 (sa.at 0).bs.length y180, .slice x181 (sa.at 1).bs.length y181, .slice x182 (sa.at 2).bs.length y182, .slice x183 (sa.at 3).bs.length y183] 41)) := (Below.refl _ _).alloc (Nat.le_refl _) _
      have n19 : (w18.alloc (.cells #[.slice x180 (sa.at 0).bs.length y180, .slice x181 (sa.at 1).bs.length y181, .slice x182 (sa.at 2).bs.length y182, .slice x183 (sa.at 3).bs.length y183] 41)).heap.size = w18.heap.size + 1 := by simp
      obtain ⟨w19, hw19⟩ : ∃ w19, (w18.alloc (.cells #[.slice x180 (sa.at 0).bs.length y180, .slice x181 (sa.at 1).bs.length y181, .slice x182 (sa.at 2).bs.length y182, .slice x183 (sa.at 3).bs.length y183] 41)) = w19 := ⟨_, rfl⟩
      rw [hw19] at hk19 n19 hB18 ⊢
      clear hw19
      have HX18 := Lib.hid hB18
      have hk1719 : Below w17.heap.size w17 w19 := hk18.trans (hk19.mono (by omega))
      clear hB18 hk18 hk19
      have HX19 := Lib.hid (HX17.out.below hk1719)
      have HXA19 := Lib.hid (HXA17.out.below hk1719)
      have HXB19 := Lib.hid (HX16.out.below hk1719)
      have HC619 := Lib.hid (HC617.out.below hk1719)
      have HW19 := Lib.hid (HW17.out.trans (hk1719.mono (by omega)))
      clear hk1719 HX17 HXA17 HX16 HC617 HC717 HW17
      go_wp2_with fail
      refine (f_Pending HC619.out K2.out).mono ?_
      rw [L4]
      rintro e w20 ⟨⟨v20, rfl, own20⟩, hk20⟩
      obtain ⟨a20, c20, g20, og20, rfl, hle20, hcap20, -⟩ := row_open own20
      have n20 := hk20.size
      clear own20
      go_wp2_with fail
      refine (f_Dead (HC619.out.below hk20)).mono ?_
      rw [d2]
      rintro e w21 ⟨rfl, hk21⟩
      have n21 := hk21.size
      have hk1921 : Below w19.heap.size w19 w21 := hk20.trans (hk21.mono (by omega))
      have XW := Lib.hid (HX19.out.below hk1921)
      have XA := Lib.hid (HXA19.out.below hk1921)
      have XB := Lib.hid (HXB19.out.below hk1921)
      have XC := Lib.hid (HX18.out.below hk1921)
      have HW21 := Lib.hid (HW19.out.trans (hk1921.mono (by omega)))
      have z3 : w3.heap.size < w21.heap.size := by omega
      have z14 : w14.heap.size < w21.heap.size := by omega
      have z16 : w16.heap.size < w21.heap.size := by omega
      have z18 : w18.heap.size < w21.heap.size := by omega
      clear hk20 hk21 hk1921 HX19 HXA19 HXB19 HX18 HC619 HW19
      go_wp2
      go_loopw [112] (fun i wr => ∃ k : Nat, k ≤ 4 ∧ i = .int .i64 k ∧ Below w21.heap.size w21 wr) (fun i _ => 4 - (intOf i).toNat)
      case atStart => exact ⟨0, by omega, rfl, Below.refl _ _⟩
      case round =>
        obtain ⟨k2, hk2, rfl, hbr⟩ := hrel
        have nr := hbr.size
        by_cases hlt2 : k2 < 4
        · obtain ⟨pa, pc, pp, MP⟩ := (XW.out.below hbr).at k2 hlt2
          obtain ⟨qa, qc, qq, MQ⟩ := (XB.out.below hbr).at k2 hlt2
          obtain ⟨ra, rc, rr, MR⟩ := (XA.out.below hbr).at k2 hlt2
          obtain ⟨ta, tc, tt, MT⟩ := (XC.out.below hbr).at k2 hlt2
          rw [L3.out] at tt MT
          have HP := Lib.hid MP
          have HQ := Lib.hid MQ
          have HR := Lib.hid MR
          have HT := Lib.hid MT
          have y3r : w3.heap.size < wr.heap.size := by omega
          have y14r : w14.heap.size < wr.heap.size := by omega
          have y16r : w16.heap.size < wr.heap.size := by omega
          have y18r : w18.heap.size < wr.heap.size := by omega
          have P1 := L1.out k2
          have P2 := L2.out k2
          clear MP MQ MR MT
          go_wp2
          refine wp_grow [(6, .val (.bool true)), (15, .val (.bool true)), (25, .val (.bool true))] 28 (by kernel_rfl) (by kernel_rfl) (by rfl) (by rfl) ?_
          simp only [List.take_succ_cons, List.take_zero, List.drop_succ_cons, List.drop_zero]
          repeat (first
            | (apply Der.quiet; (rfl); (rfl); (intro w' hw' hctx; have hc' := bcell hw'; have y0 := (hw'.cell (p := ⟨w3.heap.size, k2, none⟩) (by dsimp; omega)).trans pp; have y1 := (hw'.cell (p := ⟨w16.heap.size, k2, none⟩) (by dsimp; omega)).trans qq; have y2 := (hw'.cell (p := ⟨w14.heap.size, k2, none⟩) (by dsimp; omega)).trans rr; have y3 := (hw'.cell (p := ⟨w18.heap.size, k2, none⟩) (by dsimp; omega)).trans tt; clear hctx; go_simp; first | exact rfl | exact ⟨rfl, rfl⟩); simp only [Act.put, List.setIfInBounds_toArray, List.set_cons_succ, List.set_cons_zero, Nat.reduceAdd])
            | (apply Der.skip; (rfl); simp only [Act.put, List.setIfInBounds_toArray, List.set_cons_succ, List.set_cons_zero, Nat.reduceAdd]))
          apply Der.val
          · rfl
          · rfl
          · (intro w' hw' hctx; go_simp; refine (f_prefixB (HP.out.grown ((Below.refl _ _).drew.trans hw')) (HQ.out.grown ((Below.refl _ _).drew.trans hw')) P2).mono ?_; rintro e w2 ⟨rfl, hb⟩; exact ⟨_, rfl, rfl, hb⟩)
          simp only [Act.put, List.setIfInBounds_toArray, List.set_cons_succ, List.set_cons_zero, Nat.reduceAdd]
          repeat (first
            | (apply Der.quiet; (rfl); (rfl); (intro w' hw' hctx; have hc' := bcell hw'; have y0 := (hw'.cell (p := ⟨w3.heap.size, k2, none⟩) (by dsimp; omega)).trans pp; have y1 := (hw'.cell (p := ⟨w16.heap.size, k2, none⟩) (by dsimp; omega)).trans qq; have y2 := (hw'.cell (p := ⟨w14.heap.size, k2, none⟩) (by dsimp; omega)).trans rr; have y3 := (hw'.cell (p := ⟨w18.heap.size, k2, none⟩) (by dsimp; omega)).trans tt; clear hctx; go_simp; first | exact rfl | exact ⟨rfl, rfl⟩); simp only [Act.put, List.setIfInBounds_toArray, List.set_cons_succ, List.set_cons_zero, Nat.reduceAdd])
            | (apply Der.skip; (rfl); simp only [Act.put, List.setIfInBounds_toArray, List.set_cons_succ, List.set_cons_zero, Nat.reduceAdd]))
          apply Der.val
          · rfl
          · rfl
          · (intro w' hw' hctx; go_simp; refine (f_prefixB (HQ.out.grown ((Below.refl _ _).drew.trans hw')) (HR.out.grown ((Below.refl _ _).drew.trans hw')) P1).mono ?_; rintro e w2 ⟨rfl, hb⟩; exact ⟨_, rfl, rfl, hb⟩)
          simp only [Act.put, List.setIfInBounds_toArray, List.set_cons_succ, List.set_cons_zero, Nat.reduceAdd]
          repeat (first
            | (apply Der.quiet; (rfl); (rfl); (intro w' hw' hctx; have hc' := bcell hw'; have y0 := (hw'.cell (p := ⟨w3.heap.size, k2, none⟩) (by dsimp; omega)).trans pp; have y1 := (hw'.cell (p := ⟨w16.heap.size, k2, none⟩) (by dsimp; omega)).trans qq; have y2 := (hw'.cell (p := ⟨w14.heap.size, k2, none⟩) (by dsimp; omega)).trans rr; have y3 := (hw'.cell (p := ⟨w18.heap.size, k2, none⟩) (by dsimp; omega)).trans tt; clear hctx; go_simp; first | exact rfl | exact ⟨rfl, rfl⟩); simp only [Act.put, List.setIfInBounds_toArray, List.set_cons_succ, List.set_cons_zero, Nat.reduceAdd])
            | (apply Der.skip; (rfl); simp only [Act.put, List.setIfInBounds_toArray, List.set_cons_succ, List.set_cons_zero, Nat.reduceAdd]))
          apply Der.val
          · rfl
          · rfl
          · (intro w' hw' hctx; go_simp; refine (f_bytesEqB (HT.out.grown ((Below.refl _ _).drew.trans hw')) (HP.out.grown ((Below.refl _ _).drew.trans hw'))).mono ?_; rintro e w2 ⟨rfl, hb⟩; exact ⟨_, rfl, rfl, hb⟩)
          simp only [Act.put, List.setIfInBounds_toArray, List.set_cons_succ, List.set_cons_zero, Nat.reduceAdd]
          repeat (first
            | (apply Der.quiet; (rfl); (rfl); (intro w' hw' hctx; have hc' := bcell hw'; have y0 := (hw'.cell (p := ⟨w3.heap.size, k2, none⟩) (by dsimp; omega)).trans pp; have y1 := (hw'.cell (p := ⟨w16.heap.size, k2, none⟩) (by dsimp; omega)).trans qq; have y2 := (hw'.cell (p := ⟨w14.heap.size, k2, none⟩) (by dsimp; omega)).trans rr; have y3 := (hw'.cell (p := ⟨w18.heap.size, k2, none⟩) (by dsimp; omega)).trans tt; clear hctx; go_simp; first | exact rfl | exact ⟨rfl, rfl⟩); simp only [Act.put, List.setIfInBounds_toArray, List.set_cons_succ, List.set_cons_zero, Nat.reduceAdd])
            | (apply Der.skip; (rfl); simp only [Act.put, List.setIfInBounds_toArray, List.set_cons_succ, List.set_cons_zero, Nat.reduceAdd]))
          refine Der.nil (fun w22 hgw22 hctx => ?_)
          clear hctx
          have hb22 : Below _ _ w22 := hgw22
          clear hgw22
          go_wp2
          go_roundw
          case rel => exact ⟨k2 + 1, by omega, by go_num, hbr.trans (((Below.refl _ _).drew.trans hb22).mono nr)⟩
          case measure => simp [intOf]; omega
        · obtain rfl : k2 = 4 := by omega
          go_wp2
          go_ret
          exact ⟨rfl, HW21.out.trans (hbr.mono (by have := HW21.out.size; omega))⟩
end Go.Proofs.Ytlhkacjfonihjaa
