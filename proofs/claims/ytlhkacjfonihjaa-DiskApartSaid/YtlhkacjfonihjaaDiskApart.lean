/- The walk of DiskApart. Printed by wip/apart.py. -/
import Derived.Test.YtlhkacjfonihjaaDRun
import Derived.Test.YtlhkacjfonihjaaApartD
import Derived.Deep.RegionHeld
namespace Go.Proofs.Ytlhkacjfonihjaa
open Go.RowKit
set_option maxRecDepth 100000
attribute [local irreducible] Der

/-- The row of the files' names. -/
def NamesR (L : List Int) (v : Value) (w : World) : Prop := ∃ a c, v = .slice a L.length c ∧ (L ≠ [] → ∃ g, a = some ⟨g, 0, none⟩ ∧ g < w.heap.size ∧ ∀ i (hi : i < L.length), w.cell? ⟨g, i, none⟩ = some (.int .i64 L[i]))
theorem NamesR.grow {L : List Int} {v : Value} {w w' : World} (h : NamesR L v w) (hb : Below w.heap.size w w') : NamesR L v w' := by
  obtain ⟨a, c, e, h1⟩ := h
  refine ⟨a, c, e, fun hn => ?_⟩
  obtain ⟨g, e2, hg, hc⟩ := h1 hn
  exact ⟨g, e2, Nat.lt_of_lt_of_le hg hb.size, fun i hi => (hb.cell (p := ⟨g, i, none⟩) hg).trans (hc i hi)⟩

theorem run_field3 (a b c : Int) (u v : Value) (W : World) : (Instr.field 34 (.agg #[.int .i64 a, .int .i64 b, .int .i64 c, u, v]) 3).run Try.prog W = .ok u W := by
  kernel_rfl
theorem wp_append_eq {P : Program} {o : Oper} {a : Act} {w w' : World} {K : Act → World → Prop} {Q : Exit → Act → World → Prop} (s x : Operand) (t : TypeId) (ho : o.op = .call { callee := .builtin .append, args := #[s, x], argTypes := #[t, t] }) {v y v' : Value} (hs : a.eval s = v) (hx : a.eval x = y)
    (hr : (Builtin.append_ #[t, t] o.type #[v, y]).run P w = .ok v' w') (h : K (a.put o.dst v') w') : Oper.wp P o a w K Q := by
  unfold Oper.wp
  unfold execOp
  simp only [ho, resolve, invoke, builtin, Sem.run_bind, Sem.run_pure, Result.andThen_ok, List.map_toArray, List.map_cons, List.map_nil, hs, hx, hr]
  exact h
theorem NamesR.of_own {L : List Int} {v : Value} {w : World} {B e : Nat} (h : w.ownsRow B e 1 v L.length (L.map (Value.int .i64))) : NamesR L v w := by
  obtain ⟨a, c, g, og, rfl, -, -, hr⟩ := row_open h
  refine ⟨a, c, rfl, fun hn => ?_⟩
  obtain ⟨r1, -, r3, -, r5⟩ := hr hn
  exact ⟨g, r1, (Array.getElem?_eq_some_iff.1 r3).1, r5⟩
theorem f_lacksR {w : World} {v : Value} {l : List Int} {x : Int} (h : NamesR l v w) (hl : l.length ≤ 4) (hx : x ∉ l) :
    Calls Try.prog 35 #[v, .int .i64 x] w fun e w' => e = .returned (.bool false) ∧ Below w.heap.size w w' := by
  obtain ⟨a, c, rfl, h1⟩ := h
  exact f_lacks hl (fun hn => by obtain ⟨g, e, -, hc⟩ := h1 hn; exact ⟨g, e, hc⟩) hx

set_option maxRecDepth 100000 in
set_option maxHeartbeats 8000000 in
theorem f_DiskApart (room : Int) (hroom : W64 room) (v : Value) (l : List Opr) (o : Opr) (w : World) (h : OpsV w v l) (ho : OpIs w o) :
    Calls Try.prog 8 #[.int .i64 room, v, OV o] w fun e w' => e = .returned (.bool true) ∧ Below w.heap.size w w' := by
  have H := Lib.hid h
  have hst := lrun_ok room h.ok 40
  rw [List.take_of_length_le (l := l.take 40) (by simp; omega)] at hst
  have hcm : CalmS (lrunS room l) := opsS_calm (new_calm _) _
  obtain ⟨a, cap, rfl, hl, hm, -⟩ := h.open
  obtain ⟨s, hs⟩ : ∃ s, lrunS room l = s := ⟨_, rfl⟩
  have hso : s.Ok ∧ s.ops ≤ 40 := by rw [← hs]; exact hst
  rw [hs] at hcm
  have HS := Lib.hid hs
  have HSO := Lib.hid hso.1
  have HCM := Lib.hid hcm
  have hdead := hcm.dead
  have hops := hso.2
  have HO := Lib.hid ho
  obtain ⟨ab, cb, ebv, -⟩ := ho.b.open
  obtain ⟨ak, ck, ekv, -⟩ := ho.k.1.open
  obtain ⟨kind, file, n, bv, kv, bytes, keep⟩ := o
  dsimp only at ebv ekv
  subst ebv ekv
  obtain ⟨s', hs'⟩ : ∃ x, runS s ⟨kind, file, n, .slice ab bytes.length cb, .slice ak keep.length ck, bytes, keep⟩ = x := ⟨_, rfl⟩
  obtain ⟨e0, he0⟩ : ∃ x, runE s ⟨kind, file, n, .slice ab bytes.length cb, .slice ak keep.length ck, bytes, keep⟩ = x := ⟨_, rfl⟩
  obtain ⟨K, hK⟩ : ∃ x, (IntKind.u64.wrap kind).tmod 12 = x := ⟨_, rfl⟩
  have hKr := ku_lt kind
  have hku : ku kind = K := hK
  rw [hku] at hKr
  have HOK' := Lib.hid (show s'.Ok by rw [← hs']; exact run_ok hso.1 ho.byte (w64_le ho.wn).2)
  have hro : s'.room = s.room := by rw [← hs']; exact run_room _ _
  have hpo : s'.ops ≤ s.ops + 1 := by rw [← hs']; exact (run_ops s _).1
  have HCA := Lib.hid (show K < 9 → CalmS s' ∧ Apart s s' ⟨kind, file, n, .slice ab bytes.length cb, .slice ak keep.length ck, bytes, keep⟩ e0 from fun hk => ⟨by rw [← hs']; exact run_calm hcm _ (by rw [← hku] at hk; exact hk), by rw [← hs', ← he0]; exact run_apart hcm _ (by rw [← hku] at hk; exact hk)⟩)
  have hus : sumK s 4 ≤ s.room := by rw [sumK_four]; exact hso.1.used
  have hsum := fun k (hk : k ≤ 4) => sumK_le s hso.1 k hk
  have hlb := ho.lb
  have HS' := Lib.hid hs'
  have HE0 := Lib.hid he0
  have HSUM := Lib.hid hsum
  have HKU := Lib.hid hku
  clear h ho hst hs hso hcm hs' he0 hsum hku
  go_enter Try.func8, Try.ntmps8
  go_wp2_with fail
  have hb0 : Below w.heap.size w (w.alloc (.cells #[.int .i64 kind, .int .i64 file, .int .i64 n, .slice ab bytes.length cb, .slice ak keep.length ck] 34)) := (Below.refl _ _).alloc (Nat.le_refl _) _
  have n0 : (w.alloc (.cells #[.int .i64 kind, .int .i64 file, .int .i64 n, .slice ab bytes.length cb, .slice ak keep.length ck] 34)).heap.size = w.heap.size + 1 := by simp
  have c00 : (w.alloc (.cells #[.int .i64 kind, .int .i64 file, .int .i64 n, .slice ab bytes.length cb, .slice ak keep.length ck] 34)).cell? ⟨w.heap.size, 0, none⟩ = some (.int .i64 kind) := by go_simp
  have c01 : (w.alloc (.cells #[.int .i64 kind, .int .i64 file, .int .i64 n, .slice ab bytes.length cb, .slice ak keep.length ck] 34)).cell? ⟨w.heap.size, 1, none⟩ = some (.int .i64 file) := by go_simp
  have c02 : (w.alloc (.cells #[.int .i64 kind, .int .i64 file, .int .i64 n, .slice ab bytes.length cb, .slice ak keep.length ck] 34)).cell? ⟨w.heap.size, 2, none⟩ = some (.int .i64 n) := by go_simp
  have c03 : (w.alloc (.cells #[.int .i64 kind, .int .i64 file, .int .i64 n, .slice ab bytes.length cb, .slice ak keep.length ck] 34)).cell? ⟨w.heap.size, 3, none⟩ = some (.slice ab bytes.length cb) := by go_simp
  have c04 : (w.alloc (.cells #[.int .i64 kind, .int .i64 file, .int .i64 n, .slice ab bytes.length cb, .slice ak keep.length ck] 34)).cell? ⟨w.heap.size, 4, none⟩ = some (.slice ak keep.length ck) := by go_simp
  obtain ⟨w0, hw0⟩ : ∃ w0, (w.alloc (.cells #[.int .i64 kind, .int .i64 file, .int .i64 n, .slice ab bytes.length cb, .slice ak keep.length ck] 34)) = w0 := ⟨_, rfl⟩
  rw [hw0] at hb0 n0 c00 c01 c02 c03 c04 ⊢
  clear hw0
  have hc0 : ∀ W, Below w0.heap.size w0 W → W.cell? ⟨w.heap.size, 0, none⟩ = some (.int .i64 kind) ∧ W.cell? ⟨w.heap.size, 1, none⟩ = some (.int .i64 file) ∧ W.cell? ⟨w.heap.size, 2, none⟩ = some (.int .i64 n) ∧ W.cell? ⟨w.heap.size, 3, none⟩ = some (.slice ab bytes.length cb) ∧ W.cell? ⟨w.heap.size, 4, none⟩ = some (.slice ak keep.length ck) := fun W hW =>
    ⟨(hW.cell (p := ⟨w.heap.size, 0, none⟩) (by dsimp; omega)).trans c00, (hW.cell (p := ⟨w.heap.size, 1, none⟩) (by dsimp; omega)).trans c01, (hW.cell (p := ⟨w.heap.size, 2, none⟩) (by dsimp; omega)).trans c02, (hW.cell (p := ⟨w.heap.size, 3, none⟩) (by dsimp; omega)).trans c03, (hW.cell (p := ⟨w.heap.size, 4, none⟩) (by dsimp; omega)).trans c04⟩
  have HC0 := Lib.hid hc0
  clear hc0 c00 c01 c02 c03 c04
  refine (f_wakes w0).mono ?_
  rintro e w1 ⟨rfl, hb1⟩
  have n1 := hb1.size
  go_wp2_with fail
  refine (f_lrun room hroom _ l w1 (H.out.grown (hb0.trans (hb1.mono (by omega))))).mono ?_
  rw [HS.out]
  rintro e w2 ⟨rfl, hd2, hb2⟩
  obtain ⟨b, hb⟩ : ∃ b, w1.heap.size + 1 = b := ⟨_, rfl⟩
  obtain ⟨m, hm'⟩ : ∃ m, w1.heap.size = m := ⟨_, rfl⟩
  rw [hb, hm'] at hd2
  rw [hb]
  have HD2 := Lib.hid hd2
  have z2 := hd2.blt
  have z2' := hd2.mlt
  have hb02 : Below w0.heap.size w0 w2 := hb1.trans (hb2.mono n1)
  have hbw : w0.heap.size ≤ b ∧ w0.heap.size ≤ m := by omega
  have n2 := hb2.size
  obtain ⟨p20, p21, p22, p23, p24⟩ := HC0.out _ hb02
  clear hd2 hb2 hb1 hb hm'
  by_cases hk9 : K < 9
  · obtain ⟨hcs', hap⟩ := HCA.out hk9
    have hdead' := hcs'.dead
    have HA := Lib.hid hap
    clear hap hcs' HCA
    have hk9' : ¬ 9 ≤ K := by omega
    go_wp2_with fail
    refine (f_whole HD2.out HSO.out (by omega) hdead).mono ?_
    rintro e w3 ⟨vw3, rfl, hF3, hd3, hk3⟩
    have n3 := hk3.size
    obtain ⟨x30, y30, x31, y31, x32, y32, x33, y33, rfl, hB3⟩ := hF3.open n3
    have HD3 := Lib.hid hd3
    clear hd3 hF3
    go_wp2_with fail
    have hk4 : Below w3.heap.size w3 (w3.alloc (.cells #[.slice x30 (s.at 0).bs.length y30, .slice x31 (s.at 1).bs.length y31, .slice x32 (s.at 2).bs.length y32, .slice x33 (s.at 3).bs.length y33] 41)) := (Below.refl _ _).alloc (Nat.le_refl _) _
    have n4 : (w3.alloc (.cells #[.slice x30 (s.at 0).bs.length y30, .slice x31 (s.at 1).bs.length y31, .slice x32 (s.at 2).bs.length y32, .slice x33 (s.at 3).bs.length y33] 41)).heap.size = w3.heap.size + 1 := by simp
    have j00 : IntKind.i64.wrap (0 : Int) = 0 := by decide
    have c40 : (w3.alloc (.cells #[.slice x30 (s.at 0).bs.length y30, .slice x31 (s.at 1).bs.length y31, .slice x32 (s.at 2).bs.length y32, .slice x33 (s.at 3).bs.length y33] 41)).cell? ⟨w3.heap.size, 0, none⟩ = some (.slice x30 (s.at 0).bs.length y30) := by go_simp
    have c41 : (w3.alloc (.cells #[.slice x30 (s.at 0).bs.length y30, .slice x31 (s.at 1).bs.length y31, .slice x32 (s.at 2).bs.length y32, .slice x33 (s.at 3).bs.length y33] 41)).cell? ⟨w3.heap.size, 1, none⟩ = some (.slice x31 (s.at 1).bs.length y31) := by go_simp
    have c42 : (w3.alloc (.cells #[.slice x30 (s.at 0).bs.length y30, .slice x31 (s.at 1).bs.length y31, .slice x32 (s.at 2).bs.length y32, .slice x33 (s.at 3).bs.length y33] 41)).cell? ⟨w3.heap.size, 2, none⟩ = some (.slice x32 (s.at 2).bs.length y32) := by go_simp
    have c43 : (w3.alloc (.cells #[.slice x30 (s.at 0).bs.length y30, .slice x31 (s.at 1).bs.length y31, .slice x32 (s.at 2).bs.length y32, .slice x33 (s.at 3).bs.length y33] 41)).cell? ⟨w3.heap.size, 3, none⟩ = some (.slice x33 (s.at 3).bs.length y33) := by go_simp
    obtain ⟨w4, hw4⟩ : ∃ w4, (w3.alloc (.cells #[.slice x30 (s.at 0).bs.length y30, .slice x31 (s.at 1).bs.length y31, .slice x32 (s.at 2).bs.length y32, .slice x33 (s.at 3).bs.length y33] 41)) = w4 := ⟨_, rfl⟩
    rw [hw4] at hk4 n4 hB3 c40 c41 c42 c43 ⊢
    clear hw4
    have HX3 := Lib.hid hB3
    have HD4 := Lib.hid (HD3.out.below hk4)
    have hb24 : Below w2.heap.size w2 w4 := hk3.trans (hk4.mono (by omega))
    have hb04 : Below w0.heap.size w0 w4 := hb02.trans (hb24.mono (by omega))
    obtain ⟨p40, p41, p42, p43, p44⟩ := HC0.out _ hb04
    clear hB3 hk3 hk4 p20 p21 p22 p23 p24
    go_wp2
    go_loopw [10, 45] (fun t i wr => ∃ k : Nat, k ≤ 4 ∧ t = .int .i64 (sumK s k) ∧ i = .int .i64 k ∧ wr = w4) (fun _ i _ => 4 - (intOf i).toNat)
    case atStart => exact ⟨0, by omega, by rw [sumK_zero], rfl, rfl⟩
    case round =>
      obtain ⟨k, hk, rfl, rfl, rfl⟩ := hrel
      by_cases hlt : k < 4
      · have hk4 : k = 0 ∨ k = 1 ∨ k = 2 ∨ k = 3 := by omega
        rcases hk4 with rfl | rfl | rfl | rfl
        · have hs1 := HSUM.out 0 (by omega)
          have hs2 := HSUM.out 1 (by omega)
          have e3 : sumK s 1 = sumK s 0 + ((s.at 0).bs.length : Int) := sumK_succ s 0
          have ix : ∀ w : World, (Instr.index 41 (.agg #[.slice x30 (s.at 0).bs.length y30, .slice x31 (s.at 1).bs.length y31, .slice x32 (s.at 2).bs.length y32, .slice x33 (s.at 3).bs.length y33]) (.int .i64 0)).run Try.prog w = .ok (.slice x30 (s.at 0).bs.length y30) w := fun _ => by kernel_rfl
          go_wp2
          go_roundw
          case rel => exact ⟨1, by omega, by (rw [e3] at hs2 ⊢; try exact congrArg _ (wrap64_in _ (by omega))), rfl, trivial⟩
          case measure => simp [intOf]
        · have hs1 := HSUM.out 1 (by omega)
          have hs2 := HSUM.out 2 (by omega)
          have e3 : sumK s 2 = sumK s 1 + ((s.at 1).bs.length : Int) := sumK_succ s 1
          have ix : ∀ w : World, (Instr.index 41 (.agg #[.slice x30 (s.at 0).bs.length y30, .slice x31 (s.at 1).bs.length y31, .slice x32 (s.at 2).bs.length y32, .slice x33 (s.at 3).bs.length y33]) (.int .i64 1)).run Try.prog w = .ok (.slice x31 (s.at 1).bs.length y31) w := fun _ => by kernel_rfl
          go_wp2
          go_roundw
          case rel => exact ⟨2, by omega, by (rw [e3] at hs2 ⊢; try exact congrArg _ (wrap64_in _ (by omega))), rfl, trivial⟩
          case measure => simp [intOf]
        · have hs1 := HSUM.out 2 (by omega)
          have hs2 := HSUM.out 3 (by omega)
          have e3 : sumK s 3 = sumK s 2 + ((s.at 2).bs.length : Int) := sumK_succ s 2
          have ix : ∀ w : World, (Instr.index 41 (.agg #[.slice x30 (s.at 0).bs.length y30, .slice x31 (s.at 1).bs.length y31, .slice x32 (s.at 2).bs.length y32, .slice x33 (s.at 3).bs.length y33]) (.int .i64 2)).run Try.prog w = .ok (.slice x32 (s.at 2).bs.length y32) w := fun _ => by kernel_rfl
          go_wp2
          go_roundw
          case rel => exact ⟨3, by omega, by (rw [e3] at hs2 ⊢; try exact congrArg _ (wrap64_in _ (by omega))), rfl, trivial⟩
          case measure => simp [intOf]
        · have hs1 := HSUM.out 3 (by omega)
          have hs2 := HSUM.out 4 (by omega)
          have e3 : sumK s 4 = sumK s 3 + ((s.at 3).bs.length : Int) := sumK_succ s 3
          have ix : ∀ w : World, (Instr.index 41 (.agg #[.slice x30 (s.at 0).bs.length y30, .slice x31 (s.at 1).bs.length y31, .slice x32 (s.at 2).bs.length y32, .slice x33 (s.at 3).bs.length y33]) (.int .i64 3)).run Try.prog w = .ok (.slice x33 (s.at 3).bs.length y33) w := fun _ => by kernel_rfl
          go_wp2
          go_roundw
          case rel => exact ⟨4, by omega, by (rw [e3] at hs2 ⊢; try exact congrArg _ (wrap64_in _ (by omega))), rfl, trivial⟩
          case measure => simp [intOf]
      · obtain rfl : k = 4 := by omega
        obtain ⟨U, hU⟩ : ∃ U, sumK s 4 = U := ⟨_, rfl⟩
        rw [hU] at hus ⊢
        clear hU
        go_wp2_with fail
        refine (f_run HD4.out HSO.out (by omega) ⟨kind, file, n, .slice ab bytes.length cb, .slice ak keep.length ck, bytes, keep⟩ (HO.out.grown (hb0.trans (hb04.mono (by omega))))).mono ?_
        rintro e w5 ⟨v5, rfl, hv5, hd5, t5⟩
        rw [HS'.out] at hd5
        rw [HE0.out]
        obtain ⟨av5, cv5, rfl, -⟩ := hv5.open
        have HD5 := Lib.hid hd5
        have n5 := t5.size
        have hb05 : Below w0.heap.size w0 w5 := hb04.trans (t5.below (by omega) (by intro a ha; simp at ha; omega))
        have HX5 := Lib.hid (HX3.out.tw t5 (by intro a ha; simp at ha; omega))
        obtain ⟨p50, p51, p52, p53, p54⟩ := HC0.out _ hb05
        have HB05 := Lib.hid hb05
        clear hd5 t5 hv5 hb04 hb24 p40 p41 p42 p43 p44 HD4 HX3 c40 c41 c42 c43 hb05
        go_wp2_with fail
        refine (f_whole HD5.out HOK'.out (by omega) hdead').mono ?_
        rintro e w6 ⟨vw6, rfl, hF6, hd6, hk6⟩
        have n6 := hk6.size
        obtain ⟨x60, y60, x61, y61, x62, y62, x63, y63, rfl, hB6⟩ := hF6.open n6
        have HD6 := Lib.hid hd6
        clear hd6 hF6
        go_wp2_with fail
        have hk7 : Below w6.heap.size w6 (w6.alloc (.cells #[.slice x60 (s'.at 0).bs.length y60, .slice x61 (s'.at 1).bs.length y61, .slice x62 (s'.at 2).bs.length y62, .slice x63 (s'.at 3).bs.length y63] 41)) := (Below.refl _ _).alloc (Nat.le_refl _) _
        have n7 : (w6.alloc (.cells #[.slice x60 (s'.at 0).bs.length y60, .slice x61 (s'.at 1).bs.length y61, .slice x62 (s'.at 2).bs.length y62, .slice x63 (s'.at 3).bs.length y63] 41)).heap.size = w6.heap.size + 1 := by simp
        obtain ⟨w7, hw7⟩ : ∃ w7, (w6.alloc (.cells #[.slice x60 (s'.at 0).bs.length y60, .slice x61 (s'.at 1).bs.length y61, .slice x62 (s'.at 2).bs.length y62, .slice x63 (s'.at 3).bs.length y63] 41)) = w7 := ⟨_, rfl⟩
        rw [hw7] at hk7 n7 hB6 ⊢
        clear hw7
        have HX6 := Lib.hid hB6
        have hb57 : Below w5.heap.size w5 w7 := hk6.trans (hk7.mono (by omega))
        have HX7 := Lib.hid (HX5.out.below hb57)
        have HD7 := Lib.hid (HD6.out.below hk7)
        refine (f_Room HD7.out).mono ?_
        rw [hro]
        rintro e w8 ⟨rfl, hb8⟩
        have n8 := hb8.size
        have XW := Lib.hid (HX7.out.below hb8)
        have XI := Lib.hid (HX6.out.below hb8)
        have HD8 := Lib.hid (HD7.out.below hb8)
        have hb08 : Below w0.heap.size w0 w8 := HB05.out.trans ((hb57.mono (by omega)).trans (hb8.mono (by omega)))
        have HB08 := Lib.hid hb08
        have hus' : ¬ s.room < U := by omega
        have z3 : w3.heap.size < w8.heap.size := by omega
        have z6 : w6.heap.size < w8.heap.size := by omega
        have z0 : w0.heap.size ≤ w8.heap.size := by omega
        clear hB6 hk6 hk7 hb57 hb8 hb08 HX5 HX6 HX7 HD5 HD6 HD7 HB05 p50 p51 p52 p53 p54
        go_wp2
        go_loopw [72] (fun i wr => ∃ k : Nat, k ≤ 4 ∧ i = .int .i64 k ∧ Below w8.heap.size w8 wr) (fun i _ => 4 - (intOf i).toNat)
        case atStart => exact ⟨0, by omega, rfl, Below.refl _ _⟩
        case round =>
          obtain ⟨k2, hk2, rfl, hbr⟩ := hrel
          have nr := hbr.size
          have hb0r : Below w0.heap.size w0 wr := HB08.out.trans (hbr.mono z0)
          obtain ⟨p90, p91, p92, p93, p94⟩ := HC0.out _ hb0r
          have HB0R := Lib.hid hb0r
          clear hb0r
          by_cases hlt2 : k2 < 4
          · obtain ⟨pa, pc, pp, MP⟩ := (XW.out.below hbr).at k2 hlt2
            obtain ⟨qa, qc, qq, MQ⟩ := (XI.out.below hbr).at k2 hlt2
            have HAW := Lib.hid (HA.out.away k2)
            have y3r : w3.heap.size < wr.heap.size := by omega
            have y6r : w6.heap.size < wr.heap.size := by omega
            have y0r : w.heap.size < wr.heap.size := by omega
            by_cases he : e0 = 0
            · by_cases hx : (k2 : Int) = file
              · have hxb : ((k2 : Int) == file) = true := by simpa using hx
                have heb : (e0 == 0) = true := by simpa using he
                clear hx he pp qq MP MQ p93 p94
                go_wp2
                refine wp_grow [] 12 (by kernel_rfl) (by kernel_rfl) (by rfl) (by rfl) ?_
                simp only [List.take_succ_cons, List.take_zero, List.drop_succ_cons, List.drop_zero]
                repeat (first
                  | (apply Der.quiet; (rfl); (rfl); (intro w' hw' hctx; have hc' := bcell hw'; clear hctx; go_simp; first | exact rfl | exact ⟨rfl, rfl⟩); simp only [Act.put, List.setIfInBounds_toArray, List.set_cons_succ, List.set_cons_zero, Nat.reduceAdd])
                  | (apply Der.skip; (rfl); simp only [Act.put, List.setIfInBounds_toArray, List.set_cons_succ, List.set_cons_zero, Nat.reduceAdd]))
                refine Der.nil (fun w9 hgw9 hctx => ?_)
                clear hctx
                have hb9 : Below _ _ w9 := hgw9
                clear hgw9
                go_wp2
                go_roundw
                case rel => exact ⟨k2 + 1, by omega, by go_num, hbr.trans (((Below.refl _ _).drew.trans hb9).mono nr)⟩
                case measure => simp [intOf]; omega
              · by_cases h7 : K = 7
                · by_cases hn : (k2 : Int) = n
                  · have hnb : ((k2 : Int) == n) = true := by simpa using hn
                    have heb : (e0 == 0) = true := by simpa using he
                    have hxb : ((k2 : Int) == file) = false := by simpa using hx
                    have h7b : (K == 7) = true := by simpa using h7
                    clear hn hx he h7 pp qq MP MQ p93 p94
                    go_wp2
                    refine wp_grow [] 12 (by kernel_rfl) (by kernel_rfl) (by rfl) (by rfl) ?_
                    simp only [List.take_succ_cons, List.take_zero, List.drop_succ_cons, List.drop_zero]
                    repeat (first
                      | (apply Der.quiet; (rfl); (rfl); (intro w' hw' hctx; have hc' := bcell hw'; clear hctx; go_simp; first | exact rfl | exact ⟨rfl, rfl⟩); simp only [Act.put, List.setIfInBounds_toArray, List.set_cons_succ, List.set_cons_zero, Nat.reduceAdd])
                      | (apply Der.skip; (rfl); simp only [Act.put, List.setIfInBounds_toArray, List.set_cons_succ, List.set_cons_zero, Nat.reduceAdd]))
                    refine Der.nil (fun w9 hgw9 hctx => ?_)
                    clear hctx
                    have hb9 : Below _ _ w9 := hgw9
                    clear hgw9
                    go_wp2
                    go_roundw
                    case rel => exact ⟨k2 + 1, by omega, by go_num, hbr.trans (((Below.refl _ _).drew.trans hb9).mono nr)⟩
                    case measure => simp [intOf]; omega
                  · skip
                    have hq := HAW.out (fun _ => ⟨hx, fun _ => hn⟩)
                    rw [hq] at qq MQ
                    have HP := Lib.hid MP
                    have HQ := Lib.hid MQ
                    clear MP MQ hq
                    have heb : (e0 == 0) = true := by simpa using he
                    have hxb : ((k2 : Int) == file) = false := by simpa using hx
                    have h7b : (K == 7) = true := by simpa using h7
                    have hnb : ((k2 : Int) == n) = false := by simpa using hn
                    clear he hx h7 hn
                    go_wp2
                    refine wp_grow [(9, .val (.bool true))] 12 (by kernel_rfl) (by kernel_rfl) (by rfl) (by rfl) ?_
                    simp only [List.take_succ_cons, List.take_zero, List.drop_succ_cons, List.drop_zero]
                    repeat (first
                      | (apply Der.quiet; (rfl); (rfl); (intro w' hw' hctx; have hc' := bcell hw'; have y0 := (hw'.cell (p := ⟨w3.heap.size, k2, none⟩) (by dsimp; omega)).trans pp; have y1 := (hw'.cell (p := ⟨w6.heap.size, k2, none⟩) (by dsimp; omega)).trans qq; clear hctx; go_simp; first | exact rfl | exact ⟨rfl, rfl⟩); simp only [Act.put, List.setIfInBounds_toArray, List.set_cons_succ, List.set_cons_zero, Nat.reduceAdd])
                      | (apply Der.skip; (rfl); simp only [Act.put, List.setIfInBounds_toArray, List.set_cons_succ, List.set_cons_zero, Nat.reduceAdd]))
                    apply Der.val
                    · rfl
                    · rfl
                    · (intro w' hw' hctx; go_simp; refine (f_bytesEqB (HP.out.grown ((Below.refl _ _).drew.trans hw')) (HQ.out.grown ((Below.refl _ _).drew.trans hw'))).mono ?_; rintro e w2 ⟨rfl, hb⟩; exact ⟨_, rfl, rfl, hb⟩)
                    simp only [Act.put, List.setIfInBounds_toArray, List.set_cons_succ, List.set_cons_zero, Nat.reduceAdd]
                    repeat (first
                      | (apply Der.quiet; (rfl); (rfl); (intro w' hw' hctx; have hc' := bcell hw'; have y0 := (hw'.cell (p := ⟨w3.heap.size, k2, none⟩) (by dsimp; omega)).trans pp; have y1 := (hw'.cell (p := ⟨w6.heap.size, k2, none⟩) (by dsimp; omega)).trans qq; clear hctx; go_simp; first | exact rfl | exact ⟨rfl, rfl⟩); simp only [Act.put, List.setIfInBounds_toArray, List.set_cons_succ, List.set_cons_zero, Nat.reduceAdd])
                      | (apply Der.skip; (rfl); simp only [Act.put, List.setIfInBounds_toArray, List.set_cons_succ, List.set_cons_zero, Nat.reduceAdd]))
                    refine Der.nil (fun w9 hgw9 hctx => ?_)
                    clear hctx
                    have hb9 : Below _ _ w9 := hgw9
                    clear hgw9
                    go_wp2
                    go_roundw
                    case rel => exact ⟨k2 + 1, by omega, by go_num, hbr.trans (((Below.refl _ _).drew.trans hb9).mono nr)⟩
                    case measure => simp [intOf]; omega
                · skip
                  have hq := HAW.out (fun _ => ⟨hx, fun h => absurd (HKU.out ▸ h) h7⟩)
                  rw [hq] at qq MQ
                  have HP := Lib.hid MP
                  have HQ := Lib.hid MQ
                  clear MP MQ hq
                  have heb : (e0 == 0) = true := by simpa using he
                  have hxb : ((k2 : Int) == file) = false := by simpa using hx
                  have h7b : (K == 7) = false := by simpa using h7
                  clear he hx h7
                  go_wp2
                  refine wp_grow [(9, .val (.bool true))] 12 (by kernel_rfl) (by kernel_rfl) (by rfl) (by rfl) ?_
                  simp only [List.take_succ_cons, List.take_zero, List.drop_succ_cons, List.drop_zero]
                  repeat (first
                    | (apply Der.quiet; (rfl); (rfl); (intro w' hw' hctx; have hc' := bcell hw'; have y0 := (hw'.cell (p := ⟨w3.heap.size, k2, none⟩) (by dsimp; omega)).trans pp; have y1 := (hw'.cell (p := ⟨w6.heap.size, k2, none⟩) (by dsimp; omega)).trans qq; clear hctx; go_simp; first | exact rfl | exact ⟨rfl, rfl⟩); simp only [Act.put, List.setIfInBounds_toArray, List.set_cons_succ, List.set_cons_zero, Nat.reduceAdd])
                    | (apply Der.skip; (rfl); simp only [Act.put, List.setIfInBounds_toArray, List.set_cons_succ, List.set_cons_zero, Nat.reduceAdd]))
                  apply Der.val
                  · rfl
                  · rfl
                  · (intro w' hw' hctx; go_simp; refine (f_bytesEqB (HP.out.grown ((Below.refl _ _).drew.trans hw')) (HQ.out.grown ((Below.refl _ _).drew.trans hw'))).mono ?_; rintro e w2 ⟨rfl, hb⟩; exact ⟨_, rfl, rfl, hb⟩)
                  simp only [Act.put, List.setIfInBounds_toArray, List.set_cons_succ, List.set_cons_zero, Nat.reduceAdd]
                  repeat (first
                    | (apply Der.quiet; (rfl); (rfl); (intro w' hw' hctx; have hc' := bcell hw'; have y0 := (hw'.cell (p := ⟨w3.heap.size, k2, none⟩) (by dsimp; omega)).trans pp; have y1 := (hw'.cell (p := ⟨w6.heap.size, k2, none⟩) (by dsimp; omega)).trans qq; clear hctx; go_simp; first | exact rfl | exact ⟨rfl, rfl⟩); simp only [Act.put, List.setIfInBounds_toArray, List.set_cons_succ, List.set_cons_zero, Nat.reduceAdd])
                    | (apply Der.skip; (rfl); simp only [Act.put, List.setIfInBounds_toArray, List.set_cons_succ, List.set_cons_zero, Nat.reduceAdd]))
                  refine Der.nil (fun w9 hgw9 hctx => ?_)
                  clear hctx
                  have hb9 : Below _ _ w9 := hgw9
                  clear hgw9
                  go_wp2
                  go_roundw
                  case rel => exact ⟨k2 + 1, by omega, by go_num, hbr.trans (((Below.refl _ _).drew.trans hb9).mono nr)⟩
                  case measure => simp [intOf]; omega
            · skip
              have hq := HAW.out (fun h => absurd h he)
              rw [hq] at qq MQ
              have HP := Lib.hid MP
              have HQ := Lib.hid MQ
              clear MP MQ hq
              have heb : (e0 == 0) = false := by simpa using he
              clear he
              go_wp2
              refine wp_grow [(9, .val (.bool true))] 12 (by kernel_rfl) (by kernel_rfl) (by rfl) (by rfl) ?_
              simp only [List.take_succ_cons, List.take_zero, List.drop_succ_cons, List.drop_zero]
              repeat (first
                | (apply Der.quiet; (rfl); (rfl); (intro w' hw' hctx; have hc' := bcell hw'; have y0 := (hw'.cell (p := ⟨w3.heap.size, k2, none⟩) (by dsimp; omega)).trans pp; have y1 := (hw'.cell (p := ⟨w6.heap.size, k2, none⟩) (by dsimp; omega)).trans qq; clear hctx; go_simp; first | exact rfl | exact ⟨rfl, rfl⟩); simp only [Act.put, List.setIfInBounds_toArray, List.set_cons_succ, List.set_cons_zero, Nat.reduceAdd])
                | (apply Der.skip; (rfl); simp only [Act.put, List.setIfInBounds_toArray, List.set_cons_succ, List.set_cons_zero, Nat.reduceAdd]))
              apply Der.val
              · rfl
              · rfl
              · (intro w' hw' hctx; go_simp; refine (f_bytesEqB (HP.out.grown ((Below.refl _ _).drew.trans hw')) (HQ.out.grown ((Below.refl _ _).drew.trans hw'))).mono ?_; rintro e w2 ⟨rfl, hb⟩; exact ⟨_, rfl, rfl, hb⟩)
              simp only [Act.put, List.setIfInBounds_toArray, List.set_cons_succ, List.set_cons_zero, Nat.reduceAdd]
              repeat (first
                | (apply Der.quiet; (rfl); (rfl); (intro w' hw' hctx; have hc' := bcell hw'; have y0 := (hw'.cell (p := ⟨w3.heap.size, k2, none⟩) (by dsimp; omega)).trans pp; have y1 := (hw'.cell (p := ⟨w6.heap.size, k2, none⟩) (by dsimp; omega)).trans qq; clear hctx; go_simp; first | exact rfl | exact ⟨rfl, rfl⟩); simp only [Act.put, List.setIfInBounds_toArray, List.set_cons_succ, List.set_cons_zero, Nat.reduceAdd])
                | (apply Der.skip; (rfl); simp only [Act.put, List.setIfInBounds_toArray, List.set_cons_succ, List.set_cons_zero, Nat.reduceAdd]))
              refine Der.nil (fun w9 hgw9 hctx => ?_)
              clear hctx
              have hb9 : Below _ _ w9 := hgw9
              clear hgw9
              go_wp2
              go_roundw
              case rel => exact ⟨k2 + 1, by omega, by go_num, hbr.trans (((Below.refl _ _).drew.trans hb9).mono nr)⟩
              case measure => simp [intOf]; omega
          · obtain rfl : k2 = 4 := by omega
            obtain ⟨w9, hw9⟩ : ∃ w9, wr = w9 := ⟨_, rfl⟩
            rw [hw9] at hbr nr HB0R p90 p91 p92 p93 p94 ⊢
            clear hw9 wr
            have XW9 := Lib.hid (XW.out.below hbr)
            have XI9 := Lib.hid (XI.out.below hbr)
            have HD9 := Lib.hid (HD8.out.below hbr)
            have hw9 : Below w.heap.size w w9 := hb0.trans (HB0R.out.mono (by omega))
            have HW9 := Lib.hid hw9
            have y39 : w3.heap.size < w9.heap.size := by omega
            have y69 : w6.heap.size < w9.heap.size := by omega
            have y09 : w.heap.size < w9.heap.size := by omega
            have nw9 := hw9.size
            clear hw9 XW XI HD8 hbr
            by_cases he : e0 = 0
            · have hf : 0 ≤ file ∧ file < 4 := HA.out.file he
              have hA1 : K < 3 → (s'.at file).bs = (s.at file).bs ++ bytes.take 300 := fun h => HA.out.app he (HKU.out ▸ h)
              have hA2 : K = 6 → (0 ≤ n ∧ n ≤ (s.at file).bs.length) ∧ (s'.at file).bs = (s.at file).bs.take n.toNat := fun h => HA.out.cut he (HKU.out ▸ h)
              have hA3 : K = 7 → file ≠ n → (0 ≤ n ∧ n < 4) ∧ (s'.at n).bs = (s.at file).bs ∧ (s'.at file).bs = [] := fun h => HA.out.ren he (HKU.out ▸ h)
              have hA4 : K = 8 → (s'.at file).bs = [] ∧ file ∉ namesOf s' := fun h => HA.out.rem he (HKU.out ▸ h)
              have hA5 : (K = 3 ∨ K = 4 ∨ K = 5 ∨ (K = 7 ∧ file = n)) → (s'.at file).bs = (s.at file).bs := fun h => HA.out.same he (HKU.out ▸ h)
              subst he
              clear HA HC0 HS' HE0 HCM
              obtain ⟨fN, rfl⟩ : ∃ fN : Nat, file = fN := ⟨file.toNat, by omega⟩
              have hf4 : fN < 4 := by omega
              obtain ⟨pa, pc, pp, MP⟩ := XW9.out.at fN hf4
              obtain ⟨qa, qc, qq, MQ⟩ := XI9.out.at fN hf4
              have hlen := (HSUM.out (fN + 1) (by omega)).2
              rw [sumK_succ] at hlen
              have hlen0 := (HSUM.out fN (by omega)).1
              have HP := Lib.hid MP
              have HQ := Lib.hid MQ
              clear MP MQ
              by_cases k3 : K < 3
              · have HAP := Lib.hid (hA1 k3)
                have hsk : ∀ W, Below w9.heap.size w9 W → W.cell? ⟨w.heap.size, 0, none⟩ = some (.int .i64 kind) ∧ W.cell? ⟨w.heap.size, 1, none⟩ = some (.int .i64 fN) ∧ W.cell? ⟨w.heap.size, 2, none⟩ = some (.int .i64 n) ∧ W.cell? ⟨w.heap.size, 3, none⟩ = some (.slice ab bytes.length cb) ∧ W.cell? ⟨w.heap.size, 4, none⟩ = some (.slice ak keep.length ck) ∧ W.cell? ⟨w3.heap.size, fN, none⟩ = some (.slice pa (s.at fN).bs.length pc) ∧ W.cell? ⟨w6.heap.size, fN, none⟩ = some (.slice qa (s'.at fN).bs.length qc) := fun W hW => ⟨(hW.cell (p := ⟨w.heap.size, 0, none⟩) (by dsimp; omega)).trans p90, (hW.cell (p := ⟨w.heap.size, 1, none⟩) (by dsimp; omega)).trans p91, (hW.cell (p := ⟨w.heap.size, 2, none⟩) (by dsimp; omega)).trans p92, (hW.cell (p := ⟨w.heap.size, 3, none⟩) (by dsimp; omega)).trans p93, (hW.cell (p := ⟨w.heap.size, 4, none⟩) (by dsimp; omega)).trans p94, (hW.cell (p := ⟨w3.heap.size, fN, none⟩) (by dsimp; omega)).trans pp, (hW.cell (p := ⟨w6.heap.size, fN, none⟩) (by dsimp; omega)).trans qq⟩
                have HSK := Lib.hid hsk
                have HPP := Lib.hid (fun W (hW : Below w9.heap.size w9 W) => HP.out.grown hW)
                have HQQ := Lib.hid (fun W (hW : Below w9.heap.size w9 W) => HQ.out.grown hW)
                have HOO := Lib.hid (fun W (hW : Below w9.heap.size w9 W) => HO.out.grown (HW9.out.trans (hW.mono nw9)))
                have hcur : Below w9.heap.size w9 w9.drew := (Below.refl _ _).drew
                have hds : w9.drew.heap.size = w9.heap.size := rfl
                obtain ⟨g0, g1, g2, g3, g4, g5, g6⟩ := HSK.out _ hcur
                have hL3 : (bytes.take 300).length ≤ 300 := by simp; omega
                clear hsk hA1 hA2 hA3 hA4 hA5
                go_wp2
                refine wp_region_held_drew (S := fun W => W.cell? ⟨w.heap.size, 0, none⟩ = some (.int .i64 kind) ∧ W.cell? ⟨w.heap.size, 1, none⟩ = some (.int .i64 fN) ∧ W.cell? ⟨w.heap.size, 2, none⟩ = some (.int .i64 n) ∧ W.cell? ⟨w.heap.size, 3, none⟩ = some (.slice ab bytes.length cb) ∧ W.cell? ⟨w.heap.size, 4, none⟩ = some (.slice ak keep.length ck) ∧ W.cell? ⟨w3.heap.size, fN, none⟩ = some (.slice pa (s.at fN).bs.length pc) ∧ W.cell? ⟨w6.heap.size, fN, none⟩ = some (.slice qa (s'.at fN).bs.length qc)) (by kernel_rfl) ⟨g0, g1, g2, g3, g4, g5, g6⟩ (fun hHeld => ?_)
                refine wpAnyH_take (i := 0) (v := ?_) rfl (by kernel_rfl) (by kernel_rfl) (by kernel_rfl) (fun _ _ _ h => h) (Or.inl ⟨by rfl, ?_⟩) (by assumption) ?_
                rotate_left
                · (intro w hSw; (try dsimp only at hSw); (try go_simp); first | done | with_reducible rfl | rfl)
                simp only [Act.put, List.setIfInBounds_toArray, List.set_cons_zero, List.set_cons_succ]
                refine wpAnyH_take (i := 1) (v := ?_) rfl (by kernel_rfl) (by kernel_rfl) (by kernel_rfl) (fun _ _ _ h => h) (Or.inl ⟨by rfl, ?_⟩) (by assumption) ?_
                rotate_left
                · (intro w hSw; (try dsimp only at hSw); (try go_simp); first | done | with_reducible rfl | rfl)
                simp only [Act.put, List.setIfInBounds_toArray, List.set_cons_zero, List.set_cons_succ]
                refine wpAnyH_take (i := 2) (v := ?_) rfl (by kernel_rfl) (by kernel_rfl) (by kernel_rfl) (fun _ _ _ h => h) (Or.inl ⟨by rfl, ?_⟩) (by assumption) ?_
                rotate_left
                · (intro w hSw; (try dsimp only at hSw); (try go_simp); first | done | with_reducible rfl | rfl)
                simp only [Act.put, List.setIfInBounds_toArray, List.set_cons_zero, List.set_cons_succ]
                refine wpAnyH_take (i := 3) (v := ?_) rfl (by kernel_rfl) (by kernel_rfl) (by kernel_rfl) (fun _ _ _ h => h) (Or.inl ⟨by rfl, ?_⟩) (by assumption) ?_
                rotate_left
                · (intro w hSw; (try dsimp only at hSw); (try go_simp); first | done | with_reducible rfl | rfl)
                simp only [Act.put, List.setIfInBounds_toArray, List.set_cons_zero, List.set_cons_succ]
                refine wpAnyH_take (i := 4) (v := ?_) rfl (by kernel_rfl) (by kernel_rfl) (by kernel_rfl) (fun _ _ _ h => h) (Or.inl ⟨by rfl, ?_⟩) (by assumption) ?_
                rotate_left
                · (intro w hSw; (try dsimp only at hSw); (try go_simp); first | done | with_reducible rfl | rfl)
                simp only [Act.put, List.setIfInBounds_toArray, List.set_cons_zero, List.set_cons_succ]
                refine wpAnyH_take (i := 5) (v := ?_) rfl (by kernel_rfl) (by kernel_rfl) (by kernel_rfl) (fun _ _ _ h => h) (Or.inl ⟨by rfl, ?_⟩) (by assumption) ?_
                rotate_left
                · (intro w hSw; (try dsimp only at hSw); (try go_simp); first | done | with_reducible rfl | rfl)
                simp only [Act.put, List.setIfInBounds_toArray, List.set_cons_zero, List.set_cons_succ]
                refine wpAnyH_take (i := 6) (v := ?_) rfl (by kernel_rfl) (by kernel_rfl) (by kernel_rfl) (fun _ _ _ h => h) (Or.inl ⟨by rfl, ?_⟩) (by assumption) ?_
                rotate_left
                · (intro w hSw; (try dsimp only at hSw); (try go_simp); first | done | with_reducible rfl | rfl)
                simp only [Act.put, List.setIfInBounds_toArray, List.set_cons_zero, List.set_cons_succ]
                refine wpAnyH_take (i := 7) (v := ?_) rfl (by kernel_rfl) (by kernel_rfl) (by kernel_rfl) (fun _ _ _ h => h) (Or.inl ⟨by rfl, ?_⟩) (by assumption) ?_
                rotate_left
                · (intro w hSw; (try dsimp only at hSw); (try go_simp); first | done | with_reducible rfl | rfl)
                simp only [Act.put, List.setIfInBounds_toArray, List.set_cons_zero, List.set_cons_succ]
                refine wpAnyH_take (i := 9) (v := ?_) rfl (by kernel_rfl) (by kernel_rfl) (by kernel_rfl) (fun _ _ _ h => h) (Or.inl ⟨by rfl, ?_⟩) (by assumption) ?_
                rotate_left
                · (intro w hSw; (try dsimp only at hSw); (try go_simp); first | done | with_reducible rfl | rfl)
                simp only [Act.put, List.setIfInBounds_toArray, List.set_cons_zero, List.set_cons_succ]
                refine wpAnyH_ready (rs := [8]) (by kernel_rfl) (by simp) (AllReadyH.cons rfl (fun K hK => ?_) AllReadyH.nil)
                go_simp
                refine (f_slClone _ _ _ (HPP.out _ hcur) (by omega)).mono ?_
                rintro e wc ⟨⟨vc, rfl, ownc⟩, hbc⟩
                replace hcur := hcur.trans (hbc.mono hcur.size)
                have hbsz := hcur.size
                obtain ⟨g0, g1, g2, g3, g4, g5, g6⟩ := HSK.out _ hcur
                go_wp2
                refine hK.out _ _ ⟨g0, g1, g2, g3, g4, g5, g6⟩ (fun hHeld => ?_)
                clear hK K
                refine wpAnyH_ready (rs := [10]) (by kernel_rfl) (by simp) (AllReadyH.cons rfl (fun K hK => ?_) AllReadyH.nil)
                go_simp
                refine (f_few (o := ⟨kind, fN, n, .slice ab bytes.length cb, .slice ak keep.length ck, bytes, keep⟩) (HOO.out _ hcur)).mono ?_
                rintro e wf ⟨bvf, kvf, rfl, ownf, ownk, -, hbf⟩
                obtain ⟨p1, q1, c1, rfl, hp1⟩ := own_slice ownf
                obtain ⟨p2, q2, c2, rfl, hp2⟩ := own_slice ownk
                dsimp only [OV] at ownf ownk ⊢
                have hfd := fun W : World => run_field3 kind fN n (.slice p1 q1 c1) (.slice p2 q2 c2) W
                have hbyf : Byt wf (.slice p1 q1 c1) (bytes.take 300) := Byt.of_owns ownf rfl
                replace ownc := own_block ownc (fun g hg => hbf.block g (ownc.lt g hg).2)
                replace hcur := hcur.trans (hbf.mono hcur.size)
                have hbsz := hcur.size
                obtain ⟨g0, g1, g2, g3, g4, g5, g6⟩ := HSK.out _ hcur
                go_wp2
                refine hK.out _ _ ⟨g0, g1, g2, g3, g4, g5, g6⟩ (fun hHeld => ?_)
                clear hK K
                refine wpAnyH_take (i := 11) (v := ?_) rfl (by kernel_rfl) (by kernel_rfl) (by kernel_rfl) (fun _ _ _ h => h) (Or.inl ⟨by rfl, ?_⟩) (by assumption) ?_
                rotate_left
                · (intro w hSw; (try dsimp only at hSw); (try go_simp); first | done | with_reducible rfl | rfl)
                simp only [Act.put, List.setIfInBounds_toArray, List.set_cons_zero, List.set_cons_succ]
                obtain ⟨va, wA, hr, ownA, hbA⟩ := run_append_byt _ _ _ _ _ ownc _ _ hbyf (by omega) (by have := hbc.size; have := hbf.size; omega)
                have hcurA := hcur.trans (hbA.mono (by have := hbc.size; have := hbf.size; omega))
                obtain ⟨h0, h1, h2, h3, h4, h5, h6⟩ := HSK.out _ hcurA
                refine wpAnyH_ready (rs := [12]) (by kernel_rfl) (by simp) (AllReadyH.cons rfl (fun K hK => ?_) AllReadyH.nil)
                rw [if_pos (by rfl)]
                refine wp_append_eq (.tmp 127) (.tmp 130) 31 rfl rfl rfl hr ?_
                clear hr
                simp only [Act.put, List.setIfInBounds_toArray, List.set_cons_zero, List.set_cons_succ]
                refine hK.out _ _ ⟨h0, h1, h2, h3, h4, h5, h6⟩ (fun hHeld => ?_)
                clear hK K
                refine wpAnyH_ready (rs := [13]) (by kernel_rfl) (by simp) (AllReadyH.cons rfl (fun K hK => ?_) AllReadyH.nil)
                have hba : Byt wA va (s'.at fN).bs := by
                  rw [HAP.out]
                  exact Byt.of_owns (by rw [List.map_append]; exact ownA) (by rw [List.length_append])
                have HBA := Lib.hid hba
                clear hba ownA ownc ownf ownk hbyf
                go_simp
                refine (f_bytesEqB (HQQ.out _ hcurA) HBA.out).mono ?_
                rintro e wz ⟨rfl, hbz⟩
                have hcurZ := hcurA.trans (hbz.mono hcurA.size)
                obtain ⟨i0, i1, i2, i3, i4, i5, i6⟩ := HSK.out _ hcurZ
                go_wp2
                refine hK.out _ _ ⟨i0, i1, i2, i3, i4, i5, i6⟩ (fun hHeld => ?_)
                clear hK K
                refine wpAnyH_ready (rs := [14]) (by kernel_rfl) (by simp) (AllReadyH.cons rfl (fun K hK => ?_) AllReadyH.nil)
                go_simp
                refine hK.out _ _ ⟨i0, i1, i2, i3, i4, i5, i6⟩ (fun hHeld => ?_)
                clear hK K
                refine wpAnyH_done (by kernel_rfl) ?_ _
                go_wp2
                go_ret
                exact ⟨rfl, HW9.out.trans (hcurZ.mono nw9)⟩
              · by_cases k6 : K = 6
                · obtain ⟨⟨hn0, hnl⟩, hcut⟩ := hA2 k6
                  obtain ⟨nN, rfl⟩ : ∃ nN : Nat, n = nN := ⟨n.toNat, by omega⟩
                  have hnl' : nN ≤ (s.at fN).bs.length := by omega
                  rw [Int.toNat_natCast] at hcut
                  rw [hcut] at qq
                  have hbq := HQ.out
                  rw [hcut] at hbq
                  have HQ := Lib.hid hbq
                  obtain ⟨pa', pc', epp, hpl, hpm, -⟩ := HP.out.open
                  simp only [Value.slice.injEq] at epp
                  obtain ⟨rfl, -, rfl⟩ := epp
                  have hsl := run_cut2 pa (s.at fN).bs.length pc nN hnl' hpl hpm
                  have hbp : Byt w9 (.slice pa nN pc) ((s.at fN).bs.take nN) := ⟨by
                    have h9 := Sl.cut HP.out.1 hnl'
                    simpa using h9, NilA.cut HP.out.2 hnl'⟩
                  have HR := Lib.hid hbp
                  have hlt : ((s.at fN).bs.take nN).length = nN := by simp; omega
                  rw [hlt] at qq
                  have hbq2 := HQ.out
                  rw [hlt] at hbq2
                  have HQ2 := Lib.hid hbq2
                  clear hA1 hA2 hA3 hA4 hA5 hbq hbp hcut HQ hbq2 hlt
                  subst k6
                  go_wp2
                  refine wp_grow [(11, .val (.bool true))] 13 (by kernel_rfl) (by kernel_rfl) (by rfl) (by rfl) ?_
                  simp only [List.take_succ_cons, List.take_zero, List.drop_succ_cons, List.drop_zero]
                  repeat (first
                    | (apply Der.quiet; (rfl); (rfl); (intro w' hw' hctx; have hc' := bcell hw'; have y0 := (hw'.cell (p := ⟨w3.heap.size, fN, none⟩) (by dsimp; omega)).trans pp; have y1 := (hw'.cell (p := ⟨w6.heap.size, fN, none⟩) (by dsimp; omega)).trans qq; have y2 := (hw'.cell (p := ⟨w.heap.size, 1, none⟩) (by dsimp; omega)).trans p91; have y4 := (hw'.cell (p := ⟨w.heap.size, 2, none⟩) (by dsimp; omega)).trans p92; clear hctx; go_simp; first | exact rfl | exact ⟨rfl, rfl⟩); simp only [Act.put, List.setIfInBounds_toArray, List.set_cons_succ, List.set_cons_zero, Nat.reduceAdd])
                    | (apply Der.skip; (rfl); simp only [Act.put, List.setIfInBounds_toArray, List.set_cons_succ, List.set_cons_zero, Nat.reduceAdd]))
                  apply Der.val
                  · rfl
                  · rfl
                  · (intro w' hw' hctx; go_simp; refine (f_bytesEqB (HQ2.out.grown ((Below.refl _ _).drew.trans hw')) (HR.out.grown ((Below.refl _ _).drew.trans hw'))).mono ?_; rintro e w2 ⟨rfl, hb⟩; exact ⟨_, rfl, rfl, hb⟩)
                  simp only [Act.put, List.setIfInBounds_toArray, List.set_cons_succ, List.set_cons_zero, Nat.reduceAdd]
                  repeat (first
                    | (apply Der.quiet; (rfl); (rfl); (intro w' hw' hctx; have hc' := bcell hw'; have y0 := (hw'.cell (p := ⟨w3.heap.size, fN, none⟩) (by dsimp; omega)).trans pp; have y1 := (hw'.cell (p := ⟨w6.heap.size, fN, none⟩) (by dsimp; omega)).trans qq; have y2 := (hw'.cell (p := ⟨w.heap.size, 1, none⟩) (by dsimp; omega)).trans p91; have y4 := (hw'.cell (p := ⟨w.heap.size, 2, none⟩) (by dsimp; omega)).trans p92; clear hctx; go_simp; first | exact rfl | exact ⟨rfl, rfl⟩); simp only [Act.put, List.setIfInBounds_toArray, List.set_cons_succ, List.set_cons_zero, Nat.reduceAdd])
                    | (apply Der.skip; (rfl); simp only [Act.put, List.setIfInBounds_toArray, List.set_cons_succ, List.set_cons_zero, Nat.reduceAdd]))
                  refine Der.nil (fun w10 hgw10 hctx => ?_)
                  clear hctx
                  have hb10 : Below _ _ w10 := hgw10
                  clear hgw10
                  go_wp2
                  go_ret
                  exact ⟨rfl, HW9.out.trans (((Below.refl _ _).drew.trans hb10).mono nw9)⟩
                · by_cases k7 : K = 7 ∧ (fN : Int) ≠ n
                  · obtain ⟨rfl, hne⟩ := k7
                    obtain ⟨⟨hn0, hn4⟩, hr1, hr2⟩ := hA3 rfl hne
                    obtain ⟨nN, rfl⟩ : ∃ nN : Nat, n = nN := ⟨n.toNat, by omega⟩
                    have hne' : ¬ fN = nN := fun h => hne (by rw [h])
                    obtain ⟨ra, rc, rr, MR⟩ := XI9.out.at nN (by omega)
                    rw [hr1] at rr MR
                    rw [hr2] at qq
                    have HR := Lib.hid MR
                    clear MR hr1 hr2 hA1 hA2 hA3 hA4 hA5
                    go_wp2
                    refine wp_grow [(8, .val (.bool true))] 18 (by kernel_rfl) (by kernel_rfl) (by rfl) (by rfl) ?_
                    simp only [List.take_succ_cons, List.take_zero, List.drop_succ_cons, List.drop_zero]
                    repeat (first
                      | (apply Der.quiet; (rfl); (rfl); (intro w' hw' hctx; have hc' := bcell hw'; have y0 := (hw'.cell (p := ⟨w3.heap.size, fN, none⟩) (by dsimp; omega)).trans pp; have y1 := (hw'.cell (p := ⟨w6.heap.size, fN, none⟩) (by dsimp; omega)).trans qq; have y2 := (hw'.cell (p := ⟨w.heap.size, 1, none⟩) (by dsimp; omega)).trans p91; have y4 := (hw'.cell (p := ⟨w.heap.size, 2, none⟩) (by dsimp; omega)).trans p92; have y5 := (hw'.cell (p := ⟨w6.heap.size, nN, none⟩) (by dsimp; omega)).trans rr; clear hctx; go_simp; first | exact rfl | exact ⟨rfl, rfl⟩); simp only [Act.put, List.setIfInBounds_toArray, List.set_cons_succ, List.set_cons_zero, Nat.reduceAdd])
                      | (apply Der.skip; (rfl); simp only [Act.put, List.setIfInBounds_toArray, List.set_cons_succ, List.set_cons_zero, Nat.reduceAdd]))
                    apply Der.val
                    · rfl
                    · rfl
                    · (intro w' hw' hctx; go_simp; refine (f_bytesEqB (HR.out.grown ((Below.refl _ _).drew.trans hw')) (HP.out.grown ((Below.refl _ _).drew.trans hw'))).mono ?_; rintro e w2 ⟨rfl, hb⟩; exact ⟨_, rfl, rfl, hb⟩)
                    simp only [Act.put, List.setIfInBounds_toArray, List.set_cons_succ, List.set_cons_zero, Nat.reduceAdd]
                    repeat (first
                      | (apply Der.quiet; (rfl); (rfl); (intro w' hw' hctx; have hc' := bcell hw'; have y0 := (hw'.cell (p := ⟨w3.heap.size, fN, none⟩) (by dsimp; omega)).trans pp; have y1 := (hw'.cell (p := ⟨w6.heap.size, fN, none⟩) (by dsimp; omega)).trans qq; have y2 := (hw'.cell (p := ⟨w.heap.size, 1, none⟩) (by dsimp; omega)).trans p91; have y4 := (hw'.cell (p := ⟨w.heap.size, 2, none⟩) (by dsimp; omega)).trans p92; have y5 := (hw'.cell (p := ⟨w6.heap.size, nN, none⟩) (by dsimp; omega)).trans rr; clear hctx; go_simp; first | exact rfl | exact ⟨rfl, rfl⟩); simp only [Act.put, List.setIfInBounds_toArray, List.set_cons_succ, List.set_cons_zero, Nat.reduceAdd])
                      | (apply Der.skip; (rfl); simp only [Act.put, List.setIfInBounds_toArray, List.set_cons_succ, List.set_cons_zero, Nat.reduceAdd]))
                    refine Der.nil (fun w10 hgw10 hctx => ?_)
                    clear hctx
                    have hb10 : Below _ _ w10 := hgw10
                    clear hgw10
                    go_wp2
                    go_ret
                    exact ⟨rfl, HW9.out.trans (((Below.refl _ _).drew.trans hb10).mono nw9)⟩
                  · by_cases k8 : K = 8
                    · obtain ⟨hr2, hno⟩ := hA4 k8
                      rw [hr2] at qq
                      clear hA1 hA2 hA3 hA4 hA5 k7
                      subst k8
                      go_wp2
                      refine wp_grow [(8, .rel (NamesR (namesOf s')) (fun _ _ _ h hg => h.grow hg)), (11, .val (.bool false))] 15 (by kernel_rfl) (by kernel_rfl) (by rfl) (by rfl) ?_
                      simp only [List.take_succ_cons, List.take_zero, List.drop_succ_cons, List.drop_zero]
                      repeat (first
                        | (apply Der.quiet; (rfl); (rfl); (intro w' hw' hctx; have hc' := bcell hw'; have y0 := (hw'.cell (p := ⟨w3.heap.size, fN, none⟩) (by dsimp; omega)).trans pp; have y1 := (hw'.cell (p := ⟨w6.heap.size, fN, none⟩) (by dsimp; omega)).trans qq; have y2 := (hw'.cell (p := ⟨w.heap.size, 1, none⟩) (by dsimp; omega)).trans p91; have y4 := (hw'.cell (p := ⟨w.heap.size, 2, none⟩) (by dsimp; omega)).trans p92; clear hctx; go_simp; first | exact rfl | exact ⟨rfl, rfl⟩); simp only [Act.put, List.setIfInBounds_toArray, List.set_cons_succ, List.set_cons_zero, Nat.reduceAdd])
                        | (apply Der.skip; (rfl); simp only [Act.put, List.setIfInBounds_toArray, List.set_cons_succ, List.set_cons_zero, Nat.reduceAdd]))
                      refine Der.rel (by rfl) (by rfl) (fun w' hw' hctx => ?_) (fun v8 => ?_)
                      · (go_simp; refine (f_Files (HD9.out.below ((Below.refl _ _).drew.trans hw')) HOK'.out).mono ?_; rintro e w2 ⟨⟨v', rfl, ho⟩, hb⟩; exact ⟨v', rfl, NamesR.of_own ho, hb⟩)
                      simp only [Act.put, List.setIfInBounds_toArray, List.set_cons_succ, List.set_cons_zero, Nat.reduceAdd]
                      repeat (first
                        | (apply Der.quiet; (rfl); (rfl); (intro w' hw' hctx; have hc' := bcell hw'; have y0 := (hw'.cell (p := ⟨w3.heap.size, fN, none⟩) (by dsimp; omega)).trans pp; have y1 := (hw'.cell (p := ⟨w6.heap.size, fN, none⟩) (by dsimp; omega)).trans qq; have y2 := (hw'.cell (p := ⟨w.heap.size, 1, none⟩) (by dsimp; omega)).trans p91; have y4 := (hw'.cell (p := ⟨w.heap.size, 2, none⟩) (by dsimp; omega)).trans p92; clear hctx; go_simp; first | exact rfl | exact ⟨rfl, rfl⟩); simp only [Act.put, List.setIfInBounds_toArray, List.set_cons_succ, List.set_cons_zero, Nat.reduceAdd])
                        | (apply Der.skip; (rfl); simp only [Act.put, List.setIfInBounds_toArray, List.set_cons_succ, List.set_cons_zero, Nat.reduceAdd]))
                      apply Der.val
                      · rfl
                      · rfl
                      · (intro w' hw' hctx; go_simp; refine (f_lacksR (hctx 8 _ _ (by kernel_rfl) rfl rfl) (namesOf_len s') hno).mono ?_; rintro e w2 ⟨rfl, hb⟩; exact ⟨_, rfl, rfl, hb⟩)
                      simp only [Act.put, List.setIfInBounds_toArray, List.set_cons_succ, List.set_cons_zero, Nat.reduceAdd]
                      repeat (first
                        | (apply Der.quiet; (rfl); (rfl); (intro w' hw' hctx; have hc' := bcell hw'; have y0 := (hw'.cell (p := ⟨w3.heap.size, fN, none⟩) (by dsimp; omega)).trans pp; have y1 := (hw'.cell (p := ⟨w6.heap.size, fN, none⟩) (by dsimp; omega)).trans qq; have y2 := (hw'.cell (p := ⟨w.heap.size, 1, none⟩) (by dsimp; omega)).trans p91; have y4 := (hw'.cell (p := ⟨w.heap.size, 2, none⟩) (by dsimp; omega)).trans p92; clear hctx; go_simp; first | exact rfl | exact ⟨rfl, rfl⟩); simp only [Act.put, List.setIfInBounds_toArray, List.set_cons_succ, List.set_cons_zero, Nat.reduceAdd])
                        | (apply Der.skip; (rfl); simp only [Act.put, List.setIfInBounds_toArray, List.set_cons_succ, List.set_cons_zero, Nat.reduceAdd]))
                      refine Der.nil (fun w10 hgw10 hctx => ?_)
                      clear hctx
                      have hb10 : Below _ _ w10 := hgw10
                      clear hgw10
                      go_wp2
                      go_ret
                      exact ⟨rfl, HW9.out.trans (((Below.refl _ _).drew.trans hb10).mono nw9)⟩
                    · have hq := hA5 (by omega)
                      rw [hq] at qq
                      have hbq := HQ.out
                      rw [hq] at hbq
                      have HQ2 := Lib.hid hbq
                      have hk4 : K = 3 ∨ K = 4 ∨ K = 5 ∨ (K = 7 ∧ (fN : Int) = n) := by omega
                      clear hA1 hA2 hA3 hA4 hA5 hbq HQ hq k7 k8 k6 k3
                      have hfin : ∀ W, Below w9.heap.size w9 W → Below w.heap.size w W := fun W hW => HW9.out.trans (hW.mono nw9)
                      rcases hk4 with rfl | rfl | rfl | ⟨rfl, rfl⟩
                      · go_wp2
                        refine wp_grow [(8, .val (.bool true))] 10 (by kernel_rfl) (by kernel_rfl) (by rfl) (by rfl) ?_
                        simp only [List.take_succ_cons, List.take_zero, List.drop_succ_cons, List.drop_zero]
                        repeat (first
                          | (apply Der.quiet; (rfl); (rfl); (intro w' hw' hctx; have hc' := bcell hw'; have y0 := (hw'.cell (p := ⟨w3.heap.size, fN, none⟩) (by dsimp; omega)).trans pp; have y1 := (hw'.cell (p := ⟨w6.heap.size, fN, none⟩) (by dsimp; omega)).trans qq; have y2 := (hw'.cell (p := ⟨w.heap.size, 1, none⟩) (by dsimp; omega)).trans p91; have y4 := (hw'.cell (p := ⟨w.heap.size, 2, none⟩) (by dsimp; omega)).trans p92; clear hctx; go_simp; first | exact rfl | exact ⟨rfl, rfl⟩); simp only [Act.put, List.setIfInBounds_toArray, List.set_cons_succ, List.set_cons_zero, Nat.reduceAdd])
                          | (apply Der.skip; (rfl); simp only [Act.put, List.setIfInBounds_toArray, List.set_cons_succ, List.set_cons_zero, Nat.reduceAdd]))
                        apply Der.val
                        · rfl
                        · rfl
                        · (intro w' hw' hctx; go_simp; refine (f_bytesEqB (HQ2.out.grown ((Below.refl _ _).drew.trans hw')) (HP.out.grown ((Below.refl _ _).drew.trans hw'))).mono ?_; rintro e w2 ⟨rfl, hb⟩; exact ⟨_, rfl, rfl, hb⟩)
                        simp only [Act.put, List.setIfInBounds_toArray, List.set_cons_succ, List.set_cons_zero, Nat.reduceAdd]
                        repeat (first
                          | (apply Der.quiet; (rfl); (rfl); (intro w' hw' hctx; have hc' := bcell hw'; have y0 := (hw'.cell (p := ⟨w3.heap.size, fN, none⟩) (by dsimp; omega)).trans pp; have y1 := (hw'.cell (p := ⟨w6.heap.size, fN, none⟩) (by dsimp; omega)).trans qq; have y2 := (hw'.cell (p := ⟨w.heap.size, 1, none⟩) (by dsimp; omega)).trans p91; have y4 := (hw'.cell (p := ⟨w.heap.size, 2, none⟩) (by dsimp; omega)).trans p92; clear hctx; go_simp; first | exact rfl | exact ⟨rfl, rfl⟩); simp only [Act.put, List.setIfInBounds_toArray, List.set_cons_succ, List.set_cons_zero, Nat.reduceAdd])
                          | (apply Der.skip; (rfl); simp only [Act.put, List.setIfInBounds_toArray, List.set_cons_succ, List.set_cons_zero, Nat.reduceAdd]))
                        refine Der.nil (fun w10 hgw10 hctx => ?_)
                        clear hctx
                        have hb10 : Below _ _ w10 := hgw10
                        clear hgw10
                        go_wp2
                        go_ret
                        exact ⟨rfl, HW9.out.trans (((Below.refl _ _).drew.trans hb10).mono nw9)⟩
                      · go_wp2
                        refine wp_grow [(8, .val (.bool true))] 10 (by kernel_rfl) (by kernel_rfl) (by rfl) (by rfl) ?_
                        simp only [List.take_succ_cons, List.take_zero, List.drop_succ_cons, List.drop_zero]
                        repeat (first
                          | (apply Der.quiet; (rfl); (rfl); (intro w' hw' hctx; have hc' := bcell hw'; have y0 := (hw'.cell (p := ⟨w3.heap.size, fN, none⟩) (by dsimp; omega)).trans pp; have y1 := (hw'.cell (p := ⟨w6.heap.size, fN, none⟩) (by dsimp; omega)).trans qq; have y2 := (hw'.cell (p := ⟨w.heap.size, 1, none⟩) (by dsimp; omega)).trans p91; have y4 := (hw'.cell (p := ⟨w.heap.size, 2, none⟩) (by dsimp; omega)).trans p92; clear hctx; go_simp; first | exact rfl | exact ⟨rfl, rfl⟩); simp only [Act.put, List.setIfInBounds_toArray, List.set_cons_succ, List.set_cons_zero, Nat.reduceAdd])
                          | (apply Der.skip; (rfl); simp only [Act.put, List.setIfInBounds_toArray, List.set_cons_succ, List.set_cons_zero, Nat.reduceAdd]))
                        apply Der.val
                        · rfl
                        · rfl
                        · (intro w' hw' hctx; go_simp; refine (f_bytesEqB (HQ2.out.grown ((Below.refl _ _).drew.trans hw')) (HP.out.grown ((Below.refl _ _).drew.trans hw'))).mono ?_; rintro e w2 ⟨rfl, hb⟩; exact ⟨_, rfl, rfl, hb⟩)
                        simp only [Act.put, List.setIfInBounds_toArray, List.set_cons_succ, List.set_cons_zero, Nat.reduceAdd]
                        repeat (first
                          | (apply Der.quiet; (rfl); (rfl); (intro w' hw' hctx; have hc' := bcell hw'; have y0 := (hw'.cell (p := ⟨w3.heap.size, fN, none⟩) (by dsimp; omega)).trans pp; have y1 := (hw'.cell (p := ⟨w6.heap.size, fN, none⟩) (by dsimp; omega)).trans qq; have y2 := (hw'.cell (p := ⟨w.heap.size, 1, none⟩) (by dsimp; omega)).trans p91; have y4 := (hw'.cell (p := ⟨w.heap.size, 2, none⟩) (by dsimp; omega)).trans p92; clear hctx; go_simp; first | exact rfl | exact ⟨rfl, rfl⟩); simp only [Act.put, List.setIfInBounds_toArray, List.set_cons_succ, List.set_cons_zero, Nat.reduceAdd])
                          | (apply Der.skip; (rfl); simp only [Act.put, List.setIfInBounds_toArray, List.set_cons_succ, List.set_cons_zero, Nat.reduceAdd]))
                        refine Der.nil (fun w10 hgw10 hctx => ?_)
                        clear hctx
                        have hb10 : Below _ _ w10 := hgw10
                        clear hgw10
                        go_wp2
                        go_ret
                        exact ⟨rfl, HW9.out.trans (((Below.refl _ _).drew.trans hb10).mono nw9)⟩
                      · go_wp2
                        refine wp_grow [(8, .val (.bool true))] 10 (by kernel_rfl) (by kernel_rfl) (by rfl) (by rfl) ?_
                        simp only [List.take_succ_cons, List.take_zero, List.drop_succ_cons, List.drop_zero]
                        repeat (first
                          | (apply Der.quiet; (rfl); (rfl); (intro w' hw' hctx; have hc' := bcell hw'; have y0 := (hw'.cell (p := ⟨w3.heap.size, fN, none⟩) (by dsimp; omega)).trans pp; have y1 := (hw'.cell (p := ⟨w6.heap.size, fN, none⟩) (by dsimp; omega)).trans qq; have y2 := (hw'.cell (p := ⟨w.heap.size, 1, none⟩) (by dsimp; omega)).trans p91; have y4 := (hw'.cell (p := ⟨w.heap.size, 2, none⟩) (by dsimp; omega)).trans p92; clear hctx; go_simp; first | exact rfl | exact ⟨rfl, rfl⟩); simp only [Act.put, List.setIfInBounds_toArray, List.set_cons_succ, List.set_cons_zero, Nat.reduceAdd])
                          | (apply Der.skip; (rfl); simp only [Act.put, List.setIfInBounds_toArray, List.set_cons_succ, List.set_cons_zero, Nat.reduceAdd]))
                        apply Der.val
                        · rfl
                        · rfl
                        · (intro w' hw' hctx; go_simp; refine (f_bytesEqB (HQ2.out.grown ((Below.refl _ _).drew.trans hw')) (HP.out.grown ((Below.refl _ _).drew.trans hw'))).mono ?_; rintro e w2 ⟨rfl, hb⟩; exact ⟨_, rfl, rfl, hb⟩)
                        simp only [Act.put, List.setIfInBounds_toArray, List.set_cons_succ, List.set_cons_zero, Nat.reduceAdd]
                        repeat (first
                          | (apply Der.quiet; (rfl); (rfl); (intro w' hw' hctx; have hc' := bcell hw'; have y0 := (hw'.cell (p := ⟨w3.heap.size, fN, none⟩) (by dsimp; omega)).trans pp; have y1 := (hw'.cell (p := ⟨w6.heap.size, fN, none⟩) (by dsimp; omega)).trans qq; have y2 := (hw'.cell (p := ⟨w.heap.size, 1, none⟩) (by dsimp; omega)).trans p91; have y4 := (hw'.cell (p := ⟨w.heap.size, 2, none⟩) (by dsimp; omega)).trans p92; clear hctx; go_simp; first | exact rfl | exact ⟨rfl, rfl⟩); simp only [Act.put, List.setIfInBounds_toArray, List.set_cons_succ, List.set_cons_zero, Nat.reduceAdd])
                          | (apply Der.skip; (rfl); simp only [Act.put, List.setIfInBounds_toArray, List.set_cons_succ, List.set_cons_zero, Nat.reduceAdd]))
                        refine Der.nil (fun w10 hgw10 hctx => ?_)
                        clear hctx
                        have hb10 : Below _ _ w10 := hgw10
                        clear hgw10
                        go_wp2
                        go_ret
                        exact ⟨rfl, HW9.out.trans (((Below.refl _ _).drew.trans hb10).mono nw9)⟩
                      · go_wp2
                        refine wp_grow [(8, .val (.bool true))] 10 (by kernel_rfl) (by kernel_rfl) (by rfl) (by rfl) ?_
                        simp only [List.take_succ_cons, List.take_zero, List.drop_succ_cons, List.drop_zero]
                        repeat (first
                          | (apply Der.quiet; (rfl); (rfl); (intro w' hw' hctx; have hc' := bcell hw'; have y0 := (hw'.cell (p := ⟨w3.heap.size, fN, none⟩) (by dsimp; omega)).trans pp; have y1 := (hw'.cell (p := ⟨w6.heap.size, fN, none⟩) (by dsimp; omega)).trans qq; have y2 := (hw'.cell (p := ⟨w.heap.size, 1, none⟩) (by dsimp; omega)).trans p91; have y4 := (hw'.cell (p := ⟨w.heap.size, 2, none⟩) (by dsimp; omega)).trans p92; clear hctx; go_simp; first | exact rfl | exact ⟨rfl, rfl⟩); simp only [Act.put, List.setIfInBounds_toArray, List.set_cons_succ, List.set_cons_zero, Nat.reduceAdd])
                          | (apply Der.skip; (rfl); simp only [Act.put, List.setIfInBounds_toArray, List.set_cons_succ, List.set_cons_zero, Nat.reduceAdd]))
                        apply Der.val
                        · rfl
                        · rfl
                        · (intro w' hw' hctx; go_simp; refine (f_bytesEqB (HQ2.out.grown ((Below.refl _ _).drew.trans hw')) (HP.out.grown ((Below.refl _ _).drew.trans hw'))).mono ?_; rintro e w2 ⟨rfl, hb⟩; exact ⟨_, rfl, rfl, hb⟩)
                        simp only [Act.put, List.setIfInBounds_toArray, List.set_cons_succ, List.set_cons_zero, Nat.reduceAdd]
                        repeat (first
                          | (apply Der.quiet; (rfl); (rfl); (intro w' hw' hctx; have hc' := bcell hw'; have y0 := (hw'.cell (p := ⟨w3.heap.size, fN, none⟩) (by dsimp; omega)).trans pp; have y1 := (hw'.cell (p := ⟨w6.heap.size, fN, none⟩) (by dsimp; omega)).trans qq; have y2 := (hw'.cell (p := ⟨w.heap.size, 1, none⟩) (by dsimp; omega)).trans p91; have y4 := (hw'.cell (p := ⟨w.heap.size, 2, none⟩) (by dsimp; omega)).trans p92; clear hctx; go_simp; first | exact rfl | exact ⟨rfl, rfl⟩); simp only [Act.put, List.setIfInBounds_toArray, List.set_cons_succ, List.set_cons_zero, Nat.reduceAdd])
                          | (apply Der.skip; (rfl); simp only [Act.put, List.setIfInBounds_toArray, List.set_cons_succ, List.set_cons_zero, Nat.reduceAdd]))
                        refine Der.nil (fun w10 hgw10 hctx => ?_)
                        clear hctx
                        have hb10 : Below _ _ w10 := hgw10
                        clear hgw10
                        go_wp2
                        go_ret
                        exact ⟨rfl, HW9.out.trans (((Below.refl _ _).drew.trans hb10).mono nw9)⟩
            · go_wp2
              go_ret
              exact ⟨rfl, HW9.out⟩
  · go_wp2
    go_ret
    exact ⟨rfl, hb0.trans (hb02.mono (by omega))⟩
end Go.Proofs.Ytlhkacjfonihjaa
