/- The contracts of Range, Minus, with, With, Without, Count, Place and math/bits.OnesCount64. -/
import Derived.Test.YtlfmffjlmhpcdaaMaskC
import Derived.Laws.Bits128
namespace Go.Proofs.Ytlfmffjlmhpcdaa
open Go.RowKit

/-- The words of OnesCount64's text, kept from simp. -/
def shrW (n : Nat) (a : BitVec 64) : BitVec 64 := a >>> n
def andW (c : Nat) (a : BitVec 64) : BitVec 64 := a &&& BitVec.ofNat 64 c
def addW (a b : BitVec 64) : BitVec 64 := a + b
theorem U_shr (n : Nat) (a : BitVec 64) : U a / ((2 ^ n : Nat) : Int) = U (shrW n a) := by
  unfold shrW U
  rw [BitVec.toNat_ushiftRight, Nat.shiftRight_eq_div_pow]
  exact (Int.natCast_ediv _ _).symm
theorem U_sh1 (a : BitVec 64) : U a / 2 = U (shrW 1 a) := U_shr 1 a
theorem U_sh2 (a : BitVec 64) : U a / 4 = U (shrW 2 a) := U_shr 2 a
theorem U_sh4 (a : BitVec 64) : U a / 16 = U (shrW 4 a) := U_shr 4 a
theorem U_sh8 (a : BitVec 64) : U a / 256 = U (shrW 8 a) := U_shr 8 a
theorem U_sh16 (a : BitVec 64) : U a / 65536 = U (shrW 16 a) := U_shr 16 a
theorem U_sh32 (a : BitVec 64) : U a / 4294967296 = U (shrW 32 a) := U_shr 32 a
theorem U_andc (c : Nat) (hc : c < 18446744073709551616) (a : BitVec 64) : bits .and .u64 (U a) (c : Int) = U (andW c a) := by
  have e : (c : Int) = U (BitVec.ofNat 64 c) := by unfold U; rw [BitVec.toNat_ofNat, Nat.mod_eq_of_lt hc]
  rw [e, bits_and_U]; rfl
theorem U_and5 (a : BitVec 64) : bits .and .u64 (U a) 6148914691236517205 = U (andW 6148914691236517205 a) := U_andc 6148914691236517205 (by omega) a
theorem U_and3 (a : BitVec 64) : bits .and .u64 (U a) 3689348814741910323 = U (andW 3689348814741910323 a) := U_andc 3689348814741910323 (by omega) a
theorem U_andf (a : BitVec 64) : bits .and .u64 (U a) 1085102592571150095 = U (andW 1085102592571150095 a) := U_andc 1085102592571150095 (by omega) a
theorem U_add (a b : BitVec 64) : IntKind.u64.wrap (U a + U b) = U (addW a b) := by
  unfold addW U; rw [IntKind.wrap_u64, BitVec.toNat_add]; omega
def pc1 (x : BitVec 64) : BitVec 64 := addW (andW 6148914691236517205 (shrW 1 x)) (andW 6148914691236517205 x)
def pc2 (x : BitVec 64) : BitVec 64 := addW (andW 3689348814741910323 (shrW 2 x)) (andW 3689348814741910323 x)
def pc3 (x : BitVec 64) : BitVec 64 := andW 1085102592571150095 (addW (shrW 4 x) x)
def pc4 (x : BitVec 64) : BitVec 64 := addW x (shrW 8 x)
def pc5 (x : BitVec 64) : BitVec 64 := addW x (shrW 16 x)
def pc6 (x : BitVec 64) : BitVec 64 := addW x (shrW 32 x)
def pcE (x : BitVec 64) : Int := bits .and .i64 (wrap64 (U (pc6 (pc5 (pc4 (pc3 (pc2 (pc1 x)))))))) 127
section
attribute [local go_sem] U_sh1 U_sh2 U_sh4 U_sh8 U_sh16 U_sh32 U_and5 U_and3 U_andf U_add
theorem f_OnesCount64 (x : BitVec 64) (w : World) : Calls Try.prog 60 #[.int .u64 (U x)] w fun e w' => e = .returned (.int .i64 (pcE x)) ∧ w' = w := by
  go_enter Try.func60, Try.ntmps60
  go_wp2
  go_ret
  exact ⟨rfl, rfl⟩
end

theorem f_Minus (a b c d : BitVec 64) (w : World) : Calls Try.prog 71 #[MV a b, MV c d] w fun e w' => e = .returned (MV ((a &&& ~~~c) &&& ones) ((b &&& ~~~d) &&& low32)) ∧ Below w.heap.size w w' := by
  go_enter Try.func71, Try.ntmps71
  go_wp2_with fail
  refine (f_minus _ _ _ _ _).mono ?_
  rintro e w1 ⟨rfl, hb1⟩
  have z1w0 : w.heap.size < w1.heap.size := (by have := hb1.size; (try simp at this); omega)
  have q1w0 := fun o => hb1.cell (p := ⟨w.heap.size, o, none⟩) (by first | omega | (simp; done) | (simp; omega))
  have r1w0 := fun o => hb1.frozen (p := ⟨w.heap.size, o, none⟩) (by first | omega | (simp; done) | (simp; omega))
  have z1w1 : w.heap.size + 1 < w1.heap.size := (by have := hb1.size; (try simp at this); omega)
  have q1w1 := fun o => hb1.cell (p := ⟨w.heap.size + 1, o, none⟩) (by first | omega | (simp; done) | (simp; omega))
  have r1w1 := fun o => hb1.frozen (p := ⟨w.heap.size + 1, o, none⟩) (by first | omega | (simp; done) | (simp; omega))
  have z1w2 : w.heap.size + 1 + 1 < w1.heap.size := (by have := hb1.size; (try simp at this); omega)
  have q1w2 := fun o => hb1.cell (p := ⟨w.heap.size + 1 + 1, o, none⟩) (by first | omega | (simp; done) | (simp; omega))
  have r1w2 := fun o => hb1.frozen (p := ⟨w.heap.size + 1 + 1, o, none⟩) (by first | omega | (simp; done) | (simp; omega))
  go_wp2_with fail
  refine (f_all _).mono ?_
  rintro e w2 ⟨rfl, hb2⟩
  have z2w0 : w.heap.size < w2.heap.size := (by have := hb2.size; (try simp at this); omega)
  have q2w0 := fun o => hb2.cell (p := ⟨w.heap.size, o, none⟩) (by first | omega | (simp; done) | (simp; omega))
  have r2w0 := fun o => hb2.frozen (p := ⟨w.heap.size, o, none⟩) (by first | omega | (simp; done) | (simp; omega))
  have z2w1 : w.heap.size + 1 < w2.heap.size := (by have := hb2.size; (try simp at this); omega)
  have q2w1 := fun o => hb2.cell (p := ⟨w.heap.size + 1, o, none⟩) (by first | omega | (simp; done) | (simp; omega))
  have r2w1 := fun o => hb2.frozen (p := ⟨w.heap.size + 1, o, none⟩) (by first | omega | (simp; done) | (simp; omega))
  have z2w2 : w.heap.size + 1 + 1 < w2.heap.size := (by have := hb2.size; (try simp at this); omega)
  have q2w2 := fun o => hb2.cell (p := ⟨w.heap.size + 1 + 1, o, none⟩) (by first | omega | (simp; done) | (simp; omega))
  have r2w2 := fun o => hb2.frozen (p := ⟨w.heap.size + 1 + 1, o, none⟩) (by first | omega | (simp; done) | (simp; omega))
  go_wp2_with fail
  refine (f_and _ _ _ _ _).mono ?_
  rintro e w3 ⟨rfl, hb3⟩
  have z3w0 : w.heap.size < w3.heap.size := (by have := hb3.size; (try simp at this); omega)
  have q3w0 := fun o => hb3.cell (p := ⟨w.heap.size, o, none⟩) (by first | omega | (simp; done) | (simp; omega))
  have r3w0 := fun o => hb3.frozen (p := ⟨w.heap.size, o, none⟩) (by first | omega | (simp; done) | (simp; omega))
  have z3w1 : w.heap.size + 1 < w3.heap.size := (by have := hb3.size; (try simp at this); omega)
  have q3w1 := fun o => hb3.cell (p := ⟨w.heap.size + 1, o, none⟩) (by first | omega | (simp; done) | (simp; omega))
  have r3w1 := fun o => hb3.frozen (p := ⟨w.heap.size + 1, o, none⟩) (by first | omega | (simp; done) | (simp; omega))
  have z3w2 : w.heap.size + 1 + 1 < w3.heap.size := (by have := hb3.size; (try simp at this); omega)
  have q3w2 := fun o => hb3.cell (p := ⟨w.heap.size + 1 + 1, o, none⟩) (by first | omega | (simp; done) | (simp; omega))
  have r3w2 := fun o => hb3.frozen (p := ⟨w.heap.size + 1 + 1, o, none⟩) (by first | omega | (simp; done) | (simp; omega))
  go_wp2
  refine bodyPost_ret (v := MV ((a &&& ~~~c) &&& ones) ((b &&& ~~~d) &&& low32)) (by simp only [results, Try.results71]; go_simp) rfl ⟨rfl, ?_⟩
  ((have shb3 := hb3.size); (try simp at shb3); (have shb2 := hb2.size); (try simp at shb2); (have shb1 := hb1.size); (try simp at shb1); (repeat' (first | (with_reducible exact Below.refl _ _) | (with_reducible refine Below.setCell ?_ ?_ _) | (with_reducible refine Below.alloc ?_ ?_ _) | (with_reducible refine Below.drew ?_) | (with_reducible refine Below.trans ?_ (Below.mono hb3 ?_)) | (with_reducible refine Below.trans ?_ (Below.mono hb2 ?_)) | (with_reducible refine Below.trans ?_ (Below.mono hb1 ?_)) | go_size)))

@[go_sem] theorem run_index_mask0 (x y : Value) (w : World) : (Instr.index 49 (.agg #[x, y]) (.int .i64 0)).run Try.prog w = .ok x w := by kernel_rfl
@[go_sem] theorem run_index_mask1 (x y : Value) (w : World) : (Instr.index 49 (.agg #[x, y]) (.int .i64 1)).run Try.prog w = .ok y w := by kernel_rfl
theorem pcE_eq (x : BitVec 64) : pcE x = U (pc6 (pc5 (pc4 (pc3 (pc2 (pc1 x)))))) % 128 := by
  unfold pcE; rw [i64_and127]; generalize U _ = y; unfold wrap64; omega
theorem pcE_bd (x : BitVec 64) : 0 ≤ pcE x ∧ pcE x ≤ 127 := by
  rw [pcE_eq]; generalize U _ = y; omega
def cntF (a b : BitVec 64) : Int := pcE (a &&& ones) + pcE (b &&& low32)
theorem cntF_bd (a b : BitVec 64) : 0 ≤ cntF a b ∧ cntF a b ≤ 254 := by
  have := pcE_bd (a &&& ones); have := pcE_bd (b &&& low32); unfold cntF; omega
theorem f_Count (a b : BitVec 64) (w : World) : Calls Try.prog 26 #[MV a b] w fun e w' => e = .returned (.int .i64 (cntF a b)) ∧ Below w.heap.size w w' := by
  have b1 := pcE_bd (a &&& ones)
  have b2 := pcE_bd (b &&& low32)
  go_enter Try.func26, Try.ntmps26
  go_wp2
  refine wp_grow [(1, .val (MV ones low32)), (2, .val (MV (a &&& ones) (b &&& low32)))] 4 (by kernel_rfl) (by kernel_rfl) (by rfl) (by rfl) ?_
  simp only [List.take_succ_cons, List.take_zero, List.drop_succ_cons, List.drop_zero]
  repeat (first
    | (apply Der.quiet; (rfl); (rfl); (intro w' hw' hctx; have hc' := bcell hw'; clear hctx; go_simp; first | exact rfl | exact ⟨rfl, rfl⟩); simp only [Act.put, List.setIfInBounds_toArray, List.set_cons_succ, List.set_cons_zero, Nat.reduceAdd])
    | (apply Der.skip; (rfl); simp only [Act.put, List.setIfInBounds_toArray, List.set_cons_succ, List.set_cons_zero, Nat.reduceAdd]))
  apply Der.val
  · rfl
  · rfl
  · (intro w' hw' hctx; go_simp; refine (f_all _).mono ?_; rintro e w2 ⟨rfl, hb⟩; exact ⟨_, rfl, rfl, hb⟩)
  simp only [Act.put, List.setIfInBounds_toArray, List.set_cons_succ, List.set_cons_zero, Nat.reduceAdd]
  apply Der.val
  · rfl
  · rfl
  · (intro w' hw' hctx; go_simp; refine (f_and _ _ _ _ _).mono ?_; rintro e w2 ⟨rfl, hb⟩; exact ⟨_, rfl, rfl, hb⟩)
  simp only [Act.put, List.setIfInBounds_toArray, List.set_cons_succ, List.set_cons_zero, Nat.reduceAdd]
  repeat (first
    | (apply Der.quiet; (rfl); (rfl); (intro w' hw' hctx; have hc' := bcell hw'; clear hctx; go_simp; first | exact rfl | exact ⟨rfl, rfl⟩); simp only [Act.put, List.setIfInBounds_toArray, List.set_cons_succ, List.set_cons_zero, Nat.reduceAdd])
    | (apply Der.skip; (rfl); simp only [Act.put, List.setIfInBounds_toArray, List.set_cons_succ, List.set_cons_zero, Nat.reduceAdd]))
  refine Der.nil (fun w2 hgw2 hctx => ?_)
  clear hctx
  have hb2 : Below _ _ w2 := hgw2
  clear hgw2
  have z2w0 : w.heap.size < w2.heap.size := (by have := hb2.size; (try simp at this); omega)
  have q2w0 := fun o => hb2.cell (p := ⟨w.heap.size, o, none⟩) (by first | omega | (simp; done) | (simp; omega))
  have r2w0 := fun o => hb2.frozen (p := ⟨w.heap.size, o, none⟩) (by first | omega | (simp; done) | (simp; omega))
  go_wp2
  refine wp_loop_rounds 3 ?_
  rw [rounds_succ]
  go_wp2_with (go_at_call 60; refine (f_OnesCount64 _ _).mono ?_; rintro e wx ⟨rfl, rfl⟩)
  rw [rounds_succ]
  go_wp2_with (go_at_call 60; refine (f_OnesCount64 _ _).mono ?_; rintro e wx ⟨rfl, rfl⟩)
  rw [rounds_succ]
  go_wp2
  go_ret
  refine ⟨rfl, ?_⟩
  ((have shb2 := hb2.size); (try simp at shb2); (repeat' (first | (with_reducible exact Below.refl _ _) | (with_reducible refine Below.setCell ?_ ?_ _) | (with_reducible refine Below.alloc ?_ ?_ _) | (with_reducible refine Below.drew ?_) | (with_reducible refine Below.trans ?_ (Below.mono hb2 ?_)) | go_size)))
theorem f_with_bad (k : Nat) (a b : BitVec 64) (n : Int) (h : chk b = 200) (w : World) : Calls Try.prog 114 #[MV a b, .int .i64 n, .func (.func k) #[] #[]] w fun e w' =>
    e = .returned (.tuple #[.agg #[.int .u64 0, .int .u64 0], .int .i64 200]) ∧ Below w.heap.size w w' := by
  have H := Lib.hid h
  clear h
  go_enter Try.func114, Try.ntmps114
  go_wp2_with fail
  refine (f_Check _ _ _).mono ?_
  rintro e w1 ⟨rfl, hb1⟩
  rw [H.out]
  have z1w0 : w.heap.size < w1.heap.size := (by have := hb1.size; (try simp at this); omega)
  have q1w0 := fun o => hb1.cell (p := ⟨w.heap.size, o, none⟩) (by first | omega | (simp; done) | (simp; omega))
  have r1w0 := fun o => hb1.frozen (p := ⟨w.heap.size, o, none⟩) (by first | omega | (simp; done) | (simp; omega))
  have z1w1 : w.heap.size + 1 < w1.heap.size := (by have := hb1.size; (try simp at this); omega)
  have q1w1 := fun o => hb1.cell (p := ⟨w.heap.size + 1, o, none⟩) (by first | omega | (simp; done) | (simp; omega))
  have r1w1 := fun o => hb1.frozen (p := ⟨w.heap.size + 1, o, none⟩) (by first | omega | (simp; done) | (simp; omega))
  go_wp2
  refine bodyPost_ret (v := .tuple #[.agg #[.int .u64 0, .int .u64 0], .int .i64 200]) (by simp only [results, Try.results114]; go_simp) rfl ⟨rfl, ?_⟩
  ((have shb1 := hb1.size); (try simp at shb1); (repeat' (first | (with_reducible exact Below.refl _ _) | (with_reducible refine Below.setCell ?_ ?_ _) | (with_reducible refine Below.alloc ?_ ?_ _) | (with_reducible refine Below.drew ?_) | (with_reducible refine Below.trans ?_ (Below.mono hb1 ?_)) | go_size)))
theorem f_with_arg (k : Nat) (a b : BitVec 64) (n : Int) (h : chk b = 0) (hs : ¬ isSlot n) (w : World) : Calls Try.prog 114 #[MV a b, .int .i64 n, .func (.func k) #[] #[]] w fun e w' =>
    e = .returned (.tuple #[.agg #[.int .u64 0, .int .u64 0], .int .i64 2]) ∧ Below w.heap.size w w' := by
  have H := Lib.hid h
  clear h
  have hd : (decide (0 ≤ n ∧ n < 96)) = false := decide_eq_false hs
  clear hs
  go_enter Try.func114, Try.ntmps114
  go_wp2_with fail
  refine (f_Check _ _ _).mono ?_
  rintro e w1 ⟨rfl, hb1⟩
  rw [H.out]
  have z1w0 : w.heap.size < w1.heap.size := (by have := hb1.size; (try simp at this); omega)
  have q1w0 := fun o => hb1.cell (p := ⟨w.heap.size, o, none⟩) (by first | omega | (simp; done) | (simp; omega))
  have r1w0 := fun o => hb1.frozen (p := ⟨w.heap.size, o, none⟩) (by first | omega | (simp; done) | (simp; omega))
  have z1w1 : w.heap.size + 1 < w1.heap.size := (by have := hb1.size; (try simp at this); omega)
  have q1w1 := fun o => hb1.cell (p := ⟨w.heap.size + 1, o, none⟩) (by first | omega | (simp; done) | (simp; omega))
  have r1w1 := fun o => hb1.frozen (p := ⟨w.heap.size + 1, o, none⟩) (by first | omega | (simp; done) | (simp; omega))
  go_wp2_with (go_at_call 62; refine (f_slot _ _).mono ?_; rintro e wx ⟨rfl, rfl⟩; rw [hd])
  refine bodyPost_ret (v := .tuple #[.agg #[.int .u64 0, .int .u64 0], .int .i64 2]) (by simp only [results, Try.results114]; go_simp) rfl ⟨rfl, ?_⟩
  ((have shb1 := hb1.size); (try simp at shb1); (repeat' (first | (with_reducible exact Below.refl _ _) | (with_reducible refine Below.setCell ?_ ?_ _) | (with_reducible refine Below.alloc ?_ ?_ _) | (with_reducible refine Below.drew ?_) | (with_reducible refine Below.trans ?_ (Below.mono hb1 ?_)) | go_size)))
theorem f_with_ok (k : Nat) (eg : ∀ args w, (callFunc k args).run Try.prog w = .ok (.enter k args) w) (op : BitVec 64 → BitVec 64 → BitVec 64)
    (hc : ∀ a b c d w, Calls Try.prog k #[MV a b, MV c d] w fun e w' => e = .returned (MV (op a c) (op b d)) ∧ Below w.heap.size w w')
    (a b : BitVec 64) (n : Int) (h : chk b = 0) (hs : isSlot n) (w : World) : Calls Try.prog 114 #[MV a b, .int .i64 n, .func (.func k) #[] #[]] w fun e w' =>
    e = .returned (.tuple #[MV (op a (bit0 n)) (op b (bit1 n)), .int .i64 0]) ∧ Below w.heap.size w w' := by
  have H := Lib.hid h
  clear h
  have Hc := Lib.hid hc
  clear hc
  obtain ⟨s0, s1⟩ := hs
  have hd : (decide (0 ≤ n ∧ n < 96)) = true := decide_eq_true ⟨s0, s1⟩
  go_enter Try.func114, Try.ntmps114
  go_wp2_with fail
  refine (f_Check _ _ _).mono ?_
  rintro e w1 ⟨rfl, hb1⟩
  rw [H.out]
  have z1w0 : w.heap.size < w1.heap.size := (by have := hb1.size; (try simp at this); omega)
  have q1w0 := fun o => hb1.cell (p := ⟨w.heap.size, o, none⟩) (by first | omega | (simp; done) | (simp; omega))
  have r1w0 := fun o => hb1.frozen (p := ⟨w.heap.size, o, none⟩) (by first | omega | (simp; done) | (simp; omega))
  have z1w1 : w.heap.size + 1 < w1.heap.size := (by have := hb1.size; (try simp at this); omega)
  have q1w1 := fun o => hb1.cell (p := ⟨w.heap.size + 1, o, none⟩) (by first | omega | (simp; done) | (simp; omega))
  have r1w1 := fun o => hb1.frozen (p := ⟨w.heap.size + 1, o, none⟩) (by first | omega | (simp; done) | (simp; omega))
  go_wp2_with (go_at_call 62; refine (f_slot _ _).mono ?_; rintro e wx ⟨rfl, rfl⟩; rw [hd])
  refine wp_grow [(3, .val (MV (bit0 n) (bit1 n))), (4, .val (MV (op a (bit0 n)) (op b (bit1 n))))] 5 (by kernel_rfl) (by kernel_rfl) (by rfl) (by rfl) ?_
  simp only [List.take_succ_cons, List.take_zero, List.drop_succ_cons, List.drop_zero]
  repeat (first
    | (apply Der.quiet; (rfl); (rfl); (intro w' hw' hctx; have hc' := bcell hw'; have qs := fun o => hw'.cell (p := ⟨w.heap.size, o, none⟩) (by simp; omega); clear hctx; go_simp; first | exact rfl | exact ⟨rfl, rfl⟩); simp only [Act.put, List.setIfInBounds_toArray, List.set_cons_succ, List.set_cons_zero, Nat.reduceAdd])
    | (apply Der.skip; (rfl); simp only [Act.put, List.setIfInBounds_toArray, List.set_cons_succ, List.set_cons_zero, Nat.reduceAdd]))
  apply Der.val
  · rfl
  · rfl
  · (intro w' hw' hctx; go_simp; refine (f_bit n s0 s1 _).mono ?_; rintro e w2 ⟨rfl, hb⟩; exact ⟨_, rfl, rfl, hb⟩)
  simp only [Act.put, List.setIfInBounds_toArray, List.set_cons_succ, List.set_cons_zero, Nat.reduceAdd]
  apply Der.val
  · rfl
  · rfl
  · (intro w' hw' hctx; go_simp; refine (Hc.out _ _ _ _ _).mono ?_; rintro e w2 ⟨rfl, hb⟩; exact ⟨_, rfl, rfl, hb⟩)
  simp only [Act.put, List.setIfInBounds_toArray, List.set_cons_succ, List.set_cons_zero, Nat.reduceAdd]
  refine Der.nil (fun w2 hgw2 hctx => ?_)
  clear hctx
  have hb2 : Below _ _ w2 := hgw2
  clear hgw2
  have z2w0 : w.heap.size < w2.heap.size := (by have := hb2.size; (try simp at this); omega)
  have q2w0 := fun o => hb2.cell (p := ⟨w.heap.size, o, none⟩) (by first | omega | (simp; done) | (simp; omega))
  have r2w0 := fun o => hb2.frozen (p := ⟨w.heap.size, o, none⟩) (by first | omega | (simp; done) | (simp; omega))
  have z2w1 : w.heap.size + 1 < w2.heap.size := (by have := hb2.size; (try simp at this); omega)
  have q2w1 := fun o => hb2.cell (p := ⟨w.heap.size + 1, o, none⟩) (by first | omega | (simp; done) | (simp; omega))
  have r2w1 := fun o => hb2.frozen (p := ⟨w.heap.size + 1, o, none⟩) (by first | omega | (simp; done) | (simp; omega))
  go_wp2
  refine bodyPost_ret (v := .tuple #[MV (op a (bit0 n)) (op b (bit1 n)), .int .i64 0]) (by simp only [results, Try.results114]; go_simp) rfl ⟨rfl, ?_⟩
  ((have shb2 := hb2.size); (try simp at shb2); (have shb1 := hb1.size); (try simp at shb1); (repeat' (first | (with_reducible exact Below.refl _ _) | (with_reducible refine Below.setCell ?_ ?_ _) | (with_reducible refine Below.alloc ?_ ?_ _) | (with_reducible refine Below.drew ?_) | (with_reducible refine Below.trans ?_ (Below.mono hb2 ?_)) | (with_reducible refine Below.trans ?_ (Below.mono hb1 ?_)) | go_size)))
end Go.Proofs.Ytlfmffjlmhpcdaa
