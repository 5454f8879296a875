/- OnesCount64's formula counts the bits. -/
import Derived.Test.YtlfmffjlmhpcdaaMaskD
namespace Go.Proofs.Ytlfmffjlmhpcdaa
open Go.RowKit
set_option maxRecDepth 100000

/-- How many of the first k bits of a number are 1. -/
def bitsum : Nat → Nat → Nat
  | 0, _ => 0
  | k + 1, n => n % 2 + bitsum k (n / 2)
def popc (x : BitVec 64) : Nat := (List.range 64).countP fun i => x.getLsbD i

theorem bitsum_count : ∀ (k n : Nat), bitsum k n = (List.range k).countP fun i => n.testBit i
  | 0, _ => rfl
  | k + 1, n => by
    rw [bitsum, bitsum_count k (n / 2), List.range_succ_eq_map, List.countP_cons, List.countP_map]
    have e : ((fun i => n.testBit i) ∘ Nat.succ) = fun i => (n / 2).testBit i := by
      funext i; simp [Nat.testBit_succ]
    rw [e]
    have : n.testBit 0 = decide (n % 2 = 1) := Nat.testBit_zero n
    rw [this]
    rcases Nat.mod_two_eq_zero_or_one n with h | h <;> simp [h] <;> omega
theorem bitsum_add : ∀ (j k n : Nat), bitsum (j + k) n = bitsum j (n % 2 ^ j) + bitsum k (n / 2 ^ j)
  | 0, k, n => by simp [bitsum]
  | j + 1, k, n => by
    rw [show j + 1 + k = (j + k) + 1 by omega, bitsum, bitsum_add j k (n / 2), bitsum]
    have h1 : n % 2 ^ (j + 1) % 2 = n % 2 := Nat.mod_mod_of_dvd n ⟨2 ^ j, by rw [Nat.pow_succ, Nat.mul_comm]⟩
    have h2 : n % 2 ^ (j + 1) / 2 = n / 2 % 2 ^ j := by
      rw [Nat.pow_succ, Nat.mul_comm, Nat.mod_mul_right_div_self]
    have h3 : n / 2 / 2 ^ j = n / 2 ^ (j + 1) := by rw [Nat.div_div_eq_div_mul, Nat.pow_succ, Nat.mul_comm]
    rw [h1, h2, h3]; omega

def rep (c : Nat) : Nat → Nat
  | 0 => 0
  | k + 1 => c + 256 * rep c k
def s1 (m n : Nat) : Nat := (n / 2 &&& m) + (n &&& m)
def s2 (m n : Nat) : Nat := (n / 4 &&& m) + (n &&& m)
def s3 (m n : Nat) : Nat := (n / 16 + n) &&& m
def h8 (c : Nat) : Nat := s2 0x33 (s1 0x55 c)
theorem s1_8 : ∀ c : Fin 256, s1 0x55 c.val < 256 ∧ ((c.val / 2 + 128) &&& 0x55) = (c.val / 2 &&& 0x55) := by decide +kernel
theorem s2_8 : ∀ c : Fin 256, s2 0x33 c.val < 256 ∧ ((c.val / 4 + 64) &&& 0x33) = (c.val / 4 &&& 0x33) ∧ ((c.val / 4 + 128) &&& 0x33) = (c.val / 4 &&& 0x33) ∧ ((c.val / 4 + 192) &&& 0x33) = (c.val / 4 &&& 0x33) := by decide +kernel
theorem h8_le : ∀ c : Fin 256, h8 c.val % 16 ≤ 4 ∧ h8 c.val / 16 ≤ 4 ∧ s3 0x0f (h8 c.val) = bitsum 8 c.val ∧ bitsum 8 c.val ≤ 8 := by decide +kernel
theorem f16 : ∀ (c : Fin 69) (r : Fin 5), ((c.val / 16 + c.val + 16 * r.val) &&& 0x0f) = ((c.val / 16 + c.val) &&& 0x0f) := by decide +kernel

theorem and_split (a b c d : Nat) (ha : a < 256) (hc : c < 256) : ((a + 256 * b) &&& (c + 256 * d)) = (a &&& c) + 256 * (b &&& d) := by
  have h1 : ((a + 256 * b) &&& (c + 256 * d)) % 2 ^ 8 = (a &&& c) := by
    rw [Nat.and_mod_two_pow]; congr 1 <;> omega
  have h2 : ((a + 256 * b) &&& (c + 256 * d)) / 2 ^ 8 = (b &&& d) := by
    rw [Nat.and_div_two_pow]; congr 1 <;> omega
  have := Nat.div_add_mod ((a + 256 * b) &&& (c + 256 * d)) (2 ^ 8)
  rw [h1, h2] at this
  omega

theorem s1_step (c n M : Nat) (hc : c < 256) : s1 (0x55 + 256 * M) (c + 256 * n) = s1 0x55 c + 256 * s1 M n := by
  unfold s1
  have hd : (c + 256 * n) / 2 = (c / 2 + 128 * (n % 2)) + 256 * (n / 2) := by omega
  have h8 := (s1_8 ⟨c, hc⟩).2
  rw [hd, and_split _ _ _ _ (by omega) (by omega), and_split _ _ _ _ hc (by omega)]
  have : ((c / 2 + 128 * (n % 2)) &&& 0x55) = (c / 2 &&& 0x55) := by
    rcases Nat.mod_two_eq_zero_or_one n with h | h
    · rw [h]; simp
    · rw [h]; exact h8
  rw [this]; omega
theorem s2_step (c n M : Nat) (hc : c < 256) : s2 (0x33 + 256 * M) (c + 256 * n) = s2 0x33 c + 256 * s2 M n := by
  unfold s2
  have hd : (c + 256 * n) / 4 = (c / 4 + 64 * (n % 4)) + 256 * (n / 4) := by omega
  obtain ⟨_, h1, h2, h3⟩ := s2_8 ⟨c, hc⟩
  rw [hd, and_split _ _ _ _ (by omega) (by omega), and_split _ _ _ _ hc (by omega)]
  have : ((c / 4 + 64 * (n % 4)) &&& 0x33) = (c / 4 &&& 0x33) := by
    have hm : n % 4 = 0 ∨ n % 4 = 1 ∨ n % 4 = 2 ∨ n % 4 = 3 := by omega
    rcases hm with h | h | h | h
    · rw [h]; simp
    · rw [h]; exact h1
    · rw [h]; exact h2
    · rw [h]; exact h3
  rw [this]; omega
def H (k n : Nat) : Nat := s2 (rep 0x33 k) (s1 (rep 0x55 k) n)
theorem H_step (k c n : Nat) (hc : c < 256) : H (k + 1) (c + 256 * n) = h8 c + 256 * H k n := by
  unfold H h8
  rw [rep, rep, s1_step _ _ _ hc, s2_step _ _ _ (s1_8 ⟨c, hc⟩).1]
theorem H_low (k n : Nat) : H k n % 16 ≤ 4 := by
  cases k with
  | zero => simp [H, rep, s1, s2]
  | succ k =>
    have e : n = n % 256 + 256 * (n / 256) := by omega
    rw [e, H_step _ _ _ (by omega)]
    have := (h8_le ⟨n % 256, by omega⟩).1
    simp only at this
    omega
def G (k n : Nat) : Nat := s3 (rep 0x0f k) (H k n)
theorem G_step (k c n : Nat) (hc : c < 256) : G (k + 1) (c + 256 * n) = bitsum 8 c + 256 * G k n := by
  unfold G s3
  rw [H_step _ _ _ hc, rep]
  obtain ⟨h1, h2, h3, _⟩ := h8_le ⟨c, hc⟩
  simp only at h1 h2 h3
  have hl := H_low k n
  generalize H k n = y at *
  generalize hx : h8 c = x at *
  have hx68 : x < 69 := by omega
  have hd : (x + 256 * y) / 16 + (x + 256 * y) = (x / 16 + x + 16 * (y % 16)) + 256 * (y / 16 + y) := by omega
  rw [hd, and_split _ _ _ _ (by omega) (by omega)]
  have := f16 ⟨x, hx68⟩ ⟨y % 16, by omega⟩
  simp only at this
  rw [this]
  unfold s3 at h3
  rw [h3]
theorem G_zero (n : Nat) : G 0 n = 0 := by simp [G, s3, rep]

/-- The eight bytes of a number, and their counts. -/
theorem G_eight (n : Nat) : ∃ q0 q1 q2 q3 q4 q5 q6 q7 : Nat, (q0 ≤ 8 ∧ q1 ≤ 8 ∧ q2 ≤ 8 ∧ q3 ≤ 8 ∧ q4 ≤ 8 ∧ q5 ≤ 8 ∧ q6 ≤ 8 ∧ q7 ≤ 8) ∧ bitsum 64 n = q0 + q1 + q2 + q3 + q4 + q5 + q6 + q7 ∧
    G 8 n = q0 + 256 * (q1 + 256 * (q2 + 256 * (q3 + 256 * (q4 + 256 * (q5 + 256 * (q6 + 256 * q7)))))) := by
  have step : ∀ k n, G (k + 1) n = bitsum 8 (n % 256) + 256 * G k (n / 256) := fun k n => by
    have e : n = n % 256 + 256 * (n / 256) := by omega
    conv => lhs; rw [e]
    exact G_step k _ _ (by omega)
  have bs : ∀ k n, bitsum (8 + k) n = bitsum 8 (n % 256) + bitsum k (n / 256) := fun k n => bitsum_add 8 k n
  have le : ∀ n, bitsum 8 (n % 256) ≤ 8 := fun n => (h8_le ⟨n % 256, by omega⟩).2.2.2
  refine ⟨bitsum 8 (n % 256), bitsum 8 (n / 256 % 256), bitsum 8 (n / 256 / 256 % 256), bitsum 8 (n / 256 / 256 / 256 % 256), bitsum 8 (n / 256 / 256 / 256 / 256 % 256), bitsum 8 (n / 256 / 256 / 256 / 256 / 256 % 256), bitsum 8 (n / 256 / 256 / 256 / 256 / 256 / 256 % 256), bitsum 8 (n / 256 / 256 / 256 / 256 / 256 / 256 / 256 % 256), ⟨le _, le _, le _, le _, le _, le _, le _, le _⟩, ?_, ?_⟩
  · have t0 : bitsum 64 (n) = _ := bs 56 (n)
    have t1 : bitsum 56 (n / 256) = _ := bs 48 (n / 256)
    have t2 : bitsum 48 (n / 256 / 256) = _ := bs 40 (n / 256 / 256)
    have t3 : bitsum 40 (n / 256 / 256 / 256) = _ := bs 32 (n / 256 / 256 / 256)
    have t4 : bitsum 32 (n / 256 / 256 / 256 / 256) = _ := bs 24 (n / 256 / 256 / 256 / 256)
    have t5 : bitsum 24 (n / 256 / 256 / 256 / 256 / 256) = _ := bs 16 (n / 256 / 256 / 256 / 256 / 256)
    have t6 : bitsum 16 (n / 256 / 256 / 256 / 256 / 256 / 256) = _ := bs 8 (n / 256 / 256 / 256 / 256 / 256 / 256)
    have t7 : bitsum 8 (n / 256 / 256 / 256 / 256 / 256 / 256 / 256) = _ := bs 0 (n / 256 / 256 / 256 / 256 / 256 / 256 / 256)
    have t8 : bitsum 0 (n / 256 / 256 / 256 / 256 / 256 / 256 / 256 / 256) = 0 := rfl
    omega
  · have t0 : G 8 (n) = _ := step 7 (n)
    have t1 : G 7 (n / 256) = _ := step 6 (n / 256)
    have t2 : G 6 (n / 256 / 256) = _ := step 5 (n / 256 / 256)
    have t3 : G 5 (n / 256 / 256 / 256) = _ := step 4 (n / 256 / 256 / 256)
    have t4 : G 4 (n / 256 / 256 / 256 / 256) = _ := step 3 (n / 256 / 256 / 256 / 256)
    have t5 : G 3 (n / 256 / 256 / 256 / 256 / 256) = _ := step 2 (n / 256 / 256 / 256 / 256 / 256)
    have t6 : G 2 (n / 256 / 256 / 256 / 256 / 256 / 256) = _ := step 1 (n / 256 / 256 / 256 / 256 / 256 / 256)
    have t7 : G 1 (n / 256 / 256 / 256 / 256 / 256 / 256 / 256) = _ := step 0 (n / 256 / 256 / 256 / 256 / 256 / 256 / 256)
    have t8 := G_zero (n / 256 / 256 / 256 / 256 / 256 / 256 / 256 / 256)
    omega

theorem addW_toNat (a b : BitVec 64) : (addW a b).toNat = (a.toNat + b.toNat) % 18446744073709551616 := by unfold addW; rw [BitVec.toNat_add]
theorem shrW_toNat (k : Nat) (a : BitVec 64) : (shrW k a).toNat = a.toNat / 2 ^ k := by unfold shrW; rw [BitVec.toNat_ushiftRight, Nat.shiftRight_eq_div_pow]
theorem andW_toNat (c : Nat) (hc : c < 18446744073709551616) (a : BitVec 64) : (andW c a).toNat = a.toNat &&& c := by
  unfold andW; rw [BitVec.toNat_and, BitVec.toNat_ofNat, Nat.mod_eq_of_lt hc]
theorem rep5 : rep 0x55 8 = 6148914691236517205 := by decide
theorem rep3 : rep 0x33 8 = 3689348814741910323 := by decide
theorem repf : rep 0x0f 8 = 1085102592571150095 := by decide
theorem pc1_toNat (x : BitVec 64) : (pc1 x).toNat = s1 (rep 0x55 8) x.toNat := by
  unfold pc1 s1
  rw [addW_toNat, andW_toNat _ (by omega), andW_toNat _ (by omega), shrW_toNat, rep5, Nat.pow_one]
  have h1 := Nat.and_le_right (n := x.toNat / 2) (m := 6148914691236517205)
  have h2 := Nat.and_le_right (n := x.toNat) (m := 6148914691236517205)
  exact Nat.mod_eq_of_lt (by omega)
theorem pc2_toNat (x : BitVec 64) : (pc2 x).toNat = s2 (rep 0x33 8) x.toNat := by
  unfold pc2 s2
  rw [addW_toNat, andW_toNat _ (by omega), andW_toNat _ (by omega), shrW_toNat, rep3, show (2 : Nat) ^ 2 = 4 from rfl]
  have h1 := Nat.and_le_right (n := x.toNat / 4) (m := 3689348814741910323)
  have h2 := Nat.and_le_right (n := x.toNat) (m := 3689348814741910323)
  exact Nat.mod_eq_of_lt (by omega)
theorem pc3_toNat (x : BitVec 64) : (pc3 x).toNat = s3 (rep 0x0f 8) x.toNat := by
  unfold pc3 s3
  rw [andW_toNat _ (by omega), addW_toNat, shrW_toNat, repf]
  have h2 := Nat.and_le_right (n := x.toNat / 16 + x.toNat) (m := 1085102592571150095)
  have h3 : (x.toNat / 16 + x.toNat) % 2 ^ 64 &&& 1085102592571150095 % 2 ^ 64 = ((x.toNat / 16 + x.toNat) &&& 1085102592571150095) % 2 ^ 64 := (Nat.and_mod_two_pow).symm
  rw [show (1085102592571150095 : Nat) % 2 ^ 64 = 1085102592571150095 from rfl] at h3
  rw [show (18446744073709551616 : Nat) = 2 ^ 64 from rfl, show (2 : Nat) ^ 4 = 16 from rfl, h3]
  exact Nat.mod_eq_of_lt (by omega)
theorem pc123 (x : BitVec 64) : (pc3 (pc2 (pc1 x))).toNat = G 8 x.toNat := by
  rw [pc3_toNat, pc2_toNat, pc1_toNat]; rfl
theorem div_hi (L K H : Nat) (h : L < K) : (L + K * H) / K = H := by
  rw [Nat.add_mul_div_left _ _ (by omega), Nat.div_eq_of_lt h, Nat.zero_add]
theorem mod_lo (a b R S c : Nat) (h : c < 128) (e : a + b = c) : (a + 256 * R + (b + 256 * S)) % 128 = c := by omega
set_option maxHeartbeats 2000000 in
theorem pcE_popc (x : BitVec 64) : pcE x = (popc x : Int) := by
  have hb : popc x = bitsum 64 x.toNat := by
    rw [bitsum_count]; rfl
  rw [pcE_eq, hb]
  unfold U
  obtain ⟨q0, q1, q2, q3, q4, q5, q6, q7, ⟨a0, a1, a2, a3, a4, a5, a6, a7⟩, hs, hg⟩ := G_eight x.toNat
  have e := pc123 x
  rw [hg] at e
  rw [hs]
  clear hg hs hb
  generalize pc3 (pc2 (pc1 x)) = z at *
  have z4 : (pc4 z).toNat = (q0 + q1) + 256 * ((q1 + q2) + 256 * ((q2 + q3) + 256 * ((q3 + q4) + 256 * ((q4 + q5) + 256 * ((q5 + q6) + 256 * ((q6 + q7) + 256 * q7)))))) := by
    unfold pc4; rw [addW_toNat, shrW_toNat, e, show (2 : Nat) ^ 8 = 256 from rfl, div_hi _ _ _ (by omega)]
    rw [Nat.mod_eq_of_lt (by omega)]; omega
  clear e
  have z5 : (pc5 (pc4 z)).toNat = (q0 + q1 + q2 + q3) + 256 * ((q1 + q2 + q3 + q4) + 256 * ((q2 + q3 + q4 + q5) + 256 * ((q3 + q4 + q5 + q6) + 256 * ((q4 + q5 + q6 + q7) + 256 * ((q5 + q6 + q7) + 256 * ((q6 + q7) + 256 * q7)))))) := by
    unfold pc5; rw [addW_toNat, shrW_toNat, z4, show (2 : Nat) ^ 16 = 65536 from rfl]
    have hh : ((q0 + q1) + 256 * ((q1 + q2) + 256 * ((q2 + q3) + 256 * ((q3 + q4) + 256 * ((q4 + q5) + 256 * ((q5 + q6) + 256 * ((q6 + q7) + 256 * q7))))))) / 65536 = (q2 + q3) + 256 * ((q3 + q4) + 256 * ((q4 + q5) + 256 * ((q5 + q6) + 256 * ((q6 + q7) + 256 * q7)))) := by
      rw [show ((q0 + q1) + 256 * ((q1 + q2) + 256 * ((q2 + q3) + 256 * ((q3 + q4) + 256 * ((q4 + q5) + 256 * ((q5 + q6) + 256 * ((q6 + q7) + 256 * q7))))))) = ((q0 + q1) + 256 * (q1 + q2)) + 65536 * ((q2 + q3) + 256 * ((q3 + q4) + 256 * ((q4 + q5) + 256 * ((q5 + q6) + 256 * ((q6 + q7) + 256 * q7))))) by omega, div_hi _ _ _ (by omega)]
    rw [hh]
    clear hh z4
    rw [Nat.mod_eq_of_lt (by omega)]; omega
  clear z4
  have z6 : (pc6 (pc5 (pc4 z))).toNat % 128 = q0 + q1 + q2 + q3 + q4 + q5 + q6 + q7 := by
    unfold pc6; rw [addW_toNat, shrW_toNat, z5, show (2 : Nat) ^ 32 = 4294967296 from rfl]
    have hh : ((q0 + q1 + q2 + q3) + 256 * ((q1 + q2 + q3 + q4) + 256 * ((q2 + q3 + q4 + q5) + 256 * ((q3 + q4 + q5 + q6) + 256 * ((q4 + q5 + q6 + q7) + 256 * ((q5 + q6 + q7) + 256 * ((q6 + q7) + 256 * q7))))))) / 4294967296 = (q4 + q5 + q6 + q7) + 256 * ((q5 + q6 + q7) + 256 * ((q6 + q7) + 256 * q7)) := by
      rw [show ((q0 + q1 + q2 + q3) + 256 * ((q1 + q2 + q3 + q4) + 256 * ((q2 + q3 + q4 + q5) + 256 * ((q3 + q4 + q5 + q6) + 256 * ((q4 + q5 + q6 + q7) + 256 * ((q5 + q6 + q7) + 256 * ((q6 + q7) + 256 * q7))))))) = ((q0 + q1 + q2 + q3) + 256 * ((q1 + q2 + q3 + q4) + 256 * ((q2 + q3 + q4 + q5) + 256 * (q3 + q4 + q5 + q6)))) + 4294967296 * ((q4 + q5 + q6 + q7) + 256 * ((q5 + q6 + q7) + 256 * ((q6 + q7) + 256 * q7))) by omega, div_hi _ _ _ (by omega)]
    rw [hh]
    clear hh z5
    rw [Nat.mod_eq_of_lt (b := 18446744073709551616) (by omega)]
    exact mod_lo _ _ _ _ _ (by omega) (by omega)
  omega
end Go.Proofs.Ytlfmffjlmhpcdaa
