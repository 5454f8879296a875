/- The contracts of Has; of the document's Next, Place, SameInts. -/
import Derived.Test.YtgcjfonbppchlaaDoorRowZ
import Derived.Test.YtgcjfonbppchlaaDoorMaskZ
namespace Go.Proofs.YtgcjfonbppchlaaDoor
open Go.RowKit
set_option maxRecDepth 100000
attribute [local irreducible] Der

theorem and_bitW (a : BitVec 64) (n : Int) : (a &&& bitW n == 0#64) = !a.getLsbD (n % 64).toNat := by
  have hk : (n % 64).toNat < 64 := by omega
  cases h : a.getLsbD (n % 64).toNat
  · have : a &&& bitW n = 0#64 := by
      apply BitVec.eq_of_getLsbD_eq
      intro i hi
      rw [BitVec.getLsbD_and, bitW_bit n i hi, BitVec.getLsbD_zero]
      by_cases e : (n % 64).toNat = i
      · subst e; rw [h]; rfl
      · simp [e]
    simp [this]
  · have : ¬ a &&& bitW n = 0#64 := by
      intro e
      have := congrArg (fun x => BitVec.getLsbD x (n % 64).toNat) e
      simp only [BitVec.getLsbD_and, bitW_bit n _ hk, h, BitVec.getLsbD_zero] at this
      simp at this
    simp [this]
theorem has_bits (a b : BitVec 64) (n : Int) : ((a &&& bit0 n == 0#64) && (b &&& bit1 n == 0#64)) = !hasM (a, b) n := by
  unfold bit0 bit1 hasM
  by_cases h : n < 64
  · simp only [if_pos h, and_bitW, BitVec.and_zero]; simp
  · simp only [if_neg h, and_bitW, BitVec.and_zero]; simp
theorem f_slot' (n : Int) (w : World) : Calls Tryd.prog 16 #[.int .i64 n] w fun e w' => e = .returned (.bool (decide (0 ≤ n ∧ n < 96))) ∧ Below w.heap.size w w' :=
  (f_slot n w).mono fun _ _ h => ⟨h.1, h.2 ▸ Below.refl _ _⟩
theorem f_Has_no (a b : BitVec 64) (n : Int) (h : ¬ isSlot n) (w : World) : Calls Tryd.prog 13 #[MV a b, .int .i64 n] w fun e w' => e = .returned (.bool false) ∧ Below w.heap.size w w' := by
  have hd : (decide (0 ≤ n ∧ n < 96)) = false := decide_eq_false h
  have HD := Lib.hid (congrArg Value.bool hd)
  clear hd h
  go_enter Tryd.func13, Tryd.ntmps13
  go_wp2
  refine wp_grow [(1, .val (.bool false))] 10 (by kernel_rfl) (by kernel_rfl) (by rfl) (by rfl) ?_
  simp only [List.take_succ_cons, List.take_zero, List.drop_succ_cons, List.drop_zero]
  repeat (first
    | (apply Der.quiet; (rfl); (rfl); (intro w' hw' hctx; have hc' := bcell hw'; have yw0 := fun o => hw'.cell (p := ⟨w.heap.size, o, none⟩) (by first | omega | (simp; done) | (simp; omega)); clear hctx; go_simp; first | exact rfl | exact ⟨rfl, rfl⟩); simp only [Act.put, List.setIfInBounds_toArray, List.set_cons_succ, List.set_cons_zero, Nat.reduceAdd])
    | (apply Der.skip; (rfl); simp only [Act.put, List.setIfInBounds_toArray, List.set_cons_succ, List.set_cons_zero, Nat.reduceAdd]))
  apply Der.val
  · rfl
  · rfl
  · (intro w' hw' hctx; go_simp; refine (f_slot' _ _).mono ?_; rintro e w2 ⟨rfl, hb⟩; exact ⟨_, rfl, HD.out, hb⟩)
  simp only [Act.put, List.setIfInBounds_toArray, List.set_cons_succ, List.set_cons_zero, Nat.reduceAdd]
  repeat (first
    | (apply Der.quiet; (rfl); (rfl); (intro w' hw' hctx; have hc' := bcell hw'; have yw0 := fun o => hw'.cell (p := ⟨w.heap.size, o, none⟩) (by first | omega | (simp; done) | (simp; omega)); clear hctx; go_simp; first | exact rfl | exact ⟨rfl, rfl⟩); simp only [Act.put, List.setIfInBounds_toArray, List.set_cons_succ, List.set_cons_zero, Nat.reduceAdd])
    | (apply Der.skip; (rfl); simp only [Act.put, List.setIfInBounds_toArray, List.set_cons_succ, List.set_cons_zero, Nat.reduceAdd]))
  refine Der.nil (fun w2 hgw2 hctx => ?_)
  clear hctx
  have hb2 : Below _ _ w2 := hgw2
  clear hgw2
  go_wp2
  go_ret
  refine ⟨rfl, ?_⟩
  ((have shb2 := hb2.size); (try simp at shb2); (repeat' (first | (with_reducible exact Below.refl _ _) | (with_reducible refine Below.setCell ?_ ?_ _) | (with_reducible refine Below.alloc ?_ ?_ _) | (with_reducible refine Below.drew ?_) | (with_reducible refine Below.trans ?_ (Below.mono hb2 ?_)) | go_size)))
theorem f_Has_yes (a b : BitVec 64) (n : Int) (h : isSlot n) (w : World) : Calls Tryd.prog 13 #[MV a b, .int .i64 n] w fun e w' => e = .returned (.bool (hasM (a, b) n)) ∧ Below w.heap.size w w' := by
  have hd : (decide (0 ≤ n ∧ n < 96)) = true := decide_eq_true h
  have HD := Lib.hid (congrArg Value.bool hd)
  obtain ⟨s0, s1⟩ := h
  clear hd
  have hb := has_bits a b n
  generalize hX : (a &&& bit0 n == 0#64) = X at *
  generalize hY : (b &&& bit1 n == 0#64) = Y at *
  have HB := Lib.hid hb
  clear hb
  go_enter Tryd.func13, Tryd.ntmps13
  go_wp2
  refine wp_grow [(1, .val (.bool true)), (5, .val (MV (bit0 n) (bit1 n))), (6, .val (MV (a &&& bit0 n) (b &&& bit1 n)))] 10 (by kernel_rfl) (by kernel_rfl) (by rfl) (by rfl) ?_
  simp only [List.take_succ_cons, List.take_zero, List.drop_succ_cons, List.drop_zero]
  repeat (first
    | (apply Der.quiet; (rfl); (rfl); (intro w' hw' hctx; have hc' := bcell hw'; have yw0 := fun o => hw'.cell (p := ⟨w.heap.size, o, none⟩) (by first | omega | (simp; done) | (simp; omega)); clear hctx; go_simp; first | exact rfl | exact ⟨rfl, rfl⟩); simp only [Act.put, List.setIfInBounds_toArray, List.set_cons_succ, List.set_cons_zero, Nat.reduceAdd])
    | (apply Der.skip; (rfl); simp only [Act.put, List.setIfInBounds_toArray, List.set_cons_succ, List.set_cons_zero, Nat.reduceAdd]))
  apply Der.val
  · rfl
  · rfl
  · (intro w' hw' hctx; go_simp; refine (f_slot' _ _).mono ?_; rintro e w2 ⟨rfl, hb⟩; exact ⟨_, rfl, HD.out, hb⟩)
  simp only [Act.put, List.setIfInBounds_toArray, List.set_cons_succ, List.set_cons_zero, Nat.reduceAdd]
  repeat (first
    | (apply Der.quiet; (rfl); (rfl); (intro w' hw' hctx; have hc' := bcell hw'; have yw0 := fun o => hw'.cell (p := ⟨w.heap.size, o, none⟩) (by first | omega | (simp; done) | (simp; omega)); clear hctx; go_simp; first | exact rfl | exact ⟨rfl, rfl⟩); simp only [Act.put, List.setIfInBounds_toArray, List.set_cons_succ, List.set_cons_zero, Nat.reduceAdd])
    | (apply Der.skip; (rfl); simp only [Act.put, List.setIfInBounds_toArray, List.set_cons_succ, List.set_cons_zero, Nat.reduceAdd]))
  apply Der.val
  · rfl
  · rfl
  · (intro w' hw' hctx; go_simp; refine (f_bit _ s0 s1 _).mono ?_; rintro e w2 ⟨rfl, hb⟩; exact ⟨_, rfl, rfl, hb⟩)
  simp only [Act.put, List.setIfInBounds_toArray, List.set_cons_succ, List.set_cons_zero, Nat.reduceAdd]
  apply Der.val
  · rfl
  · rfl
  · (intro w' hw' hctx; go_simp; refine (f_and _ _ _ _ _).mono ?_; rintro e w2 ⟨rfl, hb⟩; exact ⟨_, rfl, rfl, hb⟩)
  simp only [Act.put, List.setIfInBounds_toArray, List.set_cons_succ, List.set_cons_zero, Nat.reduceAdd]
  repeat (first
    | (apply Der.quiet; (rfl); (rfl); (intro w' hw' hctx; have hc' := bcell hw'; have yw0 := fun o => hw'.cell (p := ⟨w.heap.size, o, none⟩) (by first | omega | (simp; done) | (simp; omega)); clear hctx; go_simp; first | exact rfl | exact ⟨rfl, rfl⟩); simp only [Act.put, List.setIfInBounds_toArray, List.set_cons_succ, List.set_cons_zero, Nat.reduceAdd])
    | (apply Der.skip; (rfl); simp only [Act.put, List.setIfInBounds_toArray, List.set_cons_succ, List.set_cons_zero, Nat.reduceAdd]))
  refine Der.nil (fun w2 hgw2 hctx => ?_)
  clear hctx
  have hb2 : Below _ _ w2 := hgw2
  clear hgw2
  go_wp2
  go_ret
  refine ⟨?_, ?_⟩
  · have e : hasM (a, b) n = !(X && Y) := by rw [HB.out]; simp
    rw [e]
    first | rfl | (cases X <;> cases Y <;> rfl)
  · ((have shb2 := hb2.size); (try simp at shb2); (repeat' (first | (with_reducible exact Below.refl _ _) | (with_reducible refine Below.setCell ?_ ?_ _) | (with_reducible refine Below.alloc ?_ ?_ _) | (with_reducible refine Below.drew ?_) | (with_reducible refine Below.trans ?_ (Below.mono hb2 ?_)) | go_size)))
end Go.Proofs.YtgcjfonbppchlaaDoor

/- The contracts of the document's Next, Place, SameInts. -/
namespace Go.Proofs.YtgcjfonbppchlaaDoor
open Go.RowKit
set_option maxRecDepth 100000
attribute [local irreducible] Der

def cntL (L : List Int) (n : Int) (k : Nat) : Nat := ((L.take k).filter fun x => decide (x < n)).length
theorem cntL_hit (L : List Int) (n : Int) (k : Nat) (h : k < L.length) (hh : L[k] < n) : cntL L n (k + 1) = cntL L n k + 1 := by
  unfold cntL; rw [List.take_succ_eq_append_getElem h, List.filter_append, List.filter_cons_of_pos (by simp [hh])]; simp
theorem cntL_miss (L : List Int) (n : Int) (k : Nat) (h : k < L.length) (hh : ¬ L[k] < n) : cntL L n (k + 1) = cntL L n k := by
  unfold cntL; rw [List.take_succ_eq_append_getElem h, List.filter_append, List.filter_cons_of_neg (by simp [hh])]; simp
theorem cntL_le (L : List Int) (n : Int) (k : Nat) : cntL L n k ≤ k := by
  unfold cntL; have := List.length_filter_le (fun x => decide (x < n)) (L.take k); have := List.length_take_le k L; omega

/-- The least that is n or more, and whether there is one. -/
def nextF (L : List Int) (n : Int) : Int × Bool := match L.find? (fun x => decide (n ≤ x)) with | some x => (x, true) | none => (0, false)
theorem nextF_hit (L : List Int) (n : Int) (k : Nat) (h : k < L.length) (hb : ∀ x ∈ L.take k, ¬ n ≤ x) (hh : n ≤ L[k]) : nextF L n = (L[k], true) := by
  have e : L.find? (fun x => decide (n ≤ x)) = some L[k] := by
    have hs : L = L.take k ++ L[k] :: L.drop (k + 1) := by rw [← List.drop_eq_getElem_cons h, List.take_append_drop]
    have h1 : (L.take k).find? (fun x => decide (n ≤ x)) = none := List.find?_eq_none.2 fun x hx => by simpa using hb x hx
    have h2 := congrArg (List.find? fun x => decide (n ≤ x)) hs
    rw [h2, List.find?_append, h1, Option.none_or, List.find?_cons_of_pos (by simp [hh])]
  unfold nextF; rw [e]
theorem nextF_none (L : List Int) (n : Int) (hb : ∀ x ∈ L, ¬ n ≤ x) : nextF L n = (0, false) := by
  have e : L.find? (fun x => decide (n ≤ x)) = none := List.find?_eq_none.2 fun x hx => by simpa using hb x hx
  unfold nextF; rw [e]

theorem take_eq_succ {l m : List Int} {k : Nat} (h : k < l.length) (h' : k < m.length) (ht : l.take k = m.take k) (he : l[k] = m[k]) : l.take (k + 1) = m.take (k + 1) := by
  rw [List.take_succ_eq_append_getElem h, List.take_succ_eq_append_getElem h', ht, he]
theorem ne_at {l m : List Int} {k : Nat} (h : k < l.length) (h' : k < m.length) (he : ¬ l[k] = m[k]) : decide (l = m) = false :=
  decide_eq_false fun e => he (by subst e; rfl)
end Go.Proofs.YtgcjfonbppchlaaDoor

/- OnesCount64's formula counts the bits. -/
namespace Go.Proofs.YtgcjfonbppchlaaDoor
open Go.RowKit
set_option maxRecDepth 100000

/-- How many of the first k bits of a number are 1. -/
def bitsum : Nat → Nat → Nat
  | 0, _ => 0
  | k + 1, n => n % 2 + bitsum k (n / 2)
def popc (x : BitVec 64) : Nat := (List.range 64).countP fun i => x.getLsbD i

theorem bitsum_count : ∀ (k n : Nat), bitsum k n = (List.range k).countP fun i => n.testBit i
  | 0, _ => rfl
  | k + 1, n => by
    rw [bitsum, bitsum_count k (n / 2), List.range_succ_eq_map, List.countP_cons, List.countP_map]
    have e : ((fun i => n.testBit i) ∘ Nat.succ) = fun i => (n / 2).testBit i := by
      funext i; simp [Nat.testBit_succ]
    rw [e]
    have : n.testBit 0 = decide (n % 2 = 1) := Nat.testBit_zero n
    rw [this]
    rcases Nat.mod_two_eq_zero_or_one n with h | h <;> simp [h] <;> omega
theorem bitsum_add : ∀ (j k n : Nat), bitsum (j + k) n = bitsum j (n % 2 ^ j) + bitsum k (n / 2 ^ j)
  | 0, k, n => by simp [bitsum]
  | j + 1, k, n => by
    rw [show j + 1 + k = (j + k) + 1 by omega, bitsum, bitsum_add j k (n / 2), bitsum]
    have h1 : n % 2 ^ (j + 1) % 2 = n % 2 := Nat.mod_mod_of_dvd n ⟨2 ^ j, by rw [Nat.pow_succ, Nat.mul_comm]⟩
    have h2 : n % 2 ^ (j + 1) / 2 = n / 2 % 2 ^ j := by
      rw [Nat.pow_succ, Nat.mul_comm, Nat.mod_mul_right_div_self]
    have h3 : n / 2 / 2 ^ j = n / 2 ^ (j + 1) := by rw [Nat.div_div_eq_div_mul, Nat.pow_succ, Nat.mul_comm]
    rw [h1, h2, h3]; omega

def rep (c : Nat) : Nat → Nat
  | 0 => 0
  | k + 1 => c + 256 * rep c k
def s1 (m n : Nat) : Nat := (n / 2 &&& m) + (n &&& m)
def s2 (m n : Nat) : Nat := (n / 4 &&& m) + (n &&& m)
def s3 (m n : Nat) : Nat := (n / 16 + n) &&& m
def h8 (c : Nat) : Nat := s2 0x33 (s1 0x55 c)
theorem s1_8 : ∀ c : Fin 256, s1 0x55 c.val < 256 ∧ ((c.val / 2 + 128) &&& 0x55) = (c.val / 2 &&& 0x55) := by decide +kernel
theorem s2_8 : ∀ c : Fin 256, s2 0x33 c.val < 256 ∧ ((c.val / 4 + 64) &&& 0x33) = (c.val / 4 &&& 0x33) ∧ ((c.val / 4 + 128) &&& 0x33) = (c.val / 4 &&& 0x33) ∧ ((c.val / 4 + 192) &&& 0x33) = (c.val / 4 &&& 0x33) := by decide +kernel
theorem h8_le : ∀ c : Fin 256, h8 c.val % 16 ≤ 4 ∧ h8 c.val / 16 ≤ 4 ∧ s3 0x0f (h8 c.val) = bitsum 8 c.val ∧ bitsum 8 c.val ≤ 8 := by decide +kernel
theorem f16 : ∀ (c : Fin 69) (r : Fin 5), ((c.val / 16 + c.val + 16 * r.val) &&& 0x0f) = ((c.val / 16 + c.val) &&& 0x0f) := by decide +kernel

theorem and_split (a b c d : Nat) (ha : a < 256) (hc : c < 256) : ((a + 256 * b) &&& (c + 256 * d)) = (a &&& c) + 256 * (b &&& d) := by
  have h1 : ((a + 256 * b) &&& (c + 256 * d)) % 2 ^ 8 = (a &&& c) := by
    rw [Nat.and_mod_two_pow]; congr 1 <;> omega
  have h2 : ((a + 256 * b) &&& (c + 256 * d)) / 2 ^ 8 = (b &&& d) := by
    rw [Nat.and_div_two_pow]; congr 1 <;> omega
  have := Nat.div_add_mod ((a + 256 * b) &&& (c + 256 * d)) (2 ^ 8)
  rw [h1, h2] at this
  omega

theorem s1_step (c n M : Nat) (hc : c < 256) : s1 (0x55 + 256 * M) (c + 256 * n) = s1 0x55 c + 256 * s1 M n := by
  unfold s1
  have hd : (c + 256 * n) / 2 = (c / 2 + 128 * (n % 2)) + 256 * (n / 2) := by omega
  have h8 := (s1_8 ⟨c, hc⟩).2
  rw [hd, and_split _ _ _ _ (by omega) (by omega), and_split _ _ _ _ hc (by omega)]
  have : ((c / 2 + 128 * (n % 2)) &&& 0x55) = (c / 2 &&& 0x55) := by
    rcases Nat.mod_two_eq_zero_or_one n with h | h
    · rw [h]; simp
    · rw [h]; exact h8
  rw [this]; omega
theorem s2_step (c n M : Nat) (hc : c < 256) : s2 (0x33 + 256 * M) (c + 256 * n) = s2 0x33 c + 256 * s2 M n := by
  unfold s2
  have hd : (c + 256 * n) / 4 = (c / 4 + 64 * (n % 4)) + 256 * (n / 4) := by omega
  obtain ⟨_, h1, h2, h3⟩ := s2_8 ⟨c, hc⟩
  rw [hd, and_split _ _ _ _ (by omega) (by omega), and_split _ _ _ _ hc (by omega)]
  have : ((c / 4 + 64 * (n % 4)) &&& 0x33) = (c / 4 &&& 0x33) := by
    have hm : n % 4 = 0 ∨ n % 4 = 1 ∨ n % 4 = 2 ∨ n % 4 = 3 := by omega
    rcases hm with h | h | h | h
    · rw [h]; simp
    · rw [h]; exact h1
    · rw [h]; exact h2
    · rw [h]; exact h3
  rw [this]; omega
def H (k n : Nat) : Nat := s2 (rep 0x33 k) (s1 (rep 0x55 k) n)
theorem H_step (k c n : Nat) (hc : c < 256) : H (k + 1) (c + 256 * n) = h8 c + 256 * H k n := by
  unfold H h8
  rw [rep, rep, s1_step _ _ _ hc, s2_step _ _ _ (s1_8 ⟨c, hc⟩).1]
theorem H_low (k n : Nat) : H k n % 16 ≤ 4 := by
  cases k with
  | zero => simp [H, rep, s1, s2]
  | succ k =>
    have e : n = n % 256 + 256 * (n / 256) := by omega
    rw [e, H_step _ _ _ (by omega)]
    have := (h8_le ⟨n % 256, by omega⟩).1
    simp only at this
    omega
def G (k n : Nat) : Nat := s3 (rep 0x0f k) (H k n)
theorem G_step (k c n : Nat) (hc : c < 256) : G (k + 1) (c + 256 * n) = bitsum 8 c + 256 * G k n := by
  unfold G s3
  rw [H_step _ _ _ hc, rep]
  obtain ⟨h1, h2, h3, _⟩ := h8_le ⟨c, hc⟩
  simp only at h1 h2 h3
  have hl := H_low k n
  generalize H k n = y at *
  generalize hx : h8 c = x at *
  have hx68 : x < 69 := by omega
  have hd : (x + 256 * y) / 16 + (x + 256 * y) = (x / 16 + x + 16 * (y % 16)) + 256 * (y / 16 + y) := by omega
  rw [hd, and_split _ _ _ _ (by omega) (by omega)]
  have := f16 ⟨x, hx68⟩ ⟨y % 16, by omega⟩
  simp only at this
  rw [this]
  unfold s3 at h3
  rw [h3]
theorem G_zero (n : Nat) : G 0 n = 0 := by simp [G, s3, rep]

/-- The eight bytes of a number, and their counts. -/
theorem G_eight (n : Nat) : ∃ q0 q1 q2 q3 q4 q5 q6 q7 : Nat, (q0 ≤ 8 ∧ q1 ≤ 8 ∧ q2 ≤ 8 ∧ q3 ≤ 8 ∧ q4 ≤ 8 ∧ q5 ≤ 8 ∧ q6 ≤ 8 ∧ q7 ≤ 8) ∧ bitsum 64 n = q0 + q1 + q2 + q3 + q4 + q5 + q6 + q7 ∧
    G 8 n = q0 + 256 * (q1 + 256 * (q2 + 256 * (q3 + 256 * (q4 + 256 * (q5 + 256 * (q6 + 256 * q7)))))) := by
  have step : ∀ k n, G (k + 1) n = bitsum 8 (n % 256) + 256 * G k (n / 256) := fun k n => by
    have e : n = n % 256 + 256 * (n / 256) := by omega
    conv => lhs; rw [e]
    exact G_step k _ _ (by omega)
  have bs : ∀ k n, bitsum (8 + k) n = bitsum 8 (n % 256) + bitsum k (n / 256) := fun k n => bitsum_add 8 k n
  have le : ∀ n, bitsum 8 (n % 256) ≤ 8 := fun n => (h8_le ⟨n % 256, by omega⟩).2.2.2
  refine ⟨bitsum 8 (n % 256), bitsum 8 (n / 256 % 256), bitsum 8 (n / 256 / 256 % 256), bitsum 8 (n / 256 / 256 / 256 % 256), bitsum 8 (n / 256 / 256 / 256 / 256 % 256), bitsum 8 (n / 256 / 256 / 256 / 256 / 256 % 256), bitsum 8 (n / 256 / 256 / 256 / 256 / 256 / 256 % 256), bitsum 8 (n / 256 / 256 / 256 / 256 / 256 / 256 / 256 % 256), ⟨le _, le _, le _, le _, le _, le _, le _, le _⟩, ?_, ?_⟩
  · have t0 : bitsum 64 (n) = _ := bs 56 (n)
    have t1 : bitsum 56 (n / 256) = _ := bs 48 (n / 256)
    have t2 : bitsum 48 (n / 256 / 256) = _ := bs 40 (n / 256 / 256)
    have t3 : bitsum 40 (n / 256 / 256 / 256) = _ := bs 32 (n / 256 / 256 / 256)
    have t4 : bitsum 32 (n / 256 / 256 / 256 / 256) = _ := bs 24 (n / 256 / 256 / 256 / 256)
    have t5 : bitsum 24 (n / 256 / 256 / 256 / 256 / 256) = _ := bs 16 (n / 256 / 256 / 256 / 256 / 256)
    have t6 : bitsum 16 (n / 256 / 256 / 256 / 256 / 256 / 256) = _ := bs 8 (n / 256 / 256 / 256 / 256 / 256 / 256)
    have t7 : bitsum 8 (n / 256 / 256 / 256 / 256 / 256 / 256 / 256) = _ := bs 0 (n / 256 / 256 / 256 / 256 / 256 / 256 / 256)
    have t8 : bitsum 0 (n / 256 / 256 / 256 / 256 / 256 / 256 / 256 / 256) = 0 := rfl
    omega
  · have t0 : G 8 (n) = _ := step 7 (n)
    have t1 : G 7 (n / 256) = _ := step 6 (n / 256)
    have t2 : G 6 (n / 256 / 256) = _ := step 5 (n / 256 / 256)
    have t3 : G 5 (n / 256 / 256 / 256) = _ := step 4 (n / 256 / 256 / 256)
    have t4 : G 4 (n / 256 / 256 / 256 / 256) = _ := step 3 (n / 256 / 256 / 256 / 256)
    have t5 : G 3 (n / 256 / 256 / 256 / 256 / 256) = _ := step 2 (n / 256 / 256 / 256 / 256 / 256)
    have t6 : G 2 (n / 256 / 256 / 256 / 256 / 256 / 256) = _ := step 1 (n / 256 / 256 / 256 / 256 / 256 / 256)
    have t7 : G 1 (n / 256 / 256 / 256 / 256 / 256 / 256 / 256) = _ := step 0 (n / 256 / 256 / 256 / 256 / 256 / 256 / 256)
    have t8 := G_zero (n / 256 / 256 / 256 / 256 / 256 / 256 / 256 / 256)
    omega

theorem addW_toNat (a b : BitVec 64) : (addW a b).toNat = (a.toNat + b.toNat) % 18446744073709551616 := by unfold addW; rw [BitVec.toNat_add]
theorem shrW_toNat (k : Nat) (a : BitVec 64) : (shrW k a).toNat = a.toNat / 2 ^ k := by unfold shrW; rw [BitVec.toNat_ushiftRight, Nat.shiftRight_eq_div_pow]
theorem andW_toNat (c : Nat) (hc : c < 18446744073709551616) (a : BitVec 64) : (andW c a).toNat = a.toNat &&& c := by
  unfold andW; rw [BitVec.toNat_and, BitVec.toNat_ofNat, Nat.mod_eq_of_lt hc]
theorem rep5 : rep 0x55 8 = 6148914691236517205 := by decide
theorem rep3 : rep 0x33 8 = 3689348814741910323 := by decide
theorem repf : rep 0x0f 8 = 1085102592571150095 := by decide
theorem pc1_toNat (x : BitVec 64) : (pc1 x).toNat = s1 (rep 0x55 8) x.toNat := by
  unfold pc1 s1
  rw [addW_toNat, andW_toNat _ (by omega), andW_toNat _ (by omega), shrW_toNat, rep5, Nat.pow_one]
  have h1 := Nat.and_le_right (n := x.toNat / 2) (m := 6148914691236517205)
  have h2 := Nat.and_le_right (n := x.toNat) (m := 6148914691236517205)
  exact Nat.mod_eq_of_lt (by omega)
theorem pc2_toNat (x : BitVec 64) : (pc2 x).toNat = s2 (rep 0x33 8) x.toNat := by
  unfold pc2 s2
  rw [addW_toNat, andW_toNat _ (by omega), andW_toNat _ (by omega), shrW_toNat, rep3, show (2 : Nat) ^ 2 = 4 from rfl]
  have h1 := Nat.and_le_right (n := x.toNat / 4) (m := 3689348814741910323)
  have h2 := Nat.and_le_right (n := x.toNat) (m := 3689348814741910323)
  exact Nat.mod_eq_of_lt (by omega)
theorem pc3_toNat (x : BitVec 64) : (pc3 x).toNat = s3 (rep 0x0f 8) x.toNat := by
  unfold pc3 s3
  rw [andW_toNat _ (by omega), addW_toNat, shrW_toNat, repf]
  have h2 := Nat.and_le_right (n := x.toNat / 16 + x.toNat) (m := 1085102592571150095)
  have h3 : (x.toNat / 16 + x.toNat) % 2 ^ 64 &&& 1085102592571150095 % 2 ^ 64 = ((x.toNat / 16 + x.toNat) &&& 1085102592571150095) % 2 ^ 64 := (Nat.and_mod_two_pow).symm
  rw [show (1085102592571150095 : Nat) % 2 ^ 64 = 1085102592571150095 from rfl] at h3
  rw [show (18446744073709551616 : Nat) = 2 ^ 64 from rfl, show (2 : Nat) ^ 4 = 16 from rfl, h3]
  exact Nat.mod_eq_of_lt (by omega)
theorem pc123 (x : BitVec 64) : (pc3 (pc2 (pc1 x))).toNat = G 8 x.toNat := by
  rw [pc3_toNat, pc2_toNat, pc1_toNat]; rfl
theorem div_hi (L K H : Nat) (h : L < K) : (L + K * H) / K = H := by
  rw [Nat.add_mul_div_left _ _ (by omega), Nat.div_eq_of_lt h, Nat.zero_add]
theorem mod_lo (a b R S c : Nat) (h : c < 128) (e : a + b = c) : (a + 256 * R + (b + 256 * S)) % 128 = c := by omega
set_option maxHeartbeats 2000000 in
theorem pcE_popc (x : BitVec 64) : pcE x = (popc x : Int) := by
  have hb : popc x = bitsum 64 x.toNat := by
    rw [bitsum_count]; rfl
  rw [pcE_eq, hb]
  unfold U
  obtain ⟨q0, q1, q2, q3, q4, q5, q6, q7, ⟨a0, a1, a2, a3, a4, a5, a6, a7⟩, hs, hg⟩ := G_eight x.toNat
  have e := pc123 x
  rw [hg] at e
  rw [hs]
  clear hg hs hb
  generalize pc3 (pc2 (pc1 x)) = z at *
  have z4 : (pc4 z).toNat = (q0 + q1) + 256 * ((q1 + q2) + 256 * ((q2 + q3) + 256 * ((q3 + q4) + 256 * ((q4 + q5) + 256 * ((q5 + q6) + 256 * ((q6 + q7) + 256 * q7)))))) := by
    unfold pc4; rw [addW_toNat, shrW_toNat, e, show (2 : Nat) ^ 8 = 256 from rfl, div_hi _ _ _ (by omega)]
    rw [Nat.mod_eq_of_lt (by omega)]; omega
  clear e
  have z5 : (pc5 (pc4 z)).toNat = (q0 + q1 + q2 + q3) + 256 * ((q1 + q2 + q3 + q4) + 256 * ((q2 + q3 + q4 + q5) + 256 * ((q3 + q4 + q5 + q6) + 256 * ((q4 + q5 + q6 + q7) + 256 * ((q5 + q6 + q7) + 256 * ((q6 + q7) + 256 * q7)))))) := by
    unfold pc5; rw [addW_toNat, shrW_toNat, z4, show (2 : Nat) ^ 16 = 65536 from rfl]
    have hh : ((q0 + q1) + 256 * ((q1 + q2) + 256 * ((q2 + q3) + 256 * ((q3 + q4) + 256 * ((q4 + q5) + 256 * ((q5 + q6) + 256 * ((q6 + q7) + 256 * q7))))))) / 65536 = (q2 + q3) + 256 * ((q3 + q4) + 256 * ((q4 + q5) + 256 * ((q5 + q6) + 256 * ((q6 + q7) + 256 * q7)))) := by
      rw [show ((q0 + q1) + 256 * ((q1 + q2) + 256 * ((q2 + q3) + 256 * ((q3 + q4) + 256 * ((q4 + q5) + 256 * ((q5 + q6) + 256 * ((q6 + q7) + 256 * q7))))))) = ((q0 + q1) + 256 * (q1 + q2)) + 65536 * ((q2 + q3) + 256 * ((q3 + q4) + 256 * ((q4 + q5) + 256 * ((q5 + q6) + 256 * ((q6 + q7) + 256 * q7))))) by omega, div_hi _ _ _ (by omega)]
    rw [hh]
    clear hh z4
    rw [Nat.mod_eq_of_lt (by omega)]; omega
  clear z4
  have z6 : (pc6 (pc5 (pc4 z))).toNat % 128 = q0 + q1 + q2 + q3 + q4 + q5 + q6 + q7 := by
    unfold pc6; rw [addW_toNat, shrW_toNat, z5, show (2 : Nat) ^ 32 = 4294967296 from rfl]
    have hh : ((q0 + q1 + q2 + q3) + 256 * ((q1 + q2 + q3 + q4) + 256 * ((q2 + q3 + q4 + q5) + 256 * ((q3 + q4 + q5 + q6) + 256 * ((q4 + q5 + q6 + q7) + 256 * ((q5 + q6 + q7) + 256 * ((q6 + q7) + 256 * q7))))))) / 4294967296 = (q4 + q5 + q6 + q7) + 256 * ((q5 + q6 + q7) + 256 * ((q6 + q7) + 256 * q7)) := by
      rw [show ((q0 + q1 + q2 + q3) + 256 * ((q1 + q2 + q3 + q4) + 256 * ((q2 + q3 + q4 + q5) + 256 * ((q3 + q4 + q5 + q6) + 256 * ((q4 + q5 + q6 + q7) + 256 * ((q5 + q6 + q7) + 256 * ((q6 + q7) + 256 * q7))))))) = ((q0 + q1 + q2 + q3) + 256 * ((q1 + q2 + q3 + q4) + 256 * ((q2 + q3 + q4 + q5) + 256 * (q3 + q4 + q5 + q6)))) + 4294967296 * ((q4 + q5 + q6 + q7) + 256 * ((q5 + q6 + q7) + 256 * ((q6 + q7) + 256 * q7))) by omega, div_hi _ _ _ (by omega)]
    rw [hh]
    clear hh z5
    rw [Nat.mod_eq_of_lt (b := 18446744073709551616) (by omega)]
    exact mod_lo _ _ _ _ _ (by omega) (by omega)
  omega
end Go.Proofs.YtgcjfonbppchlaaDoor

/- The plain laws beneath MaskTells: how many slots a mask has, how many below a number. -/
namespace Go.Proofs.YtgcjfonbppchlaaDoor
open Go.RowKit
set_option maxRecDepth 100000

theorem hasW1 (m : M) (i : Nat) (h : i < 64) : hasM m i = m.1.getLsbD i := by
  unfold hasM; rw [if_pos (by omega), show ((i : Int) % 64).toNat = i by omega]
theorem hasW2 (m : M) (i : Nat) (h : i < 64) : hasM m ((64 + i : Nat) : Int) = m.2.getLsbD i := by
  unfold hasM; rw [if_neg (by omega), show (((64 + i : Nat) : Int) % 64).toNat = i by omega]
theorem slots_len (m : M) : (slotsK m 96).length = popc (m.1 &&& ones) + popc (m.2 &&& low32) := by
  unfold slotsK seqL
  rw [← List.countP_eq_length_filter, List.countP_map, show List.range 96 = List.range 64 ++ (List.range 32).map (64 + ·) from List.range_add (n := 64) (m := 32), List.countP_append, List.countP_map]
  have h2 : popc (m.2 &&& low32) = (List.range 32).countP fun i => m.2.getLsbD i := by
    unfold popc
    rw [show List.range 64 = List.range 32 ++ (List.range 32).map (32 + ·) from List.range_add (n := 32) (m := 32), List.countP_append, List.countP_map]
    have hz : List.countP ((fun i => (m.2 &&& low32).getLsbD i) ∘ fun x => 32 + x) (List.range 32) = 0 := by
      refine List.countP_eq_zero.2 fun i hi => ?_
      have := List.mem_range.1 hi
      simp [BitVec.getLsbD_and, low32_bit (32 + i) (by omega)]
    rw [hz, Nat.add_zero]
    refine List.countP_congr fun i hi => ?_
    have := List.mem_range.1 hi
    simp [BitVec.getLsbD_and, low32_bit i (by omega), this]
  rw [h2]
  unfold popc
  refine congr (congrArg _ ?_) ?_
  · refine List.countP_congr fun i hi => ?_
    have := List.mem_range.1 hi
    have e : hasM m (0 + (i : Int)) = m.1.getLsbD i := by rw [Int.zero_add]; exact hasW1 m i this
    simp only [Function.comp, e, BitVec.getLsbD_and, ones_bit i this, Bool.and_true]
  · refine List.countP_congr fun i hi => ?_
    have := List.mem_range.1 hi
    have e : hasM m (0 + ((64 + i : Nat) : Int)) = m.2.getLsbD i := by rw [Int.zero_add]; exact hasW2 m i (by omega)
    simp only [Function.comp, e]
theorem cnt_list (m : M) : cntF m.1 m.2 = ((slotsK m 96).length : Nat) := by
  unfold cntF; rw [pcE_popc, pcE_popc, slots_len]; simp
theorem has_below (m : M) (q : Int) (x : Int) (h0 : 0 ≤ x) (h1 : x < 96) : hasM (mAnd m (belowM q)) x = (hasM m x && decide (x < q)) := by
  unfold hasM mAnd belowM
  by_cases h : x < 64
  · simp only [if_pos h, BitVec.getLsbD_and]
    rw [lowBits_bit _ _ (by omega), show (((x % 64).toNat : Nat) : Int) = x by omega]
  · simp only [if_neg h, BitVec.getLsbD_and]
    rw [lowBits_bit _ _ (by omega)]
    have e : ((((x % 64).toNat : Nat) : Int) < q - 64) = (x < q) := by apply propext; omega
    simp only [e]
theorem place_list (m : M) (n q : Int) (hq : (if n < 0 then 0 else n) = q) : cntF (m.1 &&& lowBits q) (m.2 &&& lowBits (q - 64)) = (cntL (slotsK m 96) n (slotsK m 96).length : Nat) := by
  have h := cnt_list (mAnd m (belowM q))
  refine Eq.trans h ?_
  congr 1
  unfold cntL
  rw [List.take_length]
  unfold slotsK
  rw [List.filter_filter]
  congr 1
  refine List.filter_congr fun x hx => ?_
  unfold seqL at hx
  obtain ⟨i, hi, rfl⟩ := List.mem_map.1 hx
  have := List.mem_range.1 hi
  rw [has_below m q _ (by omega) (by omega), Bool.and_comm]
  have e : (0 + (i : Int) < q) = (0 + (i : Int) < n) := by apply propext; split at hq <;> omega
  simp only [e]
end Go.Proofs.YtgcjfonbppchlaaDoor

/- The contracts of Has, whatever the number. -/
namespace Go.Proofs.YtgcjfonbppchlaaDoor
open Go.RowKit
set_option maxRecDepth 100000
attribute [local irreducible] Der

def hasN (m : M) (n : Int) : Bool := decide (0 ≤ n ∧ n < 96) && hasM m n
theorem hasN_no {m : M} {n : Int} (h : ¬ isSlot n) : hasN m n = false := by unfold hasN; rw [decide_eq_false (show ¬ (0 ≤ n ∧ n < 96) from h)]; rfl
theorem hasN_yes {m : M} {n : Int} (h : isSlot n) : hasN m n = hasM m n := by unfold hasN; rw [decide_eq_true (show 0 ≤ n ∧ n < 96 from h)]; rfl
theorem f_Has_any (a b : BitVec 64) (n : Int) (w : World) : Calls Tryd.prog 13 #[MV a b, .int .i64 n] w fun e w' => e = .returned (.bool (hasN (a, b) n)) ∧ Below w.heap.size w w' := by
  by_cases h : isSlot n
  · rw [hasN_yes h]; exact f_Has_yes a b n h w
  · rw [hasN_no h]; exact f_Has_no a b n h w
end Go.Proofs.YtgcjfonbppchlaaDoor
