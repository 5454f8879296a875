/- wal.frames: the iterator over the parts whose frames follow one another. -/
import Derived.Test.YtkekidjjmcmjhaaGreatWalG
namespace Go.Proofs.YtkekidjjmcmjhaaGreat
open Go.RowKit
set_option maxRecDepth 100000
attribute [local irreducible] Der

theorem bytesIn_of {w : World} {a : Option Addr} {n c : Nat} {l : List Int} (h : Byt w (.slice a n c) l) : Lib.BytesIn w a n l := by
  obtain ⟨a', cap, e, h1, h2, h3⟩ := h.1.form
  simp only [Value.slice.injEq] at e
  obtain ⟨rfl, rfl, rfl⟩ := e
  intro hn
  obtain ⟨b, off, ha, -, hc⟩ := h3 (by intro e; simp at e; subst e; simp at hn)
  refine ⟨b, off, ha, fun i hi => ?_⟩
  rw [hc i (by simpa using hi)]
  simp [List.getD_eq_getElem?_getD, List.getElem?_eq_getElem hi]
theorem bytesOf_inj : ∀ {a b : List Int}, Byte a → Byte b → (Lib.bytesOf a == Lib.bytesOf b) = decide (a = b)
  | [], [], _, _ => by simp [Lib.bytesOf]
  | [], y :: b, _, _ => by simp [Lib.bytesOf]
  | x :: a, [], _, _ => by simp [Lib.bytesOf]
  | x :: a, y :: b, ha, hb => by
    have ih := bytesOf_inj (a := a) (b := b) (fun c hc => ha c (by simp [hc])) (fun c hc => hb c (by simp [hc]))
    have hx := ha x (by simp)
    have hy := hb y (by simp)
    have e : (UInt8.ofNat x.toNat == UInt8.ofNat y.toNat) = decide (x = y) := by
      rw [Bool.eq_iff_iff]
      simp only [beq_iff_eq, decide_eq_true_eq]
      constructor
      · intro h
        have h2 := congrArg UInt8.toNat h
        simp only [UInt8.toNat_ofNat'] at h2
        omega
      · intro h; rw [h]
    have e2 : (Lib.bytesOf (x :: a) == Lib.bytesOf (y :: b)) = ((UInt8.ofNat x.toNat == UInt8.ofNat y.toNat) && (Lib.bytesOf a == Lib.bytesOf b)) := by simp [Lib.bytesOf]
    rw [e2, e, ih]
    simp
theorem f_bytesEqD {w : World} {v1 v2 : Value} {l1 l2 : List Int} (h1 : Byt w v1 l1) (h2 : Byt w v2 l2) (b1 : Byte l1) (b2 : Byte l2) : Calls Tryz.prog 15 #[v1, v2] w fun e w' => e = .returned (.bool (decide (l1 = l2))) ∧ w = w' := by
  obtain ⟨a1, c1, rfl, -⟩ := h1.open
  obtain ⟨a2, c2, rfl, -⟩ := h2.open
  refine (Tryz.bytes_Equal_all a1 a2 l1.length c1 l2.length c2 l1 l2 w rfl rfl (bytesIn_of h1) (bytesIn_of h2)).mono fun e w' ⟨he, hw⟩ => ⟨?_, hw.symm⟩
  rw [he, bytesOf_inj b1 b2]

/-- A slice's end. -/
theorem run_suf (a : Option Addr) (n c k : Nat) (hk : k ≤ n) (hc : n ≤ c) (hm : c ≤ 9223372036854775807) :
    ∃ a', (∀ w : World, (Instr.sliceAt 24 (.slice a n c) (some (.int .i64 k)) none none).run Tryz.prog w = .ok (.slice a' (n - k) (c - k)) w) ∧
      (∀ (W : World) (l : List Int), Byt W (.slice a n c) l → Byt W (.slice a' (n - k) (c - k)) (l.drop k)) ∧ (∀ ad, a' = some ad → ∃ ad0, a = some ad0 ∧ ad0.block = ad.block) := by
  have h2 : k ≤ c := by omega
  by_cases hck : c = k
  · subst hck
    have hnc : n = c := by omega
    subst hnc
    refine ⟨a, fun w => by go_simp, fun W l h => ?_, fun ad e => ⟨ad, e, rfl⟩⟩
    obtain ⟨a', c', e, h3, -⟩ := h.open
    simp only [Value.slice.injEq] at e
    rw [List.drop_of_length_le (by omega), Nat.sub_self]
    refine ⟨⟨_, _, rfl, Nat.le_refl _, by omega, fun h => absurd rfl h⟩, ?_⟩
    cases a with
    | none => exact NilA.nil
    | some ad => exact NilA.of_some _ _ _
  · refine ⟨a.map (fun x => x.add k), fun w => ?_, fun W l h => ?_, fun ad e => ?_⟩
    · go_simp
    · obtain ⟨a', c', e, h3, h4, h5⟩ := h.1.form
      simp only [Value.slice.injEq] at e
      obtain ⟨rfl, rfl, rfl⟩ := e
      cases a with
      | none =>
        obtain ⟨h6, h7⟩ := h.2.of_none
        omega
      | some ad =>
        have hlen : (l.drop k).length = l.length - k := by simp
        refine ⟨⟨_, _, by rw [hlen], by omega, by omega, fun hne => ?_⟩, NilA.of_some _ _ _⟩
        obtain ⟨b, off, e, hlt, hc'⟩ := h5 (by intro e; simp at e; subst e; simp at hne)
        simp only [Option.some.injEq] at e
        subst e
        refine ⟨b, off + k, by simp [Addr.add], hlt, fun i hi => ?_⟩
        simp at hi
        rw [Nat.add_assoc, hc' (k + i) (by simp; omega)]
        simp
    · cases a with
      | none => cases e
      | some ad0 =>
        simp only [Option.map_some, Option.some.injEq] at e
        refine ⟨ad0, rfl, ?_⟩
        rw [← e]
        unfold Addr.add
        split <;> rfl

theorem parse1_no {n : Nat} {bs : List Int} (h : 12 ≤ bs.length) (h2 : 16000 < numB (bs.take 4) ∨ (bs.length : Int) < 12 + numB (bs.take 4)) : parse1 n bs = none := by
  unfold parse1; rw [if_neg (by omega), if_pos h2]
theorem parse1_ne {n : Nat} {bs : List Int} (h : 12 ≤ bs.length) (h2 : ¬ (16000 < numB (bs.take 4) ∨ (bs.length : Int) < 12 + numB (bs.take 4))) (h3 : framB n (ownB bs) ≠ bs.take (12 + (numB (bs.take 4)).toNat)) : parse1 n bs = none := by
  unfold parse1; rw [if_neg (by omega), if_neg h2, if_neg h3]
theorem parse1_ok {n : Nat} {bs : List Int} (h : 12 ≤ bs.length) (h2 : ¬ (16000 < numB (bs.take 4) ∨ (bs.length : Int) < 12 + numB (bs.take 4))) (h3 : framB n (ownB bs) = bs.take (12 + (numB (bs.take 4)).toNat)) : parse1 n bs = some (ownB bs) := by
  unfold parse1; rw [if_neg (by omega), if_neg h2, if_pos h3]

/-- What a file's bytes have said so far, and what is left of them. -/
def restOf (bs : List Int) : List (List Int) → List Int
  | [] => bs
  | p :: ps => restOf (bs.drop (12 + p.length)) ps
/-- The parts so far are the first that are said. -/
def Said1 : Nat → List Int → List (List Int) → Prop
  | _, _, [] => True
  | n, bs, p :: ps => parse1 n bs = some p ∧ Said1 (n + 1) (bs.drop (12 + p.length)) ps
theorem restOf_snoc : ∀ (l : List (List Int)) (bs : List Int) (p : List Int), restOf bs (l ++ [p]) = (restOf bs l).drop (12 + p.length)
  | [], _, _ => rfl
  | q :: l, bs, p => restOf_snoc l _ p
theorem said1_snoc : ∀ (l : List (List Int)) (n : Nat) (bs : List Int) (p : List Int), Said1 n bs l → parse1 (n + l.length) (restOf bs l) = some p → Said1 n bs (l ++ [p])
  | [], n, bs, p, _, h => ⟨by simpa [restOf] using h, trivial⟩
  | q :: l, n, bs, p, h, h2 => ⟨h.1, said1_snoc l (n + 1) _ p h.2 (by rw [show n + 1 + l.length = n + (q :: l).length by simp; omega]; exact h2)⟩
theorem said1_all : ∀ (l : List (List Int)) (n fuel : Nat) (bs : List Int), Said1 n bs l → parse1 (n + l.length) (restOf bs l) = none → Byte bs → bs.length ≤ fuel → framesL fuel n bs = l
  | [], n, fuel, bs, _, h, _, _ => framesL_none (by simpa [restOf] using h)
  | p :: l, n, fuel, bs, h, h2, hb, hf => by
    have hl := parse1_len h.1 hb
    obtain ⟨f, rfl⟩ : ∃ f, fuel = f + 1 := ⟨fuel - 1, by omega⟩
    rw [framesL, h.1]
    dsimp only
    rw [said1_all l (n + 1) f _ h.2 (by rw [show n + 1 + l.length = n + (p :: l).length by simp; omega]; exact h2) (hb.drop _) (by rw [List.length_drop]; omega)]
theorem said1_pre : ∀ (l : List (List Int)) (n fuel : Nat) (bs : List Int), Said1 n bs l → Byte bs → bs.length ≤ fuel → l <+: framesL fuel n bs
  | [], n, fuel, bs, _, _, _ => List.nil_prefix
  | p :: l, n, fuel, bs, h, hb, hf => by
    have hl := parse1_len h.1 hb
    obtain ⟨f, rfl⟩ : ∃ f, fuel = f + 1 := ⟨fuel - 1, by omega⟩
    rw [framesL, h.1]
    dsimp only
    exact (List.prefix_cons_inj p).2 (said1_pre l (n + 1) f _ h.2 (hb.drop _) (by rw [List.length_drop]; omega))
theorem said1_len : ∀ (l : List (List Int)) (n : Nat) (bs : List Int), Said1 n bs l → Byte bs → (restOf bs l).length + costL l = bs.length ∧ Byte (restOf bs l)
  | [], n, bs, _, hb => ⟨by simp [restOf, costL], hb⟩
  | p :: l, n, bs, h, hb => by
    have hl := parse1_len h.1 hb
    have := said1_len l (n + 1) _ h.2 (hb.drop _)
    rw [List.length_drop] at this
    exact ⟨by rw [restOf, costL]; omega, this.2⟩
end Go.Proofs.YtkekidjjmcmjhaaGreat
