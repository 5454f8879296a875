/- The log in plain Lean: the bytes of heads and frames, what a file says, and how files that are cut are read. -/
import Derived.Test.YtkekidjjmcmjhaaGreatKit
namespace Go.Proofs.YtkekidjjmcmjhaaGreat
set_option maxRecDepth 100000

def byteAt (x : Int) (j : Nat) : Int := (x / (256 : Int) ^ j) % 256
def beN (k : Nat) (x : Int) : List Int := (List.range k).map fun i => byteAt x (k - 1 - i)
def numB (l : List Int) : Int := l.foldl (fun x c => x * 256 + c) 0
def Byte (l : List Int) : Prop := ∀ c ∈ l, 0 ≤ c ∧ c < 256
theorem beN_len (k : Nat) (x : Int) : (beN k x).length = k := by simp [beN]
theorem byteAt_byte (x : Int) (j : Nat) : 0 ≤ byteAt x j ∧ byteAt x j < 256 := by unfold byteAt; omega
theorem beN_byte {k : Nat} {x : Int} : Byte (beN k x) := by
  intro c hc
  obtain ⟨i, -, rfl⟩ := List.mem_map.1 hc
  exact byteAt_byte _ _
theorem beN4 (x : Int) : beN 4 x = [byteAt x 3, byteAt x 2, byteAt x 1, byteAt x 0] := by simp [beN, List.range, List.range.loop]
theorem numB_beN4 {x : Int} (h0 : 0 ≤ x) (h : x < 4294967296) : numB (beN 4 x) = x := by
  rw [beN4]
  simp only [numB, List.foldl_cons, List.foldl_nil, byteAt, Int.reducePow]
  omega
theorem numB_pos {l : List Int} (h : Byte l) : ∀ z : Int, 0 ≤ z → 0 ≤ l.foldl (fun x c => x * 256 + c) z := by
  induction l with
  | nil => intro z hz; exact hz
  | cons a l ih => intro z hz; exact ih (fun c hc => h c (by simp [hc])) _ (by have := (h a (by simp)).1; dsimp only; omega)
theorem numB_nonneg {l : List Int} (h : Byte l) : 0 ≤ numB l := numB_pos h 0 (by omega)
theorem Byte.app {a b : List Int} (h : Byte a) (k : Byte b) : Byte (a ++ b) := fun c hc => by
  rcases List.mem_append.1 hc with h1 | h1
  · exact h c h1
  · exact k c h1
theorem Byte.take {a : List Int} (h : Byte a) (k : Nat) : Byte (a.take k) := fun c hc => h c (List.mem_of_mem_take hc)
theorem Byte.drop {a : List Int} (h : Byte a) (k : Nat) : Byte (a.drop k) := fun c hc => h c (List.mem_of_mem_drop hc)

/-- A mark's step, and the mark of bytes. -/
def fnvS (m c : Int) : Int := IntKind.u64.wrap (bits .xor .u64 m c * 1099511628211)
def fnvF (z : Int) (l : List Int) : Int := l.foldl fnvS z
def fnv (l : List Int) : Int := fnvF 14695981039346656037 l
theorem fnvS_bd (m c : Int) : 0 ≤ fnvS m c ∧ fnvS m c < 18446744073709551616 := by
  unfold fnvS
  rw [IntKind.wrap_u64]
  omega
theorem fnvF_bd {z : Int} (h : 0 ≤ z ∧ z < 18446744073709551616) (l : List Int) : 0 ≤ fnvF z l ∧ fnvF z l < 18446744073709551616 := by
  unfold fnvF
  induction l generalizing z with
  | nil => exact h
  | cons a l ih => exact ih (fnvS_bd _ _)
theorem fnv_bd (l : List Int) : 0 ≤ fnv l ∧ fnv l < 18446744073709551616 := fnvF_bd (by omega) l

def letters : List Int := [113, 117, 105, 118, 114, 108, 111, 103]
def framB (n : Nat) (bs : List Int) : List Int := beN 4 bs.length ++ beN 8 (fnv (beN 8 n ++ bs)) ++ bs
def headB (most : Int) : List Int := letters ++ beN 4 most ++ beN 8 (fnv (letters ++ beN 4 most))
def framesB : Nat → List (List Int) → List Int
  | _, [] => []
  | n, p :: ps => framB n p ++ framesB (n + 1) ps
def fileB (most : Int) (parts : List (List Int)) : List Int := headB most ++ framesB 0 parts
def costL : List (List Int) → Nat
  | [] => 0
  | p :: ps => 12 + p.length + costL ps
theorem framB_len (n : Nat) (bs : List Int) : (framB n bs).length = 12 + bs.length := by simp [framB, beN_len]; omega
theorem headB_len (most : Int) : (headB most).length = 20 := by simp [headB, beN_len, letters]
theorem framesB_len : ∀ (n : Nat) (l : List (List Int)), (framesB n l).length = costL l
  | _, [] => rfl
  | n, p :: ps => by rw [framesB, List.length_append, framB_len, framesB_len, costL]
theorem fileB_len (most : Int) (l : List (List Int)) : (fileB most l).length = 20 + costL l := by rw [fileB, List.length_append, headB_len, framesB_len]
theorem framesB_app : ∀ (n : Nat) (l r : List (List Int)), framesB n (l ++ r) = framesB n l ++ framesB (n + l.length) r
  | n, [], r => by simp [framesB]
  | n, p :: ps, r => by
    rw [List.cons_append, framesB, framesB_app, framesB, List.append_assoc, List.length_cons]
    congr 2
    congr 1
    omega
theorem fileB_snoc (most : Int) (l : List (List Int)) (b : List Int) : fileB most (l ++ [b]) = fileB most l ++ framB l.length b := by
  rw [fileB, fileB, framesB_app]
  simp [framesB]
theorem costL_app : ∀ (l r : List (List Int)), costL (l ++ r) = costL l + costL r
  | [], r => by simp [costL]
  | p :: ps, r => by rw [List.cons_append, costL, costL, costL_app]; omega
theorem costL_le : ∀ {l : List (List Int)} {p : List Int}, p ∈ l → 12 + p.length ≤ costL l
  | q :: l, p, h => by
    rw [costL]
    rcases List.mem_cons.1 h with rfl | h
    · omega
    · have := costL_le h; omega
theorem costL_len : ∀ (l : List (List Int)), 12 * l.length ≤ costL l
  | [] => by simp [costL]
  | p :: l => by rw [costL, List.length_cons]; have := costL_len l; omega
theorem framB_byte {n : Nat} {bs : List Int} (h : Byte bs) : Byte (framB n bs) := (beN_byte.app beN_byte).app h
theorem letters_byte : Byte letters := by unfold Byte letters; decide
theorem headB_byte {most : Int} : Byte (headB most) := (letters_byte.app beN_byte).app beN_byte
theorem framesB_byte : ∀ {n : Nat} {l : List (List Int)}, (∀ p ∈ l, Byte p) → Byte (framesB n l)
  | _, [], _ => fun c hc => by simp [framesB] at hc
  | n, p :: ps, h => (framB_byte (h p (by simp))).app (framesB_byte fun q hq => h q (by simp [hq]))
theorem fileB_byte {most : Int} {l : List (List Int)} (h : ∀ p ∈ l, Byte p) : Byte (fileB most l) := headB_byte.app (framesB_byte h)

/-- The part with whose frame bytes begin. -/
def ownB (bs : List Int) : List Int := (bs.drop 12).take (numB (bs.take 4)).toNat
def parse1 (n : Nat) (bs : List Int) : Option (List Int) :=
  if bs.length < 12 then none
  else if 16000 < numB (bs.take 4) ∨ (bs.length : Int) < 12 + numB (bs.take 4) then none
  else if framB n (ownB bs) = bs.take (12 + (numB (bs.take 4)).toNat) then some (ownB bs) else none
def framesL : Nat → Nat → List Int → List (List Int)
  | 0, _, _ => []
  | k + 1, n, bs => match parse1 n bs with
    | none => []
    | some own => own :: framesL k (n + 1) (bs.drop (12 + own.length))
def fitsL (most : Int) : Nat → List (List Int) → List (List Int)
  | _, [] => []
  | cost, p :: ps => if ((cost + 12 + p.length : Nat) : Int) ≤ most then p :: fitsL most (cost + 12 + p.length) ps else []
def limitB (most : Int) : Bool := decide (64 ≤ most) && decide (most ≤ 16000)
def mostB (bs : List Int) : Int := numB ((bs.drop 8).take 4)
def partsB (bs : List Int) : List (List Int) := fitsL (mostB bs) 0 (framesL bs.length 0 (bs.drop 20))
def readOK (bs : List Int) : Bool := decide (20 ≤ bs.length) && limitB (mostB bs) && decide (headB (mostB bs) = bs.take 20) && decide (partsB bs ≠ [])

theorem take4 {n : Nat} {bs r : List Int} : (framB n bs ++ r).take 4 = beN 4 bs.length := by
  rw [framB, List.append_assoc, List.append_assoc, List.take_append_of_le_length (by rw [beN_len]; omega), List.take_of_length_le (by rw [beN_len]; omega)]
theorem num4 {n : Nat} {bs r : List Int} (h : bs.length ≤ 16000) : numB ((framB n bs ++ r).take 4) = bs.length := by
  rw [take4, numB_beN4 (by omega) (by omega)]
theorem ownB_frame {n : Nat} {bs r : List Int} (h : bs.length ≤ 16000) : ownB (framB n bs ++ r) = bs := by
  unfold ownB
  rw [num4 h, framB]
  rw [List.append_assoc, List.append_assoc, ← List.append_assoc (beN 4 _), List.drop_append_of_le_length (by simp [beN_len]), List.drop_of_length_le (by simp [beN_len])]
  simp
theorem parse1_frame {n : Nat} {bs r : List Int} (h : bs.length ≤ 16000) : parse1 n (framB n bs ++ r) = some bs := by
  unfold parse1
  rw [num4 h, ownB_frame h]
  rw [if_neg (by rw [List.length_append, framB_len]; omega), if_neg (by rw [List.length_append, framB_len]; omega), if_pos]
  rw [List.take_append_of_le_length (by rw [framB_len]; omega), List.take_of_length_le (by rw [framB_len]; omega)]
theorem parse1_cut {n k : Nat} {bs : List Int} (h : bs.length ≤ 16000) (hk : k < 12 + bs.length) : parse1 n ((framB n bs).take k) = none := by
  unfold parse1
  have hl : ((framB n bs).take k).length = k := by rw [List.length_take, framB_len]; omega
  by_cases h12 : k < 12
  · rw [if_pos (by omega)]
  · rw [if_neg (by omega)]
    have e4 : ((framB n bs).take k).take 4 = beN 4 bs.length := by
      rw [List.take_take, show min 4 k = 4 by omega]
      have := take4 (n := n) (bs := bs) (r := [])
      simpa using this
    rw [e4, numB_beN4 (by omega) (by omega), if_pos (by rw [hl]; omega)]
theorem parse1_short {n : Nat} {bs : List Int} (h : bs.length < 12) : parse1 n bs = none := by unfold parse1; rw [if_pos h]
theorem parse1_len {n : Nat} {bs own : List Int} (h : parse1 n bs = some own) (hb : Byte bs) : 12 + own.length ≤ bs.length ∧ own.length ≤ 16000 ∧ own = (bs.drop 12).take own.length ∧ (own.length : Int) = numB (bs.take 4) := by
  unfold parse1 at h
  split at h
  · cases h
  · split at h
    · cases h
    · split at h
      · simp only [Option.some.injEq] at h
        have h0 := numB_nonneg (hb.take 4)
        have hl : own.length = (numB (bs.take 4)).toNat := by
          rw [← h, ownB, List.length_take, List.length_drop]; omega
        refine ⟨by omega, by omega, ?_, by omega⟩
        rw [hl, ← h]; rfl
      · cases h

theorem framesL_app : ∀ (parts : List (List Int)) (n fuel : Nat) (r : List Int), (∀ p ∈ parts, p.length ≤ 16000) → parts.length ≤ fuel →
    framesL fuel n (framesB n parts ++ r) = parts ++ framesL (fuel - parts.length) (n + parts.length) r
  | [], n, fuel, r, _, _ => by simp [framesB]
  | p :: ps, n, fuel, r, h, hf => by
    obtain ⟨f, rfl⟩ : ∃ f, fuel = f + 1 := ⟨fuel - 1, by simp at hf; omega⟩
    rw [framesB, List.append_assoc, framesL, parse1_frame (h p (by simp))]
    dsimp only
    rw [List.drop_append_of_le_length (by rw [framB_len]; omega), List.drop_of_length_le (by rw [framB_len]; omega), List.nil_append,
      framesL_app ps (n + 1) f r (fun q hq => h q (by simp [hq])) (by simpa using hf)]
    rw [List.cons_append, List.length_cons]
    congr 2
    congr 1 <;> omega
theorem framesL_none {fuel n : Nat} {bs : List Int} (h : parse1 n bs = none) : framesL fuel n bs = [] := by
  cases fuel with
  | zero => rfl
  | succ k => rw [framesL, h]
theorem fitsL_app : ∀ (most : Int) (l r : List (List Int)) (c : Nat), ((c + costL l : Nat) : Int) ≤ most → fitsL most c (l ++ r) = l ++ fitsL most (c + costL l) r
  | _, [], _, _, _ => by simp [costL]
  | most, p :: ps, r, c, h => by
    rw [costL] at h
    rw [List.cons_append, fitsL, if_pos (by omega), fitsL_app most ps r _ (by omega), List.cons_append, costL]
    congr 3
    omega
theorem fitsL_self (most : Int) (l : List (List Int)) (c : Nat) (h : ((c + costL l : Nat) : Int) ≤ most) : fitsL most c l = l := by
  have := fitsL_app most l [] c h
  simpa [fitsL] using this
theorem fitsL_one (most : Int) (p : List Int) (c : Nat) : fitsL most c [p] = if ((c + 12 + p.length : Nat) : Int) ≤ most then [p] else [] := by
  rw [fitsL]; simp [fitsL]
theorem fitsL_cost : ∀ (most : Int) (l : List (List Int)) (c : Nat), (c : Int) ≤ most → ((c + costL (fitsL most c l) : Nat) : Int) ≤ most
  | _, [], _, h => by simpa [fitsL, costL] using h
  | most, p :: ps, c, h => by
    rw [fitsL]
    split
    · rename_i h1
      have := fitsL_cost most ps (c + 12 + p.length) h1
      rw [costL]
      omega
    · simpa [costL] using h
theorem fitsL_pre : ∀ (most : Int) (l : List (List Int)) (c : Nat), fitsL most c l <+: l
  | _, [], _ => by simp [fitsL]
  | most, p :: ps, c => by
    rw [fitsL]
    split
    · exact List.prefix_cons_inj p |>.2 (fitsL_pre most ps _)
    · exact List.nil_prefix

theorem mostB_head {most : Int} (h0 : 0 ≤ most) (h : most < 4294967296) (r : List Int) : mostB (headB most ++ r) = most := by
  unfold mostB headB
  rw [show (letters ++ beN 4 most ++ beN 8 (fnv (letters ++ beN 4 most)) ++ r) = letters ++ (beN 4 most ++ (beN 8 (fnv (letters ++ beN 4 most)) ++ r)) by simp]
  rw [List.drop_append_of_le_length (by simp [letters]), List.drop_of_length_le (by simp [letters]), List.nil_append, List.take_append_of_le_length (by rw [beN_len]; omega), List.take_of_length_le (by rw [beN_len]; omega), numB_beN4 h0 h]
theorem limitB_bd {most : Int} (h : limitB most = true) : 64 ≤ most ∧ most ≤ 16000 := by simpa [limitB] using h

/-- What a file says that is a head, whole frames, and behind them bytes that say no frame more. -/
theorem partsB_file {most : Int} {parts : List (List Int)} {r : List Int} (hm : limitB most = true) (hp : ((costL parts : Nat) : Int) ≤ most) (hr : parse1 parts.length r = none) :
    mostB (fileB most parts ++ r) = most ∧ partsB (fileB most parts ++ r) = parts := by
  have hb := limitB_bd hm
  have hmost : mostB (fileB most parts ++ r) = most := by
    rw [fileB, List.append_assoc]; exact mostB_head (by omega) (by omega) _
  refine ⟨hmost, ?_⟩
  unfold partsB
  rw [hmost]
  have hd : (fileB most parts ++ r).drop 20 = framesB 0 parts ++ r := by
    rw [fileB, List.append_assoc, List.drop_append_of_le_length (by rw [headB_len]; omega), List.drop_of_length_le (by rw [headB_len]; omega), List.nil_append]
  have hl := costL_len parts
  rw [hd, framesL_app parts 0 _ r (fun p hp' => by have := costL_le hp'; omega) (by rw [List.length_append, fileB_len]; omega), Nat.zero_add, framesL_none hr, List.append_nil, fitsL_self most parts 0 (by omega)]
theorem readOK_file {most : Int} {parts : List (List Int)} {r : List Int} (hm : limitB most = true) (hp : ((costL parts : Nat) : Int) ≤ most) (hr : parse1 parts.length r = none) :
    readOK (fileB most parts ++ r) = decide (parts ≠ []) := by
  obtain ⟨h1, h2⟩ := partsB_file hm hp hr
  have ht : (fileB most parts ++ r).take 20 = headB most := by
    rw [fileB, List.append_assoc, List.take_append_of_le_length (by rw [headB_len]; omega), List.take_of_length_le (by rw [headB_len]; omega)]
  have hl : 20 ≤ (fileB most parts ++ r).length := by rw [List.length_append, fileB_len]; omega
  unfold readOK
  rw [h1, h2, hm, ht, decide_eq_true hl]
  simp

/-- How many frames are whole in a beginning of so many bytes. -/
def wholeN : List (List Int) → Nat → Nat
  | [], _ => 0
  | p :: ps, k => if 12 + p.length ≤ k then 1 + wholeN ps (k - (12 + p.length)) else 0
theorem wholeN_le : ∀ (l : List (List Int)) (k : Nat), wholeN l k ≤ l.length
  | [], _ => Nat.le_refl _
  | p :: ps, k => by
    rw [wholeN]
    split
    · have := wholeN_le ps (k - (12 + p.length)); rw [List.length_cons]; omega
    · omega
theorem frames_cut : ∀ (l : List (List Int)) (n k : Nat), (∀ p ∈ l, p.length ≤ 16000) → ∃ r, (framesB n l).take k = framesB n (l.take (wholeN l k)) ++ r ∧ parse1 (n + wholeN l k) r = none
  | [], n, k, _ => ⟨[], by simp [framesB, wholeN], parse1_short (by simp)⟩
  | p :: ps, n, k, h => by
    rw [wholeN]
    split
    · rename_i hk
      obtain ⟨r, h1, h2⟩ := frames_cut ps (n + 1) (k - (12 + p.length)) (fun q hq => h q (by simp [hq]))
      refine ⟨r, ?_, by rw [show n + (1 + wholeN ps (k - (12 + p.length))) = n + 1 + wholeN ps (k - (12 + p.length)) by omega]; exact h2⟩
      rw [Nat.add_comm 1, List.take_succ_cons, framesB, framesB, List.take_append, framB_len, h1, List.take_of_length_le (by rw [framB_len]; omega), List.append_assoc]
    · rename_i hk
      refine ⟨(framB n p).take k, ?_, parse1_cut (h p (by simp)) (by omega)⟩
      rw [List.take_zero, framesB, framesB, List.nil_append, List.take_append_of_le_length (by rw [framB_len]; omega)]
theorem file_cut (most : Int) (l : List (List Int)) (k : Nat) (hk : 20 ≤ k) (h : ∀ p ∈ l, p.length ≤ 16000) : ∃ r, (fileB most l).take k = fileB most (l.take (wholeN l (k - 20))) ++ r ∧ parse1 (wholeN l (k - 20)) r = none := by
  obtain ⟨r, h1, h2⟩ := frames_cut l 0 (k - 20) h
  refine ⟨r, ?_, by simpa using h2⟩
  rw [fileB, List.take_append, headB_len, h1, List.take_of_length_le (by rw [headB_len]; omega), fileB, List.append_assoc]
theorem costL_take (l : List (List Int)) : ∀ k, costL (l.take k) ≤ costL l := by
  induction l with
  | nil => intro k; simp [costL]
  | cons p ps ih => intro k; cases k with
    | zero => simp [costL]
    | succ k => rw [List.take_succ_cons, costL, costL]; have := ih k; omega
end Go.Proofs.YtkekidjjmcmjhaaGreat
