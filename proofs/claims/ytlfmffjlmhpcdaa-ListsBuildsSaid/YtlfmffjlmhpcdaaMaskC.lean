/- Rows of masks in memory, and the contracts of And, Or, Of over them. -/
import Derived.Test.YtlfmffjlmhpcdaaMaskB
namespace Go.Proofs.Ytlfmffjlmhpcdaa
open Go.RowKit

abbrev M := BitVec 64 × BitVec 64
def mAnd (m n : M) : M := (m.1 &&& n.1, m.2 &&& n.2)
def mOr (m n : M) : M := (m.1 ||| n.1, m.2 ||| n.2)
def mMinus (m n : M) : M := (m.1 &&& ~~~n.1, m.2 &&& ~~~n.2)
def mAll : M := (ones, low32)
def mZero : M := (0#64, 0#64)
def mBit (n : Int) : M := (bit0 n, bit1 n)
def andAll (l : List M) : M := l.foldl mAnd mAll
def orAll (l : List M) : M := l.foldl mOr mZero
def ofAll (l : List Int) : M := l.foldl (fun m n => mOr m (mBit n)) mZero

/-- The value is a slice, and its elements, n cells each, are these. -/
structure Sl (w : World) (v : Value) (len : Nat) (cs : List Value) : Prop where
  form : ∃ a cap, v = .slice a len cap ∧ len ≤ cap ∧ cap ≤ 9223372036854775807 ∧ (cs ≠ [] → ∃ b off, a = some ⟨b, off, none⟩ ∧ b < w.heap.size ∧ ∀ i (h : i < cs.length), w.cell? ⟨b, off + i, none⟩ = some cs[i])

theorem Sl.grown {w w' : World} {v : Value} {len : Nat} {cs : List Value} (h : Sl w v len cs) (hb : Below w.heap.size w w') : Sl w' v len cs := by
  obtain ⟨a, cap, hv, hl, hm, hc⟩ := h.form
  refine ⟨a, cap, hv, hl, hm, fun hne => ?_⟩
  obtain ⟨b, off, ha, hlt, hcell⟩ := hc hne
  exact ⟨b, off, ha, Nat.lt_of_lt_of_le hlt hb.size, fun i hi => (hb.cell (p := ⟨b, off + i, none⟩) hlt).trans (hcell i hi)⟩

def cellsM (l : List M) : List Value := l.flatMap fun m => [.int .u64 (U m.1), .int .u64 (U m.2)]
theorem cellsM_length (l : List M) : (cellsM l).length = 2 * l.length := by
  unfold cellsM; induction l with
  | nil => rfl
  | cons x l ih => simp [List.flatMap_cons, ih]; omega
theorem cellsM_get (l : List M) (i : Nat) (h : i < l.length) : (cellsM l)[2 * i]? = some (.int .u64 (U l[i].1)) ∧ (cellsM l)[2 * i + 1]? = some (.int .u64 (U l[i].2)) := by
  induction l generalizing i with
  | nil => simp at h
  | cons x l ih =>
    cases i with
    | zero => simp [cellsM]
    | succ i =>
      have := ih i (by simpa using h)
      have e : cellsM (x :: l) = Value.int .u64 (U x.1) :: Value.int .u64 (U x.2) :: cellsM l := by simp [cellsM]
      rw [e, show 2 * (i + 1) = 2 * i + 1 + 1 by omega]
      simpa using this
def Masks (w : World) (v : Value) (l : List M) : Prop := Sl w v l.length (cellsM l)
theorem Masks.at {w : World} {v : Value} {l : List M} (h : Masks w v l) (hne : l ≠ []) : ∃ b off cap, v = .slice (some ⟨b, off, none⟩) l.length cap ∧ l.length ≤ cap ∧ cap ≤ 9223372036854775807 ∧ b < w.heap.size ∧
    ∀ i (hi : i < l.length), w.cell? ⟨b, off + i * 2, none⟩ = some (.int .u64 (U l[i].1)) ∧ w.cell? ⟨b, off + i * 2 + 1, none⟩ = some (.int .u64 (U l[i].2)) := by
  obtain ⟨a, cap, hv, hl, hm, hc⟩ := h.form
  have hne' : cellsM l ≠ [] := by
    intro e; have := cellsM_length l; rw [e] at this; simp at this
    exact hne (List.eq_nil_of_length_eq_zero (by omega))
  obtain ⟨b, off, rfl, hlt, hcell⟩ := hc hne'
  refine ⟨b, off, cap, hv, hl, hm, hlt, fun i hi => ?_⟩
  have hlen := cellsM_length l
  obtain ⟨g1, g2⟩ := cellsM_get l i hi
  have c1 := hcell (2 * i) (by omega)
  have c2 := hcell (2 * i + 1) (by omega)
  rw [List.getElem?_eq_getElem (by omega)] at g1 g2
  rw [show off + i * 2 = off + 2 * i by omega, show off + 2 * i + 1 = off + (2 * i + 1) by omega]
  exact ⟨c1.trans g1, c2.trans g2⟩
theorem Masks.nil {w : World} {v : Value} (h : Masks w v []) : ∃ a cap, v = .slice a 0 cap := by
  obtain ⟨a, cap, hv, _⟩ := h.form
  exact ⟨a, cap, hv⟩

theorem foldl_take_succ {α β : Type} (f : β → α → β) (z : β) (l : List α) (k : Nat) (h : k < l.length) : (l.take (k + 1)).foldl f z = f ((l.take k).foldl f z) l[k] := by
  rw [List.take_succ_eq_append_getElem h, List.foldl_append]; rfl

theorem Masks.open {w : World} {v : Value} {l : List M} (h : Masks w v l) : ∃ a cap, v = .slice a l.length cap ∧ l.length ≤ cap ∧ cap ≤ 9223372036854775807 ∧
    ∀ i (hi : i < l.length), ∃ b off, a = some ⟨b, off, none⟩ ∧ b < w.heap.size ∧ w.cell? ⟨b, off + i * 2, none⟩ = some (.int .u64 (U l[i].1)) ∧ w.cell? ⟨b, off + i * 2 + 1, none⟩ = some (.int .u64 (U l[i].2)) := by
  obtain ⟨a, cap, hv, hl, hm, hc⟩ := h.form
  refine ⟨a, cap, hv, hl, hm, fun i hi => ?_⟩
  have hne : l ≠ [] := by intro e; subst e; simp at hi
  obtain ⟨b, off, cap', hv', _, _, hlt, hcell⟩ := h.at hne
  rw [hv] at hv'
  simp only [Value.slice.injEq] at hv'
  exact ⟨b, off, hv'.1, hlt, hcell i hi⟩

def Ints (w : World) (v : Value) (l : List Int) : Prop := Sl w v l.length (l.map (Value.int .i64))
theorem Ints.open {w : World} {v : Value} {l : List Int} (h : Ints w v l) : ∃ a cap, v = .slice a l.length cap ∧ l.length ≤ cap ∧ cap ≤ 9223372036854775807 ∧
    ∀ i (hi : i < l.length), ∃ b off, a = some ⟨b, off, none⟩ ∧ b < w.heap.size ∧ w.cell? ⟨b, off + i, none⟩ = some (.int .i64 l[i]) := by
  obtain ⟨a, cap, hv, hl, hm, hc⟩ := h.form
  refine ⟨a, cap, hv, hl, hm, fun i hi => ?_⟩
  obtain ⟨b, off, ha, hlt, hcell⟩ := hc (by intro e; simp at e; subst e; simp at hi)
  exact ⟨b, off, ha, hlt, (hcell i (by simpa using hi)).trans (by simp)⟩
theorem Masks.grown {w w' : World} {v : Value} {l : List M} (h : Masks w v l) (hb : Below w.heap.size w w') : Masks w' v l := Sl.grown h hb
theorem Ints.grown {w w' : World} {v : Value} {l : List Int} (h : Ints w v l) (hb : Below w.heap.size w w') : Ints w' v l := Sl.grown h hb

set_option maxHeartbeats 400000 in
theorem f_And (v : Value) (l : List M) (w : World) (h : Masks w v l) : Calls Try.prog 42 #[v] w fun e w' => e = .returned (MV (andAll l).1 (andAll l).2) ∧ Below w.heap.size w w' := by
  obtain ⟨a, cap, rfl, hl, hm, hcell⟩ := h.open
  have Hcell := Lib.hid hcell
  clear hcell h
  go_enter Try.func42, Try.ntmps42
  go_wp2_with (go_at_call 59; refine (f_all _).mono ?_; rintro e w1 ⟨rfl, hb1⟩; have z1w0 : w.heap.size < w1.heap.size := (by have := hb1.size; (try simp at this); omega); have q1w0 := fun o => hb1.cell (p := ⟨w.heap.size, o, none⟩) (by first | omega | (simp; done) | (simp; omega)); have r1w0 := fun o => hb1.frozen (p := ⟨w.heap.size, o, none⟩) (by first | omega | (simp; done) | (simp; omega)))
  go_loopw [9] (fun i wr => ∃ k : Nat, k ≤ l.length ∧ i = .int .i64 k ∧ wr.cell? ⟨w1.heap.size, 0, none⟩ = some (.int .u64 (U ((l.take k).foldl mAnd mAll).1)) ∧ wr.cell? ⟨w1.heap.size, 1, none⟩ = some (.int .u64 (U ((l.take k).foldl mAnd mAll).2)) ∧
      wr.frozen? ⟨w1.heap.size, 0, none⟩ = false ∧ wr.frozen? ⟨w1.heap.size, 1, none⟩ = false ∧ Below w1.heap.size w1 wr ∧ w1.heap.size < wr.heap.size) (fun i _ => l.length - (intOf i).toNat)
  case atStart => exact ⟨0, Nat.zero_le _, rfl, by simp [mAll], by simp [mAll], by simp, by simp, (Below.refl _ _).alloc (Nat.le_refl _) _, by simp⟩
  case round =>
    obtain ⟨k, hk, rfl, hc0, hc1', hf0, hf1, hbr, hz⟩ := hrel
    have hB : Below w.heap.size w wr := by ((have shbr := hbr.size); (try simp at shbr); (have shb1 := hb1.size); (try simp at shb1); (repeat' (first | (with_reducible exact Below.refl _ _) | (with_reducible refine Below.setCell ?_ ?_ _) | (with_reducible refine Below.alloc ?_ ?_ _) | (with_reducible refine Below.drew ?_) | (with_reducible refine Below.trans ?_ (Below.mono hbr ?_)) | (with_reducible refine Below.trans ?_ (Below.mono hb1 ?_)) | go_size)))
    have zrw0 : w.heap.size < wr.heap.size := (by have := hbr.size; (try simp at this); omega)
    have qrw0 := fun o => hbr.cell (p := ⟨w.heap.size, o, none⟩) (by first | omega | (simp; done) | (simp; omega))
    have rrw0 := fun o => hbr.frozen (p := ⟨w.heap.size, o, none⟩) (by first | omega | (simp; done) | (simp; omega))
    by_cases hlt2 : k < l.length
    · obtain ⟨b, off, rfl, hlt, g1, g2⟩ := Hcell.out k hlt2
      have e1 := (hB.cell (p := ⟨b, off + k * 2, none⟩) hlt).trans g1
      have e2 := (hB.cell (p := ⟨b, off + k * 2 + 1, none⟩) hlt).trans g2
      have hstep := Lib.hid (foldl_take_succ mAnd mAll l k hlt2)
      clear g1 g2
      generalize hX : (l.take k).foldl mAnd mAll = X at *
      go_wp2_with (go_at_call 58; refine (f_and _ _ _ _ _).mono ?_; rintro e w2 ⟨rfl, hb2⟩; have z2wr0 : wr.heap.size < w2.heap.size := (by have := hb2.size; (try simp at this); omega); have q2wr0 := fun o => hb2.cell (p := ⟨wr.heap.size, o, none⟩) (by first | omega | (simp; done) | (simp; omega)); have r2wr0 := fun o => hb2.frozen (p := ⟨wr.heap.size, o, none⟩) (by first | omega | (simp; done) | (simp; omega)); have z2w10 : w1.heap.size < w2.heap.size := (by have := hb2.size; (try simp at this); omega); have q2w10 := fun o => hb2.cell (p := ⟨w1.heap.size, o, none⟩) (by first | omega | (simp; done) | (simp; omega)); have r2w10 := fun o => hb2.frozen (p := ⟨w1.heap.size, o, none⟩) (by first | omega | (simp; done) | (simp; omega)))
      go_roundw
      case rel =>
        refine ⟨k + 1, by omega, by go_num, ?_, ?_, ?_, ?_, ?_, ?_⟩
        · rw [hstep.out]; go_simp; rfl
        · rw [hstep.out]; go_simp; rfl
        · go_simp
        · go_simp
        · ((have shb2 := hb2.size); (try simp at shb2); (have shbr := hbr.size); (try simp at shbr); (repeat' (first | (with_reducible exact Below.refl _ _) | (with_reducible refine Below.setCell ?_ ?_ _) | (with_reducible refine Below.alloc ?_ ?_ _) | (with_reducible refine Below.drew ?_) | (with_reducible refine Below.trans ?_ (Below.mono hb2 ?_)) | (with_reducible refine Below.trans ?_ (Below.mono hbr ?_)) | go_size)))
        · simp; omega
      case measure => simp [intOf]; omega
    · have : k = l.length := by omega
      subst this
      rw [List.take_length] at hc0 hc1'
      go_wp2
      refine bodyPost_ret (v := MV (l.foldl mAnd mAll).1 (l.foldl mAnd mAll).2) (by simp only [results, Try.results42]; go_simp) rfl ⟨rfl, ?_⟩
      ((have shB := hB.size); (try simp at shB); (repeat' (first | (with_reducible exact Below.refl _ _) | (with_reducible refine Below.setCell ?_ ?_ _) | (with_reducible refine Below.alloc ?_ ?_ _) | (with_reducible refine Below.drew ?_) | (with_reducible refine Below.trans ?_ (Below.mono hB ?_)) | go_size)))

def orF (l : List M) : M := mAnd (orAll l) mAll
set_option maxHeartbeats 400000 in
theorem f_Or (v : Value) (l : List M) (w : World) (h : Masks w v l) : Calls Try.prog 25 #[v] w fun e w' => e = .returned (MV (orF l).1 (orF l).2) ∧ Below w.heap.size w w' := by
  obtain ⟨a, cap, rfl, hl, hm, hcell⟩ := h.open
  have Hcell := Lib.hid hcell
  clear hcell h
  go_enter Try.func25, Try.ntmps25
  go_wp2
  go_loopw [8] (fun i wr => ∃ k : Nat, k ≤ l.length ∧ i = .int .i64 k ∧ wr.cell? ⟨w.heap.size + 1, 0, none⟩ = some (.int .u64 (U ((l.take k).foldl mOr mZero).1)) ∧ wr.cell? ⟨w.heap.size + 1, 1, none⟩ = some (.int .u64 (U ((l.take k).foldl mOr mZero).2)) ∧
      wr.frozen? ⟨w.heap.size + 1, 0, none⟩ = false ∧ wr.frozen? ⟨w.heap.size + 1, 1, none⟩ = false ∧
      Below (w.heap.size + 1) (w.alloc (.cells #[.int .u64 0, .int .u64 0] 49)) wr ∧ w.heap.size + 1 < wr.heap.size) (fun i _ => l.length - (intOf i).toNat)
  case atStart => exact ⟨0, Nat.zero_le _, rfl, by simp [mZero, U_zero], by simp [mZero, U_zero], by simp, by simp, (Below.refl _ _).alloc (by simp) _, by simp⟩
  case round =>
    obtain ⟨k, hk, rfl, hc0, hc1', hf0, hf1, hbr, hz⟩ := hrel
    have hB : Below w.heap.size w wr := by ((have shbr := hbr.size); (try simp at shbr); (repeat' (first | (with_reducible exact Below.refl _ _) | (with_reducible refine Below.setCell ?_ ?_ _) | (with_reducible refine Below.alloc ?_ ?_ _) | (with_reducible refine Below.drew ?_) | (with_reducible refine Below.trans ?_ (Below.mono hbr ?_)) | go_size)))
    have zrw0 : w.heap.size < wr.heap.size := (by have := hbr.size; (try simp at this); omega)
    have qrw0 := fun o => hbr.cell (p := ⟨w.heap.size, o, none⟩) (by first | omega | (simp; done) | (simp; omega))
    have rrw0 := fun o => hbr.frozen (p := ⟨w.heap.size, o, none⟩) (by first | omega | (simp; done) | (simp; omega))
    by_cases hlt2 : k < l.length
    · obtain ⟨b, off, rfl, hlt, g1, g2⟩ := Hcell.out k hlt2
      have e1 := (hB.cell (p := ⟨b, off + k * 2, none⟩) hlt).trans g1
      have e2 := (hB.cell (p := ⟨b, off + k * 2 + 1, none⟩) hlt).trans g2
      have hstep := Lib.hid (foldl_take_succ mOr mZero l k hlt2)
      clear g1 g2
      generalize hX : (l.take k).foldl mOr mZero = X at *
      go_wp2_with (go_at_call 57; refine (f_or _ _ _ _ _).mono ?_; rintro e w2 ⟨rfl, hb2⟩; have z2wr0 : wr.heap.size < w2.heap.size := (by have := hb2.size; (try simp at this); omega); have q2wr0 := fun o => hb2.cell (p := ⟨wr.heap.size, o, none⟩) (by first | omega | (simp; done) | (simp; omega)); have r2wr0 := fun o => hb2.frozen (p := ⟨wr.heap.size, o, none⟩) (by first | omega | (simp; done) | (simp; omega)); have z2w0 : w.heap.size < w2.heap.size := (by have := hb2.size; (try simp at this); omega); have q2w0 := fun o => hb2.cell (p := ⟨w.heap.size, o, none⟩) (by first | omega | (simp; done) | (simp; omega)); have r2w0 := fun o => hb2.frozen (p := ⟨w.heap.size, o, none⟩) (by first | omega | (simp; done) | (simp; omega)); have z2w1 : w.heap.size + 1 < w2.heap.size := (by have := hb2.size; (try simp at this); omega); have q2w1 := fun o => hb2.cell (p := ⟨w.heap.size + 1, o, none⟩) (by first | omega | (simp; done) | (simp; omega)); have r2w1 := fun o => hb2.frozen (p := ⟨w.heap.size + 1, o, none⟩) (by first | omega | (simp; done) | (simp; omega)))
      go_roundw
      case rel =>
        refine ⟨k + 1, by omega, by go_num, ?_, ?_, ?_, ?_, ?_, ?_⟩
        · rw [hstep.out]; go_simp; rfl
        · rw [hstep.out]; go_simp; rfl
        · go_simp
        · go_simp
        · ((have shb2 := hb2.size); (try simp at shb2); (have shbr := hbr.size); (try simp at shbr); (repeat' (first | (with_reducible exact Below.refl _ _) | (with_reducible refine Below.setCell ?_ ?_ _) | (with_reducible refine Below.alloc ?_ ?_ _) | (with_reducible refine Below.drew ?_) | (with_reducible refine Below.trans ?_ (Below.mono hb2 ?_)) | (with_reducible refine Below.trans ?_ (Below.mono hbr ?_)) | go_size)))
        · simp; omega
      case measure => simp [intOf]; omega
    · have : k = l.length := by omega
      subst this
      rw [List.take_length] at hc0 hc1'
      generalize hX : l.foldl mOr mZero = X at *
      go_wp2
      refine wp_grow [(1, .val (MV ones low32)), (2, .val (MV (X.1 &&& ones) (X.2 &&& low32)))] 3 (by kernel_rfl) (by kernel_rfl) (by rfl) (by rfl) ?_
      simp only [List.take_succ_cons, List.take_zero, List.drop_succ_cons, List.drop_zero]
      repeat (first
        | (apply Der.quiet; (rfl); (rfl); (intro w' hw' hctx; have hc' := bcell hw'; have qs := fun o => hw'.cell (p := ⟨w.heap.size + 1, o, none⟩) (by simp; omega); clear hctx; go_simp; first | exact rfl | exact ⟨rfl, rfl⟩); simp only [Act.put, List.setIfInBounds_toArray, List.set_cons_succ, List.set_cons_zero, Nat.reduceAdd])
        | (apply Der.skip; (rfl); simp only [Act.put, List.setIfInBounds_toArray, List.set_cons_succ, List.set_cons_zero, Nat.reduceAdd]))
      apply Der.val
      · rfl
      · rfl
      · (intro w' hw' hctx; go_simp; refine (f_all _).mono ?_; rintro e w2 ⟨rfl, hb⟩; exact ⟨_, rfl, rfl, hb⟩)
      simp only [Act.put, List.setIfInBounds_toArray, List.set_cons_succ, List.set_cons_zero, Nat.reduceAdd]
      apply Der.val
      · rfl
      · rfl
      · (intro w' hw' hctx; go_simp; refine (f_and _ _ _ _ _).mono ?_; rintro e w2 ⟨rfl, hb⟩; exact ⟨_, rfl, rfl, hb⟩)
      simp only [Act.put, List.setIfInBounds_toArray, List.set_cons_succ, List.set_cons_zero, Nat.reduceAdd]
      refine Der.nil (fun w2 hgw2 hctx => ?_)
      clear hctx
      have hb2 : Below _ _ w2 := hgw2
      clear hgw2
      have z2w0 : w.heap.size < w2.heap.size := (by have := hb2.size; (try simp at this); omega)
      have q2w0 := fun o => hb2.cell (p := ⟨w.heap.size, o, none⟩) (by first | omega | (simp; done) | (simp; omega))
      have r2w0 := fun o => hb2.frozen (p := ⟨w.heap.size, o, none⟩) (by first | omega | (simp; done) | (simp; omega))
      have z2w1 : w.heap.size + 1 < w2.heap.size := (by have := hb2.size; (try simp at this); omega)
      have q2w1 := fun o => hb2.cell (p := ⟨w.heap.size + 1, o, none⟩) (by first | omega | (simp; done) | (simp; omega))
      have r2w1 := fun o => hb2.frozen (p := ⟨w.heap.size + 1, o, none⟩) (by first | omega | (simp; done) | (simp; omega))
      go_wp2
      subst hX
      refine bodyPost_ret (v := MV ((l.foldl mOr mZero).1 &&& ones) ((l.foldl mOr mZero).2 &&& low32)) (by simp only [results, Try.results25]; go_simp) rfl ⟨rfl, ?_⟩
      ((have shb2 := hb2.size); (try simp at shb2); (have shB := hB.size); (try simp at shB); (repeat' (first | (with_reducible exact Below.refl _ _) | (with_reducible refine Below.setCell ?_ ?_ _) | (with_reducible refine Below.alloc ?_ ?_ _) | (with_reducible refine Below.drew ?_) | (with_reducible refine Below.trans ?_ (Below.mono hb2 ?_)) | (with_reducible refine Below.trans ?_ (Below.mono hB ?_)) | go_size)))

def isSlot (n : Int) : Prop := 0 ≤ n ∧ n < 96
instance (n : Int) : Decidable (isSlot n) := by unfold isSlot; infer_instance
/-- What Of answers. -/
def ofF (l : List Int) : M × Int := if ∀ x ∈ l, isSlot x then (ofAll l, 0) else (mZero, 2)
def OfPost (l : List Int) (e : Ending) : Prop := e = .returned (.tuple #[MV (ofF l).1.1 (ofF l).1.2, .int .i64 (ofF l).2])
theorem ofPost_bad {l : List Int} {k : Nat} (hk : k < l.length) (h : ¬ isSlot l[k]) : OfPost l (.returned (.tuple #[.agg #[.int .u64 0, .int .u64 0], .int .i64 2])) := by
  have : ofF l = (mZero, 2) := by
    unfold ofF; rw [if_neg]; intro hall; exact h (hall _ (List.getElem_mem hk))
  unfold OfPost; rw [this]; simp only [mZero, MV, U_zero]
theorem ofPost_ok {l : List Int} (h : ∀ x ∈ l, isSlot x) : OfPost l (.returned (.tuple #[MV (ofAll l).1 (ofAll l).2, .int .i64 0])) := by
  have : ofF l = (ofAll l, 0) := by unfold ofF; rw [if_pos h]
  unfold OfPost; rw [this]
theorem ofAll_snoc (l : List Int) (k : Nat) (h : k < l.length) : ofAll (l.take (k + 1)) = mOr (ofAll (l.take k)) (mBit l[k]) := by
  unfold ofAll; exact foldl_take_succ (fun m n => mOr m (mBit n)) mZero l k h

theorem all_snoc {α : Type} {P : α → Prop} {l : List α} {k : Nat} (h : k < l.length) {y : α} (hy : l[k] = y) (h1 : ∀ x ∈ l.take k, P x) (h2 : P y) : ∀ x ∈ l.take (k + 1), P x := by
  rw [List.take_succ_eq_append_getElem h, hy]
  intro x hx
  rcases List.mem_append.1 hx with hx | hx
  · exact h1 x hx
  · simp at hx; subst hx; exact h2

set_option maxHeartbeats 400000 in
theorem f_Of (v : Value) (l : List Int) (w : World) (h : Ints w v l) : Calls Try.prog 68 #[v] w fun e w' => OfPost l e ∧ Below w.heap.size w w' := by
  obtain ⟨a, cap, rfl, hl, hm, hcell⟩ := h.open
  have Hcell := Lib.hid hcell
  clear hcell h
  go_enter Try.func68, Try.ntmps68
  go_wp2
  go_loopw [9] (fun i wr => ∃ k : Nat, k ≤ l.length ∧ i = .int .i64 k ∧ (∀ x ∈ l.take k, isSlot x) ∧ wr.cell? ⟨w.heap.size + 1, 0, none⟩ = some (.int .u64 (U (ofAll (l.take k)).1)) ∧ wr.cell? ⟨w.heap.size + 1, 1, none⟩ = some (.int .u64 (U (ofAll (l.take k)).2)) ∧
      wr.frozen? ⟨w.heap.size + 1, 0, none⟩ = false ∧ wr.frozen? ⟨w.heap.size + 1, 1, none⟩ = false ∧
      Below (w.heap.size + 1) (w.alloc (.cells #[.int .u64 0, .int .u64 0] 49)) wr ∧ w.heap.size + 1 < wr.heap.size) (fun i _ => l.length - (intOf i).toNat)
  case atStart => exact ⟨0, Nat.zero_le _, rfl, by simp, by simp [ofAll, mZero, U_zero], by simp [ofAll, mZero, U_zero], by simp, by simp, (Below.refl _ _).alloc (by simp) _, by simp⟩
  case round =>
    obtain ⟨k, hk, rfl, hall, hc0, hc1', hf0, hf1, hbr, hz⟩ := hrel
    have hB : Below w.heap.size w wr := by ((have shbr := hbr.size); (try simp at shbr); (repeat' (first | (with_reducible exact Below.refl _ _) | (with_reducible refine Below.setCell ?_ ?_ _) | (with_reducible refine Below.alloc ?_ ?_ _) | (with_reducible refine Below.drew ?_) | (with_reducible refine Below.trans ?_ (Below.mono hbr ?_)) | go_size)))
    have zrw0 : w.heap.size < wr.heap.size := (by have := hbr.size; (try simp at this); omega)
    have qrw0 := fun o => hbr.cell (p := ⟨w.heap.size, o, none⟩) (by first | omega | (simp; done) | (simp; omega))
    have rrw0 := fun o => hbr.frozen (p := ⟨w.heap.size, o, none⟩) (by first | omega | (simp; done) | (simp; omega))
    have Hall := Lib.hid hall
    clear hall
    by_cases hlt2 : k < l.length
    · obtain ⟨b, off, rfl, hlt, g1⟩ := Hcell.out k hlt2
      have e1 := (hB.cell (p := ⟨b, off + k, none⟩) hlt).trans g1
      have hstep := Lib.hid (ofAll_snoc l k hlt2)
      clear g1
      generalize hX : ofAll (l.take k) = X at *
      by_cases hs : isSlot l[k]
      · have hs' : 0 ≤ l[k] ∧ l[k] < 96 := hs
        have Hs := Lib.hid hs
        clear hs
        have hd : (decide (0 ≤ l[k] ∧ l[k] < 96)) = true := decide_eq_true hs'
        generalize hy : l[k] = y at *
        go_wp2_with (go_at_call 62; refine (f_slot _ _).mono ?_; rintro e wx ⟨rfl, rfl⟩; rw [hd])
        refine wp_grow [(2, .val (MV (bit0 y) (bit1 y))), (3, .val (MV (X.1 ||| bit0 y) (X.2 ||| bit1 y)))] 4 (by kernel_rfl) (by kernel_rfl) (by rfl) (by rfl) ?_
        simp only [List.take_succ_cons, List.take_zero, List.drop_succ_cons, List.drop_zero]
        repeat (first
          | (apply Der.quiet; (rfl); (rfl); (intro w' hw' hctx; have hc' := bcell hw'; have qs := fun o => hw'.cell (p := ⟨w.heap.size + 1, o, none⟩) (by simp; omega); clear hctx; go_simp; first | exact rfl | exact ⟨rfl, rfl⟩); simp only [Act.put, List.setIfInBounds_toArray, List.set_cons_succ, List.set_cons_zero, Nat.reduceAdd])
          | (apply Der.skip; (rfl); simp only [Act.put, List.setIfInBounds_toArray, List.set_cons_succ, List.set_cons_zero, Nat.reduceAdd]))
        apply Der.val
        · rfl
        · rfl
        · (intro w' hw' hctx; go_simp; refine (f_bit y (by omega) (by omega) _).mono ?_; rintro e w2 ⟨rfl, hb⟩; exact ⟨_, rfl, rfl, hb⟩)
        simp only [Act.put, List.setIfInBounds_toArray, List.set_cons_succ, List.set_cons_zero, Nat.reduceAdd]
        apply Der.val
        · rfl
        · rfl
        · (intro w' hw' hctx; go_simp; refine (f_or _ _ _ _ _).mono ?_; rintro e w2 ⟨rfl, hb⟩; exact ⟨_, rfl, rfl, hb⟩)
        simp only [Act.put, List.setIfInBounds_toArray, List.set_cons_succ, List.set_cons_zero, Nat.reduceAdd]
        refine Der.nil (fun w2 hgw2 hctx => ?_)
        clear hctx
        have hb2 : Below _ _ w2 := hgw2
        clear hgw2
        have z2w0 : w.heap.size < w2.heap.size := (by have := hb2.size; (try simp at this); omega)
        have q2w0 := fun o => hb2.cell (p := ⟨w.heap.size, o, none⟩) (by first | omega | (simp; done) | (simp; omega))
        have r2w0 := fun o => hb2.frozen (p := ⟨w.heap.size, o, none⟩) (by first | omega | (simp; done) | (simp; omega))
        have z2w1 : w.heap.size + 1 < w2.heap.size := (by have := hb2.size; (try simp at this); omega)
        have q2w1 := fun o => hb2.cell (p := ⟨w.heap.size + 1, o, none⟩) (by first | omega | (simp; done) | (simp; omega))
        have r2w1 := fun o => hb2.frozen (p := ⟨w.heap.size + 1, o, none⟩) (by first | omega | (simp; done) | (simp; omega))
        go_wp2
        go_roundw
        case rel =>
          refine ⟨k + 1, by omega, by go_num, all_snoc hlt2 hy Hall.out Hs.out, ?_, ?_, ?_, ?_, ?_, ?_⟩
          · rw [hstep.out]; go_simp; rfl
          · rw [hstep.out]; go_simp; rfl
          · go_simp
          · go_simp
          · ((have shb2 := hb2.size); (try simp at shb2); (have shbr := hbr.size); (try simp at shbr); (repeat' (first | (with_reducible exact Below.refl _ _) | (with_reducible refine Below.setCell ?_ ?_ _) | (with_reducible refine Below.alloc ?_ ?_ _) | (with_reducible refine Below.drew ?_) | (with_reducible refine Below.trans ?_ (Below.mono hb2 ?_)) | (with_reducible refine Below.trans ?_ (Below.mono hbr ?_)) | go_size)))
          · simp; omega
        case measure => simp [intOf]; omega
      · have Hs := Lib.hid (ofPost_bad hlt2 hs)
        have hd : (decide (0 ≤ l[k] ∧ l[k] < 96)) = false := decide_eq_false hs
        clear hs hstep
        generalize hy : l[k] = y at *
        go_wp2_with (go_at_call 62; refine (f_slot _ _).mono ?_; rintro e wx ⟨rfl, rfl⟩; rw [hd])
        refine bodyPost_ret (v := .tuple #[.agg #[.int .u64 0, .int .u64 0], .int .i64 2]) (by simp only [results, Try.results68]; go_simp) rfl ⟨Hs.out, ?_⟩
        ((have shB := hB.size); (try simp at shB); (repeat' (first | (with_reducible exact Below.refl _ _) | (with_reducible refine Below.setCell ?_ ?_ _) | (with_reducible refine Below.alloc ?_ ?_ _) | (with_reducible refine Below.drew ?_) | (with_reducible refine Below.trans ?_ (Below.mono hB ?_)) | go_size)))
    · have : k = l.length := by omega
      subst this
      rw [List.take_length] at hc0 hc1' Hall
      have Hp := Lib.hid (ofPost_ok Hall.out)
      generalize hX : ofAll l = X at *
      go_wp2
      refine bodyPost_ret (v := .tuple #[MV X.1 X.2, .int .i64 0]) (by simp only [results, Try.results68]; go_simp) rfl ⟨Hp.out, ?_⟩
      ((have shB := hB.size); (try simp at shB); (repeat' (first | (with_reducible exact Below.refl _ _) | (with_reducible refine Below.setCell ?_ ?_ _) | (with_reducible refine Below.alloc ?_ ?_ _) | (with_reducible refine Below.drew ?_) | (with_reducible refine Below.trans ?_ (Below.mono hB ?_)) | go_size)))
end Go.Proofs.Ytlfmffjlmhpcdaa
