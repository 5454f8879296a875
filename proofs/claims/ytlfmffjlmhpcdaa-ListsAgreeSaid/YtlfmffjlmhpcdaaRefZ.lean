/- The contracts of the document's answer for layer 10: Minus, Or, And. -/
import Derived.Test.YtlfmffjlmhpcdaaRowZ
namespace Go.Proofs.Ytlfmffjlmhpcdaa
open Go.RowKit
set_option maxRecDepth 100000

def minusL (a b : M) (j : Nat) : List Int := ((slotsK a 96).take j).filter fun n => !hasM b n
theorem minusL_hit (a b : M) (j : Nat) (h : j < (slotsK a 96).length) (hh : hasM b (slotsK a 96)[j] = false) : ofAll (minusL a b (j + 1)) = mOr (ofAll (minusL a b j)) (mBit (slotsK a 96)[j]) := by
  unfold minusL; rw [List.take_succ_eq_append_getElem h, List.filter_append, List.filter_cons_of_pos (by simp [hh]), List.filter_nil, ofAll_append]
theorem minusL_miss (a b : M) (j : Nat) (h : j < (slotsK a 96).length) (hh : hasM b (slotsK a 96)[j] = true) : minusL a b (j + 1) = minusL a b j := by
  unfold minusL; rw [List.take_succ_eq_append_getElem h, List.filter_append, List.filter_cons_of_neg (by simp [hh])]; simp

end Go.Proofs.Ytlfmffjlmhpcdaa

/- The contracts of the document's answer for layer 10: And, Or. -/
namespace Go.Proofs.Ytlfmffjlmhpcdaa
open Go.RowKit
set_option maxRecDepth 100000

def andL (l : List M) (k : Nat) : List Int := (seqL 0 k).filter fun n => l.all fun m => hasM m n
theorem andL_hit (l : List M) (k : Nat) (h : (l.all fun m => hasM m k) = true) : ofAll (andL l (k + 1)) = mOr (ofAll (andL l k)) (mBit k) := by
  unfold andL; rw [seqL_succ, List.filter_append, Int.zero_add, List.filter_cons_of_pos (p := fun n : Int => l.all fun m => hasM m n) h, List.filter_nil, ofAll_append]
theorem andL_miss (l : List M) (k : Nat) (h : (l.all fun m => hasM m k) = false) : andL l (k + 1) = andL l k := by
  unfold andL; rw [seqL_succ, List.filter_append, Int.zero_add, List.filter_cons_of_neg (by simp only [h]; decide)]; simp
theorem all_take (l : List M) (p : M → Bool) (j : Nat) (h : j < l.length) : (l.take (j + 1)).all p = ((l.take j).all p && p l[j]) := by
  rw [List.take_succ_eq_append_getElem h, List.all_append]; simp

end Go.Proofs.Ytlfmffjlmhpcdaa

/- The contract of the document's answer for layer 10: Or. -/
namespace Go.Proofs.Ytlfmffjlmhpcdaa
open Go.RowKit
set_option maxRecDepth 100000

def orL (l : List M) (k : Nat) : List Int := (l.take k).flatMap fun m => slotsK m 96
theorem orL_succ (l : List M) (k : Nat) (h : k < l.length) : orL l (k + 1) = orL l k ++ slotsK l[k] 96 := by
  unfold orL; rw [List.take_succ_eq_append_getElem h, List.flatMap_append]; simp
theorem ofAll_snoc2 (P L : List Int) (j : Nat) (h : j < L.length) : ofAll (P ++ L.take (j + 1)) = mOr (ofAll (P ++ L.take j)) (mBit L[j]) := by
  rw [List.take_succ_eq_append_getElem h, ← List.append_assoc, ofAll_append]

set_option maxHeartbeats 1000000 in
theorem r_Or (v : Value) (l : List M) (w : World) (h : Masks w v l) : Calls Try.prog 37 #[v] w fun e w' => e = .returned (MV (ofAll (orL l l.length)).1 (ofAll (orL l l.length)).2) ∧ Below w.heap.size w w' := by
  obtain ⟨a, cap, rfl, hl, hm, hcell⟩ := h.open
  have Hcell := Lib.hid hcell
  clear hcell h
  go_enter Try.func37, Try.ntmps37
  go_wp2
  go_loopw [10] (fun i wr => ∃ k : Nat, k ≤ l.length ∧ i = .int .i64 k ∧ wr.cell? ⟨w.heap.size + 1, 0, none⟩ = some (.int .u64 (U (ofAll (orL l k)).1)) ∧ wr.cell? ⟨w.heap.size + 1, 1, none⟩ = some (.int .u64 (U (ofAll (orL l k)).2)) ∧
      wr.frozen? ⟨w.heap.size + 1, 0, none⟩ = false ∧ wr.frozen? ⟨w.heap.size + 1, 1, none⟩ = false ∧
      Below (w.heap.size + 1) (w.alloc (.cells #[.int .u64 0, .int .u64 0] 49)) wr ∧ w.heap.size + 1 < wr.heap.size) (fun i _ => l.length - (intOf i).toNat)
  case atStart => exact ⟨0, Nat.zero_le _, rfl, by simp [orL, ofAll, mZero, U_zero], by simp [orL, ofAll, mZero, U_zero], by simp, by simp, (Below.refl _ _).alloc (by simp) _, by simp⟩
  case round =>
    obtain ⟨wo, hwo⟩ : ∃ wo, wo = wr := ⟨_, rfl⟩
    subst hwo
    obtain ⟨k, hk, rfl, hc0, hc1', hf0, hf1, hbo, hz⟩ := hrel
    have hB : Below w.heap.size w wo := by ((have shbo := hbo.size); (try simp at shbo); (repeat' (first | (with_reducible exact Below.refl _ _) | (with_reducible refine Below.setCell ?_ ?_ _) | (with_reducible refine Below.alloc ?_ ?_ _) | (with_reducible refine Below.drew ?_) | (with_reducible refine Below.trans ?_ (Below.mono hbo ?_)) | go_size)))
    have zow0 : w.heap.size < wo.heap.size := (by have := hbo.size; (try simp at this); omega)
    have qow0 := fun o => hbo.cell (p := ⟨w.heap.size, o, none⟩) (by first | omega | (simp; done) | (simp; omega))
    have row0 := fun o => hbo.frozen (p := ⟨w.heap.size, o, none⟩) (by first | omega | (simp; done) | (simp; omega))
    by_cases hlt2 : k < l.length
    · obtain ⟨b, off, rfl, hlt, g1, g2⟩ := Hcell.out k hlt2
      have e1 := (hB.cell (p := ⟨b, off + k * 2, none⟩) hlt).trans g1
      have e2 := (hB.cell (p := ⟨b, off + k * 2 + 1, none⟩) hlt).trans g2
      have HP := Lib.hid (orL_succ l k hlt2)
      clear g1 g2
      generalize l[k] = y at *
      obtain ⟨y1, y2⟩ := y
      go_wp2_with fail
      refine (r_Slots _ _ _).mono ?_
      rintro e w1 ⟨⟨v, rfl, hI⟩, hb1⟩
      have z1w0 : w.heap.size < w1.heap.size := (by have := hb1.size; (try simp at this); omega)
      have q1w0 := fun o => hb1.cell (p := ⟨w.heap.size, o, none⟩) (by first | omega | (simp; done) | (simp; omega))
      have r1w0 := fun o => hb1.frozen (p := ⟨w.heap.size, o, none⟩) (by first | omega | (simp; done) | (simp; omega))
      have z1w1 : w.heap.size + 1 < w1.heap.size := (by have := hb1.size; (try simp at this); omega)
      have q1w1 := fun o => hb1.cell (p := ⟨w.heap.size + 1, o, none⟩) (by first | omega | (simp; done) | (simp; omega))
      have r1w1 := fun o => hb1.frozen (p := ⟨w.heap.size + 1, o, none⟩) (by first | omega | (simp; done) | (simp; omega))
      obtain ⟨p, cap2, rfl, hl3, hm3, hcell⟩ := owns_open hI
      have Hc := Lib.hid hcell
      have hle := slotsK_le (y1, y2) 96
      have HS := Lib.hid (slotsK_slot (y1, y2))
      clear hcell hI
      generalize hL : slotsK (y1, y2) 96 = L at *
      generalize hP : orL l k = P at *
      have HT := Lib.hid (ofAll_snoc2 P L)
      clear hL
      go_wp2
      go_loopw [17] (fun i wr => ∃ j : Nat, j ≤ L.length ∧ i = .int .i64 j ∧ wr.cell? ⟨w.heap.size + 1, 0, none⟩ = some (.int .u64 (U (ofAll (P ++ L.take j)).1)) ∧ wr.cell? ⟨w.heap.size + 1, 1, none⟩ = some (.int .u64 (U (ofAll (P ++ L.take j)).2)) ∧
          wr.frozen? ⟨w.heap.size + 1, 0, none⟩ = false ∧ wr.frozen? ⟨w.heap.size + 1, 1, none⟩ = false ∧ w1.grownBy wr (some (w.heap.size + 1))) (fun i _ => L.length - (intOf i).toNat)
      case atStart => exact ⟨0, Nat.zero_le _, rfl, by rw [List.take_zero, List.append_nil]; go_simp, by rw [List.take_zero, List.append_nil]; go_simp, by go_simp, by go_simp, but_refl _ _⟩
      case round =>
        obtain ⟨j, hj, rfl, hd0, hd1, hh0, hh1, hg⟩ := hrel
        have hsz := hg.size
        have p3 : w.heap.size + 1 < wr.heap.size := by omega
        by_cases hlt3 : j < L.length
        · obtain ⟨g, rfl, hBg, hltg, g1⟩ := Hc.out j hlt3
          have e3 := (but_cell hg (p := ⟨g, j, none⟩) hltg (by simp at hBg ⊢; omega)).trans g1
          have hs : 0 ≤ L[j] ∧ L[j] < 96 := HS.out _ (List.getElem_mem hlt3)
          have hstep := Lib.hid (HT.out j hlt3)
          clear g1
          generalize hX : ofAll (P ++ L.take j) = X at *
          generalize hy : L[j] = y at *
          go_wp2_with (go_at_call 76; refine (r_with _ _ y (by omega) (by omega) _).mono ?_; rintro e w3 ⟨rfl, hb3⟩; have z3w0 : w.heap.size < w3.heap.size := (by have := hb3.size; (try simp at this); omega); have q3w0 := fun o => hb3.cell (p := ⟨w.heap.size, o, none⟩) (by first | omega | (simp; done) | (simp; omega)); have r3w0 := fun o => hb3.frozen (p := ⟨w.heap.size, o, none⟩) (by first | omega | (simp; done) | (simp; omega)); have z3w1 : w.heap.size + 1 < w3.heap.size := (by have := hb3.size; (try simp at this); omega); have q3w1 := fun o => hb3.cell (p := ⟨w.heap.size + 1, o, none⟩) (by first | omega | (simp; done) | (simp; omega)); have r3w1 := fun o => hb3.frozen (p := ⟨w.heap.size + 1, o, none⟩) (by first | omega | (simp; done) | (simp; omega)))
          go_roundw
          case rel =>
            refine ⟨j + 1, by omega, by go_num, ?_, ?_, ?_, ?_, ?_⟩
            · rw [hstep.out]; go_simp; rfl
            · rw [hstep.out]; go_simp; rfl
            · go_simp
            · go_simp
            · exact but_setCell (but_setCell (but_below hg hb3) _) _
          case measure => simp [intOf]; omega
        · have : j = L.length := by omega
          subst this
          rw [List.take_length, ← HP.out] at hd0 hd1
          have hB4 : Below (w.heap.size + 1) (w.alloc (.cells #[.int .u64 0, .int .u64 0] 49)) wr := (show Below (w.heap.size + 1) _ w1 by ((have shb1 := hb1.size); (try simp at shb1); (have shbo := hbo.size); (try simp at shbo); (repeat' (first | (with_reducible exact Below.refl _ _) | (with_reducible refine Below.setCell ?_ ?_ _) | (with_reducible refine Below.alloc ?_ ?_ _) | (with_reducible refine Below.drew ?_) | (with_reducible refine Below.trans ?_ (Below.mono hb1 ?_)) | (with_reducible refine Below.trans ?_ (Below.mono hbo ?_)) | go_size)))).grown hg (by omega) (by intro q hq; simp at hq; omega)
          go_wp2
          go_roundw
          case rel => exact ⟨k + 1, by omega, by go_num, hd0, hd1, hh0, hh1, hB4, p3⟩
          case measure => simp [intOf]; omega
    · have : k = l.length := by omega
      subst this
      generalize hP : orL l l.length = P at *
      have HP := Lib.hid hP
      clear hP
      go_wp2
      refine bodyPost_ret (v := MV (ofAll P).1 (ofAll P).2) (by simp only [results, Try.results37]; go_simp) rfl ⟨by rw [HP.out], ?_⟩
      ((have shB := hB.size); (try simp at shB); (repeat' (first | (with_reducible exact Below.refl _ _) | (with_reducible refine Below.setCell ?_ ?_ _) | (with_reducible refine Below.alloc ?_ ?_ _) | (with_reducible refine Below.drew ?_) | (with_reducible refine Below.trans ?_ (Below.mono hB ?_)) | go_size)))
end Go.Proofs.Ytlfmffjlmhpcdaa

/- The plain laws beneath MaskSets: what the masks answer is what the document answers, slot by slot. -/
namespace Go.Proofs.Ytlfmffjlmhpcdaa
open Go.RowKit
set_option maxRecDepth 100000

theorem fold_or1 (l : List Int) (z : M) (i : Nat) (h : i < 64) (hl : ∀ x ∈ l, isSlot x) : (l.foldl (fun m n => mOr m (mBit n)) z).1.getLsbD i = (z.1.getLsbD i || decide ((i : Int) ∈ l)) := by
  induction l generalizing z with
  | nil => simp
  | cons x l ih =>
    rw [List.foldl_cons, ih _ (fun y hy => hl y (List.mem_cons_of_mem _ hy))]
    have hx := hl x (by simp)
    simp only [mOr, mBit, BitVec.getLsbD_or, bit0_bit x i h hx.1, List.mem_cons]
    cases z.1.getLsbD i <;> simp
theorem fold_or2 (l : List Int) (z : M) (i : Nat) (h : i < 64) (hl : ∀ x ∈ l, isSlot x) : (l.foldl (fun m n => mOr m (mBit n)) z).2.getLsbD i = (z.2.getLsbD i || decide ((i : Int) + 64 ∈ l)) := by
  induction l generalizing z with
  | nil => simp
  | cons x l ih =>
    rw [List.foldl_cons, ih _ (fun y hy => hl y (List.mem_cons_of_mem _ hy))]
    have hx := hl x (by simp)
    have e : ((i : Int) = x - 64) = ((i : Int) + 64 = x) := by apply propext; omega
    simp only [mOr, mBit, BitVec.getLsbD_or, bit1_bit x i h hx.2, List.mem_cons, e]
    cases z.2.getLsbD i <;> simp
theorem ofAll_bit1 (l : List Int) (i : Nat) (h : i < 64) (hl : ∀ x ∈ l, isSlot x) : (ofAll l).1.getLsbD i = decide ((i : Int) ∈ l) := by
  unfold ofAll; rw [fold_or1 l mZero i h hl]; simp [mZero]
theorem ofAll_bit2 (l : List Int) (i : Nat) (h : i < 64) (hl : ∀ x ∈ l, isSlot x) : (ofAll l).2.getLsbD i = decide ((i : Int) + 64 ∈ l) := by
  unfold ofAll; rw [fold_or2 l mZero i h hl]; simp [mZero]
theorem mem_seqL (x : Int) (k : Nat) : x ∈ seqL 0 k ↔ 0 ≤ x ∧ x < k := by
  unfold seqL
  rw [List.mem_map]
  constructor
  · rintro ⟨a, ha, rfl⟩
    have := List.mem_range.1 ha
    omega
  · rintro ⟨h0, h1⟩
    exact ⟨x.toNat, List.mem_range.2 (by omega), by omega⟩
theorem hasM_1 (m : M) (i : Nat) (h : i < 64) : hasM m i = m.1.getLsbD i := by
  unfold hasM; rw [if_pos (by omega), show ((i : Int) % 64).toNat = i by omega]
theorem hasM_2 (m : M) (i : Nat) (h : i < 64) : hasM m ((i : Int) + 64) = m.2.getLsbD i := by
  unfold hasM; rw [if_neg (by omega), show (((i : Int) + 64) % 64).toNat = i by omega]
theorem mem_slotsK (m : M) (x : Int) (k : Nat) : x ∈ slotsK m k ↔ (0 ≤ x ∧ x < k) ∧ hasM m x = true := by
  unfold slotsK; rw [List.mem_filter, mem_seqL]
theorem mem_andL (l : List M) (x : Int) (k : Nat) : x ∈ andL l k ↔ (0 ≤ x ∧ x < k) ∧ ∀ m ∈ l, hasM m x = true := by
  unfold andL; rw [List.mem_filter, mem_seqL, List.all_eq_true]
theorem mem_minusL (a b : M) (x : Int) : x ∈ minusL a b 96 ↔ ((0 ≤ x ∧ x < 96) ∧ hasM a x = true) ∧ hasM b x = false := by
  unfold minusL; rw [List.take_of_length_le (slotsK_le a 96), List.mem_filter, mem_slotsK]; simp
theorem mem_orL (l : List M) (x : Int) : x ∈ orL l l.length ↔ (0 ≤ x ∧ x < 96) ∧ ∃ m ∈ l, hasM m x = true := by
  unfold orL; rw [List.take_length, List.mem_flatMap]
  simp only [mem_slotsK]
  constructor
  · rintro ⟨m, hm, h, h2⟩; exact ⟨h, m, hm, h2⟩
  · rintro ⟨h, m, hm, h2⟩; exact ⟨m, hm, h, h2⟩
theorem andL_slot (l : List M) : ∀ x ∈ andL l 96, isSlot x := fun x hx => ((mem_andL l x 96).1 hx).1
theorem minusL_slot (a b : M) : ∀ x ∈ minusL a b 96, isSlot x := fun x hx => ((mem_minusL a b x).1 hx).1.1
theorem orL_slot (l : List M) : ∀ x ∈ orL l l.length, isSlot x := fun x hx => ((mem_orL l x).1 hx).1

theorem and_bits (l : List M) (z : M) (i : Nat) : (l.foldl mAnd z).1.getLsbD i = (z.1.getLsbD i && l.all fun m => m.1.getLsbD i) ∧ (l.foldl mAnd z).2.getLsbD i = (z.2.getLsbD i && l.all fun m => m.2.getLsbD i) := by
  induction l generalizing z with
  | nil => simp
  | cons x l ih =>
    rw [List.foldl_cons, (ih _).1, (ih _).2]
    simp only [mAnd, BitVec.getLsbD_and, List.all_cons, Bool.and_assoc]
    exact ⟨trivial, trivial⟩
theorem or_bits (l : List M) (z : M) (i : Nat) : (l.foldl mOr z).1.getLsbD i = (z.1.getLsbD i || l.any fun m => m.1.getLsbD i) ∧ (l.foldl mOr z).2.getLsbD i = (z.2.getLsbD i || l.any fun m => m.2.getLsbD i) := by
  induction l generalizing z with
  | nil => simp
  | cons x l ih =>
    rw [List.foldl_cons, (ih _).1, (ih _).2]
    simp only [mOr, BitVec.getLsbD_or, List.any_cons, Bool.or_assoc]
    exact ⟨trivial, trivial⟩

theorem set_and (l : List M) : ofAll (andL l 96) = andAll l := by
  refine Prod.ext ?_ ?_
  · apply BitVec.eq_of_getLsbD_eq
    intro i hi
    rw [ofAll_bit1 _ i hi (andL_slot l), andAll, (and_bits l mAll i).1, mAll, ones_bit i hi, Bool.true_and, Bool.eq_iff_iff, decide_eq_true_eq, mem_andL, List.all_eq_true]
    constructor
    · rintro ⟨-, h⟩ m hm; have := h m hm; rwa [hasM_1 m i hi] at this
    · intro h; exact ⟨⟨by omega, by omega⟩, fun m hm => by rw [hasM_1 m i hi]; exact h m hm⟩
  · apply BitVec.eq_of_getLsbD_eq
    intro i hi
    rw [ofAll_bit2 _ i hi (andL_slot l), andAll, (and_bits l mAll i).2, mAll, low32_bit i hi, Bool.eq_iff_iff, decide_eq_true_eq, mem_andL, Bool.and_eq_true, List.all_eq_true, decide_eq_true_eq]
    constructor
    · rintro ⟨h0, h⟩; exact ⟨by omega, fun m hm => by have := h m hm; rwa [hasM_2 m i hi] at this⟩
    · rintro ⟨h0, h⟩; exact ⟨⟨by omega, by omega⟩, fun m hm => by rw [hasM_2 m i hi]; exact h m hm⟩
theorem set_or (l : List M) : ofAll (orL l l.length) = orF l := by
  refine Prod.ext ?_ ?_
  · apply BitVec.eq_of_getLsbD_eq
    intro i hi
    rw [ofAll_bit1 _ i hi (orL_slot l)]
    simp only [orF, mAnd, mAll, orAll, BitVec.getLsbD_and, ones_bit i hi, Bool.and_true]
    rw [(or_bits l mZero i).1]
    simp only [mZero, BitVec.getLsbD_zero, Bool.false_or]
    rw [Bool.eq_iff_iff, decide_eq_true_eq, mem_orL, List.any_eq_true]
    constructor
    · rintro ⟨-, m, hm, h⟩; exact ⟨m, hm, by rwa [hasM_1 m i hi] at h⟩
    · rintro ⟨m, hm, h⟩; exact ⟨⟨by omega, by omega⟩, m, hm, by rw [hasM_1 m i hi]; exact h⟩
  · apply BitVec.eq_of_getLsbD_eq
    intro i hi
    rw [ofAll_bit2 _ i hi (orL_slot l)]
    simp only [orF, mAnd, mAll, orAll, BitVec.getLsbD_and, low32_bit i hi]
    rw [(or_bits l mZero i).2]
    simp only [mZero, BitVec.getLsbD_zero, Bool.false_or]
    rw [Bool.eq_iff_iff, decide_eq_true_eq, mem_orL, Bool.and_eq_true, List.any_eq_true, decide_eq_true_eq]
    constructor
    · rintro ⟨h0, m, hm, h⟩; exact ⟨⟨m, hm, by rwa [hasM_2 m i hi] at h⟩, by omega⟩
    · rintro ⟨⟨m, hm, h⟩, h0⟩; exact ⟨⟨by omega, by omega⟩, m, hm, by rw [hasM_2 m i hi]; exact h⟩
theorem set_minus (a b : M) : ofAll (minusL a b 96) = mAnd (mMinus a b) mAll := by
  refine Prod.ext ?_ ?_
  · apply BitVec.eq_of_getLsbD_eq
    intro i hi
    rw [ofAll_bit1 _ i hi (minusL_slot a b)]
    simp only [mAnd, mAll, mMinus, BitVec.getLsbD_and, BitVec.getLsbD_not, ones_bit i hi, Bool.and_true, hi, decide_true, Bool.true_and]
    rw [Bool.eq_iff_iff, decide_eq_true_eq, mem_minusL, hasM_1 a i hi, hasM_1 b i hi]
    cases a.1.getLsbD i <;> cases b.1.getLsbD i <;> simp <;> omega
  · apply BitVec.eq_of_getLsbD_eq
    intro i hi
    rw [ofAll_bit2 _ i hi (minusL_slot a b)]
    simp only [mAnd, mAll, mMinus, BitVec.getLsbD_and, BitVec.getLsbD_not, low32_bit i hi, hi, decide_true, Bool.true_and]
    rw [Bool.eq_iff_iff, decide_eq_true_eq, mem_minusL, hasM_2 a i hi, hasM_2 b i hi]
    cases a.2.getLsbD i <;> cases b.2.getLsbD i <;> simp <;> omega
theorem set_not (m : M) : ofAll (minusL (ofAll (andL [] 96)) m 96) = (ones &&& ~~~ m.1, low32 &&& ~~~ m.2) := by
  rw [set_minus, set_and]
  simp only [andAll, List.foldl_nil, mAnd, mMinus, mAll]
  refine Prod.ext ?_ ?_
  all_goals
    apply BitVec.eq_of_getLsbD_eq
    intro i hi
    simp only [BitVec.getLsbD_and, BitVec.getLsbD_not, low32_bit i hi, ones_bit i hi]
    cases decide (i < 32) <;> simp
end Go.Proofs.Ytlfmffjlmhpcdaa

/- The contracts of With, Without, of the document's Slot, Right, With, Without. -/
namespace Go.Proofs.Ytlfmffjlmhpcdaa
open Go.RowKit
set_option maxRecDepth 100000

theorem r_Slot (n : Int) (w : World) : Calls Try.prog 32 #[.int .i64 n] w fun e w' => e = .returned (.bool (decide (0 ≤ n ∧ n < 96))) ∧ w' = w := by
  go_enter Try.func32, Try.ntmps32
  go_wp2
  all_goals go_ret
  · exact ⟨by simp; omega, rfl⟩
  · exact ⟨by simp; omega, rfl⟩
theorem slots_all (m : M) : ofAll (slotsK m 96) = mAnd m mAll := by
  have hs := slotsK_slot m
  refine Prod.ext ?_ ?_
  · apply BitVec.eq_of_getLsbD_eq
    intro i hi
    rw [ofAll_bit1 _ i hi hs]
    simp only [mAnd, mAll, BitVec.getLsbD_and, ones_bit i hi, Bool.and_true]
    rw [Bool.eq_iff_iff, decide_eq_true_eq, mem_slotsK, hasM_1 m i hi]
    cases m.1.getLsbD i <;> simp <;> omega
  · apply BitVec.eq_of_getLsbD_eq
    intro i hi
    rw [ofAll_bit2 _ i hi hs]
    simp only [mAnd, mAll, BitVec.getLsbD_and, low32_bit i hi]
    rw [Bool.eq_iff_iff, decide_eq_true_eq, mem_slotsK, hasM_2 m i hi]
    cases m.2.getLsbD i <;> simp <;> omega
theorem chk_low (b : BitVec 64) : (b &&& low32 == b) = decide (chk b = 0) := by
  unfold chk
  have key : (b &&& low32 = b) ↔ (b &&& ~~~low32 = 0#64) := by
    constructor
    · intro h
      apply BitVec.eq_of_getLsbD_eq
      intro i hi
      have := congrArg (fun x => BitVec.getLsbD x i) h
      simp only [BitVec.getLsbD_and] at this
      simp only [BitVec.getLsbD_and, BitVec.getLsbD_not, BitVec.getLsbD_zero]
      cases hb : b.getLsbD i <;> cases hl : low32.getLsbD i <;> simp_all
    · intro h
      apply BitVec.eq_of_getLsbD_eq
      intro i hi
      have := congrArg (fun x => BitVec.getLsbD x i) h
      simp only [BitVec.getLsbD_and, BitVec.getLsbD_not, BitVec.getLsbD_zero] at this
      simp only [BitVec.getLsbD_and]
      cases hb : b.getLsbD i <;> cases hl : low32.getLsbD i <;> simp_all
  by_cases h : b &&& ~~~low32 = 0#64
  · rw [if_pos h]; simp [key.2 h]
  · rw [if_neg h]; simp; exact fun e => h (key.1 e)
theorem chk_or (b : BitVec 64) : chk b = 0 ∨ chk b = 200 := by unfold chk; split <;> simp

set_option maxHeartbeats 400000 in
theorem r_Right (a b : BitVec 64) (w : World) : Calls Try.prog 49 #[MV a b] w fun e w' => e = .returned (.bool (decide (chk b = 0))) ∧ Below w.heap.size w w' := by
  have h1 : (a &&& ones == a) = true := by unfold ones; rw [BitVec.and_allOnes]; simp
  have h2 := chk_low b
  generalize decide (chk b = 0) = R at *
  have HL := Lib.hid (slots_all (a, b))
  have HS := Lib.hid (slotsK_slot (a, b))
  generalize hL : slotsK (a, b) 96 = L at *
  have HLL := Lib.hid hL
  clear hL
  go_enter Try.func49, Try.ntmps49
  go_wp2
  refine wp_grow [(1, .rel (fun v w => Ints w v L) (fun _ _ _ h hg => h.grown hg)), (2, .val (MV (a &&& ones) (b &&& low32)))] 5 (by kernel_rfl) (by kernel_rfl) (by rfl) (by rfl) ?_
  simp only [List.take_succ_cons, List.take_zero, List.drop_succ_cons, List.drop_zero]
  repeat (first
    | (apply Der.quiet; (rfl); (rfl); (intro w' hw' hctx; have hc' := bcell hw'; have yw0 := fun o => hw'.cell (p := ⟨w.heap.size, o, none⟩) (by first | omega | (simp; done) | (simp; omega)); clear hctx; go_simp; first | exact rfl | exact ⟨rfl, rfl⟩); simp only [Act.put, List.setIfInBounds_toArray, List.set_cons_succ, List.set_cons_zero, Nat.reduceAdd])
    | (apply Der.skip; (rfl); simp only [Act.put, List.setIfInBounds_toArray, List.set_cons_succ, List.set_cons_zero, Nat.reduceAdd]))
  refine Der.rel (by rfl) (by rfl) (fun w' hw' hctx => ?_) (fun v1 => ?_)
  · (go_simp; refine (r_Slots _ _ _).mono ?_; rintro e w2 ⟨⟨v, rfl, hI⟩, hb⟩; exact ⟨_, rfl, HLL.out ▸ Ints.of_owns hI, hb⟩)
  simp only [Act.put, List.setIfInBounds_toArray, List.set_cons_succ, List.set_cons_zero, Nat.reduceAdd]
  apply Der.val
  · rfl
  · rfl
  · (intro w' hw' hctx; go_simp; refine (r_Of _ L _ (hctx 1 _ _ (by kernel_rfl) rfl rfl) HS.out).mono ?_; rintro e w2 ⟨rfl, hb⟩; exact ⟨_, rfl, by rw [HL.out]; rfl, hb⟩)
  simp only [Act.put, List.setIfInBounds_toArray, List.set_cons_succ, List.set_cons_zero, Nat.reduceAdd]
  repeat (first
    | (apply Der.quiet; (rfl); (rfl); (intro w' hw' hctx; have hc' := bcell hw'; have yw0 := fun o => hw'.cell (p := ⟨w.heap.size, o, none⟩) (by first | omega | (simp; done) | (simp; omega)); clear hctx; go_simp; first | exact rfl | exact ⟨rfl, rfl⟩); simp only [Act.put, List.setIfInBounds_toArray, List.set_cons_succ, List.set_cons_zero, Nat.reduceAdd])
    | (apply Der.skip; (rfl); simp only [Act.put, List.setIfInBounds_toArray, List.set_cons_succ, List.set_cons_zero, Nat.reduceAdd]))
  refine Der.nil (fun w2 hgw2 hctx => ?_)
  clear hctx
  have hb2 : Below _ _ w2 := hgw2
  clear hgw2
  have z2w0 : w.heap.size < w2.heap.size := (by have := hb2.size; (try simp at this); omega)
  have q2w0 := fun o => hb2.cell (p := ⟨w.heap.size, o, none⟩) (by first | omega | (simp; done) | (simp; omega))
  have r2w0 := fun o => hb2.frozen (p := ⟨w.heap.size, o, none⟩) (by first | omega | (simp; done) | (simp; omega))
  go_wp2
  go_ret
  refine ⟨rfl, ?_⟩
  ((have shb2 := hb2.size); (try simp at shb2); (repeat' (first | (with_reducible exact Below.refl _ _) | (with_reducible refine Below.setCell ?_ ?_ _) | (with_reducible refine Below.alloc ?_ ?_ _) | (with_reducible refine Below.drew ?_) | (with_reducible refine Below.trans ?_ (Below.mono hb2 ?_)) | go_size)))

def withoutL (a : M) (n : Int) (j : Nat) : List Int := ((slotsK a 96).take j).filter fun x => !(x == n)
theorem withoutL_hit (a : M) (n : Int) (j : Nat) (h : j < (slotsK a 96).length) (hh : ¬ (slotsK a 96)[j] = n) : ofAll (withoutL a n (j + 1)) = mOr (ofAll (withoutL a n j)) (mBit (slotsK a 96)[j]) := by
  unfold withoutL; rw [List.take_succ_eq_append_getElem h, List.filter_append, List.filter_cons_of_pos (by simp [hh]), List.filter_nil, ofAll_append]
theorem withoutL_miss (a : M) (n : Int) (j : Nat) (h : j < (slotsK a 96).length) (hh : (slotsK a 96)[j] = n) : withoutL a n (j + 1) = withoutL a n j := by
  unfold withoutL; rw [List.take_succ_eq_append_getElem h, List.filter_append, List.filter_cons_of_neg (by simp [hh])]; simp
theorem mem_withoutL (a : M) (n x : Int) : x ∈ withoutL a n 96 ↔ ((0 ≤ x ∧ x < 96) ∧ hasM a x = true) ∧ ¬ x = n := by
  unfold withoutL; rw [List.take_of_length_le (slotsK_le a 96), List.mem_filter, mem_slotsK]; simp
theorem chk_bit {b : BitVec 64} (h : chk b = 0) (i : Nat) (hb : b.getLsbD i = true) : i < 32 := by
  have e : b &&& low32 = b := by have := chk_low b; rw [h] at this; simpa using this
  have h64 : i < 64 := BitVec.lt_of_getLsbD hb
  have := congrArg (fun x => BitVec.getLsbD x i) e
  simp only [BitVec.getLsbD_and, low32_bit i h64, hb] at this
  simpa using this
theorem set_without (m : M) (n : Int) (h : chk m.2 = 0) (h0 : 0 ≤ n) (h1 : n < 96) : ofAll (withoutL m n 96) = (m.1 &&& ~~~ bit0 n, m.2 &&& ~~~ bit1 n) := by
  have hs : ∀ x ∈ withoutL m n 96, isSlot x := fun x hx => ((mem_withoutL m n x).1 hx).1.1
  refine Prod.ext ?_ ?_
  · apply BitVec.eq_of_getLsbD_eq
    intro i hi
    rw [ofAll_bit1 _ i hi hs]
    simp only [BitVec.getLsbD_and, BitVec.getLsbD_not, bit0_bit n i hi h0, hi, decide_true, Bool.true_and]
    rw [Bool.eq_iff_iff, decide_eq_true_eq, mem_withoutL, hasM_1 m i hi]
    cases m.1.getLsbD i <;> simp <;> omega
  · apply BitVec.eq_of_getLsbD_eq
    intro i hi
    rw [ofAll_bit2 _ i hi hs]
    have hb := chk_bit h i
    simp only [BitVec.getLsbD_and, BitVec.getLsbD_not, bit1_bit n i hi h1, hi, decide_true, Bool.true_and]
    rw [Bool.eq_iff_iff, decide_eq_true_eq, mem_withoutL, hasM_2 m i hi]
    revert hb
    cases m.2.getLsbD i <;> simp <;> omega

set_option maxHeartbeats 400000 in
theorem r_Without (a b : BitVec 64) (n : Int) (w : World) : Calls Try.prog 74 #[MV a b, .int .i64 n] w fun e w' => e = .returned (MV (ofAll (withoutL (a, b) n 96)).1 (ofAll (withoutL (a, b) n 96)).2) ∧ Below w.heap.size w w' := by
  go_enter Try.func74, Try.ntmps74
  go_wp2_with fail
  refine (r_Slots _ _ _).mono ?_
  rintro e w1 ⟨⟨v, rfl, hI⟩, hb1⟩
  have z1w0 : w.heap.size < w1.heap.size := (by have := hb1.size; (try simp at this); omega)
  have q1w0 := fun o => hb1.cell (p := ⟨w.heap.size, o, none⟩) (by first | omega | (simp; done) | (simp; omega))
  have r1w0 := fun o => hb1.frozen (p := ⟨w.heap.size, o, none⟩) (by first | omega | (simp; done) | (simp; omega))
  have z1w1 : w.heap.size + 1 < w1.heap.size := (by have := hb1.size; (try simp at this); omega)
  have q1w1 := fun o => hb1.cell (p := ⟨w.heap.size + 1, o, none⟩) (by first | omega | (simp; done) | (simp; omega))
  have r1w1 := fun o => hb1.frozen (p := ⟨w.heap.size + 1, o, none⟩) (by first | omega | (simp; done) | (simp; omega))
  have z1w2 : w.heap.size + 1 + 1 < w1.heap.size := (by have := hb1.size; (try simp at this); omega)
  have q1w2 := fun o => hb1.cell (p := ⟨w.heap.size + 1 + 1, o, none⟩) (by first | omega | (simp; done) | (simp; omega))
  have r1w2 := fun o => hb1.frozen (p := ⟨w.heap.size + 1 + 1, o, none⟩) (by first | omega | (simp; done) | (simp; omega))
  obtain ⟨p, cap, rfl, hl, hm, hcell⟩ := owns_open hI
  have Hcell := Lib.hid hcell
  have hle := slotsK_le (a, b) 96
  have HS := Lib.hid (slotsK_slot (a, b))
  have HE := Lib.hid (show withoutL (a, b) n 96 = withoutL (a, b) n (slotsK (a, b) 96).length by unfold withoutL; rw [List.take_of_length_le hle, List.take_length])
  have HN := Lib.hid (withoutL_miss (a, b) n)
  have HY := Lib.hid (withoutL_hit (a, b) n)
  have HZ := Lib.hid (show ofAll (withoutL (a, b) n 0) = mZero by unfold withoutL ofAll; rw [List.take_zero]; rfl)
  clear hcell hI
  generalize hL : slotsK (a, b) 96 = L at *
  generalize hF : withoutL (a, b) n = F at *
  have HF := Lib.hid hF
  clear hF
  clear hL
  go_wp2
  go_loopw [11] (fun i wr => ∃ k : Nat, k ≤ L.length ∧ i = .int .i64 k ∧ wr.cell? ⟨w.heap.size + 1 + 1, 0, none⟩ = some (.int .u64 (U (ofAll (F k)).1)) ∧ wr.cell? ⟨w.heap.size + 1 + 1, 1, none⟩ = some (.int .u64 (U (ofAll (F k)).2)) ∧
      wr.frozen? ⟨w.heap.size + 1 + 1, 0, none⟩ = false ∧ wr.frozen? ⟨w.heap.size + 1 + 1, 1, none⟩ = false ∧ w1.grownBy wr (some (w.heap.size + 1 + 1))) (fun i _ => L.length - (intOf i).toNat)
  case atStart => exact ⟨0, Nat.zero_le _, rfl, by rw [HZ.out]; go_simp; rfl, by rw [HZ.out]; go_simp; rfl, by go_simp, by go_simp, but_refl _ _⟩
  case round =>
    obtain ⟨k, hk, rfl, hc0, hc1', hf0, hf1, hg⟩ := hrel
    have hsz := hg.size
    have p0 := fun o => but_cell hg (p := ⟨w.heap.size, o, none⟩) (show _ < _ by simp only []; omega) (by simp only [ne_eq]; omega)
    have p1 := fun o => but_cell hg (p := ⟨w.heap.size + 1, o, none⟩) (show _ < _ by simp only []; omega) (by simp only [ne_eq]; omega)
    have p2 := fun o => but_frozen hg (p := ⟨w.heap.size + 1, o, none⟩) (show _ < _ by simp only []; omega) (by simp only [ne_eq]; omega)
    have p3 : w.heap.size + 1 + 1 < wr.heap.size := by omega
    by_cases hlt2 : k < L.length
    · obtain ⟨g, rfl, hBg, hlt, g1⟩ := Hcell.out k hlt2
      have e1 := (but_cell hg (p := ⟨g, k, none⟩) hlt (by simp at hBg ⊢; omega)).trans g1
      have hs : 0 ≤ L[k] ∧ L[k] < 96 := HS.out _ (List.getElem_mem hlt2)
      clear g1
      by_cases hh : L[k] = n
      · have hstep := Lib.hid (HN.out k hlt2 hh)
        generalize hX : F k = X at *
        generalize hy : L[k] = y at *
        subst hh
        go_wp2
        go_roundw
        case rel =>
          refine ⟨k + 1, by omega, by go_num, ?_, ?_, ?_, ?_, hg⟩
          all_goals (try rw [hstep.out])
          all_goals go_simp
        case measure => simp [intOf]; omega
      · have hstep := Lib.hid (HY.out k hlt2 hh)
        generalize hX : ofAll (F k) = X at *
        generalize hy : L[k] = y at *
        go_wp2_with (go_at_call 76; refine (r_with _ _ y (by omega) (by omega) _).mono ?_; rintro e w3 ⟨rfl, hb3⟩; have z3w0 : w.heap.size < w3.heap.size := (by have := hb3.size; (try simp at this); omega); have q3w0 := fun o => hb3.cell (p := ⟨w.heap.size, o, none⟩) (by first | omega | (simp; done) | (simp; omega)); have r3w0 := fun o => hb3.frozen (p := ⟨w.heap.size, o, none⟩) (by first | omega | (simp; done) | (simp; omega)); have z3w1 : w.heap.size + 1 < w3.heap.size := (by have := hb3.size; (try simp at this); omega); have q3w1 := fun o => hb3.cell (p := ⟨w.heap.size + 1, o, none⟩) (by first | omega | (simp; done) | (simp; omega)); have r3w1 := fun o => hb3.frozen (p := ⟨w.heap.size + 1, o, none⟩) (by first | omega | (simp; done) | (simp; omega)); have z3w2 : w.heap.size + 1 + 1 < w3.heap.size := (by have := hb3.size; (try simp at this); omega); have q3w2 := fun o => hb3.cell (p := ⟨w.heap.size + 1 + 1, o, none⟩) (by first | omega | (simp; done) | (simp; omega)); have r3w2 := fun o => hb3.frozen (p := ⟨w.heap.size + 1 + 1, o, none⟩) (by first | omega | (simp; done) | (simp; omega)))
        go_roundw
        case rel =>
          refine ⟨k + 1, by omega, by go_num, ?_, ?_, ?_, ?_, ?_⟩
          · rw [hstep.out]; go_simp; rfl
          · rw [hstep.out]; go_simp; rfl
          · go_simp
          · go_simp
          · exact but_setCell (but_setCell (but_below hg hb3) _) _
        case measure => simp [intOf]; omega
    · have : k = L.length := by omega
      subst this
      rw [← HE.out] at hc0 hc1'
      go_wp2
      refine bodyPost_ret (v := MV (ofAll (F 96)).1 (ofAll (F 96)).2) (by simp only [results, Try.results74]; go_simp) rfl ⟨by rw [HF.out], ?_⟩
      have hB : Below w.heap.size w wr := (show Below w.heap.size w w1 by ((have shb1 := hb1.size); (try simp at shb1); (repeat' (first | (with_reducible exact Below.refl _ _) | (with_reducible refine Below.setCell ?_ ?_ _) | (with_reducible refine Below.alloc ?_ ?_ _) | (with_reducible refine Below.drew ?_) | (with_reducible refine Below.trans ?_ (Below.mono hb1 ?_)) | go_size)))).grown hg (by omega) (by intro q hq; simp at hq; omega)
      ((have shB := hB.size); (try simp at shB); (repeat' (first | (with_reducible exact Below.refl _ _) | (with_reducible refine Below.setCell ?_ ?_ _) | (with_reducible refine Below.alloc ?_ ?_ _) | (with_reducible refine Below.drew ?_) | (with_reducible refine Below.trans ?_ (Below.mono hB ?_)) | go_size)))

theorem r_With (a b : BitVec 64) (n : Int) (h0 : 0 ≤ n) (h1 : n < 96) (w : World) : Calls Try.prog 72 #[MV a b, .int .i64 n] w fun e w' => e = .returned (MV (a ||| bit0 n) (b ||| bit1 n)) ∧ Below w.heap.size w w' := by
  go_enter Try.func72, Try.ntmps72
  go_wp2_with (go_at_call 76; refine (r_with _ _ _ h0 h1 _).mono ?_; rintro e w1 ⟨rfl, hb1⟩; have z1w0 : w.heap.size < w1.heap.size := (by have := hb1.size; (try simp at this); omega); have q1w0 := fun o => hb1.cell (p := ⟨w.heap.size, o, none⟩) (by first | omega | (simp; done) | (simp; omega)); have r1w0 := fun o => hb1.frozen (p := ⟨w.heap.size, o, none⟩) (by first | omega | (simp; done) | (simp; omega)); have z1w1 : w.heap.size + 1 < w1.heap.size := (by have := hb1.size; (try simp at this); omega); have q1w1 := fun o => hb1.cell (p := ⟨w.heap.size + 1, o, none⟩) (by first | omega | (simp; done) | (simp; omega)); have r1w1 := fun o => hb1.frozen (p := ⟨w.heap.size + 1, o, none⟩) (by first | omega | (simp; done) | (simp; omega)))
  refine bodyPost_ret (v := MV (a ||| bit0 n) (b ||| bit1 n)) (by simp only [results, Try.results72]; go_simp) rfl ⟨rfl, ?_⟩
  ((have shb1 := hb1.size); (try simp at shb1); (repeat' (first | (with_reducible exact Below.refl _ _) | (with_reducible refine Below.setCell ?_ ?_ _) | (with_reducible refine Below.alloc ?_ ?_ _) | (with_reducible refine Below.drew ?_) | (with_reducible refine Below.trans ?_ (Below.mono hb1 ?_)) | go_size)))
theorem f_With_bad (a b : BitVec 64) (n : Int) (h : chk b = 200) (w : World) : Calls Try.prog 97 #[MV a b, .int .i64 n] w fun e w' => e = .returned (.tuple #[.agg #[.int .u64 0, .int .u64 0], .int .i64 200]) ∧ Below w.heap.size w w' := by
  go_enter Try.func97, Try.ntmps97
  go_wp2_with (go_at_call 114; refine (f_with_bad 57 _ _ _ h _).mono ?_; rintro e w1 ⟨rfl, hb1⟩; have z1w0 : w.heap.size < w1.heap.size := (by have := hb1.size; (try simp at this); omega); have q1w0 := fun o => hb1.cell (p := ⟨w.heap.size, o, none⟩) (by first | omega | (simp; done) | (simp; omega)); have r1w0 := fun o => hb1.frozen (p := ⟨w.heap.size, o, none⟩) (by first | omega | (simp; done) | (simp; omega)); have z1w1 : w.heap.size + 1 < w1.heap.size := (by have := hb1.size; (try simp at this); omega); have q1w1 := fun o => hb1.cell (p := ⟨w.heap.size + 1, o, none⟩) (by first | omega | (simp; done) | (simp; omega)); have r1w1 := fun o => hb1.frozen (p := ⟨w.heap.size + 1, o, none⟩) (by first | omega | (simp; done) | (simp; omega)))
  refine bodyPost_ret (v := .tuple #[.agg #[.int .u64 0, .int .u64 0], .int .i64 200]) (by simp only [results, Try.results97]; go_simp) rfl ⟨rfl, ?_⟩
  ((have shb1 := hb1.size); (try simp at shb1); (repeat' (first | (with_reducible exact Below.refl _ _) | (with_reducible refine Below.setCell ?_ ?_ _) | (with_reducible refine Below.alloc ?_ ?_ _) | (with_reducible refine Below.drew ?_) | (with_reducible refine Below.trans ?_ (Below.mono hb1 ?_)) | go_size)))
theorem f_With_arg (a b : BitVec 64) (n : Int) (h : chk b = 0) (hs : ¬ isSlot n) (w : World) : Calls Try.prog 97 #[MV a b, .int .i64 n] w fun e w' => e = .returned (.tuple #[.agg #[.int .u64 0, .int .u64 0], .int .i64 2]) ∧ Below w.heap.size w w' := by
  go_enter Try.func97, Try.ntmps97
  go_wp2_with (go_at_call 114; refine (f_with_arg 57 _ _ _ h hs _).mono ?_; rintro e w1 ⟨rfl, hb1⟩; have z1w0 : w.heap.size < w1.heap.size := (by have := hb1.size; (try simp at this); omega); have q1w0 := fun o => hb1.cell (p := ⟨w.heap.size, o, none⟩) (by first | omega | (simp; done) | (simp; omega)); have r1w0 := fun o => hb1.frozen (p := ⟨w.heap.size, o, none⟩) (by first | omega | (simp; done) | (simp; omega)); have z1w1 : w.heap.size + 1 < w1.heap.size := (by have := hb1.size; (try simp at this); omega); have q1w1 := fun o => hb1.cell (p := ⟨w.heap.size + 1, o, none⟩) (by first | omega | (simp; done) | (simp; omega)); have r1w1 := fun o => hb1.frozen (p := ⟨w.heap.size + 1, o, none⟩) (by first | omega | (simp; done) | (simp; omega)))
  refine bodyPost_ret (v := .tuple #[.agg #[.int .u64 0, .int .u64 0], .int .i64 2]) (by simp only [results, Try.results97]; go_simp) rfl ⟨rfl, ?_⟩
  ((have shb1 := hb1.size); (try simp at shb1); (repeat' (first | (with_reducible exact Below.refl _ _) | (with_reducible refine Below.setCell ?_ ?_ _) | (with_reducible refine Below.alloc ?_ ?_ _) | (with_reducible refine Below.drew ?_) | (with_reducible refine Below.trans ?_ (Below.mono hb1 ?_)) | go_size)))
theorem f_With_ok (a b : BitVec 64) (n : Int) (h : chk b = 0) (hs : isSlot n) (w : World) : Calls Try.prog 97 #[MV a b, .int .i64 n] w fun e w' => e = .returned (.tuple #[MV (a ||| bit0 n) (b ||| bit1 n), .int .i64 0]) ∧ Below w.heap.size w w' := by
  go_enter Try.func97, Try.ntmps97
  go_wp2_with (go_at_call 114; refine (f_with_ok 57 (enters_of Try.func57 (by kernel_rfl) rfl) (fun x y => x ||| y) f_or _ _ _ h hs _).mono ?_; rintro e w1 ⟨rfl, hb1⟩; have z1w0 : w.heap.size < w1.heap.size := (by have := hb1.size; (try simp at this); omega); have q1w0 := fun o => hb1.cell (p := ⟨w.heap.size, o, none⟩) (by first | omega | (simp; done) | (simp; omega)); have r1w0 := fun o => hb1.frozen (p := ⟨w.heap.size, o, none⟩) (by first | omega | (simp; done) | (simp; omega)); have z1w1 : w.heap.size + 1 < w1.heap.size := (by have := hb1.size; (try simp at this); omega); have q1w1 := fun o => hb1.cell (p := ⟨w.heap.size + 1, o, none⟩) (by first | omega | (simp; done) | (simp; omega)); have r1w1 := fun o => hb1.frozen (p := ⟨w.heap.size + 1, o, none⟩) (by first | omega | (simp; done) | (simp; omega)))
  refine bodyPost_ret (v := .tuple #[MV (a ||| bit0 n) (b ||| bit1 n), .int .i64 0]) (by simp only [results, Try.results97]; go_simp) rfl ⟨rfl, ?_⟩
  ((have shb1 := hb1.size); (try simp at shb1); (repeat' (first | (with_reducible exact Below.refl _ _) | (with_reducible refine Below.setCell ?_ ?_ _) | (with_reducible refine Below.alloc ?_ ?_ _) | (with_reducible refine Below.drew ?_) | (with_reducible refine Below.trans ?_ (Below.mono hb1 ?_)) | go_size)))
end Go.Proofs.Ytlfmffjlmhpcdaa
