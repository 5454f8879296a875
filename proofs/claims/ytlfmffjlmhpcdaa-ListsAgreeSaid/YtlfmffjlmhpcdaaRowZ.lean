/- The bits of ranges of slots. -/
import Derived.Test.YtlfmffjlmhpcdaaMaskZ
import Derived.OwnWalk
import Derived.Laws.AppendOwn
namespace Go.Proofs.Ytlfmffjlmhpcdaa
open Go.RowKit
set_option maxRecDepth 100000

def rangeM (a b : Int) : M := (lowBits b &&& ~~~ lowBits a, lowBits (b - 64) &&& ~~~ lowBits (a - 64))
def belowM (n : Int) : M := (lowBits n, lowBits (n - 64))

theorem ones_bit (i : Nat) (h : i < 64) : ones.getLsbD i = true := by unfold ones; rw [BitVec.getLsbD_allOnes]; simp [h]
theorem low32_bit (i : Nat) (h : i < 64) : low32.getLsbD i = decide (i < 32) := by
  have : low32 = BitVec.ofNat 64 (2 ^ 32 - 1) := by decide
  rw [this, BitVec.getLsbD_ofNat, Nat.testBit_two_pow_sub_one]; simp [h]
theorem lowBits_bit (k : Int) (i : Nat) (h : i < 64) : (lowBits k).getLsbD i = decide ((i : Int) < k) := by
  unfold lowBits
  split
  · rw [ones_bit i h]; symm; simp; omega
  · split
    · rw [BitVec.getLsbD_ofNat, Nat.testBit_two_pow_sub_one]; simp [h]; try omega
    · simp; try omega
end Go.Proofs.Ytlfmffjlmhpcdaa

/- Rows that a call gathers by append; the bits of single slots. -/
namespace Go.Proofs.Ytlfmffjlmhpcdaa
open Go.RowKit
set_option maxRecDepth 100000

theorem info_int : (Try.prog.info? 3).map (fun i => (i.zero, i.size, i.bytes)) = some (some (.int .i64 0), 1, 8) := by kernel_rfl
theorem Ints.of_owns {w : World} {B n : Nat} {v : Value} {l : List Int} (h : w.ownsRow B 3 1 v n (l.map (Value.int .i64))) : Ints w v l := by
  have hn : l.length = n := by have := h.1; simpa using this
  subst hn
  rcases h.2 with ⟨rfl, h0⟩ | ⟨g, cap, cur, rfl, hB, hg, hl, hm, hs, hx⟩
  · have := List.eq_nil_of_length_eq_zero h0
    subst this
    exact Sl.nilS w
  · have hlt : g < w.heap.size := (Array.getElem?_eq_some_iff.1 hg).1
    have hm' : cap ≤ 9223372036854775807 := by unfold maxLen at hm; omega
    refine Sl.of_cells hlt hl hm' fun i hi => ?_
    have := h.cells (g := g) rfl i _ (List.getElem?_eq_getElem hi)
    have e : (⟨g, 0, none⟩ : Addr).add i = ⟨g, i, none⟩ := by unfold Addr.add; split <;> simp_all
    rw [e] at this
    exact this
theorem gather {B e : Nat} {w0 w w1 : World} {v : Value} {n : Nat} {xs : List Value} {o : Obj} (hB : Below B w0 w) (hb : B ≤ w.heap.size) (hown : w.ownsRow B e 1 v n xs) (hg : (w.alloc o).grownBy w1 v.ownBlock) :
    Below B w0 w1 ∧ B ≤ w1.heap.size := by
  have h1 : Below B w0 w1 := (hB.alloc hb o).grown hg (by simp; omega) (fun k hk => (hown.lt k hk).1)
  exact ⟨h1, by have := hg.size; simp at this; omega⟩

theorem bitW_bit (n : Int) (i : Nat) (h : i < 64) : (bitW n).getLsbD i = decide ((n % 64).toNat = i) := by
  unfold bitW; rw [BitVec.getLsbD_ofNat, Nat.testBit_two_pow]; simp [h]
theorem bit0_bit (n : Int) (i : Nat) (h : i < 64) (h0 : 0 ≤ n) : (bit0 n).getLsbD i = decide ((i : Int) = n) := by
  unfold bit0
  split
  · rw [bitW_bit n i h]; simp; omega
  · simp; omega
theorem bit1_bit (n : Int) (i : Nat) (h : i < 64) (h1 : n < 96) : (bit1 n).getLsbD i = decide ((i : Int) = n - 64) := by
  unfold bit1
  split
  · simp; omega
  · rw [bitW_bit n i h]; simp; omega

def seqL (a : Int) (j : Nat) : List Int := (List.range j).map fun (i : Nat) => a + (i : Int)
theorem seqL_succ (a : Int) (j : Nat) : seqL a (j + 1) = seqL a j ++ [a + j] := by unfold seqL; rw [List.range_succ, List.map_append]; rfl
theorem seqL_length (a : Int) (j : Nat) : (seqL a j).length = j := by unfold seqL; simp
theorem seqL_slot (a : Int) (j : Nat) (h0 : 0 ≤ a) (h1 : a + j ≤ 96) : ∀ x ∈ seqL a j, isSlot x := by
  intro x hx
  unfold seqL at hx
  obtain ⟨i, hi, rfl⟩ := List.mem_map.1 hx
  have := List.mem_range.1 hi
  constructor <;> omega
theorem ofAll_append (l : List Int) (x : Int) : ofAll (l ++ [x]) = mOr (ofAll l) (mBit x) := by unfold ofAll; rw [List.foldl_append]; rfl
theorem range_law (a : Int) (j : Nat) (h0 : 0 ≤ a) (h1 : a + j ≤ 96) : ofAll (seqL a j) = rangeM a (a + j) := by
  induction j with
  | zero =>
    show mZero = _
    unfold mZero rangeM
    refine Prod.ext ?_ ?_
    all_goals
      apply BitVec.eq_of_getLsbD_eq
      intro i hi
      simp [hi]
  | succ j ih =>
    rw [seqL_succ, ofAll_append, ih (by omega)]
    unfold mOr rangeM mBit
    refine Prod.ext ?_ ?_
    all_goals
      apply BitVec.eq_of_getLsbD_eq
      intro i hi
      simp only [BitVec.getLsbD_and, BitVec.getLsbD_or, BitVec.getLsbD_not, lowBits_bit _ i hi, bit0_bit _ i hi (show 0 ≤ a + (j : Int) by omega), bit1_bit _ i hi (show a + (j : Int) < 96 by omega), hi, decide_true, Bool.true_and]
      rw [Bool.eq_iff_iff]
      simp
      omega
end Go.Proofs.Ytlfmffjlmhpcdaa

/- The contracts of the document's answer for layer 10: with, Has, Of. -/
namespace Go.Proofs.Ytlfmffjlmhpcdaa
open Go.RowKit
set_option maxRecDepth 100000

theorem r_with (a b : BitVec 64) (n : Int) (h0 : 0 ≤ n) (h1 : n < 96) (w : World) : Calls Try.prog 76 #[MV a b, .int .i64 n] w fun e w' => e = .returned (MV (a ||| bit0 n) (b ||| bit1 n)) ∧ Below w.heap.size w w' := by
  have e2 : n.tmod 64 = n % 64 := Int.tmod_eq_emod_of_nonneg h0
  have e5 := U_bit n
  by_cases hn : n < 64
  · have e1 : IntKind.i64.wrap (n.tdiv 64) = 0 := by
      rw [Int.tdiv_eq_ediv_of_nonneg h0, show n / 64 = 0 by omega]; rfl
    have q0 : bit0 n = bitW n := by unfold bit0; rw [if_pos hn]
    have q1 : bit1 n = 0#64 := by unfold bit1; rw [if_pos hn]
    have H := Lib.hid (congr (congrArg MV (congrArg (a ||| ·) q0)) (congrArg (b ||| ·) q1))
    clear q0 q1
    go_enter Try.func76, Try.ntmps76
    go_wp2
    refine wp_grow [] 9 (by kernel_rfl) (by kernel_rfl) (by rfl) (by rfl) ?_
    simp only [List.take_succ_cons, List.take_zero, List.drop_succ_cons, List.drop_zero]
    repeat (first
      | (apply Der.quiet; (rfl); (rfl); (intro w' hw' hctx; have hc' := bcell hw'; have yw0 := fun o => hw'.cell (p := ⟨w.heap.size, o, none⟩) (by first | omega | (simp; done) | (simp; omega)); have yw1 := fun o => hw'.cell (p := ⟨w.heap.size + 1, o, none⟩) (by first | omega | (simp; done) | (simp; omega)); clear hctx; go_simp; first | exact rfl | exact ⟨rfl, rfl⟩); simp only [Act.put, List.setIfInBounds_toArray, List.set_cons_succ, List.set_cons_zero, Nat.reduceAdd])
      | (apply Der.skip; (rfl); simp only [Act.put, List.setIfInBounds_toArray, List.set_cons_succ, List.set_cons_zero, Nat.reduceAdd]))
    refine Der.nil (fun w2 hgw2 hctx => ?_)
    clear hctx
    have hb2 : Below _ _ w2 := hgw2
    clear hgw2
    have z2w0 : w.heap.size < w2.heap.size := (by have := hb2.size; (try simp at this); omega)
    have q2w0 := fun o => hb2.cell (p := ⟨w.heap.size, o, none⟩) (by first | omega | (simp; done) | (simp; omega))
    have r2w0 := fun o => hb2.frozen (p := ⟨w.heap.size, o, none⟩) (by first | omega | (simp; done) | (simp; omega))
    have z2w1 : w.heap.size + 1 < w2.heap.size := (by have := hb2.size; (try simp at this); omega)
    have q2w1 := fun o => hb2.cell (p := ⟨w.heap.size + 1, o, none⟩) (by first | omega | (simp; done) | (simp; omega))
    have r2w1 := fun o => hb2.frozen (p := ⟨w.heap.size + 1, o, none⟩) (by first | omega | (simp; done) | (simp; omega))
    go_wp2
    refine bodyPost_ret (v := MV (a ||| bitW n) b) (by simp only [results, Try.results76]; go_simp; rw [bits_or_U]) rfl ⟨?_, ?_⟩
    · rw [H.out]; simp
    · ((have shb2 := hb2.size); (try simp at shb2); (repeat' (first | (with_reducible exact Below.refl _ _) | (with_reducible refine Below.setCell ?_ ?_ _) | (with_reducible refine Below.alloc ?_ ?_ _) | (with_reducible refine Below.drew ?_) | (with_reducible refine Below.trans ?_ (Below.mono hb2 ?_)) | go_size)))
  · have e1 : IntKind.i64.wrap (n.tdiv 64) = 1 := by
      rw [Int.tdiv_eq_ediv_of_nonneg h0, show n / 64 = 1 by omega]; rfl
    have q0 : bit0 n = 0#64 := by unfold bit0; rw [if_neg hn]
    have q1 : bit1 n = bitW n := by unfold bit1; rw [if_neg hn]
    have H := Lib.hid (congr (congrArg MV (congrArg (a ||| ·) q0)) (congrArg (b ||| ·) q1))
    clear q0 q1
    go_enter Try.func76, Try.ntmps76
    go_wp2
    refine wp_grow [] 9 (by kernel_rfl) (by kernel_rfl) (by rfl) (by rfl) ?_
    simp only [List.take_succ_cons, List.take_zero, List.drop_succ_cons, List.drop_zero]
    repeat (first
      | (apply Der.quiet; (rfl); (rfl); (intro w' hw' hctx; have hc' := bcell hw'; have yw0 := fun o => hw'.cell (p := ⟨w.heap.size, o, none⟩) (by first | omega | (simp; done) | (simp; omega)); have yw1 := fun o => hw'.cell (p := ⟨w.heap.size + 1, o, none⟩) (by first | omega | (simp; done) | (simp; omega)); clear hctx; go_simp; first | exact rfl | exact ⟨rfl, rfl⟩); simp only [Act.put, List.setIfInBounds_toArray, List.set_cons_succ, List.set_cons_zero, Nat.reduceAdd])
      | (apply Der.skip; (rfl); simp only [Act.put, List.setIfInBounds_toArray, List.set_cons_succ, List.set_cons_zero, Nat.reduceAdd]))
    refine Der.nil (fun w2 hgw2 hctx => ?_)
    clear hctx
    have hb2 : Below _ _ w2 := hgw2
    clear hgw2
    have z2w0 : w.heap.size < w2.heap.size := (by have := hb2.size; (try simp at this); omega)
    have q2w0 := fun o => hb2.cell (p := ⟨w.heap.size, o, none⟩) (by first | omega | (simp; done) | (simp; omega))
    have r2w0 := fun o => hb2.frozen (p := ⟨w.heap.size, o, none⟩) (by first | omega | (simp; done) | (simp; omega))
    have z2w1 : w.heap.size + 1 < w2.heap.size := (by have := hb2.size; (try simp at this); omega)
    have q2w1 := fun o => hb2.cell (p := ⟨w.heap.size + 1, o, none⟩) (by first | omega | (simp; done) | (simp; omega))
    have r2w1 := fun o => hb2.frozen (p := ⟨w.heap.size + 1, o, none⟩) (by first | omega | (simp; done) | (simp; omega))
    go_wp2
    refine bodyPost_ret (v := MV a (b ||| bitW n)) (by simp only [results, Try.results76]; go_simp; rw [bits_or_U]) rfl ⟨?_, ?_⟩
    · rw [H.out]; simp
    · ((have shb2 := hb2.size); (try simp at shb2); (repeat' (first | (with_reducible exact Below.refl _ _) | (with_reducible refine Below.setCell ?_ ?_ _) | (with_reducible refine Below.alloc ?_ ?_ _) | (with_reducible refine Below.drew ?_) | (with_reducible refine Below.trans ?_ (Below.mono hb2 ?_)) | go_size)))

set_option maxHeartbeats 400000 in
theorem r_Of (v : Value) (l : List Int) (w : World) (h : Ints w v l) (hall : ∀ x ∈ l, isSlot x) : Calls Try.prog 91 #[v] w fun e w' => e = .returned (MV (ofAll l).1 (ofAll l).2) ∧ Below w.heap.size w w' := by
  obtain ⟨a, cap, rfl, hl, hm, hcell⟩ := h.open
  have Hcell := Lib.hid hcell
  have Hall := Lib.hid hall
  clear hcell h hall
  go_enter Try.func91, Try.ntmps91
  go_wp2
  go_loopw [8] (fun i wr => ∃ k : Nat, k ≤ l.length ∧ i = .int .i64 k ∧ wr.cell? ⟨w.heap.size + 1, 0, none⟩ = some (.int .u64 (U (ofAll (l.take k)).1)) ∧ wr.cell? ⟨w.heap.size + 1, 1, none⟩ = some (.int .u64 (U (ofAll (l.take k)).2)) ∧
      wr.frozen? ⟨w.heap.size + 1, 0, none⟩ = false ∧ wr.frozen? ⟨w.heap.size + 1, 1, none⟩ = false ∧
      Below (w.heap.size + 1) (w.alloc (.cells #[.int .u64 0, .int .u64 0] 49)) wr ∧ w.heap.size + 1 < wr.heap.size) (fun i _ => l.length - (intOf i).toNat)
  case atStart => exact ⟨0, Nat.zero_le _, rfl, by simp [ofAll, mZero, U_zero], by simp [ofAll, mZero, U_zero], by simp, by simp, (Below.refl _ _).alloc (by simp) _, by simp⟩
  case round =>
    obtain ⟨k, hk, rfl, hc0, hc1', hf0, hf1, hbr, hz⟩ := hrel
    have hB : Below w.heap.size w wr := by ((have shbr := hbr.size); (try simp at shbr); (repeat' (first | (with_reducible exact Below.refl _ _) | (with_reducible refine Below.setCell ?_ ?_ _) | (with_reducible refine Below.alloc ?_ ?_ _) | (with_reducible refine Below.drew ?_) | (with_reducible refine Below.trans ?_ (Below.mono hbr ?_)) | go_size)))
    have zrw0 : w.heap.size < wr.heap.size := (by have := hbr.size; (try simp at this); omega)
    have qrw0 := fun o => hbr.cell (p := ⟨w.heap.size, o, none⟩) (by first | omega | (simp; done) | (simp; omega))
    have rrw0 := fun o => hbr.frozen (p := ⟨w.heap.size, o, none⟩) (by first | omega | (simp; done) | (simp; omega))
    by_cases hlt2 : k < l.length
    · obtain ⟨b, off, rfl, hlt, g1⟩ := Hcell.out k hlt2
      have e1 := (hB.cell (p := ⟨b, off + k, none⟩) hlt).trans g1
      have hstep := Lib.hid (ofAll_snoc l k hlt2)
      clear g1
      generalize hX : ofAll (l.take k) = X at *
      have hs : 0 ≤ l[k] ∧ l[k] < 96 := Hall.out _ (List.getElem_mem hlt2)
      generalize hy : l[k] = y at *
      go_wp2_with (go_at_call 76; refine (r_with _ _ y (by omega) (by omega) _).mono ?_; rintro e w2 ⟨rfl, hb2⟩; have z2w0 : w.heap.size < w2.heap.size := (by have := hb2.size; (try simp at this); omega); have q2w0 := fun o => hb2.cell (p := ⟨w.heap.size, o, none⟩) (by first | omega | (simp; done) | (simp; omega)); have r2w0 := fun o => hb2.frozen (p := ⟨w.heap.size, o, none⟩) (by first | omega | (simp; done) | (simp; omega)); have z2w1 : w.heap.size + 1 < w2.heap.size := (by have := hb2.size; (try simp at this); omega); have q2w1 := fun o => hb2.cell (p := ⟨w.heap.size + 1, o, none⟩) (by first | omega | (simp; done) | (simp; omega)); have r2w1 := fun o => hb2.frozen (p := ⟨w.heap.size + 1, o, none⟩) (by first | omega | (simp; done) | (simp; omega)))
      go_roundw
      case rel =>
        refine ⟨k + 1, by omega, by go_num, ?_, ?_, ?_, ?_, ?_, ?_⟩
        · rw [hstep.out]; go_simp; rfl
        · rw [hstep.out]; go_simp; rfl
        · go_simp
        · go_simp
        · ((have shb2 := hb2.size); (try simp at shb2); (have shbr := hbr.size); (try simp at shbr); (repeat' (first | (with_reducible exact Below.refl _ _) | (with_reducible refine Below.setCell ?_ ?_ _) | (with_reducible refine Below.alloc ?_ ?_ _) | (with_reducible refine Below.drew ?_) | (with_reducible refine Below.trans ?_ (Below.mono hb2 ?_)) | (with_reducible refine Below.trans ?_ (Below.mono hbr ?_)) | go_size)))
        · simp; omega
      case measure => simp [intOf]; omega
    · have : k = l.length := by omega
      subst this
      rw [List.take_length] at hc0 hc1'
      generalize hX : ofAll l = X at *
      go_wp2
      subst hX
      refine bodyPost_ret (v := MV (ofAll l).1 (ofAll l).2) (by simp only [results, Try.results91]; go_simp) rfl ⟨rfl, ?_⟩
      ((have shB := hB.size); (try simp at shB); (repeat' (first | (with_reducible exact Below.refl _ _) | (with_reducible refine Below.setCell ?_ ?_ _) | (with_reducible refine Below.alloc ?_ ?_ _) | (with_reducible refine Below.drew ?_) | (with_reducible refine Below.trans ?_ (Below.mono hB ?_)) | go_size)))
end Go.Proofs.Ytlfmffjlmhpcdaa

/- The contracts of the document's answer for layer 10: Has, Slots. -/
namespace Go.Proofs.Ytlfmffjlmhpcdaa
open Go.RowKit
set_option maxRecDepth 100000

/-- Has a mask a slot? -/
def hasM (m : M) (n : Int) : Bool := if n < 64 then m.1.getLsbD (n % 64).toNat else m.2.getLsbD (n % 64).toNat
theorem shr_one (a : BitVec 64) (k : Nat) : (shrW k a &&& 1#64) = if a.getLsbD k then 1#64 else 0#64 := by
  apply BitVec.eq_of_getLsbD_eq
  intro i hi
  unfold shrW
  rw [BitVec.getLsbD_and, BitVec.getLsbD_ushiftRight]
  rcases Nat.eq_zero_or_pos i with rfl | h
  · cases h : a.getLsbD k <;> simp
  · have e : (1#64).getLsbD i = false := by simp [BitVec.getLsbD_one]; omega
    rw [e]
    cases h : a.getLsbD k <;> simp <;> omega
theorem U_has (a : BitVec 64) (n : Int) : (bits .and .u64 (U a / 2 ^ (n % 64).toNat) 1 == 1) = a.getLsbD (n % 64).toNat := by
  have e1 : (1 : Int) = U 1#64 := by decide
  have e2 : (2 : Int) ^ (n % 64).toNat = ((2 ^ (n % 64).toNat : Nat) : Int) := by simp
  rw [e2, U_shr, e1, bits_and_U, U_beq, shr_one]
  cases a.getLsbD (n % 64).toNat <;> decide

theorem r_Has (a b : BitVec 64) (n : Int) (h0 : 0 ≤ n) (h1 : n < 96) (w : World) : Calls Try.prog 50 #[MV a b, .int .i64 n] w fun e w' => e = .returned (.bool (hasM (a, b) n)) ∧ Below w.heap.size w w' := by
  have e2 : n.tmod 64 = n % 64 := Int.tmod_eq_emod_of_nonneg h0
  have HU := fun x => Lib.hid (U_has x n)
  by_cases hn : n < 64
  · have e1 : IntKind.i64.wrap (n.tdiv 64) = 0 := by
      rw [Int.tdiv_eq_ediv_of_nonneg h0, show n / 64 = 0 by omega]; rfl
    have H := Lib.hid (show hasM (a, b) n = a.getLsbD (n % 64).toNat by unfold hasM; rw [if_pos hn])
    go_enter Try.func50, Try.ntmps50
    go_wp2
    go_ret
    refine ⟨?_, ?_⟩
    · exact congrArg (fun x => Ending.returned (Value.bool x)) ((HU a).out.trans H.out.symm)
    · ((repeat' (first | (with_reducible exact Below.refl _ _) | (with_reducible refine Below.setCell ?_ ?_ _) | (with_reducible refine Below.alloc ?_ ?_ _) | (with_reducible refine Below.drew ?_) | (with_reducible refine Below.trans ?_ (Below.mono (by assumption) ?_)) | go_size)))
  · have e1 : IntKind.i64.wrap (n.tdiv 64) = 1 := by
      rw [Int.tdiv_eq_ediv_of_nonneg h0, show n / 64 = 1 by omega]; rfl
    have H := Lib.hid (show hasM (a, b) n = b.getLsbD (n % 64).toNat by unfold hasM; rw [if_neg hn])
    go_enter Try.func50, Try.ntmps50
    go_wp2
    go_ret
    refine ⟨?_, ?_⟩
    · exact congrArg (fun x => Ending.returned (Value.bool x)) ((HU b).out.trans H.out.symm)
    · ((repeat' (first | (with_reducible exact Below.refl _ _) | (with_reducible refine Below.setCell ?_ ?_ _) | (with_reducible refine Below.alloc ?_ ?_ _) | (with_reducible refine Below.drew ?_) | (with_reducible refine Below.trans ?_ (Below.mono (by assumption) ?_)) | go_size)))

theorem owns_below {w w' : World} {B e size n : Nat} {v : Value} {xs : List Value} (h : w.ownsRow B e size v n xs) (hb : Below w.heap.size w w') : w'.ownsRow B e size v n xs :=
  h.kept (row := none) ⟨hb.os, hb.tape, hb.output, hb.size, fun k hk _ => hb.block k hk⟩ (Classical.em _)
/-- The slots that a mask has, below k. -/
def slotsK (m : M) (k : Nat) : List Int := (seqL 0 k).filter (hasM m)
theorem slotsK_hit (m : M) (k : Nat) (h : hasM m k = true) : slotsK m (k + 1) = slotsK m k ++ [(k : Int)] := by
  unfold slotsK; rw [seqL_succ, List.filter_append, Int.zero_add, List.filter_cons_of_pos h]; rfl
theorem slotsK_miss (m : M) (k : Nat) (h : hasM m k = false) : slotsK m (k + 1) = slotsK m k := by
  unfold slotsK; rw [seqL_succ, List.filter_append, Int.zero_add, List.filter_cons_of_neg (by simp [h])]; simp
theorem slotsK_le (m : M) (k : Nat) : (slotsK m k).length ≤ k := by
  have := List.length_filter_le (hasM m) (seqL 0 k); rw [seqL_length] at this; exact this
theorem slotsK_slot (m : M) : ∀ x ∈ slotsK m 96, isSlot x := by
  intro x hx
  exact seqL_slot 0 96 (by omega) (by omega) x (List.mem_filter.1 hx).1

set_option maxHeartbeats 400000 in
theorem r_Slots (a b : BitVec 64) (w : World) : Calls Try.prog 75 #[MV a b] w fun e w' => (∃ v, e = .returned v ∧ w'.ownsRow (w.heap.size + 1) 3 1 v (slotsK (a, b) 96).length ((slotsK (a, b) 96).map (Value.int .i64))) ∧ Below w.heap.size w w' := by
  obtain ⟨i0, hi, hz0, hz1, hz2⟩ := info_parts info_int
  go_enter Try.func75, Try.ntmps75
  go_wp2
  go_loopw [3, 5] (fun v i wr => ∃ k : Nat, k ≤ 96 ∧ i = .int .i64 k ∧ wr.ownsRow (w.heap.size + 1) 3 1 v (slotsK (a, b) k).length ((slotsK (a, b) k).map (Value.int .i64)) ∧
      Below (w.heap.size + 1) (w.alloc (.cells #[.int .u64 (U a), .int .u64 (U b)] 49)) wr ∧ w.heap.size + 1 ≤ wr.heap.size) (fun _ i _ => 96 - (intOf i).toNat)
  case atStart => exact ⟨0, by omega, rfl, World.ownsRow_nil _ _ _ _, Below.refl _ _, by simp⟩
  case round =>
    obtain ⟨k, hk, rfl, hown, hbr, hsz⟩ := hrel
    have zrw0 : w.heap.size < wr.heap.size := (by have := hbr.size; (try simp at this); omega)
    have qrw0 := fun o => hbr.cell (p := ⟨w.heap.size, o, none⟩) (by first | omega | (simp; done) | (simp; omega))
    have rrw0 := fun o => hbr.frozen (p := ⟨w.heap.size, o, none⟩) (by first | omega | (simp; done) | (simp; omega))
    by_cases hlt : k < 96
    · cases hh : hasM (a, b) k
      · have HH := Lib.hid hh
        have R := Lib.hid (slotsK_miss (a, b) k hh)
        clear hh
        go_wp2_with (go_at_call 50; refine (r_Has _ _ k (by omega) (by omega) _).mono ?_; rintro e w2 ⟨rfl, hb2⟩; have z2w0 : w.heap.size < w2.heap.size := (by have := hb2.size; (try simp at this); omega); have q2w0 := fun o => hb2.cell (p := ⟨w.heap.size, o, none⟩) (by first | omega | (simp; done) | (simp; omega)); have r2w0 := fun o => hb2.frozen (p := ⟨w.heap.size, o, none⟩) (by first | omega | (simp; done) | (simp; omega)); rw [HH.out])
        go_roundw
        case rel => exact ⟨k + 1, by omega, by go_num, by rw [R.out]; exact owns_below hown hb2, by ((have shb2 := hb2.size); (try simp at shb2); (have shbr := hbr.size); (try simp at shbr); (repeat' (first | (with_reducible exact Below.refl _ _) | (with_reducible refine Below.setCell ?_ ?_ _) | (with_reducible refine Below.alloc ?_ ?_ _) | (with_reducible refine Below.drew ?_) | (with_reducible refine Below.trans ?_ (Below.mono hb2 ?_)) | (with_reducible refine Below.trans ?_ (Below.mono hbr ?_)) | go_size))), by have := hb2.size; omega⟩
        case measure => simp [intOf]; omega
      · have HH := Lib.hid hh
        have R := Lib.hid (slotsK_hit (a, b) k hh)
        have hle := slotsK_le (a, b) k
        clear hh
        go_wp2_with (first | (go_at_call 50; refine (r_Has _ _ k (by omega) (by omega) _).mono ?_; rintro e w2 ⟨rfl, hb2⟩; rw [HH.out]; replace hown := owns_below hown hb2) | (at_builtin; refine wpList_append_own _ rfl _ _ 46 rfl (w.heap.size + 1) 3 i0 (.int .i64 0) 1 8 Try.underlying46 hi hz0 hz1 hz2 rfl (by decide) _ _ _ rfl (hown.alloc _) ⟨w2.heap.size, 0, none⟩ 1 1 [.int .i64 k] rfl rfl (by intro a u ha; match a, ha with | 0, ha => simp at ha; subst ha; simp [Addr.add]) (by intro u hu; simp at hu; subst hu; rfl) (by unfold maxLen; omega) (by omega) (by have := hb2.size; simp; omega) ?_; intro v' w4 hown' hgrow _))
        have s2 := hb2.size
        have hB2 : Below (w.heap.size + 1) (w.alloc (.cells #[.int .u64 (U a), .int .u64 (U b)] 49)) w2 := by ((have shb2 := hb2.size); (try simp at shb2); (have shbr := hbr.size); (try simp at shbr); (repeat' (first | (with_reducible exact Below.refl _ _) | (with_reducible refine Below.setCell ?_ ?_ _) | (with_reducible refine Below.alloc ?_ ?_ _) | (with_reducible refine Below.drew ?_) | (with_reducible refine Below.trans ?_ (Below.mono hb2 ?_)) | (with_reducible refine Below.trans ?_ (Below.mono hbr ?_)) | go_size)))
        obtain ⟨G1, G2⟩ := gather hB2 (by omega) hown hgrow
        clear hown hgrow
        go_wp2
        go_roundw
        case rel => exact ⟨k + 1, by omega, by go_num, by rw [R.out, List.map_append, List.length_append]; exact hown', G1, G2⟩
        case measure => simp [intOf]; omega
    · have e3 : k = 96 := by omega
      subst e3
      have HI := Lib.hid hown
      clear hown
      go_wp2
      go_ret
      exact ⟨⟨_, rfl, HI.out⟩, by ((have shbr := hbr.size); (try simp at shbr); (repeat' (first | (with_reducible exact Below.refl _ _) | (with_reducible refine Below.setCell ?_ ?_ _) | (with_reducible refine Below.alloc ?_ ?_ _) | (with_reducible refine Below.drew ?_) | (with_reducible refine Below.trans ?_ (Below.mono hbr ?_)) | go_size)))⟩

/-- What an owned row of numbers reads as. -/
theorem owns_open {w : World} {B n : Nat} {v : Value} {l : List Int} (h : w.ownsRow B 3 1 v n (l.map (Value.int .i64))) : ∃ a cap, v = .slice a l.length cap ∧ l.length ≤ cap ∧ cap ≤ 9223372036854775807 ∧
    ∀ i (hi : i < l.length), ∃ g, a = some ⟨g, 0, none⟩ ∧ B ≤ g ∧ g < w.heap.size ∧ w.cell? ⟨g, i, none⟩ = some (.int .i64 l[i]) := by
  have hn : l.length = n := by have := h.1; simpa using this
  subst hn
  rcases h.2 with ⟨rfl, h0⟩ | ⟨g, cap, cur, rfl, hB, hg, hl, hm, hs, hx⟩
  · exact ⟨none, 0, by rw [h0], by omega, by omega, fun i hi => by omega⟩
  · have hlt : g < w.heap.size := (Array.getElem?_eq_some_iff.1 hg).1
    have hm' : cap ≤ 9223372036854775807 := by unfold maxLen at hm; omega
    refine ⟨_, cap, rfl, hl, hm', fun i hi => ⟨g, rfl, hB, hlt, ?_⟩⟩
    have := h.cells (g := g) rfl i (.int .i64 l[i]) (by simp [hi])
    have e : (⟨g, 0, none⟩ : Addr).add i = ⟨g, i, none⟩ := by unfold Addr.add; split <;> simp_all
    rw [e] at this
    exact this
theorem but_refl (w : World) (row : Option Nat) : w.grownBy w row := ⟨rfl, rfl, rfl, Nat.le_refl _, fun _ _ _ => rfl⟩
theorem but_below {w w' w'' : World} {row : Option Nat} (h : w.grownBy w' row) (hb : Below w'.heap.size w' w'') : w.grownBy w'' row :=
  ⟨hb.os.trans h.os, hb.tape.trans h.tape, hb.output.trans h.output, Nat.le_trans h.size hb.size, fun k hk hr => (hb.block k (Nat.lt_of_lt_of_le hk h.size)).trans (h.block k hk hr)⟩
theorem but_setCell {w w' : World} {n o : Nat} (h : w.grownBy w' (some n)) (u : Value) : w.grownBy (w'.setCell ⟨n, o, none⟩ u) (some n) :=
  ⟨h.os, h.tape, h.output, by have := h.size; simpa [World.setCell] using this, fun k hk hr => (Below.heap_setCell _ _ _ _ (fun e => hr (by rw [e]))).trans (h.block k hk hr)⟩
theorem but_alloc {w w' : World} {row : Option Nat} (h : w.grownBy w' row) (o : Obj) : w.grownBy (w'.alloc o) row :=
  but_below h ((Below.refl _ _).alloc (Nat.le_refl _) _)
theorem but_drew {w w' : World} {row : Option Nat} (h : w.grownBy w' row) : w.grownBy w'.drew row :=
  but_below h (Below.refl _ _).drew
theorem but_cell {w w' : World} {n : Nat} (h : w.grownBy w' (some n)) {p : Addr} (h1 : p.block < w.heap.size) (h2 : p.block ≠ n) : w'.cell? p = w.cell? p :=
  World.cell?_of_block (w := w) (h.block p.block h1 (by simp [h2]))
theorem but_frozen {w w' : World} {n : Nat} (h : w.grownBy w' (some n)) {p : Addr} (h1 : p.block < w.heap.size) (h2 : p.block ≠ n) : w'.frozen? p = w.frozen? p :=
  World.frozen?_of_block (w := w) (h.block p.block h1 (by simp [h2]))
end Go.Proofs.Ytlfmffjlmhpcdaa
