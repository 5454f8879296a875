/- The plain law of ListsDoes: slots taken out one by one, and all at once; masks put together one by one. -/
import Derived.Test.YtlfmffjlmhpcdaaDoes2
import Derived.Test.YtlfmffjlmhpcdaaUnionZ
namespace Go.Proofs.Ytlfmffjlmhpcdaa
open Go.RowKit
set_option maxRecDepth 100000

theorem withL_map (f : M → M) (ms : List M) : withL (fun _ m => f m) ms ms.length = ms.map f := by
  apply List.ext_getElem
  · simp [withL]
  · intro i h1 h2
    have hi : i < ms.length := by simpa using h2
    have e : (withL (fun _ m => f m) ms ms.length)[i] = f (mAt ms i) := by simp [withL]
    rw [e, mAt_get hi, List.getElem_map]
/-- Slots taken out one by one; what is none is passed over. -/
def delK (l : List Int) (m : M) : M := l.foldl (fun m n => if 0 ≤ n ∧ n < 96 then lessM n m else m) m
theorem delK_hit {l : List Int} {k : Nat} (hk : k < l.length) (h : 0 ≤ l[k] ∧ l[k] < 96) (m : M) : delK (l.take (k + 1)) m = lessM l[k] (delK (l.take k) m) := by
  unfold delK
  rw [List.take_succ_eq_append_getElem hk, List.foldl_append]
  simp only [List.foldl_cons, List.foldl_nil]
  rw [if_pos h]
theorem delK_miss {l : List Int} {k : Nat} (hk : k < l.length) (h : ¬ (0 ≤ l[k] ∧ l[k] < 96)) (m : M) : delK (l.take (k + 1)) m = delK (l.take k) m := by
  unfold delK
  rw [List.take_succ_eq_append_getElem hk, List.foldl_append]
  simp only [List.foldl_cons, List.foldl_nil]
  rw [if_neg h]
theorem del_hit {ms : List M} {l : List Int} {k : Nat} (hk : k < l.length) (h : 0 ≤ l[k] ∧ l[k] < 96) : ms.map (delK (l.take (k + 1))) = withL (fun _ m => lessM l[k] m) (ms.map (delK (l.take k))) (ms.map (delK (l.take k))).length := by
  rw [withL_map, List.map_map]
  refine List.map_congr_left fun m _ => ?_
  exact delK_hit hk h m
theorem del_miss {ms : List M} {l : List Int} {k : Nat} (hk : k < l.length) (h : ¬ (0 ≤ l[k] ∧ l[k] < 96)) : ms.map (delK (l.take (k + 1))) = ms.map (delK (l.take k)) :=
  List.map_congr_left fun m _ => delK_miss hk h m
theorem chk_and {b : BitVec 64} (h : chk b = 0) (x : BitVec 64) : chk (b &&& x) = 0 := by
  have e : b &&& low32 = b := by have := chk_low b; rw [h] at this; simpa using this
  have e2 : (b &&& x) &&& low32 = b &&& x := by
    apply BitVec.eq_of_getLsbD_eq
    intro i hi
    have := congrArg (fun z => BitVec.getLsbD z i) e
    simp only [BitVec.getLsbD_and] at this ⊢
    revert this
    cases b.getLsbD i <;> cases low32.getLsbD i <;> simp
  have h2 := chk_low (b &&& x)
  rw [e2] at h2
  simpa using h2.symm
theorem not_or_bits (m o b : BitVec 64) : (m &&& ~~~o) &&& ~~~b = m &&& ~~~(o ||| b) := by
  apply BitVec.eq_of_getLsbD_eq
  intro i hi
  simp only [BitVec.getLsbD_and, BitVec.getLsbD_not, BitVec.getLsbD_or, hi, decide_true, Bool.true_and]
  cases m.getLsbD i <;> cases o.getLsbD i <;> cases b.getLsbD i <;> rfl
theorem delK_of {l : List Int} (hall : ∀ x ∈ l, isSlot x) (m : M) (hm : chk m.2 = 0) : ∀ k, k ≤ l.length → delK (l.take k) m = (m.1 &&& ~~~(ofAll (l.take k)).1, m.2 &&& ~~~(ofAll (l.take k)).2)
  | 0, _ => by
    have h1 : ∀ x : BitVec 64, x &&& ~~~0#64 = x := fun x => by
      apply BitVec.eq_of_getLsbD_eq
      intro i hi
      simp only [BitVec.getLsbD_and, BitVec.getLsbD_not, BitVec.getLsbD_zero, hi, decide_true, Bool.true_and, Bool.not_false, Bool.and_true]
    unfold delK ofAll mZero
    simp only [List.take_zero, List.foldl_nil]
    rw [h1, h1]
  | k + 1, hk => by
    have ih := delK_of hall m hm k (by omega)
    have hk' : k < l.length := by omega
    have hs := hall _ (List.getElem_mem hk')
    rw [delK_hit hk' hs, ih, ofAll_snoc l k hk']
    unfold lessM
    rw [set_without _ _ (chk_and hm _) hs.1 hs.2]
    unfold mOr mBit
    refine Prod.ext ?_ ?_
    · exact not_or_bits _ _ _
    · exact not_or_bits _ _ _
theorem minus_del {l : List Int} (hall : ∀ x ∈ l, isSlot x) (m : M) (hm : chk m.2 = 0) : minusM (ofAll l) m = delK l m := by
  have h := delK_of hall m hm l.length (Nat.le_refl _)
  rw [List.take_length] at h
  rw [h]
  unfold minusM
  refine Prod.ext ?_ ?_
  · apply BitVec.eq_of_getLsbD_eq
    intro i hi
    simp only [BitVec.getLsbD_and, ones_bit i hi, Bool.and_true]
  · have := chk_low (m.2 &&& ~~~(ofAll l).2)
    rw [chk_and hm] at this
    simpa using this
theorem rem_law {cs : List PV} {ms : List M} (hok : listsOK cs ms = true) (l : List Int) : remE cs ms l = (if ∀ x ∈ l, isSlot x then 0 else 2) ∧ ((∀ x ∈ l, isSlot x) → remC cs ms l = cs ∧ remM cs ms l = ms.map (delK l)) ∧ ((¬ ∀ x ∈ l, isSlot x) → remC cs ms l = [] ∧ remM cs ms l = []) := by
  have hE : remE cs ms l = (if ∀ x ∈ l, isSlot x then 0 else 2) := by
    unfold remE ofF
    rw [if_neg (by rw [hok]; decide)]
    split <;> rfl
  refine ⟨hE, fun hall => ?_, fun hall => ?_⟩
  · rw [if_pos hall] at hE
    unfold remC remM
    rw [if_pos hE, if_pos hE]
    refine ⟨rfl, ?_⟩
    have hf : (ofF l).1 = ofAll l := by unfold ofF; rw [if_pos hall]
    rw [hf, withL_map]
    refine List.map_congr_left fun m hm => ?_
    obtain ⟨i, hi, rfl⟩ := List.mem_iff_getElem.1 hm
    exact minus_del hall _ (ok_chk hok hi)
  · rw [if_neg hall] at hE
    unfold remC remM
    rw [if_neg (by omega), if_neg (by omega)]
    exact ⟨rfl, rfl⟩
theorem or_mask1 (a b m : BitVec 64) : (a ||| b) &&& m = ((0#64 ||| (a &&& m)) ||| b) &&& m := by
  apply BitVec.eq_of_getLsbD_eq
  intro i hi
  simp only [BitVec.getLsbD_and, BitVec.getLsbD_or, BitVec.getLsbD_zero]
  cases a.getLsbD i <;> cases b.getLsbD i <;> cases m.getLsbD i <;> rfl
theorem orF_snoc (l : List M) (x : M) : orF (l ++ [x]) = orF [orF l, x] := by
  unfold orF
  rw [orAll_app]
  unfold orAll mOr mAnd mZero
  refine Prod.ext ?_ ?_
  · simp only [List.foldl_cons, List.foldl_nil, BitVec.zero_or]; exact (or_mask1 _ _ _).trans (by simp only [BitVec.zero_or])
  · simp only [List.foldl_cons, List.foldl_nil, BitVec.zero_or]; exact (or_mask1 _ _ _).trans (by simp only [BitVec.zero_or])
theorem orF_nil : orF [] = mZero := by unfold orF orAll mAnd mZero; simp
theorem or_step (ms : List M) {l : List Int} {k : Nat} (hk : k < l.length) : ofAll (orL [orF (pickM ms (l.take k)), mAt ms l[k].toNat] 2) = orF (pickM ms (l.take (k + 1))) := by
  rw [pick_snoc ms hk, orF_snoc]
  exact set_or [_, _]
end Go.Proofs.Ytlfmffjlmhpcdaa
