/- The plain law of ListsAgree: lists follow what is put into the arena, and what is dropped. -/
import Derived.Test.YtlfmffjlmhpcdaaPartsZ
import Derived.Test.YtlfmffjlmhpcdaaDoesLaw
import Derived.Test.YtlfmffjlmhpcdaaArenaD
namespace Go.Proofs.Ytlfmffjlmhpcdaa
open Go.RowKit
set_option maxRecDepth 100000

theorem M_ext {m n : M} (hm : chk m.2 = 0) (hn : chk n.2 = 0) (h : ∀ s : Nat, s < 96 → hasM m (s : Int) = hasM n (s : Int)) : m = n := by
  refine Prod.ext ?_ ?_
  · apply BitVec.eq_of_getLsbD_eq
    intro i hi
    have := h i (by omega)
    rw [hasM_1 _ i hi, hasM_1 _ i hi] at this
    exact this
  · apply BitVec.eq_of_getLsbD_eq
    intro i hi
    by_cases h32 : i < 32
    · have := h (i + 64) (by omega)
      rw [show ((i + 64 : Nat) : Int) = (i : Int) + 64 by omega, hasM_2 _ i hi, hasM_2 _ i hi] at this
      exact this
    · cases h1 : m.2.getLsbD i
      · cases h2 : n.2.getLsbD i
        · rfl
        · exact absurd (chk_bit hn i h2) h32
      · exact absurd (chk_bit hm i h1) h32
theorem build_ext {cs : List PV} {cells : List Cel} (h96 : cells.length = 96) {ms : List M} (hl : ms.length = cs.length) (hchk : ∀ i (h : i < ms.length), chk ms[i].2 = 0)
    (hh : ∀ i (h : i < ms.length) (s : Nat), s < 96 → hasM ms[i] (s : Int) = belongs cs cells i s) : ms = buildM cs cells cells.length := by
  apply List.ext_getElem
  · rw [hl, buildM_length]
  · intro i h1 h2
    have hi : i < cs.length := by omega
    have hb := buildM_chk cs cells (by omega) cells.length i (Nat.le_refl _) hi
    rw [mAt_get h2] at hb
    refine M_ext (hchk i h1) hb fun s hs => ?_
    have hg := build_has cs cells (by omega) i hi s hs cells.length (Nat.le_refl _)
    rw [mAt_get h2] at hg
    rw [hh i h1 s hs, hg, decide_eq_true (by omega), Bool.true_and]
theorem same_refl (cs : List PV) (ms : List M) : sameL cs ms cs ms = true := by unfold sameL; simp
theorem build_okE {cells : List Cel} {cs : List PV} (ha : arenaOK cells = true) (hc : centsOK cs = true) (hf : cells.all (fun c => !c.used || fitC cs c) = true) : buildE cells cs = 0 := by
  unfold buildE
  rw [if_neg (by rw [ha]; decide), if_neg (by rw [hc]; decide)]
  split
  · rfl
  · rw [if_neg (by rw [hf]; decide)]
theorem agrees_built {cells : List Cel} {cs : List PV} (hn : cs ≠ []) (ha : arenaOK cells = true) (hc : centsOK cs = true) (hf : cells.all (fun c => !c.used || fitC cs c) = true) :
    agreesF cs (buildM cs cells cells.length) cells = true := by
  have h96 := arena_len ha
  have hE := build_okE ha hc hf
  obtain ⟨-, -, -, h1, h2⟩ := build_zero hE hn
  unfold agreesF
  rw [built_ok h96 hc, ha, hE, h1, h2, same_refl]; rfl
theorem cents_nil : centsOK [] = true := by decide
theorem lists_nil : listsOK [] [] = true := by decide
theorem agrees_nil {cells : List Cel} (ha : arenaOK cells = true) : agreesF [] [] cells = true := by
  have hE : buildE cells [] = 0 := by
    unfold buildE
    rw [if_neg (by rw [ha]; decide), if_neg (by rw [cents_nil]; decide), if_pos rfl]
  have hO : buildOK cells [] = false := by unfold buildOK; simp
  unfold agreesF buildC buildMs
  rw [lists_nil, ha, hE, hO]; rfl
theorem set_arena {cells : List Cel} (ha : arenaOK cells = true) (k : Nat) {c : Cel} (hc : cellOK c = true) : arenaOK (cells.set k c) = true := by
  unfold arenaOK at ha ⊢
  rw [Bool.and_eq_true] at ha ⊢
  refine ⟨by rw [List.length_set]; exact ha.1, List.all_eq_true.2 fun x hx => ?_⟩
  rcases List.mem_or_eq_of_mem_set hx with h | rfl
  · exact List.all_eq_true.1 ha.2 x h
  · exact hc
theorem set_fit {cells : List Cel} {cs : List PV} (hf : cells.all (fun c => !c.used || fitC cs c) = true) (k : Nat) {c : Cel} (hc : (!c.used || fitC cs c) = true) : (cells.set k c).all (fun c => !c.used || fitC cs c) = true :=
  List.all_eq_true.2 fun x hx => by
    rcases List.mem_or_eq_of_mem_set hx with h | rfl
    · exact List.all_eq_true.1 hf x h
    · exact hc
theorem belongs_set (cs : List PV) {cells : List Cel} {k : Nat} (hk : k < cells.length) (c : Cel) (i s : Nat) : belongs cs (cells.set k c) i s = if s = k then (c.used && decide (placeC cs c = i)) else belongs cs cells i s := by
  unfold belongs
  by_cases h : s = k
  · subst h
    rw [if_pos rfl, List.getElem?_set_self hk]
  · rw [if_neg h, List.getElem?_set_ne (fun e => h e.symm)]
theorem idxF_at {α : Type} {p : α → Bool} {l : List α} {k : Nat} (hk : k < l.length) (h : idxF p l = k) : p l[k] = true := by
  unfold idxF at h
  cases hf : l.findIdx? p with
  | none => rw [hf] at h; simp at h
  | some j =>
    rw [hf] at h
    rw [List.findIdx?_eq_some_iff_getElem] at hf
    obtain ⟨hj, hpj, -⟩ := hf
    have e : j = k := by
      have h2 : (j : Int) = (k : Int) := h
      omega
    subst e
    exact hpj
theorem hasM_andnot (m g : M) (s : Nat) (hs : s < 96) : hasM (m.1 &&& ~~~g.1, m.2 &&& ~~~g.2) (s : Int) = (hasM m (s : Int) && !hasM g (s : Int)) := by
  by_cases h : s < 64
  · rw [hasM_1 _ s h, hasM_1 _ s h, hasM_1 _ s h]
    simp only [BitVec.getLsbD_and, BitVec.getLsbD_not, h, decide_true, Bool.true_and]
  · obtain ⟨j, rfl⟩ : ∃ j, s = j + 64 := ⟨s - 64, by omega⟩
    have e : ((j + 64 : Nat) : Int) = (j : Int) + 64 := by omega
    have hj : j < 64 := by omega
    rw [e, hasM_2 _ j hj, hasM_2 _ j hj, hasM_2 _ j hj]
    simp only [BitVec.getLsbD_and, BitVec.getLsbD_not, hj, decide_true, Bool.true_and]
theorem one_slot {k : Nat} (hk : k < 96) : ∀ x ∈ [(k : Int)], isSlot x := by
  intro x hx
  rw [List.mem_singleton.1 hx]
  exact ⟨by omega, by omega⟩
theorem del_one {k : Nat} (hk : k < 96) (m : M) (hm : chk m.2 = 0) : chk (delK [(k : Int)] m).2 = 0 ∧ ∀ s : Nat, s < 96 → hasM (delK [(k : Int)] m) (s : Int) = (hasM m (s : Int) && !decide (s = k)) := by
  have h := delK_of (one_slot hk) m hm 1 (by simp)
  have e : ([(k : Int)] : List Int).take 1 = [(k : Int)] := rfl
  rw [e] at h
  rw [h]
  refine ⟨chk_and hm _, fun s hs => ?_⟩
  have ho := hasM_ofAll [(k : Int)] (one_slot hk) (s : Int) ⟨by omega, by omega⟩
  rw [hasM_andnot m (ofAll [(k : Int)]) s hs, ho]
  rw [show decide ((s : Int) ∈ [(k : Int)]) = decide (s = k) from decide_eq_decide.2 ⟨fun h => by have := List.mem_singleton.1 h; omega, fun h => List.mem_singleton.2 (by omega)⟩]
/-- Lists that are built, and a slot taken out of them: the lists that are built of cells where it is free. -/
theorem rem_built {cs : List PV} {cells cells' : List Cel} (h96 : cells.length = 96) (h96' : cells'.length = 96) (hc : centsOK cs = true) {k : Nat} (hk : k < 96)
    (hb : ∀ i s, s < 96 → belongs cs cells' i s = (belongs cs cells i s && !decide (s = k))) :
    remE cs (buildM cs cells cells.length) [(k : Int)] = 0 ∧ remC cs (buildM cs cells cells.length) [(k : Int)] = cs ∧ remM cs (buildM cs cells cells.length) [(k : Int)] = buildM cs cells' cells'.length := by
  have hok := built_ok h96 hc
  obtain ⟨h1, h2, -⟩ := rem_law hok [(k : Int)]
  obtain ⟨h3, h4⟩ := h2 (one_slot hk)
  rw [if_pos (one_slot hk)] at h1
  refine ⟨h1, h3, ?_⟩
  rw [h4]
  have hlen := buildM_length cs cells cells.length
  refine build_ext h96' (by rw [List.length_map, hlen]) (fun i hi => ?_) (fun i hi s hs => ?_)
  · have hi' : i < (buildM cs cells cells.length).length := by simpa using hi
    rw [List.getElem_map]
    have hb := buildM_chk cs cells (by omega) cells.length i (Nat.le_refl _) (by omega)
    rw [mAt_get hi'] at hb
    exact (del_one hk _ hb).1
  · have hi' : i < (buildM cs cells cells.length).length := by simpa using hi
    rw [List.getElem_map]
    have hb2 := buildM_chk cs cells (by omega) cells.length i (Nat.le_refl _) (by omega)
    have hg := build_has cs cells (by omega) i (by omega) s hs cells.length (Nat.le_refl _)
    rw [mAt_get hi'] at hb2 hg
    rw [(del_one hk _ hb2).2 s hs, hg, decide_eq_true (by omega), Bool.true_and, hb i s hs]
theorem rem_nil_lists {k : Nat} (hk : k < 96) : remE [] [] [(k : Int)] = 0 ∧ remC [] [] [(k : Int)] = [] ∧ remM [] [] [(k : Int)] = [] := by
  obtain ⟨h1, h2, -⟩ := rem_law lists_nil [(k : Int)]
  obtain ⟨h3, h4⟩ := h2 (one_slot hk)
  rw [if_pos (one_slot hk)] at h1
  exact ⟨h1, h3, by rw [h4]; rfl⟩
/-- The lists that are built agree with the arena. -/
theorem build_agrees {cells : List Cel} {cs : List PV} (hE : buildE cells cs = 0) : agreesF (buildC cells cs) (buildMs cells cs) cells = true := by
  have ha : arenaOK cells = true := by
    cases h : arenaOK cells
    · rw [(build_bad h).1] at hE; omega
    · rfl
  by_cases hn : cs = []
  · subst hn
    have hO : buildOK cells [] = false := by unfold buildOK; simp
    unfold buildC buildMs
    rw [hO]
    exact agrees_nil ha
  · obtain ⟨ha, hc, hf, h1, h2⟩ := build_zero hE hn
    rw [h1, h2]
    exact agrees_built hn ha hc hf
/-- What is put, followed by Add; and taken out again. -/
theorem put_law {cells : List Cel} {cs : List PV} (hE : buildE cells cs = 0) {k : Nat} (hk : k < cells.length) (hfree : cells[k].used = false) {b e : Int} {vec : List Int} (hv : verOK b e vec = true) (hdim : cs = [] ∨ vec.length = dim0 cs) (id : Int) (sv : Value) :
    addE (buildC cells cs) (buildMs cells cs) (k : Int) vec = 0 ∧
    agreesF (addC (buildC cells cs) (buildMs cells cs) (k : Int) vec) (addM (buildC cells cs) (buildMs cells cs) (k : Int) vec) (cells.set k ⟨true, id, b, e, sv, vec⟩) = true ∧
    remE (addC (buildC cells cs) (buildMs cells cs) (k : Int) vec) (addM (buildC cells cs) (buildMs cells cs) (k : Int) vec) [(k : Int)] = 0 ∧
    agreesF (remC (addC (buildC cells cs) (buildMs cells cs) (k : Int) vec) (addM (buildC cells cs) (buildMs cells cs) (k : Int) vec) [(k : Int)]) (remM (addC (buildC cells cs) (buildMs cells cs) (k : Int) vec) (addM (buildC cells cs) (buildMs cells cs) (k : Int) vec) [(k : Int)]) cells = true := by
  have ha : arenaOK cells = true := by
    cases h : arenaOK cells
    · rw [(build_bad h).1] at hE; omega
    · rfl
  have h96 := arena_len ha
  have hvec : vecOK vec = true := by unfold verOK at hv; rw [Bool.and_eq_true] at hv; exact hv.1
  have hc' : cellOK ⟨true, id, b, e, sv, vec⟩ = true := by unfold cellOK; simpa using hv
  have ha' := set_arena ha k hc'
  have hsl : slotsB [(k : Int)] = true := by rw [slotsB_one]; exact decide_eq_true ⟨by omega, by omega⟩
  by_cases hn : cs = []
  · subst hn
    have hO : buildOK cells [] = false := by unfold buildOK; simp
    have e1 : buildC cells [] = [] := by unfold buildC; rw [hO]; rfl
    have e2 : buildMs cells [] = [] := by unfold buildMs; rw [hO]; rfl
    rw [e1, e2]
    have hw : (whereF [] [] (k : Int)).2 = false := by rw [where_first lists_nil]; rfl
    have hA := add_empty lists_nil hw hsl hvec rfl
    obtain ⟨h1, h2⟩ := add_none (cs := []) (ms := []) (s := (k : Int)) (vec := vec) (.inr rfl)
    obtain ⟨r1, r2, r3⟩ := rem_nil_lists (show k < 96 by omega)
    rw [h1, h2, r2, r3]
    exact ⟨hA, agrees_nil ha', r1, agrees_nil ha⟩
  · obtain ⟨-, hc, hf, e1, e2⟩ := build_zero hE hn
    have hd : vec.length = dim0 cs := by rcases hdim with h | h; exact absurd h hn; exact h
    have h0 : 0 < cs.length := List.length_pos_iff.2 hn
    rw [e1, e2]
    have hok := built_ok h96 hc
    have hw : (whereF cs (buildM cs cells cells.length) (k : Int)).2 = false := by rw [where_used h0 h96 hc hk]; exact hfree
    have hA := add_good hok hw hsl hvec hn hd
    obtain ⟨h1, h2⟩ := add_done hA hn
    have hf' := set_fit (cs := cs) hf k (c := ⟨true, id, b, e, sv, vec⟩) (by unfold fitC; simp [hd])
    have h96' : (cells.set k ⟨true, id, b, e, sv, vec⟩).length = 96 := by rw [List.length_set]; exact h96
    have hlen := buildM_length cs cells cells.length
    have hadd : withL (putD (bestK (farD cs vec) (cs.length - 1)) (k : Int)) (buildM cs cells cells.length) (buildM cs cells cells.length).length = buildM cs (cells.set k ⟨true, id, b, e, sv, vec⟩) (cells.set k ⟨true, id, b, e, sv, vec⟩).length := by
      refine build_ext h96' (by rw [withL_length, hlen]) (fun i hi => ?_) (fun i hi s hs => ?_)
      · have hi' : i < (buildM cs cells cells.length).length := by rw [withL_length] at hi; exact hi
        have hb := buildM_chk cs cells (by omega) cells.length i (Nat.le_refl _) (by omega)
        have e3 := mAt_withL (putD (bestK (farD cs vec) (cs.length - 1)) (k : Int)) (buildM cs cells cells.length) (buildM cs cells cells.length).length i hi'
        rw [mAt_get hi] at e3
        rw [e3]
        unfold putD
        split
        · exact chk_or_bit hb ⟨by omega, by omega⟩
        · exact hb
      · have hi' : i < (buildM cs cells cells.length).length := by rw [withL_length] at hi; exact hi
        have hg := build_has cs cells (by omega) i (by omega) s hs cells.length (Nat.le_refl _)
        have e3 := mAt_withL (putD (bestK (farD cs vec) (cs.length - 1)) (k : Int)) (buildM cs cells cells.length) (buildM cs cells cells.length).length i hi'
        rw [mAt_get hi] at e3
        rw [e3, belongs_set cs hk]
        have hpl : placeC cs ⟨true, id, b, e, sv, vec⟩ = bestK (farD cs vec) (cs.length - 1) := rfl
        have hno : belongs cs cells i k = false := by unfold belongs; rw [List.getElem?_eq_getElem hk]; simp [hfree]
        rw [decide_eq_true (by omega), Bool.true_and] at hg
        unfold putD
        rw [hpl]
        by_cases hip : i = bestK (farD cs vec) (cs.length - 1)
        · rw [if_pos hip, hasM_put _ k s (by omega) hs, hg]
          by_cases hsk : s = k
          · rw [if_pos hsk, decide_eq_true hsk, decide_eq_true hip.symm]; simp
          · rw [if_neg hsk, decide_eq_false hsk, Bool.or_false]
        · rw [if_neg hip, hg]
          by_cases hsk : s = k
          · rw [if_pos hsk, hsk, hno, decide_eq_false (fun e => hip e.symm)]; rfl
          · rw [if_neg hsk]
    rw [h1, h2, hadd]
    obtain ⟨r1, r2, r3⟩ := rem_built (cs := cs) (cells' := cells) h96' h96 hc (show k < 96 by omega) (fun i s hs => by
      rw [belongs_set cs hk]
      by_cases hsk : s = k
      · rw [if_pos hsk, decide_eq_true hsk, hsk]
        unfold belongs; rw [List.getElem?_eq_getElem hk]; simp [hfree]
      · rw [if_neg hsk, decide_eq_false hsk]; simp)
    rw [r2, r3]
    exact ⟨hA, agrees_built hn ha' hc hf', r1, agrees_built hn ha hc hf⟩
/-- What is dropped, followed by Remove. -/
theorem drop_law {cells : List Cel} {cs : List PV} (hE : buildE cells cs = 0) {k : Nat} (hk : k < cells.length) :
    remE (buildC cells cs) (buildMs cells cs) [(k : Int)] = 0 ∧ agreesF (remC (buildC cells cs) (buildMs cells cs) [(k : Int)]) (remM (buildC cells cs) (buildMs cells cs) [(k : Int)]) (cells.set k zeroC) = true := by
  have ha : arenaOK cells = true := by
    cases h : arenaOK cells
    · rw [(build_bad h).1] at hE; omega
    · rfl
  have h96 := arena_len ha
  have ha' := set_arena ha k (show cellOK zeroC = true by decide)
  by_cases hn : cs = []
  · subst hn
    have hO : buildOK cells [] = false := by unfold buildOK; simp
    have e1 : buildC cells [] = [] := by unfold buildC; rw [hO]; rfl
    have e2 : buildMs cells [] = [] := by unfold buildMs; rw [hO]; rfl
    rw [e1, e2]
    obtain ⟨r1, r2, r3⟩ := rem_nil_lists (show k < 96 by omega)
    rw [r2, r3]
    exact ⟨r1, agrees_nil ha'⟩
  · obtain ⟨-, hc, hf, e1, e2⟩ := build_zero hE hn
    rw [e1, e2]
    have h96' : (cells.set k zeroC).length = 96 := by rw [List.length_set]; exact h96
    obtain ⟨r1, r2, r3⟩ := rem_built (cs := cs) (cells := cells) (cells' := cells.set k zeroC) h96 h96' hc (show k < 96 by omega) (fun i s hs => by
      rw [belongs_set cs hk]
      by_cases hsk : s = k
      · rw [if_pos hsk, decide_eq_true hsk]; simp [zeroC]
      · rw [if_neg hsk, decide_eq_false hsk]; simp)
    rw [r2, r3]
    exact ⟨r1, agrees_built hn ha' hc (set_fit hf k rfl)⟩
end Go.Proofs.Ytlfmffjlmhpcdaa
