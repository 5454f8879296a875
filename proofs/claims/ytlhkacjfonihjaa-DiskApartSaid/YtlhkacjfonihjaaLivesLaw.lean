/- Behind a loss of power each file is a beginning of what it was; what is kept more is more: the plain law. -/
import Derived.Test.YtlhkacjfonihjaaRestLaw
namespace Go.Proofs.Ytlhkacjfonihjaa
open Go.RowKit
set_option maxRecDepth 100000

/-- How many bytes of a file a crash leaves. -/
def crN (s : DS) (keep : List Bool) (x : Int) : Nat := (max (s.at x).sy (((crK keep (pieces s)).ends x).getD 0)).toNat
theorem crash_bs {s : DS} (hok : s.Ok) (keep : List Bool) (x : Int) : ((crashS s keep).at x).bs = (s.at x).bs.take (crN s keep x) := by
  unfold crN
  unfold DS.at
  rw [crash_fl hok]
  cases hf : s.fl x with
  | none => simp [f0]
  | some f =>
    show ((crF _ x f).getD f0).bs = f.bs.take (max f.sy _).toNat
    unfold crF
    split
    · rename_i h
      simp only [Bool.and_eq_true, beq_iff_eq] at h
      rw [h.2]
      simp [f0]
    · rfl
theorem cr_nil (l : List Pc) : (crK [] l).ends = fun _ => none := by
  suffices h : ∀ (l : List Pc) (c : Cr), c.ends = (fun _ => none) → (l.foldl (crStep []) c).ends = fun _ => none from h l _ rfl
  intro l
  induction l with
  | nil => intro c hc; exact hc
  | cons p l ih =>
    intro c hc
    rw [List.foldl_cons]
    refine ih _ ?_
    unfold crStep
    have : cutB [] c p = true := by unfold cutB; simp
    rw [this]
    exact hc
theorem crash_none {s : DS} (hok : s.Ok) (keep : List Bool) (x : Int) : ((crashS s []).at x).bs <+: ((crashS s keep).at x).bs := by
  rw [crash_bs hok, crash_bs hok]
  refine List.take_prefix_take_left ?_
  unfold crN
  rw [cr_nil]
  have := (hok.fat x).1
  simp only [Option.getD_none]
  omega
theorem crash_pre {s : DS} (hok : s.Ok) (keep : List Bool) (x : Int) : ((crashS s keep).at x).bs <+: (s.at x).bs := by
  rw [crash_bs hok]
  exact List.take_prefix _ _
theorem crash_pend {s : DS} (hok : s.Ok) (keep : List Bool) : pendL (crashS s keep) = [] := by
  have : pieces (crashS s keep) = [] := by
    unfold pieces
    rw [List.flatMap_eq_nil_iff]
    intro x hx
    unfold pieceL
    have : nP ((crashS s keep).at x) = 0 := by
      have hk := (crash_ok hok keep).fat x
      unfold DS.at at hk ⊢
      rw [crash_fl hok] at hk ⊢
      cases hf : s.fl x with
      | none => simp [nP, f0]
      | some f =>
        rw [hf] at hk
        have h1 := hk.1
        show nP ((crF _ x f).getD f0) = 0
        revert h1
        show _ ≤ ((crF _ x f).getD f0).sy ∧ _ → _
        intro h1
        unfold crF at h1 ⊢
        split
        · simp [nP, f0]
        · rename_i hc
          rw [if_neg hc] at h1
          simp only [Option.getD_some, List.length_take] at h1
          unfold nP
          simp only [Option.getD_some, List.length_take]
          omega
    rw [this]; rfl
  unfold pendL
  rw [this]; rfl

/-! ### what is kept all over -/
theorem cr_all (N : Nat) : ∀ (l : List Pc), l.length ≤ N → l.Pairwise (fun p q => p.1 = q.1 → p.2.val ≤ q.2.val) → (∀ x, (crK (List.replicate N true) l).cut x = none ∨ (crK (List.replicate N true) l).cut x = some false) ∧ ∀ p ∈ l, ∃ e, (crK (List.replicate N true) l).ends (p.1.val : Int) = some e ∧ (p.2.val : Int) ≤ e := by
  intro l
  obtain ⟨r, rfl⟩ : ∃ r : List Pc, l = r.reverse := ⟨l.reverse, by simp⟩
  induction r with
  | nil => intro _ _; exact ⟨fun x => .inl rfl, fun p hp => by cases hp⟩
  | cons p r ih =>
    rw [List.reverse_cons]
    obtain ⟨l, hl'⟩ : ∃ l, r.reverse = l := ⟨_, rfl⟩
    rw [hl'] at ih ⊢
    intro hl hp
    simp only [List.length_append, List.length_cons, List.length_nil] at hl
    obtain ⟨h1, -, h3⟩ := List.pairwise_append.1 hp
    obtain ⟨i1, i2⟩ := ih (by omega) h1
    have hcut : cutB (List.replicate N true) (crK (List.replicate N true) l) p = false := by
      unfold cutB
      rw [crK_at]
      have e1 : ((crK (List.replicate N true) l).cut (p.1.val : Int)).getD false = false := by rcases i1 (p.1.val : Int) with h | h <;> rw [h] <;> rfl
      rw [e1]
      have e2 : (List.replicate N true).getD l.length false = true := by
        rw [List.getD_eq_getElem?_getD, List.getElem?_replicate, if_pos (by omega)]; rfl
      rw [e2]
      simp; omega
    rw [crK_snoc]
    unfold crStep
    rw [hcut]
    refine ⟨fun x => ?_, fun q hq => ?_⟩
    · dsimp only
      unfold updO
      split
      · exact .inr rfl
      · exact i1 x
    · dsimp only [Bool.false_eq_true, if_false]
      rw [if_neg (by decide)]
      unfold updO
      rcases List.mem_append.1 hq with hq | hq
      · by_cases e : (q.1.val : Int) = p.1.val
        · rw [if_pos e]
          have := h3 q hq p (by simp) (Fin.ext (by omega))
          exact ⟨_, rfl, by omega⟩
        · rw [if_neg e]
          exact i2 q hq
      · simp only [List.mem_singleton] at hq
        subst hq
        rw [if_pos rfl]
        exact ⟨_, rfl, Int.le_refl _⟩
theorem pc_vals {s : DS} (hok : s.Ok) {x : Int} (hx : x ∈ namesOf s) (j : Nat) : ((pc x.toNat (pEnd (s.at x) j)).1.val : Int) = x ∧ (pc x.toNat (pEnd (s.at x) j)).2.val = pEnd (s.at x) j := by
  have hx4 := (namesOf_mem.1 hx).1
  obtain ⟨f, hf⟩ := Option.isSome_iff_exists.1 (namesOf_mem.1 hx).2
  have hat : s.at x = f := at_of hf
  have hlen := len_le hok hf
  have h1 := pEnd_le f j
  constructor
  · unfold pc; simp only [Fin.ofNat]; rw [Nat.mod_eq_of_lt (by omega)]; omega
  · unfold pc; simp only [Fin.ofNat]; rw [Nat.mod_eq_of_lt (by rw [hat]; omega)]
theorem pieces_sorted {s : DS} (hok : s.Ok) : (pieces s).Pairwise (fun p q => p.1 = q.1 → p.2.val ≤ q.2.val) := by
  unfold pieces
  rw [List.pairwise_flatMap]
  constructor
  · intro x hx
    unfold pieceL pieceN
    rw [List.pairwise_map]
    refine List.Pairwise.imp ?_ List.pairwise_lt_range
    intro i j hij _
    rw [(pc_vals hok hx i).2, (pc_vals hok hx j).2]
    unfold pEnd
    omega
  · refine List.Pairwise.imp_of_mem ?_ (namesOf_nodup s)
    intro x y hx hy hne p hp q hq e
    exfalso
    apply hne
    unfold pieceL pieceN at hp hq
    obtain ⟨i, -, rfl⟩ := List.mem_map.1 hp
    obtain ⟨j, -, rfl⟩ := List.mem_map.1 hq
    rw [← (pc_vals hok hx i).1, ← (pc_vals hok hy j).1, e]
theorem crash_all {s : DS} (hok : s.Ok) (x : Int) : ((crashS s (List.replicate (pieces s).length true)).at x).bs = (s.at x).bs := by
  rw [crash_bs hok]
  refine List.take_of_length_le ?_
  unfold crN
  cases hf : s.fl x with
  | none => unfold DS.at; rw [hf]; simp [f0]
  | some f =>
    have hn := hok.name x f hf
    have hx : x ∈ namesOf s := namesOf_mem.2 ⟨by omega, by rw [hf]; rfl⟩
    have hsy := (hok.fat x).1
    by_cases h0 : nP (s.at x) = 0
    · unfold nP at h0
      omega
    · have hmem : pc x.toNat (pEnd (s.at x) (nP (s.at x) - 1)) ∈ pieces s := by
        unfold pieces
        refine List.mem_flatMap.2 ⟨x, hx, ?_⟩
        unfold pieceL pieceN
        exact List.mem_map.2 ⟨nP (s.at x) - 1, by simp; omega, rfl⟩
      obtain ⟨e, he, hle⟩ := (cr_all (pieces s).length (pieces s) (Nat.le_refl _) (pieces_sorted hok)).2 _ hmem
      obtain ⟨v1, v2⟩ := pc_vals hok hx (nP (s.at x) - 1)
      rw [v1] at he
      rw [v2] at hle
      rw [he]
      simp only [Option.getD_some]
      unfold pEnd at hle
      unfold nP at hle h0
      omega
end Go.Proofs.Ytlhkacjfonihjaa
