/- What is done to one file changes no other one: the plain law. -/
import Derived.Test.YtlhkacjfonihjaaWhole
namespace Go.Proofs.Ytlhkacjfonihjaa
open Go.RowKit
set_option maxRecDepth 100000

section
variable {s : DS} {x : Int} {ask : Fi → Int}
theorem with_fl0 (hc : CalmS s) (h : withE s x ask = 0) (doF : Fi → Fi) : ∃ f, s.fl x = some f ∧ ask f = 0 ∧ (0 ≤ x ∧ x < 4) ∧ (withS s x ask doF).fl = updF s.fl x (some (doF f)) := by
  obtain ⟨h0, h4⟩ := withE_name h
  cases hf : s.fl x with
  | none =>
    exfalso
    unfold withE at h
    split at h
    · rename_i hl; exact hl h
    · rw [hf] at h; simp at h
  | some f =>
    have ha : ask f = 0 := by
      unfold withE at h
      split at h
      · rename_i hl; exact absurd h hl
      · rw [hf] at h
        dsimp only at h
        split at h
        · exact h
        · rename_i h1; simpa using h1
    refine ⟨f, rfl, ha, ⟨h0, h4⟩, ?_⟩
    rw [(withE_calm hc.dead hc.armed hc.failing h0 h4 hf ha doF).2]
theorem with_fl1 (h : withE s x ask ≠ 0) (doF : Fi → Fi) : (withS s x ask doF).fl = s.fl := by
  unfold withE at h
  unfold withS
  split
  · rfl
  · rename_i hl
    rw [if_neg hl] at h
    cases hf : s.fl x with
    | none => rfl
    | some f =>
      rw [hf] at h
      dsimp only at h ⊢
      split
      · rfl
      · rename_i ha
        rw [if_neg ha] at h
        rw [if_pos h]
        rfl
end
theorem at_upd (s s' : DS) {x : Int} {g : Option Fi} (h : s'.fl = updF s.fl x g) (y : Int) : (s'.at y).bs = if y = x then (g.getD f0).bs else (s.at y).bs := by
  unfold DS.at
  rw [h]
  unfold updF
  split <;> rfl
theorem at_same (s s' : DS) (h : s'.fl = s.fl) (y : Int) : (s'.at y).bs = (s.at y).bs := by unfold DS.at; rw [h]

/-- What an operation does to the files. -/
structure Apart (s s' : DS) (o : Opr) (e : Int) : Prop where
  away : ∀ x, (e = 0 → x ≠ o.file ∧ (ku o.kind = 7 → x ≠ o.n)) → (s'.at x).bs = (s.at x).bs
  file : e = 0 → 0 ≤ o.file ∧ o.file < 4
  app : e = 0 → ku o.kind < 3 → (s'.at o.file).bs = (s.at o.file).bs ++ o.bytes.take 300
  cut : e = 0 → ku o.kind = 6 → (0 ≤ o.n ∧ o.n ≤ (s.at o.file).bs.length) ∧ (s'.at o.file).bs = (s.at o.file).bs.take o.n.toNat
  ren : e = 0 → ku o.kind = 7 → o.file ≠ o.n → (0 ≤ o.n ∧ o.n < 4) ∧ (s'.at o.n).bs = (s.at o.file).bs ∧ (s'.at o.file).bs = []
  rem : e = 0 → ku o.kind = 8 → (s'.at o.file).bs = [] ∧ o.file ∉ namesOf s'
  same : e = 0 → (ku o.kind = 3 ∨ ku o.kind = 4 ∨ ku o.kind = 5 ∨ (ku o.kind = 7 ∧ o.file = o.n)) → (s'.at o.file).bs = (s.at o.file).bs

theorem Apart.with {s : DS} (hc : CalmS s) {o : Opr} (ask : Fi → Int) (doF : Fi → Fi) (hb : ∀ f, (doF f).bs = f.bs) (hk : ku o.kind = 3 ∨ ku o.kind = 4 ∨ ku o.kind = 5 ∨ (ku o.kind = 7 ∧ o.file = o.n)) : Apart s (withS s o.file ask doF) o (withE s o.file ask) := by
  have key : ∀ y, ((withS s o.file ask doF).at y).bs = (s.at y).bs := fun y => by
    by_cases he : withE s o.file ask = 0
    · obtain ⟨f, hf, -, -, h⟩ := with_fl0 hc he doF
      rw [at_upd s _ h y]
      split
      · rename_i e
        rw [e, at_of hf]
        exact hb f
      · rfl
    · exact at_same _ _ (with_fl1 he doF) y
  refine ⟨fun x _ => key x, fun he => withE_name he, fun _ h => by omega, fun _ h => by omega, fun _ h => ?_, fun _ h => by omega, fun _ _ => key _⟩
  intro hne
  rcases hk with hk | hk | hk | ⟨-, hk⟩
  · omega
  · omega
  · omega
  · exact absurd hk hne
theorem run_apart {s : DS} (hc : CalmS s) (o : Opr) (hk : ku o.kind < 9) : Apart s (runS s o) o (runE s o) := by
  have h0 := (ku_lt o.kind).1
  unfold runS runE
  by_cases k3 : ku o.kind = 3 ∨ ku o.kind = 4
  · rw [if_pos k3, if_pos k3]
    exact Apart.with hc _ _ (fun _ => rfl) (by omega)
  rw [if_neg k3, if_neg k3]
  by_cases k5 : ku o.kind = 5
  · rw [if_pos k5, if_pos k5]
    exact Apart.with hc _ _ (fun _ => rfl) (by omega)
  rw [if_neg k5, if_neg k5]
  by_cases k6 : ku o.kind = 6
  · rw [if_pos k6, if_pos k6]
    by_cases he : withE s o.file (askT o.n) = 0
    · obtain ⟨f, hf, ha, hx, h⟩ := with_fl0 hc he (truncF o.n)
      have e1 := at_upd s _ h
      refine ⟨fun x hx => ?_, fun _ => hx, fun _ h => by omega, fun _ _ => ?_, fun _ h => by omega, fun _ h => by omega, fun _ h => by omega⟩
      · rw [e1, if_neg (hx he).1]
      · rw [e1, if_pos rfl, at_of hf]
        refine ⟨?_, rfl⟩
        unfold askT at ha
        split at ha
        · simp at ha
        · omega
    · exact ⟨fun x _ => at_same _ _ (with_fl1 he _) x, fun h => absurd h he, fun h => absurd h he, fun h => absurd h he, fun h => absurd h he, fun h => absurd h he, fun h => absurd h he⟩
  rw [if_neg k6, if_neg k6]
  by_cases k7 : ku o.kind = 7
  · rw [if_pos k7, if_pos k7]
    unfold renameS renameE
    by_cases hl : livesE s [o.file, o.n] ≠ 0
    · rw [if_pos hl, if_pos hl]
      exact ⟨fun x _ => rfl, fun h => absurd h hl, fun h => absurd h hl, fun h => absurd h hl, fun h => absurd h hl, fun h => absurd h hl, fun h => absurd h hl⟩
    · rw [if_neg hl, if_neg hl]
      have hn : 0 ≤ o.n ∧ o.n < 4 := by
        have hl0 : livesE s [o.file, o.n] = 0 := by simpa using hl
        unfold livesE at hl0
        rw [hc.dead] at hl0
        simp [nameB] at hl0
        omega
      by_cases hne : o.file = o.n
      · rw [if_neg (by rintro ⟨-, h⟩; exact h hne)]
        exact Apart.with hc _ _ (fun _ => rfl) (by omega)
      · by_cases he : withE s o.file ask0 = 0
        · rw [if_pos ⟨he, hne⟩]
          obtain ⟨f, hf, ha, hx, h⟩ := with_fl0 hc he (renF o.file o.n)
          have e1 : ∀ y, (({ withS s o.file ask0 (renF o.file o.n) with fl := updF (updF (withS s o.file ask0 (renF o.file o.n)).fl o.file none) o.n (some (renF o.file o.n (s.at o.file))) } : DS).at y).bs = if y = o.n then (s.at o.file).bs else if y = o.file then [] else (s.at y).bs := fun y => by
            unfold DS.at
            dsimp only
            rw [h]
            unfold updF
            by_cases h1 : y = o.n
            · rw [if_pos h1, if_pos h1]; rfl
            · rw [if_neg h1, if_neg h1]
              by_cases h2 : y = o.file
              · rw [if_pos h2, if_pos h2]; rfl
              · rw [if_neg h2, if_neg h2]
                first | rfl | (dsimp only; rw [if_neg h2]) | rw [if_neg h2]
          refine ⟨fun x hx => ?_, fun _ => hx, fun _ h => by omega, fun _ h => by omega, fun _ _ _ => ⟨hn, ?_, ?_⟩, fun _ h => by omega, fun _ h => by omega⟩
          · rw [e1, if_neg ((hx he).2 k7), if_neg (hx he).1]
          · rw [e1, if_pos rfl]
          · rw [e1, if_neg hne, if_pos rfl]
        · rw [if_neg (by rintro ⟨h, -⟩; exact he h)]
          exact ⟨fun x _ => at_same _ _ (with_fl1 he _) x, fun h => absurd h he, fun h => absurd h he, fun h => absurd h he, fun h => absurd h he, fun h => absurd h he, fun h => absurd h he⟩
  rw [if_neg k7, if_neg k7]
  by_cases k8 : ku o.kind = 8
  · rw [if_pos k8, if_pos k8]
    unfold removeS
    by_cases he : withE s o.file ask0 = 0
    · rw [if_pos he]
      obtain ⟨f, hf, ha, hx, h⟩ := with_fl0 hc he id
      have e0 : ({ withS s o.file ask0 id with fl := updF (withS s o.file ask0 id).fl o.file none } : DS).fl = updF s.fl o.file none := by
        dsimp only
        rw [h]
        funext y
        unfold updF
        split <;> rfl
      have e1 := at_upd s _ e0
      refine ⟨fun x hx => ?_, fun _ => hx, fun _ h => by omega, fun _ h => by omega, fun _ h => by omega, fun _ _ => ⟨?_, fun hc => ?_⟩, fun _ h => by omega⟩
      · rw [e1, if_neg (hx he).1]
      · rw [e1, if_pos rfl]; rfl
      · have := (namesOf_mem.1 hc).2
        rw [e0] at this
        simp [updF] at this
    · rw [if_neg he]
      exact ⟨fun x _ => at_same _ _ (with_fl1 he _) x, fun h => absurd h he, fun h => absurd h he, fun h => absurd h he, fun h => absurd h he, fun h => absurd h he, fun h => absurd h he⟩
  rw [if_neg k8, if_neg k8, if_neg (by omega), if_neg (by omega), if_neg (by omega), if_neg (by omega), if_neg (by omega), if_neg (by omega)]
  have hm : meetsE s = 0 := by unfold meetsE; rw [hc.armed, hc.failing]; rfl
  unfold appendS appendE
  by_cases hl : livesE s [o.file] ≠ 0
  · rw [if_pos hl, if_pos hl]
    exact ⟨fun x _ => rfl, fun h => absurd h hl, fun h => absurd h hl, fun h => absurd h hl, fun h => absurd h hl, fun h => absurd h hl, fun h => absurd h hl⟩
  · rw [if_neg hl, if_neg hl]
    have hx := (livesE_name (by simpa using hl)).2
    by_cases hu : s.room < (s.used : Int) + (o.bytes.take 300).length
    · rw [if_pos hu, if_pos hu]
      exact ⟨fun x _ => rfl, fun h => (by cases h), fun h => (by cases h), fun h => (by cases h), fun h => (by cases h), fun h => (by cases h), fun h => (by cases h)⟩
    · rw [if_neg hu, if_neg hu, hm, if_neg (by decide)]
      have e1 := at_upd s ({ meetsS s with fl := updF s.fl o.file (some (appF (s.at o.file) (o.bytes.take 300))) } : DS) rfl
      refine ⟨fun x hx => ?_, fun _ => hx, fun _ _ => ?_, fun _ h => by omega, fun _ h => by omega, fun _ h => by omega, fun _ h => by omega⟩
      · rw [e1, if_neg (hx rfl).1]
      · rw [e1, if_pos rfl]; rfl
end Go.Proofs.Ytlhkacjfonihjaa
