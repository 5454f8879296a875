/- What the operations of a log come to, as values: on a disk whose power is there, and on a calm one. -/
import Derived.Test.YtkekidjjmcmjhaaGreatWalA
namespace Go.Proofs.YtkekidjjmcmjhaaGreat
set_option maxRecDepth 100000

/-- A disk that neither dies nor fails. -/
structure Cm (s : DS) : Prop where
  dead : s.dead = false
  armed : s.armed = -1
  failing : s.failing = -1

/-- What an operation leaves: it is done, and the power is there; or there is an error. On a calm disk it is done. -/
structure Out (r : Int × DS) (s : DS) (F : Int → Option Fi) (bad : (Int → Option Fi) → Prop) : Prop where
  good : r.1 = 0 → r.2.fl = F ∧ r.2.dead = false
  bad : r.1 ≠ 0 → bad r.2.fl
  room : r.2.room = s.room
  calm : Cm s → r.1 = 0 ∧ Cm r.2
  err : r.1 = 0 ∨ r.1 = 8 ∨ r.1 = 9

section
variable {s : DS} {x y : Int} {f : Fi} {bs : List Int}

theorem meets_dead (hd : s.dead = false) (h : meetsE s = 0) : (meetsS s).dead = false := by
  unfold meetsE at h
  unfold meetsS
  split at h
  · cases h
  · rename_i h1; simp [h1, hd]
theorem meets_err (s : DS) : meetsE s = 0 ∨ meetsE s = 8 ∨ meetsE s = 9 := by
  unfold meetsE; split
  · exact .inr (.inr rfl)
  · split
    · exact .inr (.inl rfl)
    · exact .inl rfl
theorem Cm.meets (h : Cm s) : meetsE s = 0 ∧ Cm (meetsS s) := by
  have h1 : meetsE s = 0 := by unfold meetsE; rw [h.armed, h.failing]; decide
  exact ⟨h1, meets_dead h.dead h1, by show dec1 s.armed = -1; rw [h.armed]; decide, by show dec1 s.failing = -1; rw [h.failing]; decide⟩
theorem Cm.fl (h : Cm s) (F : Int → Option Fi) : Cm { s with fl := F } := ⟨h.dead, h.armed, h.failing⟩
theorem lives_ok (hd : s.dead = false) (h0 : 0 ≤ x) (h4 : x < 4) : livesE s [x] = 0 := by
  unfold livesE; simp [hd, nameB, h0, h4]
theorem lives_ok2 (hd : s.dead = false) (h0 : 0 ≤ x) (h4 : x < 4) (k0 : 0 ≤ y) (k4 : y < 4) : livesE s [x, y] = 0 := by
  unfold livesE; simp [hd, nameB, h0, h4, k0, k4]
theorem with_some {ask : Fi → Int} {doF : Fi → Fi} (hd : s.dead = false) (h0 : 0 ≤ x) (h4 : x < 4) (hf : s.fl x = some f) (ha : ask f = 0) :
    withE s x ask = meetsE s ∧ withS s x ask doF = if meetsE s ≠ 0 then meetsS s else { meetsS s with fl := updF s.fl x (some (doF f)) } := by
  have hl := lives_ok hd h0 h4
  refine ⟨?_, ?_⟩
  · unfold withE; rw [hf]; simp [hl, ha]
  · unfold withS; rw [hf]; simp [hl, ha]
theorem with_out {ask : Fi → Int} {doF : Fi → Fi} (hd : s.dead = false) (h0 : 0 ≤ x) (h4 : x < 4) (hf : s.fl x = some f) (ha : ask f = 0) : Out (withE s x ask, withS s x ask doF) s (updF s.fl x (some (doF f))) (fun F => F = s.fl) := by
  obtain ⟨h1, h2⟩ := with_some (doF := doF) hd h0 h4 hf ha
  rw [h1, h2]
  refine ⟨fun h => ?_, fun h => ?_, ?_, fun h => ?_, meets_err s⟩
  · dsimp only at h ⊢
    rw [if_neg (by simp [h])]
    exact ⟨rfl, meets_dead hd h⟩
  · dsimp only at h ⊢
    rw [if_pos h]
    rfl
  · dsimp only
    split <;> rfl
  · obtain ⟨h3, h4⟩ := h.meets
    dsimp only
    rw [if_neg (by simp [h3])]
    exact ⟨h3, h4.fl _⟩
theorem sync_out (hd : s.dead = false) (h0 : 0 ≤ x) (h4 : x < 4) (hf : s.fl x = some f) : Out (syncR x s) s (updF s.fl x (some (syncF f))) (fun F => F = s.fl) := with_out hd h0 h4 hf rfl
theorem trunc_out {n : Int} (hd : s.dead = false) (h0 : 0 ≤ x) (h4 : x < 4) (hf : s.fl x = some f) (hn : 0 ≤ n ∧ n ≤ f.bs.length) : Out (truncR x n s) s (updF s.fl x (some (truncF n f))) (fun F => F = s.fl) := with_out hd h0 h4 hf (by unfold askT; rw [if_neg (by omega)])
theorem read_out (hd : s.dead = false) (h0 : 0 ≤ x) (h4 : x < 4) (hf : s.fl x = some f) : Out (withE s x ask0, withS s x ask0 id) s (updF s.fl x (some f)) (fun F => F = s.fl) := with_out (doF := id) hd h0 h4 hf rfl
theorem upd_self (hf : s.fl x = some f) : updF s.fl x (some f) = s.fl := by
  funext z; unfold updF; split
  · rename_i h; rw [h, hf]
  · rfl
theorem app_out (hd : s.dead = false) (h0 : 0 ≤ x) (h4 : x < 4) (hr : (s.used : Int) + bs.length ≤ s.room) : Out (appR x bs s) s (updF s.fl x (some (appF (s.at x) bs))) (fun F => F = s.fl ∨ F = updF s.fl x (some (appF (s.at x) bs))) := by
  have hl := lives_ok hd h0 h4
  have h1 : appendE s x bs = meetsE s := by unfold appendE; rw [if_neg (by simp [hl]), if_neg (by omega)]
  have h2 : appendS s x bs = if meetsE s = 8 then meetsS s else { meetsS s with fl := updF s.fl x (some (appF (s.at x) bs)) } := by unfold appendS; rw [if_neg (by simp [hl]), if_neg (by omega)]
  unfold appR
  rw [h1, h2]
  refine ⟨fun h => ?_, fun h => ?_, ?_, fun h => ?_, meets_err s⟩
  · dsimp only at h ⊢
    rw [if_neg (by rw [h]; decide)]
    exact ⟨rfl, meets_dead hd h⟩
  · dsimp only at h ⊢
    split
    · exact .inl rfl
    · exact .inr rfl
  · dsimp only
    split <;> rfl
  · obtain ⟨h3, h4⟩ := h.meets
    dsimp only
    rw [if_neg (by rw [h3]; decide)]
    exact ⟨h3, h4.fl _⟩
theorem rids_out (hd : s.dead = false) (h0 : 0 ≤ x) (h4 : x < 4) : Out (ridsR x s) s (updF s.fl x none) (fun F => F = s.fl) := by
  unfold ridsR
  cases hf : s.fl x with
  | none =>
    rw [if_neg (by simp)]
    refine ⟨fun _ => ⟨?_, hd⟩, fun h => absurd rfl h, rfl, fun h => ⟨rfl, h⟩, .inl rfl⟩
    funext z; unfold updF; split
    · rename_i h; rw [h]; exact hf
    · rfl
  | some f =>
    rw [if_pos (by simp)]
    obtain ⟨h1, h2⟩ := with_some (ask := ask0) (doF := id) hd h0 h4 hf rfl
    have hR : removeS s x = if meetsE s = 0 then { meetsS s with fl := updF (updF s.fl x (some f)) x none } else meetsS s := by
      unfold removeS
      rw [h1, h2]
      by_cases hm : meetsE s = 0
      · rw [if_pos hm, if_pos hm, if_neg (by simp [hm])]; rfl
      · rw [if_neg hm, if_neg hm, if_pos hm]
    rw [h1, hR]
    have hu : updF (updF s.fl x (some f)) x none = updF s.fl x none := by
      funext z; unfold updF; split <;> rfl
    refine ⟨fun h => ?_, fun h => ?_, ?_, fun h => ?_, meets_err s⟩
    · dsimp only at h ⊢
      rw [if_pos h]
      exact ⟨hu, meets_dead hd h⟩
    · dsimp only at h ⊢
      rw [if_neg h]; rfl
    · dsimp only
      split <;> rfl
    · obtain ⟨h3, h4⟩ := h.meets
      dsimp only
      rw [if_pos h3]
      exact ⟨h3, h4.fl _⟩
theorem ren_out (hd : s.dead = false) (h0 : 0 ≤ x) (h4 : x < 4) (k0 : 0 ≤ y) (k4 : y < 4) (hxy : x ≠ y) (hf : s.fl x = some f) : Out (renR x y s) s (updF (updF s.fl x none) y (some ⟨f.bs, f.sy, true⟩)) (fun F => F = s.fl) := by
  obtain ⟨h1, h2⟩ := with_some (ask := ask0) (doF := renF x y) hd h0 h4 hf rfl
  have hat : s.at x = f := at_of hf
  have hE : renameE s x y = meetsE s := by unfold renameE; rw [if_neg (by simp [lives_ok2 hd h0 h4 k0 k4]), h1]
  have hren : renF x y f = ⟨f.bs, f.sy, true⟩ := by unfold renF; simp [hxy]
  have hu : updF (updF (updF s.fl x (some (renF x y f))) x none) y (some (renF x y f)) = updF (updF s.fl x none) y (some ⟨f.bs, f.sy, true⟩) := by
    rw [hren]; funext z; unfold updF; split
    · rfl
    · split <;> rfl
  have hR : renameS s x y = if meetsE s = 0 then { meetsS s with fl := updF (updF s.fl x none) y (some ⟨f.bs, f.sy, true⟩) } else meetsS s := by
    unfold renameS
    rw [if_neg (by simp [lives_ok2 hd h0 h4 k0 k4]), h1, h2, hat]
    by_cases hm : meetsE s = 0
    · rw [if_pos ⟨hm, hxy⟩, if_pos hm, if_neg (by simp [hm])]
      rw [← hu]
    · rw [if_neg (by simp [hm]), if_neg hm, if_pos hm]
  unfold renR
  rw [hE, hR]
  refine ⟨fun h => ?_, fun h => ?_, ?_, fun h => ?_, meets_err s⟩
  · dsimp only at h ⊢
    rw [if_pos h]
    exact ⟨rfl, meets_dead hd h⟩
  · dsimp only at h ⊢
    rw [if_neg h]; rfl
  · dsimp only
    split <;> rfl
  · obtain ⟨h3, h4⟩ := h.meets
    dsimp only
    rw [if_pos h3]
    exact ⟨h3, h4.fl _⟩
end
end Go.Proofs.YtkekidjjmcmjhaaGreat
