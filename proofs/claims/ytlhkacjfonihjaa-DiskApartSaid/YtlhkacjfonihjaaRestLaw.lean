/- What was synced all over is untouched by a loss of power: the plain law. -/
import Derived.Test.YtlhkacjfonihjaaWhole
namespace Go.Proofs.Ytlhkacjfonihjaa
open Go.RowKit
set_option maxRecDepth 100000

theorem syncF_twice (f : Fi) : syncF (syncF f) = syncF f := rfl
/-- s' is s, its files of l synced. -/
structure Synced (s s' : DS) (l : List Int) : Prop where
  ok : s'.Ok
  calm : CalmS s'
  room : s'.room = s.room
  ops : s'.ops = s.ops + l.length
  fl : ∀ x, s'.fl x = if x ∈ l then (s.fl x).map syncF else s.fl x
theorem Synced.step {s s' : DS} {l : List Int} (h : Synced s s' l) {x : Int} (hx : x ∈ namesOf s) (hn : x ∉ l) : withE s' x ask0 = 0 ∧ Synced s (withS s' x ask0 syncF) (l ++ [x]) := by
  obtain ⟨h4, hs⟩ := namesOf_mem.1 hx
  obtain ⟨f, hf⟩ := Option.isSome_iff_exists.1 hs
  have hf' : s'.fl x = some f := by rw [h.fl, if_neg hn]; exact hf
  obtain ⟨e1, e2⟩ := withE_calm h.calm.dead h.calm.armed h.calm.failing (x := x) (by omega) (by omega) hf' (ask := ask0) rfl syncF
  refine ⟨e1, ⟨sync_ok h.ok x, ?_, ?_, ?_, fun y => ?_⟩⟩
  · rw [e2]
    refine ⟨?_, ?_, ?_⟩
    · show (if s'.armed = 0 then true else s'.dead) = false
      rw [h.calm.armed]; exact h.calm.dead
    · show dec1 s'.armed = -1
      rw [h.calm.armed]; rfl
    · show dec1 s'.failing = -1
      rw [h.calm.failing]; rfl
  · rw [e2]; exact h.room
  · rw [e2]
    show s'.ops + 1 = _
    have := h.ops; rw [this]; simp; omega
  · rw [e2]
    show updF s'.fl x (some (syncF f)) y = _
    unfold updF
    by_cases e : y = x
    · rw [if_pos e, if_pos (by simp [e]), e, hf]; rfl
    · rw [if_neg e, h.fl y]
      simp [e]
theorem names_of_some {s s' : DS} (h : ∀ x, (s'.fl x).isSome = (s.fl x).isSome) : namesOf s' = namesOf s := by
  unfold namesOf
  simp only [h]
theorem nP_synced (f : Fi) : nP (syncF f) = 0 := by
  unfold nP syncF
  simp
theorem Synced.all {s s' : DS} (hok : s.Ok) (h : Synced s s' (namesOf s)) : (∀ x, s'.fl x = (s.fl x).map syncF) ∧ namesOf s' = namesOf s ∧ (∀ x, (s'.at x).bs = (s.at x).bs) ∧ pieces s' = [] := by
  have h1 : ∀ x, s'.fl x = (s.fl x).map syncF := fun x => by
    rw [h.fl]
    split
    · rfl
    · rename_i hx
      cases hf : s.fl x with
      | none => rfl
      | some f =>
        have := hok.name x f hf
        exact absurd (namesOf_mem.2 ⟨by omega, by rw [hf]; rfl⟩) hx
  refine ⟨h1, names_of_some fun x => by rw [h1]; simp, fun x => ?_, ?_⟩
  · unfold DS.at
    rw [h1]
    cases s.fl x <;> rfl
  · unfold pieces
    rw [List.flatMap_eq_nil_iff]
    intro x hx
    unfold pieceL
    have : nP (s'.at x) = 0 := by
      unfold DS.at
      rw [h1]
      cases hf : s.fl x with
      | none => rfl
      | some f => exact nP_synced f
    rw [this]; rfl
/-- The crash changes nothing there. -/
theorem rest_crash {s s' : DS} (hok : s.Ok) (h : Synced s s' (namesOf s)) (keep : List Bool) : (∀ x, (crashS s' keep).fl x = s'.fl x) ∧ pendL s' = [] := by
  obtain ⟨h1, h2, h3, h4⟩ := h.all hok
  refine ⟨fun x => ?_, by unfold pendL; rw [h4]; rfl⟩
  rw [crash_fl h.ok, h4, h1]
  cases hf : s.fl x with
  | none => rfl
  | some f =>
    show crF (fun _ => none) x (syncF f) = _
    unfold crF syncF
    simp
end Go.Proofs.Ytlhkacjfonihjaa
