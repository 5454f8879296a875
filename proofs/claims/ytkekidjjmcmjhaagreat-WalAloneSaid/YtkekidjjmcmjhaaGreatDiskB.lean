/- The contracts of lives (with slices.ContainsFunc and IndexFunc at its predicate), meets, New. -/
import Derived.Test.YtkekidjjmcmjhaaGreatDiskA
namespace Go.Proofs.YtkekidjjmcmjhaaGreat
open Go.RowKit
set_option maxRecDepth 100000

/-- Where the first name stands that is none. -/
def badAt (l : List Int) : Int := match l.findIdx? (fun x => !nameB x) with | some i => (i : Int) | none => -1

theorem badAt_none {l : List Int} (h : ∀ i (hi : i < l.length), nameB l[i] = true) : badAt l = -1 := by
  have : l.findIdx? (fun x => !nameB x) = none := by
    rw [List.findIdx?_eq_none_iff]
    intro x hx
    obtain ⟨i, hi, rfl⟩ := List.getElem_of_mem hx
    simp [h i hi]
  unfold badAt; rw [this]
theorem badAt_some {l : List Int} {k : Nat} (hk : k < l.length) (h : ∀ i (hi : i < l.length), i < k → nameB l[i] = true) (hb : nameB l[k] = false) : badAt l = k := by
  have : l.findIdx? (fun x => !nameB x) = some k := by
    rw [List.findIdx?_eq_some_iff_getElem]
    exact ⟨hk, by simp [hb], fun j hj => by simp [h j (by omega) hj]⟩
  unfold badAt; rw [this]
theorem badAt_any (l : List Int) : decide (0 ≤ badAt l) = l.any (fun x => !nameB x) := by
  unfold badAt
  cases h : l.findIdx? (fun x => !nameB x) with
  | none =>
    rw [List.findIdx?_eq_none_iff] at h
    have : l.any (fun x => !nameB x) = false := by
      rw [List.any_eq_false]
      intro x hx; rw [h x hx]; simp
    rw [this]; rfl
  | some i =>
    rw [List.findIdx?_eq_some_iff_getElem] at h
    obtain ⟨hi, h1, -⟩ := h
    have : l.any (fun x => !nameB x) = true := List.any_eq_true.2 ⟨_, List.getElem_mem hi, h1⟩
    rw [this]; simp

theorem f_IndexFunc (v : Value) (l : List Int) (w : World) (h : Ints w v l) (hn : l.length ≤ 1000000) :
    Calls Tryz.prog 109 #[v, .func (.func 77) #[] #[]] w fun e w' => e = .returned (.int .i64 (badAt l)) ∧ w' = w := by
  obtain ⟨a, cap, rfl, hl, hm, hc⟩ := h.open
  have HC := Lib.hid hc
  have HW := fun x w => f_wrong x w
  have eg : ∀ args w, (callFunc 77 args).run Tryz.prog w = .ok (.enter 77 args) w := fun _ _ => rfl
  clear h hc
  go_enter Tryz.func109, Tryz.ntmps109
  go_wp2
  go_loopw [8] (fun i wr => wr = w ∧ ∃ k : Nat, k ≤ l.length ∧ i = .int .i64 k ∧ ∀ j (hj : j < l.length), j < k → nameB l[j] = true) (fun i _ => l.length - (intOf i).toNat)
  case atStart => exact ⟨rfl, 0, Nat.zero_le _, rfl, fun j _ hj => by omega⟩
  case round =>
    obtain ⟨rfl, k, hk, rfl, hlt⟩ := hrel
    by_cases hkl : k < l.length
    · obtain ⟨bb, off, rfl, hblt, hcell⟩ := HC.out k hkl
      cases hnb : nameB l[k] with
      | false =>
        go_wp2_with (go_at_call 77; refine (f_wrong _ _).mono ?_; rintro e w' ⟨rfl, rfl⟩; rw [hnb])
        go_ret
        exact ⟨congrArg (fun z => Ending.returned (.int .i64 z)) (badAt_some hkl hlt hnb).symm, rfl⟩
      | true =>
        go_wp2_with (go_at_call 77; refine (f_wrong _ _).mono ?_; rintro e w' ⟨rfl, rfl⟩; rw [hnb])
        exact ⟨⟨by first | trivial | rfl, k + 1, by omega, by simp, fun j hj hjk => by
          by_cases e : j = k
          · subst e; exact hnb
          · exact hlt j hj (by omega)⟩, by simp [intOf]; omega⟩
    · obtain rfl : k = l.length := by omega
      go_wp2
      go_ret
      exact ⟨congrArg (fun z => Ending.returned (.int .i64 z)) (badAt_none (fun i hi => hlt i hi hi)).symm, rfl⟩

theorem f_ContainsFunc (v : Value) (l : List Int) (w : World) (h : Ints w v l) (hn : l.length ≤ 1000000) :
    Calls Tryz.prog 78 #[v, .func (.func 77) #[] #[]] w fun e w' => e = .returned (.bool (l.any (fun x => !nameB x))) ∧ w' = w := by
  have H := fun w0 (e : w0 = w) => f_IndexFunc v l w0 (e ▸ h) hn
  clear h
  go_enter Tryz.func78, Tryz.ntmps78
  go_wp2_with (go_at_call 109; refine (H _ rfl).mono ?_; rintro e w' ⟨rfl, rfl⟩)
  go_ret
  exact ⟨congrArg (fun z => Ending.returned (.bool z)) (badAt_any l), rfl⟩

def livesE (s : DS) (l : List Int) : Int := if s.dead then 9 else if l.any (fun x => !nameB x) then 120 else 0

section
variable {w : World} {A : List Nat} {b m : Nat} {s : DS}
theorem f_lives (h : Disk w A b m s) (v : Value) (l : List Int) (hv : Ints w v l) (hn : l.length ≤ 1000000) :
    Calls Tryz.prog 35 #[DP b, v] w fun e w' => e = .returned (.int .i64 (livesE s l)) ∧ w' = w := by
  have H := fun w0 (e : w0 = w) => f_ContainsFunc v l w0 (e ▸ hv) hn
  have c5 := h.c5
  clear h hv
  unfold livesE
  go_enter Tryz.func35, Tryz.ntmps35
  cases hd : s.dead with
  | true =>
    rw [hd] at c5
    go_wp2
    go_ret
    exact ⟨rfl, rfl⟩
  | false =>
    rw [hd] at c5
    cases ha : l.any (fun x => !nameB x) with
    | true =>
      go_wp2_with (go_at_call 78; refine (H _ rfl).mono ?_; rintro e w' ⟨rfl, rfl⟩; rw [ha])
      go_ret
      exact ⟨rfl, rfl⟩
    | false =>
      go_wp2_with (go_at_call 78; refine (H _ rfl).mono ?_; rintro e w' ⟨rfl, rfl⟩; rw [ha])
      go_ret
      exact ⟨rfl, rfl⟩
theorem f_lives_nil (v : Value) (w : World) : Calls Tryz.prog 35 #[.pointer none, v] w fun e w' => e = .returned (.int .i64 1) ∧ w' = w := by
  go_enter Tryz.func35, Tryz.ntmps35
  go_wp2
  go_ret
  exact ⟨rfl, rfl⟩
end
end Go.Proofs.YtkekidjjmcmjhaaGreat
