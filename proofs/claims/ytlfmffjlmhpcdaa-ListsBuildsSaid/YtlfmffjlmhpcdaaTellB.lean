/- The contracts of the document's Next, Place, SameInts. -/
import Derived.Test.YtlfmffjlmhpcdaaRefB
namespace Go.Proofs.Ytlfmffjlmhpcdaa
open Go.RowKit
set_option maxRecDepth 100000
attribute [local irreducible] Der

def cntL (L : List Int) (n : Int) (k : Nat) : Nat := ((L.take k).filter fun x => decide (x < n)).length
theorem cntL_hit (L : List Int) (n : Int) (k : Nat) (h : k < L.length) (hh : L[k] < n) : cntL L n (k + 1) = cntL L n k + 1 := by
  unfold cntL; rw [List.take_succ_eq_append_getElem h, List.filter_append, List.filter_cons_of_pos (by simp [hh])]; simp
theorem cntL_miss (L : List Int) (n : Int) (k : Nat) (h : k < L.length) (hh : ¬ L[k] < n) : cntL L n (k + 1) = cntL L n k := by
  unfold cntL; rw [List.take_succ_eq_append_getElem h, List.filter_append, List.filter_cons_of_neg (by simp [hh])]; simp
theorem cntL_le (L : List Int) (n : Int) (k : Nat) : cntL L n k ≤ k := by
  unfold cntL; have := List.length_filter_le (fun x => decide (x < n)) (L.take k); have := List.length_take_le k L; omega

/-- The least that is n or more, and whether there is one. -/
def nextF (L : List Int) (n : Int) : Int × Bool := match L.find? (fun x => decide (n ≤ x)) with | some x => (x, true) | none => (0, false)
theorem nextF_hit (L : List Int) (n : Int) (k : Nat) (h : k < L.length) (hb : ∀ x ∈ L.take k, ¬ n ≤ x) (hh : n ≤ L[k]) : nextF L n = (L[k], true) := by
  have e : L.find? (fun x => decide (n ≤ x)) = some L[k] := by
    have hs : L = L.take k ++ L[k] :: L.drop (k + 1) := by rw [← List.drop_eq_getElem_cons h, List.take_append_drop]
    have h1 : (L.take k).find? (fun x => decide (n ≤ x)) = none := List.find?_eq_none.2 fun x hx => by simpa using hb x hx
    have h2 := congrArg (List.find? fun x => decide (n ≤ x)) hs
    rw [h2, List.find?_append, h1, Option.none_or, List.find?_cons_of_pos (by simp [hh])]
  unfold nextF; rw [e]
theorem nextF_none (L : List Int) (n : Int) (hb : ∀ x ∈ L, ¬ n ≤ x) : nextF L n = (0, false) := by
  have e : L.find? (fun x => decide (n ≤ x)) = none := List.find?_eq_none.2 fun x hx => by simpa using hb x hx
  unfold nextF; rw [e]

theorem take_eq_succ {l m : List Int} {k : Nat} (h : k < l.length) (h' : k < m.length) (ht : l.take k = m.take k) (he : l[k] = m[k]) : l.take (k + 1) = m.take (k + 1) := by
  rw [List.take_succ_eq_append_getElem h, List.take_succ_eq_append_getElem h', ht, he]
theorem ne_at {l m : List Int} {k : Nat} (h : k < l.length) (h' : k < m.length) (he : ¬ l[k] = m[k]) : decide (l = m) = false :=
  decide_eq_false fun e => he (by subst e; rfl)
end Go.Proofs.Ytlfmffjlmhpcdaa
