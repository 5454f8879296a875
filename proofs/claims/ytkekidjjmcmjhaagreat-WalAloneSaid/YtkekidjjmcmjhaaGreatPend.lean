/- The contract of Pending: a range over the pieces, gathered by append. -/
import Derived.Test.YtkekidjjmcmjhaaGreatPieces
namespace Go.Proofs.YtkekidjjmcmjhaaGreat
open Go.RowKit Go.Shelf
set_option maxRecDepth 100000
attribute [local go_sem] Oper.semAt_some

def pendL (s : DS) : List Int := (pieces s).map fun p => (p.1.val : Int)

theorem nP_le {s : DS} (hok : s.Ok) (x : Int) : nP (s.at x) ≤ 8193 := by
  have : (s.at x).bs.length ≤ 65536 := by
    cases hfx : s.fl x with
    | none => have : (s.at x).bs = [] := by unfold DS.at; rw [hfx]; rfl
              rw [this]; simp
    | some f => have : s.at x = f := by unfold DS.at; rw [hfx]; rfl
                rw [this]; exact len_le hok hfx
  unfold nP; omega
theorem flatMap_le {α β : Type} (f : α → List β) (c : Nat) : ∀ (l : List α), (∀ x ∈ l, (f x).length ≤ c) → (l.flatMap f).length ≤ l.length * c
  | [], _ => by simp
  | x :: l, h => by
    have h1 := flatMap_le f c l (fun y hy => h y (by simp [hy]))
    have h2 := h x (by simp)
    rw [List.flatMap_cons, List.length_append, List.length_cons, Nat.succ_mul]
    omega
theorem pieces_len {s : DS} (hok : s.Ok) : (pieces s).length ≤ 40000 := by
  have h1 := flatMap_le (pieceL s) 8193 (namesOf s) (fun x _ => by unfold pieceL pieceN; rw [List.length_map, List.length_range]; exact nP_le hok x)
  have h2 := namesOf_len s
  have : (namesOf s).length * 8193 ≤ 4 * 8193 := Nat.mul_le_mul_right _ h2
  unfold pieces
  omega

section
variable {w : World} {A : List Nat} {b m : Nat} {s : DS}

def ownAt (B : Nat) (W : World) : Option Nat := (W.cell? ⟨B, 0, none⟩).bind Value.ownBlock
theorem ownAt_of {B n1 : Nat} (hB : B < n1) (W W' : World) (h : Below n1 W W') : ownAt B W' = ownAt B W := by
  unfold ownAt; rw [h.cell (p := ⟨B, 0, none⟩) hB]

end
end Go.Proofs.YtkekidjjmcmjhaaGreat
