/- The iterator of a disk's pieces: its contract. -/
import Derived.Test.YtkekidjjmcmjhaaFiles
import Derived.RangeFuncNested
import Derived.RangeFuncBound
import Derived.RangeFuncCalls
import Derived.RangeFuncLeaves
import Derived.RangeFuncWrites
import Derived.RangeFuncBox
import Derived.Shelf.Abstract
import Derived.Shelf.RegionOpen
import Derived.OwnWalkIn
import Derived.TacticsInMore
import Derived.LoopNIn
import Derived.LoopIn
import Derived.Maps.OwnIn
namespace Go.Proofs.Ytkekidjjmcmjhaa
open Go.RowKit Go.Shelf
set_option maxRecDepth 100000
attribute [local go_sem] Oper.semAt_some

/-- A piece: its file, and where it ends. -/
abbrev Pc := Fin 4 × Fin 65537
def pc (x e : Nat) : Pc := (Fin.ofNat 4 x, Fin.ofNat 65537 e)
def encP (p : Pc) : Array Value := #[.int .i64 (p.1.val : Int), .int .i64 (p.2.val : Int)]
theorem encP_pc {x e : Nat} (hx : x < 4) (he : e ≤ 65536) : encP (pc x e) = #[.int .i64 (x : Int), .int .i64 (e : Int)] := by
  unfold encP pc
  simp only [Fin.ofNat]
  rw [Nat.mod_eq_of_lt hx, Nat.mod_eq_of_lt (by omega)]

/-- How many loose pieces a file has. -/
def nP (f : Fi) : Nat := (f.bs.length - f.sy.toNat + 7) / 8
def pEnd (f : Fi) (j : Nat) : Nat := min (f.sy.toNat + 8 * j + 8) f.bs.length
def pieceN (s : DS) (x : Int) (j : Nat) : List Pc := (List.range j).map fun i => pc x.toNat (pEnd (s.at x) i)
def pieceL (s : DS) (x : Int) : List Pc := pieceN s x (nP (s.at x))
def piecesK (s : DS) (k : Nat) : List Pc := ((namesOf s).take k).flatMap (pieceL s)
def pieces (s : DS) : List Pc := (namesOf s).flatMap (pieceL s)

theorem pieceN_succ (s : DS) (x : Int) (j : Nat) : pieceN s x (j + 1) = pieceN s x j ++ [pc x.toNat (pEnd (s.at x) j)] := by
  unfold pieceN; rw [List.range_succ, List.map_append]; rfl
theorem piecesK_succ (s : DS) (k : Nat) (h : k < (namesOf s).length) : piecesK s (k + 1) = piecesK s k ++ pieceL s (namesOf s)[k] := by
  unfold piecesK; rw [List.take_succ_eq_append_getElem h, List.flatMap_append]; simp
theorem piecesK_all (s : DS) : piecesK s (namesOf s).length = pieces s := by unfold piecesK pieces; rw [List.take_length]
theorem piecesK_pre (s : DS) (k : Nat) : piecesK s k <+: pieces s := by
  refine ⟨((namesOf s).drop k).flatMap (pieceL s), ?_⟩
  unfold piecesK pieces
  rw [← List.flatMap_append, List.take_append_drop]
theorem pieces_mid (s : DS) (k : Nat) (h : k < (namesOf s).length) (j : Nat) (hj : j ≤ nP (s.at (namesOf s)[k])) : piecesK s k ++ pieceN s (namesOf s)[k] j <+: pieces s := by
  refine List.IsPrefix.trans ?_ (piecesK_pre s (k + 1))
  rw [piecesK_succ s k h]
  refine ⟨(pieceN s (namesOf s)[k] (nP (s.at (namesOf s)[k]))).drop j, ?_⟩
  rw [List.append_assoc]
  congr 1
  have : pieceN s (namesOf s)[k] j = (pieceN s (namesOf s)[k] (nP (s.at (namesOf s)[k]))).take j := by
    unfold pieceN
    rw [← List.map_take, List.take_range, Nat.min_eq_left hj]
  rw [this, List.take_append_drop]
  rfl

/-- What a round that goes on keeps: all below n0; all cells from n1 on but the row that the body owns. -/
structure Kq (n0 n1 : Nat) (own : World → Option Nat) (W W' : World) : Prop where
  low : Below n0 W W'
  cells : ∀ k, n1 ≤ k → some k ≠ own W → ∀ o, W.heap[k]? = some o → o.isCells = true → W'.heap[k]? = some o
  ow : own W' = own W ∨ ∃ k, own W' = some k ∧ W.heap.size ≤ k ∧ k < W'.heap.size

theorem Kq.trans {n0 n1 : Nat} {own : World → Option Nat} {A B C : World} (h : Kq n0 n1 own A B) (k : Kq n0 n1 own B C) : Kq n0 n1 own A C := by
  refine ⟨h.low.trans k.low, fun i hi hne o ho hc => ?_, ?_⟩
  · have h1 := h.cells i hi hne o ho hc
    refine k.cells i hi (fun e => ?_) o h1 hc
    rcases h.ow with h2 | ⟨q, h2, h3, -⟩
    · exact hne (e.trans h2)
    · rw [h2] at e
      cases e
      have := (Array.getElem?_eq_some_iff.1 ho).1
      omega
  · rcases k.ow with h1 | ⟨q, h1, h2, h5⟩
    · rcases h.ow with h3 | ⟨q, h3, h4, h5⟩
      · exact .inl (h1.trans h3)
      · exact .inr ⟨q, h1.trans h3, h4, by have := k.low.size; omega⟩
    · exact .inr ⟨q, h1, by have := h.low.size; omega, h5⟩
theorem Kq.put {n0 n1 : Nat} {own : World → Option Nat} {w : World} (hn : n0 ≤ n1) (hw : n1 ≤ w.heap.size) (hO : ∀ W W' : World, Below n1 W W' → own W' = own W) (W : World) (l : Nat) (o o' : Obj) (hl : w.heap.size ≤ l) (h : W.heap[l]? = some o) (hc : o.isCells = false) (hwk : o.isWalk = false) : Kq n0 n1 own W (W.putObj l o') := by
  have hb : Below n1 W (W.putObj l o') := belowK_b (w := w) hw W l o o' hl h hc hwk
  refine ⟨hb.mono hn, fun k _ _ q hq hqc => ?_, .inl (hO _ _ hb)⟩
  have hne : k ≠ l := fun e => by
    rw [e, h] at hq
    cases hq
    rw [hc] at hqc
    cases hqc
  rw [(grownBy_putObj' W l o').block k (Array.getElem?_eq_some_iff.1 hq).1 (fun e => hne (Option.some.inj e)), hq]

theorem abides_belowD {β : Type} {B : Nat} {J : β → World → Prop} (hJ : AbidesFrom B J) {s : β} {W W' : World} (h : J s W) (hb : Below W.heap.size W W') : J s W' :=
  hJ s W W' none h ⟨hb.os, hb.tape, hb.output, hb.size, fun i hi _ => hb.block i hi⟩ (fun r e => by cases e)

/-- What the iterator holds on to, from round to round: the blocks of bs are as they were laid, and not the body's. -/
structure Hold (n1 : Nat) (own : World → Option Nat) (w0 : World) (bs : List (Nat × Obj)) (W : World) : Prop where
  low : Below w0.heap.size w0 W
  size : n1 ≤ W.heap.size
  ow : ∀ k, own W = some k → k < W.heap.size
  bl : ∀ p ∈ bs, W.heap[p.1]? = some p.2 ∧ p.2.isCells = true ∧ n1 ≤ p.1 ∧ own W ≠ some p.1

section
variable {n1 : Nat} {own : World → Option Nat} {w0 W W' : World} {bs : List (Nat × Obj)}
theorem Hold.lt (h : Hold n1 own w0 bs W) {p : Nat × Obj} (hp : p ∈ bs) : p.1 < W.heap.size := (Array.getElem?_eq_some_iff.1 (h.bl p hp).1).1
theorem Hold.kq {n0 : Nat} (h : Hold n1 own w0 bs W) (k : Kq n0 n1 own W W') (hn : n0 = w0.heap.size) : Hold n1 own w0 bs W' := by
  subst hn
  refine ⟨h.low.trans k.low, Nat.le_trans h.size k.low.size, fun i hi => ?_, fun p hp => ?_⟩
  · rcases k.ow with h1 | ⟨q, h1, h2, h3⟩
    · have := h.ow i (h1 ▸ hi); have := k.low.size; omega
    · rw [h1] at hi; cases hi; exact h3
  · obtain ⟨g1, g2, g3, g4⟩ := h.bl p hp
    refine ⟨k.cells p.1 g3 (fun e => g4 e.symm) p.2 g1 g2, g2, g3, fun e => ?_⟩
    rcases k.ow with h1 | ⟨q, h1, h2, h3⟩
    · exact g4 (h1 ▸ e)
    · rw [h1] at e
      cases e
      have := h.lt hp
      omega
theorem Hold.below (h : Hold n1 own w0 bs W) (hO : ∀ W W' : World, Below n1 W W' → own W' = own W) (hb : Below W.heap.size W W') (hw : w0.heap.size ≤ W.heap.size) : Hold n1 own w0 bs W' := by
  have e := hO W W' (hb.mono h.size)
  refine ⟨h.low.trans (hb.mono hw), Nat.le_trans h.size hb.size, fun i hi => ?_, fun p hp => ?_⟩
  · have := h.ow i (e ▸ hi); have := hb.size; omega
  · obtain ⟨g1, g2, g3, g4⟩ := h.bl p hp
    exact ⟨(hb.block _ (h.lt hp)).trans g1, g2, g3, fun e1 => g4 (e ▸ e1)⟩
theorem Hold.add (h : Hold n1 own w0 bs W) {p : Nat × Obj} (h1 : W.heap[p.1]? = some p.2) (h2 : p.2.isCells = true) (h3 : n1 ≤ p.1) (h4 : own W ≠ some p.1) : Hold n1 own w0 (p :: bs) W :=
  ⟨h.low, h.size, h.ow, fun q hq => by
    rcases List.mem_cons.1 hq with rfl | hq
    · exact ⟨h1, h2, h3, h4⟩
    · exact h.bl q hq⟩
theorem Hold.sub {bs' : List (Nat × Obj)} (h : Hold n1 own w0 bs W) (hs : ∀ p ∈ bs', p ∈ bs) : Hold n1 own w0 bs' W := ⟨h.low, h.size, h.ow, fun p hp => h.bl p (hs p hp)⟩
end

/-- A row of numbers of the call's own: its block, and what it reads. -/
theorem row_open {w : World} {B e : Nat} {v : Value} {l : List Int} (h : w.ownsRow B e 1 v l.length (l.map (Value.int .i64))) : ∃ a cap g o, v = .slice a l.length cap ∧ l.length ≤ cap ∧ cap ≤ 9223372036854775807 ∧
    (l ≠ [] → a = some ⟨g, 0, none⟩ ∧ B ≤ g ∧ w.heap[g]? = some o ∧ o.isCells = true ∧ ∀ i (hi : i < l.length), w.cell? ⟨g, i, none⟩ = some (.int .i64 l[i])) := by
  rcases h.2 with ⟨rfl, h0⟩ | ⟨g, cap, cur, rfl, hB, hg, hl, hm, hs, hx⟩
  · have := List.eq_nil_of_length_eq_zero h0
    subst this
    exact ⟨none, 0, 0, default, rfl, Nat.le_refl _, by omega, fun hne => absurd rfl hne⟩
  · refine ⟨_, cap, g, _, rfl, hl, by unfold maxLen at hm; omega, fun _ => ⟨rfl, hB, hg, rfl, fun i hi => ?_⟩⟩
    have := h.cells (g := g) rfl i (.int .i64 l[i]) (by simp [hi])
    have e : (⟨g, 0, none⟩ : Addr).add i = ⟨g, i, none⟩ := by unfold Addr.add; split <;> simp_all
    rw [e] at this
    exact this

section
variable {A : List Nat} {b m : Nat} {s : DS}

end
end Go.Proofs.Ytkekidjjmcmjhaa
