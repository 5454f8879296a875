/- A row of rows of bytes that a law makes beside a log. -/
import Derived.Test.YtkekidjjmcmjhaaGreatWalY
namespace Go.Proofs.YtkekidjjmcmjhaaGreat
open Go.RowKit Go.Shelf
set_option maxRecDepth 100000
attribute [local irreducible] Der

section
variable {w w' : World} {A A' L : List Nat} {q b m : Nat} {g ga : Option Nat} {s : DS} {ws : WS} {v : Value} {l : List (List Int)}
theorem WalIs.ext (h : WalIs w A b m q g ws s) (ht : Tw w.heap.size L w w') (hL : ∀ a ∈ L, a ∈ A) (hb : b ∉ L) (hm : m ∉ L) (hq : q ∉ L) (hg : ∀ k, g = some k → k ∉ L) (hA : Ext w.heap.size A A') (hl : ∀ a ∈ A', a < w'.heap.size) : WalIs w' A' b m q g ws s :=
  ⟨h.disk.ext ht hL hb hm hA hl, h.said.turn ht.size hA hl (fun k hk hkA => ht.block k hk (fun e => hkA (hL k e))) (ht.block _ h.said.blt hq) (fun k hk => ht.block _ (h.said.lt _ (h.said.hg k hk).1) (hg k hk)), (ht.cell (p := ⟨q, 3, none⟩) h.said.blt hq).trans h.c3, (ht.cell (p := ⟨q, 4, none⟩) h.said.blt hq).trans h.c4, h.qb, h.qm, h.gb⟩
theorem RowIs.rows (h : RowIs w A v ga l) : RowsAt w v l := by
  obtain ⟨-, -, ps, h1, h2, h3⟩ := h
  exact ⟨ps, h1, Sl.of_owns h2, fun p hp => (h3 p hp).1⟩
theorem RowIs.nil (w : World) (A : List Nat) : RowIs w A (.slice none 0 0) none [] := ⟨rfl, fun k hk => (by cases hk), [], rfl, World.ownsRow_nil _ _ _ _, fun p hp => (by cases hp)⟩
theorem RowIs.below (h : RowIs w A v ga l) (hl : ∀ a ∈ A, a < w.heap.size) (hb : Below w.heap.size w w') : RowIs w' A v ga l :=
  h.turn hb.size (Ext.refl _ _) (fun k hk _ => hb.block k hk) (fun k hk => hb.block k (hl k (h.2.1 k hk)))
/-- What append makes of a row. -/
theorem RowIs.grow {v' x : Value} {p : List Int} {ps : List (Value × List Int)} (hv : v.ownBlock = ga) (hga : ∀ k, ga = some k → k ∈ A) (h1 : ps.map Prod.snd = l)
    (h3 : ∀ p ∈ ps, Byt w p.1 p.2 ∧ ∀ ad n c, p.1 = .slice (some ad) n c → ad.block < w.heap.size ∧ ad.block ∉ A) (hx : Byt w x p) (hxa : ∀ ad n c, x = .slice (some ad) n c → ad.block < w.heap.size ∧ ad.block ∉ A) (hg : w.grownBy w' v.ownBlock)
    (ho : w'.ownsRow 0 24 1 v' (ps.length + 1) (ps.map Prod.fst ++ [x])) (hat : v'.ownBlock = v.ownBlock ∨ v'.ownBlock = some w.heap.size) : RowIs w' (v'.ownBlock.toList ++ A) v' v'.ownBlock (l ++ [p]) := by
  have keep : ∀ (y : Value) (r : List Int), (Byt w y r ∧ ∀ ad n c, y = .slice (some ad) n c → ad.block < w.heap.size ∧ ad.block ∉ A) → Byt w' y r ∧ ∀ ad n c, y = .slice (some ad) n c → ad.block < w'.heap.size ∧ ad.block ∉ v'.ownBlock.toList ++ A := fun y r ⟨hy, hya⟩ => by
    refine ⟨hy.turn' hya hg.size (fun k hk hkA => hg.block k hk (fun e => hkA (hga k (hv ▸ e.symm)))), fun ad n c e => ?_⟩
    obtain ⟨h5, h6⟩ := hya ad n c e
    refine ⟨Nat.lt_of_lt_of_le h5 hg.size, fun hc => ?_⟩
    rcases List.mem_append.1 hc with h7 | h7
    · have h8 : v'.ownBlock = some ad.block := by simpa using h7
      rcases hat with h9 | h9
      · exact h6 (hga _ (by rw [← hv, ← h9]; exact h8))
      · rw [h9] at h8; have := Option.some.inj h8; omega
    · exact h6 h7
  refine ⟨rfl, fun k hk => List.mem_append_left _ (by simp [hk]), ps ++ [(x, p)], by simp [h1], by simpa using ho, fun y hy => ?_⟩
  rcases List.mem_append.1 hy with h4 | h4
  · exact keep _ _ (h3 y h4)
  · simp only [List.mem_cons, List.not_mem_nil, or_false] at h4
    subst h4
    exact keep _ _ ⟨hx, hxa⟩
end
theorem RowsAt.cut {W : World} {a : Option Addr} {n c k : Nat} {l : List (List Int)} (h : RowsAt W (.slice a n c) l) (hk : k ≤ l.length) : RowsAt W (.slice a k c) (l.take k) := by
  obtain ⟨ps, h1, h2, h3⟩ := h
  obtain ⟨a', c', e, e2, e3, h4⟩ := h2.form
  simp only [Value.slice.injEq] at e
  subst h1
  rw [List.length_map] at hk
  have hl : (ps.take k).length = k := by rw [List.length_take]; omega
  refine ⟨ps.take k, by rw [List.map_take], ⟨a, c, by rw [hl], by omega, by omega, fun hne => ?_⟩, fun p hp => h3 p (List.mem_of_mem_take hp)⟩
  obtain ⟨bb, off, e4, h5, h6⟩ := h4 (by intro e5; apply hne; rw [List.map_take, e5]; simp)
  refine ⟨bb, off, by rw [e.1, e4], h5, fun i hi => ?_⟩
  rw [List.length_map, hl] at hi
  rw [h6 i (by rw [List.length_map]; omega)]
  simp
theorem run_cutR (a : Option Addr) (n c k : Nat) (h : k ≤ n) (hc : n ≤ c) (hm : c ≤ 9223372036854775807) (w : World) :
    (Instr.sliceAt 22 (.slice a n c) none (some (.int .i64 k)) none).run Tryz.prog w = .ok (.slice a k c) w := by
  have h2 : k ≤ c := by omega
  go_simp
end Go.Proofs.YtkekidjjmcmjhaaGreat
