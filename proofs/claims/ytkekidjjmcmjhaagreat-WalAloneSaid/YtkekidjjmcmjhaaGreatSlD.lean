/- Slices of whatever program: what they hold, rows of the call's own, append; rows of numbers and of bytes. -/
import Derived.Test.YtkekidjjmcmjhaaGreatProg
import Derived.Test.YtkekidjjmcmjhaaGreatKit
import Derived.OwnWalk
import Derived.Laws.AppendOwn
import Derived.Laws.AppendOwnNone
import Derived.Maps.AppendAt
namespace Go.Proofs.YtkekidjjmcmjhaaGreat
open Go.RowKit
set_option maxRecDepth 100000

/-- The value is a slice, and its elements, n cells each, are these. -/
structure Sl (w : World) (v : Value) (len : Nat) (cs : List Value) : Prop where
  form : ∃ a cap, v = .slice a len cap ∧ len ≤ cap ∧ cap ≤ 9223372036854775807 ∧ (cs ≠ [] → ∃ b off, a = some ⟨b, off, none⟩ ∧ b < w.heap.size ∧ ∀ i (h : i < cs.length), w.cell? ⟨b, off + i, none⟩ = some cs[i])

theorem Sl.grown {w w' : World} {v : Value} {len : Nat} {cs : List Value} (h : Sl w v len cs) (hb : Below w.heap.size w w') : Sl w' v len cs := by
  obtain ⟨a, cap, hv, hl, hm, hc⟩ := h.form
  refine ⟨a, cap, hv, hl, hm, fun hne => ?_⟩
  obtain ⟨b, off, ha, hlt, hcell⟩ := hc hne
  exact ⟨b, off, ha, Nat.lt_of_lt_of_le hlt hb.size, fun i hi => (hb.cell (p := ⟨b, off + i, none⟩) hlt).trans (hcell i hi)⟩

theorem foldl_take_succ {α β : Type} (f : β → α → β) (z : β) (l : List α) (k : Nat) (h : k < l.length) : (l.take (k + 1)).foldl f z = f ((l.take k).foldl f z) l[k] := by
  rw [List.take_succ_eq_append_getElem h, List.foldl_append]; rfl

def Ints (w : World) (v : Value) (l : List Int) : Prop := Sl w v l.length (l.map (Value.int .i64))
theorem Ints.open {w : World} {v : Value} {l : List Int} (h : Ints w v l) : ∃ a cap, v = .slice a l.length cap ∧ l.length ≤ cap ∧ cap ≤ 9223372036854775807 ∧
    ∀ i (hi : i < l.length), ∃ b off, a = some ⟨b, off, none⟩ ∧ b < w.heap.size ∧ w.cell? ⟨b, off + i, none⟩ = some (.int .i64 l[i]) := by
  obtain ⟨a, cap, hv, hl, hm, hc⟩ := h.form
  refine ⟨a, cap, hv, hl, hm, fun i hi => ?_⟩
  obtain ⟨b, off, ha, hlt, hcell⟩ := hc (by intro e; simp at e; subst e; simp at hi)
  exact ⟨b, off, ha, hlt, (hcell i (by simpa using hi)).trans (by simp)⟩
theorem Ints.grown {w w' : World} {v : Value} {l : List Int} (h : Ints w v l) (hb : Below w.heap.size w w') : Ints w' v l := Sl.grown h hb

theorem Sl.of_cells {w : World} {b len cap : Nat} {cs : List Value} (hb : b < w.heap.size) (h1 : len ≤ cap) (h2 : cap ≤ 9223372036854775807) (hc : ∀ i (h : i < cs.length), w.cell? ⟨b, i, none⟩ = some cs[i]) :
    Sl w (.slice (some ⟨b, 0, none⟩) len cap) len cs :=
  ⟨⟨_, _, rfl, h1, h2, fun _ => ⟨b, 0, rfl, hb, fun i hi => by rw [Nat.zero_add]; exact hc i hi⟩⟩⟩
theorem Sl.fresh (w : World) (e : Nat) (len : Nat) (cs : List Value) {b : Nat} (hb : b = w.heap.size) (h : len ≤ 9223372036854775807) : Sl (w.alloc (.cells cs.toArray e)) (.slice (some ⟨b, 0, none⟩) len len) len cs := by
  subst hb
  refine Sl.of_cells (by simp) (Nat.le_refl _) h fun i hi => ?_
  have : (w.alloc (.cells cs.toArray e)).heap[w.heap.size]? = some (.cells cs.toArray e) := by
    show (w.heap.push _)[w.heap.size]? = _; simp
  unfold World.cell?
  rw [this]
  simp [hi]
theorem Sl.nilS (w : World) : Sl w (.slice none 0 0) 0 [] := ⟨⟨_, _, rfl, Nat.le_refl _, by omega, fun h => absurd rfl h⟩⟩

theorem info_int : (Tryz.prog.info? 3).map (fun i => (i.zero, i.size, i.bytes)) = some (some (.int .i64 0), 1, 8) := by kernel_rfl
theorem Ints.of_owns {w : World} {B n : Nat} {v : Value} {l : List Int} (h : w.ownsRow B 3 1 v n (l.map (Value.int .i64))) : Ints w v l := by
  have hn : l.length = n := by have := h.1; simpa using this
  subst hn
  rcases h.2 with ⟨rfl, h0⟩ | ⟨g, cap, cur, rfl, hB, hg, hl, hm, hs, hx⟩
  · have := List.eq_nil_of_length_eq_zero h0
    subst this
    exact Sl.nilS w
  · have hlt : g < w.heap.size := (Array.getElem?_eq_some_iff.1 hg).1
    have hm' : cap ≤ 9223372036854775807 := by unfold maxLen at hm; omega
    refine Sl.of_cells hlt hl hm' fun i hi => ?_
    have := h.cells (g := g) rfl i _ (List.getElem?_eq_getElem hi)
    have e : (⟨g, 0, none⟩ : Addr).add i = ⟨g, i, none⟩ := by unfold Addr.add; split <;> simp_all
    rw [e] at this
    exact this
theorem gather {B e : Nat} {w0 w w1 : World} {v : Value} {n : Nat} {xs : List Value} {o : Obj} (hB : Below B w0 w) (hb : B ≤ w.heap.size) (hown : w.ownsRow B e 1 v n xs) (hg : (w.alloc o).grownBy w1 v.ownBlock) :
    Below B w0 w1 ∧ B ≤ w1.heap.size := by
  have h1 : Below B w0 w1 := (hB.alloc hb o).grown hg (by simp; omega) (fun k hk => (hown.lt k hk).1)
  exact ⟨h1, by have := hg.size; simp at this; omega⟩

theorem flatMap_get {α : Type} (f : α → List Value) (C : Nat) (h0 : 0 < C) (hf : ∀ x, (f x).length = C) : ∀ (l : List α) (i : Nat) (hi : i < l.length) (j : Nat), j < C → (l.flatMap f)[i * C + j]? = (f l[i])[j]?
  | [], i, hi, _, _ => by simp at hi
  | x :: l, 0, _, j, hj => by
    rw [List.flatMap_cons, Nat.zero_mul, Nat.zero_add, List.getElem?_append_left (by rw [hf]; exact hj)]; rfl
  | x :: l, i + 1, hi, j, hj => by
    rw [List.flatMap_cons, List.getElem?_append_right (by rw [hf, Nat.succ_mul]; omega), hf, show (i + 1) * C + j - C = i * C + j by rw [Nat.succ_mul]; omega]
    exact flatMap_get f C h0 hf l i (by simpa using hi) j hj
theorem flatMap_len {α : Type} (f : α → List Value) (C : Nat) (hf : ∀ x, (f x).length = C) : ∀ (l : List α), (l.flatMap f).length = l.length * C
  | [] => by simp
  | x :: l => by rw [List.flatMap_cons, List.length_append, hf, flatMap_len f C hf l, List.length_cons, Nat.succ_mul]; omega
theorem Sl.openG {α : Type} (f : α → List Value) (C : Nat) (h0 : 0 < C) (hf : ∀ x, (f x).length = C) {w : World} {v : Value} {l : List α} (h : Sl w v l.length (l.flatMap f)) :
    ∃ a cap, v = .slice a l.length cap ∧ l.length ≤ cap ∧ cap ≤ 9223372036854775807 ∧
      ∀ i (hi : i < l.length), ∃ b off, a = some ⟨b, off, none⟩ ∧ b < w.heap.size ∧ ∀ j, j < C → w.cell? ⟨b, off + i * C + j, none⟩ = (f l[i])[j]? := by
  obtain ⟨a, cap, hv, hl, hm, hc⟩ := h.form
  refine ⟨a, cap, hv, hl, hm, fun i hi => ?_⟩
  have hlen := flatMap_len f C hf l
  have hlt : ∀ j, j < C → i * C + j < (l.flatMap f).length := fun j hj => by
    rw [hlen]
    have : (i + 1) * C ≤ l.length * C := Nat.mul_le_mul_right C hi
    rw [Nat.succ_mul] at this; omega
  obtain ⟨b, off, ha, hb, hcell⟩ := hc (by intro e; have := hlt 0 h0; rw [e] at this; simp at this)
  refine ⟨b, off, ha, hb, fun j hj => ?_⟩
  have := hcell (i * C + j) (hlt j hj)
  rw [← Nat.add_assoc] at this
  rw [this, ← List.getElem?_eq_getElem (hlt j hj), flatMap_get f C h0 hf l i hi j hj]

/-- A slice's value: nil, or with an address. -/
def NilA (v : Value) : Prop := v = .slice none 0 0 ∨ ∃ ad n c, v = .slice (some ad) n c
theorem NilA.of_none {n c : Nat} (h : NilA (.slice none n c)) : n = 0 ∧ c = 0 := by
  rcases h with h | ⟨_, _, _, h⟩
  · simp only [Value.slice.injEq, true_and] at h; exact h
  · simp at h
theorem NilA.nil : NilA (.slice none 0 0) := .inl rfl
theorem NilA.of_some (ad : Addr) (n c : Nat) : NilA (.slice (Option.some ad) n c) := .inr ⟨ad, n, c, rfl⟩
theorem NilA.of_owns {w : World} {B e size n : Nat} {v : Value} {xs : List Value} (h : w.ownsRow B e size v n xs) : NilA v := by
  rcases h.2 with ⟨rfl, _⟩ | ⟨g, cap, cur, rfl, _⟩
  · exact .inl rfl
  · exact .inr ⟨_, _, _, rfl⟩
/-- What an owned row holds, as a slice. -/
theorem Sl.of_owns {w : World} {B e size n : Nat} {v : Value} {xs : List Value} (h : w.ownsRow B e size v n xs) : Sl w v n xs := by
  rcases h.2 with ⟨rfl, h0⟩ | ⟨g, cap, cur, rfl, hB, hg, hl, hm, hs, hx⟩
  · have hlen := h.1
    subst h0
    have : xs = [] := List.eq_nil_of_length_eq_zero (by omega)
    subst this
    exact Sl.nilS w
  · have hlt : g < w.heap.size := (Array.getElem?_eq_some_iff.1 hg).1
    have hm' : cap ≤ 9223372036854775807 := by unfold maxLen at hm; omega
    refine Sl.of_cells hlt hl hm' fun i hi => ?_
    have := h.cells (g := g) rfl i _ (List.getElem?_eq_getElem hi)
    have e : (⟨g, 0, none⟩ : Addr).add i = ⟨g, i, none⟩ := by unfold Addr.add; split <;> simp_all
    rw [e] at this
    exact this
theorem Sl.news {w : World} {ad : Addr} {n cap : Nat} {xs : List Value} (h : Sl w (.slice (some ad) n cap) n xs) {w' : World} (hb : Below w.heap.size w w') :
    ∀ j u, xs[j]? = some u → w'.cell? (ad.add j) = some u := by
  intro j u hu
  obtain ⟨a, cap', hv, _, _, hc⟩ := h.form
  obtain ⟨hj, he⟩ := List.getElem?_eq_some_iff.1 hu
  obtain ⟨b, off, ha, hlt, hcell⟩ := hc (by intro e; rw [e] at hj; simp at hj)
  simp only [Value.slice.injEq] at hv
  rw [← hv.1] at ha
  obtain rfl : ad = ⟨b, off, none⟩ := by simpa using ha
  have e : (⟨b, off, none⟩ : Addr).add j = ⟨b, off + j, none⟩ := by unfold Addr.add; split <;> simp_all
  rw [e, hb.cell (p := ⟨b, off + j, none⟩) hlt, hcell j hj, he]
/-- append(s, x...): s a row of the call's own, x whatever slice, nil or with an address. -/
theorem append_any {P : Program} {w : World} {ops : Array Oper} {rest : List Oper} {o : Oper} {a : Act} {Q : Exit → Act → World → Prop} (hgd : o.guard = none) (s x : Operand) (t : TypeId)
    (ho : o.op = .call { callee := .builtin .append, args := #[s, x], argTypes := #[t, t] }) (base : Nat) (e : TypeId) (z : Value) (size bytes : Nat) (ht : P.underlying t = some (.slice e))
    (hinfo : (P.info? e).map (fun i => (i.zero, i.size, i.bytes)) = some (some z, size, bytes)) (hzs : z.cells.size = size) (hsz : 0 < size)
    (v : Value) (n : Nat) (xs : List Value) (hs : a.eval s = v) (hown : w.ownsRow base e size v n xs)
    (vx : Value) (m : Nat) (news : List Value) (hx : a.eval x = vx) (hsl : Sl w vx m news) (hnil : NilA vx) (hl : news.length = m * size) (h1 : ∀ u ∈ news, u.oneCell' = true)
    (h63 : n + m ≤ maxLen) (hbytes : (n + m) * bytes ≤ 140737488355328) (hbase : base ≤ w.heap.size)
    (h : ∀ v' w', w'.ownsRow base e size v' (n + m) (xs ++ news) → w.grownBy w' v.ownBlock → wpList P ops Q rest (a.put o.dst v') w') : wpList P ops Q (o :: rest) a w := by
  obtain ⟨i0, hi, hz0, hz1, hz2⟩ := info_parts hinfo
  obtain ⟨p, cap, rfl, hle, hmx, hc⟩ := hsl.form
  cases p with
  | none =>
    obtain ⟨rfl, rfl⟩ := hnil.of_none
    have en : news = [] := List.eq_nil_of_length_eq_zero (by omega)
    subst en
    refine wpList_append_own_none hgd s x t ho base e i0 size ht hi v n xs hs hown hx ?_
    exact h v w (by simpa using hown) ⟨rfl, rfl, rfl, Nat.le_refl _, fun _ _ _ => rfl⟩
  | some ad =>
    exact wpList_append_own _ hgd s x t ho base e i0 z size bytes ht hi hz0 hz1 hz2 hzs hsz v n xs hs hown ad m cap news hx hl (hsl.news (Below.refl _ _)) h1 h63 hbytes hbase (fun v' w' h2 h3 _ => h v' w' h2 h3)

/-- Bytes: a slice, nil or with an address, that reads so. -/
def Byt (w : World) (v : Value) (l : List Int) : Prop := Sl w v l.length (l.map (Value.int .u8)) ∧ NilA v
theorem Byt.grown {w w' : World} {v : Value} {l : List Int} (h : Byt w v l) (hb : Below w.heap.size w w') : Byt w' v l := ⟨h.1.grown hb, h.2⟩
theorem Byt.nil (w : World) : Byt w (.slice none 0 0) [] := ⟨Sl.nilS w, .nil⟩
theorem Byt.of_owns {w : World} {B e size n : Nat} {v : Value} {l : List Int} (h : w.ownsRow B e size v n (l.map (Value.int .u8))) (hn : l.length = n) : Byt w v l := by
  subst hn
  exact ⟨Sl.of_owns h, NilA.of_owns h⟩
theorem Byt.open {w : World} {v : Value} {l : List Int} (h : Byt w v l) : ∃ a cap, v = .slice a l.length cap ∧ l.length ≤ cap ∧ cap ≤ 9223372036854775807 ∧
    ∀ i (hi : i < l.length), ∃ b off, a = some ⟨b, off, none⟩ ∧ b < w.heap.size ∧ w.cell? ⟨b, off + i, none⟩ = some (.int .u8 l[i]) := by
  obtain ⟨a, cap, hv, hl, hm, hc⟩ := h.1.form
  refine ⟨a, cap, hv, hl, hm, fun i hi => ?_⟩
  obtain ⟨b, off, ha, hlt, hcell⟩ := hc (by intro e; simp at e; subst e; simp at hi)
  exact ⟨b, off, ha, hlt, (hcell i (by simpa using hi)).trans (by simp)⟩
end Go.Proofs.YtkekidjjmcmjhaaGreat
