/- How vectors, rows of vectors, and cells lie in memory. -/
import Derived.Test.YtlfmffjlmhpcdaaRow
import Derived.Laws.AppendOwnNone
namespace Go.Proofs.Ytlfmffjlmhpcdaa
open Go.RowKit
set_option maxRecDepth 100000

theorem flatMap_get {α : Type} (f : α → List Value) (C : Nat) (h0 : 0 < C) (hf : ∀ x, (f x).length = C) : ∀ (l : List α) (i : Nat) (hi : i < l.length) (j : Nat), j < C → (l.flatMap f)[i * C + j]? = (f l[i])[j]?
  | [], i, hi, _, _ => by simp at hi
  | x :: l, 0, _, j, hj => by
    rw [List.flatMap_cons, Nat.zero_mul, Nat.zero_add, List.getElem?_append_left (by rw [hf]; exact hj)]; rfl
  | x :: l, i + 1, hi, j, hj => by
    rw [List.flatMap_cons, List.getElem?_append_right (by rw [hf, Nat.succ_mul]; omega), hf, show (i + 1) * C + j - C = i * C + j by rw [Nat.succ_mul]; omega]
    exact flatMap_get f C h0 hf l i (by simpa using hi) j hj
theorem flatMap_len {α : Type} (f : α → List Value) (C : Nat) (hf : ∀ x, (f x).length = C) : ∀ (l : List α), (l.flatMap f).length = l.length * C
  | [] => by simp
  | x :: l => by rw [List.flatMap_cons, List.length_append, hf, flatMap_len f C hf l, List.length_cons, Nat.succ_mul]; omega
theorem Sl.openG {α : Type} (f : α → List Value) (C : Nat) (h0 : 0 < C) (hf : ∀ x, (f x).length = C) {w : World} {v : Value} {l : List α} (h : Sl w v l.length (l.flatMap f)) :
    ∃ a cap, v = .slice a l.length cap ∧ l.length ≤ cap ∧ cap ≤ 9223372036854775807 ∧
      ∀ i (hi : i < l.length), ∃ b off, a = some ⟨b, off, none⟩ ∧ b < w.heap.size ∧ ∀ j, j < C → w.cell? ⟨b, off + i * C + j, none⟩ = (f l[i])[j]? := by
  obtain ⟨a, cap, hv, hl, hm, hc⟩ := h.form
  refine ⟨a, cap, hv, hl, hm, fun i hi => ?_⟩
  have hlen := flatMap_len f C hf l
  have hlt : ∀ j, j < C → i * C + j < (l.flatMap f).length := fun j hj => by
    rw [hlen]
    have : (i + 1) * C ≤ l.length * C := Nat.mul_le_mul_right C hi
    rw [Nat.succ_mul] at this; omega
  obtain ⟨b, off, ha, hb, hcell⟩ := hc (by intro e; have := hlt 0 h0; rw [e] at this; simp at this)
  refine ⟨b, off, ha, hb, fun j hj => ?_⟩
  have := hcell (i * C + j) (hlt j hj)
  rw [← Nat.add_assoc] at this
  rw [this, ← List.getElem?_eq_getElem (hlt j hj), flatMap_get f C h0 hf l i hi j hj]

/-- A slice's value: nil, or with an address. -/
def NilA (v : Value) : Prop := v = .slice none 0 0 ∨ ∃ ad n c, v = .slice (some ad) n c
theorem NilA.of_none {n c : Nat} (h : NilA (.slice none n c)) : n = 0 ∧ c = 0 := by
  rcases h with h | ⟨_, _, _, h⟩
  · simp only [Value.slice.injEq, true_and] at h; exact h
  · simp at h
theorem NilA.nil : NilA (.slice none 0 0) := .inl rfl
theorem NilA.of_some (ad : Addr) (n c : Nat) : NilA (.slice (Option.some ad) n c) := .inr ⟨ad, n, c, rfl⟩
theorem NilA.of_owns {w : World} {B e size n : Nat} {v : Value} {xs : List Value} (h : w.ownsRow B e size v n xs) : NilA v := by
  rcases h.2 with ⟨rfl, _⟩ | ⟨g, cap, cur, rfl, _⟩
  · exact .inl rfl
  · exact .inr ⟨_, _, _, rfl⟩
/-- What an owned row holds, as a slice. -/
theorem Sl.of_owns {w : World} {B e size n : Nat} {v : Value} {xs : List Value} (h : w.ownsRow B e size v n xs) : Sl w v n xs := by
  rcases h.2 with ⟨rfl, h0⟩ | ⟨g, cap, cur, rfl, hB, hg, hl, hm, hs, hx⟩
  · have hlen := h.1
    subst h0
    have : xs = [] := List.eq_nil_of_length_eq_zero (by omega)
    subst this
    exact Sl.nilS w
  · have hlt : g < w.heap.size := (Array.getElem?_eq_some_iff.1 hg).1
    have hm' : cap ≤ 9223372036854775807 := by unfold maxLen at hm; omega
    refine Sl.of_cells hlt hl hm' fun i hi => ?_
    have := h.cells (g := g) rfl i _ (List.getElem?_eq_getElem hi)
    have e : (⟨g, 0, none⟩ : Addr).add i = ⟨g, i, none⟩ := by unfold Addr.add; split <;> simp_all
    rw [e] at this
    exact this
theorem Sl.news {w : World} {ad : Addr} {n cap : Nat} {xs : List Value} (h : Sl w (.slice (some ad) n cap) n xs) {w' : World} (hb : Below w.heap.size w w') :
    ∀ j u, xs[j]? = some u → w'.cell? (ad.add j) = some u := by
  intro j u hu
  obtain ⟨a, cap', hv, _, _, hc⟩ := h.form
  obtain ⟨hj, he⟩ := List.getElem?_eq_some_iff.1 hu
  obtain ⟨b, off, ha, hlt, hcell⟩ := hc (by intro e; rw [e] at hj; simp at hj)
  simp only [Value.slice.injEq] at hv
  rw [← hv.1] at ha
  obtain rfl : ad = ⟨b, off, none⟩ := by simpa using ha
  have e : (⟨b, off, none⟩ : Addr).add j = ⟨b, off + j, none⟩ := by unfold Addr.add; split <;> simp_all
  rw [e, hb.cell (p := ⟨b, off + j, none⟩) hlt, hcell j hj, he]
/-- append(s, x...): s a row of the call's own, x whatever slice, nil or with an address. -/
theorem append_any {P : Program} {w : World} {ops : Array Oper} {rest : List Oper} {o : Oper} {a : Act} {Q : Exit → Act → World → Prop} (hgd : o.guard = none) (s x : Operand) (t : TypeId)
    (ho : o.op = .call { callee := .builtin .append, args := #[s, x], argTypes := #[t, t] }) (base : Nat) (e : TypeId) (z : Value) (size bytes : Nat) (ht : P.underlying t = some (.slice e))
    (hinfo : (P.info? e).map (fun i => (i.zero, i.size, i.bytes)) = some (some z, size, bytes)) (hzs : z.cells.size = size) (hsz : 0 < size)
    (v : Value) (n : Nat) (xs : List Value) (hs : a.eval s = v) (hown : w.ownsRow base e size v n xs)
    (vx : Value) (m : Nat) (news : List Value) (hx : a.eval x = vx) (hsl : Sl w vx m news) (hnil : NilA vx) (hl : news.length = m * size) (h1 : ∀ u ∈ news, u.oneCell' = true)
    (h63 : n + m ≤ maxLen) (hbytes : (n + m) * bytes ≤ 140737488355328) (hbase : base ≤ w.heap.size)
    (h : ∀ v' w', w'.ownsRow base e size v' (n + m) (xs ++ news) → w.grownBy w' v.ownBlock → wpList P ops Q rest (a.put o.dst v') w') : wpList P ops Q (o :: rest) a w := by
  obtain ⟨i0, hi, hz0, hz1, hz2⟩ := info_parts hinfo
  obtain ⟨p, cap, rfl, hle, hmx, hc⟩ := hsl.form
  cases p with
  | none =>
    obtain ⟨rfl, rfl⟩ := hnil.of_none
    have en : news = [] := List.eq_nil_of_length_eq_zero (by omega)
    subst en
    refine wpList_append_own_none hgd s x t ho base e i0 size ht hi v n xs hs hown hx ?_
    exact h v w (by simpa using hown) ⟨rfl, rfl, rfl, Nat.le_refl _, fun _ _ _ => rfl⟩
  | some ad =>
    exact wpList_append_own _ hgd s x t ho base e i0 z size bytes ht hi hz0 hz1 hz2 hzs hsz v n xs hs hown ad m cap news hx hl (hsl.news (Below.refl _ _)) h1 h63 hbytes hbase (fun v' w' h2 h3 _ => h v' w' h2 h3)

/-- A vector: a slice of int32s. -/
def VecV (w : World) (v : Value) (l : List Int) : Prop := Sl w v l.length (l.flatMap fun x => [.int .i32 x]) ∧ NilA v
theorem VecV.grown {w w' : World} {v : Value} {l : List Int} (h : VecV w v l) (hb : Below w.heap.size w w') : VecV w' v l := ⟨Sl.grown h.1 hb, h.2⟩
theorem VecV.open {w : World} {v : Value} {l : List Int} (h : VecV w v l) : ∃ a cap, v = .slice a l.length cap ∧ l.length ≤ cap ∧ cap ≤ 9223372036854775807 ∧
    ∀ i (hi : i < l.length), ∃ b off, a = some ⟨b, off, none⟩ ∧ b < w.heap.size ∧ w.cell? ⟨b, off + i, none⟩ = some (.int .i32 l[i]) := by
  obtain ⟨a, cap, hv, hl, hm, hc⟩ := Sl.openG (fun x => [.int .i32 x]) 1 (by omega) (fun _ => rfl) h.1
  refine ⟨a, cap, hv, hl, hm, fun i hi => ?_⟩
  obtain ⟨b, off, ha, hb, hj⟩ := hc i hi
  exact ⟨b, off, ha, hb, by have := hj 0 (by omega); rw [Nat.mul_one, Nat.add_zero] at this; exact this⟩
theorem VecV.form {w : World} {v : Value} {l : List Int} (h : VecV w v l) : ∃ a cap, v = .slice a l.length cap ∧ l.length ≤ cap ∧ cap ≤ 9223372036854775807 := by
  obtain ⟨a, cap, hv, hl, hm, -⟩ := h.open; exact ⟨a, cap, hv, hl, hm⟩

/-- A vector in memory: the slice's value, and what it holds. -/
abbrev PV := Value × List Int
/-- A row of vectors. -/
def VecsV (w : World) (v : Value) (l : List PV) : Prop := (Sl w v l.length (l.flatMap fun p => [p.1]) ∧ NilA v) ∧ ∀ p ∈ l, VecV w p.1 p.2
theorem VecsV.grown {w w' : World} {v : Value} {l : List PV} (h : VecsV w v l) (hb : Below w.heap.size w w') : VecsV w' v l := ⟨⟨Sl.grown h.1.1 hb, h.1.2⟩, fun p hp => (h.2 p hp).grown hb⟩
theorem VecsV.open {w : World} {v : Value} {l : List PV} (h : VecsV w v l) : ∃ a cap, v = .slice a l.length cap ∧ l.length ≤ cap ∧ cap ≤ 9223372036854775807 ∧
    ∀ i (hi : i < l.length), ∃ b off, a = some ⟨b, off, none⟩ ∧ b < w.heap.size ∧ w.cell? ⟨b, off + i, none⟩ = some l[i].1 := by
  obtain ⟨a, cap, hv, hl, hm, hc⟩ := Sl.openG (fun p : PV => [p.1]) 1 (by omega) (fun _ => rfl) h.1.1
  refine ⟨a, cap, hv, hl, hm, fun i hi => ?_⟩
  obtain ⟨b, off, ha, hb, hj⟩ := hc i hi
  exact ⟨b, off, ha, hb, by have := hj 0 (by omega); rw [Nat.mul_one, Nat.add_zero] at this; exact this⟩

/-- A cell: what its five cells of memory hold, and the vector behind the last one. -/
structure Cel where
  used : Bool
  id : Int
  b : Int
  e : Int
  sv : Value
  vec : List Int
def Cel.cells (c : Cel) : List Value := [.bool c.used, .int .u64 c.id, .int .u64 c.b, .int .u64 c.e, c.sv]
def CelsV (w : World) (v : Value) (l : List Cel) : Prop := (Sl w v l.length (l.flatMap Cel.cells) ∧ NilA v) ∧ ∀ c ∈ l, VecV w c.sv c.vec
theorem CelsV.grown {w w' : World} {v : Value} {l : List Cel} (h : CelsV w v l) (hb : Below w.heap.size w w') : CelsV w' v l := ⟨⟨Sl.grown h.1.1 hb, h.1.2⟩, fun p hp => (h.2 p hp).grown hb⟩
theorem CelsV.open {w : World} {v : Value} {l : List Cel} (h : CelsV w v l) : ∃ a cap, v = .slice a l.length cap ∧ l.length ≤ cap ∧ cap ≤ 9223372036854775807 ∧
    ∀ i (hi : i < l.length), ∃ b off, a = some ⟨b, off, none⟩ ∧ b < w.heap.size ∧ w.cell? ⟨b, off + i * 5, none⟩ = some (.bool l[i].used) ∧ w.cell? ⟨b, off + i * 5 + 1, none⟩ = some (.int .u64 l[i].id) ∧
      w.cell? ⟨b, off + i * 5 + 2, none⟩ = some (.int .u64 l[i].b) ∧ w.cell? ⟨b, off + i * 5 + 3, none⟩ = some (.int .u64 l[i].e) ∧ w.cell? ⟨b, off + i * 5 + 4, none⟩ = some l[i].sv := by
  obtain ⟨a, cap, hv, hl, hm, hc⟩ := Sl.openG Cel.cells 5 (by omega) (fun _ => rfl) h.1.1
  refine ⟨a, cap, hv, hl, hm, fun i hi => ?_⟩
  obtain ⟨b, off, ha, hb, hj⟩ := hc i hi
  exact ⟨b, off, ha, hb, hj 0 (by omega), hj 1 (by omega), hj 2 (by omega), hj 3 (by omega), hj 4 (by omega)⟩

theorem Cel.cells_len (l : List Cel) : (l.flatMap Cel.cells).length = l.length * 5 := flatMap_len Cel.cells 5 (fun _ => rfl) l
theorem VecV.one {w : World} {v : Value} {l : List Int} (h : VecV w v l) : v.oneCell' = true := by
  obtain ⟨a, cap, rfl, -⟩ := h.form; rfl
theorem Cels.one {w : World} {l : List Cel} (h : ∀ c ∈ l, VecV w c.sv c.vec) : ∀ u ∈ l.flatMap Cel.cells, u.oneCell' = true := by
  intro u hu
  obtain ⟨c, hc, hm⟩ := List.mem_flatMap.1 hu
  unfold Cel.cells at hm
  simp only [List.mem_cons, List.not_mem_nil, or_false] at hm
  rcases hm with rfl | rfl | rfl | rfl | rfl
  · rfl
  · rfl
  · rfl
  · rfl
  · exact (h c hc).one
theorem Vecs.one {w : World} {l : List PV} (h : ∀ p ∈ l, VecV w p.1 p.2) : ∀ u ∈ l.flatMap (fun p : PV => [p.1]), u.oneCell' = true := by
  intro u hu
  obtain ⟨c, hc, hm⟩ := List.mem_flatMap.1 hu
  simp only [List.mem_cons, List.not_mem_nil, or_false] at hm
  rw [hm]; exact (h c hc).one
theorem Vec.one {l : List Int} : ∀ u ∈ l.flatMap (fun x => [Value.int .i32 x]), u.oneCell' = true := by
  intro u hu
  obtain ⟨c, hc, hm⟩ := List.mem_flatMap.1 hu
  simp only [List.mem_cons, List.not_mem_nil, or_false] at hm
  rw [hm]; rfl
theorem info_vec : (Try.prog.info? 21).map (fun i => (i.zero, i.size, i.bytes)) = some (some (.int .i32 0), 1, 4) := by kernel_rfl
theorem info_vecs : (Try.prog.info? 56).map (fun i => (i.zero, i.size, i.bytes)) = some (some (.slice none 0 0), 1, 24) := by kernel_rfl
theorem info_cell : (Try.prog.info? 60).map (fun i => (i.zero, i.size, i.bytes)) = some (some (.agg #[.bool false, .int .u64 0, .int .u64 0, .int .u64 0, .slice none 0 0]), 5, 56) := by kernel_rfl

/-- Where the first of a row is of which something holds; -1: there is none. -/
def idxF {α : Type} (p : α → Bool) (l : List α) : Int := match l.findIdx? p with | some i => (i : Int) | none => -1
theorem idxF_hit {α : Type} (p : α → Bool) (l : List α) (k : Nat) (h : k < l.length) (hb : ∀ x ∈ l.take k, p x = false) (hh : p l[k] = true) : idxF p l = k := by
  have : l.findIdx? p = some k := by
    rw [List.findIdx?_eq_some_iff_getElem]
    refine ⟨h, hh, fun j hj => ?_⟩
    have := hb l[j] (by rw [List.mem_take_iff_getElem]; exact ⟨j, by omega, rfl⟩)
    simp [this]
  unfold idxF; rw [this]
theorem idxF_none {α : Type} (p : α → Bool) (l : List α) (hb : ∀ x ∈ l, p x = false) : idxF p l = -1 := by
  have : l.findIdx? p = none := by rw [List.findIdx?_eq_none_iff]; exact fun x hx => hb x hx
  unfold idxF; rw [this]
theorem idxF_any {α : Type} (p : α → Bool) (l : List α) : decide (0 ≤ idxF p l) = l.any p := by
  unfold idxF
  cases h : l.findIdx? p with
  | none =>
    rw [List.findIdx?_eq_none_iff] at h
    have : l.any p = false := by rw [List.any_eq_false]; intro x hx; simp [h x hx]
    rw [this]; rfl
  | some i =>
    rw [List.findIdx?_eq_some_iff_getElem] at h
    obtain ⟨hi, hp, -⟩ := h
    have : l.any p = true := List.any_eq_true.2 ⟨l[i], List.getElem_mem hi, hp⟩
    rw [this]; simp
theorem take_snoc_false {α : Type} {p : α → Bool} {l : List α} {k : Nat} (h : k < l.length) (hb : ∀ x ∈ l.take k, p x = false) (hh : p l[k] = false) : ∀ x ∈ l.take (k + 1), p x = false := by
  intro x hx
  rw [List.take_succ_eq_append_getElem h] at hx
  rcases List.mem_append.1 hx with hx | hx
  · exact hb x hx
  · rw [List.mem_singleton] at hx; rw [hx]; exact hh
end Go.Proofs.Ytlfmffjlmhpcdaa
