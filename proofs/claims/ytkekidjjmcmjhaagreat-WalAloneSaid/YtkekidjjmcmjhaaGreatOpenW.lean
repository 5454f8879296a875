/- What the arguments of the statements on logs hold: bytes, rows of rows of bytes. -/
import Derived.Test.YtkekidjjmcmjhaaGreatWalB
import Derived.ProofKit
import Derived.OpenShut
import Derived.Below
import Derived.Deep.Slices
import Derived.ChangeArms
import Derived.ChangeSame
namespace Go.Proofs.YtkekidjjmcmjhaaGreat
open Go.ChangeShapes Go.WideShapes Go.ChangeAt Go.RowKit
set_option maxRecDepth 100000

theorem own : ownKnob Tryz.prog.godebug = none := by kernel_rfl
theorem laidOut : laidOutB Tryz.prog = true := by kernel_rfl
theorem byte_cells : Tryz.prog.cellsOf 5 = 1 := by kernel_rfl
theorem bytes_cells : Tryz.prog.cellsOf 24 = 1 := by kernel_rfl

/-- A row of rows of bytes. -/
def BytsV (w : World) (v : Value) (ps : List (Value × List Int)) : Prop := (Sl w v ps.length (ps.map Prod.fst) ∧ NilA v) ∧ ∀ p ∈ ps, Byt w p.1 p.2 ∧ Byte p.2
theorem BytsV.grown {w w' : World} {v : Value} {ps : List (Value × List Int)} (h : BytsV w v ps) (hb : Below w.heap.size w w') : BytsV w' v ps := ⟨⟨h.1.1.grown hb, h.1.2⟩, fun p hp => ⟨(h.2 p hp).1.grown hb, (h.2 p hp).2⟩⟩

section
variable {H : Type} {enc : TypeId × Value → H} {w : World} {base : Nat} {spare : Nat → Bool} {held : Bool}
theorem flat_get {α : Type} (f : α → List Value) (C : Nat) (h0 : 0 < C) (hf : ∀ x, (f x).length = C) : ∀ (l : List α) (i : Nat), (l.flatMap f)[i]? = (l[i / C]?).bind fun y => (f y)[i % C]? := by
  intro l
  induction l with
  | nil => intro i; simp
  | cons y l ih =>
    intro i
    rw [List.flatMap_cons]
    by_cases hi : i < C
    · rw [List.getElem?_append_left (by rw [hf]; exact hi), Nat.div_eq_of_lt hi, Nat.mod_eq_of_lt hi]; simp
    · rw [List.getElem?_append_right (by rw [hf]; omega), hf, ih]
      have h1 : i / C = (i - C) / C + 1 := by
        rw [← Nat.sub_add_cancel (show C ≤ i by omega), Nat.add_sub_cancel, Nat.add_div_right _ h0]
      have h2 : i % C = (i - C) % C := by
        conv => lhs; rw [← Nat.sub_add_cancel (show C ≤ i by omega)]
        rw [Nat.add_mod_right]
      rw [h1, h2]; simp
/-- The cells of a slice: it is one of ours, nil or with an address. -/
theorem Sl.of_read {t e : TypeId} {C : Nat} {α : Type} (f : α → List Value) (hf : ∀ x, (f x).length = C) (h0 : 0 < C) (ht : Tryz.prog.underlying t = some (.slice e)) (hC : Tryz.prog.cellsOf e = C)
    (hgood : ∀ {fuel : Nat} {cs : List Value} {x : DataW H × List MemPlace}, DataW.trod enc Tryz.prog w base spare held fuel e cs = some x → ∃ a : α, cs = f a)
    {fuel : Nat} {cs0 : List Value} {x0 : DataW H × List MemPlace} (h : DataW.trod enc Tryz.prog w base spare held fuel t cs0 = some x0) :
    ∃ (v : Value) (l : List α), cs0 = [v] ∧ Sl w v l.length (l.flatMap f) ∧ NilA v := by
  rcases Go.Deep.open_slice ht h with ⟨rfl, _⟩ | ⟨x, len, cap, m, n, D, Pl, rfl, _, hl, hm, hmm, _, hx⟩
  · exact ⟨_, [], rfl, Sl.nilS w, NilA.nil⟩
  · have hlm : len ≤ m := by rw [hmm]; split <;> omega
    rw [hC] at hx
    have key : ∀ k, k ≤ len → ∃ l : List α, l.length = k ∧ ∀ i (hi : i < l.length) j (hj : j < C), w.cell? (x.add (i * C + j)) = (f l[i])[j]? := by
      intro k
      induction k with
      | zero => intro _; exact ⟨[], rfl, fun i hi => by simp at hi⟩
      | succ k ih =>
        intro hk
        obtain ⟨l, hl1, hl2⟩ := ih (by omega)
        obtain ⟨cs', hc1, hc2⟩ := hx k (by omega)
        obtain ⟨y, rfl⟩ := hgood hc2
        obtain ⟨_, _, hcell⟩ := World.cells?_some hc1
        refine ⟨l ++ [y], by simp [hl1], fun i hi j hj => ?_⟩
        by_cases hik : i < l.length
        · rw [List.getElem_append_left hik]; exact hl2 i hik j hj
        · have : i = k := by simp at hi; omega
          subst this
          rw [List.getElem_append_right (by omega)]
          simp only [hl1, Nat.sub_self, List.getElem_cons_zero]
          have := hcell j hj
          rw [Addr.add_add] at this
          exact this
    obtain ⟨l, hl1, hl2⟩ := key len (Nat.le_refl _)
    have hm' : cap ≤ 9223372036854775807 := by unfold maxLen at hm; omega
    refine ⟨_, l, rfl, ⟨_, _, by rw [hl1], by omega, hm', fun hne => ?_⟩, NilA.of_some _ _ _⟩
    have hlpos : 0 < l.length := by
      rcases Nat.eq_zero_or_pos l.length with h | h
      · have := List.eq_nil_of_length_eq_zero h; subst this; simp at hne
      · exact h
    obtain ⟨b, off, spot⟩ := x
    have hc0 := hl2 0 hlpos 0 h0
    have hlen0 : 0 < (f l[0]).length := by rw [hf]; exact h0
    rw [List.getElem?_eq_getElem hlen0] at hc0
    have hspot : spot = none := by simpa [Addr.add] using World.cell?_spot hc0
    subst hspot
    refine ⟨b, off, rfl, ?_, fun i hi => ?_⟩
    · have := hc0
      simp only [Addr.add, Nat.zero_mul, Nat.add_zero, if_true] at this
      unfold World.cell? at this
      split at this
      · rename_i hb; exact (Array.getElem?_eq_some_iff.1 hb).1
      · cases this
    · have hi2 := flat_get f C h0 hf l i
      rw [List.getElem?_eq_getElem hi] at hi2
      have hdiv : i / C < l.length := by
        rcases Nat.lt_or_ge (i / C) l.length with h | h
        · exact h
        · rw [List.getElem?_eq_none h] at hi2; simp at hi2
      rw [List.getElem?_eq_getElem hdiv, Option.bind_some] at hi2
      have := hl2 (i / C) hdiv (i % C) (Nat.mod_lt _ h0)
      rw [← hi2, Nat.mul_comm, Nat.div_add_mod] at this
      have e : (⟨b, off, none⟩ : Addr).add i = ⟨b, off + i, none⟩ := by unfold Addr.add; split <;> simp_all
      rw [e] at this
      exact this

theorem byte_of_read {fuel : Nat} {cs : List Value} {x : DataW H × List MemPlace} (h : DataW.trod enc Tryz.prog w base spare held fuel 5 cs = some x) : ∃ a : {n : Int // 0 ≤ n ∧ n < 256}, cs = [.int .u8 a.1] := by
  obtain ⟨n, rfl, _, hw⟩ := DataW.trod_int Tryz.underlying5 h
  refine ⟨⟨n, ?_⟩, rfl⟩
  simp only [Lit.wf, Bool.and_eq_true, decide_eq_true_eq] at hw
  have e1 : IntKind.u8.min = 0 := by decide
  have e2 : IntKind.u8.max = 255 := by decide
  omega
theorem flat_map {α : Type} (g : α → Value) (l : List α) : l.flatMap (fun x => [g x]) = l.map g := by
  induction l with
  | nil => rfl
  | cons x l ih => simp [List.flatMap_cons, ih]
theorem Sl.len_le {w : World} {v : Value} {n : Nat} {cs : List Value} (h : Sl w v n cs) : n ≤ 9223372036854775807 := by
  obtain ⟨a, cap, -, hl, hm, -⟩ := h.form; omega
theorem bytes_of_read {fuel : Nat} {cs : List Value} {x : DataW H × List MemPlace} (h : DataW.trod enc Tryz.prog w base spare held fuel 24 cs = some x) : ∃ (v : Value) (l : List Int), cs = [v] ∧ Byt w v l ∧ (∀ c ∈ l, 0 ≤ c ∧ c < 256) ∧ l.length ≤ 9223372036854775807 := by
  obtain ⟨v, l, rfl, h1, h2⟩ := Sl.of_read (C := 1) (fun a : {n : Int // 0 ≤ n ∧ n < 256} => [.int .u8 a.1]) (fun _ => rfl) (by omega) Tryz.underlying24 byte_cells byte_of_read h
  refine ⟨v, l.map (·.1), rfl, ⟨?_, h2⟩, ?_, by rw [List.length_map]; exact Sl.len_le h1⟩
  · rw [List.length_map, List.map_map]
    rw [flat_map (fun a : {n : Int // 0 ≤ n ∧ n < 256} => Value.int .u8 a.1)] at h1
    exact h1
  · intro p hp
    obtain ⟨q, _, rfl⟩ := List.mem_map.1 hp
    exact q.2
theorem open_bytes {r : Reach} {b0 : Nat} {v : Value} {d : DataW H} {p : List MemPlace} (hv : Value.okWide Tryz.prog w r b0 24 v) (h : DataW.Trod enc Tryz.prog w base spare held 24 v d p) : ∃ l : List Int, Byt w v l ∧ Byte l := by
  obtain ⟨a, len, cap, rfl⟩ := okWide_slice Tryz.underlying24 hv
  obtain ⟨fuel, hf⟩ := h
  obtain ⟨v', cs, e, g, g2, -⟩ := bytes_of_read hf
  simp [Value.cells] at e
  subst e
  exact ⟨cs, g, g2⟩
theorem bytesR_of_read {fuel : Nat} {cs : List Value} {x : DataW H × List MemPlace} (h : DataW.trod enc Tryz.prog w base spare held fuel 24 cs = some x) : ∃ a : {p : Value × List Int // Byt w p.1 p.2 ∧ Byte p.2}, cs = [a.1.1] := by
  obtain ⟨v, l, rfl, h1, h2, -⟩ := bytes_of_read h
  exact ⟨⟨(v, l), h1, h2⟩, rfl⟩
theorem open_byts {r : Reach} {b0 : Nat} {v : Value} {d : DataW H} {p : List MemPlace} (hv : Value.okWide Tryz.prog w r b0 22 v) (h : DataW.Trod enc Tryz.prog w base spare held 22 v d p) : ∃ l : List (Value × List Int), BytsV w v l := by
  obtain ⟨a, len, cap, rfl⟩ := okWide_slice Tryz.underlying22 hv
  obtain ⟨fuel, hf⟩ := h
  obtain ⟨v', l, e, g1, g2⟩ := Sl.of_read (C := 1) (fun o : {p : Value × List Int // Byt w p.1 p.2 ∧ Byte p.2} => [o.1.1]) (fun _ => rfl) (by omega) Tryz.underlying22 bytes_cells bytesR_of_read hf
  simp [Value.cells] at e
  subst e
  refine ⟨l.map (·.1), ⟨?_, g2⟩, fun p hp => ?_⟩
  · rw [List.length_map, List.map_map]
    rw [flat_map (fun o : {p : Value × List Int // Byt w p.1 p.2 ∧ Byte p.2} => o.1.1)] at g1
    exact g1
  · obtain ⟨q, _, rfl⟩ := List.mem_map.1 hp
    exact q.2
end
end Go.Proofs.YtkekidjjmcmjhaaGreat
