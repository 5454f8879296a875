/- What the arguments of a statement on lists hold: rows of vectors, lists, arenas. -/
import Derived.Test.YtlfmffjlmhpcdaaOpen
import Derived.Test.YtlfmffjlmhpcdaaVecZ
import Derived.ChangeArms
import Derived.ChangeSame
namespace Go.Proofs.Ytlfmffjlmhpcdaa
open Go.ChangeShapes Go.WideShapes Go.ChangeAt Go.RowKit
set_option maxRecDepth 100000

theorem vec_cells : Try.prog.cellsOf 56 = 1 := by kernel_rfl
theorem i32_cells : Try.prog.cellsOf 21 = 1 := by kernel_rfl
theorem vecs_cells : Try.prog.cellsOf 22 = 1 := by kernel_rfl
theorem masks_cells : Try.prog.cellsOf 23 = 1 := by kernel_rfl
theorem lists_cells : Try.prog.cellsOf 25 = 2 := by kernel_rfl

section
variable {H : Type} {enc : TypeId × Value → H} {w : World} {base : Nat} {spare : Nat → Bool} {held : Bool}
theorem flat_get {α : Type} (f : α → List Value) (C : Nat) (h0 : 0 < C) (hf : ∀ x, (f x).length = C) : ∀ (l : List α) (i : Nat), (l.flatMap f)[i]? = (l[i / C]?).bind fun y => (f y)[i % C]? := by
  intro l
  induction l with
  | nil => intro i; simp
  | cons y l ih =>
    intro i
    rw [List.flatMap_cons]
    by_cases hi : i < C
    · rw [List.getElem?_append_left (by rw [hf]; exact hi), Nat.div_eq_of_lt hi, Nat.mod_eq_of_lt hi]; simp
    · rw [List.getElem?_append_right (by rw [hf]; omega), hf, ih]
      have h1 : i / C = (i - C) / C + 1 := by
        rw [← Nat.sub_add_cancel (show C ≤ i by omega), Nat.add_sub_cancel, Nat.add_div_right _ h0]
      have h2 : i % C = (i - C) % C := by
        conv => lhs; rw [← Nat.sub_add_cancel (show C ≤ i by omega)]
        rw [Nat.add_mod_right]
      rw [h1, h2]; simp
/-- The cells of a slice: it is one of ours, nil or with an address. -/
theorem Sl.of_read {t e : TypeId} {C : Nat} {α : Type} (f : α → List Value) (hf : ∀ x, (f x).length = C) (h0 : 0 < C) (ht : Try.prog.underlying t = some (.slice e)) (hC : Try.prog.cellsOf e = C)
    (hgood : ∀ {fuel : Nat} {cs : List Value} {x : DataW H × List MemPlace}, DataW.trod enc Try.prog w base spare held fuel e cs = some x → ∃ a : α, cs = f a)
    {fuel : Nat} {cs0 : List Value} {x0 : DataW H × List MemPlace} (h : DataW.trod enc Try.prog w base spare held fuel t cs0 = some x0) :
    ∃ (v : Value) (l : List α), cs0 = [v] ∧ Sl w v l.length (l.flatMap f) ∧ NilA v := by
  rcases Go.Deep.open_slice ht h with ⟨rfl, _⟩ | ⟨x, len, cap, m, n, D, Pl, rfl, _, hl, hm, hmm, _, hx⟩
  · exact ⟨_, [], rfl, Sl.nilS w, NilA.nil⟩
  · have hlm : len ≤ m := by rw [hmm]; split <;> omega
    rw [hC] at hx
    have key : ∀ k, k ≤ len → ∃ l : List α, l.length = k ∧ ∀ i (hi : i < l.length) j (hj : j < C), w.cell? (x.add (i * C + j)) = (f l[i])[j]? := by
      intro k
      induction k with
      | zero => intro _; exact ⟨[], rfl, fun i hi => by simp at hi⟩
      | succ k ih =>
        intro hk
        obtain ⟨l, hl1, hl2⟩ := ih (by omega)
        obtain ⟨cs', hc1, hc2⟩ := hx k (by omega)
        obtain ⟨y, rfl⟩ := hgood hc2
        obtain ⟨_, _, hcell⟩ := World.cells?_some hc1
        refine ⟨l ++ [y], by simp [hl1], fun i hi j hj => ?_⟩
        by_cases hik : i < l.length
        · rw [List.getElem_append_left hik]; exact hl2 i hik j hj
        · have : i = k := by simp at hi; omega
          subst this
          rw [List.getElem_append_right (by omega)]
          simp only [hl1, Nat.sub_self, List.getElem_cons_zero]
          have := hcell j hj
          rw [Addr.add_add] at this
          exact this
    obtain ⟨l, hl1, hl2⟩ := key len (Nat.le_refl _)
    have hm' : cap ≤ 9223372036854775807 := by unfold maxLen at hm; omega
    refine ⟨_, l, rfl, ⟨_, _, by rw [hl1], by omega, hm', fun hne => ?_⟩, NilA.of_some _ _ _⟩
    have hlpos : 0 < l.length := by
      rcases Nat.eq_zero_or_pos l.length with h | h
      · have := List.eq_nil_of_length_eq_zero h; subst this; simp at hne
      · exact h
    obtain ⟨b, off, spot⟩ := x
    have hc0 := hl2 0 hlpos 0 h0
    have hlen0 : 0 < (f l[0]).length := by rw [hf]; exact h0
    rw [List.getElem?_eq_getElem hlen0] at hc0
    have hspot : spot = none := by simpa [Addr.add] using World.cell?_spot hc0
    subst hspot
    refine ⟨b, off, rfl, ?_, fun i hi => ?_⟩
    · have := hc0
      simp only [Addr.add, Nat.zero_mul, Nat.add_zero, if_true] at this
      unfold World.cell? at this
      split at this
      · rename_i hb; exact (Array.getElem?_eq_some_iff.1 hb).1
      · cases this
    · have hi2 := flat_get f C h0 hf l i
      rw [List.getElem?_eq_getElem hi] at hi2
      have hdiv : i / C < l.length := by
        rcases Nat.lt_or_ge (i / C) l.length with h | h
        · exact h
        · rw [List.getElem?_eq_none h] at hi2; simp at hi2
      rw [List.getElem?_eq_getElem hdiv, Option.bind_some] at hi2
      have := hl2 (i / C) hdiv (i % C) (Nat.mod_lt _ h0)
      rw [← hi2, Nat.mul_comm, Nat.div_add_mod] at this
      have e : (⟨b, off, none⟩ : Addr).add i = ⟨b, off + i, none⟩ := by unfold Addr.add; split <;> simp_all
      rw [e] at this
      exact this
theorem i32_of_read {fuel : Nat} {cs : List Value} {x : DataW H × List MemPlace} (h : DataW.trod enc Try.prog w base spare held fuel 21 cs = some x) : ∃ a : Int, cs = [.int .i32 a] := by
  obtain ⟨n, rfl, _, _⟩ := DataW.trod_int Try.underlying21 h
  exact ⟨n, rfl⟩
theorem vec_of_read {fuel : Nat} {cs : List Value} {x : DataW H × List MemPlace} (h : DataW.trod enc Try.prog w base spare held fuel 56 cs = some x) : ∃ p : {p : PV // VecV w p.1 p.2}, cs = [p.1.1] := by
  obtain ⟨v, l, rfl, h1, h2⟩ := Sl.of_read (C := 1) (fun x : Int => [.int .i32 x]) (fun _ => rfl) (by omega) Try.underlying56 i32_cells i32_of_read h
  exact ⟨⟨(v, l), h1, h2⟩, rfl⟩
theorem vecs_of_read {fuel : Nat} {cs : List Value} {x : DataW H × List MemPlace} (h : DataW.trod enc Try.prog w base spare held fuel 22 cs = some x) : ∃ (v : Value) (l : List PV), cs = [v] ∧ VecsV w v l := by
  obtain ⟨v, l, rfl, h1, h2⟩ := Sl.of_read (C := 1) (fun p : {p : PV // VecV w p.1 p.2} => [p.1.1]) (fun _ => rfl) (by omega) Try.underlying22 vec_cells vec_of_read h
  refine ⟨v, l.map (·.1), rfl, ⟨?_, h2⟩, ?_⟩
  · rw [List.length_map, List.flatMap_map]; exact h1
  · intro p hp
    obtain ⟨q, _, rfl⟩ := List.mem_map.1 hp
    exact q.2
theorem masks_of_read {fuel : Nat} {cs : List Value} {x : DataW H × List MemPlace} (h : DataW.trod enc Try.prog w base spare held fuel 23 cs = some x) : ∃ (v : Value) (l : List M), cs = [v] ∧ Masks w v l ∧ NilA v :=
  Sl.of_read (C := 2) (fun m : M => [.int .u64 (U m.1), .int .u64 (U m.2)]) (fun _ => rfl) (by omega) Try.underlying23 mask_cells mask_of_trod h
theorem two_of {cs : List Value} (h : cs.length = 2) : ∃ a b, cs = [a, b] := by
  match cs, h with
  | [a, b], _ => exact ⟨a, b, rfl⟩
theorem open_lists {r : Reach} {b0 : Nat} {v : Value} {d : DataW H} {p : List MemPlace} (hv : Value.okWide Try.prog w r b0 25 v) (h : DataW.Trod enc Try.prog w base spare held 25 v d p) :
    ∃ (vc vm : Value) (cs : List PV) (ms : List M), v = .agg #[vc, vm] ∧ VecsV w vc cs ∧ Masks w vm ms ∧ NilA vm := by
  obtain ⟨cs0, rfl, hs⟩ := okWide_struct Try.underlying25 hv
  obtain ⟨fuel, hf⟩ := h
  rw [lists_cells] at hs
  obtain ⟨a, b, hab⟩ := two_of (cs := cs0.toList) (by simpa using hs)
  have hcs : cs0 = #[a, b] := Array.toList_inj.1 (by simpa using hab)
  subst hcs
  obtain ⟨y0, y1, n, _, _, h1, h2⟩ := trod_struct2 Try.underlying25 hf
  simp only [Value.cells] at h1 h2
  rw [vecs_cells] at h1
  rw [masks_cells] at h2
  simp at h1 h2
  obtain ⟨vc, cs, e1, g1⟩ := vecs_of_read h1
  obtain ⟨vm, ms, e2, g2, g3⟩ := masks_of_read h2
  simp at e1 e2
  subst e1; subst e2
  exact ⟨_, _, cs, ms, rfl, g1, g2, g3⟩
end
end Go.Proofs.Ytlfmffjlmhpcdaa
