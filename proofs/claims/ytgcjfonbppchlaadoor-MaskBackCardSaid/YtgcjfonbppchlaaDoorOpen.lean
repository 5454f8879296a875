/- What the arguments of a statement hold: masks by value, rows of numbers, of masks, of pairs. -/
import Derived.Test.YtgcjfonbppchlaaDoorMaskZ
import Derived.ProofKit
import Derived.OpenShut
import Derived.Below
import Derived.Deep.Slices
namespace Go.Proofs.YtgcjfonbppchlaaDoor
open Go.ChangeShapes Go.WideShapes Go.ChangeAt Go.RowKit
set_option maxRecDepth 100000

theorem own : ownKnob Tryd.prog.godebug = none := by kernel_rfl
theorem laidOut : laidOutB Tryd.prog = true := by kernel_rfl
theorem mask_cells : Tryd.prog.cellsOf 25 = 2 := by kernel_rfl
theorem word_cells : Tryd.prog.cellsOf 23 = 1 := by kernel_rfl
theorem int_cells : Tryd.prog.cellsOf 3 = 1 := by kernel_rfl

section
variable {H : Type} {enc : TypeId × Value → H} {w : World} {base : Nat} {spare : Nat → Bool} {held : Bool}

theorem word_of_trod {fuel : Nat} {cs : List Value} {x : DataW H × List MemPlace} (h : DataW.trod enc Tryd.prog w base spare held fuel 23 cs = some x) : ∃ a : BitVec 64, cs = [.int .u64 (U a)] := by
  obtain ⟨n, rfl, _, hw⟩ := DataW.trod_int Tryd.underlying23 h
  obtain ⟨a, rfl⟩ := exists_U hw
  exact ⟨a, rfl⟩
theorem mask_of_trod {fuel : Nat} {cs : List Value} {x : DataW H × List MemPlace} (h : DataW.trod enc Tryd.prog w base spare held fuel 25 cs = some x) : ∃ m : M, cs = [.int .u64 (U m.1), .int .u64 (U m.2)] := by
  obtain ⟨xs, n, _, _, hl, hx, he⟩ := DataW.trod_array Tryd.underlying25 h
  rw [mask_cells] at hl
  match cs, hl with
  | [c0, c1], _ =>
    have e0 := he 0 (by omega)
    have e1 := he 1 (by omega)
    rw [word_cells] at e0 e1
    match xs, hx with
    | [x0, x1], _ =>
      simp at e0 e1
      obtain ⟨a, ha⟩ := word_of_trod e0
      obtain ⟨b, hb⟩ := word_of_trod e1
      simp at ha hb
      exact ⟨(a, b), by rw [ha, hb]⟩
theorem open_mask {r : Reach} {b0 : Nat} {v : Value} {d : DataW H} {p : List MemPlace} (hv : Value.okWide Tryd.prog w r b0 25 v) (h : DataW.Trod enc Tryd.prog w base spare held 25 v d p) : ∃ m : M, v = MV m.1 m.2 := by
  simp only [Value.okWide, Tryd.underlying25] at hv
  obtain ⟨cs, rfl, _, _⟩ := hv
  obtain ⟨fuel, hf⟩ := h
  obtain ⟨m, hm⟩ := mask_of_trod hf
  refine ⟨m, ?_⟩
  simp only [Value.cells] at hm
  rw [MV]
  congr 1
  exact Array.toList_inj.1 (by simpa using hm)

/-- A slice whose elements read as what 'good' says: it is one of ours. -/
theorem Sl.of_trod {t e : TypeId} {C : Nat} {α : Type} (f : α → List Value) (hf : ∀ x, (f x).length = C) (h0 : 0 < C) (ht : Tryd.prog.underlying t = some (.slice e)) (hC : Tryd.prog.cellsOf e = C)
    (hgood : ∀ {fuel : Nat} {cs : List Value} {x : DataW H × List MemPlace}, DataW.trod enc Tryd.prog w base spare held fuel e cs = some x → ∃ a : α, cs = f a)
    {r : Reach} {b0 : Nat} {v : Value} {d : DataW H} {p : List MemPlace} (hv : Value.okWide Tryd.prog w r b0 t v) (h : DataW.Trod enc Tryd.prog w base spare held t v d p) :
    ∃ l : List α, Sl w v l.length (l.flatMap f) := by
  obtain ⟨a, len, cap, rfl⟩ := okWide_slice ht hv
  obtain ⟨fuel, hf'⟩ := h
  rcases Go.Deep.open_slice ht hf' with ⟨hcs, _⟩ | ⟨x, l, c, m, n, D, Pl, hcs, _, hl, hm, hmm, _, hx⟩
  · simp [Value.cells] at hcs
    obtain ⟨rfl, rfl, rfl⟩ := hcs
    exact ⟨[], Sl.nilS w⟩
  · simp [Value.cells] at hcs
    obtain ⟨rfl, rfl, rfl⟩ := hcs
    have hlm : len ≤ m := by rw [hmm]; split <;> omega
    rw [hC] at hx
    -- an element for each index
    have key : ∀ k, k ≤ len → ∃ l : List α, l.length = k ∧ ∀ i (hi : i < l.length) j (hj : j < C), w.cell? (x.add (i * C + j)) = (f l[i])[j]? := by
      intro k
      induction k with
      | zero => intro _; exact ⟨[], rfl, fun i hi => by simp at hi⟩
      | succ k ih =>
        intro hk
        obtain ⟨l, hl1, hl2⟩ := ih (by omega)
        obtain ⟨cs', hc1, hc2⟩ := hx k (by omega)
        obtain ⟨y, rfl⟩ := hgood hc2
        obtain ⟨_, _, hcell⟩ := World.cells?_some hc1
        refine ⟨l ++ [y], by simp [hl1], fun i hi j hj => ?_⟩
        by_cases hik : i < l.length
        · rw [List.getElem_append_left hik]; exact hl2 i hik j hj
        · have : i = k := by simp at hi; omega
          subst this
          rw [List.getElem_append_right (by omega)]
          simp only [hl1, Nat.sub_self, List.getElem_cons_zero]
          have := hcell j hj
          rw [Addr.add_add] at this
          exact this
    obtain ⟨l, hl1, hl2⟩ := key len (Nat.le_refl _)
    have hm' : cap ≤ 9223372036854775807 := by unfold maxLen at hm; omega
    refine ⟨l, ⟨_, _, by rw [hl1], by omega, hm', fun hne => ?_⟩⟩
    have hlpos : 0 < l.length := by
      rcases Nat.eq_zero_or_pos l.length with h | h
      · have := List.eq_nil_of_length_eq_zero h; subst this; simp at hne
      · exact h
    obtain ⟨b, off, spot⟩ := x
    have hc0 := hl2 0 hlpos 0 h0
    have hlen0 : 0 < (f l[0]).length := by rw [hf]; exact h0
    rw [List.getElem?_eq_getElem hlen0] at hc0
    have hspot : spot = none := by simpa [Addr.add] using World.cell?_spot hc0
    subst hspot
    refine ⟨b, off, rfl, ?_, fun i hi => ?_⟩
    · have := hc0
      simp only [Addr.add, Nat.zero_mul, Nat.add_zero, if_true] at this
      unfold World.cell? at this
      split at this
      · rename_i hb; exact (Array.getElem?_eq_some_iff.1 hb).1
      · cases this
    · -- the i-th cell: element i / C, its cell i % C
      have hfl : ∀ (l : List α) (i : Nat), (l.flatMap f)[i]? = (l[i / C]?).bind fun y => (f y)[i % C]? := by
        intro l
        induction l with
        | nil => intro i; simp
        | cons y l ih =>
          intro i
          rw [List.flatMap_cons]
          by_cases hi : i < C
          · rw [List.getElem?_append_left (by rw [hf]; exact hi), Nat.div_eq_of_lt hi, Nat.mod_eq_of_lt hi]; simp
          · rw [List.getElem?_append_right (by rw [hf]; omega), hf, ih]
            have h1 : i / C = (i - C) / C + 1 := by
              rw [← Nat.sub_add_cancel (show C ≤ i by omega), Nat.add_sub_cancel, Nat.add_div_right _ h0]
            have h2 : i % C = (i - C) % C := by
              conv => lhs; rw [← Nat.sub_add_cancel (show C ≤ i by omega)]
              rw [Nat.add_mod_right]
            rw [h1, h2]; simp
      have hi2 := hfl l i
      rw [List.getElem?_eq_getElem hi] at hi2
      have hdiv : i / C < l.length := by
        rcases Nat.lt_or_ge (i / C) l.length with h | h
        · exact h
        · rw [List.getElem?_eq_none h] at hi2; simp at hi2
      rw [List.getElem?_eq_getElem hdiv, Option.bind_some] at hi2
      have := hl2 (i / C) hdiv (i % C) (Nat.mod_lt _ h0)
      rw [← hi2, Nat.mul_comm, Nat.div_add_mod] at this
      have e : (⟨b, off, none⟩ : Addr).add i = ⟨b, off + i, none⟩ := by unfold Addr.add; split <;> simp_all
      rw [e] at this
      exact this

theorem int_of_trod {fuel : Nat} {cs : List Value} {x : DataW H × List MemPlace} (h : DataW.trod enc Tryd.prog w base spare held fuel 3 cs = some x) : ∃ a : {n : Int // (Lit.int .i64 n).wf = true}, cs = [.int .i64 a.1] := by
  obtain ⟨n, rfl, _, hw⟩ := DataW.trod_int Tryd.underlying3 h
  exact ⟨⟨n, hw⟩, rfl⟩
theorem flatMap_one {α β : Type} (g : α → β) (l : List α) : l.flatMap (fun x => [g x]) = l.map g := by
  induction l with
  | nil => rfl
  | cons x l ih => simp [List.flatMap_cons, ih]
end
theorem wf_i64 {n : Int} (h : (Lit.int .i64 n).wf = true) : -9223372036854775808 ≤ n ∧ n ≤ 9223372036854775807 := by
  simp only [Lit.wf, Bool.and_eq_true, decide_eq_true_eq] at h
  have e1 : IntKind.i64.min = -9223372036854775808 := by decide
  have e2 : IntKind.i64.max = 9223372036854775807 := by decide
  omega
end Go.Proofs.YtgcjfonbppchlaaDoor
