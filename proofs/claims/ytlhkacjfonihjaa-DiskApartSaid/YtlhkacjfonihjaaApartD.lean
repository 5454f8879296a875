/- slices.Clone of bytes, append onto a row of one's own, slices.Contains: for DiskApart. -/
import Derived.Test.YtlhkacjfonihjaaBoxD
import Derived.Test.YtlhkacjfonihjaaApartLaw
namespace Go.Proofs.Ytlhkacjfonihjaa
open Go.RowKit
set_option maxRecDepth 100000

/-- Bytes of one's own, of a slice that is there or not. -/
theorem f_slClone (v : Value) (l : List Int) (w : World) (h : Byt w v l) (hn : l.length ≤ 1000000) :
    Calls Try.prog 33 #[v] w fun e w' => (∃ v', e = .returned v' ∧ w'.ownsRow w.heap.size 5 1 v' l.length (l.map (Value.int .u8))) ∧ Below w.heap.size w w' := by
  have HH := Lib.hid h
  rcases h.2 with rfl | ⟨ad, n, c, rfl⟩
  · have hl0 := h.none_nil
    subst hl0
    clear h HH
    have he : ∀ w : World, (binOp .eql 31 (.slice none 0 0) (.slice none 0 0)).run Try.prog w = .ok (.bool true) w := fun _ => rfl
    go_enter Try.func33, Try.ntmps33
    go_wp2
    go_ret
    exact ⟨⟨_, rfl, World.ownsRow_nil _ _ _ _⟩, Below.refl _ _⟩
  · obtain ⟨a, cap, e, hl, hm, -⟩ := h.1.form
    simp only [Value.slice.injEq] at e
    obtain ⟨-, rfl, rfl⟩ := e
    clear h
    have he : ∀ w : World, (binOp .eql 31 (.slice (some ad) l.length c) (.slice none 0 0)).run Try.prog w = .ok (.bool false) w := fun _ => rfl
    go_enter Try.func33, Try.ntmps33
    have own := World.ownsRow_made (e := 5) (size := 1) w #[] 0 (Nat.le_refl _) (by decide) rfl
    have hB : Below w.heap.size w (w.alloc (.cells #[] 5)) := (Below.refl _ _).alloc (Nat.le_refl _) _
    go_wp2_with (at_builtin; refine append_any rfl _ _ 31 rfl w.heap.size 5 (.int .u8 0) 1 1 Try.underlying31 info_byte rfl (by decide) _ 0 [] rfl own _ l.length (l.map (Value.int .u8)) rfl (HH.out.1.grown hB) HH.out.2 (by simp) (Byt.one _) (by unfold maxLen; omega) (by omega) (by simp) ?_; intro v' w2 hown' hgrow)
    have hb2 : Below w.heap.size w w2 := hB.grown hgrow (by simp) (fun q hq => by have e : w.heap.size = q := Option.some.inj hq; omega)
    rw [Nat.zero_add, List.nil_append] at hown'
    have HO := Lib.hid hown'
    clear hown' hgrow own hB
    go_wp2
    go_ret
    exact ⟨⟨_, rfl, HO.out⟩, hb2⟩

theorem run_append_byt (w : World) (base : Nat) (v : Value) (n : Nat) (xs : List Value) (hown : w.ownsRow base 5 1 v n xs) (y : Value) (l : List Int) (hy : Byt w y l) (hn : n + l.length ≤ 1000000) (hbase : base ≤ w.heap.size) :
    ∃ v' w', (Builtin.append_ #[31, 31] 31 #[v, y]).run Try.prog w = .ok v' w' ∧ w'.ownsRow base 5 1 v' (n + l.length) (xs ++ l.map (Value.int .u8)) ∧ Below base w w' := by
  obtain ⟨i0, hi, hz0, hz1, hz2⟩ := info_parts info_byte
  obtain ⟨p, cap, rfl, hle, hmx, hc⟩ := hy.1.form
  cases p with
  | none =>
    have en : l = [] := hy.none_nil
    obtain ⟨h0, rfl⟩ := hy.2.of_none
    subst en
    refine ⟨v, w, ?_, by simpa using hown, Below.refl _ _⟩
    exact run_append_owned_none (P := Try.prog) w base 31 31 5 i0 1 Try.underlying31 hi v n xs hown
  | some ad =>
    obtain ⟨v', w', h1, h2, h3, -⟩ := run_append_own (P := Try.prog) w base 31 31 5 i0 (.int .u8 0) 1 1 Try.underlying31 hi hz0 hz1 hz2 rfl (by decide) v n xs hown ad l.length cap (l.map (Value.int .u8)) (by simp) (hy.1.news (Below.refl _ _)) (Byt.one _) (by unfold maxLen; omega) (by omega) hbase
    exact ⟨v', w', h1, h2, ⟨h3.os, h3.tape, h3.output, h3.size, fun k hk => h3.block k (Nat.lt_of_lt_of_le hk hbase) (fun e => by have := (hown.lt k e.symm).1; omega)⟩⟩

theorem withS_room (s : DS) (x : Int) (ask : Fi → Int) (doF : Fi → Fi) : (withS s x ask doF).room = s.room := by
  unfold withS
  split
  · rfl
  · split
    · rfl
    · split
      · rfl
      · split <;> rfl
theorem run_room (s : DS) (o : Opr) : (runS s o).room = s.room := by
  unfold runS
  split
  · exact withS_room _ _ _ _
  · split
    · exact withS_room _ _ _ _
    · split
      · exact withS_room _ _ _ _
      · split
        · unfold renameS
          split
          · rfl
          · split
            · exact withS_room _ _ _ _
            · exact withS_room _ _ _ _
        · split
          · unfold removeS
            split
            · exact withS_room _ _ _ _
            · exact withS_room _ _ _ _
          · split
            · unfold armS; split <;> rfl
            · split
              · unfold failS; split <;> rfl
              · split
                · rfl
                · unfold appendS
                  split
                  · rfl
                  · split
                    · rfl
                    · split <;> rfl
def sumK (s : DS) (k : Nat) : Int := ((List.range k).map fun (i : Nat) => ((s.len (i : Int) : Nat) : Int)).sum
theorem sumK_zero (s : DS) : sumK s 0 = 0 := rfl
theorem sumK_succ (s : DS) (k : Nat) : sumK s (k + 1) = sumK s k + (s.at (k : Int)).bs.length := by
  unfold sumK
  rw [List.range_succ, List.map_append, List.sum_append]
  simp [DS.len]
theorem sumK_four (s : DS) : sumK s 4 = s.used := by
  rw [sumK_succ, sumK_succ, sumK_succ, sumK_succ, sumK_zero]
  unfold DS.used DS.len
  push_cast
  simp
theorem sumK_nn (s : DS) (k : Nat) : 0 ≤ sumK s k := by
  induction k with
  | zero => rw [sumK_zero]; omega
  | succ k ih => rw [sumK_succ]; omega
theorem sumK_le (s : DS) (hok : s.Ok) (k : Nat) (hk : k ≤ 4) : 0 ≤ sumK s k ∧ sumK s k ≤ 65536 := by
  refine ⟨sumK_nn s k, ?_⟩
  have h4 := sumK_four s
  have hu := hok.used
  have hr := hok.room2
  have : ∀ j k : Nat, sumK s k ≤ sumK s (k + j) := by
    intro j
    induction j with
    | zero => intro k; simp
    | succ j ih =>
      intro k
      have := ih k
      rw [← Nat.add_assoc, sumK_succ]
      omega
  have := this (4 - k) k
  rw [show k + (4 - k) = 4 by omega] at this
  omega

theorem f_lacks {w : World} {a : Option Addr} {c : Nat} {l : List Int} {x : Int} (hl : l.length ≤ 4) (h1 : l ≠ [] → ∃ g, a = some ⟨g, 0, none⟩ ∧ ∀ i (hi : i < l.length), w.cell? ⟨g, i, none⟩ = some (.int .i64 l[i])) (hx : x ∉ l) :
    Calls Try.prog 35 #[.slice a l.length c, .int .i64 x] w fun e w' => e = .returned (.bool false) ∧ Below w.heap.size w w' := by
  by_cases hn : l = []
  · subst hn
    exact (Try.slices_Contains_int_empty a c x w).mono fun e w' ⟨he, hw⟩ => ⟨he, hw ▸ Below.refl _ _⟩
  · obtain ⟨g, rfl, k1⟩ := h1 hn
    refine (Try.slices_Contains_int g 0 l.length c l x w (Nat.le_refl _) (by omega) (fun j hj => ?_)).mono fun e w' ⟨he, hw⟩ => ⟨?_, hw ▸ Below.refl _ _⟩
    · rw [Nat.zero_add, k1 j hj, List.getD_eq_getElem?_getD, List.getElem?_eq_getElem hj]; rfl
    · rw [he, List.take_length]
      have : l.contains x = false := by
        rw [← Bool.not_eq_true]
        simpa using hx
      rw [this]
end Go.Proofs.Ytlhkacjfonihjaa
