/- slices.Clone over vectors, rows of vectors, and cells: a row of the call's own. -/
import Derived.Test.YtlfmffjlmhpcdaaData
namespace Go.Proofs.Ytlfmffjlmhpcdaa
open Go.RowKit
set_option maxRecDepth 100000
attribute [local irreducible] Der

set_option maxHeartbeats 1000000 in
theorem cloneI (v : Value) (l : List Int) (w : World) (h : VecV w v l) (hlen : l.length ≤ 1000000) :
    Calls Try.prog 80 #[v] w fun e w' => (∃ v', e = .returned v' ∧ w'.ownsRow w.heap.size 21 1 v' l.length (l.flatMap (fun x : Int => [Value.int .i32 x]))) ∧ Below w.heap.size w w' := by
  have HH := Lib.hid h
  have hsl := h.1
  have hn := h.2
  have HS := Lib.hid hsl
  have HN := Lib.hid hn
  have hfl := flatMap_len (fun x : Int => [Value.int .i32 x]) 1 (fun _ => rfl) l
  clear hsl h
  rcases hn with rfl | ⟨ad, n, c, rfl⟩
  · have h0 : l.length = 0 := by
      obtain ⟨a, cap, e, -⟩ := HS.out.form
      simp only [Value.slice.injEq] at e
      exact e.2.1.symm
    have hl0 : l = [] := List.eq_nil_of_length_eq_zero h0
    subst hl0
    clear HS HN HH hfl h0
    have he : ∀ w : World, (binOp .eql 56 (.slice none 0 0) (.slice none 0 0)).run Try.prog w = .ok (.bool true) w := fun _ => rfl
    go_enter Try.func80, Try.ntmps80
    go_wp2
    go_ret
    exact ⟨⟨_, rfl, World.ownsRow_nil _ _ _ _⟩, Below.refl _ _⟩
  · obtain ⟨a, cap, e, hl, hm, -⟩ := HS.out.form
    simp only [Value.slice.injEq] at e
    obtain ⟨-, rfl, rfl⟩ := e
    have he : ∀ w : World, (binOp .eql 56 (.slice (some ad) l.length c) (.slice none 0 0)).run Try.prog w = .ok (.bool false) w := fun _ => rfl
    go_enter Try.func80, Try.ntmps80
    have own := World.ownsRow_made (e := 21) (size := 1) w #[] 0 (Nat.le_refl _) (by decide) rfl
    have hB : Below w.heap.size w (w.alloc (.cells #[] 21)) := (Below.refl _ _).alloc (Nat.le_refl _) _
    go_wp2_with (at_builtin; refine append_any rfl _ _ 56 rfl w.heap.size 21 (.int .i32 0) 1 4 Try.underlying56 info_vec rfl (by decide) _ 0 [] rfl own _ l.length (l.flatMap (fun x : Int => [Value.int .i32 x])) rfl (HS.out.grown hB) HN.out hfl Vec.one (by unfold maxLen; omega) (by omega) (by simp) ?_; intro v' w2 hown' hgrow)
    have hb2 : Below w.heap.size w w2 := hB.grown hgrow (by simp) (fun q hq => by have e : w.heap.size = q := Option.some.inj hq; omega)
    rw [Nat.zero_add, List.nil_append] at hown'
    have HO := Lib.hid hown'
    clear hown' hgrow own hB
    go_wp2
    go_ret
    exact ⟨⟨_, rfl, HO.out⟩, hb2⟩
set_option maxHeartbeats 1000000 in
theorem cloneV (v : Value) (l : List PV) (w : World) (h : VecsV w v l) (hlen : l.length ≤ 1000000) :
    Calls Try.prog 52 #[v] w fun e w' => (∃ v', e = .returned v' ∧ w'.ownsRow w.heap.size 56 1 v' l.length (l.flatMap (fun p : PV => [p.1]))) ∧ Below w.heap.size w w' := by
  have HH := Lib.hid h
  have hsl := h.1.1
  have hn := h.1.2
  have HS := Lib.hid hsl
  have HN := Lib.hid hn
  have hfl := flatMap_len (fun p : PV => [p.1]) 1 (fun _ => rfl) l
  clear hsl h
  rcases hn with rfl | ⟨ad, n, c, rfl⟩
  · have h0 : l.length = 0 := by
      obtain ⟨a, cap, e, -⟩ := HS.out.form
      simp only [Value.slice.injEq] at e
      exact e.2.1.symm
    have hl0 : l = [] := List.eq_nil_of_length_eq_zero h0
    subst hl0
    clear HS HN HH hfl h0
    have he : ∀ w : World, (binOp .eql 22 (.slice none 0 0) (.slice none 0 0)).run Try.prog w = .ok (.bool true) w := fun _ => rfl
    go_enter Try.func52, Try.ntmps52
    go_wp2
    go_ret
    exact ⟨⟨_, rfl, World.ownsRow_nil _ _ _ _⟩, Below.refl _ _⟩
  · obtain ⟨a, cap, e, hl, hm, -⟩ := HS.out.form
    simp only [Value.slice.injEq] at e
    obtain ⟨-, rfl, rfl⟩ := e
    have he : ∀ w : World, (binOp .eql 22 (.slice (some ad) l.length c) (.slice none 0 0)).run Try.prog w = .ok (.bool false) w := fun _ => rfl
    go_enter Try.func52, Try.ntmps52
    have own := World.ownsRow_made (e := 56) (size := 1) w #[] 0 (Nat.le_refl _) (by decide) rfl
    have hB : Below w.heap.size w (w.alloc (.cells #[] 56)) := (Below.refl _ _).alloc (Nat.le_refl _) _
    go_wp2_with (at_builtin; refine append_any rfl _ _ 22 rfl w.heap.size 56 (.slice none 0 0) 1 24 Try.underlying22 info_vecs rfl (by decide) _ 0 [] rfl own _ l.length (l.flatMap (fun p : PV => [p.1])) rfl (HS.out.grown hB) HN.out hfl (Vecs.one HH.out.2) (by unfold maxLen; omega) (by omega) (by simp) ?_; intro v' w2 hown' hgrow)
    have hb2 : Below w.heap.size w w2 := hB.grown hgrow (by simp) (fun q hq => by have e : w.heap.size = q := Option.some.inj hq; omega)
    rw [Nat.zero_add, List.nil_append] at hown'
    have HO := Lib.hid hown'
    clear hown' hgrow own hB
    go_wp2
    go_ret
    exact ⟨⟨_, rfl, HO.out⟩, hb2⟩
set_option maxHeartbeats 1000000 in
theorem cloneC (v : Value) (l : List Cel) (w : World) (h : CelsV w v l) (hlen : l.length ≤ 1000000) :
    Calls Try.prog 108 #[v] w fun e w' => (∃ v', e = .returned v' ∧ w'.ownsRow w.heap.size 60 5 v' l.length (l.flatMap Cel.cells)) ∧ Below w.heap.size w w' := by
  have HH := Lib.hid h
  have hsl := h.1.1
  have hn := h.1.2
  have HS := Lib.hid hsl
  have HN := Lib.hid hn
  have hfl := flatMap_len Cel.cells 5 (fun _ => rfl) l
  clear hsl h
  rcases hn with rfl | ⟨ad, n, c, rfl⟩
  · have h0 : l.length = 0 := by
      obtain ⟨a, cap, e, -⟩ := HS.out.form
      simp only [Value.slice.injEq] at e
      exact e.2.1.symm
    have hl0 : l = [] := List.eq_nil_of_length_eq_zero h0
    subst hl0
    clear HS HN HH hfl h0
    have he : ∀ w : World, (binOp .eql 35 (.slice none 0 0) (.slice none 0 0)).run Try.prog w = .ok (.bool true) w := fun _ => rfl
    go_enter Try.func108, Try.ntmps108
    go_wp2
    go_ret
    exact ⟨⟨_, rfl, World.ownsRow_nil _ _ _ _⟩, Below.refl _ _⟩
  · obtain ⟨a, cap, e, hl, hm, -⟩ := HS.out.form
    simp only [Value.slice.injEq] at e
    obtain ⟨-, rfl, rfl⟩ := e
    have he : ∀ w : World, (binOp .eql 35 (.slice (some ad) l.length c) (.slice none 0 0)).run Try.prog w = .ok (.bool false) w := fun _ => rfl
    go_enter Try.func108, Try.ntmps108
    have own := World.ownsRow_made (e := 60) (size := 5) w #[] 0 (Nat.le_refl _) (by decide) rfl
    have hB : Below w.heap.size w (w.alloc (.cells #[] 60)) := (Below.refl _ _).alloc (Nat.le_refl _) _
    go_wp2_with (at_builtin; refine append_any rfl _ _ 35 rfl w.heap.size 60 (.agg #[.bool false, .int .u64 0, .int .u64 0, .int .u64 0, .slice none 0 0]) 5 56 Try.underlying35 info_cell rfl (by decide) _ 0 [] rfl own _ l.length (l.flatMap Cel.cells) rfl (HS.out.grown hB) HN.out hfl (Cels.one HH.out.2) (by unfold maxLen; omega) (by omega) (by simp) ?_; intro v' w2 hown' hgrow)
    have hb2 : Below w.heap.size w w2 := hB.grown hgrow (by simp) (fun q hq => by have e : w.heap.size = q := Option.some.inj hq; omega)
    rw [Nat.zero_add, List.nil_append] at hown'
    have HO := Lib.hid hown'
    clear hown' hgrow own hB
    go_wp2
    go_ret
    exact ⟨⟨_, rfl, HO.out⟩, hb2⟩
end Go.Proofs.Ytlfmffjlmhpcdaa
