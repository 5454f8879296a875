/- The contract of Rename. -/
import Derived.Test.YtkekidjjmcmjhaaGreatOps3
namespace Go.Proofs.YtkekidjjmcmjhaaGreat
open Go.RowKit
set_option maxRecDepth 100000
attribute [local irreducible] Der

def renF (x y : Int) (f : Fi) : Fi := ⟨f.bs, f.sy, f.kp || x != y⟩
def renameE (s : DS) (x y : Int) : Int := if livesE s [x, y] ≠ 0 then livesE s [x, y] else withE s x ask0
def renameS (s : DS) (x y : Int) : DS :=
  if livesE s [x, y] ≠ 0 then s else if withE s x ask0 = 0 ∧ x ≠ y then { withS s x ask0 (renF x y) with fl := updF (updF (withS s x ask0 (renF x y)).fl x none) y (some (renF x y (s.at x))) } else withS s x ask0 (renF x y)

section
variable {w : World} {A : List Nat} {b m : Nat} {s : DS}

set_option maxHeartbeats 1000000 in
theorem f_renames {W : World} {q r1 r2 r3 : Nat} {x y : Int} {f g : Fi} (h : BoxF W A q f) (h1 : W.cell? ⟨r1, 0, none⟩ = some (.int .i64 x)) (h2 : W.cell? ⟨r2, 0, none⟩ = some (.int .i64 y)) (h3 : BoxF W A r3 g) (hr1 : r1 < r3) (hr2 : r2 < r3) (hrq : r3 < q) (hA : r3 ∈ A) :
    Calls Tryz.prog 119 #[.pointer (some ⟨q, 0, none⟩), .pointer (some ⟨r1, 0, none⟩), .pointer (some ⟨r2, 0, none⟩), .pointer (some ⟨r3, 0, none⟩)] W fun e W' =>
      e = .returned (.tuple #[]) ∧ BoxF W' A q (renF x y f) ∧ BoxF W' A r3 (renF x y f) ∧ Tw W.heap.size (q :: [r3]) W W' := by
  have hq2 := h.set2 (f.kp || x != y)
  obtain ⟨sl, x0, xB, xap⟩ := h.is
  obtain ⟨a5, cap5, rfl, hcl, hcm, -⟩ := xB.open
  have x1 := h.sy
  have x2 := h.kp
  have fr2 := h.fr 2
  have hql := h.lt
  obtain ⟨u0, t0, -⟩ := h3.is
  have t1 := h3.sy
  have t2 := h3.kp
  have fa := h3.fr 0
  have fb := h3.fr 1
  have fc := h3.fr 2
  have hl3 := h3.lt
  have hne : q ≠ r3 := by omega
  obtain ⟨kk, hkk⟩ : ∃ kk, (f.kp || x != y) = kk := ⟨_, rfl⟩
  have hren : renF x y f = ⟨f.bs, f.sy, kk⟩ := by unfold renF; rw [hkk]
  rw [hkk] at hq2
  rw [hren]
  have tq : Tw W.heap.size (q :: [r3]) W ((((W.setCell ⟨q, 2, none⟩ (.bool kk)).setCell ⟨r3, 0, none⟩ (.slice a5 f.bs.length cap5)).setCell ⟨r3, 1, none⟩ (.int .i64 f.sy)).setCell ⟨r3, 2, none⟩ (.bool kk)) :=
    ((((Tw.refl _ _ _).setCell (b := q) (.inl (by simp)) 2 _).setCell (b := r3) (.inl (by simp)) 0 _).setCell (b := r3) (.inl (by simp)) 1 _).setCell (b := r3) (.inl (by simp)) 2 _
  have hq3 : BoxF ((((W.setCell ⟨q, 2, none⟩ (.bool kk)).setCell ⟨r3, 0, none⟩ (.slice a5 f.bs.length cap5)).setCell ⟨r3, 1, none⟩ (.int .i64 f.sy)).setCell ⟨r3, 2, none⟩ (.bool kk)) A q ⟨f.bs, f.sy, kk⟩ := by
    refine hq2.turn (by simp) (fun k _ hkA _ => ?_) ?_
    · have hk3 : k ≠ r3 := fun e => hkA (e ▸ hA)
      rw [RowKit.Below.heap_setCell _ _ _ _ hk3, RowKit.Below.heap_setCell _ _ _ _ hk3, RowKit.Below.heap_setCell _ _ _ _ hk3]
    · rw [RowKit.Below.heap_setCell _ _ _ _ hne, RowKit.Below.heap_setCell _ _ _ _ hne, RowKit.Below.heap_setCell _ _ _ _ hne]
  have d0 : (W.setCell ⟨q, 2, none⟩ (.bool kk)).cell? ⟨r3, 0, none⟩ = some u0 := by rw [World.cell?_of_block (RowKit.Below.heap_setCell _ _ _ _ (by dsimp; omega))]; exact t0
  have d1 : (W.setCell ⟨q, 2, none⟩ (.bool kk)).cell? ⟨r3, 1, none⟩ = some (.int .i64 g.sy) := by rw [World.cell?_of_block (RowKit.Below.heap_setCell _ _ _ _ (by dsimp; omega))]; exact t1
  have d2 : (W.setCell ⟨q, 2, none⟩ (.bool kk)).cell? ⟨r3, 2, none⟩ = some (.bool g.kp) := by rw [World.cell?_of_block (RowKit.Below.heap_setCell _ _ _ _ (by dsimp; omega))]; exact t2
  have hq4 : BoxF ((((W.setCell ⟨q, 2, none⟩ (.bool kk)).setCell ⟨r3, 0, none⟩ (.slice a5 f.bs.length cap5)).setCell ⟨r3, 1, none⟩ (.int .i64 f.sy)).setCell ⟨r3, 2, none⟩ (.bool kk)) A r3 ⟨f.bs, f.sy, kk⟩ := by
    obtain ⟨sl', z0, zB, zap⟩ := hq3.is
    have z1 : ((((W.setCell ⟨q, 2, none⟩ (.bool kk)).setCell ⟨r3, 0, none⟩ (.slice a5 f.bs.length cap5)).setCell ⟨r3, 1, none⟩ (.int .i64 f.sy)).setCell ⟨r3, 2, none⟩ (.bool kk)).cell? ⟨q, 0, none⟩ = some (.slice a5 f.bs.length cap5) := by
      rw [World.cell?_of_block (RowKit.Below.heap_setCell _ _ _ _ (by dsimp; omega)), World.cell?_of_block (RowKit.Below.heap_setCell _ _ _ _ (by dsimp; omega)), World.cell?_of_block (RowKit.Below.heap_setCell _ _ _ _ (by dsimp; omega)), cell_set]
      simp [x0]
    rw [z1] at z0
    simp only [Option.some.injEq] at z0
    subst z0
    refine ⟨⟨_, ?_, zB, fun ad n c e => ⟨(zap ad n c e).1, (zap ad n c e).2.1, fun e2 => (zap ad n c e).2.1 (e2 ▸ hA)⟩⟩, ?_, ?_, fun o => ?_, by simpa using hl3⟩
    · simp [cell_set, d0]
    · simp [cell_set, d1]
    · simp [cell_set, d2]
    · rw [World.frozen?_setCell, World.frozen?_setCell, World.frozen?_setCell, World.frozen?_setCell]; exact h3.fr o
  have H3 := Lib.hid hq3
  have H4 := Lib.hid hq4
  have TQ := Lib.hid tq
  clear h h3 hq2 xB xap hren hq3 hq4 tq
  cases hkp : f.kp with
  | true =>
    rw [hkp] at x2 hkk
    simp only [Bool.true_or] at hkk
    subst hkk
    clear hkp
    go_enter Tryz.func119, Tryz.ntmps119
    go_wp2
    go_returns
    exact ⟨rfl, H3.out, H4.out, TQ.out⟩
  | false =>
    rw [hkp] at x2 hkk
    simp only [Bool.false_or] at hkk
    subst hkk
    clear hkp
    go_enter Tryz.func119, Tryz.ntmps119
    go_wp2
    go_returns
    exact ⟨rfl, H3.out, H4.out, TQ.out⟩

theorem Byt.any {W : World} {v : Value} (h : Byt W v []) (W' : World) : Byt W' v [] := by
  obtain ⟨a, cap, e, h1, h2, -⟩ := h.1.form
  exact ⟨⟨a, cap, e, h1, h2, fun hne => absurd rfl hne⟩, h.2⟩
theorem BoxF.keep0 {W W' : World} {A : List Nat} {q : Nat} {f : Fi} (h : BoxF W A q f) (hf : f.bs = []) (hs : W.heap.size ≤ W'.heap.size) (hq : W'.heap[q]? = W.heap[q]?) : BoxF W' A q f := by
  have hc : ∀ o, W'.cell? ⟨q, o, none⟩ = W.cell? ⟨q, o, none⟩ := fun o => World.cell?_of_block hq
  have hfr : ∀ o, W'.frozen? ⟨q, o, none⟩ = W.frozen? ⟨q, o, none⟩ := fun o => World.frozen?_of_block hq
  obtain ⟨sl, h1, h2, h3⟩ := h.is
  rw [hf] at h2
  exact ⟨⟨sl, (hc 0).trans h1, by rw [hf]; exact h2.any W', fun ad n c e => ⟨Nat.lt_of_lt_of_le (h3 ad n c e).1 hs, (h3 ad n c e).2⟩⟩, (hc 1).trans h.sy, (hc 2).trans h.kp, fun o => (hfr o).trans (h.fr o), Nat.lt_of_lt_of_le h.lt hs⟩

theorem ints_two (w : World) (x y : Int) : Ints (w.alloc (.cells #[.int .i64 x, .int .i64 y] 3)) (.slice (some ⟨w.heap.size, 0, none⟩) 2 2) [x, y] := Sl.fresh w _ 2 [.int .i64 x, .int .i64 y] rfl (by omega)

set_option maxHeartbeats 2000000 in
theorem f_Rename (h : Disk w A b m s) (hok : s.Ok) (hop : s.ops < 1000000) (x y : Int) (hx : W64 x) (hy : W64 y) :
    Calls Tryz.prog 97 #[DP b, .int .i64 x, .int .i64 y] w fun e w' => e = .returned (.int .i64 (renameE s x y)) ∧ Disk w' A b m (renameS s x y) ∧ Tw w.heap.size [b, m] w w' := by
  have HD := Lib.hid h
  have hbl := h.blt
  have hml := h.mlt
  have hbA := h.hb
  have hmA := h.hm
  have sub2 : ∀ n : Nat, ∀ a ∈ [b, m], a ∈ [b, m] ∨ n ≤ a := fun n a ha => .inl ha
  have hE : renameE s x y = if livesE s [x, y] ≠ 0 then livesE s [x, y] else withE s x ask0 := rfl
  have hS : renameS s x y = if livesE s [x, y] ≠ 0 then s else if withE s x ask0 = 0 ∧ x ≠ y then { withS s x ask0 (renF x y) with fl := updF (updF (withS s x ask0 (renF x y)).fl x none) y (some (renF x y (s.at x))) } else withS s x ask0 (renF x y) := rfl
  obtain ⟨E0, hE0⟩ : ∃ z, renameE s x y = z := ⟨_, rfl⟩
  obtain ⟨S0, hS0⟩ : ∃ z, renameS s x y = z := ⟨_, rfl⟩
  rw [hE0] at hE
  rw [hS0] at hS
  rw [hE0, hS0]
  clear h hE0 hS0
  go_enter Tryz.func97, Tryz.ntmps97
  go_wp2_with fail
  have hb1 : Below w.heap.size w (((w.alloc (.cells #[.int .i64 x] 3)).alloc (.cells #[.int .i64 y] 3)).alloc (.cells #[.int .i64 x, .int .i64 y] 3)) := (((Below.refl _ _).alloc (Nat.le_refl _) _).alloc (by simp) _).alloc (by simp; omega) _
  have hin : Ints (((w.alloc (.cells #[.int .i64 x] 3)).alloc (.cells #[.int .i64 y] 3)).alloc (.cells #[.int .i64 x, .int .i64 y] 3)) (.slice (some ⟨w.heap.size + 1 + 1, 0, none⟩) 2 2) [x, y] := by
    have := ints_two ((w.alloc (.cells #[.int .i64 x] 3)).alloc (.cells #[.int .i64 y] 3)) x y
    simpa using this
  refine (f_lives (HD.out.below hb1) _ [x, y] hin (by simp)).mono ?_
  rintro e w1 ⟨rfl, rfl⟩
  dsimp only
  have k1 : (((w.alloc (.cells #[.int .i64 x] 3)).alloc (.cells #[.int .i64 y] 3)).alloc (.cells #[.int .i64 x, .int .i64 y] 3)).cell? ⟨w.heap.size, 0, none⟩ = some (.int .i64 x) := by go_simp
  have k2 : (((w.alloc (.cells #[.int .i64 x] 3)).alloc (.cells #[.int .i64 y] 3)).alloc (.cells #[.int .i64 x, .int .i64 y] 3)).cell? ⟨w.heap.size + 1, 0, none⟩ = some (.int .i64 y) := by go_simp
  obtain ⟨W1, hW1⟩ : ∃ W, (((w.alloc (.cells #[.int .i64 x] 3)).alloc (.cells #[.int .i64 y] 3)).alloc (.cells #[.int .i64 x, .int .i64 y] 3)) = W := ⟨_, rfl⟩
  have hs1 : W1.heap.size = w.heap.size + 3 := by rw [← hW1]; simp
  rw [hW1] at hb1 k1 k2 ⊢
  have H1 := Lib.hid (HD.out.below hb1)
  clear hW1 hin
  by_cases hl : livesE s [x, y] = 0
  · rw [if_neg (by simp [hl])] at hE hS
    rw [hl]
    have hnm : s.dead = false ∧ (0 ≤ x ∧ x < 4) ∧ 0 ≤ y ∧ y < 4 := by
      unfold livesE at hl
      cases hd : s.dead with
      | true => simp [hd] at hl
      | false =>
        rw [hd] at hl
        cases hnx : nameB x with
        | false => simp [hnx] at hl
        | true =>
          cases hny : nameB y with
          | false => simp [hny] at hl
          | true => simp [nameB] at hnx hny; exact ⟨rfl, hnx, hny⟩
    have HE := Lib.hid hE
    have HS := Lib.hid hS
    have HNM := Lib.hid hnm
    clear hl hE hS hnm
    have hb2 : Below W1.heap.size W1 (W1.alloc (.cells #[.slice none 0 0, .int .i64 0, .bool false] 75)) := (Below.refl _ _).alloc (Nat.le_refl _) _
    have m1 : (W1.alloc (.cells #[.slice none 0 0, .int .i64 0, .bool false] 75)).cell? ⟨w.heap.size, 0, none⟩ = some (.int .i64 x) := (hb2.cell (p := ⟨w.heap.size, 0, none⟩) (by dsimp; omega)).trans k1
    have m2 : (W1.alloc (.cells #[.slice none 0 0, .int .i64 0, .bool false] 75)).cell? ⟨w.heap.size + 1, 0, none⟩ = some (.int .i64 y) := (hb2.cell (p := ⟨w.heap.size + 1, 0, none⟩) (by dsimp; omega)).trans k2
    have m3 : BoxF (W1.alloc (.cells #[.slice none 0 0, .int .i64 0, .bool false] 75)) ([w.heap.size + 3] ++ A) (w.heap.size + 3) f0 := ⟨⟨.slice none 0 0, by rw [← hs1]; go_simp, Byt.nil _, fun ad n c e => by cases e⟩, by rw [← hs1]; go_simp; rfl, by rw [← hs1]; go_simp; rfl, fun o => by rw [← hs1]; go_simp, by simp; omega⟩
    have hs2 : (W1.alloc (.cells #[.slice none 0 0, .int .i64 0, .bool false] 75)).heap.size = w.heap.size + 4 := by simp [hs1]
    have h2 := H1.out.more hb2 (C := [w.heap.size + 3]) (by intro a ha; simp at ha; omega)
    obtain ⟨W2, hW2⟩ : ∃ W, W1.alloc (.cells #[.slice none 0 0, .int .i64 0, .bool false] 75) = W := ⟨_, rfl⟩
    rw [hW2] at hb2 m1 m2 m3 hs2 h2
    have keep : ∀ (g : Fi) (W W' : World), (W.cell? ⟨w.heap.size, 0, none⟩ = some (.int .i64 x) ∧ W.cell? ⟨w.heap.size + 1, 0, none⟩ = some (.int .i64 y) ∧ BoxF W ([w.heap.size + 3] ++ A) (w.heap.size + 3) g) → Tw W2.heap.size [b, m] W W' → Tw W.heap.size [b, m] W W' →
        W'.cell? ⟨w.heap.size, 0, none⟩ = some (.int .i64 x) ∧ W'.cell? ⟨w.heap.size + 1, 0, none⟩ = some (.int .i64 y) ∧ BoxF W' ([w.heap.size + 3] ++ A) (w.heap.size + 3) g := by
      rintro g W W' ⟨g1, g2, g3⟩ ht ht2
      refine ⟨(ht.cell (p := ⟨w.heap.size, 0, none⟩) (by dsimp; omega) (by simp; omega)).trans g1, (ht.cell (p := ⟨w.heap.size + 1, 0, none⟩) (by dsimp; omega) (by simp; omega)).trans g2, g3.turn ht2.size (fun k hk hkA _ => ht2.block k hk (fun hc => ?_)) (ht.block _ (by omega) (by simp; omega))⟩
      simp only [List.mem_cons, List.not_mem_nil, or_false] at hc
      rcases hc with rfl | rfl
      · exact hkA (List.mem_append_right _ hbA)
      · exact hkA (List.mem_append_right _ hmA)
    have H := f_with h2 hok hop x hx 40 119 #[] #[.pointer (some ⟨w.heap.size, 0, none⟩), .pointer (some ⟨w.heap.size + 1, 0, none⟩), .pointer (some ⟨w.heap.size + 3, 0, none⟩)] (fun _ _ => rfl) (fun _ _ => rfl) [w.heap.size + 3]
      (by intro a ha; simp at ha; subst ha; refine ⟨by simp, by omega, by omega⟩) ask0 (renF x y)
      (fun W => W.cell? ⟨w.heap.size, 0, none⟩ = some (.int .i64 x) ∧ W.cell? ⟨w.heap.size + 1, 0, none⟩ = some (.int .i64 y) ∧ BoxF W ([w.heap.size + 3] ++ A) (w.heap.size + 3) f0)
      (fun f W => W.cell? ⟨w.heap.size, 0, none⟩ = some (.int .i64 x) ∧ W.cell? ⟨w.heap.size + 1, 0, none⟩ = some (.int .i64 y) ∧ BoxF W ([w.heap.size + 3] ++ A) (w.heap.size + 3) (renF x y f)) ⟨m1, m2, m3⟩
      (fun W W' hJ ht => by
        obtain ⟨g1, g2, g3⟩ := hJ
        refine ⟨(ht.cell (p := ⟨w.heap.size, 0, none⟩) (by dsimp; omega) (by simp; omega)).trans g1, (ht.cell (p := ⟨w.heap.size + 1, 0, none⟩) (by dsimp; omega) (by simp; omega)).trans g2, ?_⟩
        exact g3.keep0 rfl ht.size (ht.block _ (by omega) (by simp; omega)))
      (fun f W W' hJ ht => keep _ W W' hJ (ht.mono (by have := hJ.2.2.lt; omega) (fun a ha => .inl ha)) ht)
      (fun W v f hJ hF _ _ => f_nothing hF)
      (fun W q f hJ hX hq _ hf ha => (f_renames hX hJ.1 hJ.2.1 hJ.2.2 (by omega) (by omega) (by omega) (by simp)).mono fun e W' ⟨h1, h2, h3, h4⟩ => ⟨h1, h2, ⟨(h4.cell (p := ⟨w.heap.size, 0, none⟩) (by have := hX.lt; dsimp; omega) (by simp; omega)).trans hJ.1, (h4.cell (p := ⟨w.heap.size + 1, 0, none⟩) (by have := hX.lt; dsimp; omega) (by simp; omega)).trans hJ.2.1, h3⟩, h4⟩)
    have HW2 := Lib.hid hW2
    have HH := Lib.hid H
    have hlA := h2.lt
    clear hW2 H keep m1 m2 m3 h2
    go_wp2_with fail
    rw [HW2.out]
    refine HH.out.mono ?_
    rintro e w3 ⟨rfl, h3, t3, g3, g4⟩
    clear HH HW2
    dsimp only
    have T3 : Tw w.heap.size [b, m] w w3 := (Tw.of_below (hb1.trans (hb2.mono (by omega)))).trans (t3.mono (by omega) (fun a ha => by
      simp only [List.mem_cons, List.not_mem_nil, or_false] at ha
      rcases ha with rfl | rfl | rfl
      · simp
      · simp
      · exact .inr (by omega)))
    have hs3 := t3.size
    by_cases hz : withE s x ask0 = 0
    · obtain ⟨f, hf, n1, n2, n3⟩ := g4 hz
      have hat : s.at x = f := by unfold DS.at; rw [hf]; rfl
      rw [hz]
      have hE := HE.out
      rw [hz] at hE
      subst hE
      clear g3 g4
      by_cases hxy : x = y
      · have hS := HS.out
        rw [if_neg (by simp [hxy])] at hS
        have HS2 := Lib.hid hS
        have h3' := h3.less (C := [w.heap.size + 3]) hbA hmA
        have H3 := Lib.hid h3'
        subst hxy
        clear hS h3 h3' n3
        go_wp2
        go_ret
        rw [HS2.out]
        exact ⟨rfl, H3.out, T3⟩
      · have hS := HS.out
        rw [if_pos ⟨hz, hxy⟩, hat] at hS
        have HS2 := Lib.hid hS
        obtain ⟨hdead, ⟨hx0, hx4⟩, hy0, hy4⟩ := HNM.out
        have hnm1 : ∀ z g, updF (withS s x ask0 (renF x y)).fl x none z = some g → 0 ≤ z ∧ z < 4 := by
          intro z g hzz
          unfold updF at hzz
          split at hzz
          · cases hzz
          · rename_i hne
            rw [withS_other s ask0 _ hne] at hzz
            exact hok.name z g hzz
        have hnm2 : ∀ z g, updF (updF (withS s x ask0 (renF x y)).fl x none) y (some (renF x y f)) z = some g → 0 ≤ z ∧ z < 4 := by
          intro z g hzz
          by_cases hne : z = y
          · subst hne; exact ⟨hy0, hy4⟩
          · unfold updF at hzz
            rw [if_neg hne] at hzz
            exact hnm1 z g hzz
        have HN1 := Lib.hid hnm1
        have HN2 := Lib.hid hnm2
        obtain ⟨G3, g31, g32⟩ := h3.files
        have c3 := h3.c1
        have hbl3 := h3.blt
        have hml3 := h3.mlt
        obtain ⟨sl3, x0, xB, xap⟩ := n3.is
        obtain ⟨a3, cap3, rfl, -⟩ := xB.open
        have x1 := n3.sy
        have x2 := n3.kp
        have hq3 : w.heap.size + 3 < w3.heap.size := n3.lt
        have H3 := Lib.hid h3
        have G32 := Lib.hid g32
        have XB := Lib.hid xB
        have XAP := Lib.hid xap
        have hmq : w.heap.size + 3 ≠ m := by omega
        have h1m : w.heap.size ≠ m := by omega
        have h2m : w.heap.size + 1 ≠ m := by omega
        have hbm : b ≠ m := h3.ne
        have h1l : w.heap.size < w3.heap.size := by omega
        have h2l : w.heap.size + 1 < w3.heap.size := by omega
        clear hS h3 g32 xB xap n3 hnm1 hnm2
        go_wp2
        refine wp_grow [] 5 (by kernel_rfl) (by kernel_rfl) (by rfl) (by rfl) ?_
        simp only [List.take_succ_cons, List.take_zero, List.drop_succ_cons, List.drop_zero]
        repeat (first
          | (apply Der.quiet; (rfl); (rfl); (intro w' hw' hctx; have hc' := bcell hw'; have y1 := (hw'.cell (p := ⟨b, 1, none⟩) hbl3).trans c3; have y2 := (hw'.cell (p := ⟨w.heap.size, 0, none⟩) h1l).trans n1; clear hctx; go_simp; first | exact rfl | exact ⟨rfl, rfl⟩); simp only [Act.put, List.setIfInBounds_toArray, List.set_cons_succ, List.set_cons_zero, Nat.reduceAdd])
          | (apply Der.skip; (rfl); simp only [Act.put, List.setIfInBounds_toArray, List.set_cons_succ, List.set_cons_zero, Nat.reduceAdd]))
        refine Der.nil (fun w4 hgw4 hctx => ?_)
        clear hctx
        have hb4 : Below _ _ w4 := hgw4
        clear hgw4
        have e4 : Below w3.heap.size w3 w4 := (Below.refl _ _).drew.trans hb4
        have g41 := g31.below e4 hml3
        go_wp2_with (at_delete; refine wp_delete _ rfl _ _ 69 3 rfl 75 Tryz.underlying3 Tryz.underlying69 m 4 rfl g41 x rfl hx ?_; intro w5 g5 hmt5)
        have b45 : ∀ k, k < w3.heap.size → k ≠ m → w5.heap[k]? = w3.heap[k]? := fun k hk hne => (hmt5.grown.block k (by have := e4.size; omega) (by simpa using hne)).trans (e4.block k hk)
        have hs5 : w3.heap.size ≤ w5.heap.size := Nat.le_trans e4.size hmt5.grown.size
        have g42 : ∀ z, FileOp w4 ([w.heap.size + 3] ++ A) (G3 z) ((withS s x ask0 (renF x y)).fl z) := fun z => (G32.out z).turn e4.size (fun a ha => .inl ha) (fun k hk _ => e4.block k hk)
        have h5 := Disk.mapped (gv := none) (gf := none) (H3.out.below e4) g42 rfl _ g5 hmt5 trivial HN1.out
        have t5 : Tw w3.heap.size [b, m] w3 w5 := (Tw.of_below e4).mapTurned (by simp) hmt5
        have d1 : w5.cell? ⟨w.heap.size + 1, 0, none⟩ = some (.int .i64 y) := (World.cell?_of_block (b45 _ h2l h2m)).trans n2
        have d2 : w5.cell? ⟨w.heap.size + 3, 0, none⟩ = some (.slice a3 (renF x y f).bs.length cap3) := (World.cell?_of_block (b45 _ hq3 hmq)).trans x0
        have d3 : w5.cell? ⟨w.heap.size + 3, 1, none⟩ = some (.int .i64 (renF x y f).sy) := (World.cell?_of_block (b45 _ hq3 hmq)).trans x1
        have d4 : w5.cell? ⟨w.heap.size + 3, 2, none⟩ = some (.bool (renF x y f).kp) := (World.cell?_of_block (b45 _ hq3 hmq)).trans x2
        obtain ⟨G5, g51, g52⟩ := h5.files
        have c5 := h5.c1
        have hbl5 := h5.blt
        have hml5 := h5.mlt
        have hq5 : w.heap.size + 3 < w5.heap.size := by omega
        have h2l5 : w.heap.size + 1 < w5.heap.size := by omega
        have XB5 := Lib.hid (XB.out.turn (W' := w5) hs5 (fun ad n c e => b45 _ (XAP.out ad n c e).1 (fun e2 => (XAP.out ad n c e).2.1 (List.mem_append_right _ (e2 ▸ hmA)))))
        have H5 := Lib.hid h5
        have G52 := Lib.hid g52
        have HG5 := Lib.hid hmt5
        clear h5 g52 g42 b45 g5 hmt5 e4 hb4 g41 g31 n1 n2 x0 x1 x2 c3
        go_wp2
        refine wp_grow [] 6 (by kernel_rfl) (by kernel_rfl) (by rfl) (by rfl) ?_
        simp only [List.take_succ_cons, List.take_zero, List.drop_succ_cons, List.drop_zero]
        repeat (first
          | (apply Der.quiet; (rfl); (rfl); (intro w' hw' hctx; have hc' := bcell hw'; have y1 := (hw'.cell (p := ⟨b, 1, none⟩) hbl5).trans c5; have y2 := (hw'.cell (p := ⟨w.heap.size + 1, 0, none⟩) h2l5).trans d1; have y3 := (hw'.cell (p := ⟨w.heap.size + 3, 0, none⟩) hq5).trans d2; have y4 := (hw'.cell (p := ⟨w.heap.size + 3, 1, none⟩) hq5).trans d3; have y5 := (hw'.cell (p := ⟨w.heap.size + 3, 2, none⟩) hq5).trans d4; clear hctx; go_simp; first | exact rfl | exact ⟨rfl, rfl⟩); simp only [Act.put, List.setIfInBounds_toArray, List.set_cons_succ, List.set_cons_zero, Nat.reduceAdd])
          | (apply Der.skip; (rfl); simp only [Act.put, List.setIfInBounds_toArray, List.set_cons_succ, List.set_cons_zero, Nat.reduceAdd]))
        refine Der.nil (fun w6 hgw6 hctx => ?_)
        clear hctx
        have hb6 : Below _ _ w6 := hgw6
        clear hgw6
        have e6 : Below w5.heap.size w5 w6 := (Below.refl _ _).drew.trans hb6
        have g61 := g51.below e6 hml5
        go_wp2_with (at_mapUpdate; refine wp_store _ rfl _ _ _ 69 rfl 3 75 Tryz.underlying3 Tryz.underlying69 m 4 rfl g61 (by unfold maxLen; omega) y (.agg #[.slice a3 (renF x y f).bs.length cap3, .int .i64 (renF x y f).sy, .bool (renF x y f).kp]) rfl rfl hy ?_; intro w7 g7 hmt7)
        go_ret
        have g62 : ∀ z, FileOp w6 ([w.heap.size + 3] ++ A) (G5 z) (updF (withS s x ask0 (renF x y)).fl x none z) := fun z => (G52.out z).turn e6.size (fun a ha => .inl ha) (fun k hk _ => e6.block k hk)
        have hfo : FileOp w6 ([w.heap.size + 3] ++ A) (some (.agg #[.slice a3 (renF x y f).bs.length cap3, .int .i64 (renF x y f).sy, .bool (renF x y f).kp])) (some (renF x y f)) := by
          refine FileIs.turn (w := w5) (A := [w.heap.size + 3] ++ A) ⟨_, rfl, XB5.out, fun ad n c e => ?_⟩ e6.size (fun a ha => .inl ha) (fun k hk _ => e6.block k hk)
          have h9 := XAP.out ad n c e
          exact ⟨by omega, h9.2.1⟩
        have h7 := (H5.out.below e6).mapped g62 rfl _ g7 hmt7 hfo HN2.out
        have t7 : Tw w5.heap.size [b, m] w5 w7 := (Tw.of_below e6).mapTurned (by simp) hmt7
        rw [HS2.out]
        exact ⟨rfl, h7.less (C := [w.heap.size + 3]) hbA hmA, (T3.trans (t5.mono (by omega) (sub2 _))).trans (t7.mono (by omega) (sub2 _))⟩
    · obtain ⟨n1, n2, -⟩ := g3 hz
      have hS := HS.out
      rw [if_neg (fun hc => hz hc.1)] at hS
      have HS2 := Lib.hid hS
      have H3 := Lib.hid (h3.less (C := [w.heap.size + 3]) hbA hmA)
      have hE := HE.out
      rw [← hE] at hz ⊢
      clear g3 g4 h3 hS hE
      go_wp2
      go_ret
      rw [HS2.out]
      exact ⟨rfl, H3.out, T3⟩
  · rw [if_pos hl] at hE hS
    subst hE hS
    obtain ⟨e1, he1⟩ : ∃ e, livesE S0 [x, y] = e := ⟨_, rfl⟩
    have HQ := Lib.hid he1
    rw [he1] at hl ⊢
    clear he1
    go_wp2
    go_ret
    exact ⟨by rw [HQ.out]; rfl, H1.out, Tw.of_below hb1⟩
end
end Go.Proofs.YtkekidjjmcmjhaaGreat
