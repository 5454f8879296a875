/- The contract of used: a range over the map. -/
import Derived.Test.YtkekidjjmcmjhaaGreatDiskC
namespace Go.Proofs.YtkekidjjmcmjhaaGreat
open Go.RowKit
set_option maxRecDepth 100000

def sum1 (s : DS) (left : Int → Bool) (x : Int) : Nat := if left x then 0 else s.len x
def sumL (s : DS) (left : Int → Bool) : Nat := sum1 s left 0 + sum1 s left 1 + sum1 s left 2 + sum1 s left 3
theorem sum1_le (s : DS) (left : Int → Bool) (x : Int) : sum1 s left x ≤ s.len x := by unfold sum1; split <;> omega
theorem sumL_le (s : DS) (left : Int → Bool) : sumL s left ≤ s.used := by
  have := sum1_le s left 0; have := sum1_le s left 1; have := sum1_le s left 2; have := sum1_le s left 3
  unfold sumL DS.used; omega
theorem sum1_other (s : DS) (left : Int → Bool) {x y : Int} (h : y ≠ x) : sum1 s (fun z => left z && !decide (z = x)) y = sum1 s left y := by
  unfold sum1; simp [h]
theorem sum1_same (s : DS) (left : Int → Bool) {x : Int} (h : left x = true) : sum1 s (fun z => left z && !decide (z = x)) x = sum1 s left x + s.len x := by
  unfold sum1; simp [h]
theorem sumL_step (s : DS) (left : Int → Bool) {x : Int} (h0 : 0 ≤ x) (h4 : x < 4) (h : left x = true) : sumL s (fun z => left z && !decide (z = x)) = sumL s left + s.len x := by
  have hx : x = 0 ∨ x = 1 ∨ x = 2 ∨ x = 3 := by omega
  unfold sumL
  rcases hx with rfl | rfl | rfl | rfl
  · rw [sum1_same s left h, sum1_other s left (by decide : (1 : Int) ≠ 0), sum1_other s left (by decide : (2 : Int) ≠ 0), sum1_other s left (by decide : (3 : Int) ≠ 0)]; omega
  · rw [sum1_same s left h, sum1_other s left (by decide : (0 : Int) ≠ 1), sum1_other s left (by decide : (2 : Int) ≠ 1), sum1_other s left (by decide : (3 : Int) ≠ 1)]; omega
  · rw [sum1_same s left h, sum1_other s left (by decide : (0 : Int) ≠ 2), sum1_other s left (by decide : (1 : Int) ≠ 2), sum1_other s left (by decide : (3 : Int) ≠ 2)]; omega
  · rw [sum1_same s left h, sum1_other s left (by decide : (0 : Int) ≠ 3), sum1_other s left (by decide : (1 : Int) ≠ 3), sum1_other s left (by decide : (2 : Int) ≠ 3)]; omega
theorem sumL_end (s : DS) (left : Int → Bool) (h : ∀ x, W64 x → left x = false) : sumL s left = s.used := by
  unfold sumL sum1 DS.used
  rw [h 0 (by decide), h 1 (by decide), h 2 (by decide), h 3 (by decide)]; simp
theorem len_none {s : DS} {x : Int} (h : s.fl x = none) : s.len x = 0 := by unfold DS.len DS.at; rw [h]; rfl
theorem sumL_start (s : DS) (left : Int → Bool) (h : ∀ x, left x = (s.fl x).isSome) : sumL s left = 0 := by
  have : ∀ x, sum1 s left x = 0 := fun x => by
    unfold sum1
    rw [h]
    cases hx : s.fl x with
    | none => simpa using len_none hx
    | some f => simp
  unfold sumL; rw [this, this, this, this]

theorem info_byte : (Tryz.prog.info? 5).map (fun i => (i.zero, i.size, i.bytes)) = some (some (.int .u8 0), 1, 1) := by kernel_rfl
theorem Byt.one (l : List Int) : ∀ u ∈ l.map (Value.int .u8), u.oneCell' = true := by
  intro u hu
  obtain ⟨x, -, rfl⟩ := List.mem_map.1 hu
  rfl

/-- A file's value, from its parts. -/
abbrev FV (p : (Option Addr × Nat × Nat) × Int × Bool) : Value := .agg #[.slice p.1.1 p.1.2.1 p.1.2.2, .int .i64 p.2.1, .bool p.2.2]

section
variable {w : World} {A : List Nat} {b m : Nat} {s : DS}

theorem FileIs.parts {v : Value} {f : Fi} (h : FileIs w A v f) : ∃ p, v = FV p ∧ p.1.2.1 = f.bs.length ∧ p.2.1 = f.sy ∧ p.2.2 = f.kp := by
  obtain ⟨sl, rfl, h1, -⟩ := h
  obtain ⟨a, cap, rfl, -⟩ := h1.open
  exact ⟨((a, f.bs.length, cap), f.sy, f.kp), rfl, rfl, rfl, rfl⟩
theorem files_inv {G : Int → Option Value} (g2 : ∀ y, FileOp w A (G y) (s.fl y)) (x : Int) (v : Value) (h : G x = some v) : ∃ p, v = FV p := by
  have h1 := g2 x
  rw [h] at h1
  cases hf : s.fl x with
  | none => rw [hf] at h1; exact h1.elim
  | some f =>
    rw [hf] at h1
    obtain ⟨p, h2, -⟩ := FileIs.parts h1
    exact ⟨p, h2⟩
theorem files_len {G : Int → Option Value} (g2 : ∀ y, FileOp w A (G y) (s.fl y)) {x : Int} {p : (Option Addr × Nat × Nat) × Int × Bool} (h : G x = some (FV p)) : ∃ f, s.fl x = some f ∧ p.1.2.1 = s.len x := by
  have h1 := g2 x
  rw [h] at h1
  cases hf : s.fl x with
  | none => rw [hf] at h1; exact h1.elim
  | some f =>
    rw [hf] at h1
    obtain ⟨q, h2, h3, -⟩ := FileIs.parts h1
    simp only [FV, Value.agg.injEq, Array.mk.injEq, List.cons.injEq, Value.slice.injEq] at h2
    refine ⟨f, rfl, ?_⟩
    unfold DS.len DS.at
    rw [hf, h2.1.2.1, h3]; rfl

set_option maxHeartbeats 1000000 in
theorem f_used (h : Disk w A b m s) (hok : s.Ok) : Calls Tryz.prog 36 #[DP b] w fun e w' => e = .returned (.int .i64 s.used) ∧ Below w.heap.size w w' := by
  obtain ⟨G, g1, g2⟩ := h.files
  have c1 := h.c1
  have hml := h.mlt
  have hu : s.used ≤ 65536 := by have := hok.used; have := hok.room2; omega
  have HOK := Lib.hid hok
  have G2 := Lib.hid g2
  clear h hok
  go_enter Tryz.func36, Tryz.ntmps36
  go_wp2_with (at_range; refine wp_range _ rfl _ 69 rfl 3 75 Tryz.underlying3 Tryz.underlying69 m 4 rfl g1 ?_; intro w0 cnt0 hr0 hg0 hs0)
  go_frame
  have hb0 : Below w.heap.size w w0 := (Below.refl _ _).grown hg0 (Nat.le_refl _) (fun k hk => by cases hk)
  have hst : sumL s (fun x => (G x).isSome) = 0 := sumL_start s _ (fun x => (G2.out x).get.2)
  have H0 := Lib.hid hr0
  clear hr0 g1 c1
  go_loopw [3] (fun n wr => ∃ left cnt, MpR Tryz.prog 3 wr m w.heap.size 4 G left cnt ∧ n = .int .i64 (sumL s left) ∧ Below w.heap.size w wr ∧ w.heap.size < wr.heap.size) (fun _ wr => wr.rangeLeft m w.heap.size)
  case atStart => exact ⟨_, _, H0.out, by rw [hst]; rfl, hb0, by omega⟩
  case round =>
    obtain ⟨left, cnt, hr, rfl, hB, hsz⟩ := hrel
    have hle := sumL_le s left
    go_wp2_with (at_next; refine wp_next _ rfl _ rfl 3 Tryz.underlying3 FV m w.heap.size 4 _ rfl hr (files_inv G2.out) (fun hdone => Hid.out ?_) (fun x c w1 cnt1 hx hl hG hr1 hlt hg1 hs1 hen => Hid.out ?_))
    · refine Lib.hid ?_
      have he := sumL_end s left hdone
      rw [he]
      go_wp2
      go_ret
      exact ⟨rfl, hB⟩
    · refine Lib.hid ?_
      obtain ⟨⟨ad, n, cp⟩, y, kp⟩ := c
      obtain ⟨f, hf, hlen⟩ := files_len G2.out hG
      obtain ⟨h0, h4⟩ := HOK.out.name x f hf
      have hst1 := sumL_step s left h0 h4 hl
      have hle1 := sumL_le s (fun z => left z && !decide (z = x))
      have ew : IntKind.i64.wrap ((sumL s left : Int) + (n : Int)) = (sumL s (fun z => left z && !decide (z = x)) : Int) := by
        dsimp only at hlen
        rw [hst1, hlen, wr64 (by omega) (by omega)]; simp
      clear hst1 hlen hf
      have hb1 : Below w.heap.size wr w1 := (Below.refl _ _).grown hg1 (by omega) (fun k hk => by cases hk; exact Nat.le_refl _)
      have HR := Lib.hid hr1
      have el := hr.left_eq
      have EL := Lib.hid el
      clear hr1 hG hr el
      go_wp2
      have hn := HR.out.kept (World.grownBy_alloc w1 (.cells #[.slice ad n cp, .int .i64 y, .bool kp] 75) none) (by simp) (by simp)
      exact ⟨⟨_, _, hn, rfl, (hB.trans hb1).alloc (by omega) _, by simp; omega⟩, by rw [hn.left_eq, EL.out]; exact hlt⟩

/-- Bytes of one's own, of a slice that is there or not. -/
theorem f_bytesClone (v : Value) (l : List Int) (w : World) (h : Byt w v l) (hn : l.length ≤ 1000000) :
    Calls Tryz.prog 53 #[v] w fun e w' => (∃ v', e = .returned v' ∧ w'.ownsRow w.heap.size 5 1 v' l.length (l.map (Value.int .u8))) ∧ Below w.heap.size w w' := by
  have HH := Lib.hid h
  rcases h.2 with rfl | ⟨ad, n, c, rfl⟩
  · have hl0 := h.none_nil
    subst hl0
    clear h HH
    have he : ∀ w : World, (binOp .eql 24 (.slice none 0 0) (.slice none 0 0)).run Tryz.prog w = .ok (.bool true) w := fun _ => rfl
    go_enter Tryz.func53, Tryz.ntmps53
    go_wp2
    go_ret
    exact ⟨⟨_, rfl, World.ownsRow_nil _ _ _ _⟩, Below.refl _ _⟩
  · obtain ⟨a, cap, e, hl, hm, -⟩ := h.1.form
    simp only [Value.slice.injEq] at e
    obtain ⟨-, rfl, rfl⟩ := e
    clear h
    have he : ∀ w : World, (binOp .eql 24 (.slice (some ad) l.length c) (.slice none 0 0)).run Tryz.prog w = .ok (.bool false) w := fun _ => rfl
    go_enter Tryz.func53, Tryz.ntmps53
    have own := World.ownsRow_made (e := 5) (size := 1) w #[] 0 (Nat.le_refl _) (by decide) rfl
    have hB : Below w.heap.size w (w.alloc (.cells #[] 5)) := (Below.refl _ _).alloc (Nat.le_refl _) _
    go_wp2_with (at_builtin; refine append_any rfl _ _ 24 rfl w.heap.size 5 (.int .u8 0) 1 1 Tryz.underlying24 info_byte rfl (by decide) _ 0 [] rfl own _ l.length (l.map (Value.int .u8)) rfl (HH.out.1.grown hB) HH.out.2 (by simp) (Byt.one _) (by unfold maxLen; omega) (by omega) (by simp) ?_; intro v' w2 hown' hgrow)
    have hb2 : Below w.heap.size w w2 := hB.grown hgrow (by simp) (fun q hq => by have e : w.heap.size = q := Option.some.inj hq; omega)
    rw [Nat.zero_add, List.nil_append] at hown'
    have HO := Lib.hid hown'
    clear hown' hgrow own hB
    go_wp2
    go_ret
    exact ⟨⟨_, rfl, HO.out⟩, hb2⟩
end
end Go.Proofs.YtkekidjjmcmjhaaGreat
