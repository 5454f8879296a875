/- The contracts of Truncate, Read, Remove, Arm, Fail. -/
import Derived.Test.YtkekidjjmcmjhaaGreatOps
import Derived.BigRegion
namespace Go.Proofs.YtkekidjjmcmjhaaGreat
open Go.RowKit
set_option maxRecDepth 100000
attribute [local irreducible] Der

theorem Byt.take {w : World} {a : Option Addr} {n c : Nat} {l : List Int} (h : Byt w (.slice a n c) l) (k : Nat) (hk : k ≤ l.length) : Byt w (.slice a k k) (l.take k) := by
  obtain ⟨a', cap, e, h1, h2, h3⟩ := h.1.form
  simp only [Value.slice.injEq] at e
  obtain ⟨rfl, rfl, rfl⟩ := e
  have hlen : (l.take k).length = k := by simp; omega
  refine ⟨⟨a, k, by rw [hlen], by omega, by omega, fun hne => ?_⟩, ?_⟩
  · obtain ⟨b, off, rfl, hlt, hc⟩ := h3 (by intro e; simp at e; subst e; simp at hne)
    refine ⟨b, off, rfl, hlt, fun i hi => ?_⟩
    simp at hi
    rw [hc i (by simp; omega)]
    simp
  · rcases h.2 with h4 | ⟨ad, n', c', h4⟩
    · simp only [Value.slice.injEq] at h4
      obtain ⟨rfl, h5, rfl⟩ := h4
      have : k = 0 := by omega
      subst this
      exact .inl rfl
    · simp only [Value.slice.injEq] at h4
      obtain ⟨rfl, -, -⟩ := h4
      exact NilA.of_some _ _ _

section
variable {w : World} {A : List Nat} {b m : Nat} {s : DS}

set_option maxHeartbeats 2000000 in
theorem f_truncs {W : World} {q r : Nat} {f : Fi} {n : Int} (h : BoxF W A q f) (hr : W.cell? ⟨r, 0, none⟩ = some (.int .i64 n)) (hrq : r < q) (h0 : 0 ≤ n) (h1 : n ≤ f.bs.length) (hlen : f.bs.length ≤ 1000000) :
    Calls Tryz.prog 85 #[.pointer (some ⟨q, 0, none⟩), .pointer (some ⟨r, 0, none⟩)] W fun e W' =>
      e = .returned (.tuple #[]) ∧ BoxF W' A q (truncF n f) ∧ Tw W.heap.size [q] W W' := by
  obtain ⟨k, rfl⟩ : ∃ k : Nat, n = k := ⟨n.toNat, by omega⟩
  have hkl : k ≤ f.bs.length := by omega
  have HX := Lib.hid h
  obtain ⟨sl, x0, xB, xap⟩ := h.is
  obtain ⟨a5, cap5, rfl, hcl, hcm, -⟩ := xB.open
  have x1 := h.sy
  have fr0 := h.fr 0
  have fr1 := h.fr 1
  have hql := h.lt
  have hy := Byt.take xB k hkl
  have hX2 := (h.set0 (.slice a5 k k) (f.bs.take k) hy (fun ad n c e => by simp only [Value.slice.injEq] at e; exact xap ad _ _ (by rw [e.1]))).set1 (min f.sy k)
  have t2 : Tw W.heap.size [q] W ((W.setCell ⟨q, 0, none⟩ (.slice a5 k k)).setCell ⟨q, 1, none⟩ (.int .i64 (min f.sy k))) := ((Tw.refl _ _ _).setCell (b := q) (.inl (by simp)) 0 _).setCell (b := q) (.inl (by simp)) 1 _
  have H2 := Lib.hid hX2
  have T2 := Lib.hid t2
  clear h xB xap hy hX2 t2 HX h0 h1
  go_enter Tryz.func85, Tryz.ntmps85
  go_region
  go_returns
  exact ⟨rfl, H2.out.turn (by simp) (fun _ _ _ _ => rfl) rfl, T2.out.trans (Tw.of_below (Below.refl _ _).drew)⟩

theorem f_Truncate (h : Disk w A b m s) (hok : s.Ok) (hop : s.ops < 1000000) (x n : Int) (hx : W64 x) : Calls Tryz.prog 45 #[DP b, .int .i64 x, .int .i64 n] w fun e w' =>
    e = .returned (.int .i64 (withE s x (askT n))) ∧ Disk w' A b m (withS s x (askT n) (truncF n)) ∧ Tw w.heap.size [b, m] w w' := by
  have hb1 : Below w.heap.size w (w.alloc (.cells #[.int .i64 n] 3)) := (Below.refl _ _).alloc (Nat.le_refl _) _
  have q0 : (w.alloc (.cells #[.int .i64 n] 3)).cell? ⟨w.heap.size, 0, none⟩ = some (.int .i64 n) := by go_simp
  have hs : (w.alloc (.cells #[.int .i64 n] 3)).heap.size = w.heap.size + 1 := by simp
  have hbl := h.blt
  have hml := h.mlt
  have H := f_with (h.below hb1) hok hop x hx 84 85 #[.pointer (some ⟨w.heap.size, 0, none⟩)] #[.pointer (some ⟨w.heap.size, 0, none⟩)] (fun _ _ => rfl) (fun _ _ => rfl) [] (by simp) (askT n) (truncF n)
    (fun W => W.cell? ⟨w.heap.size, 0, none⟩ = some (.int .i64 n) ∧ w.heap.size < W.heap.size) (fun _ _ => True) ⟨q0, by omega⟩
    (fun W W' hJ ht => ⟨(ht.cell (p := ⟨w.heap.size, 0, none⟩) (by dsimp; omega) (by simp; omega)).trans hJ.1, by have := ht.size; omega⟩) (fun _ _ _ _ _ => trivial)
    (fun W v f hJ hF _ _ => f_fits hF hJ.1 hJ.2)
    (fun W q f hJ hX hq _ hf ha => by
      unfold askT at ha
      split at ha
      · exact absurd ha (by decide)
      · have := len_le hok hf
        exact (f_truncs hX hJ.1 (by omega) (by omega) (by omega) (by omega)).mono fun e W' ⟨h1, h2, h3⟩ => ⟨h1, h2, trivial, h3⟩)
  clear h q0
  go_enter Tryz.func45, Tryz.ntmps45
  go_wp2_with fail
  refine H.mono ?_
  rintro e w1 ⟨rfl, h1, h2, -⟩
  go_wp2
  go_ret
  exact ⟨rfl, h1, (Tw.of_below hb1).trans (h2.mono (by omega) (fun a ha => .inl ha))⟩

theorem f_Read (h : Disk w A b m s) (hok : s.Ok) (hop : s.ops < 1000000) (x : Int) (hx : W64 x) : Calls Tryz.prog 24 #[DP b, .int .i64 x] w fun e w' =>
    ∃ v, e = .returned (.tuple #[v, .int .i64 (withE s x ask0)]) ∧ Byt w' v (if withE s x ask0 = 0 then (s.at x).bs else []) ∧ Disk w' A b m (withS s x ask0 id) ∧ Tw w.heap.size [b, m] w w' ∧ ∀ ad n c, v = .slice (some ad) n c → w.heap.size ≤ ad.block ∧ ad.block < w'.heap.size := by
  have hb1 : Below w.heap.size w (w.alloc (.cells #[.slice none 0 0] 24)) := (Below.refl _ _).alloc (Nat.le_refl _) _
  have q0 : (w.alloc (.cells #[.slice none 0 0] 24)).cell? ⟨w.heap.size, 0, none⟩ = some (.slice none 0 0) := by go_simp
  have q1 : (w.alloc (.cells #[.slice none 0 0] 24)).frozen? ⟨w.heap.size, 0, none⟩ = false := by go_simp
  have hs : (w.alloc (.cells #[.slice none 0 0] 24)).heap.size = w.heap.size + 1 := by simp
  have hbl := h.blt
  have hml := h.mlt
  have hbA := h.hb
  have hmA := h.hm
  have keep : ∀ (l : List Int) (W W' : World), (BoxB W w.heap.size l ∧ w.heap.size < W.heap.size) → Tw (w.heap.size + 1) [b, m] W W' → Tw W.heap.size [b, m] W W' → BoxB W' w.heap.size l ∧ w.heap.size < W'.heap.size := by
    rintro l W W' ⟨⟨⟨p, k, c, g1, g2, g3⟩, g4⟩, g5⟩ ht ht2
    refine ⟨⟨⟨p, k, c, (ht.cell (p := ⟨w.heap.size, 0, none⟩) (by dsimp; omega) (by simp; omega)).trans g1, ?_, fun ad e => ⟨(g3 ad e).1, by have := (g3 ad e).2; have := ht.size; omega⟩⟩, (ht.frozen (p := ⟨w.heap.size, 0, none⟩) (by dsimp; omega) (by simp; omega)).trans g4⟩, by have := ht.size; omega⟩
    cases p with
    | none =>
      have e1 := g2.none_nil
      have e2 := g2.2.of_none
      rw [e2.1, e2.2, e1]
      exact Byt.nil _
    | some ad => exact g2.block (ht2.block _ (g3 ad rfl).2 (by have := (g3 ad rfl).1; simp; omega)) ht.size
  have H := f_with (h.more hb1 (C := [w.heap.size]) (by intro a ha; simp at ha; omega)) hok hop x hx 40 63 #[] #[.pointer (some ⟨w.heap.size, 0, none⟩)] (fun _ _ => rfl) (fun _ _ => rfl) [w.heap.size]
    (by intro a ha; simp at ha; subst ha; refine ⟨by simp, by omega, by omega⟩) ask0 id
    (fun W => W.cell? ⟨w.heap.size, 0, none⟩ = some (.slice none 0 0) ∧ W.frozen? ⟨w.heap.size, 0, none⟩ = false ∧ w.heap.size < W.heap.size) (fun f W => BoxB W w.heap.size f.bs ∧ w.heap.size < W.heap.size) ⟨q0, q1, by omega⟩
    (fun W W' hJ ht => ⟨(ht.cell (p := ⟨w.heap.size, 0, none⟩) (by dsimp; omega) (by simp; omega)).trans hJ.1, (ht.frozen (p := ⟨w.heap.size, 0, none⟩) (by dsimp; omega) (by simp; omega)).trans hJ.2.1, by have := ht.size; omega⟩) (fun f W W' hJ ht => keep f.bs W W' hJ (ht.mono (by omega) (fun a ha => .inl ha)) ht)
    (fun W v f hJ hF _ _ => f_nothing hF)
    (fun W q f hJ hX hq _ hf ha => by
      have := len_le hok hf
      exact (f_reads hX ⟨⟨none, 0, 0, hJ.1, Byt.nil _, fun ad e => by cases e⟩, hJ.2.1⟩ (by simp) (by omega) (by omega)).mono fun e W' ⟨h1, h2, h3, h4⟩ => ⟨h1, h2, ⟨h3, by have := h4.size; omega⟩, h4⟩)
  obtain ⟨B0, hB0⟩ : ∃ B0, (if withE s x ask0 = 0 then (s.at x).bs else []) = B0 := ⟨_, rfl⟩
  obtain ⟨E0, hE0⟩ : ∃ E0, withE s x ask0 = E0 := ⟨_, rfl⟩
  rw [hB0]
  rw [hE0] at H hB0 ⊢
  clear h q0 hE0
  go_enter Tryz.func24, Tryz.ntmps24
  go_wp2_with fail
  refine H.mono ?_
  rintro e w1 ⟨rfl, h1, h2, h3, h4⟩
  have fin : ∀ u : Value, Disk (w1.setCell ⟨w.heap.size, 0, none⟩ u) A b m (withS s x ask0 id) := fun u =>
    h1.turn (by simp) (fun a ha => ⟨.inl (List.mem_append_right _ ha), by simpa using h1.lt a (List.mem_append_right _ ha)⟩) hbA hmA (fun k hk hkA => RowKit.Below.heap_setCell _ _ _ _ (fun e => hkA (by rw [e]; simp)))
      (RowKit.Below.heap_setCell _ _ _ _ (by dsimp; omega)) (RowKit.Below.heap_setCell _ _ _ _ (by dsimp; omega))
  have hs1 := h2.size
  have ft : ∀ u : Value, Tw w.heap.size [b, m] w (w1.setCell ⟨w.heap.size, 0, none⟩ u) := fun u =>
    ((Tw.of_below hb1).trans (h2.mono (L' := [b, m]) (by omega) (fun a ha => by simp only [List.mem_cons, List.not_mem_nil, or_false] at ha; rcases ha with rfl | rfl | rfl; simp; simp; exact .inr (Nat.le_refl _)))).setCell (b := w.heap.size) (.inr (Nat.le_refl _)) 0 u
  have F1 := Lib.hid fin
  have F2 := Lib.hid ft
  clear fin ft h1 h2 H keep hb1 hs
  by_cases hz : E0 = 0
  · obtain ⟨f, hf, ⟨⟨p, k, c, g1, g2, g3⟩, g4⟩, g5⟩ := h4 hz
    have hat : (s.at x).bs = f.bs := by unfold DS.at; rw [hf]; rfl
    rw [if_pos hz, hat] at hB0
    subst hB0
    have HG := Lib.hid g2
    have HG3 := Lib.hid g3
    clear h3 h4 hf hat g2 g3
    clear hz
    go_wp2
    refine bodyPost_ret (v := .tuple #[.slice p k c, .int .i64 E0]) (by simp only [results, Tryz.results24]; go_simp) rfl ⟨_, rfl, ?_, F1.out _, F2.out _, fun ad n' c' e => by simp only [Value.slice.injEq] at e; have := HG3.out ad e.1; simp; omega⟩
    cases p with
    | none =>
      have e1 := HG.out.none_nil
      have e2 := HG.out.2.of_none
      rw [e2.1, e2.2, e1]
      exact Byt.nil _
    | some ad => exact HG.out.block (RowKit.Below.heap_setCell _ _ _ _ (by have := HG3.out ad rfl; dsimp; omega)) (by simp)
  · obtain ⟨g1, g4, g5⟩ := h3 hz
    rw [if_neg hz] at hB0
    subst hB0
    clear h3 h4 hz
    go_wp2
    exact bodyPost_ret (v := .tuple #[.slice none 0 0, .int .i64 E0]) (by simp only [results, Tryz.results24]; go_simp) rfl ⟨_, rfl, Byt.nil _, F1.out _, F2.out _, fun ad n' c' e => by cases e⟩

theorem withS_other (s : DS) {x y : Int} (ask : Fi → Int) (doF : Fi → Fi) (h : y ≠ x) : (withS s x ask doF).fl y = s.fl y := by
  unfold withS
  split
  · rfl
  · split
    · rfl
    · split
      · rfl
      · split
        · rfl
        · simp [updF, h]

def removeS (s : DS) (x : Int) : DS := if withE s x ask0 = 0 then { withS s x ask0 id with fl := updF (withS s x ask0 id).fl x none } else withS s x ask0 id

theorem f_Remove (h : Disk w A b m s) (hok : s.Ok) (hop : s.ops < 1000000) (x : Int) (hx : W64 x) : Calls Tryz.prog 88 #[DP b, .int .i64 x] w fun e w' =>
    e = .returned (.int .i64 (withE s x ask0)) ∧ Disk w' A b m (removeS s x) ∧ Tw w.heap.size [b, m] w w' := by
  have H := f_with h hok hop x hx 40 116 #[] #[] (fun _ _ => rfl) (fun _ _ => rfl) [] (by simp) ask0 id (fun _ => True) (fun _ _ => True) trivial (fun _ _ _ _ => trivial) (fun _ _ _ _ _ => trivial)
    (fun W v f _ hF _ _ => f_nothing hF)
    (fun W q f _ hX _ _ hf _ => (f_removes q W).mono fun e W' ⟨h1, h2⟩ => by subst h2; exact ⟨h1, hX, trivial, Tw.refl _ _ _⟩)
  have hbl := h.blt
  have hmA := h.hm
  have hnm : ∀ y f, updF (withS s x ask0 id).fl x none y = some f → 0 ≤ y ∧ y < 4 := by
    intro y f hy
    unfold updF at hy
    split at hy
    · cases hy
    · rename_i hne
      rw [withS_other s ask0 id hne] at hy
      exact hok.name y f hy
  have hrs : removeS s x = if withE s x ask0 = 0 then { withS s x ask0 id with fl := updF (withS s x ask0 id).fl x none } else withS s x ask0 id := rfl
  obtain ⟨R0, hR0⟩ : ∃ R0, removeS s x = R0 := ⟨_, rfl⟩
  obtain ⟨E0, hE0⟩ : ∃ E0, withE s x ask0 = E0 := ⟨_, rfl⟩
  obtain ⟨s2, hs2⟩ : ∃ s2, withS s x ask0 id = s2 := ⟨_, rfl⟩
  rw [hR0, hE0, hs2] at hrs
  rw [hE0, hs2] at H
  rw [hs2] at hnm
  rw [hE0, hR0]
  have HR := Lib.hid hrs
  have HN := Lib.hid hnm
  clear h hR0 hE0 hs2 hrs hnm
  go_enter Tryz.func88, Tryz.ntmps88
  go_wp2_with fail
  refine H.mono ?_
  rintro e w1 ⟨rfl, h1, h2, -⟩
  have c1 := h1.c1
  obtain ⟨G, g1, g2⟩ := h1.files
  have H1 := Lib.hid h1
  have G2 := Lib.hid g2
  clear h1 g2
  by_cases hz : E0 = 0
  · subst hz
    go_wp2_with (at_delete; refine wp_delete _ rfl _ _ 69 3 rfl 75 Tryz.underlying3 Tryz.underlying69 m 4 rfl g1 x rfl hx ?_; intro w7 g7 hmt)
    go_ret
    have hR := HR.out
    rw [if_pos (by first | rfl | trivial)] at hR
    rw [hR]
    exact ⟨rfl, H1.out.mapped G2.out rfl _ g7 hmt trivial HN.out, h2.trans ((Tw.refl w.heap.size _ _).mapTurned (by simp) hmt)⟩
  · go_wp2
    go_ret
    have hR := HR.out
    rw [if_neg hz] at hR
    rw [hR]
    exact ⟨rfl, H1.out, h2⟩

/-! ### Arm, Fail -/
def setsE (s : DS) (n : Int) : Int := if s.dead then 9 else if n < -1 then 2 else 0
def armS (s : DS) (n : Int) : DS := if setsE s n = 0 then { s with armed := n } else s
def failS (s : DS) (n : Int) : DS := if setsE s n = 0 then { s with failing := n } else s

theorem f_Arm_at (w : World) (b r : Nat) (hr : w.cell? ⟨r, 0, none⟩ = some (DP b)) : Calls Tryz.prog 65 #[.pointer (some ⟨r, 0, none⟩)] w fun e w' => e = .returned (.pointer (some ⟨b, 3, none⟩)) ∧ w' = w := by
  go_enter Tryz.func65, Tryz.ntmps65
  go_wp2
  go_ret
  exact ⟨rfl, rfl⟩

theorem f_setsArm (h : Disk w A b m s) (n : Int) (r : Nat) (hr : w.cell? ⟨r, 0, none⟩ = some (DP b)) : Calls Tryz.prog 64 #[DP b, .func (.func 65) #[] #[.pointer (some ⟨r, 0, none⟩)], .int .i64 n] w fun e w' =>
    e = .returned (.int .i64 (setsE s n)) ∧ Disk w' A b m (armS s n) ∧ Tw w.heap.size [b, m] w w' := by
  have H := fun w0 (e : w0 = w) => f_lives (w := w0) (e ▸ h) (.slice none 0 0) [] (Sl.nilS _) (by simp)
  have hl : livesE s [] = if s.dead then 9 else 0 := by unfold livesE; simp
  rw [hl] at H
  have hS : armS s n = if setsE s n = 0 then { s with armed := n } else s := rfl
  have hE : setsE s n = if s.dead then 9 else if n < -1 then 2 else 0 := rfl
  have c3 := h.c3
  have f3 := h.fr 3
  have H1 := Lib.hid h
  have eg : ∀ args w, (callFunc 65 args).run Tryz.prog w = .ok (.enter 65 args) w := fun _ _ => rfl
  obtain ⟨S0, hS0⟩ : ∃ x, armS s n = x := ⟨_, rfl⟩
  obtain ⟨E0, hE0⟩ : ∃ x, setsE s n = x := ⟨_, rfl⟩
  rw [hS0, hE0] at hS
  rw [hE0] at hE
  rw [hS0, hE0]
  clear h hl hS0 hE0
  cases hd : s.dead with
  | true =>
    rw [hd] at H hE
    simp only [if_true] at hE H
    rw [hE, if_neg (by decide)] at hS
    subst hE hS
    go_enter Tryz.func64, Tryz.ntmps64
    go_wp2_with (go_at_call 35; refine (H _ rfl).mono ?_; rintro e w' ⟨rfl, rfl⟩)
    go_ret
    exact ⟨rfl, H1.out, Tw.refl _ _ _⟩
  | false =>
    rw [hd] at H hE
    simp only [if_false, Bool.false_eq_true] at hE H
    by_cases hn : n < -1
    · rw [if_pos hn] at hE
      rw [hE, if_neg (by decide)] at hS
      subst hE hS
      go_enter Tryz.func64, Tryz.ntmps64
      go_wp2_with (go_at_call 35; refine (H _ rfl).mono ?_; rintro e w' ⟨rfl, rfl⟩)
      go_ret
      exact ⟨rfl, H1.out, Tw.refl _ _ _⟩
    · rw [if_neg hn] at hE
      rw [hE, if_pos rfl] at hS
      subst hE hS
      have h3 := H1.out.set3 n
      have t3 : Tw w.heap.size [b, m] w (w.setCell ⟨b, 3, none⟩ (.int .i64 n)) := (Tw.refl _ _ _).setCell (b := b) (.inl (by simp)) 3 _
      have H3 := Lib.hid h3
      clear h3
      go_enter Tryz.func64, Tryz.ntmps64
      go_wp2_with (first | (go_at_call 35; refine (H _ rfl).mono ?_; rintro e w' ⟨rfl, rfl⟩) | (go_at_call 65; refine (f_Arm_at _ b r hr).mono ?_; rintro e w' ⟨rfl, rfl⟩))
      go_ret
      exact ⟨rfl, H3.out, t3⟩

theorem f_Arm (h : Disk w A b m s) (n : Int) : Calls Tryz.prog 25 #[DP b, .int .i64 n] w fun e w' =>
    e = .returned (.int .i64 (setsE s n)) ∧ Disk w' A b m (armS s n) ∧ Tw w.heap.size [b, m] w w' := by
  have hb1 : Below w.heap.size w (w.alloc (.cells #[DP b] 25)) := (Below.refl _ _).alloc (Nat.le_refl _) _
  have H := f_setsArm (h.below hb1) n w.heap.size (by go_simp)
  have hs : (w.alloc (.cells #[DP b] 25)).heap.size = w.heap.size + 1 := by simp
  have HH := Lib.hid H
  clear h H
  go_enter Tryz.func25, Tryz.ntmps25
  go_wp2_with fail
  refine HH.out.mono ?_
  rintro e w1 ⟨rfl, h1, h2⟩
  go_wp2
  go_ret
  exact ⟨rfl, h1, (Tw.of_below hb1).trans (h2.mono (by omega) (fun a ha => .inl ha))⟩
theorem f_Fail_at (w : World) (b r : Nat) (hr : w.cell? ⟨r, 0, none⟩ = some (DP b)) : Calls Tryz.prog 66 #[.pointer (some ⟨r, 0, none⟩)] w fun e w' => e = .returned (.pointer (some ⟨b, 4, none⟩)) ∧ w' = w := by
  go_enter Tryz.func66, Tryz.ntmps66
  go_wp2
  go_ret
  exact ⟨rfl, rfl⟩

theorem f_setsFail (h : Disk w A b m s) (n : Int) (r : Nat) (hr : w.cell? ⟨r, 0, none⟩ = some (DP b)) : Calls Tryz.prog 64 #[DP b, .func (.func 66) #[] #[.pointer (some ⟨r, 0, none⟩)], .int .i64 n] w fun e w' =>
    e = .returned (.int .i64 (setsE s n)) ∧ Disk w' A b m (failS s n) ∧ Tw w.heap.size [b, m] w w' := by
  have H := fun w0 (e : w0 = w) => f_lives (w := w0) (e ▸ h) (.slice none 0 0) [] (Sl.nilS _) (by simp)
  have hl : livesE s [] = if s.dead then 9 else 0 := by unfold livesE; simp
  rw [hl] at H
  have hS : failS s n = if setsE s n = 0 then { s with failing := n } else s := rfl
  have hE : setsE s n = if s.dead then 9 else if n < -1 then 2 else 0 := rfl
  have c3 := h.c4
  have f3 := h.fr 4
  have H1 := Lib.hid h
  have eg : ∀ args w, (callFunc 66 args).run Tryz.prog w = .ok (.enter 66 args) w := fun _ _ => rfl
  obtain ⟨S0, hS0⟩ : ∃ x, failS s n = x := ⟨_, rfl⟩
  obtain ⟨E0, hE0⟩ : ∃ x, setsE s n = x := ⟨_, rfl⟩
  rw [hS0, hE0] at hS
  rw [hE0] at hE
  rw [hS0, hE0]
  clear h hl hS0 hE0
  cases hd : s.dead with
  | true =>
    rw [hd] at H hE
    simp only [if_true] at hE H
    rw [hE, if_neg (by decide)] at hS
    subst hE hS
    go_enter Tryz.func64, Tryz.ntmps64
    go_wp2_with (go_at_call 35; refine (H _ rfl).mono ?_; rintro e w' ⟨rfl, rfl⟩)
    go_ret
    exact ⟨rfl, H1.out, Tw.refl _ _ _⟩
  | false =>
    rw [hd] at H hE
    simp only [if_false, Bool.false_eq_true] at hE H
    by_cases hn : n < -1
    · rw [if_pos hn] at hE
      rw [hE, if_neg (by decide)] at hS
      subst hE hS
      go_enter Tryz.func64, Tryz.ntmps64
      go_wp2_with (go_at_call 35; refine (H _ rfl).mono ?_; rintro e w' ⟨rfl, rfl⟩)
      go_ret
      exact ⟨rfl, H1.out, Tw.refl _ _ _⟩
    · rw [if_neg hn] at hE
      rw [hE, if_pos rfl] at hS
      subst hE hS
      have h3 := H1.out.set4 n
      have t3 : Tw w.heap.size [b, m] w (w.setCell ⟨b, 4, none⟩ (.int .i64 n)) := (Tw.refl _ _ _).setCell (b := b) (.inl (by simp)) 4 _
      have H3 := Lib.hid h3
      clear h3
      go_enter Tryz.func64, Tryz.ntmps64
      go_wp2_with (first | (go_at_call 35; refine (H _ rfl).mono ?_; rintro e w' ⟨rfl, rfl⟩) | (go_at_call 66; refine (f_Fail_at _ b r hr).mono ?_; rintro e w' ⟨rfl, rfl⟩))
      go_ret
      exact ⟨rfl, H3.out, t3⟩

theorem f_Fail (h : Disk w A b m s) (n : Int) : Calls Tryz.prog 26 #[DP b, .int .i64 n] w fun e w' =>
    e = .returned (.int .i64 (setsE s n)) ∧ Disk w' A b m (failS s n) ∧ Tw w.heap.size [b, m] w w' := by
  have hb1 : Below w.heap.size w (w.alloc (.cells #[DP b] 25)) := (Below.refl _ _).alloc (Nat.le_refl _) _
  have H := f_setsFail (h.below hb1) n w.heap.size (by go_simp)
  have hs : (w.alloc (.cells #[DP b] 25)).heap.size = w.heap.size + 1 := by simp
  have HH := Lib.hid H
  clear h H
  go_enter Tryz.func26, Tryz.ntmps26
  go_wp2_with fail
  refine HH.out.mono ?_
  rintro e w1 ⟨rfl, h1, h2⟩
  go_wp2
  go_ret
  exact ⟨rfl, h1, (Tw.of_below hb1).trans (h2.mono (by omega) (fun a ha => .inl ha))⟩
end
end Go.Proofs.YtkekidjjmcmjhaaGreat
