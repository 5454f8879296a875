/- wal.makes, whole; wal.Format. -/
import Derived.Test.YtkekidjjmcmjhaaGreatWalM
namespace Go.Proofs.YtkekidjjmcmjhaaGreat
open Go.RowKit
set_option maxRecDepth 100000
attribute [local irreducible] Der

section
variable {w w' : World} {A A' : List Nat} {q b m : Nat} {g : Option Nat} {most : Int} {parts : List (List Int)} {s : DS}

def MakesPost (w : World) (A : List Nat) (b m : Nat) (most : Int) (snap : List Int) (s : DS) (e : Ending) (w' : World) : Prop :=
  ∃ v A' g, e = .returned (.tuple #[.agg #[.int .i64 most, v, .int .i64 (costL [snap])], .int .i64 (makesR most snap s).1]) ∧ Ext w.heap.size A A' ∧ GNew w.heap.size none g ∧ RowIs w' A' v g [snap] ∧ Disk w' A' b m (makesR most snap s).2 ∧ Tw w.heap.size [b, m] w w'

set_option maxHeartbeats 4000000 in
theorem f_makes (h : Disk w A b m s) (hok : s.Ok) (hop : s.ops < 900000) (h0 : 0 ≤ most) (h1 : most ≤ 1000000) (v : Value) (snap : List Int) (hv : Byt w v snap) (hn : snap.length ≤ 90000) (hb : Byte snap) (hva : ∀ ad n c, v = .slice (some ad) n c → ad.block < w.heap.size ∧ ad.block ≠ b ∧ ad.block ≠ m) :
    Calls Tryz.prog 60 #[DP b, .int .i64 most, v] w (MakesPost w A b m most snap s) := by
  have HD := Lib.hid h
  have hbl := h.blt
  have hml := h.mlt
  have HV := Lib.hid hv
  obtain ⟨av, cv, rfl, -⟩ := hv.open
  have HVA := Lib.hid hva
  clear h hv hva
  go_enter Tryz.func60, Tryz.ntmps60
  go_wp2_with fail
  have hs0 : (((((w.alloc (.cells #[DP b] 25)).alloc (.cells #[.int .i64 most] 3)).alloc (.cells #[.slice av snap.length cv] 24)).alloc (.cells #[.int .i64 0, .slice none 0 0, .int .i64 0] 82)).alloc (.cells #[.int .i64 most, .slice none 0 0, .int .i64 0] 82)).heap.size = w.heap.size + 5 := by simp
  have b0 : Below w.heap.size w (((((w.alloc (.cells #[DP b] 25)).alloc (.cells #[.int .i64 most] 3)).alloc (.cells #[.slice av snap.length cv] 24)).alloc (.cells #[.int .i64 0, .slice none 0 0, .int .i64 0] 82)).alloc (.cells #[.int .i64 most, .slice none 0 0, .int .i64 0] 82)) := by ((repeat' (first | (with_reducible exact Below.refl _ _) | (with_reducible refine Below.setCell ?_ ?_ _) | (with_reducible refine Below.alloc ?_ ?_ _) | (with_reducible refine Below.drew ?_) | (with_reducible refine Below.trans ?_ (Below.mono (by assumption) ?_)) | go_size)))
  have c1 : (((((w.alloc (.cells #[DP b] 25)).alloc (.cells #[.int .i64 most] 3)).alloc (.cells #[.slice av snap.length cv] 24)).alloc (.cells #[.int .i64 0, .slice none 0 0, .int .i64 0] 82)).alloc (.cells #[.int .i64 most, .slice none 0 0, .int .i64 0] 82)).cell? ⟨w.heap.size, 0, none⟩ = some (DP b) := by go_simp
  have c2 : (((((w.alloc (.cells #[DP b] 25)).alloc (.cells #[.int .i64 most] 3)).alloc (.cells #[.slice av snap.length cv] 24)).alloc (.cells #[.int .i64 0, .slice none 0 0, .int .i64 0] 82)).alloc (.cells #[.int .i64 most, .slice none 0 0, .int .i64 0] 82)).cell? ⟨w.heap.size + 1, 0, none⟩ = some (.int .i64 most) := by go_simp
  have c3 : (((((w.alloc (.cells #[DP b] 25)).alloc (.cells #[.int .i64 most] 3)).alloc (.cells #[.slice av snap.length cv] 24)).alloc (.cells #[.int .i64 0, .slice none 0 0, .int .i64 0] 82)).alloc (.cells #[.int .i64 most, .slice none 0 0, .int .i64 0] 82)).cell? ⟨w.heap.size + 2, 0, none⟩ = some (.slice av snap.length cv) := by go_simp
  have f3 : ∀ o, (((((w.alloc (.cells #[DP b] 25)).alloc (.cells #[.int .i64 most] 3)).alloc (.cells #[.slice av snap.length cv] 24)).alloc (.cells #[.int .i64 0, .slice none 0 0, .int .i64 0] 82)).alloc (.cells #[.int .i64 most, .slice none 0 0, .int .i64 0] 82)).frozen? ⟨w.heap.size + 3, o, none⟩ = false := fun o => by go_simp
  have r0 : (((((w.alloc (.cells #[DP b] 25)).alloc (.cells #[.int .i64 most] 3)).alloc (.cells #[.slice av snap.length cv] 24)).alloc (.cells #[.int .i64 0, .slice none 0 0, .int .i64 0] 82)).alloc (.cells #[.int .i64 most, .slice none 0 0, .int .i64 0] 82)).cell? ⟨w.heap.size + 3, 0, none⟩ = some (.int .i64 0) := by go_simp
  have r1 : (((((w.alloc (.cells #[DP b] 25)).alloc (.cells #[.int .i64 most] 3)).alloc (.cells #[.slice av snap.length cv] 24)).alloc (.cells #[.int .i64 0, .slice none 0 0, .int .i64 0] 82)).alloc (.cells #[.int .i64 most, .slice none 0 0, .int .i64 0] 82)).cell? ⟨w.heap.size + 3, 1, none⟩ = some (.slice none 0 0) := by go_simp
  have r2 : (((((w.alloc (.cells #[DP b] 25)).alloc (.cells #[.int .i64 most] 3)).alloc (.cells #[.slice av snap.length cv] 24)).alloc (.cells #[.int .i64 0, .slice none 0 0, .int .i64 0] 82)).alloc (.cells #[.int .i64 most, .slice none 0 0, .int .i64 0] 82)).cell? ⟨w.heap.size + 3, 2, none⟩ = some (.int .i64 0) := by go_simp
  have x0 : (((((w.alloc (.cells #[DP b] 25)).alloc (.cells #[.int .i64 most] 3)).alloc (.cells #[.slice av snap.length cv] 24)).alloc (.cells #[.int .i64 0, .slice none 0 0, .int .i64 0] 82)).alloc (.cells #[.int .i64 most, .slice none 0 0, .int .i64 0] 82)).cell? ⟨w.heap.size + 4, 0, none⟩ = some (.int .i64 most) := by go_simp
  have x1 : (((((w.alloc (.cells #[DP b] 25)).alloc (.cells #[.int .i64 most] 3)).alloc (.cells #[.slice av snap.length cv] 24)).alloc (.cells #[.int .i64 0, .slice none 0 0, .int .i64 0] 82)).alloc (.cells #[.int .i64 most, .slice none 0 0, .int .i64 0] 82)).cell? ⟨w.heap.size + 4, 1, none⟩ = some (.slice none 0 0) := by go_simp
  have x2 : (((((w.alloc (.cells #[DP b] 25)).alloc (.cells #[.int .i64 most] 3)).alloc (.cells #[.slice av snap.length cv] 24)).alloc (.cells #[.int .i64 0, .slice none 0 0, .int .i64 0] 82)).alloc (.cells #[.int .i64 most, .slice none 0 0, .int .i64 0] 82)).cell? ⟨w.heap.size + 4, 2, none⟩ = some (.int .i64 0) := by go_simp
  have fx : ∀ o, (((((w.alloc (.cells #[DP b] 25)).alloc (.cells #[.int .i64 most] 3)).alloc (.cells #[.slice av snap.length cv] 24)).alloc (.cells #[.int .i64 0, .slice none 0 0, .int .i64 0] 82)).alloc (.cells #[.int .i64 most, .slice none 0 0, .int .i64 0] 82)).frozen? ⟨w.heap.size + 4, o, none⟩ = false := fun o => by go_simp
  obtain ⟨W0, hW0⟩ : ∃ W, ((((w.alloc (.cells #[DP b] 25)).alloc (.cells #[.int .i64 most] 3)).alloc (.cells #[.slice av snap.length cv] 24)).alloc (.cells #[.int .i64 0, .slice none 0 0, .int .i64 0] 82)).alloc (.cells #[.int .i64 most, .slice none 0 0, .int .i64 0] 82) = W := ⟨_, rfl⟩
  rw [hW0] at hs0 b0 c1 c2 c3 f3 r0 r1 r2 x0 x1 x2 fx ⊢
  clear hW0
  have hA0 : ∀ a ∈ [w.heap.size + 4, w.heap.size + 3], w.heap.size ≤ a ∧ a < W0.heap.size := by intro a ha; simp at ha; omega
  have h0d := HD.out.more b0 hA0
  have hAl := HD.out.lt
  have hS0 : SaidIs W0 ([w.heap.size + 4, w.heap.size + 3] ++ A) (w.heap.size + 4) none most [] :=
    ⟨x0, ⟨_, x1, rfl, [], rfl, World.ownsRow_nil _ _ _ _, fun p hp => by cases hp⟩, x2, fx, by simp, fun k hk => by (cases hk), h0d.lt⟩
  have HD0 := Lib.hid h0d
  have HS0 := Lib.hid hS0
  clear h0d hS0 x0 x1 x2 fx
  refine (f_bytesClone _ snap _ (HV.out.grown b0) (by omega)).mono ?_
  rintro e w1 ⟨⟨v1, rfl, own1⟩, hb1⟩
  obtain ⟨p1, q1, k1, rfl, hp1⟩ := own_slice own1
  have HB1 := Lib.hid (Byt.of_owns own1 rfl)
  have HP1 := Lib.hid hp1
  have s1 := hb1.size
  have HQ1 := Lib.hid (own_slice own1)
  have en1 : q1 = snap.length := by
    obtain ⟨a, c, e, -⟩ := (Byt.of_owns own1 rfl).open
    simp only [Value.slice.injEq] at e
    exact e.2.1
  subst en1
  clear own1 hp1 HQ1
  go_wp2_with fail
  have hS1 := HS0.out.below hb1
  refine (f_wadds hS1 (by simp [costL]) _ snap HB1.out (by omega) (fun ad n c e => by
    simp only [Value.slice.injEq] at e
    have h9 := HP1.out ad e.1
    refine ⟨h9.2, fun hc => ?_⟩
    rcases List.mem_append.1 hc with h8 | h8
    · simp at h8; omega
    · have := hAl _ h8; omega)).mono ?_
  rintro e w2 ⟨rfl, A1, g1, hA1, hg1, hS2, t2, -⟩
  have hd2 : Disk w2 A1 b m s := (HD0.out.below hb1).ext t2 (fun a ha => by simp at ha; subst ha; simp) (by simp; omega) (by simp; omega) hA1 hS2.lt
  have s2 := t2.size
  rw [List.nil_append] at hS2
  have d1 : w2.cell? ⟨w.heap.size, 0, none⟩ = some (DP b) := ((t2.cell (p := ⟨w.heap.size, 0, none⟩) (by dsimp; omega) (by simp)).trans (hb1.cell (p := ⟨w.heap.size, 0, none⟩) (by dsimp; omega))).trans c1
  have d2 : w2.cell? ⟨w.heap.size + 1, 0, none⟩ = some (.int .i64 most) := ((t2.cell (p := ⟨w.heap.size + 1, 0, none⟩) (by dsimp; omega) (by simp)).trans (hb1.cell (p := ⟨w.heap.size + 1, 0, none⟩) (by dsimp; omega))).trans c2
  have d3 : w2.cell? ⟨w.heap.size + 2, 0, none⟩ = some (.slice av snap.length cv) := ((t2.cell (p := ⟨w.heap.size + 2, 0, none⟩) (by dsimp; omega) (by simp)).trans (hb1.cell (p := ⟨w.heap.size + 2, 0, none⟩) (by dsimp; omega))).trans c3
  have hres : ∀ o, w2.cell? ⟨w.heap.size + 3, o, none⟩ = W0.cell? ⟨w.heap.size + 3, o, none⟩ := fun o => (t2.cell (p := ⟨w.heap.size + 3, o, none⟩) (by dsimp; omega) (by simp)).trans (hb1.cell (p := ⟨w.heap.size + 3, o, none⟩) (by dsimp; omega))
  have hresf : ∀ o, w2.frozen? ⟨w.heap.size + 3, o, none⟩ = false := fun o => ((t2.frozen (p := ⟨w.heap.size + 3, o, none⟩) (by dsimp; omega) (by simp)).trans (hb1.frozen (p := ⟨w.heap.size + 3, o, none⟩) (by dsimp; omega))).trans (f3 o)
  have hbw2 : Below w.heap.size w w2 := (b0.trans (hb1.mono (by omega))).trans (t2.below (by omega) (fun a ha => by simp at ha; omega))
  have e0 := (hres 0).trans r0
  have e1 := (hres 1).trans r1
  have e2 := (hres 2).trans r2
  have HRF := Lib.hid hresf
  have HA1 := Lib.hid hA1
  have HG1 := Lib.hid hg1
  have HS2 := Lib.hid hS2
  have HD2 := Lib.hid hd2
  have HV2 := Lib.hid (HV.out.grown hbw2)
  clear hS1 t2 hS2 hd2 c1 c2 c3 r0 r1 r2 f3 hres hresf hA1 hg1 hb1
  go_wp2_with (go_at_call 46; refine (f_rids b 1 _).mono ?_; rintro e w' ⟨rfl, rfl⟩)
  have s3 : (((w2.alloc (.cells #[DP b] 25)).alloc (.cells #[.int .i64 1] 3)).alloc (.cells #[.func (.func 86) #[] #[SP w2.heap.size, SP (w2.heap.size + 1)], .func (.func 94) #[] #[SP w.heap.size, SP (w.heap.size + 1), SP (w.heap.size + 1 + 1)], .func (.func 95) #[] #[SP w.heap.size], .func (.func 96) #[] #[SP w.heap.size]] 73)).heap.size = w2.heap.size + 3 := by simp
  have b3 : Below w2.heap.size w2 (((w2.alloc (.cells #[DP b] 25)).alloc (.cells #[.int .i64 1] 3)).alloc (.cells #[.func (.func 86) #[] #[SP w2.heap.size, SP (w2.heap.size + 1)], .func (.func 94) #[] #[SP w.heap.size, SP (w.heap.size + 1), SP (w.heap.size + 1 + 1)], .func (.func 95) #[] #[SP w.heap.size], .func (.func 96) #[] #[SP w.heap.size]] 73)) := by ((repeat' (first | (with_reducible exact Below.refl _ _) | (with_reducible refine Below.setCell ?_ ?_ _) | (with_reducible refine Below.alloc ?_ ?_ _) | (with_reducible refine Below.drew ?_) | (with_reducible refine Below.trans ?_ (Below.mono (by assumption) ?_)) | go_size)))
  have k1' : (((w2.alloc (.cells #[DP b] 25)).alloc (.cells #[.int .i64 1] 3)).alloc (.cells #[.func (.func 86) #[] #[SP w2.heap.size, SP (w2.heap.size + 1)], .func (.func 94) #[] #[SP w.heap.size, SP (w.heap.size + 1), SP (w.heap.size + 1 + 1)], .func (.func 95) #[] #[SP w.heap.size], .func (.func 96) #[] #[SP w.heap.size]] 73)).cell? ⟨w2.heap.size, 0, none⟩ = some (DP b) := by go_simp
  have k2' : (((w2.alloc (.cells #[DP b] 25)).alloc (.cells #[.int .i64 1] 3)).alloc (.cells #[.func (.func 86) #[] #[SP w2.heap.size, SP (w2.heap.size + 1)], .func (.func 94) #[] #[SP w.heap.size, SP (w.heap.size + 1), SP (w.heap.size + 1 + 1)], .func (.func 95) #[] #[SP w.heap.size], .func (.func 96) #[] #[SP w.heap.size]] 73)).cell? ⟨w2.heap.size + 1, 0, none⟩ = some (.int .i64 1) := by go_simp
  have hsl : Sl (((w2.alloc (.cells #[DP b] 25)).alloc (.cells #[.int .i64 1] 3)).alloc (.cells #[.func (.func 86) #[] #[SP w2.heap.size, SP (w2.heap.size + 1)], .func (.func 94) #[] #[SP w.heap.size, SP (w.heap.size + 1), SP (w.heap.size + 1 + 1)], .func (.func 95) #[] #[SP w.heap.size], .func (.func 96) #[] #[SP w.heap.size]] 73)) (.slice (some ⟨w2.heap.size + 2, 0, none⟩) 4 4) 4 [.func (.func 86) #[] #[SP w2.heap.size, SP (w2.heap.size + 1)], .func (.func 94) #[] #[SP w.heap.size, SP (w.heap.size + 1), SP (w.heap.size + 2)], .func (.func 95) #[] #[SP w.heap.size], .func (.func 96) #[] #[SP w.heap.size]] := Sl.fresh _ _ 4 _ (by simp) (by omega)
  obtain ⟨W3, hW3⟩ : ∃ W, ((w2.alloc (.cells #[DP b] 25)).alloc (.cells #[.int .i64 1] 3)).alloc (.cells #[.func (.func 86) #[] #[SP w2.heap.size, SP (w2.heap.size + 1)], .func (.func 94) #[] #[SP w.heap.size, SP (w.heap.size + 1), SP (w.heap.size + 1 + 1)], .func (.func 95) #[] #[SP w.heap.size], .func (.func 96) #[] #[SP w.heap.size]] 73) = W := ⟨_, rfl⟩
  rw [hW3] at s3 b3 k1' k2' hsl ⊢
  clear hW3
  have hD3 := HD2.out.below b3
  have HD3 := Lib.hid hD3
  have ndb : ∀ x, w.heap.size ≤ x → x ∉ [b, m] := fun x hx => by simp; omega
  have cellW : ∀ (W : World), Tw W3.heap.size [b, m] W3 W → ∀ x, w.heap.size ≤ x → x < w2.heap.size → ∀ o, W.cell? ⟨x, o, none⟩ = w2.cell? ⟨x, o, none⟩ := fun W ht x hx hx2 o =>
    (ht.cell (p := ⟨x, o, none⟩) (by dsimp; omega) (ndb x hx)).trans (b3.cell (p := ⟨x, o, none⟩) hx2)
  have BV3 := Lib.hid (fun (W : World) (ht : Tw W3.heap.size [b, m] W3 W) => (show Byt W (.slice av snap.length cv) snap from
    ((HV2.out.grown b3).turn (ht.size) (fun ad n c e => ht.block _ (by have := (HVA.out ad n c e).1; omega) (by have := (HVA.out ad n c e).2; simp; omega)))))
  have D0 : DoesR W3 A1 b m (.func (.func 86) #[] #[SP w2.heap.size, SP (w2.heap.size + 1)]) (ridsR 1) :=
    ⟨_, _, rfl, fun _ _ => rfl, ridsR_good 1, fun W s hD hok hop ht => f_rids1 hD hok (by omega) 1 (w64 (by omega) (by omega)) (by omega) _ _ ((ht.cell (p := ⟨w2.heap.size, 0, none⟩) (by dsimp; omega) (ndb w2.heap.size (by omega))).trans k1') ((ht.cell (p := ⟨w2.heap.size + 1, 0, none⟩) (by dsimp; omega) (ndb (w2.heap.size + 1) (by omega))).trans k2')⟩
  have D1 : DoesR W3 A1 b m (.func (.func 94) #[] #[SP w.heap.size, SP (w.heap.size + 1), SP (w.heap.size + 2)]) (appR 1 (headB most ++ framB 0 snap)) :=
    ⟨_, _, rfl, fun _ _ => rfl, appR_good 1 (headB_byte.app (framB_byte hb)), fun W s hD hok hop ht => f_makes1 hD hok (by omega) most h0 h1 _ snap (BV3.out W ht) hn hb _ _ _ ((cellW W ht _ (by omega) (by omega) 0).trans d1) ((cellW W ht _ (by omega) (by omega) 0).trans d2) ((cellW W ht _ (by omega) (by omega) 0).trans d3) (ndb _ (by omega)) (ndb _ (by omega)) (ndb _ (by omega))⟩
  have D2 : DoesR W3 A1 b m (.func (.func 95) #[] #[SP w.heap.size]) (syncR 1) :=
    ⟨_, _, rfl, fun _ _ => rfl, syncR_good 1, fun W s hD hok hop ht => f_makes2 hD hok (by omega) _ ((cellW W ht _ (by omega) (by omega) 0).trans d1)⟩
  have D3 : DoesR W3 A1 b m (.func (.func 96) #[] #[SP w.heap.size]) (renR 1 0) :=
    ⟨_, _, rfl, fun _ _ => rfl, renR_good 1 0, fun W s hD hok hop ht => f_makes3 hD hok (by omega) _ ((cellW W ht _ (by omega) (by omega) 0).trans d1)⟩
  refine (f_inRow hD3 hok (by omega) _ [.func (.func 86) #[] #[SP w2.heap.size, SP (w2.heap.size + 1)], .func (.func 94) #[] #[SP w.heap.size, SP (w.heap.size + 1), SP (w.heap.size + 2)], .func (.func 95) #[] #[SP w.heap.size], .func (.func 96) #[] #[SP w.heap.size]] [ridsR 1, appR 1 (headB most ++ framB 0 snap), syncR 1, renR 1 0] rfl (show (4 : Nat) ≤ 100 by decide) hsl (fun ad n c e => by
    simp only [Value.slice.injEq, Option.some.injEq] at e
    rw [← e.1]; dsimp only; omega) (fun i h1 h2 => by
      match i, h1, h2 with
      | 0, _, _ => exact D0
      | 1, _, _ => exact D1
      | 2, _, _ => exact D2
      | 3, _, _ => exact D3)).mono ?_
  rintro e w4 ⟨rfl, hD4, t4⟩
  have s4 := t4.size
  have hg1n : ∀ k, g1 = some k → w1.heap.size ≤ k := fun k hk => by
    rcases HG1.out with h9 | ⟨k', h9, h8⟩
    · rw [h9] at hk; cases hk
    · rw [h9] at hk; cases hk; exact h8
  have hS4 : SaidIs w4 A1 (w.heap.size + 4) g1 most [snap] := (HS2.out.below b3).tw t4 (fun a ha => by simp at ha; rcases ha with rfl | rfl; exact hD3.hb; exact hD3.hm) (ndb _ (by omega)) (fun k hk => ndb _ (by have := hg1n k hk; omega))
  obtain ⟨vr, y1, hrow⟩ := hS4.rowIs
  have y0 := hS4.c0
  have y2 := hS4.c2
  obtain ⟨ar, kr, rfl, -⟩ := hrow.slice
  have HRW := Lib.hid hrow
  have HD4 := Lib.hid hD4
  have HG1N := Lib.hid hg1n
  have z0 := (cellW w4 t4 (w.heap.size + 3) (by omega) (by omega) 0).trans e0
  have z1 := (cellW w4 t4 (w.heap.size + 3) (by omega) (by omega) 1).trans e1
  have z2 := (cellW w4 t4 (w.heap.size + 3) (by omega) (by omega) 2).trans e2
  have zf : ∀ o, w4.frozen? ⟨w.heap.size + 3, o, none⟩ = false := fun o => (t4.frozen (p := ⟨w.heap.size + 3, o, none⟩) (by dsimp; omega) (ndb (w.heap.size + 3) (by omega))).trans ((b3.frozen (p := ⟨w.heap.size + 3, o, none⟩) (by dsimp; omega)).trans (HRF.out o))
  have zf0 := zf 0
  have zf1 := zf 1
  have zf2 := zf 2
  have T4 := Lib.hid ((Tw.of_below (hbw2.trans (b3.mono (by omega))) : Tw w.heap.size [b, m] w W3).trans (t4.mono (n' := w.heap.size) (L' := [b, m]) (by omega) (fun a ha => .inl ha)))
  have hl4 : w.heap.size + 3 < w4.heap.size := by omega
  obtain ⟨cst, hcst⟩ : ∃ c : Nat, costL [snap] = c := ⟨_, rfl⟩
  have HCS := Lib.hid hcst
  rw [hcst] at y2
  clear hsl D0 D1 D2 D3 BV3 cellW k1' k2' b3 hD3 hD4 hS4 hrow hg1n t4 e0 e1 e2 zf d1 d2 d3 hcst
  go_wp2
  have t5 : Tw w4.heap.size [w.heap.size + 3] w4 (((w4.setCell ⟨w.heap.size + 3, 0, none⟩ (.int .i64 most)).setCell ⟨w.heap.size + 3, 1, none⟩ (.slice ar [snap].length kr)).setCell ⟨w.heap.size + 3, 2, none⟩ (.int .i64 cst)) := (((Tw.refl _ _ _).setCell (.inl (by simp)) _ _).setCell (.inl (by simp)) _ _).setCell (.inl (by simp)) _ _
  have hs5 := t5.size
  have hAl4 := HD4.out.lt
  have h3A : w.heap.size + 3 ∈ A1 := HA1.out.1 _ (by simp)
  refine bodyPost_ret (v := .tuple #[.agg #[.int .i64 most, .slice ar [snap].length kr, .int .i64 cst], .int .i64 (makesR most snap s).1]) (by simp only [results, Tryz.results60]; go_simp; rfl) rfl ?_
  refine ⟨.slice ar [snap].length kr, A1, g1, by rw [HCS.out], ?_, HG1.out.mono (by omega), ?_, ?_, ?_⟩
  · refine ⟨fun a ha => HA1.out.1 a (List.mem_append_right _ ha), fun a ha => ?_⟩
    rcases HA1.out.2 a ha with h9 | h9
    · rcases List.mem_append.1 h9 with h8 | h8
      · exact .inr (by simp at h8; omega)
      · exact .inl h8
    · exact .inr (by omega)
  · exact HRW.out.turn hs5 (Ext.refl _ _) (fun k hk hkA => t5.block k hk (fun e => hkA (by simp at e; rw [e]; exact h3A))) (fun k hk => t5.block k (hAl4 _ (HRW.out.2.1 k hk)) (by have := HG1N.out k hk; simp; omega))
  · exact HD4.out.tw t5 (fun a ha => by simp at ha; rw [ha]; exact h3A) (by simp; omega) (by simp; omega)
  · exact T4.out.trans (t5.mono (by omega) (fun a ha => .inr (by simp at ha; omega)))
end
end Go.Proofs.YtkekidjjmcmjhaaGreat
