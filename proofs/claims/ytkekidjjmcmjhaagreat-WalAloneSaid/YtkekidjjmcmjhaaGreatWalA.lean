/- wal.Append. -/
import Derived.Test.YtkekidjjmcmjhaaGreatWalI
namespace Go.Proofs.YtkekidjjmcmjhaaGreat
open Go.RowKit
set_option maxRecDepth 100000
attribute [local irreducible] Der

def askedE (ws : WS) (n : Nat) : Int := if ws.broken then 8 else if 16000 < n then 3 else 0
def wappR (ws : WS) (bs : List Int) : DR := inRowS [appR 0 (framB ws.parts.length bs), syncR 0]
def wappE (ws : WS) (s : DS) (bs : List Int) : Int := if askedE ws bs.length ≠ 0 then askedE ws bs.length else if fitB ws.most ws.parts bs.length = false then 6 else (wappR ws bs s).1
def wappW (ws : WS) (s : DS) (bs : List Int) : WS := if askedE ws bs.length ≠ 0 then ws else if fitB ws.most ws.parts bs.length = false then ws else if (wappR ws bs s).1 = 0 then ⟨ws.most, ws.parts ++ [bs], false⟩ else ⟨ws.most, ws.parts, true⟩
def wappS (ws : WS) (s : DS) (bs : List Int) : DS := if askedE ws bs.length ≠ 0 then s else if fitB ws.most ws.parts bs.length = false then s else (wappR ws bs s).2

section
variable {w w' : World} {A A' : List Nat} {q b m : Nat} {g : Option Nat} {most : Int} {parts : List (List Int)} {s : DS} {ws : WS}

theorem f_asked (h : WalIs w A b m q g ws s) (a : Option Addr) (n c : Nat) (hn : n ≤ 1000000) : Calls Tryz.prog 54 #[SP q, .slice a n c] w fun e w' => e = .returned (.int .i64 (askedE ws n)) ∧ Below w.heap.size w w' := by
  have c4 := h.c4
  have hE : askedE ws n = if ws.broken then 8 else if 16000 < n then 3 else 0 := rfl
  obtain ⟨E, hEE⟩ : ∃ E, askedE ws n = E := ⟨_, rfl⟩
  rw [hEE] at hE ⊢
  obtain ⟨br, hbr⟩ : ∃ br, ws.broken = br := ⟨_, rfl⟩
  rw [hbr] at hE c4
  clear h hEE hbr
  cases br
  · rw [if_neg (by decide)] at hE
    by_cases hl : 16000 < n
    · rw [if_pos hl] at hE
      subst hE
      go_enter Tryz.func54, Tryz.ntmps54
      go_wp2
      go_ret
      exact ⟨rfl, Below.refl _ _⟩
    · rw [if_neg hl] at hE
      subst hE
      have hl2 : ¬ (16000 < n) := hl
      go_enter Tryz.func54, Tryz.ntmps54
      go_wp2
      go_ret
      exact ⟨rfl, Below.refl _ _⟩
  · rw [if_pos rfl] at hE
    subst hE
    go_enter Tryz.func54, Tryz.ntmps54
    go_wp2
    go_ret
    exact ⟨rfl, Below.refl _ _⟩

set_option maxHeartbeats 4000000 in
theorem f_App1 (h : Disk w A b m s) (hok : s.Ok) (hop : s.ops < 1000000) (v : Value) (bs : List Int) (hv : Byt w v bs) (hn : bs.length ≤ 90000) (hb : Byte bs) (r1 r2 n : Nat) (hn1 : n ≤ 1000000) (a : Option Addr) (c : Nat)
    (k1 : w.cell? ⟨r1, 0, none⟩ = some (SP q)) (k2 : w.cell? ⟨r2, 0, none⟩ = some v) (k3 : w.cell? ⟨q, 3, none⟩ = some (DP b)) (k4 : w.cell? ⟨q, 1, none⟩ = some (.slice a n c)) (n1 : r1 ∉ [b, m]) (n2 : r2 ∉ [b, m]) (n3 : q ∉ [b, m]) :
    Calls Tryz.prog 56 #[SP r1, SP r2] w fun e w' => e = .returned (.int .i64 (appR 0 (framB n bs) s).1) ∧ Disk w' A b m (appR 0 (framB n bs) s).2 ∧ Tw w.heap.size [b, m] w w' := by
  have HD := Lib.hid h
  have hbl := h.blt
  have hml := h.mlt
  have HV := Lib.hid hv
  obtain ⟨av, cv, rfl, -⟩ := hv.open
  have z1 := World.block_lt_of_cell? w _ k1
  have z2 := World.block_lt_of_cell? w _ k2
  have z3 := World.block_lt_of_cell? w _ k3
  dsimp only at z1 z2 z3
  have HL2 := Lib.hid (framB_len n bs)
  have e1 : (appR 0 (framB n bs) s).1 = appendE s 0 (framB n bs) := rfl
  have e2 : (appR 0 (framB n bs) s).2 = appendS s 0 (framB n bs) := rfl
  rw [e1, e2]
  clear h hv e1 e2
  go_enter Tryz.func56, Tryz.ntmps56
  go_wp2_with fail
  refine wp_region_held_drew (S := fun W => Tw w.heap.size [b, m] w W) (by kernel_rfl) (Tw.of_below ((Below.refl _ _).drew)) (fun hHeld => ?_)
  refine wpAnyH_take (i := 0) (v := ?_) rfl (by kernel_rfl) (by kernel_rfl) (by kernel_rfl) (fun _ _ _ h => h) (Or.inl ⟨by rfl, ?_⟩) (by assumption) ?_
  rotate_left
  · (intro wS hSw; have y1 := (hSw.cell (p := ⟨r1, 0, none⟩) z1 n1).trans k1; have y2 := (hSw.cell (p := ⟨r2, 0, none⟩) z2 n2).trans k2; have y3 := (hSw.cell (p := ⟨q, 3, none⟩) z3 n3).trans k3; have y4 := (hSw.cell (p := ⟨q, 1, none⟩) z3 n3).trans k4; (try dsimp only at hSw); (try go_simp); first | done | with_reducible rfl | rfl)
  simp only [Act.put, List.setIfInBounds_toArray, List.set_cons_succ, List.set_cons_zero, Nat.reduceAdd]
  refine wpAnyH_take (i := 1) (v := ?_) rfl (by kernel_rfl) (by kernel_rfl) (by kernel_rfl) (fun _ _ _ h => h) (Or.inl ⟨by rfl, ?_⟩) (by assumption) ?_
  rotate_left
  · (intro wS hSw; have y1 := (hSw.cell (p := ⟨r1, 0, none⟩) z1 n1).trans k1; have y2 := (hSw.cell (p := ⟨r2, 0, none⟩) z2 n2).trans k2; have y3 := (hSw.cell (p := ⟨q, 3, none⟩) z3 n3).trans k3; have y4 := (hSw.cell (p := ⟨q, 1, none⟩) z3 n3).trans k4; (try dsimp only at hSw); (try go_simp); first | done | with_reducible rfl | rfl)
  simp only [Act.put, List.setIfInBounds_toArray, List.set_cons_succ, List.set_cons_zero, Nat.reduceAdd]
  refine wpAnyH_take (i := 2) (v := ?_) rfl (by kernel_rfl) (by kernel_rfl) (by kernel_rfl) (fun _ _ _ h => h) (Or.inl ⟨by rfl, ?_⟩) (by assumption) ?_
  rotate_left
  · (intro wS hSw; have y1 := (hSw.cell (p := ⟨r1, 0, none⟩) z1 n1).trans k1; have y2 := (hSw.cell (p := ⟨r2, 0, none⟩) z2 n2).trans k2; have y3 := (hSw.cell (p := ⟨q, 3, none⟩) z3 n3).trans k3; have y4 := (hSw.cell (p := ⟨q, 1, none⟩) z3 n3).trans k4; (try dsimp only at hSw); (try go_simp); first | done | with_reducible rfl | rfl)
  simp only [Act.put, List.setIfInBounds_toArray, List.set_cons_succ, List.set_cons_zero, Nat.reduceAdd]
  refine wpAnyH_take (i := 3) (v := ?_) rfl (by kernel_rfl) (by kernel_rfl) (by kernel_rfl) (fun _ _ _ h => h) (Or.inl ⟨by rfl, ?_⟩) (by assumption) ?_
  rotate_left
  · (intro wS hSw; have y1 := (hSw.cell (p := ⟨r1, 0, none⟩) z1 n1).trans k1; have y2 := (hSw.cell (p := ⟨r2, 0, none⟩) z2 n2).trans k2; have y3 := (hSw.cell (p := ⟨q, 3, none⟩) z3 n3).trans k3; have y4 := (hSw.cell (p := ⟨q, 1, none⟩) z3 n3).trans k4; (try dsimp only at hSw); (try go_simp); first | done | with_reducible rfl | rfl)
  simp only [Act.put, List.setIfInBounds_toArray, List.set_cons_succ, List.set_cons_zero, Nat.reduceAdd]
  refine wpAnyH_take (i := 4) (v := ?_) rfl (by kernel_rfl) (by kernel_rfl) (by kernel_rfl) (fun _ _ _ h => h) (Or.inl ⟨by rfl, ?_⟩) (by assumption) ?_
  rotate_left
  · (intro wS hSw; have y1 := (hSw.cell (p := ⟨r1, 0, none⟩) z1 n1).trans k1; have y2 := (hSw.cell (p := ⟨r2, 0, none⟩) z2 n2).trans k2; have y3 := (hSw.cell (p := ⟨q, 3, none⟩) z3 n3).trans k3; have y4 := (hSw.cell (p := ⟨q, 1, none⟩) z3 n3).trans k4; (try dsimp only at hSw); (try go_simp); first | done | with_reducible rfl | rfl)
  simp only [Act.put, List.setIfInBounds_toArray, List.set_cons_succ, List.set_cons_zero, Nat.reduceAdd]
  refine wpAnyH_take (i := 5) (v := ?_) rfl (by kernel_rfl) (by kernel_rfl) (by kernel_rfl) (fun _ _ _ h => h) (Or.inl ⟨by rfl, ?_⟩) (by assumption) ?_
  rotate_left
  · (intro wS hSw; have y1 := (hSw.cell (p := ⟨r1, 0, none⟩) z1 n1).trans k1; have y2 := (hSw.cell (p := ⟨r2, 0, none⟩) z2 n2).trans k2; have y3 := (hSw.cell (p := ⟨q, 3, none⟩) z3 n3).trans k3; have y4 := (hSw.cell (p := ⟨q, 1, none⟩) z3 n3).trans k4; (try dsimp only at hSw); (try go_simp); first | done | with_reducible rfl | rfl)
  simp only [Act.put, List.setIfInBounds_toArray, List.set_cons_succ, List.set_cons_zero, Nat.reduceAdd]
  refine wpAnyH_take (i := 6) (v := ?_) rfl (by kernel_rfl) (by kernel_rfl) (by kernel_rfl) (fun _ _ _ h => h) (Or.inl ⟨by rfl, ?_⟩) (by assumption) ?_
  rotate_left
  · (intro wS hSw; have y1 := (hSw.cell (p := ⟨r1, 0, none⟩) z1 n1).trans k1; have y2 := (hSw.cell (p := ⟨r2, 0, none⟩) z2 n2).trans k2; have y3 := (hSw.cell (p := ⟨q, 3, none⟩) z3 n3).trans k3; have y4 := (hSw.cell (p := ⟨q, 1, none⟩) z3 n3).trans k4; (try dsimp only at hSw); (try go_simp); first | done | with_reducible rfl | rfl)
  simp only [Act.put, List.setIfInBounds_toArray, List.set_cons_succ, List.set_cons_zero, Nat.reduceAdd]
  refine wpAnyH_take (i := 7) (v := ?_) rfl (by kernel_rfl) (by kernel_rfl) (by kernel_rfl) (fun _ _ _ h => h) (Or.inl ⟨by rfl, ?_⟩) (by assumption) ?_
  rotate_left
  · (intro wS hSw; have y1 := (hSw.cell (p := ⟨r1, 0, none⟩) z1 n1).trans k1; have y2 := (hSw.cell (p := ⟨r2, 0, none⟩) z2 n2).trans k2; have y3 := (hSw.cell (p := ⟨q, 3, none⟩) z3 n3).trans k3; have y4 := (hSw.cell (p := ⟨q, 1, none⟩) z3 n3).trans k4; (try dsimp only at hSw); (try go_simp); first | done | with_reducible rfl | rfl)
  simp only [Act.put, List.setIfInBounds_toArray, List.set_cons_succ, List.set_cons_zero, Nat.reduceAdd]
  refine wpAnyH_take (i := 8) (v := ?_) rfl (by kernel_rfl) (by kernel_rfl) (by kernel_rfl) (fun _ _ _ h => h) (Or.inl ⟨by rfl, ?_⟩) (by assumption) ?_
  rotate_left
  · (intro wS hSw; have y1 := (hSw.cell (p := ⟨r1, 0, none⟩) z1 n1).trans k1; have y2 := (hSw.cell (p := ⟨r2, 0, none⟩) z2 n2).trans k2; have y3 := (hSw.cell (p := ⟨q, 3, none⟩) z3 n3).trans k3; have y4 := (hSw.cell (p := ⟨q, 1, none⟩) z3 n3).trans k4; (try dsimp only at hSw); (try go_simp); first | done | with_reducible rfl | rfl)
  simp only [Act.put, List.setIfInBounds_toArray, List.set_cons_succ, List.set_cons_zero, Nat.reduceAdd]
  refine wpAnyH_take (i := 9) (v := ?_) rfl (by kernel_rfl) (by kernel_rfl) (by kernel_rfl) (fun _ _ _ h => h) (Or.inl ⟨by rfl, ?_⟩) (by assumption) ?_
  rotate_left
  · (intro wS hSw; have y1 := (hSw.cell (p := ⟨r1, 0, none⟩) z1 n1).trans k1; have y2 := (hSw.cell (p := ⟨r2, 0, none⟩) z2 n2).trans k2; have y3 := (hSw.cell (p := ⟨q, 3, none⟩) z3 n3).trans k3; have y4 := (hSw.cell (p := ⟨q, 1, none⟩) z3 n3).trans k4; (try dsimp only at hSw); (try go_simp); first | done | with_reducible rfl | rfl)
  simp only [Act.put, List.setIfInBounds_toArray, List.set_cons_succ, List.set_cons_zero, Nat.reduceAdd]
  refine wpAnyH_take (i := 10) (v := ?_) rfl (by kernel_rfl) (by kernel_rfl) (by kernel_rfl) (fun _ _ _ h => h) (Or.inl ⟨by rfl, ?_⟩) (by assumption) ?_
  rotate_left
  · (intro wS hSw; have y1 := (hSw.cell (p := ⟨r1, 0, none⟩) z1 n1).trans k1; have y2 := (hSw.cell (p := ⟨r2, 0, none⟩) z2 n2).trans k2; have y3 := (hSw.cell (p := ⟨q, 3, none⟩) z3 n3).trans k3; have y4 := (hSw.cell (p := ⟨q, 1, none⟩) z3 n3).trans k4; (try dsimp only at hSw); (try go_simp); first | done | with_reducible rfl | rfl)
  simp only [Act.put, List.setIfInBounds_toArray, List.set_cons_succ, List.set_cons_zero, Nat.reduceAdd]
  refine wpAnyH_ready (rs := [11]) (by kernel_rfl) (by simp) (AllReadyH.cons rfl (fun K hK => ?_) AllReadyH.nil)
  go_simp
  refine (f_frame n _ bs _ (HV.out.grown ((Below.refl _ _).drew)) hn hn1 hb).mono ?_
  rintro e w3 ⟨⟨v3, rfl, own3⟩, hb3⟩
  have b3 : Below w.heap.size w w3 := (Below.refl _ _).drew.trans hb3
  obtain ⟨p3, q3, c3, rfl, hp3⟩ := own_slice own3
  have HB3 := Lib.hid (Byt.of_owns own3 rfl)
  have HP3 := Lib.hid hp3
  clear own3 hp3
  go_wp2_with fail
  refine hK.out _ _ (Tw.of_below b3) (fun hHeld => ?_)
  clear hK K
  refine wpAnyH_ready (rs := [12]) (by kernel_rfl) (by simp) (AllReadyH.cons rfl (fun K hK => ?_) AllReadyH.nil)
  go_simp
  refine (f_Append (HD.out.below b3) hok hop 0 (w64 (by omega) (by omega)) _ (framB n bs) HB3.out (by rw [HL2.out]; omega) (fun ad n c e => by
    simp only [Value.slice.injEq] at e
    have := HP3.out ad e.1
    simp at this
    omega)).mono ?_
  rintro e w5 ⟨rfl, h5, t5⟩
  have H5 := Lib.hid h5
  have t5a : Tw w.heap.size [b, m] w w5 := (Tw.of_below b3).trans (t5.mono b3.size (fun a ha => .inl ha))
  clear h5
  go_wp2_with fail
  refine hK.out _ _ (t5a) (fun hHeld => ?_)
  clear hK K
  refine wpAnyH_ready (rs := [13]) (by kernel_rfl) (by simp) (AllReadyH.cons rfl (fun K hK => ?_) AllReadyH.nil)
  go_simp
  refine hK.out _ _ (t5a) (fun hHeld => ?_)
  clear hK K
  refine wpAnyH_done (by kernel_rfl) ?_ _
  go_wp2
  go_ret
  exact ⟨rfl, H5.out, t5a⟩

theorem f_App2 (h : Disk w A b m s) (hok : s.Ok) (hop : s.ops < 1000000) (r1 : Nat) (k1 : w.cell? ⟨r1, 0, none⟩ = some (SP q)) (k3 : w.cell? ⟨q, 3, none⟩ = some (DP b)) :
    Calls Tryz.prog 58 #[SP r1] w fun e w' => e = .returned (.int .i64 (syncR 0 s).1) ∧ Disk w' A b m (syncR 0 s).2 ∧ Tw w.heap.size [b, m] w w' := by
  have HD := Lib.hid h
  clear h
  go_enter Tryz.func58, Tryz.ntmps58
  go_wp2_with (go_at_call 10; refine (f_Sync HD.out hok hop 0 (w64 (by omega) (by omega))).mono ?_; rintro e w2 ⟨rfl, h2, t2⟩; replace h2 := Lib.hid h2)
  go_ret
  exact ⟨rfl, h2.out, t2⟩

def WapPost (w : World) (A : List Nat) (b m q : Nat) (g : Option Nat) (E : Int) (ws' : WS) (s' : DS) (e : Ending) (w' : World) : Prop :=
  e = .returned (.int .i64 E) ∧ ∃ A' g', Ext w.heap.size A A' ∧ GNew w.heap.size g g' ∧ WalIs w' A' b m q g' ws' s' ∧ Tw w.heap.size (b :: m :: q :: g.toList) w w'

set_option maxHeartbeats 4000000 in
theorem f_WalAppend (h : WalIs w A b m q g ws s) (hok : s.Ok) (hop : s.ops < 900000) (hc : costL ws.parts ≤ 900000) (v : Value) (bs : List Int) (hv : Byt w v bs) (hn : bs.length ≤ 90000) (hb : Byte bs) (hva : ∀ ad n c, v = .slice (some ad) n c → ad.block < w.heap.size ∧ ad.block ≠ b ∧ ad.block ≠ m ∧ ad.block ≠ q) :
    Calls Tryz.prog 21 #[SP q, v] w (WapPost w A b m q g (wappE ws s bs) (wappW ws s bs) (wappS ws s bs)) := by
  have HH := Lib.hid h
  have HV := Lib.hid hv
  have HVA := Lib.hid hva
  obtain ⟨av, cv, rfl, -⟩ := hv.open
  have hql := h.said.blt
  have hpl : ws.parts.length ≤ 1000000 := by have := costL_len ws.parts; omega
  have hE : wappE ws s bs = if askedE ws bs.length ≠ 0 then askedE ws bs.length else if fitB ws.most ws.parts bs.length = false then 6 else (wappR ws bs s).1 := rfl
  have hW : wappW ws s bs = if askedE ws bs.length ≠ 0 then ws else if fitB ws.most ws.parts bs.length = false then ws else if (wappR ws bs s).1 = 0 then ⟨ws.most, ws.parts ++ [bs], false⟩ else ⟨ws.most, ws.parts, true⟩ := rfl
  have hS : wappS ws s bs = if askedE ws bs.length ≠ 0 then s else if fitB ws.most ws.parts bs.length = false then s else (wappR ws bs s).2 := rfl
  obtain ⟨E, hE0⟩ : ∃ x, wappE ws s bs = x := ⟨_, rfl⟩
  obtain ⟨W', hW0⟩ : ∃ x, wappW ws s bs = x := ⟨_, rfl⟩
  obtain ⟨S', hS0⟩ : ∃ x, wappS ws s bs = x := ⟨_, rfl⟩
  rw [hE0, hW0, hS0]
  rw [hE0] at hE
  rw [hW0] at hW
  rw [hS0] at hS
  clear h hv hva hE0 hW0 hS0
  go_enter Tryz.func21, Tryz.ntmps21
  have HE := Lib.hid hE
  have HW := Lib.hid hW
  have HS := Lib.hid hS
  clear hE hW hS
  go_wp2_with fail
  have s1 : ((w.alloc (.cells #[SP q] 31)).alloc (.cells #[.slice av bs.length cv] 24)).heap.size = w.heap.size + 2 := by simp
  have b1 : Below w.heap.size w ((w.alloc (.cells #[SP q] 31)).alloc (.cells #[.slice av bs.length cv] 24)) := by ((repeat' (first | (with_reducible exact Below.refl _ _) | (with_reducible refine Below.setCell ?_ ?_ _) | (with_reducible refine Below.alloc ?_ ?_ _) | (with_reducible refine Below.drew ?_) | (with_reducible refine Below.trans ?_ (Below.mono (by assumption) ?_)) | go_size)))
  have k1 : ((w.alloc (.cells #[SP q] 31)).alloc (.cells #[.slice av bs.length cv] 24)).cell? ⟨w.heap.size, 0, none⟩ = some (SP q) := by go_simp
  have k2 : ((w.alloc (.cells #[SP q] 31)).alloc (.cells #[.slice av bs.length cv] 24)).cell? ⟨w.heap.size + 1, 0, none⟩ = some (.slice av bs.length cv) := by go_simp
  obtain ⟨W1, hW1⟩ : ∃ W, (w.alloc (.cells #[SP q] 31)).alloc (.cells #[.slice av bs.length cv] 24) = W := ⟨_, rfl⟩
  rw [hW1] at s1 b1 k1 k2 ⊢
  clear hW1
  refine (f_asked (HH.out.below b1) _ bs.length _ (by omega)).mono ?_
  rintro e w2 ⟨rfl, hb2⟩
  have hh2 := (HH.out.below b1).below hb2
  have HH2 := Lib.hid hh2
  have s2 := hb2.size
  have bw2 : Below w.heap.size w w2 := b1.trans (hb2.mono (by omega))
  have j1 := (hb2.cell (p := ⟨w.heap.size, 0, none⟩) (by dsimp; omega)).trans k1
  have j2 := (hb2.cell (p := ⟨w.heap.size + 1, 0, none⟩) (by dsimp; omega)).trans k2
  clear k1 k2 hh2 hb2
  obtain ⟨ae, hae⟩ : ∃ x, askedE ws bs.length = x := ⟨_, rfl⟩
  rw [hae] at HE HW HS ⊢
  clear hae
  by_cases ha : ae = 0
  · subst ha
    have hE := HE.out
    have hW := HW.out
    have hS := HS.out
    rw [if_neg (by decide)] at hE hW hS
    obtain ⟨fb, hfb⟩ : ∃ x, fitB ws.most ws.parts bs.length = x := ⟨_, rfl⟩
    rw [hfb] at hE hW hS
    have HFB := Lib.hid hfb
    have HE := Lib.hid hE
    have HW := Lib.hid hW
    have HS := Lib.hid hS
    clear hE hW hS hfb
    go_wp2_with fail
    have l1 : w.heap.size < w2.heap.size := by omega
    have l2 : w.heap.size + 1 < w2.heap.size := by omega
    refine wp_grow [(4, .val (.bool fb))] 6 (by kernel_rfl) (by kernel_rfl) (by rfl) (by rfl) ?_
    simp only [List.take_succ_cons, List.take_zero, List.drop_succ_cons, List.drop_zero]
    repeat (first
      | (apply Der.quiet; (rfl); (rfl); (intro w' hw' hctx; have hc' := bcell hw'; have y1 := (hw'.cell (p := ⟨w.heap.size, 0, none⟩) l1).trans j1; have y2 := (hw'.cell (p := ⟨w.heap.size + 1, 0, none⟩) l2).trans j2; clear hctx; go_simp; first | exact rfl | exact ⟨rfl, rfl⟩); simp only [Act.put, List.setIfInBounds_toArray, List.set_cons_succ, List.set_cons_zero, Nat.reduceAdd])
      | (apply Der.skip; (rfl); simp only [Act.put, List.setIfInBounds_toArray, List.set_cons_succ, List.set_cons_zero, Nat.reduceAdd]))
    apply Der.val
    · rfl
    · rfl
    · (intro w' hw' hctx; go_simp; refine (f_wfits (HH2.out.said.below ((Below.refl _ _).drew.trans hw')) (by omega) _ bs.length _ (by omega)).mono ?_; rintro e w2 ⟨rfl, hb⟩; exact ⟨_, rfl, (by rw [HFB.out]), hb⟩)
    simp only [Act.put, List.setIfInBounds_toArray, List.set_cons_succ, List.set_cons_zero, Nat.reduceAdd]
    repeat (first
      | (apply Der.quiet; (rfl); (rfl); (intro w' hw' hctx; have hc' := bcell hw'; clear hctx; go_simp; first | exact rfl | exact ⟨rfl, rfl⟩); simp only [Act.put, List.setIfInBounds_toArray, List.set_cons_succ, List.set_cons_zero, Nat.reduceAdd])
      | (apply Der.skip; (rfl); simp only [Act.put, List.setIfInBounds_toArray, List.set_cons_succ, List.set_cons_zero, Nat.reduceAdd]))
    refine Der.nil (fun w3 hgw3 hctx => ?_)
    clear hctx
    have hb3 : Below _ _ w3 := hgw3
    clear hgw3
    have b3 : Below w2.heap.size w2 w3 := (Below.refl _ _).drew.trans hb3
    have s3 := b3.size
    have bw3 : Below w.heap.size w w3 := bw2.trans (b3.mono (by omega))
    have HH3 := Lib.hid (HH2.out.below b3)
    have i1 := (b3.cell (p := ⟨w.heap.size, 0, none⟩) l1).trans j1
    have i2 := (b3.cell (p := ⟨w.heap.size + 1, 0, none⟩) l2).trans j2
    clear hb3 b3 j1 j2 HH2
    cases fb
    · have hE := HE.out
      have hW := HW.out
      have hS := HS.out
      rw [if_pos rfl] at hE hW hS
      subst hE hW hS
      clear HE HW HS
      go_wp2
      go_ret
      exact ⟨rfl, A, g, Ext.refl _ _, GNew.refl _ _, HH3.out, Tw.of_below bw3⟩
    · have hE := HE.out
      have hW := HW.out
      have hS := HS.out
      rw [if_neg (by decide)] at hE hW hS
      have HE := Lib.hid hE
      have HW := Lib.hid hW
      have HS := Lib.hid hS
      clear hE hW hS
      go_wp2_with fail
      have s4 : (w3.alloc (.cells #[.func (.func 56) #[] #[SP w.heap.size, SP (w.heap.size + 1)], .func (.func 58) #[] #[SP w.heap.size]] 73)).heap.size = w3.heap.size + 1 := by simp
      have b4 : Below w3.heap.size w3 (w3.alloc (.cells #[.func (.func 56) #[] #[SP w.heap.size, SP (w.heap.size + 1)], .func (.func 58) #[] #[SP w.heap.size]] 73)) := by ((repeat' (first | (with_reducible exact Below.refl _ _) | (with_reducible refine Below.setCell ?_ ?_ _) | (with_reducible refine Below.alloc ?_ ?_ _) | (with_reducible refine Below.drew ?_) | (with_reducible refine Below.trans ?_ (Below.mono (by assumption) ?_)) | go_size)))
      have hsl : Sl (w3.alloc (.cells #[.func (.func 56) #[] #[SP w.heap.size, SP (w.heap.size + 1)], .func (.func 58) #[] #[SP w.heap.size]] 73)) (.slice (some ⟨w3.heap.size, 0, none⟩) 2 2) 2 [.func (.func 56) #[] #[SP w.heap.size, SP (w.heap.size + 1)], .func (.func 58) #[] #[SP w.heap.size]] := Sl.fresh _ _ 2 _ rfl (by omega)
      obtain ⟨W4, hW4⟩ : ∃ W, w3.alloc (.cells #[.func (.func 56) #[] #[SP w.heap.size, SP (w.heap.size + 1)], .func (.func 58) #[] #[SP w.heap.size]] 73) = W := ⟨_, rfl⟩
      rw [hW4] at s4 b4 hsl ⊢
      clear hW4
      have hh4 := HH3.out.below b4
      have bw4 : Below w.heap.size w W4 := bw3.trans (b4.mono (by omega))
      have ndb : ∀ x, w.heap.size ≤ x → x ∉ [b, m] := fun x hx => by have := HH.out.disk.blt; have := HH.out.disk.mlt; simp; omega
      have nq : q ∉ [b, m] := by simp; exact ⟨HH.out.qb, HH.out.qm⟩
      obtain ⟨vr, cr, hrow⟩ := hh4.said.rowIs
      obtain ⟨ar, kr, rfl, -⟩ := hrow.slice
      have i1' := (b4.cell (p := ⟨w.heap.size, 0, none⟩) (by dsimp; omega)).trans i1
      have i2' := (b4.cell (p := ⟨w.heap.size + 1, 0, none⟩) (by dsimp; omega)).trans i2
      have BV4 := Lib.hid (fun (W : World) (ht : Tw W4.heap.size [b, m] W4 W) => (show Byt W (.slice av bs.length cv) bs from
        ((HV.out.grown bw4).turn (ht.size) (fun ad n c e => ht.block _ (by have := (HVA.out ad n c e).1; omega) (by have := (HVA.out ad n c e).2; simp; omega)))))
      have D0 : DoesR W4 A b m (.func (.func 56) #[] #[SP w.heap.size, SP (w.heap.size + 1)]) (appR 0 (framB ws.parts.length bs)) :=
        ⟨_, _, rfl, fun _ _ => rfl, appR_good 0 (framB_byte hb), fun W s hD hok hop ht => f_App1 (q := q) hD hok (by omega) _ bs (BV4.out W ht) hn hb _ _ ws.parts.length hpl ar kr ((ht.cell (p := ⟨w.heap.size, 0, none⟩) (by dsimp; omega) (ndb w.heap.size (by omega))).trans i1') ((ht.cell (p := ⟨w.heap.size + 1, 0, none⟩) (by dsimp; omega) (ndb (w.heap.size + 1) (by omega))).trans i2') ((ht.cell (p := ⟨q, 3, none⟩) (by dsimp; omega) nq).trans hh4.c3) ((ht.cell (p := ⟨q, 1, none⟩) (by dsimp; omega) nq).trans cr) (ndb _ (by omega)) (ndb _ (by omega)) nq⟩
      have D1 : DoesR W4 A b m (.func (.func 58) #[] #[SP w.heap.size]) (syncR 0) :=
        ⟨_, _, rfl, fun _ _ => rfl, syncR_good 0, fun W s hD hok hop ht => f_App2 (q := q) hD hok (by omega) _ ((ht.cell (p := ⟨w.heap.size, 0, none⟩) (by dsimp; omega) (ndb w.heap.size (by omega))).trans i1') ((ht.cell (p := ⟨q, 3, none⟩) (by dsimp; omega) nq).trans hh4.c3)⟩
      refine (f_inRow hh4.disk hok (by omega) _ [.func (.func 56) #[] #[SP w.heap.size, SP (w.heap.size + 1)], .func (.func 58) #[] #[SP w.heap.size]] [appR 0 (framB ws.parts.length bs), syncR 0] rfl (show (2 : Nat) ≤ 100 by decide) hsl (fun ad n c e => by
        simp only [Value.slice.injEq, Option.some.injEq] at e
        have := HH.out.disk.blt
        have := HH.out.disk.mlt
        rw [← e.1]; dsimp only; omega) (fun i h1 h2 => by
          match i, h1, h2 with
          | 0, _, _ => exact D0
          | 1, _, _ => exact D1)).mono ?_
      rintro e w5 ⟨rfl, hD5, t5⟩
      have s5 := t5.size
      have hh5 := hh4.disked hD5 t5
      have HH5 := Lib.hid hh5
      have j1 := (t5.cell (p := ⟨w.heap.size, 0, none⟩) (by dsimp; omega) (ndb w.heap.size (by omega))).trans i1'
      have j2 := (t5.cell (p := ⟨w.heap.size + 1, 0, none⟩) (by dsimp; omega) (ndb (w.heap.size + 1) (by omega))).trans i2'
      have BV5 := Lib.hid (BV4.out w5 t5)
      have T5 := Lib.hid ((Tw.of_below bw4 : Tw w.heap.size [b, m] w W4).trans (t5.mono (n' := w.heap.size) (L' := [b, m]) (by omega) (fun a ha => .inl ha)))
      have q4 := hh5.c4
      have qf := hh5.said.fr 4
      have hl5 : q < w5.heap.size := by omega
      have hqn : q ≠ w.heap.size := by omega
      have hqn1 : q ≠ w.heap.size + 1 := by omega
      obtain ⟨R, hR⟩ : ∃ R, wappR ws bs s = R := ⟨_, rfl⟩
      have hR2 : inRowS [appR 0 (framB ws.parts.length bs), syncR 0] s = R := hR
      rw [hR] at HE HW HS
      rw [hR2] at HH5 ⊢
      obtain ⟨err, sR⟩ := R
      clear hsl D0 D1 BV4 hD5 t5 hh5 hh4 hrow cr i1 i2 i1' i2' b4 hR hR2
      by_cases he : err = 0
      · subst he
        have hE := HE.out
        have hW := HW.out
        have hS := HS.out
        rw [if_pos rfl] at hW
        subst hE hW hS
        clear HE HW HS
        go_wp2_with fail
        have hw6 := HH5.out.setBroken false
        have t6 : Tw w5.heap.size [q] w5 (w5.setCell ⟨q, 4, none⟩ (.bool false)) := (Tw.refl _ _ _).setCell (.inl (by simp)) _ _
        obtain ⟨w6, hw6n⟩ : ∃ x, w5.setCell ⟨q, 4, none⟩ (.bool false) = x := ⟨_, rfl⟩
        rw [hw6n] at hw6 t6 ⊢
        clear hw6n
        have s6 := t6.size
        have u1 := (t6.cell (p := ⟨w.heap.size, 0, none⟩) (by dsimp; omega) (by simp; omega)).trans j1
        have u2 := (t6.cell (p := ⟨w.heap.size + 1, 0, none⟩) (by dsimp; omega) (by simp; omega)).trans j2
        have BV6 := Lib.hid (BV5.out.turn t6.size (fun ad n c e => t6.block _ (by have := (HVA.out ad n c e).1; omega) (by have := (HVA.out ad n c e).2.2.2; simpa using this)))
        have HW6 := Lib.hid hw6
        have hgl : ∀ k, g = some k → k < w.heap.size := fun k hk => HH.out.said.lt _ (HH.out.said.hg k hk).1
        have nqg : ∀ x, w.heap.size ≤ x → x ∉ q :: g.toList := fun x hx hc => by
          rcases List.mem_cons.1 hc with h1 | h1
          · omega
          · have := hgl x (by simpa using h1); omega
        have T6 := Lib.hid ((T5.out.mono (n' := w.heap.size) (L' := b :: m :: q :: g.toList) (Nat.le_refl _) (fun a ha => .inl (by simp at ha; rcases ha with rfl | rfl <;> simp))).trans (t6.mono (n' := w.heap.size) (L' := b :: m :: q :: g.toList) (by omega) (fun a ha => .inl (by simp at ha; simp [ha]))))
        have hl61 : w.heap.size < w6.heap.size := by omega
        have hl62 : w.heap.size + 1 < w6.heap.size := by omega
        have nqg1 := nqg w.heap.size (by omega)
        have nqg2 := nqg (w.heap.size + 1) (by omega)
        clear hw6 t6 j1 j2 q4 qf hgl nqg
        refine wp_region_held_drew (S := fun W => Tw w6.heap.size (q :: g.toList) w6 W) (by kernel_rfl) (Tw.of_below ((Below.refl _ _).drew)) (fun hHeld => ?_)
        refine wpAnyH_take (i := 0) (v := ?_) rfl (by kernel_rfl) (by kernel_rfl) (by kernel_rfl) (fun _ _ _ h => h) (Or.inl ⟨by rfl, ?_⟩) (by assumption) ?_
        rotate_left
        · (intro wS hSw; have y1 := (hSw.cell (p := ⟨w.heap.size, 0, none⟩) hl61 nqg1).trans u1; have y2 := (hSw.cell (p := ⟨w.heap.size + 1, 0, none⟩) hl62 nqg2).trans u2; (try dsimp only at hSw); (try go_simp); first | done | with_reducible rfl | rfl)
        simp only [Act.put, List.setIfInBounds_toArray, List.set_cons_succ, List.set_cons_zero, Nat.reduceAdd]
        refine wpAnyH_take (i := 1) (v := ?_) rfl (by kernel_rfl) (by kernel_rfl) (by kernel_rfl) (fun _ _ _ h => h) (Or.inl ⟨by rfl, ?_⟩) (by assumption) ?_
        rotate_left
        · (intro wS hSw; have y1 := (hSw.cell (p := ⟨w.heap.size, 0, none⟩) hl61 nqg1).trans u1; have y2 := (hSw.cell (p := ⟨w.heap.size + 1, 0, none⟩) hl62 nqg2).trans u2; (try dsimp only at hSw); (try go_simp); first | done | with_reducible rfl | rfl)
        simp only [Act.put, List.setIfInBounds_toArray, List.set_cons_succ, List.set_cons_zero, Nat.reduceAdd]
        refine wpAnyH_take (i := 2) (v := ?_) rfl (by kernel_rfl) (by kernel_rfl) (by kernel_rfl) (fun _ _ _ h => h) (Or.inl ⟨by rfl, ?_⟩) (by assumption) ?_
        rotate_left
        · (intro wS hSw; have y1 := (hSw.cell (p := ⟨w.heap.size, 0, none⟩) hl61 nqg1).trans u1; have y2 := (hSw.cell (p := ⟨w.heap.size + 1, 0, none⟩) hl62 nqg2).trans u2; (try dsimp only at hSw); (try go_simp); first | done | with_reducible rfl | rfl)
        simp only [Act.put, List.setIfInBounds_toArray, List.set_cons_succ, List.set_cons_zero, Nat.reduceAdd]
        refine wpAnyH_take (i := 3) (v := ?_) rfl (by kernel_rfl) (by kernel_rfl) (by kernel_rfl) (fun _ _ _ h => h) (Or.inl ⟨by rfl, ?_⟩) (by assumption) ?_
        rotate_left
        · (intro wS hSw; have y1 := (hSw.cell (p := ⟨w.heap.size, 0, none⟩) hl61 nqg1).trans u1; have y2 := (hSw.cell (p := ⟨w.heap.size + 1, 0, none⟩) hl62 nqg2).trans u2; (try dsimp only at hSw); (try go_simp); first | done | with_reducible rfl | rfl)
        simp only [Act.put, List.setIfInBounds_toArray, List.set_cons_succ, List.set_cons_zero, Nat.reduceAdd]
        refine wpAnyH_ready (rs := [4]) (by kernel_rfl) (by simp) (AllReadyH.cons rfl (fun K hK => ?_) AllReadyH.nil)
        go_simp
        refine (f_bytesClone _ bs _ (BV6.out.grown ((Below.refl _ _).drew)) (by omega)).mono ?_
        rintro e w7 ⟨⟨v7, rfl, own7⟩, hb7⟩
        have b7 : Below w6.heap.size w6 w7 := (Below.refl _ _).drew.trans hb7
        obtain ⟨p7, k7, c7, rfl, hp7⟩ := own_slice own7
        have HB7 := Lib.hid (Byt.of_owns own7 rfl)
        have en7 : k7 = bs.length := by
          obtain ⟨a, c, e, -⟩ := (Byt.of_owns own7 rfl).open
          simp only [Value.slice.injEq] at e
          exact e.2.1
        subst en7
        have HP7 := Lib.hid hp7
        clear own7 hp7
        go_wp2_with fail
        refine hK.out _ _ (Tw.of_below b7) (fun hHeld => ?_)
        clear hK K
        have hw7 := HW6.out.below b7
        refine wpAnyH_ready (rs := [5]) (by kernel_rfl) (by simp) (AllReadyH.cons rfl (fun K hK => ?_) AllReadyH.nil)
        go_simp
        refine (f_wadds hw7.said (show costL ws.parts ≤ 1000000 by omega) _ bs HB7.out (by omega) (fun ad n c e => by
          simp only [Value.slice.injEq] at e
          have h9 := HP7.out ad e.1
          simp at h9
          exact ⟨h9.2, fun hc => by have := HW6.out.said.lt _ hc; omega⟩)).mono ?_
        rintro e w8 ⟨rfl, A8, g8, hA8, hg8, hS8, t8, hc8⟩
        have hw8 := hw7.added hA8 hg8 hS8 t8 hc8
        have HW8 := Lib.hid hw8
        have HA8 := Lib.hid hA8
        have HG8 := Lib.hid hg8
        have s7 := b7.size
        have t8a : Tw w6.heap.size (q :: g.toList) w6 w8 := (Tw.of_below b7).trans (t8.mono s7 (fun a ha => .inl ha))
        clear hw8 hA8 hg8 hS8 t8 hc8 hw7
        go_wp2_with fail
        refine hK.out _ _ (t8a) (fun hHeld => ?_)
        clear hK K
        refine wpAnyH_done (by kernel_rfl) ?_ _
        go_wp2
        go_ret
        exact ⟨rfl, A8, g8, HA8.out.mono (by omega), HG8.out.mono (by omega), HW8.out, T6.out.trans (t8a.mono (by omega) (fun a ha => .inl (by simp at ha ⊢; exact .inr (.inr ha))))⟩
      · have hne : (err != 0) = true := by simpa using he
        have hE := HE.out
        have hW := HW.out
        have hS := HS.out
        rw [if_neg he] at hW
        dsimp only at hE hS
        subst hE hW hS
        clear HE HW HS
        go_wp2
        go_ret
        exact ⟨rfl, A, g, Ext.refl _ _, GNew.refl _ _, HH5.out.setBroken true, ((T5.out.mono (n' := w.heap.size) (L' := b :: m :: q :: g.toList) (Nat.le_refl _) (fun a ha => .inl (by simp at ha; rcases ha with rfl | rfl <;> simp)))).setCell (.inl (by simp)) _ _⟩
  · have hE := HE.out
    have hW := HW.out
    have hS := HS.out
    rw [if_pos ha] at hE hW hS
    subst hE hW hS
    clear HE HW HS
    go_wp2
    go_ret
    exact ⟨rfl, A, g, Ext.refl _ _, GNew.refl _ _, HH2.out, Tw.of_below bw2⟩
end
end Go.Proofs.YtkekidjjmcmjhaaGreat
