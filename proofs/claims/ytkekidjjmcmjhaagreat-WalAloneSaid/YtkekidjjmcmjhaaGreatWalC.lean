/- wal.Checkpoint; Snapshot. -/
import Derived.Test.YtkekidjjmcmjhaaGreatWalA
namespace Go.Proofs.YtkekidjjmcmjhaaGreat
open Go.RowKit
set_option maxRecDepth 100000
attribute [local irreducible] Der

def wchkE (ws : WS) (s : DS) (bs : List Int) : Int := if askedE ws bs.length ≠ 0 then askedE ws bs.length else if ws.most < 12 + bs.length then 6 else (makesR ws.most bs s).1
def wchkW (ws : WS) (s : DS) (bs : List Int) : WS := if askedE ws bs.length ≠ 0 then ws else if ws.most < 12 + bs.length then ws else if (makesR ws.most bs s).1 = 0 then ⟨ws.most, [bs], false⟩ else ⟨ws.most, ws.parts, true⟩
def wchkS (ws : WS) (s : DS) (bs : List Int) : DS := if askedE ws bs.length ≠ 0 then s else if ws.most < 12 + bs.length then s else (makesR ws.most bs s).2

section
variable {w w' : World} {A A' : List Nat} {q b m : Nat} {g g' : Option Nat} {most : Int} {parts : List (List Int)} {s s' : DS} {ws : WS}

/-- What is said is another thing: a store of three cells. -/
theorem WalIs.resaid {v : Value} {u0 u1 u2 : Value} {br : Bool} (hd : Disk w A b m s) (hr : RowIs w A v g' parts) (hq : q ∈ A) (qb : q ≠ b) (qm : q ≠ m) (hg : ∀ k, g' = some k → k ≠ q ∧ k ≠ b ∧ k ≠ m) (c0 : w.cell? ⟨q, 0, none⟩ = some u0) (c1 : w.cell? ⟨q, 1, none⟩ = some u1)
    (c2 : w.cell? ⟨q, 2, none⟩ = some u2) (c3 : w.cell? ⟨q, 3, none⟩ = some (DP b)) (c4 : w.cell? ⟨q, 4, none⟩ = some (.bool br)) (fr : ∀ o, w.frozen? ⟨q, o, none⟩ = false) :
    WalIs (((w.setCell ⟨q, 0, none⟩ (.int .i64 most)).setCell ⟨q, 1, none⟩ v).setCell ⟨q, 2, none⟩ (.int .i64 (costL parts))) A b m q g' ⟨most, parts, br⟩ s := by
  have ht : Tw w.heap.size [q] w (((w.setCell ⟨q, 0, none⟩ (.int .i64 most)).setCell ⟨q, 1, none⟩ v).setCell ⟨q, 2, none⟩ (.int .i64 (costL parts))) := (((Tw.refl _ _ _).setCell (.inl (by simp)) _ _).setCell (.inl (by simp)) _ _).setCell (.inl (by simp)) _ _
  have hL : ∀ a ∈ [q], a ∈ A := fun a ha => by simp at ha; rw [ha]; exact hq
  have hd' := hd.tw ht hL (by simp; exact qb.symm) (by simp; exact qm.symm)
  obtain ⟨hv, hgA, ps, hps, ho, hby⟩ := hr.turn (A' := A) ht.size (Ext.refl _ _) (fun k hk hkA => ht.block k hk (fun e => hkA (by simp at e; rw [e]; exact hq))) (fun k hk => ht.block k (hd.lt _ (hr.2.1 k hk)) (by simp; exact (hg k hk).1))
  refine ⟨hd', ⟨?_, ⟨v, ?_, hv, ps, hps, ho, hby⟩, ?_, fun o => ?_, hq, fun k hk => ⟨hgA k hk, (hg k hk).1⟩, hd'.lt⟩, ?_, ?_, qb, qm, fun k hk => (hg k hk).2⟩
  · rw [World.cell?_setCell_other _ _ _ _ (by simp), World.cell?_setCell_other _ _ _ _ (by simp), cell_set]; simp [c0]
  · rw [World.cell?_setCell_other _ _ _ _ (by simp), cell_set]; simp only [if_true]; rw [World.cell?_setCell_other _ _ _ _ (by simp), c1]; rfl
  · rw [cell_set]; simp only [if_true]; rw [World.cell?_setCell_other _ _ _ _ (by simp), World.cell?_setCell_other _ _ _ _ (by simp), c2]; rfl
  · rw [World.frozen?_setCell, World.frozen?_setCell, World.frozen?_setCell]; exact fr o
  · rw [World.cell?_setCell_other _ _ _ _ (by simp), World.cell?_setCell_other _ _ _ _ (by simp), World.cell?_setCell_other _ _ _ _ (by simp)]; exact c3
  · rw [World.cell?_setCell_other _ _ _ _ (by simp), World.cell?_setCell_other _ _ _ _ (by simp), World.cell?_setCell_other _ _ _ _ (by simp)]; exact c4

theorem WalIs.disked2 (h : WalIs w A b m q g ws s) (hd : Disk w' A' b m s') (hA : Ext w.heap.size A A') (ht : Tw w.heap.size [b, m] w w') : WalIs w' A' b m q g ws s' := by
  have hL : ∀ a ∈ [b, m], a ∈ A := fun a ha => by simp at ha; rcases ha with rfl | rfl; exact h.disk.hb; exact h.disk.hm
  have hq : q ∉ [b, m] := by simp; exact ⟨h.qb, h.qm⟩
  exact ⟨hd, h.said.turn ht.size hA hd.lt (fun k hk hkA => ht.block k hk (fun e => hkA (hL k e))) (ht.block _ h.said.blt hq) (fun k hk => ht.block _ (h.said.lt _ (h.said.hg k hk).1) (by simp; exact h.gb k hk)), (ht.cell (p := ⟨q, 3, none⟩) h.said.blt hq).trans h.c3, (ht.cell (p := ⟨q, 4, none⟩) h.said.blt hq).trans h.c4, h.qb, h.qm, h.gb⟩
/-- A row of parts that is not empty lies in a block. -/
theorem RowIs.there {v : Value} (h : RowIs w A v g parts) (hne : parts ≠ []) : g ≠ none := by
  obtain ⟨hv, -, ps, hps, ho, -⟩ := h
  rcases ho.2 with ⟨-, h0⟩ | ⟨k, cap, cur, rfl, -⟩
  · rw [List.eq_nil_of_length_eq_zero h0] at hps
    exact absurd hps.symm hne
  · rw [← hv]; simp [Value.ownBlock]

set_option maxHeartbeats 8000000 in
theorem f_WalCheckpoint (h : WalIs w A b m q g ws s) (hok : s.Ok) (hop : s.ops < 900000) (hm0 : 0 ≤ ws.most) (hm1 : ws.most ≤ 1000000) (v : Value) (bs : List Int) (hv : Byt w v bs) (hn : bs.length ≤ 90000) (hb : Byte bs) (hva : ∀ ad n c, v = .slice (some ad) n c → ad.block < w.heap.size ∧ ad.block ≠ b ∧ ad.block ≠ m ∧ ad.block ≠ q) :
    Calls Tryz.prog 22 #[SP q, v] w (WapPost w A b m q g (wchkE ws s bs) (wchkW ws s bs) (wchkS ws s bs)) := by
  have HH := Lib.hid h
  have HV := Lib.hid hv
  have HVA := Lib.hid hva
  obtain ⟨av, cv, rfl, -⟩ := hv.open
  have hql := h.said.blt
  have c0 := h.said.c0
  have c3 := h.c3
  have hE : wchkE ws s bs = if askedE ws bs.length ≠ 0 then askedE ws bs.length else if ws.most < 12 + bs.length then 6 else (makesR ws.most bs s).1 := rfl
  have hW : wchkW ws s bs = if askedE ws bs.length ≠ 0 then ws else if ws.most < 12 + bs.length then ws else if (makesR ws.most bs s).1 = 0 then ⟨ws.most, [bs], false⟩ else ⟨ws.most, ws.parts, true⟩ := rfl
  have hS : wchkS ws s bs = if askedE ws bs.length ≠ 0 then s else if ws.most < 12 + bs.length then s else (makesR ws.most bs s).2 := rfl
  obtain ⟨E, hE0⟩ : ∃ x, wchkE ws s bs = x := ⟨_, rfl⟩
  obtain ⟨W', hW0⟩ : ∃ x, wchkW ws s bs = x := ⟨_, rfl⟩
  obtain ⟨S', hS0⟩ : ∃ x, wchkS ws s bs = x := ⟨_, rfl⟩
  rw [hE0, hW0, hS0]
  rw [hE0] at hE
  rw [hW0] at hW
  rw [hS0] at hS
  have hw12 : IntKind.i64.wrap (12 + (bs.length : Int)) = 12 + bs.length := wr64 (by omega) (by omega)
  clear h hv hva hE0 hW0 hS0
  have HE := Lib.hid hE
  have HW := Lib.hid hW
  have HS := Lib.hid hS
  clear hE hW hS
  go_enter Tryz.func22, Tryz.ntmps22
  go_wp2_with fail
  refine (f_asked HH.out _ bs.length _ (by omega)).mono ?_
  rintro e w1 ⟨rfl, hb1⟩
  have HH1 := Lib.hid (HH.out.below hb1)
  have s1 := hb1.size
  obtain ⟨ae, hae⟩ : ∃ x, askedE ws bs.length = x := ⟨_, rfl⟩
  rw [hae] at HE HW HS ⊢
  have d0 := (hb1.cell (p := ⟨q, 0, none⟩) hql).trans c0
  have d3 := (hb1.cell (p := ⟨q, 3, none⟩) hql).trans c3
  have hql1 : q < w1.heap.size := by omega
  clear hae c0 c3
  by_cases ha : ae = 0
  · subst ha
    have hE := HE.out
    have hW := HW.out
    have hS := HS.out
    rw [if_neg (by decide)] at hE hW hS
    by_cases hf : ws.most < 12 + bs.length
    · rw [if_pos hf] at hE hW hS
      subst hE hW hS
      clear HE HW HS
      go_wp2
      go_ret
      exact ⟨rfl, A, g, Ext.refl _ _, GNew.refl _ _, HH1.out, Tw.of_below hb1⟩
    · rw [if_neg hf] at hE hW hS
      have hf2 : ¬ (ws.most < 12 + bs.length) := hf
      have HE := Lib.hid hE
      have HW := Lib.hid hW
      have HS := Lib.hid hS
      clear hE hW hS
      go_wp2_with fail
      have nq : q ∉ [b, m] := by simp; exact ⟨HH.out.qb, HH.out.qm⟩
      have HV1 := Lib.hid (HV.out.grown hb1)
      have HNQ := Lib.hid nq
      have hAl := Lib.hid HH1.out.disk.lt
      refine wp_region_held_drew (S := fun W => Tw w1.heap.size [b, m] w1 W) (by kernel_rfl) (Tw.of_below ((Below.refl _ _).drew)) (fun hHeld => ?_)
      refine wpAnyH_take (i := 0) (v := ?_) rfl (by kernel_rfl) (by kernel_rfl) (by kernel_rfl) (fun _ _ _ h => h) (Or.inl ⟨by rfl, ?_⟩) (by assumption) ?_
      rotate_left
      · (intro wS hSw; have y0 := (hSw.cell (p := ⟨q, 0, none⟩) hql1 nq).trans d0; have y3 := (hSw.cell (p := ⟨q, 3, none⟩) hql1 nq).trans d3; (try dsimp only at hSw); (try go_simp); first | done | with_reducible rfl | rfl)
      simp only [Act.put, List.setIfInBounds_toArray, List.set_cons_succ, List.set_cons_zero, Nat.reduceAdd]
      refine wpAnyH_take (i := 1) (v := ?_) rfl (by kernel_rfl) (by kernel_rfl) (by kernel_rfl) (fun _ _ _ h => h) (Or.inl ⟨by rfl, ?_⟩) (by assumption) ?_
      rotate_left
      · (intro wS hSw; have y0 := (hSw.cell (p := ⟨q, 0, none⟩) hql1 nq).trans d0; have y3 := (hSw.cell (p := ⟨q, 3, none⟩) hql1 nq).trans d3; (try dsimp only at hSw); (try go_simp); first | done | with_reducible rfl | rfl)
      simp only [Act.put, List.setIfInBounds_toArray, List.set_cons_succ, List.set_cons_zero, Nat.reduceAdd]
      refine wpAnyH_take (i := 2) (v := ?_) rfl (by kernel_rfl) (by kernel_rfl) (by kernel_rfl) (fun _ _ _ h => h) (Or.inl ⟨by rfl, ?_⟩) (by assumption) ?_
      rotate_left
      · (intro wS hSw; have y0 := (hSw.cell (p := ⟨q, 0, none⟩) hql1 nq).trans d0; have y3 := (hSw.cell (p := ⟨q, 3, none⟩) hql1 nq).trans d3; (try dsimp only at hSw); (try go_simp); first | done | with_reducible rfl | rfl)
      simp only [Act.put, List.setIfInBounds_toArray, List.set_cons_succ, List.set_cons_zero, Nat.reduceAdd]
      refine wpAnyH_take (i := 3) (v := ?_) rfl (by kernel_rfl) (by kernel_rfl) (by kernel_rfl) (fun _ _ _ h => h) (Or.inl ⟨by rfl, ?_⟩) (by assumption) ?_
      rotate_left
      · (intro wS hSw; have y0 := (hSw.cell (p := ⟨q, 0, none⟩) hql1 nq).trans d0; have y3 := (hSw.cell (p := ⟨q, 3, none⟩) hql1 nq).trans d3; (try dsimp only at hSw); (try go_simp); first | done | with_reducible rfl | rfl)
      simp only [Act.put, List.setIfInBounds_toArray, List.set_cons_succ, List.set_cons_zero, Nat.reduceAdd]
      refine wpAnyH_take (i := 4) (v := ?_) rfl (by kernel_rfl) (by kernel_rfl) (by kernel_rfl) (fun _ _ _ h => h) (Or.inl ⟨by rfl, ?_⟩) (by assumption) ?_
      rotate_left
      · (intro wS hSw; have y0 := (hSw.cell (p := ⟨q, 0, none⟩) hql1 nq).trans d0; have y3 := (hSw.cell (p := ⟨q, 3, none⟩) hql1 nq).trans d3; (try dsimp only at hSw); (try go_simp); first | done | with_reducible rfl | rfl)
      simp only [Act.put, List.setIfInBounds_toArray, List.set_cons_succ, List.set_cons_zero, Nat.reduceAdd]
      refine wpAnyH_take (i := 5) (v := ?_) rfl (by kernel_rfl) (by kernel_rfl) (by kernel_rfl) (fun _ _ _ h => h) (Or.inl ⟨by rfl, ?_⟩) (by assumption) ?_
      rotate_left
      · (intro wS hSw; have y0 := (hSw.cell (p := ⟨q, 0, none⟩) hql1 nq).trans d0; have y3 := (hSw.cell (p := ⟨q, 3, none⟩) hql1 nq).trans d3; (try dsimp only at hSw); (try go_simp); first | done | with_reducible rfl | rfl)
      simp only [Act.put, List.setIfInBounds_toArray, List.set_cons_succ, List.set_cons_zero, Nat.reduceAdd]
      refine wpAnyH_take (i := 6) (v := ?_) rfl (by kernel_rfl) (by kernel_rfl) (by kernel_rfl) (fun _ _ _ h => h) (Or.inl ⟨by rfl, ?_⟩) (by assumption) ?_
      rotate_left
      · (intro wS hSw; have y0 := (hSw.cell (p := ⟨q, 0, none⟩) hql1 nq).trans d0; have y3 := (hSw.cell (p := ⟨q, 3, none⟩) hql1 nq).trans d3; (try dsimp only at hSw); (try go_simp); first | done | with_reducible rfl | rfl)
      simp only [Act.put, List.setIfInBounds_toArray, List.set_cons_succ, List.set_cons_zero, Nat.reduceAdd]
      refine wpAnyH_take (i := 7) (v := ?_) rfl (by kernel_rfl) (by kernel_rfl) (by kernel_rfl) (fun _ _ _ h => h) (Or.inl ⟨by rfl, ?_⟩) (by assumption) ?_
      rotate_left
      · (intro wS hSw; have y0 := (hSw.cell (p := ⟨q, 0, none⟩) hql1 nq).trans d0; have y3 := (hSw.cell (p := ⟨q, 3, none⟩) hql1 nq).trans d3; (try dsimp only at hSw); (try go_simp); first | done | with_reducible rfl | rfl)
      simp only [Act.put, List.setIfInBounds_toArray, List.set_cons_succ, List.set_cons_zero, Nat.reduceAdd]
      refine wpAnyH_take (i := 8) (v := ?_) rfl (by kernel_rfl) (by kernel_rfl) (by kernel_rfl) (fun _ _ _ h => h) (Or.inl ⟨by rfl, ?_⟩) (by assumption) ?_
      rotate_left
      · (intro wS hSw; have y0 := (hSw.cell (p := ⟨q, 0, none⟩) hql1 nq).trans d0; have y3 := (hSw.cell (p := ⟨q, 3, none⟩) hql1 nq).trans d3; (try dsimp only at hSw); (try go_simp); first | done | with_reducible rfl | rfl)
      simp only [Act.put, List.setIfInBounds_toArray, List.set_cons_succ, List.set_cons_zero, Nat.reduceAdd]
      refine wpAnyH_take (i := 9) (v := ?_) rfl (by kernel_rfl) (by kernel_rfl) (by kernel_rfl) (fun _ _ _ h => h) (Or.inl ⟨by rfl, ?_⟩) (by assumption) ?_
      rotate_left
      · (intro wS hSw; have y0 := (hSw.cell (p := ⟨q, 0, none⟩) hql1 nq).trans d0; have y3 := (hSw.cell (p := ⟨q, 3, none⟩) hql1 nq).trans d3; (try dsimp only at hSw); (try go_simp); first | done | with_reducible rfl | rfl)
      simp only [Act.put, List.setIfInBounds_toArray, List.set_cons_succ, List.set_cons_zero, Nat.reduceAdd]
      refine wpAnyH_ready (rs := [10, 14]) (by kernel_rfl) (by simp) (AllReadyH.cons rfl (fun K hK => ?_) (AllReadyH.cons rfl (fun K hK => ?_) AllReadyH.nil))
      focus
        go_simp
        refine (f_makes (HH1.out.disk.below ((Below.refl _ _).drew)) hok hop hm0 hm1 _ bs (HV1.out.grown ((Below.refl _ _).drew)) hn hb (fun ad n c e => by have := HVA.out ad n c e; refine ⟨?_, this.2.1, this.2.2.1⟩; simp; omega)).mono ?_
        rintro e w2 ⟨v2, A2, g2, rfl, hA2, hg2, hrow, hd2, t2⟩
        have t2a : Tw w1.heap.size [b, m] w1 w2 := (Tw.of_below ((Below.refl _ _).drew)).trans (t2.mono (by simp) (fun a ha => .inl ha))
        obtain ⟨ar, kr, rfl, -⟩ := hrow.slice
        have s2 := t2a.size
        go_wp2_with fail
        refine hK.out _ _ (t2a) (fun hHeld => ?_)
        clear hK K
        refine wpAnyH_take (i := 11) (v := ?_) rfl (by kernel_rfl) (by kernel_rfl) (by kernel_rfl) (fun _ _ _ h => h) (Or.inl ⟨by rfl, ?_⟩) (by assumption) ?_
        rotate_left
        · (intro wS hSw; (try dsimp only at hSw); (try go_simp); first | done | with_reducible rfl | rfl)
        simp only [Act.put, List.setIfInBounds_toArray, List.set_cons_succ, List.set_cons_zero, Nat.reduceAdd]
        refine wpAnyH_take (i := 12) (v := ?_) rfl (by kernel_rfl) (by kernel_rfl) (by kernel_rfl) (fun _ _ _ h => h) (Or.inl ⟨by rfl, ?_⟩) (by assumption) ?_
        rotate_left
        · (intro wS hSw; (try dsimp only at hSw); (try go_simp); first | done | with_reducible rfl | rfl)
        simp only [Act.put, List.setIfInBounds_toArray, List.set_cons_succ, List.set_cons_zero, Nat.reduceAdd]
        refine wpAnyH_take (i := 13) (v := ?_) rfl (by kernel_rfl) (by kernel_rfl) (by kernel_rfl) (fun _ _ _ h => h) (Or.inl ⟨by rfl, ?_⟩) (by assumption) ?_
        rotate_left
        · (intro wS hSw; (try dsimp only at hSw); (try go_simp); first | done | with_reducible rfl | rfl)
        simp only [Act.put, List.setIfInBounds_toArray, List.set_cons_succ, List.set_cons_zero, Nat.reduceAdd]
        refine wpAnyH_ready (rs := [14]) (by kernel_rfl) (by simp) (AllReadyH.cons rfl (fun K hK => ?_) AllReadyH.nil)
        go_simp
        refine hK.out _ _ (t2a.trans (Tw.of_below ((Below.refl _ _).alloc (by omega) _))) (fun hHeld => ?_)
        clear hK K
        have b3 : Below w2.heap.size w2 (w2.alloc (.cells #[.int .i64 ws.most, .slice ar 1 kr, .int .i64 (costL [bs])] 82)) := (Below.refl _ _).alloc (Nat.le_refl _) _
        have tz : Tw w1.heap.size [b, m] w1 (w2.alloc (.cells #[.int .i64 ws.most, .slice ar 1 kr, .int .i64 (costL [bs])] 82)) := t2a.trans (Tw.of_below (b3.mono s2))
        refine wpAnyH_ready (rs := [15]) (by kernel_rfl) (by simp) (AllReadyH.cons rfl (fun K hK => ?_) AllReadyH.nil)
        go_simp
        refine hK.out _ _ (tz) (fun hHeld => ?_)
        clear hK K
        refine wpAnyH_ready (rs := [16]) (by kernel_rfl) (by simp) (AllReadyH.cons rfl (fun K hK => ?_) AllReadyH.nil)
        go_simp
        refine hK.out _ _ (tz) (fun hHeld => ?_)
        clear hK K
        refine wpAnyH_done (by kernel_rfl) ?_ _
        have hz := hd2.below b3
        have hrz := hrow.turn b3.size (Ext.refl _ A2) (fun k hk _ => b3.block k hk) (fun k hk => b3.block k (hd2.lt _ (hrow.2.1 k hk)))
        have x0 : (w2.alloc (.cells #[.int .i64 ws.most, .slice ar 1 kr, .int .i64 (costL [bs])] 82)).cell? ⟨w2.heap.size, 0, none⟩ = some (.int .i64 ws.most) := by go_simp
        have x1 : (w2.alloc (.cells #[.int .i64 ws.most, .slice ar 1 kr, .int .i64 (costL [bs])] 82)).cell? ⟨w2.heap.size, 1, none⟩ = some (.slice ar 1 kr) := by go_simp
        have x2 : (w2.alloc (.cells #[.int .i64 ws.most, .slice ar 1 kr, .int .i64 (costL [bs])] 82)).cell? ⟨w2.heap.size, 2, none⟩ = some (.int .i64 (costL [bs])) := by go_simp
        obtain ⟨nb, hnb⟩ : ∃ nb, w2.heap.size = nb := ⟨_, rfl⟩
        obtain ⟨wz, hwz⟩ : ∃ wz, w2.alloc (.cells #[.int .i64 ws.most, .slice ar 1 kr, .int .i64 (costL [bs])] 82) = wz := ⟨_, rfl⟩
        have hnz : nb < wz.heap.size := by rw [← hwz]; simp; omega
        rw [hwz] at hz hrz x0 x1 x2 tz hHeld ⊢
        rw [hnb] at x0 x1 x2 ⊢
        have hnb1 : w1.heap.size ≤ nb := by omega
        replace hA2 := hA2.mono (m := w1.heap.size) (by simp)
        replace hg2 := hg2.mono (m := w1.heap.size) (by simp)
        clear hrow hd2 t2 t2a b3 hnb hwz s2 hHeld
      rotate_left
      focus
        go_simp
        have s2 : ((w1.alloc (.cells #[.int .i64 0, .slice none 0 0, .int .i64 0] 82)).drew).heap.size = w1.heap.size + 1 := by simp
        have b2 : Below w1.heap.size w1 ((w1.alloc (.cells #[.int .i64 0, .slice none 0 0, .int .i64 0] 82)).drew) := ((Below.refl _ _).alloc (Nat.le_refl _) _).drew
        have z0 : ((w1.alloc (.cells #[.int .i64 0, .slice none 0 0, .int .i64 0] 82)).drew).cell? ⟨w1.heap.size, 0, none⟩ = some (.int .i64 0) := by go_simp
        have z1 : ((w1.alloc (.cells #[.int .i64 0, .slice none 0 0, .int .i64 0] 82)).drew).cell? ⟨w1.heap.size, 1, none⟩ = some (.slice none 0 0) := by go_simp
        have z2 : ((w1.alloc (.cells #[.int .i64 0, .slice none 0 0, .int .i64 0] 82)).drew).cell? ⟨w1.heap.size, 2, none⟩ = some (.int .i64 0) := by go_simp
        have zf : ∀ o, ((w1.alloc (.cells #[.int .i64 0, .slice none 0 0, .int .i64 0] 82)).drew).frozen? ⟨w1.heap.size, o, none⟩ = false := fun o => by go_simp
        obtain ⟨w2, hw2⟩ : ∃ W, (w1.alloc (.cells #[.int .i64 0, .slice none 0 0, .int .i64 0] 82)).drew = W := ⟨_, rfl⟩
        rw [hw2] at s2 b2 z0 z1 z2 zf ⊢
        clear hw2
        refine hK.out _ _ (Tw.of_below b2) (fun hHeld => ?_)
        clear hK K
        refine wpAnyH_ready (rs := [10]) (by kernel_rfl) (by simp) (AllReadyH.cons rfl (fun K hK => ?_) AllReadyH.nil)
        go_simp
        have hd2 := HH1.out.disk.more b2 (C := [w1.heap.size]) (fun a ha => by simp at ha; omega)
        refine (f_makes hd2 hok hop hm0 hm1 _ bs (HV1.out.grown b2) hn hb (fun ad n c e => by have := HVA.out ad n c e; refine ⟨?_, this.2.1, this.2.2.1⟩; omega)).mono ?_
        rintro e w3 ⟨v2, A2, g2, rfl, hA2, hg2, hrow, hd3, t3⟩
        have t3a : Tw w1.heap.size [b, m] w1 w3 := (Tw.of_below b2).trans (t3.mono (by omega) (fun a ha => .inl ha))
        obtain ⟨ar, kr, rfl, -⟩ := hrow.slice
        have s3 := t3.size
        have hbl1 := HH1.out.disk.blt
        have hml1 := HH1.out.disk.mlt
        have n1 : w1.heap.size ∉ [b, m] := by simp; omega
        have k0 := (t3.cell (p := ⟨w1.heap.size, 0, none⟩) (by dsimp; omega) n1).trans z0
        have k1 := (t3.cell (p := ⟨w1.heap.size, 1, none⟩) (by dsimp; omega) n1).trans z1
        have k2 := (t3.cell (p := ⟨w1.heap.size, 2, none⟩) (by dsimp; omega) n1).trans z2
        have kf : ∀ o, w3.frozen? ⟨w1.heap.size, o, none⟩ = false := fun o => (t3.frozen (p := ⟨w1.heap.size, o, none⟩) (by dsimp; omega) n1).trans (zf o)
        have kf0 := kf 0
        have kf1 := kf 1
        have kf2 := kf 2
        have hl3 : w1.heap.size < w3.heap.size := by omega
        clear z0 z1 z2 zf kf
        go_wp2_with fail
        refine hK.out _ _ (t3a) (fun hHeld => ?_)
        clear hK K
        refine wpAnyH_take (i := 11) (v := ?_) rfl (by kernel_rfl) (by kernel_rfl) (by kernel_rfl) (fun _ _ _ h => h) (Or.inl ⟨by rfl, ?_⟩) (by assumption) ?_
        rotate_left
        · (intro wS hSw; (try dsimp only at hSw); (try go_simp); first | done | with_reducible rfl | rfl)
        simp only [Act.put, List.setIfInBounds_toArray, List.set_cons_succ, List.set_cons_zero, Nat.reduceAdd]
        refine wpAnyH_take (i := 12) (v := ?_) rfl (by kernel_rfl) (by kernel_rfl) (by kernel_rfl) (fun _ _ _ h => h) (Or.inl ⟨by rfl, ?_⟩) (by assumption) ?_
        rotate_left
        · (intro wS hSw; (try dsimp only at hSw); (try go_simp); first | done | with_reducible rfl | rfl)
        simp only [Act.put, List.setIfInBounds_toArray, List.set_cons_succ, List.set_cons_zero, Nat.reduceAdd]
        refine wpAnyH_take (i := 13) (v := ?_) rfl (by kernel_rfl) (by kernel_rfl) (by kernel_rfl) (fun _ _ _ h => h) (Or.inl ⟨by rfl, ?_⟩) (by assumption) ?_
        rotate_left
        · (intro wS hSw; (try dsimp only at hSw); (try go_simp); first | done | with_reducible rfl | rfl)
        simp only [Act.put, List.setIfInBounds_toArray, List.set_cons_succ, List.set_cons_zero, Nat.reduceAdd]
        have t4 : Tw w3.heap.size [w1.heap.size] w3 (((w3.setCell ⟨w1.heap.size, 0, none⟩ (.int .i64 ws.most)).setCell ⟨w1.heap.size, 1, none⟩ (.slice ar 1 kr)).setCell ⟨w1.heap.size, 2, none⟩ (.int .i64 (costL [bs]))) := (((Tw.refl _ _ _).setCell (.inl (by simp)) _ _).setCell (.inl (by simp)) _ _).setCell (.inl (by simp)) _ _
        have tz := t3a.trans (t4.mono (n' := w1.heap.size) (L' := [b, m]) (by omega) (fun a ha => .inr (by simp at ha; omega)))
        refine wpAnyH_ready (rs := [15]) (by kernel_rfl) (by simp) (AllReadyH.cons rfl (fun K hK => ?_) AllReadyH.nil)
        go_simp
        refine hK.out _ _ (tz) (fun hHeld => ?_)
        clear hK K
        refine wpAnyH_ready (rs := [16]) (by kernel_rfl) (by simp) (AllReadyH.cons rfl (fun K hK => ?_) AllReadyH.nil)
        go_simp
        refine hK.out _ _ (tz) (fun hHeld => ?_)
        clear hK K
        refine wpAnyH_done (by kernel_rfl) ?_ _
        have h3A : w1.heap.size ∈ A2 := hA2.1 _ (by simp)
        have hgne : ∀ k, g2 = some k → k ≠ w1.heap.size := fun k hk => by
          rcases hg2 with h9 | ⟨k', h9, h8⟩
          · rw [h9] at hk; cases hk
          · rw [h9] at hk; cases hk; omega
        have hz := hd3.tw t4 (fun a ha => by simp at ha; rw [ha]; exact h3A) (by simp; omega) (by simp; omega)
        have hrz := hrow.turn t4.size (Ext.refl _ A2) (fun k hk hkA => t4.block k hk (fun e => hkA (by simp at e; rw [e]; exact h3A))) (fun k hk => t4.block k (hd3.lt _ (hrow.2.1 k hk)) (by simp; exact hgne k hk))
        have x0 : (((w3.setCell ⟨w1.heap.size, 0, none⟩ (.int .i64 ws.most)).setCell ⟨w1.heap.size, 1, none⟩ (.slice ar 1 kr)).setCell ⟨w1.heap.size, 2, none⟩ (.int .i64 (costL [bs]))).cell? ⟨w1.heap.size, 0, none⟩ = some (.int .i64 ws.most) := by go_simp
        have x1 : (((w3.setCell ⟨w1.heap.size, 0, none⟩ (.int .i64 ws.most)).setCell ⟨w1.heap.size, 1, none⟩ (.slice ar 1 kr)).setCell ⟨w1.heap.size, 2, none⟩ (.int .i64 (costL [bs]))).cell? ⟨w1.heap.size, 1, none⟩ = some (.slice ar 1 kr) := by go_simp
        have x2 : (((w3.setCell ⟨w1.heap.size, 0, none⟩ (.int .i64 ws.most)).setCell ⟨w1.heap.size, 1, none⟩ (.slice ar 1 kr)).setCell ⟨w1.heap.size, 2, none⟩ (.int .i64 (costL [bs]))).cell? ⟨w1.heap.size, 2, none⟩ = some (.int .i64 (costL [bs])) := by go_simp
        have hsz4 : (((w3.setCell ⟨w1.heap.size, 0, none⟩ (.int .i64 ws.most)).setCell ⟨w1.heap.size, 1, none⟩ (.slice ar 1 kr)).setCell ⟨w1.heap.size, 2, none⟩ (.int .i64 (costL [bs]))).heap.size = w3.heap.size := by simp
        obtain ⟨wz, hwz⟩ : ∃ wz, ((w3.setCell ⟨w1.heap.size, 0, none⟩ (.int .i64 ws.most)).setCell ⟨w1.heap.size, 1, none⟩ (.slice ar 1 kr)).setCell ⟨w1.heap.size, 2, none⟩ (.int .i64 (costL [bs])) = wz := ⟨_, rfl⟩
        rw [hwz] at hz hrz x0 x1 x2 tz hHeld hsz4 ⊢
        have hnz : w1.heap.size < wz.heap.size := by omega
        have hnb1 : w1.heap.size ≤ w1.heap.size := Nat.le_refl _
        have hA2' : Ext w1.heap.size A A2 := ⟨fun a ha => hA2.1 a (List.mem_append_right _ ha), fun a ha => by
          rcases hA2.2 a ha with h9 | h9
          · rcases List.mem_append.1 h9 with h8 | h8
            · exact .inr (by simp at h8; omega)
            · exact .inl h8
          · exact .inr (by omega)⟩
        replace hg2 := hg2.mono (m := w1.heap.size) (by omega)
        clear hA2 hd2
        have hA2 := hA2'
        clear hA2' hrow hd3 t3 t3a t4 hwz k0 k1 k2 kf0 kf1 kf2 h3A hgne hsz4 b2 s2 hHeld s3 n1
        obtain ⟨nb, hnb⟩ : ∃ nb, w1.heap.size = nb := ⟨_, rfl⟩
        rw [hnb] at x0 x1 x2 hnz ⊢
        replace hnb1 : w1.heap.size ≤ nb := by omega
        clear hnb
      all_goals
        have HWz : WalIs wz A2 b m q g ws (makesR ws.most bs s).2 := HH1.out.disked2 hz hA2 tz
        have q0 := HWz.said.c0
        obtain ⟨vo, q1, hvo⟩ := HWz.said.rowIs
        have q2 := HWz.said.c2
        have q3 := HWz.c3
        have q4 := HWz.c4
        have qf := HWz.said.fr
        have qf0 := qf 0
        have qf1 := qf 1
        have qf2 := qf 2
        have qf4 := qf 4
        have hqn : q ≠ nb := by omega
        have hqA : q ∈ A2 := hA2.1 _ HH1.out.said.hq
        have hqlz : q < wz.heap.size := by omega
        have hg2n : ∀ k, g2 = some k → k ≠ q ∧ k ≠ b ∧ k ≠ m := fun k hk => by
          have := HH1.out.disk.blt
          have := HH1.out.disk.mlt
          rcases hg2 with h9 | ⟨k', h9, h8⟩
          · rw [h9] at hk; cases hk
          · rw [h9] at hk; cases hk; exact ⟨by omega, by omega, by omega⟩
        have HWZ := Lib.hid HWz
        have HZ := Lib.hid hz
        have HRZ := Lib.hid hrz
        have HA2 := Lib.hid hA2
        have HG2 := Lib.hid hg2
        have HG2N := Lib.hid hg2n
        have QF := Lib.hid qf
        have TZ := Lib.hid ((Tw.of_below hb1 : Tw w.heap.size [b, m] w w1).trans (tz.mono (n' := w.heap.size) (L' := [b, m]) (by omega) (fun a ha => .inl ha)))
        clear HWz hz hrz hA2 hg2 hg2n qf tz hvo
        obtain ⟨R, hR⟩ : ∃ R, makesR ws.most bs s = R := ⟨_, rfl⟩
        rw [hR] at HE HW HS HWZ HZ ⊢
        obtain ⟨err, sR⟩ := R
        obtain ⟨cst, hcst⟩ : ∃ c : Nat, costL [bs] = c := ⟨_, rfl⟩
        rw [hcst] at x2
        have HC := Lib.hid hcst
        clear hR hcst
        by_cases he : err = 0
        · subst he
          have hE := HE.out
          have hW := HW.out
          have hS := HS.out
          rw [if_pos rfl] at hW
          dsimp only at hE hS
          subst hE hW hS
          clear HE HW HS
          go_wp2
          go_ret
          have ht : Tw wz.heap.size [q] wz (wz.setCell ⟨q, 4, none⟩ (.bool false)) := (Tw.refl _ _ _).setCell (.inl (by simp)) _ _
          have hd6 := HZ.out.tw ht (fun a ha => by simp at ha; rw [ha]; exact hqA) (by simp; exact HH.out.qb.symm) (by simp; exact HH.out.qm.symm)
          have hr6 := HRZ.out.turn ht.size (Ext.refl _ A2) (fun k hk hkA => ht.block k hk (fun e => hkA (by simp at e; rw [e]; exact hqA))) (fun k hk => ht.block k (HZ.out.lt _ (HRZ.out.2.1 k hk)) (by simp; exact (HG2N.out k hk).1))
          refine ⟨rfl, A2, g2, HA2.out.mono (by omega), ?_, by rw [← HC.out]; exact WalIs.resaid hd6 hr6 hqA HH.out.qb HH.out.qm HG2N.out (by rw [World.cell?_setCell_other _ _ _ _ (by simp)]; exact q0) (by rw [World.cell?_setCell_other _ _ _ _ (by simp)]; exact q1) (by rw [World.cell?_setCell_other _ _ _ _ (by simp)]; exact q2) (by rw [World.cell?_setCell_other _ _ _ _ (by simp)]; exact q3) (by rw [cell_set]; simp [q4]) (fun o => by rw [World.frozen?_setCell]; exact QF.out o), ?_⟩
          · rcases HG2.out with h9 | ⟨k', h9, h8⟩
            · have h10 : RowIs wz A2 (.slice ar 1 kr) g2 [bs] := HRZ.out
              exact absurd h9 (HRZ.out.there (by simp))
            · exact .inr ⟨k', h9, by omega⟩
          · exact ((((TZ.out.mono (n' := w.heap.size) (L' := b :: m :: q :: g.toList) (Nat.le_refl _) (fun a ha => .inl (by simp at ha; rcases ha with rfl | rfl <;> simp))).setCell (.inl (by simp)) _ _).setCell (.inl (by simp)) _ _).setCell (.inl (by simp)) _ _).setCell (.inl (by simp)) _ _
        · have hne : (err != 0) = true := by simpa using he
          have hE := HE.out
          have hW := HW.out
          have hS := HS.out
          rw [if_neg he] at hW
          dsimp only at hE hS
          subst hE hW hS
          clear HE HW HS
          go_wp2
          go_ret
          exact ⟨rfl, A2, g, HA2.out.mono (by omega), GNew.refl _ _, HWZ.out.setBroken true, (TZ.out.mono (n' := w.heap.size) (L' := b :: m :: q :: g.toList) (Nat.le_refl _) (fun a ha => .inl (by simp at ha; rcases ha with rfl | rfl <;> simp))).setCell (.inl (by simp)) _ _⟩
  · have hE := HE.out
    have hW := HW.out
    have hS := HS.out
    rw [if_pos ha] at hE hW hS
    subst hE hW hS
    clear HE HW HS
    go_wp2
    go_ret
    exact ⟨rfl, A, g, Ext.refl _ _, GNew.refl _ _, HH1.out, Tw.of_below hb1⟩
end
end Go.Proofs.YtkekidjjmcmjhaaGreat
