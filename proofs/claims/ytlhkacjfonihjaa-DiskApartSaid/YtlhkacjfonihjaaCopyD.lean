/- Copy: a disk that is the same. -/
import Derived.Test.YtlhkacjfonihjaaDLaw
namespace Go.Proofs.Ytlhkacjfonihjaa
open Go.RowKit
set_option maxRecDepth 100000

theorem Tw.grown {n r : Nat} {L : List Nat} {w w' : World} (h : w.grownBy w' (some r)) (hr : r ∈ L) (hn : n ≤ w.heap.size) : Tw n L w w' :=
  ⟨h.os, h.tape, h.output, h.size, fun k hk hn' => h.block k (by omega) (fun e => hn' (by cases e; exact hr))⟩

section
variable {w : World} {A : List Nat} {b m : Nat} {s : DS}

theorem f_mapsClone {n : Nat} {F : Int → Option Value} (h : Mp Try.prog 3 w m n F) : Calls Try.prog 49 #[.map (some m)] w fun e w' =>
    e = .returned (.map (some w.heap.size)) ∧ Mp Try.prog 3 w' w.heap.size n F ∧ Below w.heap.size w w' ∧ w'.heap.size = w.heap.size + 1 := by
  obtain ⟨D, ⟨es, clock, hb, F', hs, hDD⟩, hD⟩ := h
  refine (AnyW.maps_Clone Try.cloneA m es clock w hb).mono fun e w' ⟨he, hw⟩ => ?_
  subst hw
  exact ⟨he, ⟨D, ⟨es, clock, (MapKept.heap_alloc w _).1, F', hs, hDD⟩, hD⟩, (Below.refl _ _).alloc (Nat.le_refl _) _, by simp⟩

set_option maxRecDepth 100000 in
set_option maxHeartbeats 4000000 in
theorem f_Copy (h : Disk w A b m s) (hok : s.Ok) : Calls Try.prog 22 #[DP b] w fun e w' =>
    ∃ b' m', e = .returned (DP b') ∧ w.heap.size ≤ b' ∧ w.heap.size ≤ m' ∧ Disk w' (b' :: m' :: A) b m s ∧ Disk w' (b' :: m' :: A) b' m' s ∧ Below w.heap.size w w' := by
  obtain ⟨G, g1, g2⟩ := h.files
  have c0 := h.c0
  have c1 := h.c1
  have c2 := h.c2
  have c3 := h.c3
  have c4 := h.c4
  have c5 := h.c5
  have hbl := h.blt
  have hml := h.mlt
  have HD := Lib.hid h
  have HOK := Lib.hid hok
  have G2 := Lib.hid g2
  clear h g2 hok
  go_enter Try.func22, Try.ntmps22
  go_wp2_with fail
  have hb0 : Below w.heap.size w (w.alloc (.cells #[.int .i64 s.room, .map (some m), .int .i64 s.ops, .int .i64 s.armed, .int .i64 s.failing, .bool s.dead] 71)) := (Below.refl _ _).alloc (Nat.le_refl _) _
  refine (f_mapsClone (g1.below hb0 hml)).mono ?_
  rintro e w1 ⟨rfl, hm1, hb1, hs1⟩
  simp only [World.size_alloc] at hm1 hb1 hs1 ⊢
  have k0 : ∀ i, w1.cell? ⟨w.heap.size, i, none⟩ = _ := fun i => hb1.cell (p := ⟨w.heap.size, i, none⟩) (by dsimp; omega)
  have kf : ∀ i, w1.frozen? ⟨w.heap.size, i, none⟩ = false := fun i => by rw [hb1.frozen (p := ⟨w.heap.size, i, none⟩) (by dsimp; omega)]; go_simp
  have kf1 := kf 1
  have p0 := (k0 0).trans (show _ = some (.int .i64 s.room) by go_simp)
  have p1 := (k0 1).trans (show _ = some (.map (some m)) by go_simp)
  have p2 := (k0 2).trans (show _ = some (.int .i64 s.ops) by go_simp)
  have p3 := (k0 3).trans (show _ = some (.int .i64 s.armed) by go_simp)
  have p4 := (k0 4).trans (show _ = some (.int .i64 s.failing) by go_simp)
  have p5 := (k0 5).trans (show _ = some (.bool s.dead) by go_simp)
  have HB01 := Lib.hid (hb0.trans (hb1.mono (by omega)))
  clear k0 hb0 hb1 c0 c1 c2 c3 c4 c5
  go_wp2_with (at_range; refine Hid.out ?_)
  refine Lib.hid ?_
  obtain ⟨W2, hW2⟩ : ∃ W2, w1.setCell ⟨w.heap.size, 1, none⟩ (.map (some (w.heap.size + 1))) = W2 := ⟨_, rfl⟩
  have q0 : W2.cell? ⟨w.heap.size, 0, none⟩ = some (.int .i64 s.room) := by rw [← hW2]; simp [cell_set, p0]
  have q1 : W2.cell? ⟨w.heap.size, 1, none⟩ = some (.map (some (w.heap.size + 1))) := by rw [← hW2]; simp [cell_set, p1]
  have q2 : W2.cell? ⟨w.heap.size, 2, none⟩ = some (.int .i64 s.ops) := by rw [← hW2]; simp [cell_set, p2]
  have q3 : W2.cell? ⟨w.heap.size, 3, none⟩ = some (.int .i64 s.armed) := by rw [← hW2]; simp [cell_set, p3]
  have q4 : W2.cell? ⟨w.heap.size, 4, none⟩ = some (.int .i64 s.failing) := by rw [← hW2]; simp [cell_set, p4]
  have q5 : W2.cell? ⟨w.heap.size, 5, none⟩ = some (.bool s.dead) := by rw [← hW2]; simp [cell_set, p5]
  have qf : ∀ i, W2.frozen? ⟨w.heap.size, i, none⟩ = false := fun i => by rw [← hW2, World.frozen?_setCell]; exact kf i
  have hm2 : Mp Try.prog 3 W2 (w.heap.size + 1) 4 G := by rw [← hW2]; exact hm1.setCell (by dsimp; omega) _
  have hB2 : Below w.heap.size w W2 := by rw [← hW2]; exact HB01.out.setCell (Nat.le_refl _) _
  have hs2 : W2.heap.size = w.heap.size + 2 := by rw [← hW2]; simp [hs1]
  have hgW : ∀ y, FileOp W2 ((w.heap.size + 2) :: w.heap.size :: (w.heap.size + 1) :: A) (G y) (s.fl y) := fun y =>
    (G2.out y).turn hB2.size (fun a ha => by simp only [List.mem_cons] at ha; rcases ha with rfl | rfl | rfl | ha; exact .inr (by omega); exact .inr (by omega); exact .inr (by omega); exact .inl ha) (fun k hk _ => hB2.block k hk)
  rw [hW2]
  have HW := Lib.hid hgW
  clear hW2 p0 p1 p2 p3 p4 p5 kf kf1 hm1 hgW HB01 g1
  refine wp_range _ rfl _ 69 rfl 3 82 Try.underlying3 Try.underlying69 (w.heap.size + 1) 4 rfl hm2 ?_
  intro w3 cnt0 hr0 hg0 hs0
  rw [hs2] at hr0 hs0 ⊢
  have hb3 : Below W2.heap.size W2 w3 := (Below.refl _ _).grown hg0 (Nat.le_refl _) (fun k hk => by cases hk)
  have HR0 := Lib.hid hr0
  have HB3 := Lib.hid hb3
  clear hr0 hg0 hb3 hm2
  go_wp2
  go_frame
  go_loopw [] (fun wr => ∃ G' left cnt, MpR Try.prog 3 wr (w.heap.size + 1) (w.heap.size + 2) 4 G' left cnt ∧ (∀ y, FileOp wr ((w.heap.size + 2) :: w.heap.size :: (w.heap.size + 1) :: A) (G' y) (s.fl y)) ∧ Below w.heap.size w wr ∧ wr.heap[w.heap.size]? = W2.heap[w.heap.size]? ∧ w.heap.size + 3 ≤ wr.heap.size) (fun wr => wr.rangeLeft (w.heap.size + 1) (w.heap.size + 2))
  case atStart =>
    exact ⟨G, _, _, HR0.out, fun y => (HW.out y).turn HB3.out.size (fun a ha => .inl ha) (fun k hk _ => HB3.out.block k hk), hB2.trans (HB3.out.mono (by omega)), HB3.out.block _ (by omega), by omega⟩
  case round =>
    obtain ⟨G', left, cnt, hr, hg, hB, hkb, hsz⟩ := hrel
    have k1 : wr.cell? ⟨w.heap.size, 1, none⟩ = some (.map (some (w.heap.size + 1))) := (World.cell?_of_block hkb).trans q1
    have HG := Lib.hid hg
    have HKB := Lib.hid hkb
    go_wp2_with (at_next; refine wp_next _ rfl _ rfl 3 Try.underlying3 FV (w.heap.size + 1) (w.heap.size + 2) 4 _ rfl hr (files_inv hg) (fun hdone => Hid.out ?_) (fun x c w4 cnt1 hx hl hG hr1 hlt hg1 hs1 hen => Hid.out ?_))
    · refine Lib.hid ?_
      go_wp2
      go_ret
      have d1 := HD.out.more hB (C := [w.heap.size, w.heap.size + 1]) (by intro a ha; simp at ha; omega)
      have hc : ∀ i, wr.cell? ⟨w.heap.size, i, none⟩ = W2.cell? ⟨w.heap.size, i, none⟩ := fun i => World.cell?_of_block hkb
      have hf : ∀ i, wr.frozen? ⟨w.heap.size, i, none⟩ = W2.frozen? ⟨w.heap.size, i, none⟩ := fun i => World.frozen?_of_block hkb
      refine ⟨_, w.heap.size + 1, rfl, Nat.le_refl _, by omega, d1, ⟨(hc 0).trans q0, (hc 1).trans q1, (hc 2).trans q2, (hc 3).trans q3, (hc 4).trans q4, (hc 5).trans q5, fun i => (hf i).trans (qf i), ⟨G', hr.owns, fun y => (hg y).turn (Nat.le_refl _) (fun a ha => .inl (List.mem_cons_of_mem _ ha)) (fun _ _ _ => rfl)⟩, ?_, by simp, by simp, by omega⟩, hB⟩
      intro a ha
      simp only [List.mem_cons] at ha
      rcases ha with rfl | rfl | ha
      · omega
      · omega
      · have := HD.out.lt a ha; omega
    · refine Lib.hid ?_
      obtain ⟨⟨ad, n, cp⟩, y, kp⟩ := c
      have hgx := hg x
      rw [hG] at hgx
      obtain ⟨f, hf, sl, he, hby, hnb⟩ : ∃ f, s.fl x = some f ∧ FileIs wr ((w.heap.size + 2) :: w.heap.size :: (w.heap.size + 1) :: A) (FV ((ad, n, cp), y, kp)) f := by
        cases hf : s.fl x with
        | none => rw [hf] at hgx; exact hgx.elim
        | some f => rw [hf] at hgx; exact ⟨f, rfl, hgx⟩
      simp only [FV, Value.agg.injEq, Array.mk.injEq, List.cons.injEq, Value.int.injEq, Value.bool.injEq, true_and, and_true] at he
      obtain ⟨rfl, rfl, rfl⟩ := he
      have hlen := len_le HOK.out hf
      have t1 : Tw wr.heap.size [w.heap.size + 2, w.heap.size + 1] wr w4 := Tw.grown hg1 (by simp) (Nat.le_refl _)
      have hby4 : Byt w4 (.slice ad n cp) f.bs := hby.turn t1.size fun ad' n' c' e => t1.block _ (hnb ad' n' c' e).1 (fun hc => (hnb ad' n' c' e).2 (by simp only [List.mem_cons, List.not_mem_nil, or_false] at hc ⊢; rcases hc with hc | hc; exact .inl hc; exact .inr (.inr (.inl hc))))
      have k4 : w4.cell? ⟨w.heap.size, 1, none⟩ = some (.map (some (w.heap.size + 1))) := (t1.cell (p := ⟨w.heap.size, 1, none⟩) (by dsimp; omega) (by simp)).trans k1
      have HBY := Lib.hid hby4
      have T1 := Lib.hid t1
      have HR1 := Lib.hid hr1
      have HGx := Lib.hid hG
      have EL := Lib.hid hr.left_eq
      have HS1 := Lib.hid hs1
      clear hby4 hby hnb hgx t1 hr1 hG hr hg hkb k1 hs1
      go_wp2_with fail
      refine (f_bytesClone _ f.bs _ (HBY.out.grown ((Below.refl _ _).alloc (Nat.le_refl _) _)) (by omega)).mono ?_
      rintro e w5 ⟨⟨v5, rfl, own5⟩, hb5⟩
      obtain ⟨p5, n5, c5, rfl, hp5⟩ := own_slice own5
      simp only [World.size_alloc] at hb5 hp5 own5
      have z0 : w5.cell? ⟨w4.heap.size, 0, none⟩ = some (.slice ad n cp) := by rw [hb5.cell (p := ⟨w4.heap.size, 0, none⟩) (by dsimp; omega)]; go_simp
      have z1 : w5.cell? ⟨w4.heap.size, 1, none⟩ = some (.int .i64 f.sy) := by rw [hb5.cell (p := ⟨w4.heap.size, 1, none⟩) (by dsimp; omega)]; go_simp
      have z2 : w5.cell? ⟨w4.heap.size, 2, none⟩ = some (.bool f.kp) := by rw [hb5.cell (p := ⟨w4.heap.size, 2, none⟩) (by dsimp; omega)]; go_simp
      have zf : w5.frozen? ⟨w4.heap.size, 0, none⟩ = false := by rw [hb5.frozen (p := ⟨w4.heap.size, 0, none⟩) (by dsimp; omega)]; go_simp
      have hs4 := T1.out.size
      have k5 : w5.cell? ⟨w.heap.size, 1, none⟩ = some (.map (some (w.heap.size + 1))) := by
        rw [hb5.cell (p := ⟨w.heap.size, 1, none⟩) (by dsimp; omega), ((Below.refl w4.heap.size w4).alloc (Nat.le_refl _) _).cell (p := ⟨w.heap.size, 1, none⟩) (by dsimp; omega)]; exact k4
      have hblk : ∀ u k, k < w4.heap.size → (w5.setCell ⟨w4.heap.size, 0, none⟩ u).heap[k]? = w4.heap[k]? := fun u k hk => by
        rw [RowKit.Below.heap_setCell _ _ _ _ (by dsimp; omega), hb5.block k (by omega)]
        exact (MapKept.heap_alloc _ _).2 k hk
      have hr5 : ∀ u, MpR Try.prog 3 (w5.setCell ⟨w4.heap.size, 0, none⟩ u) (w.heap.size + 1) (w.heap.size + 2) 4 G' (fun z => left z && !decide (z = x)) cnt1 := fun u => HR1.out.block (hblk u _ (by omega)) (hblk u _ (by omega))
      have HR5 := Lib.hid hr5
      have HBLK := Lib.hid hblk
      have HB5 := Lib.hid hb5
      have OWN5 := Lib.hid own5
      clear hr5 hblk hb5 own5
      go_wp2_with (at_mapUpdate; refine wp_storeR _ rfl _ _ _ 69 rfl 3 82 Try.underlying3 Try.underlying69 (w.heap.size + 1) (w.heap.size + 2) 4 cnt1 rfl (HR5.out _) (by unfold maxLen; omega) x (.agg #[.slice p5 n5 c5, .int .i64 f.sy, .bool f.kp]) rfl rfl hx _ HGx.out ?_; intro w6 hr6 hmt; refine Hid.out ?_)
      refine Lib.hid ?_
      have hs5 := HB5.out.size
      have T6 : Tw wr.heap.size [w.heap.size + 2, w.heap.size + 1] wr w6 := ((T1.out.trans (Tw.of_below (((Below.refl w4.heap.size w4).alloc (Nat.le_refl _) _).mono hs4))).trans (Tw.of_below (HB5.out.mono (by omega)))).setCell (b := w4.heap.size) (.inr hs4) 0 _ |>.mapTurned (by simp) hmt
      have hby6 : Byt w6 (.slice p5 n5 c5) f.bs := (Byt.of_owns OWN5.out rfl).turn (by have := hmt.grown.size; simp at this; omega) fun ad' n' c' e => by
        simp only [Value.slice.injEq] at e
        have := hp5 ad' e.1
        rw [hmt.grown.block _ (by simp; omega) (by simp; omega), RowKit.Below.heap_setCell _ _ _ _ (by dsimp; omega)]
      have HBY6 := Lib.hid hby6
      have HT6 := Lib.hid T6
      have HR6 := Lib.hid hr6
      have hs6 := T6.size
      have hs6' : w5.heap.size ≤ w6.heap.size := by have := hmt.grown.size; simp at this; omega
      clear hby6 T6 hr6 hmt
      go_wp2
      refine ⟨⟨_, _, _, HR6.out, fun z => ?_, hB.trans (HT6.out.below (by omega) (by intro a ha; simp at ha; omega)), (HT6.out.block _ (by omega) (by simp)).trans HKB.out, by omega⟩, by rw [HR6.out.left_eq, EL.out]; exact hlt⟩
      unfold upd
      by_cases e : z = x
      · rw [if_pos e, e, hf]
        refine ⟨_, rfl, HBY6.out, fun ad' n' c' e => ?_⟩
        simp only [Value.slice.injEq] at e
        have hq := hp5 ad' e.1
        refine ⟨by omega, fun hc => ?_⟩
        simp only [List.mem_cons] at hc
        rcases hc with hc | hc | hc | hc
        · omega
        · omega
        · omega
        · have := HD.out.lt _ hc; omega
      · rw [if_neg e]
        exact (HG.out z).turn HT6.out.size (fun a ha => .inl ha) (fun k hk hn => HT6.out.block k hk (fun hc => hn (by simp only [List.mem_cons, List.not_mem_nil, or_false] at hc ⊢; rcases hc with hc | hc; exact .inl hc; exact .inr (.inr (.inl hc)))))
end
end Go.Proofs.Ytlhkacjfonihjaa
