/- wal.makes: a new file with a snapshot that takes the old one's name. -/
import Derived.Test.YtkekidjjmcmjhaaGreatWalQ
namespace Go.Proofs.YtkekidjjmcmjhaaGreat
open Go.RowKit
set_option maxRecDepth 100000
attribute [local irreducible] Der

/-- A row of parts, as a value. -/
def RowIs (w : World) (A : List Nat) (v : Value) (g : Option Nat) (parts : List (List Int)) : Prop :=
  v.ownBlock = g ∧ (∀ k, g = some k → k ∈ A) ∧ ∃ ps : List (Value × List Int), ps.map Prod.snd = parts ∧ w.ownsRow 0 24 1 v ps.length (ps.map Prod.fst) ∧
    ∀ p ∈ ps, Byt w p.1 p.2 ∧ ∀ ad n c, p.1 = .slice (some ad) n c → ad.block < w.heap.size ∧ ad.block ∉ A
def OwnR (B : Nat) (l : List Int) (v : Value) (w : World) : Prop := ∃ p k c, v = .slice p k c ∧ w.ownsRow B 5 1 v l.length (l.map (Value.int .u8))
theorem OwnR.grown {B : Nat} {l : List Int} {v : Value} {w w' : World} (h : OwnR B l v w) (hb : Below w.heap.size w w') : OwnR B l v w' := by
  obtain ⟨p, k, c, e, h⟩ := h
  exact ⟨p, k, c, e, owns_below h hb⟩
theorem OwnR.of {B B' n : Nat} {l : List Int} {v : Value} {w : World} (h : w.ownsRow B' 5 1 v n (l.map (Value.int .u8))) (hn : l.length = n) (hB : B ≤ B') : OwnR B l v w := by
  subst hn
  obtain ⟨p, k, c, e, -⟩ := own_slice h
  exact ⟨p, k, c, e, owns_base h hB⟩

theorem wp_app_eq {P : Program} {o : Oper} {a : Act} {w w' : World} {K : Act → World → Prop} {Q : Exit → Act → World → Prop} (s x : Operand) (t : TypeId) (ho : o.op = .call { callee := .builtin .append, args := #[s, x], argTypes := #[t, t] }) {v y v' : Value} (hs : a.eval s = v) (hx : a.eval x = y)
    (hr : (Builtin.append_ #[t, t] o.type #[v, y]).run P w = .ok v' w') (h : K (a.put o.dst v') w') : Oper.wp P o a w K Q := by
  unfold Oper.wp
  unfold execOp
  simp only [ho, resolve, invoke, builtin, Sem.run_bind, Sem.run_pure, Result.andThen_ok, List.map_toArray, List.map_cons, List.map_nil, hs, hx, hr]
  exact h
theorem run_app_byt (w : World) (base : Nat) (v : Value) (n : Nat) (xs : List Value) (hown : w.ownsRow base 5 1 v n xs) (y : Value) (l : List Int) (hy : Byt w y l) (hn : n + l.length ≤ 1000000) (hbase : base ≤ w.heap.size) :
    ∃ v' w', (Builtin.append_ #[24, 24] 24 #[v, y]).run Tryz.prog w = .ok v' w' ∧ w'.ownsRow base 5 1 v' (n + l.length) (xs ++ l.map (Value.int .u8)) ∧ Below base w w' := by
  obtain ⟨i0, hi, hz0, hz1, hz2⟩ := info_parts info_byte
  obtain ⟨p, cap, rfl, hle, hmx, hc⟩ := hy.1.form
  cases p with
  | none =>
    have en : l = [] := hy.none_nil
    obtain ⟨h0, rfl⟩ := hy.2.of_none
    subst en
    refine ⟨v, w, ?_, by simpa using hown, Below.refl _ _⟩
    exact run_append_owned_none (P := Tryz.prog) w base 24 24 5 i0 1 Tryz.underlying24 hi v n xs hown
  | some ad =>
    obtain ⟨v', w', h1, h2, h3, -⟩ := run_append_own (P := Tryz.prog) w base 24 24 5 i0 (.int .u8 0) 1 1 Tryz.underlying24 hi hz0 hz1 hz2 rfl (by decide) v n xs hown ad l.length cap (l.map (Value.int .u8)) (by simp) (hy.1.news (Below.refl _ _)) (Byt.one _) (by unfold maxLen; omega) (by omega) hbase
    exact ⟨v', w', h1, h2, ⟨h3.os, h3.tape, h3.output, h3.size, fun k hk => h3.block k (Nat.lt_of_lt_of_le hk hbase) (fun e => by have := (hown.lt k e.symm).1; omega)⟩⟩

section
variable {w w' : World} {A A' : List Nat} {q b m : Nat} {g : Option Nat} {most : Int} {parts : List (List Int)} {s : DS}

theorem SaidIs.rowIs (h : SaidIs w A q g most parts) : ∃ v, w.cell? ⟨q, 1, none⟩ = some v ∧ RowIs w A v g parts := by
  obtain ⟨v, c1, hv, ps, h1, h2, h3⟩ := h.row
  exact ⟨v, c1, hv, fun k hk => (h.hg k hk).1, ps, h1, h2, h3⟩
theorem RowIs.turn {v : Value} (h : RowIs w A v g parts) (hs : w.heap.size ≤ w'.heap.size) (hA : Ext w.heap.size A A') (hb : ∀ k, k < w.heap.size → k ∉ A → w'.heap[k]? = w.heap[k]?) (h2 : ∀ k, g = some k → w'.heap[k]? = w.heap[k]?) : RowIs w' A' v g parts := by
  obtain ⟨hv, hg, ps, hps, ho, hby⟩ := h
  refine ⟨hv, fun k hk => hA.1 _ (hg k hk), ps, hps, own_keep ho (fun k hk => h2 k (hv ▸ hk)), fun p hp => ⟨(hby p hp).1.turn' (hby p hp).2 hs hb, fun ad n c e => ?_⟩⟩
  obtain ⟨h3, h4⟩ := (hby p hp).2 ad n c e
  refine ⟨by omega, fun hc => ?_⟩
  rcases hA.2 _ hc with h5 | h5
  · exact h4 h5
  · omega
theorem RowIs.slice {v : Value} (h : RowIs w A v g parts) : ∃ a c, v = .slice a parts.length c ∧ parts.length ≤ c ∧ c ≤ 9223372036854775807 := by
  obtain ⟨hv, hg, ps, hps, ho, hby⟩ := h
  have hl : parts.length = ps.length := by rw [← hps]; simp
  obtain ⟨a, cap, e, h1, h2, -⟩ := (Sl.of_owns ho).form
  exact ⟨a, cap, hl ▸ e, by omega, h2⟩

set_option maxHeartbeats 4000000 in
theorem f_makes1 (h : Disk w A b m s) (hok : s.Ok) (hop : s.ops < 1000000) (most : Int) (h0 : 0 ≤ most) (h1 : most ≤ 1000000) (v : Value) (snap : List Int) (hv : Byt w v snap) (hn : snap.length ≤ 90000) (hb : Byte snap) (r1 r2 r3 : Nat)
    (k1 : w.cell? ⟨r1, 0, none⟩ = some (DP b)) (k2 : w.cell? ⟨r2, 0, none⟩ = some (.int .i64 most)) (k3 : w.cell? ⟨r3, 0, none⟩ = some v) (n1 : r1 ∉ [b, m]) (n2 : r2 ∉ [b, m]) (n3 : r3 ∉ [b, m]) :
    Calls Tryz.prog 94 #[SP r1, SP r2, SP r3] w fun e w' => e = .returned (.int .i64 (appR 1 (headB most ++ framB 0 snap) s).1) ∧ Disk w' A b m (appR 1 (headB most ++ framB 0 snap) s).2 ∧ Tw w.heap.size [b, m] w w' := by
  have HD := Lib.hid h
  have hbl := h.blt
  have hml := h.mlt
  have HV := Lib.hid hv
  obtain ⟨av, cv, rfl, -⟩ := hv.open
  have z1 := World.block_lt_of_cell? w _ k1
  have z2 := World.block_lt_of_cell? w _ k2
  have z3 := World.block_lt_of_cell? w _ k3
  dsimp only at z1 z2 z3
  have HL1 := Lib.hid (headB_len most)
  have HL2 := Lib.hid (framB_len 0 snap)
  have e1 : (appR 1 (headB most ++ framB 0 snap) s).1 = appendE s 1 (headB most ++ framB 0 snap) := rfl
  have e2 : (appR 1 (headB most ++ framB 0 snap) s).2 = appendS s 1 (headB most ++ framB 0 snap) := rfl
  rw [e1, e2]
  clear h hv e1 e2
  go_enter Tryz.func94, Tryz.ntmps94
  go_wp2_with fail
  refine wp_region_held_drew (S := fun W => Tw w.heap.size [b, m] w W) (by kernel_rfl) (Tw.of_below ((Below.refl _ _).drew)) (fun hHeld => ?_)
  refine wpAnyH_take (i := 0) (v := ?_) rfl (by kernel_rfl) (by kernel_rfl) (by kernel_rfl) (fun _ _ _ h => h) (Or.inl ⟨by rfl, ?_⟩) (by assumption) ?_
  rotate_left
  · (intro wS hSw; have y1 := (hSw.cell (p := ⟨r1, 0, none⟩) z1 n1).trans k1; have y2 := (hSw.cell (p := ⟨r2, 0, none⟩) z2 n2).trans k2; have y3 := (hSw.cell (p := ⟨r3, 0, none⟩) z3 n3).trans k3; (try dsimp only at hSw); (try go_simp); first | done | with_reducible rfl | rfl)
  simp only [Act.put, List.setIfInBounds_toArray, List.set_cons_succ, List.set_cons_zero, Nat.reduceAdd]
  refine wpAnyH_take (i := 1) (v := ?_) rfl (by kernel_rfl) (by kernel_rfl) (by kernel_rfl) (fun _ _ _ h => h) (Or.inl ⟨by rfl, ?_⟩) (by assumption) ?_
  rotate_left
  · (intro wS hSw; have y1 := (hSw.cell (p := ⟨r1, 0, none⟩) z1 n1).trans k1; have y2 := (hSw.cell (p := ⟨r2, 0, none⟩) z2 n2).trans k2; have y3 := (hSw.cell (p := ⟨r3, 0, none⟩) z3 n3).trans k3; (try dsimp only at hSw); (try go_simp); first | done | with_reducible rfl | rfl)
  simp only [Act.put, List.setIfInBounds_toArray, List.set_cons_succ, List.set_cons_zero, Nat.reduceAdd]
  refine wpAnyH_take (i := 3) (v := ?_) rfl (by kernel_rfl) (by kernel_rfl) (by kernel_rfl) (fun _ _ _ h => h) (Or.inl ⟨by rfl, ?_⟩) (by assumption) ?_
  rotate_left
  · (intro wS hSw; have y1 := (hSw.cell (p := ⟨r1, 0, none⟩) z1 n1).trans k1; have y2 := (hSw.cell (p := ⟨r2, 0, none⟩) z2 n2).trans k2; have y3 := (hSw.cell (p := ⟨r3, 0, none⟩) z3 n3).trans k3; (try dsimp only at hSw); (try go_simp); first | done | with_reducible rfl | rfl)
  simp only [Act.put, List.setIfInBounds_toArray, List.set_cons_succ, List.set_cons_zero, Nat.reduceAdd]
  refine wpAnyH_ready (rs := [2]) (by kernel_rfl) (by simp) (AllReadyH.cons rfl (fun K hK => ?_) AllReadyH.nil)
  go_simp
  refine (f_head most _ h0 h1).mono ?_
  rintro e w2 ⟨⟨v2, rfl, own2⟩, hb2⟩
  have b2 : Below w.heap.size w w2 := (Below.refl _ _).drew.trans hb2
  obtain ⟨p2, q2, c2, rfl, own2⟩ : OwnR w.heap.size (headB most) v2 w2 := OwnR.of own2 rfl (by simp)
  go_wp2_with fail
  refine hK.out _ _ (Tw.of_below b2) (fun hHeld => ?_)
  clear hK K
  refine wpAnyH_ready (rs := [4]) (by kernel_rfl) (by simp) (AllReadyH.cons rfl (fun K hK => ?_) AllReadyH.nil)
  go_simp
  refine (f_frame 0 _ snap w2 (HV.out.grown b2) hn (by omega) hb).mono ?_
  rintro e w3 ⟨⟨v3, rfl, own3⟩, hb3⟩
  have b3 : Below w.heap.size w w3 := b2.trans (hb3.mono b2.size)
  obtain ⟨p3, q3, c3, rfl, -⟩ := own_slice own3
  have HB3 := Lib.hid (Byt.of_owns own3 rfl)
  have HO2 := Lib.hid (owns_below own2 hb3)
  clear own2 own3
  go_wp2_with fail
  refine hK.out _ _ (Tw.of_below b3) (fun hHeld => ?_)
  clear hK K
  obtain ⟨v4, w4, hr, own4, hb4⟩ := run_app_byt _ _ _ _ _ HO2.out _ _ HB3.out (by rw [HL1.out, HL2.out]; omega) b3.size
  have b4 : Below w.heap.size w w4 := b3.trans hb4
  refine wpAnyH_ready (rs := [5]) (by kernel_rfl) (by simp) (AllReadyH.cons rfl (fun K hK => ?_) AllReadyH.nil)
  rw [if_pos (by rfl)]
  refine wp_app_eq (.tmp 6) (.tmp 8) 24 rfl rfl rfl hr ?_
  clear hr
  simp only [Act.put, List.setIfInBounds_toArray, List.set_cons_succ, List.set_cons_zero, Nat.reduceAdd]
  refine hK.out _ _ (Tw.of_below b4) (fun hHeld => ?_)
  clear hK K
  obtain ⟨p4, q4, c4, rfl, hp4⟩ := own_slice own4
  have HB4 := Lib.hid (Byt.of_owns (l := headB most ++ framB 0 snap) (by rw [List.map_append]; exact own4) (by rw [List.length_append]))
  have HP4 := Lib.hid hp4
  clear own4 hp4
  refine wpAnyH_ready (rs := [6]) (by kernel_rfl) (by simp) (AllReadyH.cons rfl (fun K hK => ?_) AllReadyH.nil)
  go_simp
  refine (f_Append (HD.out.below b4) hok hop 1 (w64 (by omega) (by omega)) _ (headB most ++ framB 0 snap) HB4.out (by rw [List.length_append, HL1.out, HL2.out]; omega) (fun ad n c e => by
    simp only [Value.slice.injEq] at e
    have := HP4.out ad e.1
    omega)).mono ?_
  rintro e w5 ⟨rfl, h5, t5⟩
  have H5 := Lib.hid h5
  have t5a : Tw w.heap.size [b, m] w w5 := (Tw.of_below b4).trans (t5.mono b4.size (fun a ha => .inl ha))
  clear h5
  go_wp2_with fail
  refine hK.out _ _ (t5a) (fun hHeld => ?_)
  clear hK K
  refine wpAnyH_ready (rs := [7]) (by kernel_rfl) (by simp) (AllReadyH.cons rfl (fun K hK => ?_) AllReadyH.nil)
  go_simp
  refine hK.out _ _ (t5a) (fun hHeld => ?_)
  clear hK K
  refine wpAnyH_done (by kernel_rfl) ?_ _
  go_wp2
  go_ret
  exact ⟨rfl, H5.out, t5a⟩

theorem f_makes2 (h : Disk w A b m s) (hok : s.Ok) (hop : s.ops < 1000000) (r1 : Nat) (k1 : w.cell? ⟨r1, 0, none⟩ = some (DP b)) :
    Calls Tryz.prog 95 #[SP r1] w fun e w' => e = .returned (.int .i64 (syncR 1 s).1) ∧ Disk w' A b m (syncR 1 s).2 ∧ Tw w.heap.size [b, m] w w' := by
  have HD := Lib.hid h
  clear h
  go_enter Tryz.func95, Tryz.ntmps95
  go_wp2_with (go_at_call 10; refine (f_Sync HD.out hok hop 1 (w64 (by omega) (by omega))).mono ?_; rintro e w2 ⟨rfl, h2, t2⟩; replace h2 := Lib.hid h2)
  go_ret
  exact ⟨rfl, h2.out, t2⟩
theorem f_makes3 (h : Disk w A b m s) (hok : s.Ok) (hop : s.ops < 1000000) (r1 : Nat) (k1 : w.cell? ⟨r1, 0, none⟩ = some (DP b)) :
    Calls Tryz.prog 96 #[SP r1] w fun e w' => e = .returned (.int .i64 (renR 1 0 s).1) ∧ Disk w' A b m (renR 1 0 s).2 ∧ Tw w.heap.size [b, m] w w' := by
  have HD := Lib.hid h
  clear h
  go_enter Tryz.func96, Tryz.ntmps96
  go_wp2_with (go_at_call 97; refine (f_Rename HD.out hok hop 1 0 (w64 (by omega) (by omega)) (w64 (by omega) (by omega))).mono ?_; rintro e w2 ⟨rfl, h2, t2⟩; replace h2 := Lib.hid h2)
  go_ret
  exact ⟨rfl, h2.out, t2⟩

theorem f_rids (b : Nat) (x : Int) (w : World) : Calls Tryz.prog 46 #[DP b, .int .i64 x] w fun e w' => e = .returned (.func (.func 86) #[] #[SP w.heap.size, SP (w.heap.size + 1)]) ∧ w' = (w.alloc (.cells #[DP b] 25)).alloc (.cells #[.int .i64 x] 3) := by
  go_enter Tryz.func46, Tryz.ntmps46
  go_wp2
  go_ret
  exact ⟨rfl, rfl⟩
end
end Go.Proofs.YtkekidjjmcmjhaaGreat
