/- The contract of Append. -/
import Derived.Test.YtkekidjjmcmjhaaGreatOps2
namespace Go.Proofs.YtkekidjjmcmjhaaGreat
open Go.RowKit
set_option maxRecDepth 100000
attribute [local irreducible] Der

def appF (f : Fi) (bs : List Int) : Fi := ⟨f.bs ++ bs, f.sy, f.kp⟩
def appendE (s : DS) (x : Int) (bs : List Int) : Int := if livesE s [x] ≠ 0 then livesE s [x] else if s.room < (s.used : Int) + bs.length then 6 else meetsE s
def appendS (s : DS) (x : Int) (bs : List Int) : DS := if livesE s [x] ≠ 0 then s else if s.room < (s.used : Int) + bs.length then s else if meetsE s = 8 then meetsS s else { meetsS s with fl := updF s.fl x (some (appF (s.at x) bs)) }

section
variable {w : World} {A : List Nat} {b m : Nat} {s : DS}

theorem Byt.turn {W W' : World} {v : Value} {l : List Int} (h : Byt W v l) (hs : W.heap.size ≤ W'.heap.size) (hb : ∀ ad n c, v = .slice (some ad) n c → W'.heap[ad.block]? = W.heap[ad.block]?) : Byt W' v l := by
  obtain ⟨a, cap, rfl, -⟩ := h.open
  cases a with
  | none =>
    have e1 := h.none_nil
    have e2 := h.2.of_none
    rw [e1] at h ⊢
    rw [e2.2]
    exact Byt.nil _
  | some ad => exact h.block (hb ad _ _ rfl) hs

set_option maxHeartbeats 2000000 in
theorem f_Append (h : Disk w A b m s) (hok : s.Ok) (hop : s.ops < 1000000) (x : Int) (hx : W64 x) (v : Value) (bs : List Int) (hv : Byt w v bs) (hn : bs.length ≤ 100000) (hva : ∀ ad n c, v = .slice (some ad) n c → ad.block < w.heap.size ∧ ad.block ≠ b ∧ ad.block ≠ m) :
    Calls Tryz.prog 9 #[DP b, .int .i64 x, v] w fun e w' => e = .returned (.int .i64 (appendE s x bs)) ∧ Disk w' A b m (appendS s x bs) ∧ Tw w.heap.size [b, m] w w' := by
  have HD := Lib.hid h
  have hbl := h.blt
  have hml := h.mlt
  have hbA := h.hb
  have hmA := h.hm
  have hu : s.used ≤ 65536 := by have := hok.used; have := hok.room2; omega
  have hr2 := hok.room2
  have hr1 := hok.room1
  have sub2 : ∀ n : Nat, ∀ a ∈ [b, m], a ∈ [b, m] ∨ n ≤ a := fun n a ha => .inl ha
  obtain ⟨av, cv, rfl, hvl, hvc, -⟩ := hv.open
  have HV := Lib.hid hv
  have HVA := Lib.hid hva
  have ew : IntKind.i64.wrap ((s.used : Int) + (bs.length : Int)) = (s.used : Int) + bs.length := wr64 (by omega) (by omega)
  have hE : appendE s x bs = if livesE s [x] ≠ 0 then livesE s [x] else if s.room < (s.used : Int) + bs.length then 6 else meetsE s := rfl
  have hS : appendS s x bs = if livesE s [x] ≠ 0 then s else if s.room < (s.used : Int) + bs.length then s else if meetsE s = 8 then meetsS s else { meetsS s with fl := updF s.fl x (some (appF (s.at x) bs)) } := rfl
  obtain ⟨E0, hE0⟩ : ∃ y, appendE s x bs = y := ⟨_, rfl⟩
  obtain ⟨S0, hS0⟩ : ∃ y, appendS s x bs = y := ⟨_, rfl⟩
  rw [hE0] at hE
  rw [hS0] at hS
  rw [hE0, hS0]
  clear h hE0 hS0 hv hva
  go_enter Tryz.func9, Tryz.ntmps9
  go_wp2_with fail
  refine (f_lives (HD.out.below ((Below.refl _ _).alloc (Nat.le_refl _) (.cells #[.int .i64 x] 3))) _ [x] (ints_one w x) (by simp)).mono ?_
  rintro e w1 ⟨rfl, rfl⟩
  dsimp only
  have hb1 : Below w.heap.size w (w.alloc (.cells #[.int .i64 x] 3)) := (Below.refl _ _).alloc (Nat.le_refl _) _
  have h1 := HD.out.below hb1
  obtain ⟨W1, hW1⟩ : ∃ W, w.alloc (.cells #[.int .i64 x] 3) = W := ⟨_, rfl⟩
  have hs1 : W1.heap.size = w.heap.size + 1 := by rw [← hW1]; simp
  rw [hW1] at hb1 h1 ⊢
  have c0 := h1.c0
  have hbl1 := h1.blt
  have H1 := Lib.hid h1
  clear hW1 h1
  by_cases hl : livesE s [x] = 0
  · obtain ⟨hdead, hx0, hx4⟩ := livesE_name hl
    rw [if_neg (by simp [hl])] at hE hS
    rw [hl]
    have HE := Lib.hid hE
    have HS := Lib.hid hS
    clear hl hdead hE hS
    go_wp2
    refine wp_grow [(1, .val (.int .i64 s.used))] 10 (by kernel_rfl) (by kernel_rfl) (by rfl) (by rfl) ?_
    simp only [List.take_succ_cons, List.take_zero, List.drop_succ_cons, List.drop_zero]
    repeat (first
      | (apply Der.quiet; (rfl); (rfl); (intro w' hw' hctx; have hc' := bcell hw'; clear hctx; go_simp; first | exact rfl | exact ⟨rfl, rfl⟩); simp only [Act.put, List.setIfInBounds_toArray, List.set_cons_succ, List.set_cons_zero, Nat.reduceAdd])
      | (apply Der.skip; (rfl); simp only [Act.put, List.setIfInBounds_toArray, List.set_cons_succ, List.set_cons_zero, Nat.reduceAdd]))
    apply Der.val
    · rfl
    · rfl
    · intro w' hw' hctx
      go_simp
      refine (f_used (H1.out.below ((Below.refl _ _).drew.trans hw')) hok).mono ?_
      rintro e w2 ⟨rfl, hb⟩
      exact ⟨_, rfl, rfl, hb⟩
    simp only [Act.put, List.setIfInBounds_toArray, List.set_cons_succ, List.set_cons_zero, Nat.reduceAdd]
    repeat (first
      | (apply Der.quiet; (rfl); (rfl); (intro w' hw' hctx; have hc' := bcell hw'; have y1 := (hw'.cell (p := ⟨b, 0, none⟩) hbl1).trans c0; clear hctx; go_simp; first | exact rfl | exact ⟨rfl, rfl⟩); simp only [Act.put, List.setIfInBounds_toArray, List.set_cons_succ, List.set_cons_zero, Nat.reduceAdd])
      | (apply Der.skip; (rfl); simp only [Act.put, List.setIfInBounds_toArray, List.set_cons_succ, List.set_cons_zero, Nat.reduceAdd]))
    refine Der.nil (fun w2 hgw2 hctx => ?_)
    clear hctx
    have hb2 : Below _ _ w2 := hgw2
    clear hgw2
    have e2 : Below W1.heap.size W1 w2 := (Below.refl _ _).drew.trans hb2
    have H2 := Lib.hid (H1.out.below e2)
    have hs2 := e2.size
    clear c0 hb2
    by_cases hf : s.room < (s.used : Int) + bs.length
    · have hE := HE.out
      have hS := HS.out
      rw [if_pos hf] at hE hS
      subst hE hS
      go_wp2
      go_ret
      exact ⟨rfl, H2.out, Tw.of_below (hb1.trans (e2.mono (by omega)))⟩
    · have hE := HE.out
      have hS := HS.out
      rw [if_neg hf] at hE hS
      have HE1 := Lib.hid hE
      have HS1 := Lib.hid hS
      clear hE hS HE HS
      have hf2 : ¬ (s.room < (s.used : Int) + bs.length) := hf
      go_wp2_with fail
      refine (f_meets H2.out hok hop).mono ?_
      rintro e W4 ⟨rfl, h4, t4⟩
      dsimp only
      have hs4 := t4.size
      have T4 : Tw w.heap.size [b, m] w W4 := (Tw.of_below (hb1.trans (e2.mono (by omega)))).trans (t4.mono (by omega) (sub2 _))
      have H4 := Lib.hid h4
      have hv4 : Byt W4 (.slice av bs.length cv) bs := ((HV.out.grown hb1).grown e2).turn hs4 (fun ad n c e => t4.block _ (by have := (HVA.out ad n c e).1; omega) (by have := HVA.out ad n c e; simp; omega))
      have HV4 := Lib.hid hv4
      clear hv4
      by_cases h8 : meetsE s = 8
      · have hE := HE1.out
        have hS := HS1.out
        rw [if_pos h8] at hS
        rw [h8] at hE ⊢
        subst hE hS
        clear h4 t4
        go_wp2
        go_ret
        exact ⟨rfl, H4.out, T4⟩
      · have hE := HE1.out
        have hS := HS1.out
        rw [if_neg h8] at hS
        have HS2 := Lib.hid hS
        obtain ⟨e1, he1⟩ : ∃ e, meetsE s = e := ⟨_, rfl⟩
        rw [he1] at hE h8 ⊢
        subst hE
        obtain ⟨G, sl, g1, g2, e, -, hB, hap⟩ := h4.look x
        have eat : (meetsS s).at x = s.at x := rfl
        rw [eat] at e hB
        obtain ⟨a0, cap0, rfl, hc0, -⟩ := hB.open
        have hlen : (s.at x).bs.length ≤ 65536 := by
          cases hfx : s.fl x with
          | none => have : (s.at x).bs = [] := by unfold DS.at; rw [hfx]; rfl
                    rw [this]; simp
          | some f => have : s.at x = f := by unfold DS.at; rw [hfx]; rfl
                      rw [this]; exact len_le hok hfx
        have c1 := h4.c1
        have hbl4 := h4.blt
        have E := Lib.hid e
        have HB := Lib.hid hB
        have HAP := Lib.hid hap
        have HNM := Lib.hid (fun y f9 (hy : updF s.fl x (some (appF (s.at x) bs)) y = some f9) => (show 0 ≤ y ∧ y < 4 by
            unfold updF at hy
            split at hy
            · rename_i hyx; subst hyx; exact ⟨hx0, hx4⟩
            · exact hok.name y f9 hy))
        clear e hB hap g2 h4 t4 hS he1 HE1 HS1
        go_wp2_with (first | (at_lookup; refine wp_look _ rfl _ _ 69 rfl 3 75 Tryz.underlying3 Tryz.underlying69 (zero_file _) m 4 rfl g1 x rfl hx _ E.out ?_) | fail)
        have hb5 : Below W4.heap.size W4 ((W4.alloc (.cells #[.slice a0 (s.at x).bs.length cap0, .int .i64 (s.at x).sy, .bool (s.at x).kp] 75)).alloc (.cells #[.slice a0 (s.at x).bs.length cap0, .slice av bs.length cv] 24)) := ((Below.refl _ _).alloc (Nat.le_refl _) _).alloc (by simp) _
        have hsl : Sl ((W4.alloc (.cells #[.slice a0 (s.at x).bs.length cap0, .int .i64 (s.at x).sy, .bool (s.at x).kp] 75)).alloc (.cells #[.slice a0 (s.at x).bs.length cap0, .slice av bs.length cv] 24)) (.slice (some ⟨W4.heap.size + 1, 0, none⟩) 2 2) 2 [.slice a0 (s.at x).bs.length cap0, .slice av bs.length cv] := Sl.fresh _ _ 2 [.slice a0 (s.at x).bs.length cap0, .slice av bs.length cv] (by simp) (by omega)
        have q0 : ((W4.alloc (.cells #[.slice a0 (s.at x).bs.length cap0, .int .i64 (s.at x).sy, .bool (s.at x).kp] 75)).alloc (.cells #[.slice a0 (s.at x).bs.length cap0, .slice av bs.length cv] 24)).cell? ⟨W4.heap.size, 0, none⟩ = some (.slice a0 (s.at x).bs.length cap0) := by go_simp
        have q1 : ((W4.alloc (.cells #[.slice a0 (s.at x).bs.length cap0, .int .i64 (s.at x).sy, .bool (s.at x).kp] 75)).alloc (.cells #[.slice a0 (s.at x).bs.length cap0, .slice av bs.length cv] 24)).cell? ⟨W4.heap.size, 1, none⟩ = some (.int .i64 (s.at x).sy) := by go_simp
        have q2 : ((W4.alloc (.cells #[.slice a0 (s.at x).bs.length cap0, .int .i64 (s.at x).sy, .bool (s.at x).kp] 75)).alloc (.cells #[.slice a0 (s.at x).bs.length cap0, .slice av bs.length cv] 24)).cell? ⟨W4.heap.size, 2, none⟩ = some (.bool (s.at x).kp) := by go_simp
        have q3 : ((W4.alloc (.cells #[.slice a0 (s.at x).bs.length cap0, .int .i64 (s.at x).sy, .bool (s.at x).kp] 75)).alloc (.cells #[.slice a0 (s.at x).bs.length cap0, .slice av bs.length cv] 24)).frozen? ⟨W4.heap.size, 0, none⟩ = false := by go_simp
        have hs5 : ((W4.alloc (.cells #[.slice a0 (s.at x).bs.length cap0, .int .i64 (s.at x).sy, .bool (s.at x).kp] 75)).alloc (.cells #[.slice a0 (s.at x).bs.length cap0, .slice av bs.length cv] 24)).heap.size = W4.heap.size + 2 := by simp
        obtain ⟨W5, hW5⟩ : ∃ W, ((W4.alloc (.cells #[.slice a0 (s.at x).bs.length cap0, .int .i64 (s.at x).sy, .bool (s.at x).kp] 75)).alloc (.cells #[.slice a0 (s.at x).bs.length cap0, .slice av bs.length cv] 24)) = W := ⟨_, rfl⟩
        rw [hW5] at hb5 hsl q0 q1 q2 q3 hs5 ⊢
        clear hW5
        refine (f_Concat _ _ _ (s.at x).bs bs _ hsl (HB.out.grown hb5) (HV4.out.grown hb5) (by omega) (by omega)).mono ?_
        rintro e W6 ⟨⟨v6, rfl, own⟩, hb6⟩
        dsimp only
        obtain ⟨p6, k6, c6, rfl, hp6⟩ := own_slice own
        have hs6 := hb6.size
        have r0 := (hb6.cell (p := ⟨W4.heap.size, 0, none⟩) (by dsimp; omega)).trans q0
        have r1 := (hb6.cell (p := ⟨W4.heap.size, 1, none⟩) (by dsimp; omega)).trans q1
        have r2 := (hb6.cell (p := ⟨W4.heap.size, 2, none⟩) (by dsimp; omega)).trans q2
        have r3 := (hb6.frozen (p := ⟨W4.heap.size, 0, none⟩) (by dsimp; omega)).trans q3
        have hby : Byt W6 (.slice p6 k6 c6) ((s.at x).bs ++ bs) := Byt.of_owns own rfl
        have hby7 : Byt (W6.setCell ⟨W4.heap.size, 0, none⟩ (.slice p6 k6 c6)) (.slice p6 k6 c6) ((s.at x).bs ++ bs) := hby.turn (by simp) (fun ad n c e => RowKit.Below.heap_setCell _ _ _ _ (by
          simp only [Value.slice.injEq] at e
          have := hp6 ad e.1; dsimp; omega))
        have b46 : Below W4.heap.size W4 W6 := hb5.trans (hb6.mono (by omega))
        have b47 : Below W4.heap.size W4 (W6.setCell ⟨W4.heap.size, 0, none⟩ (.slice p6 k6 c6)) := b46.setCell (p := ⟨W4.heap.size, 0, none⟩) (by dsimp; omega) _
        have h7 := H4.out.below b47
        have s0 : (W6.setCell ⟨W4.heap.size, 0, none⟩ (.slice p6 k6 c6)).cell? ⟨W4.heap.size, 0, none⟩ = some (.slice p6 k6 c6) := by rw [cell_set]; simp [r0]
        have s1 : (W6.setCell ⟨W4.heap.size, 0, none⟩ (.slice p6 k6 c6)).cell? ⟨W4.heap.size, 1, none⟩ = some (.int .i64 (s.at x).sy) := by rw [cell_set]; simp [r1]
        have s2 : (W6.setCell ⟨W4.heap.size, 0, none⟩ (.slice p6 k6 c6)).cell? ⟨W4.heap.size, 2, none⟩ = some (.bool (s.at x).kp) := by rw [cell_set]; simp [r2]
        have hs7 : (W6.setCell ⟨W4.heap.size, 0, none⟩ (.slice p6 k6 c6)).heap.size = W6.heap.size := by simp
        obtain ⟨W7, hW7⟩ : ∃ W, W6.setCell ⟨W4.heap.size, 0, none⟩ (.slice p6 k6 c6) = W := ⟨_, rfl⟩
        rw [hW7] at hby7 b47 h7 s0 s1 s2 hs7
        obtain ⟨G7, g71, g72⟩ := h7.files
        have c7 := h7.c1
        have hbl7 := h7.blt
        have H7 := Lib.hid h7
        have HB7 := Lib.hid hby7
        have HP6 := Lib.hid hp6
        have G72 := Lib.hid g72
        have hlq : W4.heap.size < W7.heap.size := by omega
        clear own hby hby7 h7 hp6 g72 q0 q1 q2 q3 hsl r1 r2 g1 c1 E HB HAP
        go_wp2
        refine wp_grow [] 6 (by kernel_rfl) (by kernel_rfl) (by rfl) (by rfl) ?_
        simp only [List.take_succ_cons, List.take_zero, List.drop_succ_cons, List.drop_zero]
        repeat (first
          | (apply Der.quiet; (rfl); (rfl); (intro w' hw' hctx; have hc' := bcell hw'; have y1 := (hw'.cell (p := ⟨b, 1, none⟩) hbl7).trans c7; have y2 := (hw'.cell (p := ⟨W4.heap.size, 0, none⟩) hlq).trans s0; have y3 := (hw'.cell (p := ⟨W4.heap.size, 1, none⟩) hlq).trans s1; have y4 := (hw'.cell (p := ⟨W4.heap.size, 2, none⟩) hlq).trans s2; clear hctx; go_simp; first | exact rfl | exact ⟨rfl, rfl⟩); simp only [Act.put, List.setIfInBounds_toArray, List.set_cons_succ, List.set_cons_zero, Nat.reduceAdd])
          | (apply Der.skip; (rfl); simp only [Act.put, List.setIfInBounds_toArray, List.set_cons_succ, List.set_cons_zero, Nat.reduceAdd]))
        refine Der.nil (fun w8 hgw8 hctx => ?_)
        clear hctx
        have hb8 : Below _ _ w8 := hgw8
        clear hgw8
        have e8 : Below W7.heap.size W7 w8 := (Below.refl _ _).drew.trans hb8
        have H8 := Lib.hid (H7.out.below e8)
        have g81 := g71.below e8 H7.out.mlt
        go_wp2_with (at_mapUpdate; refine wp_store _ rfl _ _ _ 69 rfl 3 75 Tryz.underlying3 Tryz.underlying69 m 4 rfl g81 (by unfold maxLen; omega) x (.agg #[.slice p6 k6 c6, .int .i64 (s.at x).sy, .bool (s.at x).kp]) rfl rfl hx ?_; intro w9 g9 hmt)
        go_ret
        have g82 : ∀ y, FileOp w8 A (G7 y) ((meetsS s).fl y) := fun y => (G72.out y).turn e8.size (fun a ha => .inl ha) (fun k hk _ => e8.block k hk)
        have hfo : FileOp w8 A (some (.agg #[.slice p6 k6 c6, .int .i64 (s.at x).sy, .bool (s.at x).kp])) (some (appF (s.at x) bs)) := by
          refine FileIs.turn (w := W7) (A := A) ⟨_, rfl, HB7.out, fun ad n c e => ?_⟩ e8.size (fun a ha => .inl ha) (fun k hk _ => e8.block k hk)
          simp only [Value.slice.injEq] at e
          have h9 := HP6.out ad e.1
          exact ⟨by omega, fun hc => by have := H4.out.lt _ hc; omega⟩
        have h9 := H8.out.mapped g82 rfl _ g9 hmt hfo HNM.out
        have t9 : Tw W4.heap.size [b, m] W4 w9 := (Tw.of_below (b47.trans (e8.mono (by omega)))).mapTurned (by simp) hmt
        rw [HS2.out]
        exact ⟨rfl, h9, T4.trans (t9.mono (by omega) (sub2 _))⟩
  · rw [if_pos hl] at hE hS
    subst hE hS
    obtain ⟨e1, he1⟩ : ∃ e, livesE S0 [x] = e := ⟨_, rfl⟩
    have HQ := Lib.hid he1
    rw [he1] at hl ⊢
    clear he1
    go_wp2
    go_ret
    exact ⟨by rw [HQ.out]; rfl, H1.out, Tw.of_below hb1⟩
end
end Go.Proofs.YtkekidjjmcmjhaaGreat
