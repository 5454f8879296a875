/- The contract of with: an operation on a file that is there. -/
import Derived.Test.YtkekidjjmcmjhaaGreatDiskE
import Derived.Test.YtkekidjjmcmjhaaGreatRegion
namespace Go.Proofs.YtkekidjjmcmjhaaGreat
open Go.RowKit
set_option maxRecDepth 100000
attribute [local irreducible] Der

def withE (s : DS) (x : Int) (ask : Fi → Int) : Int :=
  if livesE s [x] ≠ 0 then livesE s [x] else match s.fl x with
  | none => 4
  | some f => if ask f ≠ 0 then ask f else meetsE s
def withS (s : DS) (x : Int) (ask : Fi → Int) (doF : Fi → Fi) : DS :=
  if livesE s [x] ≠ 0 then s else match s.fl x with
  | none => s
  | some f => if ask f ≠ 0 then s else if meetsE s ≠ 0 then meetsS s else { meetsS s with fl := updF s.fl x (some (doF f)) }

theorem ints_one (w : World) (x : Int) : Ints (w.alloc (.cells #[.int .i64 x] 3)) (.slice (some ⟨w.heap.size, 0, none⟩) 1 1) [x] := Sl.fresh w _ 1 [.int .i64 x] rfl (by omega)

theorem livesE_name {s : DS} {x : Int} (h : livesE s [x] = 0) : s.dead = false ∧ 0 ≤ x ∧ x < 4 := by
  unfold livesE at h
  cases hd : s.dead with
  | true => simp [hd] at h
  | false =>
    rw [hd] at h
    cases hn : nameB x with
    | false => simp [hn] at h
    | true => simp [nameB] at hn; exact ⟨rfl, hn⟩

/-- What a box holds: a file. -/
structure BoxF (W : World) (A : List Nat) (q : Nat) (f : Fi) : Prop where
  is : ∃ sl, W.cell? ⟨q, 0, none⟩ = some sl ∧ Byt W sl f.bs ∧ ∀ ad n c, sl = .slice (some ad) n c → ad.block < W.heap.size ∧ ad.block ∉ A ∧ ad.block ≠ q
  sy : W.cell? ⟨q, 1, none⟩ = some (.int .i64 f.sy)
  kp : W.cell? ⟨q, 2, none⟩ = some (.bool f.kp)
  fr : ∀ o, W.frozen? ⟨q, o, none⟩ = false
  lt : q < W.heap.size

theorem BoxF.turn {W W' : World} {A : List Nat} {q : Nat} {f : Fi} (h : BoxF W A q f) (hs : W.heap.size ≤ W'.heap.size) (hb : ∀ k, k < W.heap.size → k ∉ A → k ≠ q → W'.heap[k]? = W.heap[k]?) (hq : W'.heap[q]? = W.heap[q]?) : BoxF W' A q f := by
  have hc : ∀ o, W'.cell? ⟨q, o, none⟩ = W.cell? ⟨q, o, none⟩ := fun o => World.cell?_of_block hq
  have hf : ∀ o, W'.frozen? ⟨q, o, none⟩ = W.frozen? ⟨q, o, none⟩ := fun o => World.frozen?_of_block hq
  obtain ⟨sl, h1, h2, h3⟩ := h.is
  refine ⟨⟨sl, (hc 0).trans h1, ?_, fun ad n c e => ⟨Nat.lt_of_lt_of_le (h3 ad n c e).1 hs, (h3 ad n c e).2⟩⟩, (hc 1).trans h.sy, (hc 2).trans h.kp, fun o => (hf o).trans (h.fr o), Nat.lt_of_lt_of_le h.lt hs⟩
  obtain ⟨a, cap, rfl, -⟩ := h2.open
  cases a with
  | none =>
    have e1 := h2.none_nil
    rw [e1] at h2 ⊢
    have e2 := h2.2.of_none
    rw [e2.2]
    exact Byt.nil W'
  | some ad =>
    obtain ⟨g1, g2, g3⟩ := h3 ad _ _ rfl
    exact h2.block (hb _ g1 g2 g3) hs

section
variable {w : World} {A : List Nat} {b m : Nat} {s : DS}

set_option maxHeartbeats 2000000 in
theorem f_with (h : Disk w A b m s) (hok : s.Ok) (hop : s.ops < 1000000) (x : Int) (hx : W64 x) (ka kd : Nat) (la ld : Array Value)
    (ega : ∀ args w, (callFunc ka args).run Tryz.prog w = .ok (.enter ka args) w) (egd : ∀ args w, (callFunc kd args).run Tryz.prog w = .ok (.enter kd args) w)
    (C : List Nat) (hC : ∀ a ∈ C, a ∈ A ∧ a ≠ b ∧ a ≠ m) (ask : Fi → Int) (doF : Fi → Fi) (J : World → Prop) (J' : Fi → World → Prop)
    (hJ : J w) (hJk : ∀ W W', J W → Tw w.heap.size [b, m] W W' → J W') (hJk' : ∀ f W W', J' f W → Tw W.heap.size [b, m] W W' → J' f W')
    (Hask : ∀ W v f, J W → FileIs W A v f → Tw w.heap.size [b, m] w W → s.fl x = some f → Calls Tryz.prog ka (#[v] ++ la) W fun e W' => e = .returned (.int .i64 (ask f)) ∧ Below W.heap.size W W')
    (Hdo : ∀ W q f, J W → BoxF W A q f → w.heap.size ≤ q → Tw w.heap.size [b, m] w W → s.fl x = some f → ask f = 0 → Calls Tryz.prog kd (#[.pointer (some ⟨q, 0, none⟩)] ++ ld) W fun e W' =>
      e = .returned (.tuple #[]) ∧ BoxF W' A q (doF f) ∧ J' f W' ∧ Tw W.heap.size (q :: C) W W') :
    Calls Tryz.prog 39 #[DP b, .int .i64 x, .func (.func ka) #[] la, .func (.func kd) #[] ld] w fun e w' =>
      e = .returned (.int .i64 (withE s x ask)) ∧ Disk w' A b m (withS s x ask doF) ∧ Tw w.heap.size (b :: m :: C) w w' ∧ (withE s x ask ≠ 0 → J w') ∧ (withE s x ask = 0 → ∃ f, s.fl x = some f ∧ J' f w') := by
  have hD := h
  have HD := Lib.hid h
  have hbl := h.blt
  have hbA := h.hb
  have hmA := h.hm
  have sub2 : ∀ n : Nat, ∀ a ∈ [b, m], a ∈ b :: m :: C ∨ n ≤ a := fun n a ha => .inl (by simp at ha; rcases ha with rfl | rfl <;> simp)
  clear h
  go_enter Tryz.func39, Tryz.ntmps39
  clear hD
  go_wp2_with fail
  refine (f_lives (HD.out.below ((Below.refl _ _).alloc (Nat.le_refl _) (.cells #[.int .i64 x] 3))) _ [x] (ints_one w x) (by simp)).mono ?_
  rintro e w1 ⟨rfl, rfl⟩
  have hb1 : Below w.heap.size w (w.alloc (.cells #[.int .i64 x] 3)) := (Below.refl _ _).alloc (Nat.le_refl _) _
  have h1 := HD.out.below hb1
  have hJ1 := hJk _ _ hJ (Tw.of_below hb1)
  obtain ⟨W1, hW1⟩ : ∃ W, w.alloc (.cells #[.int .i64 x] 3) = W := ⟨_, rfl⟩
  have hs1 : W1.heap.size = w.heap.size + 1 := by rw [← hW1]; simp
  rw [hW1] at hb1 h1 hJ1 ⊢
  by_cases hl : livesE s [x] = 0
  · obtain ⟨hdead, hx0, hx4⟩ := livesE_name hl
    have hE : withE s x ask = match s.fl x with | none => 4 | some f => if ask f ≠ 0 then ask f else meetsE s := by unfold withE; rw [if_neg (by simp [hl])]
    have hS : withS s x ask doF = match s.fl x with | none => s | some f => if ask f ≠ 0 then s else if meetsE s ≠ 0 then meetsS s else { meetsS s with fl := updF s.fl x (some (doF f)) } := by unfold withS; rw [if_neg (by simp [hl])]
    obtain ⟨G, sl, g1, g2, e, hsome, hB, hap⟩ := h1.look x
    obtain ⟨a0, cap0, rfl, -⟩ := hB.open
    have c1 := h1.c1
    have E := Lib.hid e
    have ES := Lib.hid hsome
    have H1 := Lib.hid h1
    have HJ1 := Lib.hid hJ1
    have HBY := Lib.hid hB
    have HAP := Lib.hid hap
    have G2 := Lib.hid g2
    rw [hl]
    dsimp only
    clear hW1 h1 hJ1 e hsome hB hap g2 hJ hbl hl
    cases hf : s.fl x with
    | none =>
      rw [hf] at hE hS ES
      have HE := Lib.hid hE
      have HS := Lib.hid hS
      clear hE hS hf
      go_wp2_with (at_lookup; refine wp_look2 _ rfl _ _ 69 rfl 3 75 Tryz.underlying3 Tryz.underlying69 (zero_file _) m 4 rfl g1 x rfl hx _ false E.out ES.out ?_)
      have hb3 : Below W1.heap.size W1 (W1.alloc (.cells #[.slice a0 (s.at x).bs.length cap0, .int .i64 (s.at x).sy, .bool (s.at x).kp] 75)) := (Below.refl _ _).alloc (Nat.le_refl _) _
      go_ret
      rw [HE.out, HS.out]
      have t3 := hb1.trans (hb3.mono (by omega))
      exact ⟨rfl, H1.out.below hb3, Tw.of_below t3, fun _ => hJk _ _ HJ1.out (Tw.of_below (hb3.mono (by omega))), fun hc => absurd hc (by decide)⟩
    | some f =>
      have hat : s.at x = f := by unfold DS.at; rw [hf]; rfl
      rw [hat] at E HBY
      rw [hf] at hE hS ES
      have HE := Lib.hid hE
      have HS := Lib.hid hS
      have HF := Lib.hid hf
      have HAT := Lib.hid hat
      clear hE hS hf hat
      go_wp2_with (first | (at_lookup; refine wp_look2 _ rfl _ _ 69 rfl 3 75 Tryz.underlying3 Tryz.underlying69 (zero_file _) m 4 rfl g1 x rfl hx _ true E.out ES.out ?_) | fail)
      have hb3 : Below W1.heap.size W1 (W1.alloc (.cells #[.slice a0 f.bs.length cap0, .int .i64 f.sy, .bool f.kp] 75)) := (Below.refl _ _).alloc (Nat.le_refl _) _
      have q0 : (W1.alloc (.cells #[.slice a0 f.bs.length cap0, .int .i64 f.sy, .bool f.kp] 75)).cell? ⟨w.heap.size + 1, 0, none⟩ = some (.slice a0 f.bs.length cap0) := by rw [← hs1]; go_simp
      have q1 : (W1.alloc (.cells #[.slice a0 f.bs.length cap0, .int .i64 f.sy, .bool f.kp] 75)).cell? ⟨w.heap.size + 1, 1, none⟩ = some (.int .i64 f.sy) := by rw [← hs1]; go_simp
      have q2 : (W1.alloc (.cells #[.slice a0 f.bs.length cap0, .int .i64 f.sy, .bool f.kp] 75)).cell? ⟨w.heap.size + 1, 2, none⟩ = some (.bool f.kp) := by rw [← hs1]; go_simp
      have q3 : ∀ o, (W1.alloc (.cells #[.slice a0 f.bs.length cap0, .int .i64 f.sy, .bool f.kp] 75)).frozen? ⟨w.heap.size + 1, o, none⟩ = false := fun o => by rw [← hs1]; go_simp
      have hs2 : (W1.alloc (.cells #[.slice a0 f.bs.length cap0, .int .i64 f.sy, .bool f.kp] 75)).heap.size = w.heap.size + 2 := by simp [hs1]
      obtain ⟨W2, hW2⟩ : ∃ W, W1.alloc (.cells #[.slice a0 f.bs.length cap0, .int .i64 f.sy, .bool f.kp] 75) = W := ⟨_, rfl⟩
      rw [hW2] at hb3 q0 q1 q2 q3 hs2 ⊢
      have hlA := H1.out.lt
      have h2 := H1.out.more hb3 (C := [w.heap.size + 1]) (by intro a ha; simp at ha; omega)
      have hqA : ∀ a ∈ A, a ≠ w.heap.size + 1 := fun a ha => by have := hlA a ha; omega
      have hbq : b ≠ w.heap.size + 1 := hqA _ H1.out.hb
      have hmq : m ≠ w.heap.size + 1 := hqA _ H1.out.hm
      have hJ2 := hJk _ _ HJ1.out (Tw.of_below (hb3.mono (by omega)))
      have hB2 : Byt W2 (.slice a0 f.bs.length cap0) f.bs := HBY.out.grown hb3
      have hap2 : ∀ ad n c, Value.slice a0 f.bs.length cap0 = .slice (some ad) n c → ad.block < W1.heap.size ∧ ad.block ∉ A := by have := HAP.out; rw [HAT.out] at this; exact this
      have hF2 : FileIs W2 A (.agg #[.slice a0 f.bs.length cap0, .int .i64 f.sy, .bool f.kp]) f := ⟨_, rfl, hB2, fun ad n c e => ⟨by have := (hap2 ad n c (by rw [e])).1; omega, (hap2 ad n c (by rw [e])).2⟩⟩
      have hX2 : BoxF W2 A (w.heap.size + 1) f := ⟨⟨_, q0, hB2, fun ad n c e => ⟨by have := (hap2 ad n c (by rw [e])).1; omega, (hap2 ad n c (by rw [e])).2, by have := (hap2 ad n c (by rw [e])).1; omega⟩⟩, q1, q2, q3, by omega⟩
      have tw2 : Tw w.heap.size [b, m] w W2 := Tw.of_below (hb1.trans (hb3.mono (by omega)))
      clear q0 q1 q2 q3 hb3 hW2 g1 c1 E ES HAP G2 HJ1 H1 HBY hap2 hb1
      have H2 := Lib.hid h2
      have HX2 := Lib.hid hX2
      have HJ2 := Lib.hid hJ2
      have T2 := Lib.hid tw2
      clear hX2 h2
      refine (Hask W2 _ f hJ2 hF2 tw2 HF.out).mono ?_
      rintro e W3 ⟨rfl, hb4⟩
      dsimp only
      have hs3 := hb4.size
      have t3 : Tw w.heap.size [b, m] w W3 := T2.out.trans (Tw.of_below (hb4.mono (by omega)))
      have T3 := Lib.hid t3
      have HJ3 := Lib.hid (hJk _ _ HJ2.out (Tw.of_below (hb4.mono (by omega))))
      clear hJ2 hF2 tw2 t3
      by_cases ha : ask f = 0
      · rw [ha]
        have HA := Lib.hid ha
        clear ha
        go_wp2_with fail
        refine (f_meets (H2.out.below hb4) hok hop).mono ?_
        rintro e W4 ⟨rfl, h4, t4⟩
        dsimp only
        have hs4 := t4.size
        have T4 := Lib.hid (T3.out.trans (t4.mono (n' := w.heap.size) (L' := [b, m]) (by omega) (fun a ha => .inl ha)))
        have HJ4 := Lib.hid (hJk _ _ HJ3.out (t4.mono (by omega) (fun a ha => .inl ha)))
        have hX4 : BoxF W4 A (w.heap.size + 1) f := HX2.out.turn (by omega) (fun k hk hkA hne => (t4.block k (by omega) (fun hc => by
            simp only [List.mem_cons, List.not_mem_nil, or_false] at hc
            rcases hc with rfl | rfl
            · exact hkA hbA
            · exact hkA hmA)).trans (hb4.block k (by omega))) ((t4.block _ (by omega) (by
              intro hc
              simp only [List.mem_cons, List.not_mem_nil, or_false] at hc
              rcases hc with h9 | h9
              · exact hbq h9.symm
              · exact hmq h9.symm)).trans (hb4.block _ (by omega)))
        have HX4 := Lib.hid hX4
        have H4 := Lib.hid h4
        clear t4 h4 hX4
        by_cases hm0 : meetsE s = 0
        · rw [hm0]
          go_wp2_with fail
          refine (Hdo W4 _ f HJ4.out HX4.out (by omega) T4.out HF.out HA.out).mono ?_
          rintro e W5 ⟨rfl, hX5, hJ5, t5⟩
          dsimp only
          have hs5 := t5.size
          have hbL : b ∉ (w.heap.size + 1) :: C := fun hc => by
            rcases List.mem_cons.1 hc with h9 | h9
            · exact hbq h9
            · exact (hC b h9).2.1 rfl
          have hmL : m ∉ (w.heap.size + 1) :: C := fun hc => by
            rcases List.mem_cons.1 hc with h9 | h9
            · exact hmq h9
            · exact (hC m h9).2.2 rfl
          have h5 := H4.out.tw t5 (fun a ha => by
            rcases List.mem_cons.1 ha with h9 | h9
            · rw [h9]; simp
            · exact List.mem_append_right _ (hC a h9).1) hbL hmL
          obtain ⟨G5, g51, g52⟩ := h5.files
          obtain ⟨sl5, x0, xB, xap⟩ := hX5.is
          obtain ⟨a5, cap5, rfl, -⟩ := xB.open
          have x1 := hX5.sy
          have x2 := hX5.kp
          have xlt := hX5.lt
          have c5 := h5.c1
          have hbl5 := h5.blt
          have T5 := Lib.hid ((T4.out.mono (n' := w.heap.size) (L' := b :: m :: C) (Nat.le_refl _) (sub2 _)).trans (t5.mono (n' := w.heap.size) (L' := b :: m :: C) (by omega) (fun a ha => by
            rcases List.mem_cons.1 ha with h9 | h9
            · exact .inr (by omega)
            · exact .inl (by simp [h9]))))
          have H5 := Lib.hid h5
          have HJ5 := Lib.hid hJ5
          have XB := Lib.hid xB
          have XAP := Lib.hid xap
          have G52 := Lib.hid g52
          have HNM := Lib.hid (fun y f9 (hy : updF s.fl x (some (doF f)) y = some f9) => (show 0 ≤ y ∧ y < 4 by
            unfold updF at hy
            split at hy
            · rename_i hyx; subst hyx; exact ⟨hx0, hx4⟩
            · exact hok.name y f9 hy))
          clear h5 hJ5 xB xap g52 hX5 t5 hbL hmL
          go_wp2
          refine wp_grow [] 6 (by kernel_rfl) (by kernel_rfl) (by rfl) (by rfl) ?_
          simp only [List.take_succ_cons, List.take_zero, List.drop_succ_cons, List.drop_zero]
          repeat (first
            | (apply Der.quiet; (rfl); (rfl); (intro w' hw' hctx; have hc' := bcell hw'; have y1 := (hw'.cell (p := ⟨b, 1, none⟩) hbl5).trans c5; have y2 := (hw'.cell (p := ⟨w.heap.size + 1, 0, none⟩) xlt).trans x0; have y3 := (hw'.cell (p := ⟨w.heap.size + 1, 1, none⟩) xlt).trans x1; have y4 := (hw'.cell (p := ⟨w.heap.size + 1, 2, none⟩) xlt).trans x2; clear hctx; go_simp; first | exact rfl | exact ⟨rfl, rfl⟩); simp only [Act.put, List.setIfInBounds_toArray, List.set_cons_succ, List.set_cons_zero, Nat.reduceAdd])
            | (apply Der.skip; (rfl); simp only [Act.put, List.setIfInBounds_toArray, List.set_cons_succ, List.set_cons_zero, Nat.reduceAdd]))
          refine Der.nil (fun w6 hgw6 hctx => ?_)
          clear hctx
          have hb6 : Below _ _ w6 := hgw6
          clear hgw6
          have e6 : Below W5.heap.size W5 w6 := (Below.refl _ _).drew.trans hb6
          have H6 := Lib.hid (H5.out.below e6)
          have g61 := g51.below e6 H5.out.mlt
          go_wp2_with (at_mapUpdate; refine wp_store _ rfl _ _ _ 69 rfl 3 75 Tryz.underlying3 Tryz.underlying69 m 4 rfl g61 (by unfold maxLen; omega) x (.agg #[.slice a5 (doF f).bs.length cap5, .int .i64 (doF f).sy, .bool (doF f).kp]) rfl rfl hx ?_; intro w7 g7 hmt)
          go_ret
          have g62 : ∀ y, FileOp w6 ([w.heap.size + 1] ++ A) (G5 y) ((meetsS s).fl y) := fun y => (G52.out y).turn e6.size (fun a ha => .inl ha) (fun k hk _ => e6.block k hk)
          have hfo : FileOp w6 ([w.heap.size + 1] ++ A) (some (.agg #[.slice a5 (doF f).bs.length cap5, .int .i64 (doF f).sy, .bool (doF f).kp])) (some (doF f)) := by
            refine FileIs.turn (w := W5) (A := [w.heap.size + 1] ++ A) ⟨_, rfl, XB.out, fun ad n c e => ?_⟩ e6.size (fun a ha => .inl ha) (fun k hk _ => e6.block k hk)
            obtain ⟨z1, z2, z3⟩ := XAP.out ad n c e
            refine ⟨z1, fun hc => ?_⟩
            rcases List.mem_append.1 hc with h9 | h9
            · simp only [List.mem_cons, List.not_mem_nil, or_false] at h9; exact z3 h9
            · exact z2 h9
          have h7 := H6.out.mapped g62 rfl _ g7 hmt hfo HNM.out
          have HE2 : withE s x ask = 0 := by rw [HE.out, if_neg (by simp [HA.out])]; exact hm0
          have HS2 : withS s x ask doF = { meetsS s with fl := updF s.fl x (some (doF f)) } := by rw [HS.out, if_neg (by simp [HA.out]), if_neg (by simp [hm0])]
          rw [HE2, HS2]
          have t7 : Tw W5.heap.size [b, m] W5 w7 := (Tw.of_below e6).mapTurned (by simp) hmt
          exact ⟨rfl, h7.less (C := [w.heap.size + 1]) hbA hmA, T5.out.trans (t7.mono (by omega) (sub2 _)), fun hc => absurd rfl hc, fun _ => ⟨f, HF.out, hJk' _ _ _ HJ5.out t7⟩⟩
        · have HE2 : withE s x ask = meetsE s := by rw [HE.out, if_neg (by simp [HA.out])]
          have HS2 : withS s x ask doF = meetsS s := by rw [HS.out, if_neg (by simp [HA.out]), if_pos hm0]
          obtain ⟨e1, he1⟩ : ∃ e, meetsE s = e := ⟨_, rfl⟩
          rw [he1] at hm0 HE2 ⊢
          have HE3 := Lib.hid HE2
          clear he1 HE2
          go_wp2
          go_ret
          rw [HE3.out, HS2]
          exact ⟨rfl, H4.out.less (C := [w.heap.size + 1]) hbA hmA, T4.out.mono (Nat.le_refl _) (sub2 _), fun _ => HJ4.out, fun hc => absurd hc hm0⟩
      · have HE2 : withE s x ask = ask f := by rw [HE.out, if_pos ha]
        have HS2 : withS s x ask doF = s := by rw [HS.out, if_pos ha]
        obtain ⟨e1, he1⟩ : ∃ e, ask f = e := ⟨_, rfl⟩
        rw [he1] at ha HE2 ⊢
        have HE3 := Lib.hid HE2
        have H3 := Lib.hid (H2.out.below hb4)
        clear he1 HE2 hb4
        go_wp2
        go_ret
        rw [HE3.out, HS2]
        exact ⟨rfl, H3.out.less (C := [w.heap.size + 1]) hbA hmA, T3.out.mono (Nat.le_refl _) (sub2 _), fun _ => HJ3.out, fun hc => absurd hc ha⟩
  · have hE : withE s x ask = livesE s [x] := by unfold withE; rw [if_pos hl]
    have hS : withS s x ask doF = s := by unfold withS; rw [if_pos hl]
    dsimp only
    have HE := Lib.hid hE
    have HS := Lib.hid hS
    have H1 := Lib.hid h1
    have HJ1 := Lib.hid hJ1
    clear hE hS h1 hJ1 hW1 hJ hbl
    obtain ⟨e1, he1⟩ : ∃ e, livesE s [x] = e := ⟨_, rfl⟩
    rw [he1] at hl HE ⊢
    clear he1
    go_wp2
    go_ret
    rw [HE.out, HS.out]
    exact ⟨rfl, H1.out, Tw.of_below hb1, fun _ => HJ1.out, fun hc => absurd hc hl⟩
end
end Go.Proofs.YtkekidjjmcmjhaaGreat
