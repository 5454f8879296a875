/- wal.read. -/
import Derived.Test.YtkekidjjmcmjhaaGreatWalR
namespace Go.Proofs.YtkekidjjmcmjhaaGreat
open Go.RowKit Go.Shelf
set_option maxRecDepth 100000
attribute [local irreducible] Der
attribute [local go_sem] Oper.semAt_some

theorem frames_seq (n : Nat) (hn : 1 ≤ n) (B q : Nat) (w : World) (bs : List Int) (hbs : bs.length ≤ 100000) (hby : Byte bs) (hB : B < w.heap.size) (hq : B ≠ q) (hL : Left w w q B bs) :
    SeqG Fence.wide n Tryz.prog 114 #[.pointer (some ⟨B, 0, none⟩)] (fun x : Pt => #[x.1]) (Tw w.heap.size [q]) (GdP w.heap.size) (fun ys => ys.map Prod.snd = framesL bs.length 0 bs) (fun pre => pre.map Prod.snd <+: framesL bs.length 0 bs) B w :=
  fun l J Jx W hW hJ _ hJB hY h0 => frames1_in n hn l B q w bs hbs hby hB hq J Jx W hW hJ hJB hY (hL.below hB hq hW) h0
theorem f_frames (a : Option Addr) (n c : Nat) (w : World) : Calls Tryz.prog 83 #[.slice a n c] w fun e w' => e = .returned (.func (.func 114) #[] #[.pointer (some ⟨w.heap.size, 0, none⟩)]) ∧ w' = w.alloc (.cells #[.slice a n c] 24) := by
  go_enter Tryz.func83, Tryz.ntmps83
  go_wp2
  go_ret
  exact ⟨rfl, rfl⟩

/-- The parts that fit, of those that came. -/
theorem fits_stop {most : Int} : ∀ {l : List (List Int)} {c : Nat} {p : List Int}, fitsL most c l = l → ¬ (((c + costL l + 12 + p.length : Nat) : Int) ≤ most) → ∀ {r : List (List Int)}, l ++ [p] <+: r → fitsL most c r = l
  | [], c, p, _, h, r, ⟨t, ht⟩ => by
    subst ht
    simp only [costL, List.nil_append, List.cons_append] at h ⊢
    rw [fitsL, if_neg (by omega)]
  | x :: l, c, p, hl, h, r, ⟨t, ht⟩ => by
    subst ht
    rw [fitsL] at hl
    split at hl
    · rename_i h1
      simp only [List.cons.injEq, true_and] at hl
      rw [List.cons_append, List.cons_append, fitsL, if_pos h1]
      congr 1
      exact fits_stop hl (by rw [costL] at h; omega) ⟨t, rfl⟩
    · cases hl
theorem fits_snoc {most : Int} : ∀ {l : List (List Int)} {c : Nat} {p : List Int}, fitsL most c l = l → ((c + costL l + 12 + p.length : Nat) : Int) ≤ most → fitsL most c (l ++ [p]) = l ++ [p]
  | [], c, p, _, h => by
    rw [List.nil_append, fitsL_one]
    exact if_pos (by simpa [costL] using h)
  | x :: l, c, p, hl, h => by
    rw [fitsL] at hl
    split at hl
    · rename_i h1
      simp only [List.cons.injEq, true_and] at hl
      rw [List.cons_append, fitsL, if_pos h1, fits_snoc hl (by rw [costL] at h; omega)]
    · cases hl

theorem framesL_fuel : ∀ (f1 f2 n : Nat) (bs : List Int), Byte bs → bs.length ≤ f1 → bs.length ≤ f2 → framesL f1 n bs = framesL f2 n bs
  | 0, f2, n, bs, hb, h1, h2 => by rw [framesL_none (parse1_short (by omega)), framesL_none (parse1_short (by omega))]
  | f1 + 1, 0, n, bs, hb, h1, h2 => by rw [framesL_none (parse1_short (by omega)), framesL_none (parse1_short (by omega))]
  | f1 + 1, f2 + 1, n, bs, hb, h1, h2 => by
    cases hp : parse1 n bs with
    | none => rw [framesL_none hp, framesL_none hp]
    | some own =>
      have hl := parse1_len hp hb
      rw [framesL, framesL, hp]
      dsimp only
      rw [framesL_fuel f1 f2 (n + 1) _ (hb.drop _) (by rw [List.length_drop]; omega) (by rw [List.length_drop]; omega)]
theorem partsB_eq {bs : List Int} (hb : Byte bs) : partsB bs = fitsL (mostB bs) 0 (framesL (bs.drop 20).length 0 (bs.drop 20)) := by
  unfold partsB
  rw [framesL_fuel bs.length (bs.drop 20).length 0 (bs.drop 20) (hb.drop _) (by rw [List.length_drop]; omega) (Nat.le_refl _)]

theorem Byt.kept {W W' : World} {row : Option Nat} {v : Value} {l : List Int} (h : Byt W v l) (hg : W.grownBy W' row) (hr : ∀ r, row = some r → ∃ o : Obj, W.heap[r]? = some o ∧ o.isCells = false) : Byt W' v l := by
  refine ⟨⟨?_⟩, h.2⟩
  obtain ⟨a, cap, e, h1, h2, h3⟩ := h.1.form
  refine ⟨a, cap, e, h1, h2, fun hne => ?_⟩
  obtain ⟨b, off, ha, hlt, hc⟩ := h3 hne
  exact ⟨b, off, ha, Nat.lt_of_lt_of_le hlt hg.size, fun i hi => cell_kept (hc i hi) hg hr⟩
theorem owns_kept {W W' : World} {row : Option Nat} {B e size n : Nat} {v : Value} {xs : List Value} (h : W.ownsRow B e size v n xs) (hg : W.grownBy W' row) (hr : ∀ r, row = some r → ∃ o : Obj, W.heap[r]? = some o ∧ o.isCells = false) : W'.ownsRow B e size v n xs := by
  refine ⟨h.1, ?_⟩
  rcases h.2 with hn | ⟨g, cap, cur, hv, hB, hgo, rest⟩
  · exact .inl hn
  · exact .inr ⟨g, cap, cur, hv, hB, (grownBy_keeps_cells hg hr hgo rfl).trans hgo, rest⟩
theorem SaidIs.kept {W W' : World} {row : Option Nat} {A : List Nat} {q : Nat} {g : Option Nat} {most : Int} {parts : List (List Int)} (h : SaidIs W A q g most parts) (hg : W.grownBy W' row) (hr : ∀ r, row = some r → ∃ o : Obj, W.heap[r]? = some o ∧ o.isCells = false) : SaidIs W' A q g most parts := by
  obtain ⟨c0, ⟨v, c1, hv, ps, hps, ho, hby⟩, c2, fr, hq, hgA, lt⟩ := h
  obtain ⟨o, ho1, ho2⟩ := cells_of_cell c0
  have hb := grownBy_keeps_cells hg hr ho1 ho2
  exact ⟨cell_kept c0 hg hr, ⟨v, cell_kept c1 hg hr, hv, ps, hps, owns_kept ho hg hr, fun p hp => ⟨(hby p hp).1.kept hg hr, fun ad n c e => ⟨Nat.lt_of_lt_of_le ((hby p hp).2 ad n c e).1 hg.size, ((hby p hp).2 ad n c e).2⟩⟩⟩, cell_kept c2 hg hr, fun o => (show W'.frozen? ⟨q, o, none⟩ = W.frozen? ⟨q, o, none⟩ from World.frozen?_of_block hb).trans (fr o), hq, hgA, fun a ha => Nat.lt_of_lt_of_le (lt a ha) hg.size⟩
theorem own_apart {W : World} {B B' e e' size size' n n' : Nat} {v v' : Value} {xs xs' : List Value} (h : W.ownsRow B e size v n xs) (h' : W.ownsRow B' e' size' v' n' xs') (hne : e ≠ e') {k : Nat} (hk : v.ownBlock = some k) : v'.ownBlock ≠ some k := by
  intro hk'
  rcases h.2 with ⟨rfl, _⟩ | ⟨g, cap, cur, rfl, _, hg, _⟩
  · cases hk
  · rcases h'.2 with ⟨rfl, _⟩ | ⟨g', cap', cur', rfl, _, hg', _⟩
    · cases hk'
    · simp only [Value.ownBlock, Option.some.injEq] at hk hk'
      subst hk
      subst hk'
      rw [hg] at hg'
      simp only [Option.some.injEq, Obj.cells.injEq] at hg'
      exact hne hg'.2.1

/-- The caller's invariant: what is said so far. -/
structure RdI (wL : World) (A : List Nat) (q B : Nat) (most : Int) (l : List (List Int)) (W : World) : Prop where
  said : ∃ g, SaidIs W (g.toList ++ (q :: B :: A)) q g most l ∧ ∀ k, g = some k → wL.heap.size ≤ k
  tw : Tw wL.heap.size [q, B] wL W
  fits : fitsL most 0 l = l
theorem Tw.kept {n : Nat} {L : List Nat} {w W W' : World} {row : Option Nat} (h : Tw n L w W) (hn : n ≤ W.heap.size) (hg : W.grownBy W' row) (hr : ∀ r, row = some r → n ≤ r) : Tw n L w W' :=
  h.trans ⟨hg.os, hg.tape, hg.output, hg.size, fun k hk _ => hg.block k (by omega) (fun e => by have := hr k e.symm; omega)⟩
theorem RdI.own {wL : World} {A : List Nat} {q B : Nat} {most : Int} : OwnFrom wL.heap.size (fun (xs : List Pt) W => RdI wL A q B most (xs.map Prod.snd) W) := fun xs W W' row hs hg hr => by
  obtain ⟨⟨g, h1, h2⟩, h3, h4⟩ := hs
  exact ⟨⟨g, h1.kept hg (fun r e => (hr r e).2), h2⟩, h3.kept h3.size hg (fun r e => (hr r e).1), h4⟩
theorem RdI.setB {wL W : World} {A : List Nat} {q B : Nat} {most : Int} {l : List (List Int)} (h : RdI wL A q B most l W) (hq : B ≠ q) (hB : B < wL.heap.size) (v : Value) : RdI wL A q B most l (W.setCell ⟨B, 0, none⟩ v) := by
  obtain ⟨⟨g, h1, h2⟩, h3, h4⟩ := h
  have ht : Tw W.heap.size [B] W (W.setCell ⟨B, 0, none⟩ v) := (Tw.refl _ _ _).setCell (.inl (by simp)) _ _
  refine ⟨⟨g, h1.tw ht (fun a ha => by simp at ha; rw [ha]; simp) (by simpa using hq.symm) (fun k hk => ?_), h2⟩, h3.setCell (.inl (by simp)) _ _, h4⟩
  have := h2 k hk
  simp; omega
/-- The invariant behind the break: the last part did not fit. -/
def RdX (wL : World) (A : List Nat) (q B : Nat) (most : Int) (xs : List Pt) (W : World) : Prop := ∃ l p, xs.map Prod.snd = l ++ [p] ∧ RdI wL A q B most l W ∧ ¬ (((costL l + 12 + p.length : Nat) : Int) ≤ most)
theorem RdX.own {wL : World} {A : List Nat} {q B : Nat} {most : Int} : OwnFrom wL.heap.size (RdX wL A q B most) := fun xs W W' row hs hg hr => by
  obtain ⟨l, p, h0, ⟨⟨g, h1, h2⟩, h3, h4⟩, h5⟩ := hs
  exact ⟨l, p, h0, ⟨⟨g, h1.kept hg (fun r e => (hr r e).2), h2⟩, h3.kept h3.size hg (fun r e => (hr r e).1), h4⟩, h5⟩

theorem SaidIs.gcells {W : World} {A : List Nat} {q : Nat} {g : Option Nat} {most : Int} {parts : List (List Int)} (h : SaidIs W A q g most parts) (k : Nat) (hk : g = some k) : ∃ o : Obj, W.heap[k]? = some o ∧ o.isCells = true := by
  obtain ⟨v, c1, hv, ps, h1, ho, h3⟩ := h.row
  rcases ho.2 with ⟨rfl, _⟩ | ⟨k', cap, cur, rfl, hB, hgo, rest⟩
  · rw [← hv] at hk; cases hk
  · rw [← hv] at hk
    simp only [Value.ownBlock, Option.some.injEq] at hk
    subst hk
    exact ⟨_, hgo, rfl⟩
theorem RdI.below {wL W W' : World} {A : List Nat} {q B : Nat} {most : Int} {l : List (List Int)} (h : RdI wL A q B most l W) (hb : Below W.heap.size W W') : RdI wL A q B most l W' := by
  obtain ⟨⟨g, h1, h2⟩, h3, h4⟩ := h
  exact ⟨⟨g, h1.below hb, h2⟩, h3.trans (Tw.of_below (hb.mono h3.size)), h4⟩
theorem RdI.grow {wL W W1 W2 : World} {A A' : List Nat} {q B : Nat} {g g' : Option Nat} {most : Int} {l : List (List Int)} {p : List Int} (h : RdI wL A q B most l W) (hS : SaidIs W (g.toList ++ (q :: B :: A)) q g most l) (hgn : ∀ k, g = some k → wL.heap.size ≤ k)
    (hqw : q < wL.heap.size) (hb : Below W.heap.size W W1) (hE : Ext W1.heap.size (g.toList ++ (q :: B :: A)) A') (hG : GNew W1.heap.size g g') (hS' : SaidIs W2 A' q g' most (l ++ [p])) (ht : Tw W1.heap.size (q :: g.toList) W1 W2) (hf : ((costL l + 12 + p.length : Nat) : Int) ≤ most) :
    KeepsFrom wL.heap.size W W2 ∧ Tw wL.heap.size [q] W W2 ∧ RdI wL A q B most (l ++ [p]) W2 := by
  have hs := hb.size
  have hs0 := h.tw.size
  have ht2 : Tw W.heap.size (q :: g.toList) W W2 := (Tw.of_below hb).trans (ht.mono hs (fun a ha => .inl ha))
  have ht3 : Tw wL.heap.size [q] W W2 := ht2.mono hs0 (fun a ha => by
    rcases List.mem_cons.1 ha with h1 | h1
    · exact .inl (by simp [h1])
    · exact .inr (hgn a (by simpa using h1)))
  refine ⟨⟨ht2.size, fun k o hk ho hc => ?_⟩, ht3, ⟨g', hS'.less (fun a ha => ?_) (by simp) (fun k hk => by simp [hk]), fun k hk => ?_⟩, h.tw.trans (ht3.mono (Nat.le_refl _) (fun a ha => .inl (by simp at ha; simp [ha]))), fits_snoc h.fits (by rw [Nat.zero_add]; exact hf)⟩
  · rw [ht2.block k (Array.getElem?_eq_some_iff.1 ho).1 (fun hm => ?_)]
    · exact ho
    rcases List.mem_cons.1 hm with h1 | h1
    · omega
    · obtain ⟨o', h3, h4⟩ := hS.gcells k (by simpa using h1)
      rw [ho] at h3; cases h3; rw [hc] at h4; cases h4
  · rcases List.mem_append.1 ha with h1 | h1
    · exact (hS'.hg a (by simpa using h1)).1
    · exact hE.1 a (List.mem_append_right _ h1)
  · rcases hG with rfl | ⟨k', rfl, hk'⟩
    · exact hgn k hk
    · cases hk; omega

/-- An end that no panic meets. -/
def NoP (Q : Exit → Act → World → Prop) : Exit → Act → World → Prop
  | .panic _, _, _ => False
  | e, a, w => Q e a w
theorem NoP.normal {Q : Exit → Act → World → Prop} {a : Act} {w : World} (h : Q .normal a w) : NoP Q .normal a w := h
theorem wp_noP {P : Program} {c : Code} {Q : Exit → Act → World → Prop} {a : Act} {w : World} (h : c.wp P (NoP Q) a w) : c.wp P Q a w :=
  wp_mono h (fun e a w h => by cases e <;> first | exact h | exact h.elim)
theorem f_limitV {most : Int} {x : Bool} (hx : limitB most = x) (w : World) : Calls Tryz.prog 75 #[.int .i64 most] w fun e w' => e = .returned (.bool x) ∧ Below w.heap.size w w' :=
  (f_limit most w).mono fun e w' ⟨h1, h2⟩ => ⟨by rw [h1, hx], h2 ▸ Below.refl _ _⟩
theorem f_eqR {B : Nat} {l1 l2 : List Int} {v1 v2 : Value} {w : World} {y : Bool} (h : OwnR B l1 v1 w) (h2 : Byt w v2 l2) (b1 : Byte l1) (b2 : Byte l2) (hy : decide (l1 = l2) = y) : Calls Tryz.prog 15 #[v1, v2] w fun e w' => e = .returned (.bool y) ∧ Below w.heap.size w w' := by
  obtain ⟨p, k, c, rfl, h⟩ := h
  exact (f_bytesEqD (Byt.of_owns h rfl) h2 b1 b2).mono fun e w' ⟨h3, h4⟩ => ⟨by rw [h3, hy], h4 ▸ Below.refl _ _⟩
def ReadPost (w : World) (A : List Nat) (bs : List Int) (e : Ending) (w' : World) : Prop :=
  ∃ sv, e = .returned (.tuple #[sv, .bool (readOK bs)]) ∧ Below w.heap.size w w' ∧ (∃ x y z, sv = .agg #[.int .i64 x, y, .int .i64 z] ∧ (∃ p k c, y = .slice p k c)) ∧
    (readOK bs = true → ∃ v g A', Ext w.heap.size A A' ∧ GNew w.heap.size none g ∧ (∀ a ∈ A', a < w'.heap.size) ∧ sv = .agg #[.int .i64 (mostB bs), v, .int .i64 (costL (partsB bs))] ∧ RowIs w' A' v g (partsB bs))

set_option maxRecDepth 100000 in
set_option maxHeartbeats 8000000 in
theorem f_read (v : Value) (bs : List Int) (w : World) (A : List Nat) (hA : ∀ a ∈ A, a < w.heap.size) (hv : Byt w v bs) (hn : bs.length ≤ 100000) (hb : Byte bs) (hva : ∀ ad n c, v = .slice (some ad) n c → ad.block < w.heap.size) :
    Calls Tryz.prog 42 #[v] w (ReadPost w A bs) := by
  have HV := Lib.hid hv
  have HVA := Lib.hid hva
  obtain ⟨a, cap, rfl, hle, hcm, -⟩ := hv.open
  have hR : readOK bs = (decide (20 ≤ bs.length) && limitB (mostB bs) && decide (headB (mostB bs) = bs.take 20) && decide (partsB bs ≠ [])) := rfl
  obtain ⟨Q, hQ⟩ : ∃ Q : Ending → World → Prop, ReadPost w A bs = Q := ⟨_, rfl⟩
  rw [hQ]
  have HQ := Lib.hid hQ
  have HR := Lib.hid hR
  clear hv hva hQ hR
  refine (callsIn_wide (n := 6)).1 ?_
  have h1 : 1 ≤ 6 := by omega
  refine callsIn_of_wp_marks Tryz.func42 rfl trivial ?_ rfl
  simp only [Tryz.ntmps42, List.size_toArray, List.length_cons, List.length_nil, Nat.reduceAdd, Nat.reduceSub, Array.replicate_succ, Array.replicate_zero, List.push_toArray, List.append_toArray, List.nil_append, List.cons_append]
  by_cases h20 : bs.length < 20
  · have hr : readOK bs = false := by rw [HR.out, decide_eq_false (by omega)]; rfl
    have HRf := Lib.hid hr
    clear hr
    gi_wp2
    refine ⟨.tuple #[.agg #[.int .i64 0, .slice none 0 0, .int .i64 0], .bool false], (by simp only [results, Tryz.results42]; go_simp), ?_⟩
    rw [← HQ.out]
    exact ⟨_, by rw [HRf.out], (Below.refl _ _).alloc (Nat.le_refl _) _, ⟨_, _, _, rfl, _, _, _, rfl⟩, fun h => by rw [HRf.out] at h; cases h⟩
  · have h20' : 20 ≤ bs.length := by omega
    obtain ⟨a8, hr8, hB8, -⟩ := run_suf a bs.length cap 8 (by omega) hle hcm
    obtain ⟨a20, hr20, hB20, hA20⟩ := run_suf a bs.length cap 20 (by omega) hle hcm
    have hr8' : ∀ w : World, (Instr.sliceAt 24 (.slice a bs.length cap) (some (.int .i64 8)) none none).run Tryz.prog w = .ok (.slice a8 (bs.length - 8) (cap - 8)) w := hr8
    have hr20' : ∀ w : World, (Instr.sliceAt 24 (.slice a bs.length cap) (some (.int .i64 20)) none none).run Tryz.prog w = .ok (.slice a20 (bs.length - 20) (cap - 20)) w := hr20
    have hB8' := Lib.hid (fun W (h : Byt W (.slice a bs.length cap) bs) => hB8 W bs h)
    have hB20' := Lib.hid (fun W (h : Byt W (.slice a bs.length cap) bs) => hB20 W bs h)
    have HA20 := Lib.hid hA20
    clear hr8 hr20 hB8 hB20 hA20
    gi_wp2_with fail
    have b0 : Below w.heap.size w (w.alloc (.cells #[.int .i64 0, .slice none 0 0, .int .i64 0] 82)) := (Below.refl _ _).alloc (Nat.le_refl _) _
    refine ⟨trivial, (callsIn_wide.2 (f_scRead _ (bs.drop 8) _ (hB8'.out _ (HV.out.grown b0)) (by rw [List.length_drop]; omega))).mono ?_⟩
    rintro e w1 ⟨⟨gs, rfl, hgs, hsc⟩, hb1⟩
    have HSC := Lib.hid hsc
    clear hsc
    gi_wp2_with fail
    refine ⟨trivial, (callsIn_wide.2 (f_Num4 gs (bs.drop 8) _ HSC.out (by rw [List.length_drop]; omega) (hb.drop 8))).mono ?_⟩
    rintro e w2 ⟨rfl, t2⟩
    have hN0 := numB_nonneg ((hb.drop 8).take 4)
    have hN1 := (numB_lt 4 ((bs.drop 8).take 4) (by rw [List.length_take, List.length_drop]; omega) ((hb.drop 8).take 4)).2
    have hp4 : (256 : Int) ^ 4 = 4294967296 := by decide
    rw [hp4] at hN1
    have HM := Lib.hid (show mostB bs = numB ((bs.drop 8).take 4) from rfl)
    obtain ⟨most, hmost⟩ : ∃ x, numB ((bs.drop 8).take 4) = x := ⟨_, rfl⟩
    rw [hmost] at hN0 hN1 HM ⊢
    clear hmost hp4
    have s1 := hb1.size
    simp only [World.size_alloc] at s1
    have b2 : Below w.heap.size w w2 := (b0.trans (hb1.mono (by simp))).trans (t2.below (by omega) (fun x hx => by simp at hx; rw [hx]; simp at hgs; omega))
    have r0 : w2.cell? ⟨w.heap.size, 0, none⟩ = some (.int .i64 0) := by rw [t2.cell (p := ⟨w.heap.size, 0, none⟩) (by dsimp; omega) (by simp; simp at hgs; omega), hb1.cell (p := ⟨w.heap.size, 0, none⟩) (by simp)]; go_simp
    have r1 : w2.cell? ⟨w.heap.size, 1, none⟩ = some (.slice none 0 0) := by rw [t2.cell (p := ⟨w.heap.size, 1, none⟩) (by dsimp; omega) (by simp; simp at hgs; omega), hb1.cell (p := ⟨w.heap.size, 1, none⟩) (by simp)]; go_simp
    have r2 : w2.cell? ⟨w.heap.size, 2, none⟩ = some (.int .i64 0) := by rw [t2.cell (p := ⟨w.heap.size, 2, none⟩) (by dsimp; omega) (by simp; simp at hgs; omega), hb1.cell (p := ⟨w.heap.size, 2, none⟩) (by simp)]; go_simp
    have rf : ∀ o, w2.frozen? ⟨w.heap.size, o, none⟩ = false := fun o => by rw [t2.frozen (p := ⟨w.heap.size, o, none⟩) (by dsimp; omega) (by simp; simp at hgs; omega), hb1.frozen (p := ⟨w.heap.size, o, none⟩) (by simp)]; go_simp
    have s2 := t2.size
    clear hb1 t2 b0 HSC
    gi_wp2_with fail
    have s3 : w2.heap.size < (w2.alloc (.cells #[.int .i64 most, .slice none 0 0, .int .i64 0] 82)).heap.size := by simp
    have b3 : Below w2.heap.size w2 (w2.alloc (.cells #[.int .i64 most, .slice none 0 0, .int .i64 0] 82)) := by ((repeat' (first | (with_reducible exact Below.refl _ _) | (with_reducible refine Below.setCell ?_ ?_ _) | (with_reducible refine Below.alloc ?_ ?_ _) | (with_reducible refine Below.drew ?_) | (with_reducible refine Below.trans ?_ (Below.mono (by assumption) ?_)) | go_size)))
    have x0 : (w2.alloc (.cells #[.int .i64 most, .slice none 0 0, .int .i64 0] 82)).cell? ⟨w2.heap.size, 0, none⟩ = some (.int .i64 most) := by go_simp
    have x1 : (w2.alloc (.cells #[.int .i64 most, .slice none 0 0, .int .i64 0] 82)).cell? ⟨w2.heap.size, 1, none⟩ = some (.slice none 0 0) := by go_simp
    have x2 : (w2.alloc (.cells #[.int .i64 most, .slice none 0 0, .int .i64 0] 82)).cell? ⟨w2.heap.size, 2, none⟩ = some (.int .i64 0) := by go_simp
    have xf : ∀ o, (w2.alloc (.cells #[.int .i64 most, .slice none 0 0, .int .i64 0] 82)).frozen? ⟨w2.heap.size, o, none⟩ = false := fun o => by go_simp
    obtain ⟨w3, hw3⟩ : ∃ W, w2.alloc (.cells #[.int .i64 most, .slice none 0 0, .int .i64 0] 82) = W := ⟨_, rfl⟩
    rw [hw3] at s3 b3 x0 x1 x2 xf ⊢
    clear hw3
    have bw3 : Below w.heap.size w w3 := b2.trans (b3.mono (by omega))
    have hrq : w.heap.size < w2.heap.size := by omega
    have resd : ∀ W, Below w3.heap.size w3 W → W.cell? ⟨w.heap.size, 0, none⟩ = some (.int .i64 0) ∧ W.cell? ⟨w.heap.size, 1, none⟩ = some (.slice none 0 0) ∧ W.cell? ⟨w.heap.size, 2, none⟩ = some (.int .i64 0) ∧ ∀ o, W.frozen? ⟨w.heap.size, o, none⟩ = false := fun W hW => by
      have hc : ∀ o, W.cell? ⟨w.heap.size, o, none⟩ = w2.cell? ⟨w.heap.size, o, none⟩ := fun o => (hW.cell (p := ⟨w.heap.size, o, none⟩) (by dsimp; omega)).trans (b3.cell (p := ⟨w.heap.size, o, none⟩) hrq)
      exact ⟨(hc 0).trans r0, (hc 1).trans r1, (hc 2).trans r2, fun o => (hW.frozen (p := ⟨w.heap.size, o, none⟩) (by dsimp; omega)).trans ((b3.frozen (p := ⟨w.heap.size, o, none⟩) hrq).trans (rf o))⟩
    have RES := Lib.hid resd
    have XF := Lib.hid xf
    have hql3 : w2.heap.size < w3.heap.size := by omega
    clear r0 r1 r2 rf b3 resd xf
    cases hl : limitB most
    · have hr : readOK bs = false := by rw [HR.out, HM.out, hl]; simp
      have HRf := Lib.hid hr
      have HL := Lib.hid hl
      clear hr hl
      refine wpIn_wide.2 ?_
      refine wp_grow [(2, .val (.bool false))] 13 (by kernel_rfl) (by kernel_rfl) (by rfl) (by rfl) ?_
      simp only [List.take_succ_cons, List.take_zero, List.drop_succ_cons, List.drop_zero]
      repeat (first
        | (apply Der.quiet; (rfl); (rfl); (intro w' hw' hctx; have hc' := bcell hw'; have y1 := (hw'.cell (p := ⟨w2.heap.size, 0, none⟩) hql3).trans x0; clear hctx; go_simp; first | exact rfl | exact ⟨rfl, rfl⟩); simp only [Act.put, List.setIfInBounds_toArray, List.set_cons_succ, List.set_cons_zero, Nat.reduceAdd])
        | (apply Der.skip; (rfl); simp only [Act.put, List.setIfInBounds_toArray, List.set_cons_succ, List.set_cons_zero, Nat.reduceAdd]))
      apply Der.val
      · rfl
      · rfl
      · (intro w' hw' hctx; go_simp; refine (f_limitV HL.out _).mono ?_; rintro e w2 ⟨rfl, hb⟩; exact ⟨_, rfl, rfl, hb⟩)
      simp only [Act.put, List.setIfInBounds_toArray, List.set_cons_succ, List.set_cons_zero, Nat.reduceAdd]
      repeat (first
        | (apply Der.quiet; (rfl); (rfl); (intro w' hw' hctx; have hc' := bcell hw'; clear hctx; go_simp; first | exact rfl | exact ⟨rfl, rfl⟩); simp only [Act.put, List.setIfInBounds_toArray, List.set_cons_succ, List.set_cons_zero, Nat.reduceAdd])
        | (apply Der.skip; (rfl); simp only [Act.put, List.setIfInBounds_toArray, List.set_cons_succ, List.set_cons_zero, Nat.reduceAdd]))
      refine Der.nil (fun w4 hgw4 hctx => ?_)
      clear hctx
      have hb4 : Below _ _ w4 := hgw4
      clear hgw4
      have b4 : Below w3.heap.size w3 w4 := (Below.refl _ _).drew.trans hb4
      obtain ⟨q0, q1, q2, qf⟩ := RES.out w4 b4
      have qf0 := qf 0
      have qf1 := qf 1
      have qf2 := qf 2
      have hl4 : w.heap.size < w4.heap.size := by have := b4.size; omega
      clear qf
      go_wp2_with fail
      gi_wp2
      refine ⟨.tuple #[.agg #[.int .i64 0, .slice none 0 0, .int .i64 0], .bool false], (by simp only [results, Tryz.results42]; go_simp), ?_⟩
      rw [← HQ.out]
      exact ⟨_, by rw [HRf.out], (((bw3.trans (b4.mono (by omega))).setCell (p := ⟨w.heap.size, 0, none⟩) (Nat.le_refl _) _).setCell (p := ⟨w.heap.size, 1, none⟩) (Nat.le_refl _) _).setCell (p := ⟨w.heap.size, 2, none⟩) (Nat.le_refl _) _, ⟨_, _, _, rfl, _, _, _, rfl⟩, fun h => by rw [HRf.out] at h; cases h⟩
    · have hbd := limitB_bd hl
      have HL := Lib.hid hl
      have r20 := run_cutB a bs.length cap 20 h20' hle hcm
      have r20' : ∀ w : World, (Instr.sliceAt 24 (.slice a bs.length cap) none (some (.int .i64 20)) none).run Tryz.prog w = .ok (.slice a 20 cap) w := r20
      obtain ⟨Y, hY⟩ : ∃ Y, decide (headB most = bs.take 20) = Y := ⟨_, rfl⟩
      have HY := Lib.hid hY
      clear hl r20 hY
      refine wpIn_wide.2 ?_
      refine wp_grow [(2, .val (.bool true)), (7, .rel (OwnR w3.heap.size (headB most)) (fun _ _ _ h hg => h.grown hg)), (10, .val (.bool Y))] 13 (by kernel_rfl) (by kernel_rfl) (by rfl) (by rfl) ?_
      simp only [List.take_succ_cons, List.take_zero, List.drop_succ_cons, List.drop_zero]
      repeat (first
        | (apply Der.quiet; (rfl); (rfl); (intro w' hw' hctx; have hc' := bcell hw'; have y1 := (hw'.cell (p := ⟨w2.heap.size, 0, none⟩) hql3).trans x0; clear hctx; go_simp; first | exact rfl | exact ⟨rfl, rfl⟩); simp only [Act.put, List.setIfInBounds_toArray, List.set_cons_succ, List.set_cons_zero, Nat.reduceAdd])
        | (apply Der.skip; (rfl); simp only [Act.put, List.setIfInBounds_toArray, List.set_cons_succ, List.set_cons_zero, Nat.reduceAdd]))
      apply Der.val
      · rfl
      · rfl
      · (intro w' hw' hctx; go_simp; refine (f_limitV HL.out _).mono ?_; rintro e w2 ⟨rfl, hb⟩; exact ⟨_, rfl, rfl, hb⟩)
      simp only [Act.put, List.setIfInBounds_toArray, List.set_cons_succ, List.set_cons_zero, Nat.reduceAdd]
      repeat (first
        | (apply Der.quiet; (rfl); (rfl); (intro w' hw' hctx; have hc' := bcell hw'; have y1 := (hw'.cell (p := ⟨w2.heap.size, 0, none⟩) hql3).trans x0; clear hctx; go_simp; first | exact rfl | exact ⟨rfl, rfl⟩); simp only [Act.put, List.setIfInBounds_toArray, List.set_cons_succ, List.set_cons_zero, Nat.reduceAdd])
        | (apply Der.skip; (rfl); simp only [Act.put, List.setIfInBounds_toArray, List.set_cons_succ, List.set_cons_zero, Nat.reduceAdd]))
      refine Der.rel (by rfl) (by rfl) (fun w' hw' hctx => ?_) (fun v25 => ?_)
      · (go_simp; refine (f_head most w' (by omega) (by omega)).mono ?_; rintro e w2 ⟨⟨v', rfl, ho⟩, hb⟩; exact ⟨_, rfl, OwnR.of ho rfl hw'.size, hb⟩)
      simp only [Act.put, List.setIfInBounds_toArray, List.set_cons_succ, List.set_cons_zero, Nat.reduceAdd]
      repeat (first
        | (apply Der.quiet; (rfl); (rfl); (intro w' hw' hctx; have hc' := bcell hw'; clear hctx; go_simp; first | exact rfl | exact ⟨rfl, rfl⟩); simp only [Act.put, List.setIfInBounds_toArray, List.set_cons_succ, List.set_cons_zero, Nat.reduceAdd])
        | (apply Der.skip; (rfl); simp only [Act.put, List.setIfInBounds_toArray, List.set_cons_succ, List.set_cons_zero, Nat.reduceAdd]))
      apply Der.val
      · rfl
      · rfl
      · (intro w' hw' hctx; go_simp; refine (f_eqR (hctx 7 _ _ (by kernel_rfl) rfl rfl) ((HV.out.grown (bw3.trans (((Below.refl _ _).drew.trans hw').mono (by show w.heap.size ≤ w3.heap.size; omega)))).cut h20') headB_byte (hb.take 20) HY.out).mono ?_; rintro e w2 ⟨rfl, hb⟩; exact ⟨_, rfl, rfl, hb⟩)
      simp only [Act.put, List.setIfInBounds_toArray, List.set_cons_succ, List.set_cons_zero, Nat.reduceAdd]
      repeat (first
        | (apply Der.quiet; (rfl); (rfl); (intro w' hw' hctx; have hc' := bcell hw'; clear hctx; go_simp; first | exact rfl | exact ⟨rfl, rfl⟩); simp only [Act.put, List.setIfInBounds_toArray, List.set_cons_succ, List.set_cons_zero, Nat.reduceAdd])
        | (apply Der.skip; (rfl); simp only [Act.put, List.setIfInBounds_toArray, List.set_cons_succ, List.set_cons_zero, Nat.reduceAdd]))
      refine Der.nil (fun w4 hgw4 hctx => ?_)
      clear hctx
      have hb4 : Below _ _ w4 := hgw4
      clear hgw4
      have b4 : Below w3.heap.size w3 w4 := (Below.refl _ _).drew.trans hb4
      have s4 := b4.size
      have bw4 : Below w.heap.size w w4 := bw3.trans (b4.mono (by omega))
      obtain ⟨q0, q1, q2, qf⟩ := RES.out w4 b4
      have qf0 := qf 0
      have qf1 := qf 1
      have qf2 := qf 2
      have hl4 : w.heap.size < w4.heap.size := by omega
      have x04 := (b4.cell (p := ⟨w2.heap.size, 0, none⟩) hql3).trans x0
      have x14 := (b4.cell (p := ⟨w2.heap.size, 1, none⟩) hql3).trans x1
      have x24 := (b4.cell (p := ⟨w2.heap.size, 2, none⟩) hql3).trans x2
      have xf4 := Lib.hid (fun o => (b4.frozen (p := ⟨w2.heap.size, o, none⟩) hql3).trans (XF.out o))
      have QF := Lib.hid qf
      clear hb4 qf r20' RES x0 x1 x2 XF
      cases Y
      · have hr : readOK bs = false := by rw [HR.out, HM.out, HL.out, HY.out]; simp
        have HRf := Lib.hid hr
        clear hr
        go_wp2_with fail
        gi_wp2
        refine ⟨.tuple #[.agg #[.int .i64 0, .slice none 0 0, .int .i64 0], .bool false], (by simp only [results, Tryz.results42]; go_simp), ?_⟩
        rw [← HQ.out]
        exact ⟨_, by rw [HRf.out], ((bw4.setCell (p := ⟨w.heap.size, 0, none⟩) (Nat.le_refl _) _).setCell (p := ⟨w.heap.size, 1, none⟩) (Nat.le_refl _) _).setCell (p := ⟨w.heap.size, 2, none⟩) (Nat.le_refl _) _, ⟨_, _, _, rfl, _, _, _, rfl⟩, fun h => by rw [HRf.out] at h; cases h⟩
      · have HR2 := Lib.hid (show readOK bs = decide (partsB bs ≠ []) by rw [HR.out, HM.out, HL.out, HY.out, decide_eq_true h20']; simp)
        go_wp2_with fail
        gi_wp2_with fail
        refine ⟨trivial, (callsIn_wide.2 (f_frames _ _ _ _)).mono ?_⟩
        rintro e w' ⟨rfl, rfl⟩
        gi_wp2_with fail
        have s5 : w4.heap.size < (w4.alloc (.cells #[.slice a20 (bs.length - 20) (cap - 20)] 24)).heap.size := by simp
        have b5 : Below w4.heap.size w4 (w4.alloc (.cells #[.slice a20 (bs.length - 20) (cap - 20)] 24)) := by ((repeat' (first | (with_reducible exact Below.refl _ _) | (with_reducible refine Below.setCell ?_ ?_ _) | (with_reducible refine Below.alloc ?_ ?_ _) | (with_reducible refine Below.drew ?_) | (with_reducible refine Below.trans ?_ (Below.mono (by assumption) ?_)) | go_size)))
        have cB : (w4.alloc (.cells #[.slice a20 (bs.length - 20) (cap - 20)] 24)).cell? ⟨w4.heap.size, 0, none⟩ = some (.slice a20 (bs.length - 20) (cap - 20)) := by go_simp
        have fB : (w4.alloc (.cells #[.slice a20 (bs.length - 20) (cap - 20)] 24)).frozen? ⟨w4.heap.size, 0, none⟩ = false := by simp
        obtain ⟨w5, hw5⟩ : ∃ W, w4.alloc (.cells #[.slice a20 (bs.length - 20) (cap - 20)] 24) = W := ⟨_, rfl⟩
        rw [hw5] at s5 b5 cB fB ⊢
        clear hw5
        have bw5 : Below w.heap.size w w5 := bw4.trans (b5.mono (by omega))
        have hqB : w4.heap.size ≠ w2.heap.size := by omega
        have hLf : Left w5 w5 w2.heap.size w4.heap.size (bs.drop 20) := ⟨Tw.refl _ _ _, ⟨_, cB, hB20'.out _ (HV.out.grown bw5), fun ad n c e => by
          simp only [Value.slice.injEq] at e
          obtain ⟨ad0, e2, e3⟩ := HA20.out ad e.1
          have := HVA.out ad0 bs.length cap (by rw [e2])
          rw [← e3]; omega⟩, fB⟩
        have hseq := frames_seq 5 (by omega) w4.heap.size w2.heap.size w5 (bs.drop 20) (by rw [List.length_drop]; omega) (hb.drop 20) (by omega) hqB hLf
        have u0 := (b5.cell (p := ⟨w.heap.size, 0, none⟩) hl4).trans q0
        have u1 := (b5.cell (p := ⟨w.heap.size, 1, none⟩) hl4).trans q1
        have u2 := (b5.cell (p := ⟨w.heap.size, 2, none⟩) hl4).trans q2
        have UF := Lib.hid (fun o => (b5.frozen (p := ⟨w.heap.size, o, none⟩) hl4).trans (QF.out o))
        have hw2 : w2.heap.size < w4.heap.size := by omega
        have hS0 : SaidIs w5 ((none : Option Nat).toList ++ (w2.heap.size :: w4.heap.size :: w.heap.size :: A)) w2.heap.size none most [] :=
          ⟨(b5.cell (p := ⟨w2.heap.size, 0, none⟩) hw2).trans x04, ⟨_, (b5.cell (p := ⟨w2.heap.size, 1, none⟩) hw2).trans x14, rfl, [], rfl, World.ownsRow_nil _ _ _ _, fun p hp => by cases hp⟩, (b5.cell (p := ⟨w2.heap.size, 2, none⟩) hw2).trans x24,
            fun o => (b5.frozen (p := ⟨w2.heap.size, o, none⟩) hw2).trans (xf4.out o), by simp, fun k hk => by (cases hk), fun a ha => by simp at ha; rcases ha with rfl | rfl | rfl | ha <;> first | omega | (have := hA a ha; omega)⟩
        have hI0 : RdI w5 (w.heap.size :: A) w2.heap.size w4.heap.size most ([] : List (List Int)) w5 := ⟨⟨none, hS0, fun k hk => by cases hk⟩, Tw.refl _ _ _, rfl⟩
        have HPB := Lib.hid (partsB_eq hb)
        clear hS0 hLf x04 x14 x24 xf4 q0 q1 q2 qf0 qf1 qf2 cB fB
        refine wpIn_rangeG rfl h1 (gf := 114) (lb := #[.pointer (some ⟨w4.heap.size, 0, none⟩)]) rfl trivial (enters_of Tryz.func114 (by kernel_rfl) rfl) (B := w4.heap.size) s5 hseq
          (fun h k => Tw.trans h k) (fun W l o o' hl ho _ _ => ⟨rfl, rfl, rfl, by simp, fun k hk _ => World.putObj_heap_other (by omega)⟩)
          (fun x W l o o' hl ho hc hx => ⟨hx.1, hx.2.1, ownsRow_putObj hx.2.2 _ ho hc⟩) (fun _ => rfl)
          (fun pre W => RdI w5 (w.heap.size :: A) w2.heap.size w4.heap.size most (pre.map Prod.snd) W) (fun c pre W => c = Code.exit 0 ∧ RdX w5 (w.heap.size :: A) w2.heap.size w4.heap.size most pre W)
          RdI.own (fun _ xs W W' row hs hg hr => ⟨hs.1, RdX.own xs W W' row hs.2 hg hr⟩) (fun pre W v h => h.setB hqB s5 v) hI0
          (fun x => { tmps := #[.slice a bs.length cap, undef, .pointer (some ⟨w.heap.size, 0, none⟩), .bool false, .pointer (some ⟨gs, 0, none⟩), .pointer (some ⟨w2.heap.size, 0, none⟩), x.1, .slice a bs.length cap, .int .i64 bs.length, .bool (decide ((bs.length : Int) < 20)), undef, .slice a bs.length cap, .slice a8 (bs.length - 8) (cap - 8), .pointer (some ⟨gs, 0, none⟩), .pointer (some ⟨gs, 0, none⟩), .int .u64 most, .int .i64 most, .agg #[.int .i64 most, .slice none 0 0, .int .i64 0], .pointer (some ⟨w2.heap.size, 0, none⟩), .int .i64 most, .bool true, .bool false, .bool false, .pointer (some ⟨w2.heap.size, 0, none⟩), .int .i64 most, v25, .slice a bs.length cap, .slice a 20 cap, .bool true, .bool false, .bool false, undef, .slice a bs.length cap, .slice a20 (bs.length - 20) (cap - 20), .func (.func 114) #[] #[.pointer (some ⟨w4.heap.size, 0, none⟩)], x.1, undef, undef, undef, undef, undef, undef, undef, undef, undef, undef], defers := [] }) ?assign ?body ?done ?stop
        case assign =>
          intro l x W K hK
          gi_wp2
          exact hK
        case body =>
          rintro l pre ⟨xv, xb⟩ W hI hx
          obtain ⟨hxb, hxl, hxo⟩ := hx
          dsimp only at hxb hxl hxo
          obtain ⟨g, hS, hgn⟩ := hI.said
          obtain ⟨parts, hparts⟩ : ∃ ps, pre.map Prod.snd = ps := ⟨_, rfl⟩
          rw [hparts] at hI hS
          have hcl := fitsL_cost most parts 0 (by omega)
          rw [hI.fits, Nat.zero_add] at hcl
          obtain ⟨ax, cx, rfl, -⟩ := (Byt.of_owns hxo (by simp)).open
          have HBX := Lib.hid (Byt.of_owns hxo rfl)
          have HXO := Lib.hid hxo
          have HI := Lib.hid hI
          have HS := Lib.hid hS
          have HGN := Lib.hid hgn
          have HP := Lib.hid hparts
          have hsW := hI.tw.size
          clear hI hS hgn hxo hparts
          gi_wp2_with fail
          refine ⟨trivial, (callsIn_wide.2 (f_wfits HS.out (by omega) _ _ _ (by omega))).mono ?_⟩
          rintro e w6 ⟨rfl, hb6⟩
          have HB6 := Lib.hid hb6
          have hs6 := hb6.size
          clear hb6
          by_cases hf : (((costL parts + 12 + xb.length : Nat) : Int) ≤ most)
          · have e1 : fitB most parts xb.length = true := decide_eq_true hf
            have HF := Lib.hid hf
            rw [e1]
            clear hf e1
            gi_wp2_with fail
            refine ⟨trivial, (callsIn_wide.2 (f_wadds (HS.out.below HB6.out) (by omega) _ xb (HBX.out.grown HB6.out) (by omega) (fun ad n c e => ?_))).mono ?_⟩
            · obtain ⟨p', k', c', e2, h2⟩ := own_slice HXO.out
              rw [e] at e2
              simp only [Value.slice.injEq] at e2
              have h3 := h2 ad e2.1.symm
              refine ⟨by omega, fun hc => ?_⟩
              rcases List.mem_append.1 hc with h4 | h4
              · obtain ⟨v', c1, hv', ps, h5, ho, h6⟩ := HS.out.row
                have h7 := own_apart ho HXO.out (by decide) (hv'.trans (by simpa using h4))
                rw [e] at h7
                exact h7 rfl
              · simp only [List.mem_cons] at h4
                rcases h4 with h4 | h4 | h4 | h4
                · omega
                · omega
                · omega
                · have := hA _ h4; have := bw5.size; omega
            rintro e w7 ⟨rfl, A', g', hE, hG, hS', ht, -⟩
            have HFIN := Lib.hid (HI.out.grow HS.out HGN.out (by omega) HB6.out hE hG hS' ht HF.out)
            clear hE hG hS' ht
            gi_wp2
            refine ⟨HFIN.out.1, HFIN.out.2.1, ?_⟩
            show RdI _ _ _ _ _ (List.map Prod.snd (pre ++ [(_, xb)])) _
            rw [List.map_append, HP.out]
            exact HFIN.out.2.2
          · have e1 : fitB most parts xb.length = false := decide_eq_false hf
            have HF := Lib.hid hf
            rw [e1]
            clear hf e1
            gi_wp2
            exact ⟨⟨hs6, fun k o _ hk _ => (HB6.out.block k (Array.getElem?_eq_some_iff.1 hk).1).trans hk⟩, rfl, parts, xb, by simp [HP.out], HI.out.below HB6.out, Int.not_le.2 HF.out⟩
        case done =>
          rintro D ys W hD hys hI hK
          have hpe : partsB bs = ys.map Prod.snd := by rw [HPB.out, HM.out, ← hys]; exact hI.fits
          obtain ⟨parts, hparts⟩ : ∃ ps, ys.map Prod.snd = ps := ⟨_, rfl⟩
          rw [hparts] at hI hpe
          obtain ⟨g, hS, hgn⟩ := hI.said
          obtain ⟨vr, y1, hrow⟩ := hS.rowIs
          have y0 := hS.c0
          have y2 := hS.c2
          obtain ⟨ar, kr, rfl, -⟩ := hrow.slice
          have hcell : ∀ o, W.cell? ⟨w.heap.size, o, none⟩ = w5.cell? ⟨w.heap.size, o, none⟩ := fun o => hI.tw.cell (p := ⟨w.heap.size, o, none⟩) (by dsimp; omega) (by simp; omega)
          have z0 := (hcell 0).trans u0
          have z1 := (hcell 1).trans u1
          have z2 := (hcell 2).trans u2
          have zf : ∀ o, W.frozen? ⟨w.heap.size, o, none⟩ = false := fun o => (hI.tw.frozen (p := ⟨w.heap.size, o, none⟩) (by dsimp; omega) (by simp; omega)).trans (UF.out o)
          have zf0 := zf 0
          have zf1 := zf 1
          have zf2 := zf 2
          have hsW := hI.tw.size
          have hpl : parts.length ≤ 1000000 := by have := fitsL_cost most parts 0 (by omega); rw [hI.fits] at this; have := costL_len parts; omega
          have hl6 : w.heap.size < W.heap.size := by omega
          have hl7 : w2.heap.size < W.heap.size := by omega
          obtain ⟨cst, hcst⟩ : ∃ c : Nat, costL parts = c := ⟨_, rfl⟩
          rw [hcst] at y2
          have HCST := Lib.hid hcst
          have HI := Lib.hid hI
          have HS := Lib.hid hS
          have HGN := Lib.hid hgn
          have HRW := Lib.hid hrow
          have HPE := Lib.hid hpe
          have nrq : w2.heap.size ∉ [w.heap.size] := by simp; omega
          clear hI hS hgn hrow hcell zf hcst hpe
          gi_wp2_with fail
          refine wpIn_wide.2 (wp_noP ?_)
          refine wp_region_held_drew (S := fun Wx => Tw W.heap.size [w.heap.size] W Wx) (by kernel_rfl) (Tw.of_below ((Below.refl _ _).drew)) (fun hHeld => ?_)
          refine wpAnyH_take (i := 0) (v := ?_) rfl (by kernel_rfl) (by kernel_rfl) (by kernel_rfl) (fun _ _ _ h => h) (Or.inl ⟨by rfl, ?_⟩) (by assumption) ?_
          rotate_left
          · (intro wS hSw; have k0 := (hSw.cell (p := ⟨w2.heap.size, 0, none⟩) hl7 nrq).trans y0; have k1 := (hSw.cell (p := ⟨w2.heap.size, 1, none⟩) hl7 nrq).trans y1; have k2 := (hSw.cell (p := ⟨w2.heap.size, 2, none⟩) hl7 nrq).trans y2; (try dsimp only at hSw); (try go_simp); first | done | with_reducible rfl | rfl)
          simp only [Act.put, List.setIfInBounds_toArray, List.set_cons_succ, List.set_cons_zero, Nat.reduceAdd]
          refine wpAnyH_take (i := 1) (v := ?_) rfl (by kernel_rfl) (by kernel_rfl) (by kernel_rfl) (fun _ _ _ h => h) (Or.inl ⟨by rfl, ?_⟩) (by assumption) ?_
          rotate_left
          · (intro wS hSw; have k0 := (hSw.cell (p := ⟨w2.heap.size, 0, none⟩) hl7 nrq).trans y0; have k1 := (hSw.cell (p := ⟨w2.heap.size, 1, none⟩) hl7 nrq).trans y1; have k2 := (hSw.cell (p := ⟨w2.heap.size, 2, none⟩) hl7 nrq).trans y2; (try dsimp only at hSw); (try go_simp); first | done | with_reducible rfl | rfl)
          simp only [Act.put, List.setIfInBounds_toArray, List.set_cons_succ, List.set_cons_zero, Nat.reduceAdd]
          refine wpAnyH_take (i := 2) (v := ?_) rfl (by kernel_rfl) (by kernel_rfl) (by kernel_rfl) (fun _ _ _ h => h) (Or.inl ⟨by rfl, ?_⟩) (by assumption) ?_
          rotate_left
          · (intro wS hSw; have k0 := (hSw.cell (p := ⟨w2.heap.size, 0, none⟩) hl7 nrq).trans y0; have k1 := (hSw.cell (p := ⟨w2.heap.size, 1, none⟩) hl7 nrq).trans y1; have k2 := (hSw.cell (p := ⟨w2.heap.size, 2, none⟩) hl7 nrq).trans y2; (try dsimp only at hSw); (try go_simp); first | done | with_reducible rfl | rfl)
          simp only [Act.put, List.setIfInBounds_toArray, List.set_cons_succ, List.set_cons_zero, Nat.reduceAdd]
          refine wpAnyH_take (i := 3) (v := ?_) rfl (by kernel_rfl) (by kernel_rfl) (by kernel_rfl) (fun _ _ _ h => h) (Or.inl ⟨by rfl, ?_⟩) (by assumption) ?_
          rotate_left
          · (intro wS hSw; have k0 := (hSw.cell (p := ⟨w2.heap.size, 0, none⟩) hl7 nrq).trans y0; have k1 := (hSw.cell (p := ⟨w2.heap.size, 1, none⟩) hl7 nrq).trans y1; have k2 := (hSw.cell (p := ⟨w2.heap.size, 2, none⟩) hl7 nrq).trans y2; (try dsimp only at hSw); (try go_simp); first | done | with_reducible rfl | rfl)
          simp only [Act.put, List.setIfInBounds_toArray, List.set_cons_succ, List.set_cons_zero, Nat.reduceAdd]
          refine wpAnyH_take (i := 4) (v := ?_) rfl (by kernel_rfl) (by kernel_rfl) (by kernel_rfl) (fun _ _ _ h => h) (Or.inl ⟨by rfl, ?_⟩) (by assumption) ?_
          rotate_left
          · (intro wS hSw; have k0 := (hSw.cell (p := ⟨w2.heap.size, 0, none⟩) hl7 nrq).trans y0; have k1 := (hSw.cell (p := ⟨w2.heap.size, 1, none⟩) hl7 nrq).trans y1; have k2 := (hSw.cell (p := ⟨w2.heap.size, 2, none⟩) hl7 nrq).trans y2; (try dsimp only at hSw); (try go_simp); first | done | with_reducible rfl | rfl)
          simp only [Act.put, List.setIfInBounds_toArray, List.set_cons_succ, List.set_cons_zero, Nat.reduceAdd]
          have t7 : Tw W.heap.size [w.heap.size] W (((W.drew.setCell ⟨w.heap.size, 0, none⟩ (.int .i64 most)).setCell ⟨w.heap.size, 1, none⟩ (.slice ar parts.length kr)).setCell ⟨w.heap.size, 2, none⟩ (.int .i64 cst)) := (((Tw.of_below ((Below.refl W.heap.size W).drew) : Tw W.heap.size [w.heap.size] W W.drew).setCell (.inl (by simp)) _ _).setCell (.inl (by simp)) _ _).setCell (.inl (by simp)) _ _
          refine wpAnyH_ready (rs := [5]) (by kernel_rfl) (by simp) (AllReadyH.cons rfl (fun K hK => ?_) AllReadyH.nil)
          go_simp
          refine hK.out _ _ (t7) (fun hHeld => ?_)
          clear hK K
          refine wpAnyH_take (i := 6) (v := ?_) rfl (by kernel_rfl) (by kernel_rfl) (by kernel_rfl) (fun _ _ _ h => h) (Or.inl ⟨by rfl, ?_⟩) (by assumption) ?_
          rotate_left
          · (intro wS hSw; (try dsimp only at hSw); (try go_simp); first | done | with_reducible rfl | rfl)
          simp only [Act.put, List.setIfInBounds_toArray, List.set_cons_succ, List.set_cons_zero, Nat.reduceAdd]
          refine wpAnyH_done (by kernel_rfl) ?_ _
          refine NoP.normal ?_
          go_simp
          gi_wp2
          have hDW := (Array.getElem?_eq_some_iff.1 hK).1
          have hKd : ((((W.setCell ⟨w.heap.size, 0, none⟩ (.int .i64 most)).setCell ⟨w.heap.size, 1, none⟩ (.slice ar parts.length kr)).setCell ⟨w.heap.size, 2, none⟩ (.int .i64 cst)).drew).heap[D]? = some (.deferred (some [])) := (t7.block D hDW (by simp; omega)).trans hK
          refine ⟨by simp, .inl ⟨_, _, rfl, run_takeDeferred hKd, ?_⟩⟩
          have hDo : ∀ k : Nat, k ≠ D → (((((W.setCell ⟨w.heap.size, 0, none⟩ (.int .i64 most)).setCell ⟨w.heap.size, 1, none⟩ (.slice ar parts.length kr)).setCell ⟨w.heap.size, 2, none⟩ (.int .i64 cst)).drew).putObj D (.deferred none)).heap[k]? = (((W.setCell ⟨w.heap.size, 0, none⟩ (.int .i64 most)).setCell ⟨w.heap.size, 1, none⟩ (.slice ar parts.length kr)).setCell ⟨w.heap.size, 2, none⟩ (.int .i64 cst)).heap[k]? := fun k hk => World.putObj_heap_other hk
          have hrD : w.heap.size ≠ D := by omega
          have f0 := (World.cell?_of_block (a := ⟨w.heap.size, 0, none⟩) (hDo _ hrD)).trans (show _ = some (.int .i64 most) by go_simp)
          have f1 := (World.cell?_of_block (a := ⟨w.heap.size, 1, none⟩) (hDo _ hrD)).trans (show _ = some (.slice ar parts.length kr) by go_simp)
          have f2 := (World.cell?_of_block (a := ⟨w.heap.size, 2, none⟩) (hDo _ hrD)).trans (show _ = some (.int .i64 cst) by go_simp)
          have hX : Tw W.heap.size [w.heap.size] W ((((W.setCell ⟨w.heap.size, 0, none⟩ (.int .i64 most)).setCell ⟨w.heap.size, 1, none⟩ (.slice ar parts.length kr)).setCell ⟨w.heap.size, 2, none⟩ (.int .i64 cst)).drew) := t7
          have hbF : Below w.heap.size W (((((W.setCell ⟨w.heap.size, 0, none⟩ (.int .i64 most)).setCell ⟨w.heap.size, 1, none⟩ (.slice ar parts.length kr)).setCell ⟨w.heap.size, 2, none⟩ (.int .i64 cst)).drew).putObj D (.deferred none)) := (hX.below (n' := w.heap.size) (by omega) (by simp)).trans ⟨rfl, rfl, rfl, by simp, fun k hk => World.putObj_heap_other (by omega)⟩
          have hSF0 : SaidIs (((((W.setCell ⟨w.heap.size, 0, none⟩ (.int .i64 most)).setCell ⟨w.heap.size, 1, none⟩ (.slice ar parts.length kr)).setCell ⟨w.heap.size, 2, none⟩ (.int .i64 cst)).drew).putObj D (.deferred none)) (g.toList ++ (w2.heap.size :: w4.heap.size :: w.heap.size :: A)) w2.heap.size g most parts :=
            (HS.out.tw hX (by simp) nrq (fun k hk => by have := HGN.out k hk; simp; omega)).kept (row := some D) ⟨rfl, rfl, rfl, by simp, fun k hk hne => World.putObj_heap_other (fun e => hne (by rw [e]))⟩ (fun r e => by cases e; exact ⟨_, hKd, rfl⟩)
          obtain ⟨WF, hWF⟩ : ∃ x, ((((W.setCell ⟨w.heap.size, 0, none⟩ (.int .i64 most)).setCell ⟨w.heap.size, 1, none⟩ (.slice ar parts.length kr)).setCell ⟨w.heap.size, 2, none⟩ (.int .i64 cst)).drew).putObj D (.deferred none) = x := ⟨_, rfl⟩
          rw [hWF] at f0 f1 f2 hDo hbF hSF0 ⊢
          refine ⟨.tuple #[.agg #[.int .i64 most, .slice ar parts.length kr, .int .i64 cst], .bool (decide (0 < parts.length))], (by simp only [results, Tryz.results42]; go_simp), ?_⟩
          have hb7 : Below w.heap.size W WF := hbF
          have bF : Below w.heap.size w WF := (bw5.trans ((HI.out.tw.below (n' := w.heap.size) (by omega) (by simp; omega)))).trans hb7
          have hSF : SaidIs WF (g.toList ++ (w2.heap.size :: w4.heap.size :: w.heap.size :: A)) w2.heap.size g most parts := hSF0
          obtain ⟨vF, cF, rF⟩ := hSF.rowIs
          have hvF : vF = .slice ar parts.length kr := by
            have := cF.symm.trans ((World.cell?_of_block (a := ⟨w2.heap.size, 1, none⟩) (hDo _ (by show w2.heap.size ≠ D; omega))).trans (show _ = some (.slice ar parts.length kr) by go_simp))
            exact Option.some.inj this
          subst hvF
          have hdec : decide (partsB bs ≠ []) = decide (0 < parts.length) := by rw [HPE.out]; cases parts <;> simp
          rw [← HQ.out]
          refine ⟨_, by rw [HR2.out, hdec], bF, ⟨_, _, _, rfl, _, _, _, rfl⟩, fun _ => ⟨_, g, g.toList ++ (w2.heap.size :: w4.heap.size :: w.heap.size :: A), ⟨fun a ha => by simp [ha], fun a ha => ?_⟩, ?_, hSF.lt, by rw [HM.out, HPE.out, HCST.out], by rw [HPE.out]; exact rF⟩⟩
          · rcases List.mem_append.1 ha with h4 | h4
            · exact .inr (by have := HGN.out a (by simpa using h4); omega)
            · simp only [List.mem_cons] at h4
              rcases h4 with h4 | h4 | h4 | h4
              · exact .inr (by omega)
              · exact .inr (by omega)
              · exact .inr (by omega)
              · exact .inl h4
          · cases g with
            | none => exact .inl rfl
            | some k => exact .inr ⟨k, rfl, by have := HGN.out k rfl; omega⟩
        case stop =>
          rintro D c ys W hD hpre ⟨rfl, parts, pl, hparts, hI, hnf⟩ hK
          have hpe : partsB bs = parts := by rw [HPB.out, HM.out]; exact fits_stop hI.fits (by rw [Nat.zero_add]; exact hnf) (hparts ▸ hpre)
          clear hpre hparts hnf
          obtain ⟨g, hS, hgn⟩ := hI.said
          obtain ⟨vr, y1, hrow⟩ := hS.rowIs
          have y0 := hS.c0
          have y2 := hS.c2
          obtain ⟨ar, kr, rfl, -⟩ := hrow.slice
          have hcell : ∀ o, W.cell? ⟨w.heap.size, o, none⟩ = w5.cell? ⟨w.heap.size, o, none⟩ := fun o => hI.tw.cell (p := ⟨w.heap.size, o, none⟩) (by dsimp; omega) (by simp; omega)
          have z0 := (hcell 0).trans u0
          have z1 := (hcell 1).trans u1
          have z2 := (hcell 2).trans u2
          have zf : ∀ o, W.frozen? ⟨w.heap.size, o, none⟩ = false := fun o => (hI.tw.frozen (p := ⟨w.heap.size, o, none⟩) (by dsimp; omega) (by simp; omega)).trans (UF.out o)
          have zf0 := zf 0
          have zf1 := zf 1
          have zf2 := zf 2
          have hsW := hI.tw.size
          have hpl : parts.length ≤ 1000000 := by have := fitsL_cost most parts 0 (by omega); rw [hI.fits] at this; have := costL_len parts; omega
          have hl6 : w.heap.size < W.heap.size := by omega
          have hl7 : w2.heap.size < W.heap.size := by omega
          obtain ⟨cst, hcst⟩ : ∃ c : Nat, costL parts = c := ⟨_, rfl⟩
          rw [hcst] at y2
          have HCST := Lib.hid hcst
          have HI := Lib.hid hI
          have HS := Lib.hid hS
          have HGN := Lib.hid hgn
          have HRW := Lib.hid hrow
          have HPE := Lib.hid hpe
          have nrq : w2.heap.size ∉ [w.heap.size] := by simp; omega
          clear hI hS hgn hrow hcell zf hcst hpe
          gi_wp2_with fail
          refine wpIn_wide.2 (wp_noP ?_)
          refine wp_region_held_drew (S := fun Wx => Tw W.heap.size [w.heap.size] W Wx) (by kernel_rfl) (Tw.of_below ((Below.refl _ _).drew)) (fun hHeld => ?_)
          refine wpAnyH_take (i := 0) (v := ?_) rfl (by kernel_rfl) (by kernel_rfl) (by kernel_rfl) (fun _ _ _ h => h) (Or.inl ⟨by rfl, ?_⟩) (by assumption) ?_
          rotate_left
          · (intro wS hSw; have k0 := (hSw.cell (p := ⟨w2.heap.size, 0, none⟩) hl7 nrq).trans y0; have k1 := (hSw.cell (p := ⟨w2.heap.size, 1, none⟩) hl7 nrq).trans y1; have k2 := (hSw.cell (p := ⟨w2.heap.size, 2, none⟩) hl7 nrq).trans y2; (try dsimp only at hSw); (try go_simp); first | done | with_reducible rfl | rfl)
          simp only [Act.put, List.setIfInBounds_toArray, List.set_cons_succ, List.set_cons_zero, Nat.reduceAdd]
          refine wpAnyH_take (i := 1) (v := ?_) rfl (by kernel_rfl) (by kernel_rfl) (by kernel_rfl) (fun _ _ _ h => h) (Or.inl ⟨by rfl, ?_⟩) (by assumption) ?_
          rotate_left
          · (intro wS hSw; have k0 := (hSw.cell (p := ⟨w2.heap.size, 0, none⟩) hl7 nrq).trans y0; have k1 := (hSw.cell (p := ⟨w2.heap.size, 1, none⟩) hl7 nrq).trans y1; have k2 := (hSw.cell (p := ⟨w2.heap.size, 2, none⟩) hl7 nrq).trans y2; (try dsimp only at hSw); (try go_simp); first | done | with_reducible rfl | rfl)
          simp only [Act.put, List.setIfInBounds_toArray, List.set_cons_succ, List.set_cons_zero, Nat.reduceAdd]
          refine wpAnyH_take (i := 2) (v := ?_) rfl (by kernel_rfl) (by kernel_rfl) (by kernel_rfl) (fun _ _ _ h => h) (Or.inl ⟨by rfl, ?_⟩) (by assumption) ?_
          rotate_left
          · (intro wS hSw; have k0 := (hSw.cell (p := ⟨w2.heap.size, 0, none⟩) hl7 nrq).trans y0; have k1 := (hSw.cell (p := ⟨w2.heap.size, 1, none⟩) hl7 nrq).trans y1; have k2 := (hSw.cell (p := ⟨w2.heap.size, 2, none⟩) hl7 nrq).trans y2; (try dsimp only at hSw); (try go_simp); first | done | with_reducible rfl | rfl)
          simp only [Act.put, List.setIfInBounds_toArray, List.set_cons_succ, List.set_cons_zero, Nat.reduceAdd]
          refine wpAnyH_take (i := 3) (v := ?_) rfl (by kernel_rfl) (by kernel_rfl) (by kernel_rfl) (fun _ _ _ h => h) (Or.inl ⟨by rfl, ?_⟩) (by assumption) ?_
          rotate_left
          · (intro wS hSw; have k0 := (hSw.cell (p := ⟨w2.heap.size, 0, none⟩) hl7 nrq).trans y0; have k1 := (hSw.cell (p := ⟨w2.heap.size, 1, none⟩) hl7 nrq).trans y1; have k2 := (hSw.cell (p := ⟨w2.heap.size, 2, none⟩) hl7 nrq).trans y2; (try dsimp only at hSw); (try go_simp); first | done | with_reducible rfl | rfl)
          simp only [Act.put, List.setIfInBounds_toArray, List.set_cons_succ, List.set_cons_zero, Nat.reduceAdd]
          refine wpAnyH_take (i := 4) (v := ?_) rfl (by kernel_rfl) (by kernel_rfl) (by kernel_rfl) (fun _ _ _ h => h) (Or.inl ⟨by rfl, ?_⟩) (by assumption) ?_
          rotate_left
          · (intro wS hSw; have k0 := (hSw.cell (p := ⟨w2.heap.size, 0, none⟩) hl7 nrq).trans y0; have k1 := (hSw.cell (p := ⟨w2.heap.size, 1, none⟩) hl7 nrq).trans y1; have k2 := (hSw.cell (p := ⟨w2.heap.size, 2, none⟩) hl7 nrq).trans y2; (try dsimp only at hSw); (try go_simp); first | done | with_reducible rfl | rfl)
          simp only [Act.put, List.setIfInBounds_toArray, List.set_cons_succ, List.set_cons_zero, Nat.reduceAdd]
          have t7 : Tw W.heap.size [w.heap.size] W (((W.drew.setCell ⟨w.heap.size, 0, none⟩ (.int .i64 most)).setCell ⟨w.heap.size, 1, none⟩ (.slice ar parts.length kr)).setCell ⟨w.heap.size, 2, none⟩ (.int .i64 cst)) := (((Tw.of_below ((Below.refl W.heap.size W).drew) : Tw W.heap.size [w.heap.size] W W.drew).setCell (.inl (by simp)) _ _).setCell (.inl (by simp)) _ _).setCell (.inl (by simp)) _ _
          refine wpAnyH_ready (rs := [5]) (by kernel_rfl) (by simp) (AllReadyH.cons rfl (fun K hK => ?_) AllReadyH.nil)
          go_simp
          refine hK.out _ _ (t7) (fun hHeld => ?_)
          clear hK K
          refine wpAnyH_take (i := 6) (v := ?_) rfl (by kernel_rfl) (by kernel_rfl) (by kernel_rfl) (fun _ _ _ h => h) (Or.inl ⟨by rfl, ?_⟩) (by assumption) ?_
          rotate_left
          · (intro wS hSw; (try dsimp only at hSw); (try go_simp); first | done | with_reducible rfl | rfl)
          simp only [Act.put, List.setIfInBounds_toArray, List.set_cons_succ, List.set_cons_zero, Nat.reduceAdd]
          refine wpAnyH_done (by kernel_rfl) ?_ _
          refine NoP.normal ?_
          go_simp
          gi_wp2
          have hDW := (Array.getElem?_eq_some_iff.1 hK).1
          have hKd : ((((W.setCell ⟨w.heap.size, 0, none⟩ (.int .i64 most)).setCell ⟨w.heap.size, 1, none⟩ (.slice ar parts.length kr)).setCell ⟨w.heap.size, 2, none⟩ (.int .i64 cst)).drew).heap[D]? = some (.deferred (some [])) := (t7.block D hDW (by simp; omega)).trans hK
          refine ⟨by simp, .inl ⟨_, _, rfl, run_takeDeferred hKd, ?_⟩⟩
          have hDo : ∀ k : Nat, k ≠ D → (((((W.setCell ⟨w.heap.size, 0, none⟩ (.int .i64 most)).setCell ⟨w.heap.size, 1, none⟩ (.slice ar parts.length kr)).setCell ⟨w.heap.size, 2, none⟩ (.int .i64 cst)).drew).putObj D (.deferred none)).heap[k]? = (((W.setCell ⟨w.heap.size, 0, none⟩ (.int .i64 most)).setCell ⟨w.heap.size, 1, none⟩ (.slice ar parts.length kr)).setCell ⟨w.heap.size, 2, none⟩ (.int .i64 cst)).heap[k]? := fun k hk => World.putObj_heap_other hk
          have hrD : w.heap.size ≠ D := by omega
          have f0 := (World.cell?_of_block (a := ⟨w.heap.size, 0, none⟩) (hDo _ hrD)).trans (show _ = some (.int .i64 most) by go_simp)
          have f1 := (World.cell?_of_block (a := ⟨w.heap.size, 1, none⟩) (hDo _ hrD)).trans (show _ = some (.slice ar parts.length kr) by go_simp)
          have f2 := (World.cell?_of_block (a := ⟨w.heap.size, 2, none⟩) (hDo _ hrD)).trans (show _ = some (.int .i64 cst) by go_simp)
          have hX : Tw W.heap.size [w.heap.size] W ((((W.setCell ⟨w.heap.size, 0, none⟩ (.int .i64 most)).setCell ⟨w.heap.size, 1, none⟩ (.slice ar parts.length kr)).setCell ⟨w.heap.size, 2, none⟩ (.int .i64 cst)).drew) := t7
          have hbF : Below w.heap.size W (((((W.setCell ⟨w.heap.size, 0, none⟩ (.int .i64 most)).setCell ⟨w.heap.size, 1, none⟩ (.slice ar parts.length kr)).setCell ⟨w.heap.size, 2, none⟩ (.int .i64 cst)).drew).putObj D (.deferred none)) := (hX.below (n' := w.heap.size) (by omega) (by simp)).trans ⟨rfl, rfl, rfl, by simp, fun k hk => World.putObj_heap_other (by omega)⟩
          have hSF0 : SaidIs (((((W.setCell ⟨w.heap.size, 0, none⟩ (.int .i64 most)).setCell ⟨w.heap.size, 1, none⟩ (.slice ar parts.length kr)).setCell ⟨w.heap.size, 2, none⟩ (.int .i64 cst)).drew).putObj D (.deferred none)) (g.toList ++ (w2.heap.size :: w4.heap.size :: w.heap.size :: A)) w2.heap.size g most parts :=
            (HS.out.tw hX (by simp) nrq (fun k hk => by have := HGN.out k hk; simp; omega)).kept (row := some D) ⟨rfl, rfl, rfl, by simp, fun k hk hne => World.putObj_heap_other (fun e => hne (by rw [e]))⟩ (fun r e => by cases e; exact ⟨_, hKd, rfl⟩)
          obtain ⟨WF, hWF⟩ : ∃ x, ((((W.setCell ⟨w.heap.size, 0, none⟩ (.int .i64 most)).setCell ⟨w.heap.size, 1, none⟩ (.slice ar parts.length kr)).setCell ⟨w.heap.size, 2, none⟩ (.int .i64 cst)).drew).putObj D (.deferred none) = x := ⟨_, rfl⟩
          rw [hWF] at f0 f1 f2 hDo hbF hSF0 ⊢
          refine ⟨.tuple #[.agg #[.int .i64 most, .slice ar parts.length kr, .int .i64 cst], .bool (decide (0 < parts.length))], (by simp only [results, Tryz.results42]; go_simp), ?_⟩
          have hb7 : Below w.heap.size W WF := hbF
          have bF : Below w.heap.size w WF := (bw5.trans ((HI.out.tw.below (n' := w.heap.size) (by omega) (by simp; omega)))).trans hb7
          have hSF : SaidIs WF (g.toList ++ (w2.heap.size :: w4.heap.size :: w.heap.size :: A)) w2.heap.size g most parts := hSF0
          obtain ⟨vF, cF, rF⟩ := hSF.rowIs
          have hvF : vF = .slice ar parts.length kr := by
            have := cF.symm.trans ((World.cell?_of_block (a := ⟨w2.heap.size, 1, none⟩) (hDo _ (by show w2.heap.size ≠ D; omega))).trans (show _ = some (.slice ar parts.length kr) by go_simp))
            exact Option.some.inj this
          subst hvF
          have hdec : decide (partsB bs ≠ []) = decide (0 < parts.length) := by rw [HPE.out]; cases parts <;> simp
          rw [← HQ.out]
          refine ⟨_, by rw [HR2.out, hdec], bF, ⟨_, _, _, rfl, _, _, _, rfl⟩, fun _ => ⟨_, g, g.toList ++ (w2.heap.size :: w4.heap.size :: w.heap.size :: A), ⟨fun a ha => by simp [ha], fun a ha => ?_⟩, ?_, hSF.lt, by rw [HM.out, HPE.out, HCST.out], by rw [HPE.out]; exact rF⟩⟩
          · rcases List.mem_append.1 ha with h4 | h4
            · exact .inr (by have := HGN.out a (by simpa using h4); omega)
            · simp only [List.mem_cons] at h4
              rcases h4 with h4 | h4 | h4 | h4
              · exact .inr (by omega)
              · exact .inr (by omega)
              · exact .inr (by omega)
              · exact .inl h4
          · cases g with
            | none => exact .inl rfl
            | some k => exact .inr ⟨k, rfl, by have := HGN.out k rfl; omega⟩
end Go.Proofs.YtkekidjjmcmjhaaGreat
