/- whole: what a disk's files have. -/
import Derived.Test.YtlhkacjfonihjaaCopyD
namespace Go.Proofs.Ytlhkacjfonihjaa
open Go.RowKit
set_option maxRecDepth 100000

/-- Bytes in a row of one's own: in no block below n. -/
def ByO (n : Nat) (w : World) (v : Value) (l : List Int) : Prop := Byt w v l ∧ ∀ ad k c, v = .slice (some ad) k c → n ≤ ad.block ∧ ad.block < w.heap.size
theorem ByO.nil (n : Nat) (w : World) : ByO n w (.slice none 0 0) [] := ⟨Byt.nil w, fun _ _ _ e => by cases e⟩
theorem ByO.mono {n n' : Nat} {w : World} {v : Value} {l : List Int} (h : ByO n w v l) (hn : n' ≤ n) : ByO n' w v l := ⟨h.1, fun ad k c e => ⟨Nat.le_trans hn (h.2 ad k c e).1, (h.2 ad k c e).2⟩⟩
theorem ByO.turn {n : Nat} {w w' : World} {v : Value} {l : List Int} (h : ByO n w v l) (hs : w.heap.size ≤ w'.heap.size) (hb : ∀ k, n ≤ k → k < w.heap.size → w'.heap[k]? = w.heap[k]?) : ByO n w' v l :=
  ⟨h.1.turn hs fun ad k c e => hb _ (h.2 ad k c e).1 (h.2 ad k c e).2, fun ad k c e => ⟨(h.2 ad k c e).1, Nat.lt_of_lt_of_le (h.2 ad k c e).2 hs⟩⟩
theorem ByO.tw {n : Nat} {L : List Nat} {w w' : World} {v : Value} {l : List Int} (h : ByO n w v l) (ht : Tw w.heap.size L w w') (hL : ∀ a ∈ L, a < n) : ByO n w' v l :=
  h.turn ht.size fun k h1 h2 => ht.block k h2 fun hk => by have := hL k hk; omega
theorem ByO.below {n : Nat} {w w' : World} {v : Value} {l : List Int} (h : ByO n w v l) (hb : Below w.heap.size w w') : ByO n w' v l := h.turn hb.size fun k _ h2 => hb.block k h2
theorem ByO.set {n : Nat} {w : World} {v u : Value} {l : List Int} {b o : Nat} (h : ByO n w v l) (hb : b < n) : ByO n (w.setCell ⟨b, o, none⟩ u) v l :=
  h.turn (by simp) fun k h1 _ => RowKit.Below.heap_setCell _ _ _ _ (by dsimp; omega)

section
variable {w : World} {A : List Nat} {b m : Nat} {s : DS}

/-- The four rows of what is whole. -/
def Four (n : Nat) (w : World) (v : Value) (s : DS) : Prop := ∃ v0 v1 v2 v3, v = .agg #[v0, v1, v2, v3] ∧ ByO n w v0 (s.at 0).bs ∧ ByO n w v1 (s.at 1).bs ∧ ByO n w v2 (s.at 2).bs ∧ ByO n w v3 (s.at 3).bs
theorem withE_calm {s : DS} (hd : s.dead = false) (ha : s.armed = -1) (hf : s.failing = -1) {x : Int} (h0 : 0 ≤ x) (h4 : x < 4) {f : Fi} (hx : s.fl x = some f) {ask : Fi → Int} (hk : ask f = 0) (doF : Fi → Fi) :
    withE s x ask = 0 ∧ withS s x ask doF = { meetsS s with fl := updF s.fl x (some (doF f)) } := by
  have hl : livesE s [x] = 0 := by
    unfold livesE
    rw [hd]
    have : nameB x = true := by unfold nameB; simp [h0, h4]
    simp [this]
  have hm : meetsE s = 0 := by unfold meetsE; rw [ha, hf]; rfl
  unfold withE withS
  rw [hl, hx]
  simp [hk, hm]

/-- A copy on which k reads were done. -/
structure Wk (s s' : DS) (k : Nat) : Prop where
  ok : s'.Ok
  fl : s'.fl = s.fl
  ops : s'.ops = s.ops + k
  calm : CalmS s'
theorem Wk.step {s s' : DS} {k : Nat} (h : Wk s s' k) {x : Int} (hx : x ∈ namesOf s) : withE s' x ask0 = 0 ∧ Wk s (withS s' x ask0 id) (k + 1) ∧ (s'.at x).bs = (s.at x).bs := by
  obtain ⟨h4, hs⟩ := namesOf_mem.1 hx
  obtain ⟨f, hf⟩ := Option.isSome_iff_exists.1 hs
  have hf' : s'.fl x = some f := by rw [h.fl]; exact hf
  obtain ⟨e1, e2⟩ := withE_calm h.calm.dead h.calm.armed h.calm.failing (x := x) (by omega) (by omega) hf' (ask := ask0) rfl id
  refine ⟨e1, ⟨read_ok h.ok x, ?_, ?_, ?_⟩, by rw [at_of hf, at_of hf']⟩
  · rw [e2]
    funext y
    show updF s'.fl x (some (id f)) y = _
    unfold updF
    split
    · rename_i e; rw [e]; exact hf.symm
    · rw [h.fl]
  · rw [e2]
    show s'.ops + 1 = _
    have := h.ops; push_cast; omega
  · rw [e2]
    refine ⟨?_, ?_, ?_⟩
    · show (if s'.armed = 0 then true else s'.dead) = false
      rw [h.calm.armed]; exact h.calm.dead
    · show dec1 s'.armed = -1
      rw [h.calm.armed]; rfl
    · show dec1 s'.failing = -1
      rw [h.calm.failing]; rfl
theorem names_w64 {s : DS} {x : Int} (hx : x ∈ namesOf s) : W64 x := by
  have := (namesOf_mem.1 hx).1
  exact w64 (by omega) (by omega)

def cellL (s : DS) (k : Nat) (i : Nat) : List Int := if (i : Int) ∈ (namesOf s).take k then (s.at i).bs else []
theorem cellL_zero (s : DS) (i : Nat) : cellL s 0 i = [] := by unfold cellL; simp
theorem cellL_step (s : DS) (k i : Nat) (h : k < (namesOf s).length) : cellL s (k + 1) i = if (i : Int) = (namesOf s)[k] then (s.at i).bs else cellL s k i := by
  unfold cellL
  rw [List.take_succ_eq_append_getElem h]
  simp only [List.mem_append, List.mem_singleton]
  by_cases e : (i : Int) = (namesOf s)[k]
  · rw [if_pos e, if_pos (.inr e)]
  · rw [if_neg e]
    by_cases e2 : (i : Int) ∈ (namesOf s).take k
    · rw [if_pos (.inl e2), if_pos e2]
    · rw [if_neg (by rintro (h | h); exact e2 h; exact e h), if_neg e2]
theorem cellL_end (s : DS) (i : Nat) (hi : i < 4) : cellL s (namesOf s).length i = (s.at i).bs := by
  unfold cellL
  rw [List.take_length]
  split
  · rfl
  · rename_i h
    cases hf : s.fl i with
    | none => unfold DS.at; rw [hf]; rfl
    | some f => exact absurd (namesOf_mem.2 ⟨by omega, by rw [hf]; rfl⟩) h

set_option maxRecDepth 100000 in
set_option maxHeartbeats 4000000 in
theorem f_whole (h : Disk w A b m s) (hok : s.Ok) (hop : s.ops < 900000) (hdead : s.dead = false) : Calls Try.prog 18 #[DP b] w fun e w' =>
    ∃ v, e = .returned (.tuple #[v, .bool true]) ∧ Four w.heap.size w' v s ∧ Disk w' A b m s ∧ Below w.heap.size w w' := by
  have HD := Lib.hid h
  have hbl := h.blt
  have hml := h.mlt
  have hbA := h.hb
  have hmA := h.hm
  have HOK := Lib.hid hok
  have hoz := hok.ops
  clear h hok
  go_enter Try.func18, Try.ntmps18
  go_wp2_with fail
  have hs0 : ((w.alloc (.cells #[.slice none 0 0, .slice none 0 0, .slice none 0 0, .slice none 0 0] 41)).alloc (.cells #[.slice none 0 0, .slice none 0 0, .slice none 0 0, .slice none 0 0] 41)).heap.size = w.heap.size + 2 := by simp
  have hb0 : Below w.heap.size w ((w.alloc (.cells #[.slice none 0 0, .slice none 0 0, .slice none 0 0, .slice none 0 0] 41)).alloc (.cells #[.slice none 0 0, .slice none 0 0, .slice none 0 0, .slice none 0 0] 41)) := ((Below.refl _ _).alloc (Nat.le_refl _) _).alloc (by simp) _
  have z2 : ∀ j, j < 4 → ((w.alloc (.cells #[.slice none 0 0, .slice none 0 0, .slice none 0 0, .slice none 0 0] 41)).alloc (.cells #[.slice none 0 0, .slice none 0 0, .slice none 0 0, .slice none 0 0] 41)).cell? ⟨w.heap.size, j, none⟩ = some (.slice none 0 0) := fun j hj => by
    have : j = 0 ∨ j = 1 ∨ j = 2 ∨ j = 3 := by omega
    rcases this with rfl | rfl | rfl | rfl <;> go_simp
  have z4 : ∀ j, j < 4 → ((w.alloc (.cells #[.slice none 0 0, .slice none 0 0, .slice none 0 0, .slice none 0 0] 41)).alloc (.cells #[.slice none 0 0, .slice none 0 0, .slice none 0 0, .slice none 0 0] 41)).cell? ⟨w.heap.size + 1, j, none⟩ = some (.slice none 0 0) := fun j hj => by
    have : j = 0 ∨ j = 1 ∨ j = 2 ∨ j = 3 := by omega
    rcases this with rfl | rfl | rfl | rfl <;> go_simp
  have f2 : ∀ j, ((w.alloc (.cells #[.slice none 0 0, .slice none 0 0, .slice none 0 0, .slice none 0 0] 41)).alloc (.cells #[.slice none 0 0, .slice none 0 0, .slice none 0 0, .slice none 0 0] 41)).frozen? ⟨w.heap.size, j, none⟩ = false := fun j => by go_simp
  have f4 : ∀ j, ((w.alloc (.cells #[.slice none 0 0, .slice none 0 0, .slice none 0 0, .slice none 0 0] 41)).alloc (.cells #[.slice none 0 0, .slice none 0 0, .slice none 0 0, .slice none 0 0] 41)).frozen? ⟨w.heap.size + 1, j, none⟩ = false := fun j => by go_simp
  obtain ⟨W0, hW0⟩ : ∃ W0, ((w.alloc (.cells #[.slice none 0 0, .slice none 0 0, .slice none 0 0, .slice none 0 0] 41)).alloc (.cells #[.slice none 0 0, .slice none 0 0, .slice none 0 0, .slice none 0 0] 41)) = W0 := ⟨_, rfl⟩
  rw [hW0] at hs0 hb0 z2 z4 f2 f4
  rw [hW0]
  clear hW0
  have h0 := HD.out.more hb0 (C := [w.heap.size, w.heap.size + 1]) (by intro a ha; simp at ha; omega)
  refine (f_Copy h0 HOK.out).mono ?_
  rintro e w1 ⟨b', m', rfl, hb', hm', -, hdc, hb1⟩
  have hne := hdc.ne
  have HC := Lib.hid hdc
  have hbl' := hdc.blt
  have hml' := hdc.mlt
  clear hdc h0
  have hse : setsE s (-1) = 0 := by unfold setsE; rw [hdead]; rfl
  have hsA : armS s (-1) = { s with armed := -1 } := by unfold armS; rw [if_pos hse]
  have hsF : failS { s with armed := -1 } (-1) = { s with armed := -1, failing := -1 } := by
    unfold failS
    rw [if_pos (by unfold setsE; rw [show ({ s with armed := -1 } : DS).dead = s.dead from rfl, hdead]; rfl)]
  have hsE2 : setsE { s with armed := -1 } (-1) = 0 := by unfold setsE; rw [show ({ s with armed := -1 } : DS).dead = s.dead from rfl, hdead]; rfl
  have ok1 : ({ s with armed := -1 } : DS).Ok := hsA ▸ arm_ok HOK.out (n := -1) (by decide)
  have ok2 : ({ s with armed := -1, failing := -1 } : DS).Ok := hsF ▸ fail_ok ok1 (n := -1) (by decide)
  have hwk : Wk s { s with armed := -1, failing := -1 } 0 := ⟨ok2, rfl, by show s.ops = s.ops + ((0 : Nat) : Int); simp, ⟨hdead, rfl, rfl⟩⟩
  go_wp2_with fail
  refine (f_Arm HC.out (-1)).mono ?_
  rw [hse, hsA]
  rintro e w2 ⟨rfl, hd2, t2⟩
  have H2 := Lib.hid hd2
  clear hd2
  go_wp2_with fail
  refine (f_Fail H2.out (-1)).mono ?_
  rw [hsE2, hsF]
  rintro e w3 ⟨rfl, hd3, t3⟩
  obtain ⟨s3, hs3⟩ : ∃ s3, ({ s with armed := -1, failing := -1 } : DS) = s3 := ⟨_, rfl⟩
  rw [hs3] at hd3 hwk
  have hnm : namesOf s3 = namesOf s := by rw [← hs3]; rfl
  have H3 := Lib.hid hd3
  have HWK := Lib.hid hwk
  clear hd3 hwk hs3 hsA hsF hsE2 ok1 ok2 hse
  go_wp2_with fail
  refine (f_Files H3.out HWK.out.ok).mono ?_
  rintro e w4 ⟨⟨v4, rfl, own4⟩, hb4⟩
  rw [hnm] at own4
  obtain ⟨a4, c4, g4, og4, rfl, hle4, hcap4, hrow4⟩ := row_open own4
  have hn4 := namesOf_len s
  have n1 := hb1.size
  have n2 := t2.size
  have n3 := t3.size
  have n4 := hb4.size
  have H4 := Lib.hid (H3.out.below hb4)
  have T04 : Tw w.heap.size [] w w4 := (Tw.of_below (hb0.trans (hb1.mono (by omega)))).trans ((t2.mono (by omega) (fun a ha => .inr (by simp at ha; omega))).trans ((t3.mono (by omega) (fun a ha => .inr (by simp at ha; omega))).trans (Tw.of_below (hb4.mono (by omega)))))
  have key : ∀ k, k < W0.heap.size → w4.heap[k]? = W0.heap[k]? := fun k hk => by
    rw [hb4.block k (by omega), t3.block k (by omega) (by simp; omega), t2.block k (by omega) (by simp; omega), hb1.block k hk]
  have y2 : ∀ j, j < 4 → w4.cell? ⟨w.heap.size, j, none⟩ = some (.slice none 0 0) := fun j hj => (World.cell?_of_block (key _ (by dsimp; omega))).trans (z2 j hj)
  have y4 : ∀ j, j < 4 → w4.cell? ⟨w.heap.size + 1, j, none⟩ = some (.slice none 0 0) := fun j hj => (World.cell?_of_block (key _ (by dsimp; omega))).trans (z4 j hj)
  have g2 : ∀ j, w4.frozen? ⟨w.heap.size, j, none⟩ = false := fun j => (World.frozen?_of_block (key _ (by dsimp; omega))).trans (f2 j)
  have g4' : ∀ j, w4.frozen? ⟨w.heap.size + 1, j, none⟩ = false := fun j => (World.frozen?_of_block (key _ (by dsimp; omega))).trans (f4 j)
  have HROW := Lib.hid hrow4
  have Y2 := Lib.hid y2
  have Y4 := Lib.hid y4
  have G2 := Lib.hid g2
  have G4 := Lib.hid g4'
  clear hrow4 y2 y4 g2 g4' z2 z4 f2 f4 key own4 hb4 t2 t3 hb1 HC H2 H3
  go_wp2
  go_loopw [24] (fun i wr => ∃ (k : Nat) (s' : DS), k ≤ (namesOf s).length ∧ i = .int .i64 k ∧ Wk s s' k ∧ Disk wr (b' :: m' :: ([w.heap.size, w.heap.size + 1] ++ A)) b' m' s' ∧ Tw w4.heap.size [b', m', w.heap.size + 1] w4 wr ∧
    (∀ j, j < 4 → ∃ v, wr.cell? ⟨w.heap.size + 1, j, none⟩ = some v ∧ ByO w4.heap.size wr v (cellL s k j)) ∧ ∀ j, wr.frozen? ⟨w.heap.size + 1, j, none⟩ = false) (fun i _ => (namesOf s).length - (intOf i).toNat)
  case atStart => exact ⟨0, s3, Nat.zero_le _, rfl, HWK.out, H4.out, Tw.refl _ _ _, fun j hj => ⟨_, Y4.out j hj, by rw [cellL_zero]; exact ByO.nil _ _⟩, G4.out⟩
  case round =>
    obtain ⟨k, s', hk, rfl, hw, hD, hT, hcl, hfz⟩ := hrel
    have HDr := Lib.hid hD
    have hsr := hT.size
    have hz' := hw.ops
    by_cases hlt : k < (namesOf s).length
    · obtain ⟨x, hx⟩ : ∃ x, (namesOf s)[k] = x := ⟨_, rfl⟩
      have hmem : x ∈ namesOf s := hx ▸ List.getElem_mem hlt
      obtain ⟨he0, hw2, hbs⟩ := hw.step hmem
      obtain ⟨rfl, hBg, hgo, -, hcells⟩ := HROW.out (by intro e; rw [e] at hlt; simp at hlt)
      have hg4 := (Array.getElem?_eq_some_iff.1 hgo).1
      have ex : wr.cell? ⟨g4, k, none⟩ = some (.int .i64 x) := by
        rw [hT.cell (p := ⟨g4, k, none⟩) hg4 (by simp; omega), hcells k hlt, hx]
      have hx4 := (namesOf_mem.1 hmem).1
      have hstep := fun j => cellL_step s k j hlt
      rw [hx] at hstep
      have HCL := Lib.hid hcl
      have HFZ := Lib.hid hfz
      have HST := Lib.hid hstep
      have HW2 := Lib.hid hw2
      clear hcells hgo hcl hfz hstep hx hw2 hD
      go_wp2_with fail
      refine (f_Read HDr.out hw.ok (by omega) x (names_w64 hmem)).mono ?_
      rintro e w5 ⟨v5, rfl, hv5, hd5, t5, hfr5⟩
      rw [he0] at hv5 ⊢
      rw [if_pos rfl, hbs] at hv5
      obtain ⟨av, cv, rfl, -⟩ := hv5.open
      have hs5 := t5.size
      have hd5' := hd5
      have hfin : ∀ jx : Nat, jx < 4 → (jx : Int) = x → ∃ (k_1 : Nat) (s' : DS), k_1 ≤ (namesOf s).length ∧ Value.int .i64 ((k : Int) + 1) = .int .i64 k_1 ∧ Wk s s' k_1 ∧ Disk (w5.setCell ⟨w.heap.size + 1, jx, none⟩ (.slice av (s.at x).bs.length cv)) (b' :: m' :: ([w.heap.size, w.heap.size + 1] ++ A)) b' m' s' ∧ Tw w4.heap.size [b', m', w.heap.size + 1] w4 (w5.setCell ⟨w.heap.size + 1, jx, none⟩ (.slice av (s.at x).bs.length cv)) ∧
          (∀ j, j < 4 → ∃ v, (w5.setCell ⟨w.heap.size + 1, jx, none⟩ (.slice av (s.at x).bs.length cv)).cell? ⟨w.heap.size + 1, j, none⟩ = some v ∧ ByO w4.heap.size (w5.setCell ⟨w.heap.size + 1, jx, none⟩ (.slice av (s.at x).bs.length cv)) v (cellL s k_1 j)) ∧ ∀ j, (w5.setCell ⟨w.heap.size + 1, jx, none⟩ (.slice av (s.at x).bs.length cv)).frozen? ⟨w.heap.size + 1, j, none⟩ = false := by
        intro jx hj4 hjx
        refine ⟨k + 1, _, by omega, by go_num, HW2.out, ?_, ?_, fun j hj => ?_, fun j => ?_⟩
        · exact hd5.turn (by simp) (fun a ha => ⟨.inl ha, by simpa using hd5.lt a ha⟩) hd5.hb hd5.hm (fun k hk hkA => RowKit.Below.heap_setCell _ _ _ _ (fun e => hkA (by rw [e]; simp))) (RowKit.Below.heap_setCell _ _ _ _ (by dsimp; omega)) (RowKit.Below.heap_setCell _ _ _ _ (by dsimp; omega))
        · exact (hT.trans (t5.mono (by omega) (fun a ha => .inl (by simp only [List.mem_cons, List.not_mem_nil, or_false] at ha ⊢; rcases ha with ha | ha; exact .inl ha; exact .inr (.inl ha))))).setCell (b := w.heap.size + 1) (.inl (by simp)) jx _
        · obtain ⟨u, hu, hby⟩ := HCL.out j hj
          have hu5 : w5.cell? ⟨w.heap.size + 1, j, none⟩ = some u := (t5.cell (p := ⟨w.heap.size + 1, j, none⟩) (by dsimp; omega) (by simp; omega)).trans hu
          rw [cell_set, HST.out]
          by_cases e : j = jx
          · subst e
            rw [if_pos rfl, hu5, if_pos hjx, hjx]
            refine ⟨_, rfl, ByO.set ⟨hv5, fun ad n c e => ?_⟩ (by omega)⟩
            have := hfr5 ad n c e
            exact ⟨by omega, this.2⟩
          · rw [if_neg e, if_neg (by omega)]
            exact ⟨u, hu5, ByO.set (hby.tw t5 (by intro a ha; simp at ha; omega)) (by omega)⟩
        · rw [World.frozen?_setCell, t5.frozen (p := ⟨w.heap.size + 1, j, none⟩) (by dsimp; omega) (by simp; omega)]
          exact HFZ.out j
      have HFIN := Lib.hid hfin
      have cc : ∀ j, j < 4 → ∃ u, w5.cell? ⟨w.heap.size + 1, j, none⟩ = some u := fun j hj => by
        obtain ⟨u, hu, -⟩ := HCL.out j hj
        exact ⟨u, (t5.cell (p := ⟨w.heap.size + 1, j, none⟩) (by dsimp; omega) (by simp; omega)).trans hu⟩
      have ff : ∀ j, w5.frozen? ⟨w.heap.size + 1, j, none⟩ = false := fun j => by
        rw [t5.frozen (p := ⟨w.heap.size + 1, j, none⟩) (by dsimp; omega) (by simp; omega)]; exact HFZ.out j
      obtain ⟨u0, cc0⟩ := cc 0 (by omega)
      obtain ⟨u1, cc1⟩ := cc 1 (by omega)
      obtain ⟨u2, cc2⟩ := cc 2 (by omega)
      obtain ⟨u3, cc3⟩ := cc 3 (by omega)
      have ff0 := ff 0
      have ff1 := ff 1
      have ff2 := ff 2
      have ff3 := ff 3
      clear hfin cc ff hv5 hd5 t5 hfr5 hd5' hT he0 hbs
      rcases hx4 with rfl | rfl | rfl | rfl
      · go_wp2
        go_roundw
        case rel => exact HFIN.out 0 (by omega) rfl
        case measure => simp [intOf]; omega
      · go_wp2
        go_roundw
        case rel => exact HFIN.out 1 (by omega) rfl
        case measure => simp [intOf]; omega
      · go_wp2
        go_roundw
        case rel => exact HFIN.out 2 (by omega) rfl
        case measure => simp [intOf]; omega
      · go_wp2
        go_roundw
        case rel => exact HFIN.out 3 (by omega) rfl
        case measure => simp [intOf]; omega
    · have hke : k = (namesOf s).length := by omega
      subst hke
      obtain ⟨v0, e0, B0⟩ := hcl 0 (by omega)
      obtain ⟨v1, e1, B1⟩ := hcl 1 (by omega)
      obtain ⟨v2, e2, B2⟩ := hcl 2 (by omega)
      obtain ⟨v3, e3, B3⟩ := hcl 3 (by omega)
      rw [cellL_end s _ (by omega)] at B0 B1 B2 B3
      obtain ⟨a0, c0, rfl, -⟩ := B0.1.open
      obtain ⟨a1, c1, rfl, -⟩ := B1.1.open
      obtain ⟨a2, c2, rfl, -⟩ := B2.1.open
      obtain ⟨a3, c3, rfl, -⟩ := B3.1.open
      have x0 := (hT.cell (p := ⟨w.heap.size, 0, none⟩) (by dsimp; omega) (by simp; omega)).trans (Y2.out 0 (by omega))
      have x1 := (hT.cell (p := ⟨w.heap.size, 1, none⟩) (by dsimp; omega) (by simp; omega)).trans (Y2.out 1 (by omega))
      have x2 := (hT.cell (p := ⟨w.heap.size, 2, none⟩) (by dsimp; omega) (by simp; omega)).trans (Y2.out 2 (by omega))
      have x3 := (hT.cell (p := ⟨w.heap.size, 3, none⟩) (by dsimp; omega) (by simp; omega)).trans (Y2.out 3 (by omega))
      have y0 := (hT.frozen (p := ⟨w.heap.size, 0, none⟩) (by dsimp; omega) (by simp; omega)).trans (G2.out 0)
      have y1 := (hT.frozen (p := ⟨w.heap.size, 1, none⟩) (by dsimp; omega) (by simp; omega)).trans (G2.out 1)
      have y2 := (hT.frozen (p := ⟨w.heap.size, 2, none⟩) (by dsimp; omega) (by simp; omega)).trans (G2.out 2)
      have y3 := (hT.frozen (p := ⟨w.heap.size, 3, none⟩) (by dsimp; omega) (by simp; omega)).trans (G2.out 3)
      have hbw : Below w.heap.size w wr := (T04.below (Nat.le_refl _) (by intro a ha; simp at ha)).trans (hT.below (by omega) (by intro a ha; simp at ha; omega))
      have HBW := Lib.hid hbw
      have HB0 := Lib.hid B0
      have HB1 := Lib.hid B1
      have HB2 := Lib.hid B2
      have HB3 := Lib.hid B3
      clear hcl hfz B0 B1 B2 B3 hbw hT hD hw
      go_wp2
      refine bodyPost_ret (v := .tuple #[.agg #[.slice a0 (s.at ((0 : Nat) : Int)).bs.length c0, .slice a1 (s.at ((1 : Nat) : Int)).bs.length c1, .slice a2 (s.at ((2 : Nat) : Int)).bs.length c2, .slice a3 (s.at ((3 : Nat) : Int)).bs.length c3], .bool true]) (by simp only [results, Try.results18]; go_simp) rfl ⟨_, rfl, ?_, ?_, ?_⟩
      · have mm : ∀ (v : Value) (l : List Int), ByO w4.heap.size wr v l → ByO w.heap.size ((((wr.setCell ⟨w.heap.size, 0, none⟩ (.slice a0 (s.at ((0 : Nat) : Int)).bs.length c0)).setCell ⟨w.heap.size, 1, none⟩ (.slice a1 (s.at ((1 : Nat) : Int)).bs.length c1)).setCell ⟨w.heap.size, 2, none⟩ (.slice a2 (s.at ((2 : Nat) : Int)).bs.length c2)).setCell ⟨w.heap.size, 3, none⟩ (.slice a3 (s.at ((3 : Nat) : Int)).bs.length c3)) v l := fun v l h =>
          ((((h.set (by omega)).set (by omega)).set (by omega)).set (by omega)).mono (by omega)
        exact ⟨_, _, _, _, rfl, mm _ _ HB0.out, mm _ _ HB1.out, mm _ _ HB2.out, mm _ _ HB3.out⟩
      · exact HD.out.below ((((HBW.out.setCell (Nat.le_refl _) _).setCell (Nat.le_refl _) _).setCell (Nat.le_refl _) _).setCell (Nat.le_refl _) _)
      · exact (((HBW.out.setCell (Nat.le_refl _) _).setCell (Nat.le_refl _) _).setCell (Nat.le_refl _) _).setCell (Nat.le_refl _) _
end
end Go.Proofs.Ytlhkacjfonihjaa
