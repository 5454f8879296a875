/- What is so of every disk stays so, whatever is done to it. -/
import Derived.Test.YtkekidjjmcmjhaaGreatCrash
namespace Go.Proofs.YtkekidjjmcmjhaaGreat
set_option maxRecDepth 100000

theorem at_of {s : DS} {x : Int} {f : Fi} (h : s.fl x = some f) : s.at x = f := by unfold DS.at; rw [h]; rfl
theorem len_upd (s : DS) (x : Int) (g : Option Fi) (y : Int) : ({ s with fl := updF s.fl x g } : DS).len y = if y = x then (g.getD f0).bs.length else s.len y := by
  unfold DS.len DS.at updF
  dsimp only
  split <;> rfl
theorem used_upd (s : DS) {x : Int} (h0 : 0 ≤ x) (h4 : x < 4) (g : Option Fi) : ({ s with fl := updF s.fl x g } : DS).used + s.len x = s.used + (g.getD f0).bs.length := by
  have hx : x = 0 ∨ x = 1 ∨ x = 2 ∨ x = 3 := by omega
  unfold DS.used
  simp only [len_upd]
  rcases hx with rfl | rfl | rfl | rfl <;> simp <;> omega
theorem used_upd_le (s : DS) {x : Int} (h0 : 0 ≤ x) (h4 : x < 4) (g : Option Fi) (hg : (g.getD f0).bs.length ≤ s.len x) : ({ s with fl := updF s.fl x g } : DS).used ≤ s.used := by
  have := used_upd s h0 h4 g
  omega

/-- A file that may be. -/
def FOk (f : Fi) : Prop := (0 ≤ f.sy ∧ f.sy ≤ f.bs.length) ∧ ∀ c ∈ f.bs, 0 ≤ c ∧ c < 256
theorem DS.Ok.file {s : DS} (h : s.Ok) {x : Int} {f : Fi} (hf : s.fl x = some f) : FOk f := ⟨h.sy x f hf, h.byte x f hf⟩
theorem fok_f0 : FOk f0 := ⟨⟨by decide, by decide⟩, fun c hc => by simp [f0] at hc⟩
theorem DS.Ok.fat {s : DS} (h : s.Ok) (x : Int) : FOk (s.at x) := by
  cases hf : s.fl x with
  | none => unfold DS.at; rw [hf]; exact fok_f0
  | some f => rw [at_of hf]; exact h.file hf

theorem DS.Ok.upd {s : DS} (h : s.Ok) {x : Int} (h0 : 0 ≤ x) (h4 : x < 4) (g : Option Fi) (hg : ∀ f, g = some f → FOk f) (hu : (({ s with fl := updF s.fl x g } : DS).used : Int) ≤ s.room) : ({ s with fl := updF s.fl x g } : DS).Ok := by
  have key : ∀ y f, updF s.fl x g y = some f → (0 ≤ y ∧ y < 4) ∧ FOk f := by
    intro y f hy
    unfold updF at hy
    split at hy
    · rename_i hyx; subst hyx; exact ⟨⟨h0, h4⟩, hg f hy⟩
    · exact ⟨h.name y f hy, h.file hy⟩
  exact ⟨h.room1, h.room2, h.ops, h.armed, h.failing, h.armed2, h.failing2, hu, fun y f hy => (key y f hy).1, fun y f hy => (key y f hy).2.1, fun y f hy => (key y f hy).2.2⟩

theorem withS_ok {s : DS} (h : s.Ok) (x : Int) (ask : Fi → Int) (doF : Fi → Fi) (hd : ∀ f, FOk f → ask f = 0 → FOk (doF f) ∧ (doF f).bs.length ≤ f.bs.length) : (withS s x ask doF).Ok := by
  unfold withS
  split
  · exact h
  · rename_i hl
    have hl0 : livesE s [x] = 0 := by simpa using hl
    obtain ⟨-, h0, h4⟩ := livesE_name hl0
    cases hf : s.fl x with
    | none => exact h
    | some f =>
      dsimp only
      split
      · exact h
      · rename_i ha
        have ha0 : ask f = 0 := by simpa using ha
        split
        · exact meets_ok h
        · obtain ⟨g1, g2⟩ := hd f (h.file hf) ha0
          refine (meets_ok h).upd (s := meetsS s) h0 h4 (some (doF f)) (fun f' e => by cases e; exact g1) ?_
          have h1 := used_upd_le (meetsS s) h0 h4 (some (doF f)) (by
            show (doF f).bs.length ≤ (meetsS s).len x
            have : (meetsS s).len x = f.bs.length := by unfold DS.len; rw [at_of (s := meetsS s) hf]
            omega)
          have h2 := (meets_ok h).used
          have h3 : (meetsS s).room = s.room := rfl
          have h4 : ({ meetsS s with fl := updF s.fl x (some (doF f)) } : DS) = { meetsS s with fl := updF (meetsS s).fl x (some (doF f)) } := rfl
          omega
theorem withS_ops (s : DS) (x : Int) (ask : Fi → Int) (doF : Fi → Fi) : (withS s x ask doF).ops ≤ s.ops + 1 ∧ s.ops ≤ (withS s x ask doF).ops := by
  unfold withS
  split
  · omega
  · split
    · omega
    · split
      · omega
      · split
        · show s.ops + 1 ≤ s.ops + 1 ∧ s.ops ≤ s.ops + 1; omega
        · show s.ops + 1 ≤ s.ops + 1 ∧ s.ops ≤ s.ops + 1; omega

theorem sync_ok {s : DS} (h : s.Ok) (x : Int) : (withS s x ask0 syncF).Ok := withS_ok h x _ _ fun f hf _ => ⟨⟨⟨by unfold syncF; simp, by unfold syncF; simp⟩, hf.2⟩, Nat.le_refl _⟩
theorem read_ok {s : DS} (h : s.Ok) (x : Int) : (withS s x ask0 id).Ok := withS_ok h x _ _ fun f hf _ => ⟨hf, Nat.le_refl _⟩
theorem trunc_ok {s : DS} (h : s.Ok) (x n : Int) : (withS s x (askT n) (truncF n)).Ok := withS_ok h x _ _ fun f hf ha => by
  unfold askT at ha
  split at ha
  · exact absurd ha (by decide)
  · have h1 := hf.1
    have hl : (f.bs.take n.toNat).length = n.toNat := by simp; omega
    refine ⟨⟨⟨?_, ?_⟩, fun c hc => hf.2 c (List.mem_of_mem_take hc)⟩, ?_⟩
    · show 0 ≤ min f.sy n; omega
    · show min f.sy n ≤ ((f.bs.take n.toNat).length : Int); omega
    · show (f.bs.take n.toNat).length ≤ f.bs.length; omega
theorem withE_name {s : DS} {x : Int} {ask : Fi → Int} (h : withE s x ask = 0) : 0 ≤ x ∧ x < 4 := by
  unfold withE at h
  split at h
  · rename_i hl; exact absurd h hl
  · rename_i hl; exact (livesE_name (by simpa using hl)).2
theorem remove_ok {s : DS} (h : s.Ok) (x : Int) : (removeS s x).Ok := by
  unfold removeS
  split
  · rename_i hz
    obtain ⟨h0, h4⟩ := withE_name hz
    refine (read_ok h x).upd h0 h4 none (fun f e => by cases e) ?_
    have h1 := used_upd_le (withS s x ask0 id) h0 h4 none (by simp [f0])
    have h2 := (read_ok h x).used
    omega
  · exact read_ok h x
theorem remove_ops (s : DS) (x : Int) : (removeS s x).ops ≤ s.ops + 1 ∧ s.ops ≤ (removeS s x).ops := by
  unfold removeS
  split
  · exact withS_ops s x ask0 id
  · exact withS_ops s x ask0 id
theorem append_ok {s : DS} (h : s.Ok) (x : Int) (bs : List Int) (hb : ∀ c ∈ bs, 0 ≤ c ∧ c < 256) : (appendS s x bs).Ok := by
  unfold appendS
  split
  · exact h
  · rename_i hl
    obtain ⟨-, h0, h4⟩ := livesE_name (show livesE s [x] = 0 by simpa using hl)
    split
    · exact h
    · rename_i hfull
      split
      · exact meets_ok h
      · have hfo := DS.Ok.fat h x
        refine (meets_ok h).upd (s := meetsS s) h0 h4 (some (appF (s.at x) bs)) (fun f' e => ?_) ?_
        · cases e
          have := hfo.1
          refine ⟨⟨this.1, ?_⟩, fun c hc => ?_⟩
          · show (s.at x).sy ≤ (((s.at x).bs ++ bs).length : Int)
            simp; omega
          · rcases List.mem_append.1 hc with h1 | h1
            · exact hfo.2 c h1
            · exact hb c h1
        · have h1 := used_upd (meetsS s) h0 h4 (some (appF (s.at x) bs))
          have h2 : ((some (appF (s.at x) bs)).getD f0).bs.length = s.len x + bs.length := by
            show ((s.at x).bs ++ bs).length = _
            simp [DS.len]
          have h3 : (meetsS s).len x = s.len x := rfl
          have h4 : (meetsS s).used = s.used := rfl
          have h5 : (meetsS s).room = s.room := rfl
          have h6 : ({ meetsS s with fl := updF s.fl x (some (appF (s.at x) bs)) } : DS) = { meetsS s with fl := updF (meetsS s).fl x (some (appF (s.at x) bs)) } := rfl
          omega
theorem append_ops (s : DS) (x : Int) (bs : List Int) : (appendS s x bs).ops ≤ s.ops + 1 ∧ s.ops ≤ (appendS s x bs).ops := by
  unfold appendS
  split
  · omega
  · split
    · omega
    · split
      · show s.ops + 1 ≤ s.ops + 1 ∧ s.ops ≤ s.ops + 1; omega
      · show s.ops + 1 ≤ s.ops + 1 ∧ s.ops ≤ s.ops + 1; omega
theorem rename_ops (s : DS) (x y : Int) : (renameS s x y).ops ≤ s.ops + 1 ∧ s.ops ≤ (renameS s x y).ops := by
  unfold renameS
  split
  · omega
  · split
    · exact withS_ops s x ask0 _
    · exact withS_ops s x ask0 _
theorem ren_ok {s : DS} (h : s.Ok) (x y : Int) : (withS s x ask0 (renF x y)).Ok := withS_ok h x _ _ fun f hf _ => ⟨hf, Nat.le_refl _⟩
theorem withE_there {s : DS} {x : Int} {ask : Fi → Int} (h : withE s x ask = 0) (doF : Fi → Fi) : ∃ f, s.fl x = some f ∧ (withS s x ask doF).fl x = some (doF f) := by
  unfold withE at h
  unfold withS
  split at h
  · rename_i hl; exact absurd h hl
  · rename_i hl
    rw [if_neg hl]
    cases hf : s.fl x with
    | none => rw [hf] at h; exact absurd (show (4 : Int) = 0 from h) (by decide)
    | some f =>
      rw [hf] at h
      dsimp only at h ⊢
      split at h
      · rename_i ha; exact absurd h ha
      · rename_i ha
        rw [if_neg ha, if_neg (by simp [h])]
        exact ⟨f, rfl, by simp [updF]⟩
theorem rename_ok {s : DS} (h : s.Ok) (x y : Int) : (renameS s x y).Ok := by
  unfold renameS
  split
  · exact h
  · rename_i hl
    have hl0 : livesE s [x, y] = 0 := by simpa using hl
    split
    · rename_i hz
      obtain ⟨h0, h4⟩ := withE_name hz.1
      have hy : 0 ≤ y ∧ y < 4 := by
        unfold livesE at hl0
        cases hd : s.dead with
        | true => simp [hd] at hl0
        | false =>
          rw [hd] at hl0
          cases hny : nameB y with
          | false => simp [hny] at hl0
          | true => simpa [nameB] using hny
      obtain ⟨f, hf, hf2⟩ := withE_there hz.1 (renF x y)
      have hr := ren_ok h x y
      have hfo := h.file hf
      have hat : s.at x = f := at_of hf
      rw [hat]
      generalize hs2 : withS s x ask0 (renF x y) = s2 at hr hf2 ⊢
      have u1 := used_upd s2 h0 h4 none
      have l1 : s2.len x = f.bs.length := by unfold DS.len; rw [at_of hf2]; rfl
      have hm : ({ s2 with fl := updF s2.fl x none } : DS).Ok := hr.upd h0 h4 none (fun f e => by cases e) (by
        have := hr.used
        have : ((none : Option Fi).getD f0).bs.length = 0 := rfl
        omega)
      have u2 : ({ s2 with fl := updF (updF s2.fl x none) y (some (renF x y f)) } : DS).used + ({ s2 with fl := updF s2.fl x none } : DS).len y = ({ s2 with fl := updF s2.fl x none } : DS).used + f.bs.length := used_upd ({ s2 with fl := updF s2.fl x none } : DS) hy.1 hy.2 (some (renF x y f))
      have u3 : ({ s2 with fl := updF s2.fl x none } : DS).used + s2.len x = s2.used + 0 := u1
      refine hm.upd hy.1 hy.2 (some (renF x y f)) (fun f' e => by cases e; exact hfo) ?_
      have e1 : ((none : Option Fi).getD f0).bs.length = 0 := rfl
      have e2 : ((some (renF x y f)).getD f0).bs.length = f.bs.length := rfl
      have := hr.used
      show (({ s2 with fl := updF (updF s2.fl x none) y (some (renF x y f)) } : DS).used : Int) ≤ s2.room
      omega
    · exact ren_ok h x y

theorem arm_ok {s : DS} (h : s.Ok) {n : Int} (hn : n ≤ 9223372036854775807) : (armS s n).Ok := by
  unfold armS
  split
  · rename_i hz
    unfold setsE at hz
    split at hz
    · exact absurd hz (by decide)
    · split at hz
      · exact absurd hz (by decide)
      · exact ⟨h.room1, h.room2, h.ops, by show -1 ≤ n; omega, h.failing, hn, h.failing2, h.used, h.name, h.sy, h.byte⟩
  · exact h
theorem fail_ok {s : DS} (h : s.Ok) {n : Int} (hn : n ≤ 9223372036854775807) : (failS s n).Ok := by
  unfold failS
  split
  · rename_i hz
    unfold setsE at hz
    split at hz
    · exact absurd hz (by decide)
    · split at hz
      · exact absurd hz (by decide)
      · exact ⟨h.room1, h.room2, h.ops, h.armed, by show -1 ≤ n; omega, h.armed2, hn, h.used, h.name, h.sy, h.byte⟩
  · exact h

theorem crF_len {s : DS} (hok : s.Ok) (keep : List Bool) {x : Int} {f g : Fi} (hf : s.fl x = some f) (hg : crF (crK keep (pieces s)).ends x f = some g) : FOk g ∧ g.bs.length ≤ f.bs.length := by
  unfold crF at hg
  split at hg
  · cases hg
  · simp only [Option.some.injEq] at hg
    have hsy := hok.sy x f hf
    have he : ((crK keep (pieces s)).ends x).getD 0 ≤ f.bs.length := by
      cases hE : (crK keep (pieces s)).ends x with
      | none => simp
      | some e =>
        obtain ⟨p, hp, e1, e2⟩ := crK_ends keep _ x e hE
        have := pieces_mem hok hp
        rw [e1, e2, at_of hf] at this
        simpa using this
    subst hg
    have hl : (f.bs.take (max f.sy (((crK keep (pieces s)).ends x).getD 0)).toNat).length = (max f.sy (((crK keep (pieces s)).ends x).getD 0)).toNat := by simp; omega
    refine ⟨⟨⟨?_, ?_⟩, fun c hc => hok.byte x f hf c (List.mem_of_mem_take hc)⟩, ?_⟩
    · show 0 ≤ max f.sy _; omega
    · show max f.sy _ ≤ ((f.bs.take _).length : Int); rw [hl]; omega
    · show (f.bs.take _).length ≤ _; rw [hl]; omega
theorem crash_fl {s : DS} (hok : s.Ok) (keep : List Bool) (x : Int) : (crashS s keep).fl x = (s.fl x).bind (crF (crK keep (pieces s)).ends x) := by
  unfold crashS crFl
  dsimp only
  split
  · rfl
  · rename_i h
    cases hf : s.fl x with
    | none => rfl
    | some f =>
      have := hok.name x f hf
      exact absurd (namesOf_mem.2 ⟨by omega, by rw [hf]; rfl⟩) h
theorem crash_len {s : DS} (hok : s.Ok) (keep : List Bool) (x : Int) : (crashS s keep).len x ≤ s.len x := by
  unfold DS.len DS.at
  rw [crash_fl hok]
  cases hf : s.fl x with
  | none => exact Nat.le_refl _
  | some f =>
    cases hg : crF (crK keep (pieces s)).ends x f with
    | none => simp [hg, f0]
    | some g => simp [hg]; exact (crF_len hok keep hf hg).2
theorem crash_ok {s : DS} (hok : s.Ok) (keep : List Bool) : (crashS s keep).Ok := by
  have key : ∀ x g, (crashS s keep).fl x = some g → (0 ≤ x ∧ x < 4) ∧ FOk g := by
    intro x g hg
    rw [crash_fl hok] at hg
    cases hf : s.fl x with
    | none => rw [hf] at hg; cases hg
    | some f => rw [hf] at hg; exact ⟨hok.name x f hf, (crF_len hok keep hf hg).1⟩
  refine ⟨hok.room1, hok.room2, hok.ops, by show -1 ≤ (-1 : Int); decide, by show -1 ≤ (-1 : Int); decide, by show (-1 : Int) ≤ _; decide, by show (-1 : Int) ≤ _; decide, ?_, fun x g hg => (key x g hg).1, fun x g hg => (key x g hg).2.1, fun x g hg => (key x g hg).2.2⟩
  have h1 := hok.used
  have a0 := crash_len hok keep 0
  have a1 := crash_len hok keep 1
  have a2 := crash_len hok keep 2
  have a3 := crash_len hok keep 3
  show ((crashS s keep).used : Int) ≤ s.room
  unfold DS.used at h1 ⊢
  omega
end Go.Proofs.YtkekidjjmcmjhaaGreat
