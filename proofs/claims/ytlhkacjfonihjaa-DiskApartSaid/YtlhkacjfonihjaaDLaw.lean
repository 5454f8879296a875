/- The rows of operations, and what a row of operations makes of a disk (the plain part). -/
import Derived.Test.YtlhkacjfonihjaaOpRun
namespace Go.Proofs.Ytlhkacjfonihjaa
open Go.RowKit
set_option maxRecDepth 100000

theorem w64_le {n : Int} (h : W64 n) : -9223372036854775808 ≤ n ∧ n ≤ 9223372036854775807 := by
  simp only [W64, Lit.wf, Bool.and_eq_true, decide_eq_true_eq] at h
  have e1 : IntKind.i64.min = -9223372036854775808 := by decide
  have e2 : IntKind.i64.max = 9223372036854775807 := by decide
  omega
def Opr.cells (o : Opr) : List Value := [.int .i64 o.kind, .int .i64 o.file, .int .i64 o.n, o.bv, o.kv]
def OpsV (w : World) (v : Value) (l : List Opr) : Prop := (Sl w v l.length (l.flatMap Opr.cells) ∧ NilA v) ∧ ∀ o ∈ l, OpIs w o
theorem OpsV.grown {w w' : World} {v : Value} {l : List Opr} (h : OpsV w v l) (hb : Below w.heap.size w w') : OpsV w' v l := ⟨⟨Sl.grown h.1.1 hb, h.1.2⟩, fun o ho => (h.2 o ho).grown hb⟩
theorem flatOp (l : List Opr) (i : Nat) (hi : i < l.length) (j : Nat) (hj : j < 5) : (l.flatMap Opr.cells)[i * 5 + j]? = (l[i].cells)[j]? := by
  induction l generalizing i with
  | nil => simp at hi
  | cons y l ih =>
    rw [List.flatMap_cons]
    have hc : y.cells.length = 5 := rfl
    cases i with
    | zero => rw [List.getElem?_append_left (by rw [hc]; omega)]; simp
    | succ i =>
      rw [List.getElem?_append_right (by rw [hc]; omega), hc, show (i + 1) * 5 + j - 5 = i * 5 + j by omega]
      exact ih i (by simpa using hi)
theorem flatOp_len (l : List Opr) : (l.flatMap Opr.cells).length = l.length * 5 := by
  induction l with
  | nil => rfl
  | cons y l ih => rw [List.flatMap_cons, List.length_append, ih]; simp [Opr.cells]; omega
theorem OpsV.open {w : World} {v : Value} {l : List Opr} (h : OpsV w v l) : ∃ a cap, v = .slice a l.length cap ∧ l.length ≤ cap ∧ cap ≤ 9223372036854775807 ∧
    ∀ i (hi : i < l.length), ∃ b off, a = some ⟨b, off, none⟩ ∧ b < w.heap.size ∧ w.cell? ⟨b, off + i * 5, none⟩ = some (.int .i64 l[i].kind) ∧ w.cell? ⟨b, off + i * 5 + 1, none⟩ = some (.int .i64 l[i].file) ∧
      w.cell? ⟨b, off + i * 5 + 2, none⟩ = some (.int .i64 l[i].n) ∧ w.cell? ⟨b, off + i * 5 + 3, none⟩ = some l[i].bv ∧ w.cell? ⟨b, off + i * 5 + 4, none⟩ = some l[i].kv := by
  obtain ⟨a, cap, hv, hl, hm, hc⟩ := h.1.1.form
  refine ⟨a, cap, hv, hl, hm, fun i hi => ?_⟩
  have hlen := flatOp_len l
  obtain ⟨b, off, ha, hlt, hcell⟩ := hc (by intro e; rw [e] at hlen; simp at hlen; omega)
  have key : ∀ j (hj : j < 5), w.cell? ⟨b, off + i * 5 + j, none⟩ = (l[i].cells)[j]? := fun j hj => by
    have := hcell (i * 5 + j) (by rw [hlen]; omega)
    rw [← Nat.add_assoc] at this
    rw [this, ← flatOp l i hi j hj, List.getElem?_eq_getElem]
  exact ⟨b, off, ha, hlt, key 0 (by omega), key 1 (by omega), key 2 (by omega), key 3 (by omega), key 4 (by omega)⟩

theorem ku_lt (k : Int) : 0 ≤ ku k ∧ ku k < 12 := by
  unfold ku
  have : 0 ≤ IntKind.u64.wrap k := by unfold IntKind.wrap; simp [IntKind.bits, IntKind.signed]; omega
  rw [Int.tmod_eq_emod_of_nonneg this]
  omega

theorem run_ok {s : DS} (h : s.Ok) {o : Opr} (hb : ∀ c ∈ o.bytes, 0 ≤ c ∧ c < 256) (hn : o.n ≤ 9223372036854775807) : (runS s o).Ok := by
  unfold runS
  split
  · exact sync_ok h _
  · split
    · exact read_ok h _
    · split
      · exact trunc_ok h _ _
      · split
        · exact rename_ok h _ _
        · split
          · exact remove_ok h _
          · split
            · exact arm_ok h hn
            · split
              · exact fail_ok h hn
              · split
                · exact crash_ok h _
                · exact append_ok h _ _ fun c hc => hb c (List.mem_of_mem_take hc)
theorem run_ops (s : DS) (o : Opr) : (runS s o).ops ≤ s.ops + 1 ∧ s.ops ≤ (runS s o).ops := by
  unfold runS
  split
  · exact withS_ops s _ _ _
  · split
    · exact withS_ops s _ _ _
    · split
      · exact withS_ops s _ _ _
      · split
        · exact rename_ops s _ _
        · split
          · exact remove_ops s _
          · split
            · unfold armS; split <;> (show _ ≤ _ ∧ _ ≤ _; first | omega | (dsimp only; omega))
            · split
              · unfold failS; split <;> (show _ ≤ _ ∧ _ ≤ _; first | omega | (dsimp only; omega))
              · split
                · show s.ops ≤ s.ops + 1 ∧ s.ops ≤ s.ops; omega
                · exact append_ops s _ _

/-- The room of a disk of the statements. -/
def roomN (room : Int) : Int := ((room.tmod 400 + 400).tmod 400) + 1
theorem roomN_le (room : Int) : 1 ≤ roomN room ∧ roomN room ≤ 400 := by
  have h1 := Int.tmod_lt_of_pos room (show (0 : Int) < 400 by decide)
  have h2 : -400 < room.tmod 400 := by
    have := Int.lt_tmod_of_pos room (show (0 : Int) < 400 by decide)
    omega
  unfold roomN
  rw [Int.tmod_eq_emod_of_nonneg (a := room.tmod 400 + 400) (by omega)]
  omega

def opsS (s : DS) (l : List Opr) : DS := l.foldl (fun s o => if ku o.kind < 9 then runS s o else s) s
def OpsOk (l : List Opr) : Prop := ∀ o ∈ l, (∀ c ∈ o.bytes, 0 ≤ c ∧ c < 256) ∧ o.n ≤ 9223372036854775807
theorem OpsV.ok {w : World} {v : Value} {l : List Opr} (h : OpsV w v l) : OpsOk l := fun o ho => by
  have := h.2 o ho
  refine ⟨this.byte, ?_⟩
  have := this.wn
  exact (w64_le this).2
theorem opsS_snoc (s : DS) (l : List Opr) (o : Opr) : opsS s (l ++ [o]) = if ku o.kind < 9 then runS (opsS s l) o else opsS s l := by unfold opsS; rw [List.foldl_append]; rfl
theorem opsS_ok {s : DS} (h : s.Ok) : ∀ {l : List Opr}, OpsOk l → (opsS s l).Ok ∧ (opsS s l).ops ≤ s.ops + l.length := by
  intro l
  induction l generalizing s with
  | nil => intro _; exact ⟨h, by simp [opsS]⟩
  | cons o l ih =>
    intro hl
    have h1 := hl o (by simp)
    have h2 : OpsOk l := fun x hx => hl x (by simp [hx])
    show (opsS (if ku o.kind < 9 then runS s o else s) l).Ok ∧ (opsS (if ku o.kind < 9 then runS s o else s) l).ops ≤ _
    split
    · obtain ⟨i1, i2⟩ := ih (run_ok h h1.1 h1.2) h2
      have := run_ops s o
      refine ⟨i1, ?_⟩
      simp; omega
    · obtain ⟨i1, i2⟩ := ih h h2
      refine ⟨i1, ?_⟩
      simp; omega

/-! ### so many operations, and not one more -/
/-- What an operation does to the counts. -/
structure Step (s s' : DS) (e : Int) : Prop where
  dead : s.dead = true → e = 9 ∧ s' = s
  live : s.dead = false → (s'.ops = s.ops ∧ s'.armed = s.armed ∧ s'.dead = false) ∨ (s'.ops = s.ops + 1 ∧ s'.armed = dec1 s.armed ∧ s'.dead = (if s.armed = 0 then true else false) ∧ (s.armed = 0 → e = 9))
  fails : s'.failing = s.failing ∨ s'.failing = dec1 s.failing
theorem livesE_dead {s : DS} (h : s.dead = true) (l : List Int) : livesE s l = 9 := by unfold livesE; rw [h]; rfl
theorem Step.meets {s : DS} (hd : s.dead = false) (s' : DS) (e : Int) (h1 : s'.ops = s.ops + 1) (h2 : s'.armed = dec1 s.armed) (h3 : s'.dead = if s.armed = 0 then true else s.dead) (h4 : s.armed = 0 → e = 9) (h5 : s'.failing = dec1 s.failing) : Step s s' e :=
  ⟨fun h => (by rw [hd] at h; cases h), fun _ => .inr ⟨h1, h2, by rw [h3, hd], h4⟩, .inr h5⟩
theorem Step.same {s : DS} (e : Int) (hd : s.dead = true → e = 9) : Step s s e := ⟨fun h => ⟨hd h, rfl⟩, fun h => .inl ⟨rfl, rfl, h⟩, .inl rfl⟩
theorem with_step (s : DS) (x : Int) (ask : Fi → Int) (doF : Fi → Fi) : Step s (withS s x ask doF) (withE s x ask) := by
  unfold withS withE
  by_cases hl : livesE s [x] ≠ 0
  · rw [if_pos hl, if_pos hl]
    exact Step.same _ fun h => livesE_dead h _
  · rw [if_neg hl, if_neg hl]
    have hl0 : livesE s [x] = 0 := by simpa using hl
    have hd := (livesE_name hl0).1
    have hno : s.dead = true → ∀ e : Int, e = 9 := fun h => by rw [hd] at h; cases h
    cases s.fl x with
    | none => exact Step.same _ fun h => hno h _
    | some f =>
      dsimp only
      by_cases ha : ask f ≠ 0
      · rw [if_pos ha, if_pos ha]; exact Step.same _ fun h => hno h _
      · rw [if_neg ha, if_neg ha]
        have h9 : s.armed = 0 → meetsE s = 9 := fun h => by unfold meetsE; rw [if_pos h]
        split
        · exact Step.meets hd _ _ rfl rfl rfl h9 rfl
        · exact Step.meets hd _ _ rfl rfl rfl h9 rfl
theorem Step.fl {s s' : DS} {e : Int} (h : Step s s' e) (hd : s.dead = false) (F : Int → Option Fi) : Step s { s' with fl := F } e :=
  ⟨fun h1 => (by rw [hd] at h1; cases h1), fun h1 => h.live h1, h.fails⟩
theorem run_step (s : DS) (o : Opr) (hk : ku o.kind < 9) : Step s (runS s o) (runE s o) := by
  unfold runS runE
  split
  · exact with_step s _ _ _
  · split
    · exact with_step s _ _ _
    · split
      · exact with_step s _ _ _
      · split
        · unfold renameS renameE
          by_cases hl : livesE s [o.file, o.n] ≠ 0
          · rw [if_pos hl, if_pos hl]
            exact Step.same _ fun h => livesE_dead h _
          · rw [if_neg hl, if_neg hl]
            have hl0 : livesE s [o.file, o.n] = 0 := by simpa using hl
            have hd : s.dead = false := by
              cases hd : s.dead with
              | false => rfl
              | true => rw [livesE_dead hd] at hl0; cases hl0
            split
            · exact (with_step s _ _ _).fl hd _
            · exact with_step s _ _ _
        · split
          · unfold removeS
            split
            · rename_i he
              have hd : s.dead = false := by
                cases hd : s.dead with
                | false => rfl
                | true => rw [((with_step s o.file ask0 id).dead hd).1] at he; cases he
              exact (with_step s o.file ask0 id).fl hd _
            · exact with_step s _ _ _
          · rw [if_neg (by omega), if_neg (by omega), if_neg (by omega), if_neg (by omega), if_neg (by omega), if_neg (by omega)]
            unfold appendS appendE
            by_cases hl : livesE s [o.file] ≠ 0
            · rw [if_pos hl, if_pos hl]
              exact Step.same _ fun h => livesE_dead h _
            · rw [if_neg hl, if_neg hl]
              have hl0 : livesE s [o.file] = 0 := by simpa using hl
              have hd := (livesE_name hl0).1
              have hno : s.dead = true → ∀ e : Int, e = 9 := fun h => by rw [hd] at h; cases h
              have h9 : s.armed = 0 → meetsE s = 9 := fun h => by unfold meetsE; rw [if_pos h]
              split
              · exact Step.same _ fun h => hno h _
              · split
                · exact Step.meets hd _ _ rfl rfl rfl h9 rfl
                · exact Step.meets hd _ _ rfl rfl rfl h9 rfl
/-- A disk neither dead, armed nor set to fail. -/
structure CalmS (s : DS) : Prop where
  dead : s.dead = false
  armed : s.armed = -1
  failing : s.failing = -1
theorem run_calm {s : DS} (h : CalmS s) (o : Opr) (hk : ku o.kind < 9) : CalmS (runS s o) := by
  have hs := run_step s o hk
  have h5 := hs.fails
  rw [h.failing] at h5
  have h6 : (runS s o).failing = -1 := by rcases h5 with h5 | h5 <;> exact h5
  rcases hs.live h.dead with ⟨h1, h2, h3⟩ | ⟨h1, h2, h3, h4⟩
  · exact ⟨h3, h2.trans h.armed, h6⟩
  · rw [h.armed] at h2 h3
    exact ⟨h3, h2, h6⟩
theorem opsS_calm {s : DS} (h : CalmS s) : ∀ l : List Opr, CalmS (opsS s l) := by
  intro l
  induction l generalizing s with
  | nil => exact h
  | cons o l ih =>
    show CalmS (opsS (if ku o.kind < 9 then runS s o else s) l)
    split
    · rename_i hk; exact ih (run_calm h o hk)
    · exact ih h
theorem new_calm (room : Int) : CalmS (newS room) := ⟨rfl, rfl, rfl⟩
/-- Armed with n at 'before': so far so many. -/
def DInv (before n : Int) (s : DS) : Prop := (s.dead = false → 0 ≤ s.armed ∧ s.armed + s.ops = before + n) ∧ (s.dead = true → s.ops = before + n + 1)
theorem dinv_step {before n : Int} {s s' : DS} {e : Int} (hi : DInv before n s) (h : Step s s' e) :
    DInv before n s' ∧ (s.dead = true → e = 9) ∧ (s.dead = false → s'.dead = true → e = 9) := by
  cases hd : s.dead with
  | true =>
    obtain ⟨h1, rfl⟩ := h.dead hd
    exact ⟨hi, fun _ => h1, fun h => by cases h⟩
  | false =>
    obtain ⟨i1, i2⟩ := hi.1 hd
    refine ⟨?_, fun h => (by cases h), fun _ hd' => ?_⟩
    · rcases h.live hd with ⟨h1, h2, h3⟩ | ⟨h1, h2, h3, h4⟩
      · exact ⟨fun _ => by omega, fun h => by rw [h3] at h; cases h⟩
      · by_cases h0 : s.armed = 0
        · rw [if_pos h0] at h3
          exact ⟨fun h => (by rw [h3] at h; cases h), fun _ => by omega⟩
        · rw [if_neg h0] at h3
          refine ⟨fun _ => ?_, fun h => by rw [h3] at h; cases h⟩
          rw [h1, h2]
          unfold dec1
          rw [if_neg (by omega)]
          omega
    · rcases h.live hd with ⟨h1, h2, h3⟩ | ⟨h1, h2, h3, h4⟩
      · rw [h3] at hd'; cases hd'
      · by_cases h0 : s.armed = 0
        · exact h4 h0
        · rw [h3, if_neg h0] at hd'; cases hd'
theorem dinv_dead {before n : Int} {s : DS} (hi : DInv before n s) : s.dead = decide (s.ops = before + n + 1) ∧ s.ops ≤ before + n + 1 := by
  cases hd : s.dead with
  | true =>
    have := hi.2 hd
    exact ⟨by simp [this], by omega⟩
  | false =>
    obtain ⟨i1, i2⟩ := hi.1 hd
    have : ¬ (s.ops = before + n + 1) := by omega
    exact ⟨by simp [this], by omega⟩
end Go.Proofs.Ytlhkacjfonihjaa
