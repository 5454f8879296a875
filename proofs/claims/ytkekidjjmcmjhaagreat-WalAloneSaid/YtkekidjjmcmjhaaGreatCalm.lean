/- A region whose order is drawn, inside whatever fence: none of its operations makes a call. -/
import Derived.Test.YtkekidjjmcmjhaaGreatRegion
import Derived.OrdersIn
import Derived.OwnWalkIn
namespace Go.Proofs.YtkekidjjmcmjhaaGreat
open Go.RowKit
set_option maxRecDepth 100000

def calmOp : Op → Bool
  | .move _ | .assign _ | .pick _ _ _ | .load _ _ | .store _ _ _ | .binOp _ _ _ _ _ | .unOp _ _ _ | .fieldAddr _ _ _ | .indexAddr _ _ _ | .lookup _ _ _ _ | .mapUpdate _ _ _ _ | .extract _ _ => true
  | .call c => match c.callee with | .builtin .len => true | _ => false
  | _ => false

def calmRes : Result Next → Prop
  | .ok (.value _) _ => True
  | .ok .skip _ => True
  | .halt _ _ => True
  | _ => False

theorem calm_v {P : Program} (s : Sem Value) (w : World) : calmRes ((s >>= fun v => pure (Next.value v)).run P w) := by
  simp only [Sem.run_bind]
  cases s.run P w <;> simp [calmRes, Result.andThen]
theorem calm_u {P : Program} (s : Sem Unit) (w : World) : calmRes ((s >>= fun _ => pure Next.skip).run P w) := by
  simp only [Sem.run_bind]
  cases s.run P w <;> simp [calmRes, Result.andThen]
theorem calm_p {P : Program} (s : Sem Bool) (x y : Value) (w : World) : calmRes ((s >>= fun v => pure (Next.value (if v then x else y))).run P w) := by
  simp only [Sem.run_bind]
  cases s.run P w <;> simp [calmRes, Result.andThen]
theorem calm_run {P : Program} (o : Oper) (ρ : Operand → Value) (w : World) (h : calmOp o.op = true) : calmRes ((execOp ρ o).run P w) := by
  unfold execOp
  cases ho : o.op <;> rw [ho] at h <;> simp only [calmOp] at h <;> first | exact calm_v _ _ | exact calm_u _ _ | exact calm_p _ _ _ _ | (exact absurd h (by decide)) | (simp [calmRes]; done) | skip
  rename_i c
  obtain ⟨cal, args, at_⟩ := c
  cases cal with
  | value f => simp at h
  | invoke r n => simp at h
  | builtin b =>
    cases b <;> simp at h
    simp only [resolve, Sem.run_bind, Sem.run_pure, Result.andThen_ok, invoke, builtin]
    have h2 := calm_v (P := P) (Builtin.len_ at_ o.type (args.map ρ)) w
    simp only [Sem.run_bind, Sem.run_pure] at h2
    exact h2
theorem calm_about {P : Program} (o : Oper) (ρ : Operand → Value) (w : World) (h : calmOp o.op = true) : o.about P w ρ = none := by
  unfold Oper.about
  cases ho : o.op <;> rw [ho] at h <;> simp only [calmOp] at h <;> first | rfl | (exact absurd h (by decide)) | skip
  rename_i c
  obtain ⟨cal, args, at_⟩ := c
  cases cal with
  | value f => simp at h
  | invoke r n => simp at h
  | builtin b => simp [resolve, Target.leads, Sem.run_pure]
theorem calm_defer (o : Oper) (h : calmOp o.op = true) : ∀ c, o.op ≠ .defer c := by
  intro c e
  rw [e] at h
  simp [calmOp] at h

/-- The same, but that nothing lets the call outgrow its room. -/
def noOut (Q : Exit → Act → World → Prop) : Exit → Act → World → Prop
  | .outgrown, _, _ => False
  | e, a, w => Q e a w
@[go_sem] theorem noOut_normal (Q : Exit → Act → World → Prop) (a : Act) (w : World) : noOut Q .normal a w = Q .normal a w := rfl

variable {F : Fence} {n : Nat} {P : Program} {Q : Exit → Act → World → Prop}

theorem calm_wpIn {o : Oper} (hc : calmOp o.op = true) {a : Act} {w : World} {K K' : Act → World → Prop} (hK : ∀ a w, K a w → K' a w) (h : o.wp P a w K (noOut Q)) : o.wpIn F n P a w K' Q := by
  unfold Oper.wpIn
  refine ⟨fun f hf => (by rw [calm_about o _ _ hc] at hf; exact absurd hf (by simp)), ?_⟩
  rw [Oper.semAt_eq _ _ _ (calm_defer o hc)]
  unfold Oper.wp at h
  have hr := calm_run (P := P) o a.eval w hc
  generalize (execOp a.eval o).run P w = r at *
  cases r with
  | ok x w' => cases x <;> simp only [calmRes] at hr <;> simp only [Oper.upon, Oper.uponIn] at h ⊢ <;> first | exact hK _ _ h | exact hr.elim
  | halt x w' => cases x <;> simp only [Oper.upon, Oper.uponIn] at h ⊢ <;> first | exact h | exact h.elim

theorem calm_any {ops : Array Oper} (hc : ∀ (i : Nat) (o : Oper), ops[i]? = some o → calmOp o.op = true) : ∀ (fuel : Nat) (listed : Array Bool) (a : Act) (w : World), wpAny P .any ops (noOut Q) fuel listed a w → wpAnyIn F n P .any ops Q fuel listed a w := by
  intro fuel
  induction fuel with
  | zero => intro listed a w h; exact ⟨h.1, h.2⟩
  | succ fuel ih =>
    intro listed a w h
    refine ⟨fun hr => h.1 hr, fun i hi => ?_⟩
    have h1 := h.2 i hi
    unfold wpOpIn
    unfold wpOp at h1
    cases ho : ops[i]? with
    | none => rw [ho] at h1; simp only at h1 ⊢; exact ih _ _ _ h1
    | some o =>
      rw [ho] at h1
      simp only at h1 ⊢
      split
      · rename_i hw
        rw [if_pos hw] at h1
        rcases h1 with h2 | ⟨-, a0, w0, h2⟩
        · exact calm_wpIn (hc i o ho) (fun a w => ih _ a w) h2
        · exact h2.elim
      · rename_i hw
        rw [if_neg hw] at h1
        exact ⟨fun f hf => (by rw [calm_about o _ _ (hc i o ho)] at hf; exact absurd hf (by simp)), ih _ _ _ h1⟩

theorem wp_growIn {id : Nat} {a : Act} {w : World} {l : List Oper} (t : List (Nat × Sp Gr)) (N : Nat) (hm : P.follows .mixedOrders = true) (hB : headOk l.toArray N = true)
    (hsl : slotsIn l.toArray N a.tmps.size = true) (hrel : relHasDst l.toArray t = true) (hcalm : l.all (fun o => calmOp o.op) = true)
    (h : Der P l.toArray t w.drew N (fun a' w' => wpList P l.toArray (noOut Q) (l.drop N) a' w') (l.take N) 0 a) : (Code.region id l.toArray true).wpIn F n P Q a w := by
  refine wpIn_region_any hm (calm_any (fun i o ho => ?_) _ _ _ _ ?_)
  · have : o ∈ l := by
      have := Array.mem_of_getElem? ho
      simpa using this
    exact List.all_eq_true.1 hcalm o this
  · have hok := headOk_spec hB
    refine wpAny_grow (P := P) (w1 := w.drew) (a0 := a) (t := t) hok hsl (relHasDst_spec hrel) Gr.refl (fun _ _ _ => Gr.trans) (by simpa using h) _ _ _ _ ?_ ?_
    · unfold unl; simp [List.countP_replicate]
    · refine ⟨by simp, Gr.refl _, fun i _ => getD_replicate_false _ _, fun i j hi _ => ?_, fun _ _ => rfl, rfl, rfl, fun i o _ hi => ?_⟩
      · rw [getD_replicate_false] at hi; cases hi
      · rw [getD_replicate_false] at hi; cases hi
end Go.Proofs.YtkekidjjmcmjhaaGreat
