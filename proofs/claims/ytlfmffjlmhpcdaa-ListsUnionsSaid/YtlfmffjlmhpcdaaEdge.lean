/- A region whose order is drawn, where an 'extract' may come behind a store of the text: an edge that binds the two may be added. No program is named here. -/
import Derived.Test.YtlfmffjlmhpcdaaRegion
namespace Go.Proofs.Ytlfmffjlmhpcdaa
open Go.RowKit
set_option maxRecDepth 100000

/-- The region with one edge more: operation s waits for operation i, too. -/
def addEdge (ops : Array Oper) (s i : Nat) : Array Oper :=
  match ops[s]? with
  | some o => ops.setIfInBounds s { o with after := o.after.push { on := i, ground := .data } }
  | none => ops
section
variable {P : Program} {ops : Array Oper} {s i : Nat} {os oi : Oper}
theorem edge_ne (hs : ops[s]? = some os) {j : Nat} (h : j ≠ s) : (addEdge ops s i)[j]? = ops[j]? := by
  unfold addEdge; simp only [hs]; rw [Array.getElem?_setIfInBounds_ne (Ne.symm h)]
theorem edge_at (hs : ops[s]? = some os) : (addEdge ops s i)[s]? = some { os with after := os.after.push { on := i, ground := .data } } := by
  have hlt := (Array.getElem?_eq_some_iff.1 hs).1
  unfold addEdge; simp only [hs]; rw [Array.getElem?_setIfInBounds_self_of_lt hlt]
theorem edge_dst (hs : ops[s]? = some os) (j : Nat) : ((addEdge ops s i)[j]?).bind (·.dst) = (ops[j]?).bind (·.dst) := by
  by_cases h : j = s
  · subst h; rw [edge_at hs, hs]; rfl
  · rw [edge_ne hs h]
theorem edge_yielded (hs : ops[s]? = some os) : yielded (addEdge ops s i) = yielded ops := by
  funext tmps j; unfold yielded; rw [edge_dst hs]
theorem edge_size (hs : ops[s]? = some os) : (addEdge ops s i).size = ops.size := by
  unfold addEdge; simp only [hs]; simp
theorem edge_ready (hs : ops[s]? = some os) {listed : Array Bool} {k : Nat} : k ∈ Region.ready .any (addEdge ops s i) listed ↔ k ∈ Region.ready .any ops listed ∧ (k = s → listed.getD i false = true) := by
  rw [mem_ready, mem_ready]
  by_cases hk : k = s
  · subst hk
    rw [edge_at hs, hs]
    constructor
    · rintro ⟨h1, o, ho, h2⟩
      cases ho
      refine ⟨⟨h1, _, rfl, fun e he hb => h2 e (by simp [he]) hb⟩, fun _ => h2 { on := i, ground := .data } (by simp) rfl⟩
    · rintro ⟨⟨h1, o, ho, h2⟩, h3⟩
      cases ho
      refine ⟨h1, _, rfl, fun e he hb => ?_⟩
      simp only [Array.mem_push] at he
      rcases he with he | rfl
      · exact h2 e he hb
      · exact h3 rfl
  · rw [edge_ne hs hk]
    exact ⟨fun h => ⟨h, fun e => absurd e hk⟩, fun h => h.1⟩
theorem edge_wpOp (hs : ops[s]? = some os) {Q : Exit → Act → World → Prop} {k : Nat} {K : Act → World → Prop} {a : Act} {w : World} (h : wpOp P (addEdge ops s i) Q k K a w) : wpOp P ops Q k K a w := by
  unfold wpOp at *
  rw [edge_yielded hs] at h
  by_cases hk : k = s
  · subst hk
    rw [edge_at hs] at h
    rw [hs]
    cases os
    exact h
  · rw [edge_ne hs hk] at h; exact h
theorem extract_pure {x : Operand} {n : Nat} (hop : oi.op = .extract x n) (ρ : Operand → Value) :
    (∃ v, ∀ w, (execOp ρ oi).run P w = .ok (.value v) w ∧ noRoomEvent ∉ ((execOp ρ oi).runT P w #[]).2) ∨ (∀ w, ∃ m, (execOp ρ oi).run P w = .halt (.stuck m) w ∧ noRoomEvent ∉ ((execOp ρ oi).runT P w #[]).2) := by
  unfold execOp
  simp only [hop]
  unfold Instr.extract
  cases ρ x
  case tuple vs =>
    cases hv : vs[n]? with
    | none => right; intro w; simp only [hv]; exact ⟨_, rfl, by show ¬ noRoomEvent ∈ (#[] : Array Event); simp⟩
    | some v => left; simp only [hv]; exact ⟨v, fun w => ⟨rfl, by show ¬ noRoomEvent ∈ (#[] : Array Event); simp⟩⟩
  all_goals (right; intro w; exact ⟨_, rfl, by show ¬ noRoomEvent ∈ (#[] : Array Event); simp⟩)
theorem wpAny_edge {Q : Exit → Act → World → Prop} (hi : ops[i]? = some oi) (hs : ops[s]? = some os) (his : i ≠ s) (hsel : Region.noSelect ops = true) (hg : oi.guard = none) {x : Operand} {n : Nat} (hop : oi.op = .extract x n)
    (hfree : ∀ j oj, ops[j]? = some oj → j ≠ i → (∀ e ∈ oi.after, Region.binds .any e = true → e.on ≠ j) → (∀ e ∈ oj.after, Region.binds .any e = true → e.on ≠ i) → oi.apart ops oj = true)
    (hdeps : ∀ e ∈ oi.after, Region.binds .any e = true → ∃ e' ∈ os.after, Region.binds .any e' = true ∧ e'.on = e.on)
    (hlt : ∀ e ∈ oi.after, Region.binds .any e = true → e.on < ops.size)
    (hQ : ∀ c a w v, Q (.panic c) (a.put oi.dst v) w → Q (.panic c) a w) :
    ∀ (fuel : Nat) (listed : Array Bool) (a : Act) (w : World), listed.size = ops.size → wpAny P .any (addEdge ops s i) Q fuel listed a w → wpAny P .any ops Q fuel listed a w := by
  -- where s is ready, i is ready or has come
  have ready_i : ∀ listed : Array Bool, listed.size = ops.size → s ∈ Region.ready .any ops listed → listed.getD i false = false → i ∈ Region.ready .any ops listed := by
    intro listed hsz hrs hl
    obtain ⟨_, o, ho, hall⟩ := mem_ready.1 hrs
    rw [hs] at ho; cases ho
    have hisz : i < ops.size := (Array.getElem?_eq_some_iff.1 hi).1
    refine mem_ready.2 ⟨by rw [getD_agree (by omega)]; exact hl, oi, hi, fun e he hb => ?_⟩
    obtain ⟨e', he', hb', heq⟩ := hdeps e he hb
    rw [← heq]; exact hall e' he' hb'
  intro fuel
  induction fuel with
  | zero =>
    intro listed a w hsz h
    refine ⟨?_, h.2⟩
    refine List.eq_nil_iff_forall_not_mem.2 fun k hk => ?_
    by_cases hki : listed.getD i false = true ∨ k ≠ s
    · have : k ∈ Region.ready .any (addEdge ops s i) listed := (edge_ready hs).2 ⟨hk, fun e => by rcases hki with h1 | h1; exact h1; exact absurd e h1⟩
      rw [h.1] at this; cases this
    · have hks : k = s := Classical.byContradiction fun hh => hki (.inr hh)
      have hl : listed.getD i false = false := by cases hx : listed.getD i false; rfl; exact absurd (.inl hx) hki
      subst hks
      have : i ∈ Region.ready .any (addEdge ops k i) listed := (edge_ready hs).2 ⟨ready_i listed hsz hk hl, fun e => absurd e his⟩
      rw [h.1] at this; cases this
  | succ fuel ih =>
    intro listed a w hsz h
    by_cases hri : i ∈ Region.ready .any ops listed
    · have hri' : i ∈ Region.ready .any (addEdge ops s i) listed := (edge_ready hs).2 ⟨hri, fun e => absurd e his⟩
      have h1 := edge_wpOp hs (h.2 i hri')
      unfold wpOp at h1
      simp only [hi] at h1
      have hwant : Region.wanted oi (yielded ops a.tmps) = true := by unfold Region.wanted; rw [hg]
      rw [hwant] at h1
      simp only [if_true] at h1
      rcases extract_pure (P := P) hop a.eval with ⟨v, hv⟩ | hst
      · have h2 : wpAny P .any (addEdge ops s i) Q fuel (listed.setIfInBounds i true) (a.put oi.dst v) w := by
          rcases h1 with h1 | h1
          · unfold Oper.wp at h1; rw [(hv w).1] at h1; exact h1
          · exfalso
            exact (hv w).2 h1.1.1
        refine wpAny_first hi (Region.noSelect_spec hsel) (fun c a w h => hQ c a w v h) fuel listed a w (fun j oj hj hji hun hno => ?_) hri (.inl ⟨hwant, fun w => (hv w).1⟩) (ih _ _ _ (by simpa using hsz) h2)
        refine hfree j oj hj hji (fun e he hb hej => ?_) hno
        obtain ⟨_, o, ho, hall⟩ := mem_ready.1 hri
        rw [hi] at ho; cases ho
        have := hall e he hb
        rw [hej, ← getD_agree (by rw [hsz, ← hej]; exact hlt e he hb), hun] at this
        cases this
      · exfalso
        obtain ⟨m, hm, hno⟩ := hst w
        rcases h1 with h1 | h1
        · unfold Oper.wp at h1; rw [hm] at h1; exact h1
        · exact hno h1.1.1
    · have same : ∀ k, k ∈ Region.ready .any ops listed → k ∈ Region.ready .any (addEdge ops s i) listed := fun k hk =>
        (edge_ready hs).2 ⟨hk, fun e => by
          subst e
          cases hx : listed.getD i false
          · exact absurd (ready_i listed hsz hk hx) hri
          · rfl⟩
      refine ⟨fun hnil => h.1 ?_, fun k hk => wpOp_mono (fun a' w' h' => ih _ _ _ (by simpa using hsz) h') (edge_wpOp hs (h.2 k (same k hk)))⟩
      refine List.eq_nil_iff_forall_not_mem.2 fun k hk => ?_
      have := ((edge_ready hs).1 hk).1
      rw [hnil] at this; cases this
theorem edge_dep (hs : ops[s]? = some os) {k j : Nat} (hk : k ≠ s) : dep (addEdge ops s i) k j = dep ops k j := by unfold dep; rw [edge_ne hs hk]
theorem edge_wantedAt (hs : ops[s]? = some os) : wantedAt (addEdge ops s i) = wantedAt ops := by
  funext a k
  unfold wantedAt
  rw [edge_yielded hs]
  by_cases hk : k = s
  · subst hk; rw [edge_at hs, hs]; rfl
  · rw [edge_ne hs hk]
theorem edge_slotOf (hs : ops[s]? = some os) : slotOf (addEdge ops s i) = slotOf ops := by
  funext a k; unfold slotOf; rw [edge_dst hs]
theorem wpList_edge (hs : ops[s]? = some os) {Q : Exit → Act → World → Prop} : ∀ (l : List Oper), wpList P (addEdge ops s i) Q l = wpList P ops Q l
  | [] => rfl
  | o :: l => by funext a w; unfold wpList; rw [edge_yielded hs, wpList_edge hs l]
theorem wpList_set {Q : Exit → Act → World → Prop} {o : Oper} {x : Array Edge} : ∀ (l : List Oper) (n : Nat) (a : Act) (w : World), l[n]? = some o → wpList P ops Q l a w → wpList P ops Q (l.set n { o with after := x }) a w
  | [], n, a, w, h, _ => by simp at h
  | y :: l, 0, a, w, h, hw => by
    have : y = o := by simpa using h
    subst this
    cases y
    exact hw
  | y :: l, n + 1, a, w, h, hw => by
    have h' : l[n]? = some o := by simpa using h
    rw [List.set_cons_succ]
    unfold wpList at hw ⊢
    split at hw
    · rename_i hwt
      rw [if_pos hwt]
      exact hw.imp (fun hh => Oper.wp_mono (fun a' w' => wpList_set l n a' w' h') hh) id
    · rename_i hwt
      rw [if_neg hwt]
      exact wpList_set l n _ _ h' hw
theorem Der_edge {G : World → World → Prop} {t : List (Nat × Sp G)} {w1 : World} {N : Nat} (hs : ops[s]? = some os) {Q Q' : Act → World → Prop} (hQQ : ∀ a w, Q a w → Q' a w) : ∀ (l : List Oper) (k : Nat) (a : Act), k + l.length ≤ s →
    Der P ops t w1 N Q l k a → Der P (addEdge ops s i) t w1 N Q' l k a
  | [], k, a, _, h => by
    intro w hg hctx
    refine hQQ _ _ (h w hg fun j p hp hj hsp hw => ?_)
    have := hctx j p hp hj hsp (by rw [edge_wantedAt hs]; exact hw)
    rw [edge_slotOf hs] at this
    exact this
  | o :: l, k, a, hk, h => by
    have hks : k ≠ s := by simp at hk; omega
    have hctx : ∀ w, ctxAt (addEdge ops s i) t k a w → ctxAt ops t k a w := fun w hc j p hp hd hsp hw => by
      have := hc j p hp (by rw [edge_dep hs hks]; exact hd) hsp (by rw [edge_wantedAt hs]; exact hw)
      rw [edge_slotOf hs] at this
      exact this
    have next : ∀ b, Der P ops t w1 N Q l (k + 1) b → Der P (addEdge ops s i) t w1 N Q' l (k + 1) b := fun b => Der_edge hs hQQ l (k + 1) b (by simp at hk; omega)
    unfold Der at h ⊢
    rw [edge_yielded hs]
    split at h
    · rename_i hw
      rw [if_pos hw]
      cases hsp : spOf t k with
      | quiet =>
        simp only [hsp, Clause] at h ⊢
        obtain ⟨v, h1, h2⟩ := h
        exact ⟨v, fun w hg hc => h1 w hg (hctx w hc), next _ h2⟩
      | val u =>
        simp only [hsp, Clause] at h ⊢
        exact ⟨fun w hg hc => h.1 w hg (hctx w hc), next _ h.2⟩
      | rel p hp =>
        simp only [hsp, Clause] at h ⊢
        exact ⟨fun w hg hc => h.1 w hg (hctx w hc), fun v => next _ (h.2 v)⟩
    · rename_i hw
      rw [if_neg hw]
      exact next _ h
end
/-- What the edge's theorem asks of a region, to be reckoned by the kernel. -/
def edgeOk (ops : Array Oper) (s i : Nat) : Bool :=
  match ops[i]?, ops[s]? with
  | some oi, some os =>
    (match oi.op with | .extract .. => true | _ => false) && oi.guard.isNone && decide (i ≠ s) &&
    ((List.range ops.size).all fun j => j == i || (oi.after.any fun e => Region.binds .any e && e.on == j) || match ops[j]? with
      | some oj => (oj.after.any fun e => Region.binds .any e && e.on == i) || oi.apart ops oj
      | none => true) &&
    (oi.after.all fun e => !Region.binds .any e || ((os.after.any fun e' => Region.binds .any e' && e'.on == e.on) && decide (e.on < ops.size))) && Region.noSelect ops
  | _, _ => false
/-- wp_grow, for a growth of one's own and a region in which operation i, an 'extract', may come behind operation s. -/
theorem wp_growE {P : Program} {G : World → World → Prop} (hr : ∀ w, G w w) (ht : ∀ a b c, G a b → G b c → G a c) (s i : Nat) {id : Nat} {Q : Exit → Act → World → Prop} {a : Act} {w : World} {l : List Oper} (t : List (Nat × Sp G)) (N : Nat)
    (hm : P.follows .mixedOrders = true) (he : edgeOk l.toArray s i = true) (hB : headOk (addEdge l.toArray s i) N = true) (hNs : N ≤ s)
    (hsl : slotsIn (addEdge l.toArray s i) N a.tmps.size = true) (hrel : relHasDst (addEdge l.toArray s i) t = true)
    (hQ : ∀ d, ((l.toArray[i]?).bind (·.dst)) = d → ∀ c a w v, Q (.panic c) (a.put d v) w → Q (.panic c) a w)
    (h : Der P l.toArray t w.drew N (fun a' w' => wpList P l.toArray Q (l.drop N) a' w') (l.take N) 0 a) : (Code.region id l.toArray true).wp P Q a w := by
  refine wp_region_any hm ?_
  unfold edgeOk at he
  cases hi : l.toArray[i]? with
  | none => rw [hi] at he; cases he
  | some oi =>
    cases hs : l.toArray[s]? with
    | none => rw [hi, hs] at he; cases he
    | some os =>
      rw [hi, hs] at he
      simp only [Bool.and_eq_true, decide_eq_true_eq, List.all_eq_true, List.mem_range, Option.isNone_iff_eq_none] at he
      obtain ⟨⟨⟨⟨⟨h1, h2⟩, h3⟩, h4⟩, h5⟩, hsel⟩ := he
      have hok := headOk_spec hB
      have hsz := edge_size (i := i) hs
      obtain ⟨x, n, hop⟩ : ∃ x n, oi.op = .extract x n := by
        cases hop : oi.op <;> simp [hop] at h1 ⊢
      refine wpAny_edge hi hs h3 hsel h2 hop ?_ ?_ ?_ (fun c a w v hh => hQ _ rfl c a w v (by rw [hi]; exact hh)) _ _ _ _ (by simp) ?_
      · intro j oj hj hji hno1 hno2
        have h6 := h4 j (Array.getElem?_eq_some_iff.1 hj).1
        simp only [hj, Bool.or_eq_true, beq_iff_eq, hji, false_or] at h6
        rcases h6 with h6 | h6 | h6
        · obtain ⟨e, he1, he2⟩ := Array.any_eq_true'.1 h6
          simp only [Bool.and_eq_true, beq_iff_eq] at he2
          exact absurd he2.2 (hno1 e he1 he2.1)
        · obtain ⟨e, he1, he2⟩ := Array.any_eq_true'.1 h6
          simp only [Bool.and_eq_true, beq_iff_eq] at he2
          exact absurd he2.2 (hno2 e he1 he2.1)
        · exact h6
      · intro e he hb
        have h6 := Array.all_eq_true_iff_forall_mem.1 h5 e he
        simp only [hb, Bool.not_true, Bool.false_or, Bool.and_eq_true] at h6
        obtain ⟨e', he1, he2⟩ := Array.any_eq_true'.1 h6.1
        simp only [Bool.and_eq_true, beq_iff_eq] at he2
        exact ⟨e', he1, he2.1, he2.2⟩
      · intro e he hb
        have h6 := Array.all_eq_true_iff_forall_mem.1 h5 e he
        simp only [hb, Bool.not_true, Bool.false_or, Bool.and_eq_true, decide_eq_true_eq] at h6
        exact h6.2
      · have hl : (addEdge l.toArray s i).toList = l.set s { os with after := os.after.push { on := i, ground := .data } } := by
          unfold addEdge; simp only [hs]; simp
        have hdrop : ∀ (X : Oper), (l.set s X).drop N = (l.drop N).set (s - N) X := by
          intro X
          rw [List.drop_set, if_neg (by omega)]
        have htake : ∀ (X : Oper), (l.set s X).take N = l.take N := by
          intro X
          rw [List.take_set, List.set_eq_of_length_le (by simp; omega)]
        have hsl2 : l[s]? = some os := by simpa using hs
        have key := wpAny_grow (P := P) (w1 := w.drew) (a0 := a) (t := t) (Q' := Q) hok hsl (relHasDst_spec hrel) hr ht (by
          rw [hl, hdrop, htake]
          refine Der_edge hs ?_ _ _ _ (by simp; omega) h
          intro b w' hb
          rw [wpList_edge hs]
          refine wpList_set _ _ _ _ ?_ hb
          rw [List.getElem?_drop, show N + (s - N) = s by omega]; exact hsl2) (l.toArray.size) (Array.replicate l.toArray.size false) a { w with drawn := w.drawn + 1 }
        refine key ?_ ?_
        · unfold unl; simp [List.countP_replicate]
        · refine ⟨by rw [hsz]; simp, hr _, fun i _ => getD_replicate_false _ _, fun i j hi _ => ?_, fun _ _ => rfl, rfl, rfl, fun i o _ hi => ?_⟩
          · rw [getD_replicate_false] at hi; cases hi
          · rw [getD_replicate_false] at hi; cases hi
end Go.Proofs.Ytlfmffjlmhpcdaa
