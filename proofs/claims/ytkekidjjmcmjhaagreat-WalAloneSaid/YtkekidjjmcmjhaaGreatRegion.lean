/- A region whose order is drawn: each operation is shown to do its work in whatever world has grown from the region's first one; then every order that the edges allow comes to one end. No program is named here. -/
import Derived.Test.YtkekidjjmcmjhaaGreatKit
namespace Go.Proofs.YtkekidjjmcmjhaaGreat
open Go.RowKit
set_option maxRecDepth 100000

/-- What an operation is said to give: what it gives in every world alike, without turning the world; a value that is named ahead; or whatever stands in a relation with the world that abides growth. -/
inductive Sp (G : World → World → Prop) where
  | quiet
  | val (v : Value)
  | rel (p : Value → World → Prop) (hp : ∀ v w w', p v w → G w w' → p v w')

def spOf {G : World → World → Prop} : List (Nat × Sp G) → Nat → Sp G
  | [], _ => .quiet
  | (j, s) :: t, k => if j = k then s else spOf t k

def dep (ops : Array Oper) (i j : Nat) : Bool :=
  match ops[i]? with
  | some o => o.after.any fun e => Region.binds .any e && e.on == j
  | none => false

def wantedAt (ops : Array Oper) (a : Act) (k : Nat) : Bool :=
  match ops[k]? with
  | some o => Region.wanted o (yielded ops a.tmps)
  | none => false

def slotOf (ops : Array Oper) (a : Act) (k : Nat) : Value :=
  match (ops[k]?).bind (·.dst) with
  | some d => a.tmps.getD d undef
  | none => undef

def quietUpon (v : Value) (w : World) : Result Next → Prop
  | .ok (.value u) w' => u = v ∧ w' = w
  | .ok .skip w' => undef = v ∧ w' = w
  | _ => False
def quietRun (P : Program) (o : Oper) (a : Act) (w : World) (v : Value) : Prop := quietUpon v w ((execOp a.eval o).run P w)

def retR (R : Value → World → Prop) (e : Ending) (w : World) : Prop := ∃ v, e = .returned v ∧ R v w
def givesUpon (P : Program) (R : Value → World → Prop) : Result Next → Prop
  | .ok (.value u) w' => R u w'
  | .ok .skip w' => R undef w'
  | .ok (.enter f args) w' => Calls P f args w' (retR R)
  | _ => False
def Gives (P : Program) (o : Oper) (a : Act) (w : World) (R : Value → World → Prop) : Prop := givesUpon P R ((execOp a.eval o).run P w)

attribute [go_sem] quietUpon quietRun givesUpon Gives
section
variable {P : Program} {G : World → World → Prop} {ops : Array Oper} {t : List (Nat × Sp G)} {w1 : World} {Q : Act → World → Prop}

/-- What is known, at operation k, of the operations on which it waits. -/
def ctxAt (ops : Array Oper) (t : List (Nat × Sp G)) (k : Nat) (a : Act) (w : World) : Prop :=
  ∀ j p hp, dep ops k j = true → spOf t j = .rel p hp → wantedAt ops a j = true → p (slotOf ops a j) w
def ctxAll (ops : Array Oper) (t : List (Nat × Sp G)) (N : Nat) (a : Act) (w : World) : Prop :=
  ∀ j p hp, j < N → spOf t j = .rel p hp → wantedAt ops a j = true → p (slotOf ops a j) w

def Clause (P : Program) (ops : Array Oper) (t : List (Nat × Sp G)) (w1 : World) (o : Oper) (k : Nat) (a : Act) (next : Value → Prop) : Sp G → Prop
  | .quiet => ∃ v, (∀ w, G w1 w → ctxAt ops t k a w → quietRun P o a w v) ∧ next v
  | .val v => (∀ w, G w1 w → ctxAt ops t k a w → Gives P o a w fun u w' => u = v ∧ G w w') ∧ next v
  | .rel p _ => (∀ w, G w1 w → ctxAt ops t k a w → Gives P o a w fun u w' => p u w' ∧ G w w') ∧ ∀ v, next v

def Der (P : Program) (ops : Array Oper) (t : List (Nat × Sp G)) (w1 : World) (N : Nat) (Q : Act → World → Prop) : List Oper → Nat → Act → Prop
  | [], _, a => ∀ w, G w1 w → ctxAll ops t N a w → Q a w
  | o :: rest, k, a =>
    if Region.wanted o (yielded ops a.tmps) then Clause P ops t w1 o k a (fun v => Der P ops t w1 N Q rest (k + 1) (a.put o.dst v)) (spOf t k)
    else Der P ops t w1 N Q rest (k + 1) (a.put o.dst undef)

theorem Der.nil {N k : Nat} {a : Act} (h : ∀ w, G w1 w → ctxAll ops t N a w → Q a w) : Der P ops t w1 N Q [] k a := h
theorem Der.skip {N k : Nat} {a : Act} {o : Oper} {rest : List Oper} (hw : Region.wanted o (yielded ops a.tmps) = false) (h : Der P ops t w1 N Q rest (k + 1) (a.put o.dst undef)) :
    Der P ops t w1 N Q (o :: rest) k a := by
  unfold Der; rw [if_neg (by simp [hw])]; exact h
theorem Der.quiet {N k : Nat} {a : Act} {o : Oper} {rest : List Oper} {v : Value} (hw : Region.wanted o (yielded ops a.tmps) = true) (hs : spOf t k = .quiet)
    (hr : ∀ w, G w1 w → ctxAt ops t k a w → quietRun P o a w v) (h : Der P ops t w1 N Q rest (k + 1) (a.put o.dst v)) : Der P ops t w1 N Q (o :: rest) k a := by
  unfold Der; rw [if_pos hw, hs]; exact ⟨v, hr, h⟩
theorem Der.val {N k : Nat} {a : Act} {o : Oper} {rest : List Oper} {v : Value} (hw : Region.wanted o (yielded ops a.tmps) = true) (hs : spOf t k = .val v)
    (hr : ∀ w, G w1 w → ctxAt ops t k a w → Gives P o a w fun u w' => u = v ∧ G w w') (h : Der P ops t w1 N Q rest (k + 1) (a.put o.dst v)) : Der P ops t w1 N Q (o :: rest) k a := by
  unfold Der; rw [if_pos hw, hs]; exact ⟨hr, h⟩
theorem Der.rel {N k : Nat} {a : Act} {o : Oper} {rest : List Oper} {p : Value → World → Prop} {hp} (hw : Region.wanted o (yielded ops a.tmps) = true) (hs : spOf t k = .rel p hp)
    (hr : ∀ w, G w1 w → ctxAt ops t k a w → Gives P o a w fun u w' => p u w' ∧ G w w') (h : ∀ v, Der P ops t w1 N Q rest (k + 1) (a.put o.dst v)) : Der P ops t w1 N Q (o :: rest) k a := by
  unfold Der; rw [if_pos hw, hs]; exact ⟨hr, h⟩

/-- The region's own shape, to be reckoned by the kernel: what an operation looks at it waits for; the slots are apart; the operations from N on wait, one behind the other, for all ahead of them. -/
def headOk (ops : Array Oper) (N : Nat) : Bool :=
  ((List.range N).all fun i => (List.range N).all fun j =>
    match ops[i]?, ops[j]? with
    | some oi, some oj => match oj.dst with
      | some d => (!(oi.looksAt ops).contains d || dep ops i j) && (i == j || oi.dst != some d)
      | none => true
    | _, _ => false) &&
  ((List.range ops.size).all fun i => (List.range ops.size).all fun j => !dep ops i j || decide (j < i)) &&
  ((List.range ops.size).all fun i => (match ops[i]? with | some o => o.after.all fun e => !Region.binds .any e || decide (e.on < i) | none => true)) &&
  ((List.range N).all fun i => decide (ops.size ≤ N) || (List.range (N + 1)).any fun j => decide (i < j) && dep ops j i) &&
  ((List.range ops.size).all fun t => decide (t ≤ N) || dep ops t (t - 1)) &&
  decide (N ≤ ops.size) && Region.noSelect ops
def slotsIn (ops : Array Oper) (N n : Nat) : Bool := (List.range N).all fun i => match (ops[i]?).bind (·.dst) with | some d => decide (d < n) | none => true

theorem dep_iff {i j : Nat} {o : Oper} (ho : ops[i]? = some o) : dep ops i j = true ↔ ∃ e ∈ o.after, Region.binds .any e = true ∧ e.on = j := by
  unfold dep
  simp only [ho, Array.any_eq_true']
  constructor
  · rintro ⟨e, he, hb⟩; simp only [Bool.and_eq_true, beq_iff_eq] at hb; exact ⟨e, he, hb.1, hb.2⟩
  · rintro ⟨e, he, hb, hj⟩; exact ⟨e, he, by simp [hb, hj]⟩

structure HeadOk (ops : Array Oper) (N : Nat) : Prop where
  looks : ∀ i oi j oj d, i < N → j < N → ops[i]? = some oi → ops[j]? = some oj → oj.dst = some d → d ∈ oi.looksAt ops → dep ops i j = true
  apart : ∀ i oi j oj d, i < N → j < N → ops[i]? = some oi → ops[j]? = some oj → oj.dst = some d → i ≠ j → oi.dst ≠ some d
  lt : ∀ i j, dep ops i j = true → j < i
  sink : N < ops.size → ∀ i, i < N → ∃ j, i < j ∧ j ≤ N ∧ dep ops j i = true
  chain : ∀ t, N < t → t < ops.size → dep ops t (t - 1) = true
  le : N ≤ ops.size
  sel : Region.noSelect ops = true

theorem headOk_spec {N : Nat} (h : headOk ops N = true) : HeadOk ops N := by
  simp only [headOk, Bool.and_eq_true, List.all_eq_true, List.mem_range, decide_eq_true_eq, Bool.or_eq_true, Bool.not_eq_true'] at h
  obtain ⟨⟨⟨⟨⟨⟨h1, h2⟩, h3'⟩, h4⟩, h7⟩, h5⟩, h6⟩ := h
  refine ⟨?_, ?_, ?_, ?_, ?_, h5, h6⟩
  · intro i oi j oj d hi hj hoi hoj hd hm
    have := h1 i hi j hj
    simp only [hoi, hoj, hd, Bool.and_eq_true, Bool.or_eq_true, Bool.not_eq_true'] at this
    rcases this.1 with h | h
    · simp [hm] at h
    · exact h
  · intro i oi j oj d hi hj hoi hoj hd hne
    have := h1 i hi j hj
    simp only [hoi, hoj, hd, Bool.and_eq_true, Bool.or_eq_true, beq_iff_eq, bne_iff_ne] at this
    rcases this.2 with h | h
    · exact absurd h hne
    · exact h
  · intro i j hd
    by_cases hi : i < ops.size
    · cases hoi : ops[i]? with
      | none => simp [dep, hoi] at hd
      | some o =>
        obtain ⟨e, he, hb, hj⟩ := (dep_iff hoi).1 hd
        by_cases hjs : j < ops.size
        · rcases h2 i hi j hjs with h | h
          · rw [h] at hd; cases hd
          · exact h
        · have h3 := h3' i hi
          simp only [hoi, Array.all_eq_true', Bool.or_eq_true, Bool.not_eq_true', decide_eq_true_eq] at h3
          rcases h3 e he with h | h
          · rw [h] at hb; cases hb
          · omega
    · have : ops[i]? = none := by simp; omega
      simp [dep, this] at hd
  · intro hN i hi
    rcases h4 i hi with h | h
    · omega
    · obtain ⟨j, hj, hj2⟩ := List.any_eq_true.1 h
      simp only [Bool.and_eq_true, decide_eq_true_eq] at hj2
      exact ⟨j, hj2.1, by have := List.mem_range.1 hj; omega, hj2.2⟩
  · intro t ht hts
    rcases h7 t hts with h | h
    · omega
    · exact h

theorem Gives.wp {o : Oper} {a : Act} {w : World} {R : Value → World → Prop} {K : Act → World → Prop} {Q' : Exit → Act → World → Prop} (h : Gives P o a w R)
    (hK : ∀ v w', R v w' → K (a.put o.dst v) w') : o.wp P a w K Q' := by
  unfold Gives at h
  unfold Oper.wp
  generalize (execOp a.eval o).run P w = r at *
  cases r with
  | ok n w' =>
    cases n <;> simp only [givesUpon] at h <;> simp only [Oper.upon]
    case value u => exact hK _ _ h
    case skip => exact hK _ _ h
    case enter f args => exact h.mono fun e w'' ⟨v, he, hr⟩ => by subst he; exact hK _ _ hr
  | halt x w' => simp only [givesUpon] at h

theorem quietRun.wp {o : Oper} {a : Act} {w : World} {v : Value} {K : Act → World → Prop} {Q' : Exit → Act → World → Prop} (h : quietRun P o a w v)
    (hK : K (a.put o.dst v) w) : o.wp P a w K Q' := by
  unfold quietRun at h
  unfold Oper.wp
  generalize (execOp a.eval o).run P w = r at *
  cases r with
  | ok n w' =>
    cases n <;> simp only [quietUpon] at h <;> simp only [Oper.upon]
    case value u => obtain ⟨rfl, rfl⟩ := h; exact hK
    case skip => obtain ⟨rfl, rfl⟩ := h; exact hK
  | halt x w' => simp only [quietUpon] at h

theorem quietRun.unique {o : Oper} {a : Act} {w : World} {u v : Value} (h : quietRun P o a w u) (h' : quietRun P o a w v) : u = v := by
  unfold quietRun at h h'
  generalize (execOp a.eval o).run P w = r at *
  cases r with
  | ok n w' =>
    cases n <;> simp only [quietUpon] at h h'
    case value x => exact h.1.symm.trans h'.1
    case skip => exact h.1.symm.trans h'.1
  | halt x w' => simp only [quietUpon] at h

/-- What stands of an operation that has been carried out. -/
def Rec (P : Program) (ops : Array Oper) (t : List (Nat × Sp G)) (a : Act) (w : World) (i : Nat) (o : Oper) : Prop :=
  ∃ v, a.put o.dst v = a ∧
    if wantedAt ops a i then
      match spOf t i with
      | .quiet => ∀ w', G w w' → quietRun P o a w' v
      | .val u => v = u
      | .rel p _ => p v w
    else v = undef

structure Cl (P : Program) (ops : Array Oper) (t : List (Nat × Sp G)) (w1 : World) (N : Nat) (a0 : Act) (listed : Array Bool) (a : Act) (w : World) : Prop where
  size : listed.size = ops.size
  grown : G w1 w
  head : ∀ i, N ≤ i → listed.getD i false = false
  closed : ∀ i j, listed.getD i false = true → dep ops i j = true → listed.getD j false = true
  off : ∀ s, (∀ j o, j < N → ops[j]? = some o → o.dst = some s → False) → a.tmps[s]? = a0.tmps[s]?
  tsize : a.tmps.size = a0.tmps.size
  defers : a.defers = a0.defers
  recs : ∀ i o, ops[i]? = some o → listed.getD i false = true → Rec P ops t a w i o

/-- The walk in the text's order, as far as k, holds in its slots what the run holds, wherever that has come. -/
structure Agree (ops : Array Oper) (N : Nat) (listed : Array Bool) (k : Nat) (b a : Act) : Prop where
  slots : ∀ s, (∀ j o, j < N → ops[j]? = some o → o.dst = some s → listed.getD j false = true ∧ j < k) → b.tmps[s]? = a.tmps[s]?
  size : b.tmps.size = a.tmps.size
  defers : b.defers = a.defers

theorem eval_of_slots {a b : Act} {x : Operand} (h : ∀ s, x = .tmp s → b.tmps[s]? = a.tmps[s]?) : b.eval x = a.eval x := by
  cases x with
  | tmp s => simp only [Act.eval, Array.getD_eq_getD_getElem?]; rw [h s rfl]
  | _ => rfl

/-- Of an operation all whose forerunners have been carried out, the walk's act and the run's say the same. -/
theorem Agree.sees {N : Nat} {listed : Array Bool} {k : Nat} {b a : Act} (hok : HeadOk ops N) (h : Agree ops N listed k b a) {i : Nat} {o : Oper} (hi : i < N) (ho : ops[i]? = some o)
    (hdeps : ∀ j, dep ops i j = true → listed.getD j false = true ∧ j < k) : ∀ s, s ∈ o.looksAt ops → b.tmps[s]? = a.tmps[s]? := by
  intro s hs
  exact h.slots s fun j oj hj hoj hd => hdeps j (hok.looks i o j oj s hi hj ho hoj hd hs)

theorem exec_of_sees {o : Oper} {b a : Act} (hsel : ∀ cs c, o.op ≠ .select cs c) (h : ∀ s, s ∈ o.looksAt ops → b.tmps[s]? = a.tmps[s]?) : execOp b.eval o = execOp a.eval o :=
  execOp_congr o hsel fun x hx => eval_of_slots fun s hs => h s (by
    subst hs
    exact List.mem_append_left _ (List.mem_filterMap.2 ⟨.tmp s, by simpa using hx, rfl⟩))

theorem wanted_of_sees {o : Oper} {b a : Act} (h : ∀ s, s ∈ o.looksAt ops → b.tmps[s]? = a.tmps[s]?) : Region.wanted o (yielded ops b.tmps) = Region.wanted o (yielded ops a.tmps) := by
  unfold Region.wanted
  cases hg : o.guard with
  | none => rfl
  | some gw =>
    obtain ⟨g, want⟩ := gw
    have hy : yielded ops b.tmps g = yielded ops a.tmps g := by
      unfold yielded
      cases ht : (ops[g]?).bind (·.dst) with
      | none => rfl
      | some s =>
        have := h s (by simp [Oper.looksAt, hg, ht])
        simp only [Option.bind_some, this]
    simp only [hy]

theorem quietRun_of_exec {o : Oper} {b a : Act} {w : World} {v : Value} (he : execOp b.eval o = execOp a.eval o) : quietRun P o b w v ↔ quietRun P o a w v := by
  unfold quietRun; rw [he]
theorem Gives_of_exec {o : Oper} {b a : Act} {w : World} {R : Value → World → Prop} (he : execOp b.eval o = execOp a.eval o) : Gives P o b w R ↔ Gives P o a w R := by
  unfold Gives; rw [he]

theorem put_get {a : Act} {d s : Nat} {v : Value} : (a.put (some d) v).tmps[s]? = if d = s then (if d < a.tmps.size then some v else none) else a.tmps[s]? := by
  simp only [Act.put, Array.getElem?_setIfInBounds]
theorem put_size {a : Act} {d : Option Tmp} {v : Value} : (a.put d v).tmps.size = a.tmps.size := by
  cases d <;> simp [Act.put]
theorem put_defs {a : Act} {d : Option Tmp} {v : Value} : (a.put d v).defers = a.defers := by
  cases d <;> simp [Act.put]

theorem slotOf_put {a : Act} {i : Nat} {o : Oper} {d : Nat} {v : Value} (ho : ops[i]? = some o) (hd : o.dst = some d) (hlt : d < a.tmps.size) (h : a.put o.dst v = a) : slotOf ops a i = v := by
  unfold slotOf
  simp only [ho, Option.bind_some, hd]
  rw [← h, hd]
  simp [Act.put, hlt]

/-- What is known at an operation follows from the record. -/
theorem Cl.ctx {N : Nat} {a0 : Act} {listed : Array Bool} {a b : Act} {w : World} (hok : HeadOk ops N) (hsl : slotsIn ops N a0.tmps.size = true) (hrel : ∀ j p hp, spOf t j = .rel p hp → ∃ o, ops[j]? = some o ∧ o.dst ≠ none)
    (c : Cl P ops t w1 N a0 listed a w) {k : Nat} (hag : Agree ops N listed k b a) {j : Nat} (hjN : j < N) (hjl : listed.getD j false = true) (hjk : j < k) {p hp} (hs : spOf t j = .rel p hp) (hw : wantedAt ops b j = true) :
    p (slotOf ops b j) w := by
  obtain ⟨o, ho, hdn⟩ := hrel j p hp hs
  obtain ⟨v, hv, hrec⟩ := c.recs j o ho hjl
  have hsee := hag.sees hok hjN ho (fun m hm => ⟨c.closed j m hjl hm, by have := hok.lt j m hm; omega⟩)
  have hwa : wantedAt ops a j = true := by
    unfold wantedAt at hw ⊢; simp only [ho] at hw ⊢; rw [← wanted_of_sees hsee]; exact hw
  rw [if_pos hwa] at hrec
  simp only [hs] at hrec
  obtain ⟨d, hd⟩ := Option.ne_none_iff_exists'.1 hdn
  have hlt : d < a.tmps.size := by
    have := List.all_eq_true.1 hsl j (List.mem_range.2 hjN)
    simp only [ho, Option.bind_some, hd, decide_eq_true_eq] at this
    rw [c.tsize]; exact this
  have hlt' : d < b.tmps.size := by rw [hag.size]; exact hlt
  have e1 : slotOf ops a j = v := slotOf_put ho hd hlt hv
  have e2 : slotOf ops b j = slotOf ops a j := by
    unfold slotOf
    simp only [ho, Option.bind_some, hd, Array.getD_eq_getD_getElem?]
    rw [hag.slots d (fun m om hm hom hdm => by
      by_cases hmj : m = j
      · subst hmj; exact ⟨hjl, hjk⟩
      · exact absurd hd (hok.apart j o m om d hjN hm ho hom hdm (fun e => hmj e.symm)))]
  rw [e2, e1]; exact hrec

/-- One step of the walk along the record. -/
theorem reach_step {N : Nat} {a0 : Act} {listed : Array Bool} {a b : Act} {w : World} (hok : HeadOk ops N) (hsl : slotsIn ops N a0.tmps.size = true) (hrel : ∀ j p hp, spOf t j = .rel p hp → ∃ o, ops[j]? = some o ∧ o.dst ≠ none)
    (hG : ∀ w, G w w) (c : Cl P ops t w1 N a0 listed a w) {k : Nat} {o : Oper} {rest : List Oper} (hk : k < N) (ho : ops[k]? = some o)
    (hag : Agree ops N listed k b a) (hD : Der P ops t w1 N Q (o :: rest) k b) : ∃ b', Agree ops N listed (k + 1) b' a ∧ Der P ops t w1 N Q rest (k + 1) b' := by
  -- whatever is put where nothing has come yet
  have unl : listed.getD k false = false → ∀ v, Agree ops N listed (k + 1) (b.put o.dst v) a := by
    intro hl v
    refine ⟨fun s hs => ?_, by rw [put_size]; exact hag.size, by rw [put_defs]; exact hag.defers⟩
    have hne : o.dst ≠ some s := fun e => by
      have := (hs k o hk ho e).1; rw [hl] at this; cases this
    have hb : (b.put o.dst v).tmps[s]? = b.tmps[s]? := by
      cases hd : o.dst with
      | none => rfl
      | some d => rw [put_get, if_neg (fun e => hne (by rw [hd, e]))]
    rw [hb]
    exact hag.slots s fun j oj hj hoj hd => by
      obtain ⟨h1, h2⟩ := hs j oj hj hoj hd
      refine ⟨h1, ?_⟩
      by_cases hjk : j = k
      · subst hjk; rw [hl] at h1; cases h1
      · omega
  -- what has come is put anew
  have lis : listed.getD k false = true → ∀ v, a.put o.dst v = a → Agree ops N listed (k + 1) (b.put o.dst v) a := by
    intro hl v hv
    refine ⟨fun s hs => ?_, by rw [put_size]; exact hag.size, by rw [put_defs]; exact hag.defers⟩
    cases hd : o.dst with
    | none =>
      exact hag.slots s fun j oj hj hoj hdj => by
        obtain ⟨h1, h2⟩ := hs j oj hj hoj hdj
        refine ⟨h1, ?_⟩
        by_cases hjk : j = k
        · subst hjk; have : oj = o := Option.some.inj (hoj.symm.trans ho); subst this; rw [hd] at hdj; cases hdj
        · omega
    | some d =>
      by_cases hds : d = s
      · subst hds
        rw [put_get, if_pos rfl]
        have : (a.put (some d) v).tmps[d]? = a.tmps[d]? := by rw [hd] at hv; rw [hv]
        rw [put_get, if_pos rfl] at this
        rw [hag.size]; exact this
      · rw [put_get, if_neg hds]
        exact hag.slots s fun j oj hj hoj hdj => by
          obtain ⟨h1, h2⟩ := hs j oj hj hoj hdj
          refine ⟨h1, ?_⟩
          by_cases hjk : j = k
          · subst hjk; have : oj = o := Option.some.inj (hoj.symm.trans ho); subst this; rw [hd] at hdj; exact absurd (Option.some.inj hdj) hds
          · omega
  have hsel := fun cs cc => Region.noSelect_spec hok.sel k o cs cc ho
  unfold Der at hD
  cases hl : listed.getD k false with
  | true =>
    obtain ⟨v, hv, hrec⟩ := c.recs k o ho hl
    have hdl : ∀ j, dep ops k j = true → listed.getD j false = true ∧ j < k := fun j hj => ⟨c.closed k j hl hj, hok.lt k j hj⟩
    have hsee := hag.sees hok hk ho hdl
    have hwe : Region.wanted o (yielded ops b.tmps) = wantedAt ops a k := by unfold wantedAt; simp only [ho]; exact wanted_of_sees hsee
    have hctx : ctxAt ops t k b w := fun j p hp hd hs hw => c.ctx hok hsl hrel hag (by have := (hdl j hd).2; omega) (hdl j hd).1 (hdl j hd).2 hs hw
    rw [hwe] at hD
    by_cases hw : wantedAt ops a k = true
    · rw [if_pos hw] at hD hrec
      cases hs : spOf t k with
      | quiet =>
        simp only [hs, Clause] at hD hrec
        obtain ⟨v', hr, hn⟩ := hD
        have h1 := (quietRun_of_exec (exec_of_sees hsel hsee)).1 (hr w c.grown hctx)
        have h2 := hrec w (hG w)
        have : v' = v := h1.unique h2
        subst this
        exact ⟨_, lis hl _ hv, hn⟩
      | val u =>
        simp only [hs, Clause] at hD hrec
        subst hrec
        exact ⟨_, lis hl _ hv, hD.2⟩
      | rel p hp =>
        simp only [hs, Clause] at hD
        exact ⟨_, lis hl _ hv, hD.2 v⟩
    · rw [if_neg hw] at hD hrec
      subst hrec
      exact ⟨_, lis hl _ hv, hD⟩
  | false =>
    split at hD
    · cases hs : spOf t k with
      | quiet => simp only [hs, Clause] at hD; obtain ⟨v', _, hn⟩ := hD; exact ⟨_, unl hl _, hn⟩
      | val u => simp only [hs, Clause] at hD; exact ⟨_, unl hl _, hD.2⟩
      | rel p hp => simp only [hs, Clause] at hD; exact ⟨_, unl hl _, hD.2 undef⟩
    · exact ⟨_, unl hl _, hD⟩

theorem reach {N : Nat} {a0 : Act} {listed : Array Bool} {a : Act} {w : World} (hok : HeadOk ops N) (hsl : slotsIn ops N a0.tmps.size = true) (hrel : ∀ j p hp, spOf t j = .rel p hp → ∃ o, ops[j]? = some o ∧ o.dst ≠ none)
    (hG : ∀ w, G w w) (c : Cl P ops t w1 N a0 listed a w) : ∀ (l : List Oper) (k : Nat) (b : Act), (∀ j, j < l.length → l[j]? = ops[k + j]?) → k + l.length = N → Agree ops N listed k b a → Der P ops t w1 N Q l k b →
    ∀ i, k ≤ i → i ≤ N → ∃ b', Agree ops N listed i b' a ∧ Der P ops t w1 N Q (l.drop (i - k)) i b'
  | [], k, b, _, hk, hag, hD, i, hki, hiN => by
    have : i = k := by simp at hk; omega
    subst this
    exact ⟨b, hag, by simpa using hD⟩
  | o :: l, k, b, hl, hk, hag, hD, i, hki, hiN => by
    by_cases hik : i = k
    · subst hik; exact ⟨b, hag, by simpa using hD⟩
    · have h0 : ops[k]? = some o := by simpa using (hl 0 (by simp)).symm
      obtain ⟨b', hag', hD'⟩ := reach_step hok hsl hrel hG c (by simp at hk; omega) h0 hag hD
      obtain ⟨b2, h1, h2⟩ := reach hok hsl hrel hG c l (k + 1) b' (fun j hj => by have := hl (j + 1) (by simp; omega); simpa [Nat.add_assoc, Nat.add_comm 1 j] using this) (by simp at hk ⊢; omega) hag' hD' i (by omega) hiN
      refine ⟨b2, h1, ?_⟩
      have : (o :: l).drop (i - k) = l.drop (i - (k + 1)) := by
        rw [show i - k = (i - (k + 1)) + 1 by omega]; rfl
      rw [this]; exact h2

def unl (listed : Array Bool) : Nat := listed.toList.countP (· == false)
theorem unl_set {listed : Array Bool} {i : Nat} (h : listed.getD i true = false) : unl (listed.setIfInBounds i true) + 1 = unl listed := by
  have hi : i < listed.size := by
    rcases Nat.lt_or_ge i listed.size with h' | h'
    · exact h'
    · simp [Array.getElem?_eq_none h'] at h
  have hv : listed.toList[i]'(by simpa using hi) = false := by
    simp [hi] at h; simpa using h
  unfold unl
  rw [Array.toList_setIfInBounds]
  have key : ∀ (l : List Bool) (i : Nat) (hi : i < l.length), l[i] = false → (l.set i true).countP (· == false) + 1 = l.countP (· == false) := by
    intro l
    induction l with
    | nil => intro i hi; simp at hi
    | cons x l ihl =>
      intro i hi hx
      cases i with
      | zero => have : x = false := by simpa using hx
                subst this; simp
      | succ i =>
        have := ihl i (by simpa using hi) (by simpa using hx)
        rw [List.set_cons_succ, List.countP_cons, List.countP_cons]; omega
  exact key _ _ (by simpa using hi) hv
theorem unl_zero {listed : Array Bool} (h : unl listed = 0) (i : Nat) : listed.getD i true = true := by
  rcases Nat.lt_or_ge i listed.size with h' | h'
  · unfold unl at h
    have := List.countP_eq_zero.1 h (listed.toList[i]'(by simpa using h')) (List.getElem_mem _)
    simp [h'] at this ⊢
    exact this
  · simp [Array.getElem?_eq_none h']

theorem getD_agree {listed : Array Bool} {i : Nat} (h : i < listed.size) : listed.getD i true = listed.getD i false := by simp [h]

/-- The tail: one order alone. -/
theorem wpAny_tail {N : Nat} {Q' : Exit → Act → World → Prop} (hok : HeadOk ops N) : ∀ (l : List Oper) (k : Nat) (listed : Array Bool) (a : Act) (w : World), N ≤ k → (∀ j, l[j]? = ops[k + j]?) → listed.size = ops.size →
    (∀ j, j < ops.size → (listed.getD j false = true ↔ j < k)) → wpList P ops Q' l a w → wpAny P .any ops Q' l.length listed a w
  | [], k, listed, a, w, _, hl, hs, hli, h => by
    refine ⟨?_, h⟩
    by_cases hr : Region.ready .any ops listed = []
    · exact hr
    · obtain ⟨i, hi⟩ := List.exists_mem_of_ne_nil _ hr
      obtain ⟨hu, o, ho, _⟩ := mem_ready.1 hi
      have his : i < ops.size := (Array.getElem?_eq_some_iff.1 ho).1
      have hlt : ops.size ≤ k := by have := hl 0; simp at this; omega
      rw [getD_agree (by omega), (hli i his).2 (by omega)] at hu
      cases hu
  | o :: l, k, listed, a, w, hNk, hl, hs, hli, h => by
    have h0 : ops[k]? = some o := by simpa using (hl 0).symm
    have hks : k < ops.size := (Array.getElem?_eq_some_iff.1 h0).1
    have only : ∀ i, i ∈ Region.ready .any ops listed → i = k := by
      intro i hi
      obtain ⟨hu, oi, hoi, hall⟩ := mem_ready.1 hi
      have his : i < ops.size := (Array.getElem?_eq_some_iff.1 hoi).1
      have hge : k ≤ i := by
        rcases Nat.lt_or_ge i k with h' | h'
        · rw [getD_agree (by omega), (hli i his).2 h'] at hu; cases hu
        · exact h'
      by_cases hik : i = k
      · exact hik
      · obtain ⟨e, he, hb, hon⟩ := (dep_iff hoi).1 (hok.chain i (by omega) his)
        have h1 := hall e he hb
        rw [hon, hli (i - 1) (by omega)] at h1
        omega
    have hmem : k ∈ Region.ready .any ops listed := mem_ready.2 ⟨by
        rw [getD_agree (by omega)]
        cases hx : listed.getD k false with
        | false => rfl
        | true => have := (hli k hks).1 hx; omega, o, h0, fun e he hb => (hli e.on (by
          have := hok.lt k e.on ((dep_iff h0).2 ⟨e, he, hb, rfl⟩); omega)).2 (hok.lt k e.on ((dep_iff h0).2 ⟨e, he, hb, rfl⟩))⟩
    refine ⟨fun h1 => (by rw [h1] at hmem; cases hmem), fun i hi => ?_⟩
    obtain rfl := only i hi
    have hw : wpOp P ops Q' i (wpList P ops Q' l) a w := by unfold wpOp; simp only [h0]; exact h
    refine wpOp_mono (fun a' w' h' => wpAny_tail hok l (i + 1) _ a' w' (by omega) (fun j => by have := hl (j + 1); simpa [Nat.add_assoc, Nat.add_comm 1 j] using this) (by simpa using hs) (fun j hj => ?_) h') hw
    by_cases hji : i = j
    · subst hji; simp [hs, hks]
    · rw [getD_set_ne false hji, hli j hj]; omega

theorem G_ctx {k : Nat} {a : Act} {w w' : World} (h : ctxAt ops t k a w) (hg : G w w') : ctxAt ops t k a w' := fun j p hp hd hs hw => hp _ _ _ (h j p hp hd hs hw) hg

theorem wpAny_grow {N : Nat} {a0 : Act} {Q' : Exit → Act → World → Prop} (hok : HeadOk ops N) (hsl : slotsIn ops N a0.tmps.size = true) (hrel : ∀ j p hp, spOf t j = .rel p hp → ∃ o, ops[j]? = some o ∧ o.dst ≠ none)
    (hG : ∀ w, G w w) (hT : ∀ a b c, G a b → G b c → G a c)
    (hD : Der P ops t w1 N (fun a' w' => wpList P ops Q' (ops.toList.drop N) a' w') (ops.toList.take N) 0 a0) :
    ∀ (fuel : Nat) (listed : Array Bool) (a : Act) (w : World), unl listed = fuel → Cl P ops t w1 N a0 listed a w → wpAny P .any ops Q' fuel listed a w := by
  have hlen : (ops.toList.take N).length = N := by have := hok.le; simp; omega
  have hget : ∀ j, j < (ops.toList.take N).length → (ops.toList.take N)[j]? = ops[0 + j]? := fun j hj => by
    rw [hlen] at hj; simp [hj]
  -- all of the head has come: the tail
  have fin : ∀ (listed : Array Bool) (a : Act) (w : World), Cl P ops t w1 N a0 listed a w → (∀ j, j < N → listed.getD j false = true) → wpAny P .any ops Q' (ops.size - N) listed a w := by
    intro listed a w c hall
    have hag0 : Agree ops N listed 0 a0 a := ⟨fun s hs => (c.off s fun j o hj ho hd => absurd (hs j o hj ho hd).2 (by omega)).symm, c.tsize.symm, c.defers.symm⟩
    obtain ⟨b, hag, hDb⟩ := reach hok hsl hrel hG c _ 0 a0 hget (by rw [hlen]; omega) hag0 hD N (by omega) (Nat.le_refl _)
    have hnil : (ops.toList.take N).drop (N - 0) = [] := by simp
    rw [hnil] at hDb
    have hba : b = a := by
      have h1 : b.tmps = a.tmps := Array.ext_getElem? fun s => hag.slots s fun j o hj ho hd => ⟨hall j hj, hj⟩
      have h2 := hag.defers
      cases a; cases b; simp_all
    subst hba
    have hq := hDb w c.grown fun j p hp hj hs hw => c.ctx hok hsl hrel hag hj (hall j hj) hj hs hw
    have := wpAny_tail (P := P) (Q' := Q') hok (ops.toList.drop N) N listed b w (Nat.le_refl _) (fun j => by simp) c.size (fun j hj => ⟨(fun hl => by
      rcases Nat.lt_or_ge j N with h | h
      · exact h
      · rw [c.head j h] at hl; cases hl), hall j⟩) hq
    simpa using this
  intro fuel
  induction fuel with
  | zero =>
    intro listed a w hu c
    have hall : ∀ j, j < ops.size → listed.getD j false = true := fun j hj => by rw [← getD_agree (by rw [c.size]; exact hj)]; exact unl_zero hu j
    have hNs : N = ops.size := by
      rcases Nat.lt_or_ge N ops.size with h | h
      · have := c.head N (Nat.le_refl _); rw [hall N h] at this; cases this
      · have := hok.le; omega
    have := fin listed a w c (fun j hj => hall j (by omega))
    rw [show ops.size - N = 0 by omega] at this
    exact this
  | succ fuel ih =>
    intro listed a w hu c
    by_cases hall : ∀ j, j < N → listed.getD j false = true
    · have h1 := fin listed a w c hall
      have hcount : fuel + 1 = ops.size - N := by
        rw [← hu]
        have key : ∀ (l : List Bool) (n : Nat), n ≤ l.length → (∀ j, j < n → l[j]? = some true) → (∀ j, n ≤ j → j < l.length → l[j]? = some false) → l.countP (· == false) = l.length - n := by
          intro l
          induction l with
          | nil => intro n _ _ _; simp
          | cons x l ihl =>
            intro n hn h1 h2
            cases n with
            | zero =>
              have hx : x = false := by simpa using h2 0 (by omega) (by simp)
              have := ihl 0 (by omega) (fun j hj => by omega) (fun j _ hj => by simpa using h2 (j + 1) (by omega) (by simp; omega))
              subst hx
              rw [List.countP_cons, this]; simp
            | succ n =>
              have hx : x = true := by simpa using h1 0 (by omega)
              have := ihl n (by simp at hn; omega) (fun j hj => by simpa using h1 (j + 1) (by omega)) (fun j hj hj' => by simpa using h2 (j + 1) (by omega) (by simp; omega))
              subst hx
              rw [List.countP_cons, this]; simp
        have hk := key listed.toList N (by simp [c.size]; exact hok.le) (fun j hj => by
          have := hall j hj
          have hjs : j < listed.size := by rw [c.size]; have := hok.le; omega
          simp [hjs] at this ⊢; exact this) (fun j hj hj' => by
          have := c.head j hj
          have hjs : j < listed.size := by simpa using hj'
          simp [hjs] at this ⊢; exact this)
        unfold unl; rw [hk]; simp [c.size]
      rw [hcount]; exact h1
    · have hun : ∃ j, j < N ∧ listed.getD j false = false := by
        refine Classical.byContradiction fun hno => hall fun j hj => ?_
        cases hx : listed.getD j false with
        | true => rfl
        | false => exact absurd ⟨j, hj, hx⟩ hno
      -- somebody of the head is ready, nobody of the tail
      have tailNot : ∀ i, i ∈ Region.ready .any ops listed → i < N := by
        intro i hi
        obtain ⟨_, o, ho, hedges⟩ := mem_ready.1 hi
        have his : i < ops.size := (Array.getElem?_eq_some_iff.1 ho).1
        rcases Nat.lt_or_ge i N with h | h
        · exact h
        · have hdeps : ∀ j, dep ops i j = true → listed.getD j false = true := fun j hj => by
            obtain ⟨e, he, hb, hon⟩ := (dep_iff ho).1 hj
            rw [← hon]; exact hedges e he hb
          by_cases hiN : i = N
          · subst hiN
            exfalso
            have all : ∀ d j, i - j = d → j < i → listed.getD j false = true := by
              intro d
              induction d using Nat.strongRecOn with
              | _ d ihd =>
                intro j hd hj
                obtain ⟨m, hm1, hm2, hm3⟩ := hok.sink his j hj
                by_cases hmi : m = i
                · subst hmi; exact hdeps j hm3
                · exact c.closed m j (ihd (i - m) (by omega) m rfl (by omega)) hm3
            obtain ⟨j, hj, hjf⟩ := hun
            rw [all _ j rfl hj] at hjf; cases hjf
          · have := hdeps _ (hok.chain i (by omega) his)
            rw [c.head (i - 1) (by omega)] at this; cases this
      have some_ready : Region.ready .any ops listed ≠ [] := by
        obtain ⟨j, hj, hjf⟩ := hun
        have : ∀ n j, j ≤ n → j < N → listed.getD j false = false → Region.ready .any ops listed ≠ [] := by
          intro n
          induction n with
          | zero =>
            intro j hj0 hjN hjf hempty
            obtain rfl : j = 0 := by omega
            have hs0 : 0 < ops.size := by have := hok.le; omega
            have : 0 ∈ Region.ready .any ops listed := mem_ready.2 ⟨by rw [getD_agree (by rw [c.size]; exact hs0)]; exact hjf, ops[0], by simp [hs0], fun e he hb => by
              have := hok.lt 0 e.on ((dep_iff (by simp [hs0])).2 ⟨e, he, hb, rfl⟩); omega⟩
            rw [hempty] at this; cases this
          | succ n ihn =>
            intro j hjn hjN hjf hempty
            have hjs : j < ops.size := by have := hok.le; omega
            by_cases hex : ∃ e ∈ ops[j].after, Region.binds .any e = true ∧ listed.getD e.on false = false
            · obtain ⟨e, he, hb, hef⟩ := hex
              have hlt := hok.lt j e.on ((dep_iff (i := j) (o := ops[j]) (by simp [hjs])).2 ⟨e, he, hb, rfl⟩)
              exact ihn e.on (by omega) (by omega) hef hempty
            · have : j ∈ Region.ready .any ops listed := mem_ready.2 ⟨by rw [getD_agree (by rw [c.size]; exact hjs)]; exact hjf, ops[j], by simp [hjs], fun e he hb => by
                cases hx : listed.getD e.on false with
                | true => rfl
                | false => exact absurd ⟨e, he, hb, hx⟩ hex⟩
              rw [hempty] at this; cases this
        exact this j j (Nat.le_refl _) hj hjf
      refine ⟨fun h => absurd h some_ready, fun i hi => ?_⟩
      have hiN := tailNot i hi
      obtain ⟨hiu, o, ho, hedges⟩ := mem_ready.1 hi
      have his : i < ops.size := (Array.getElem?_eq_some_iff.1 ho).1
      have hil : listed.getD i false = false := by rw [← getD_agree (by rw [c.size]; exact his)]; exact hiu
      have hdl : ∀ j, dep ops i j = true → listed.getD j false = true ∧ j < i := fun j hj => by
        obtain ⟨e, he, hb, hon⟩ := (dep_iff ho).1 hj
        exact ⟨by rw [← hon]; exact hedges e he hb, hok.lt i j hj⟩
      have hag0 : Agree ops N listed 0 a0 a := ⟨fun s hs => (c.off s fun j oj hj hoj hd => absurd (hs j oj hj hoj hd).2 (by omega)).symm, c.tsize.symm, c.defers.symm⟩
      obtain ⟨b, hag, hDb⟩ := reach hok hsl hrel hG c _ 0 a0 hget (by rw [hlen]; omega) hag0 hD i (by omega) (by omega)
      have hdrop : (ops.toList.take N).drop (i - 0) = o :: (ops.toList.take N).drop (i + 1) := by
        have hi' : i < (ops.toList.take N).length := by rw [hlen]; exact hiN
        rw [Nat.sub_zero, List.drop_eq_getElem_cons hi']
        congr 1
        have := hget i hi'
        rw [List.getElem?_eq_getElem hi', Nat.zero_add, ho] at this
        exact Option.some.inj this
      rw [hdrop] at hDb
      have hsee := hag.sees hok hiN ho hdl
      have hsel := fun cs cc => Region.noSelect_spec hok.sel i o cs cc ho
      have hexec := exec_of_sees hsel hsee
      have hwant : Region.wanted o (yielded ops b.tmps) = Region.wanted o (yielded ops a.tmps) := wanted_of_sees hsee
      have hctx : ctxAt ops t i b w := fun j p hp hd hs hw => c.ctx hok hsl hrel hag (by have := (hdl j hd).2; omega) (hdl j hd).1 (hdl j hd).2 hs hw
      -- the record behind the step
      have step : ∀ (v : Value) (w' : World), G w w' → (if wantedAt ops a i then (match spOf t i with | .quiet => ∀ w'', G w' w'' → quietRun P o a w'' v | .val u => v = u | .rel p _ => p v w') else v = undef) →
          wpAny P .any ops Q' fuel (listed.setIfInBounds i true) (a.put o.dst v) w' := by
        intro v w' hg hrec
        have hself : ∀ j oj, j < N → ops[j]? = some oj → (j = i ∨ listed.getD j false = true) → ∀ s, s ∈ oj.looksAt ops → (a.put o.dst v).tmps[s]? = a.tmps[s]? := by
          intro j oj hj hoj hjl s hs
          cases hd : o.dst with
          | none => rfl
          | some d =>
            rw [put_get, if_neg]
            intro hds
            subst hds
            have := hok.looks j oj i o d hj hiN hoj ho hd hs
            rcases hjl with rfl | hjl
            · have := hok.lt j j this; omega
            · have := c.closed j i hjl this; rw [hil] at this; cases this
        refine ih _ _ _ (by have := unl_set hiu; omega) ⟨by simpa using c.size, hT _ _ _ c.grown hg, ?_, ?_, ?_, by rw [put_size]; exact c.tsize, by rw [put_defs]; exact c.defers, ?_⟩
        · intro j hj; rw [getD_set_ne false (by omega)]; exact c.head j hj
        · intro j m hj hm
          by_cases hji : i = j
          · subst hji; exact getD_set_true (hdl m hm).1
          · rw [getD_set_ne false hji] at hj; exact getD_set_true (c.closed j m hj hm)
        · intro s hs
          have : (a.put o.dst v).tmps[s]? = a.tmps[s]? := by
            cases hd : o.dst with
            | none => rfl
            | some d => rw [put_get, if_neg]; intro hds; exact hs i o hiN ho (by rw [hd, hds])
          rw [this]; exact c.off s hs
        · intro j oj hoj hj
          by_cases hji : i = j
          · subst hji
            have : oj = o := Option.some.inj (hoj.symm.trans ho)
            subst this
            have hs := hself i oj hiN ho (Or.inl rfl)
            have hw : wantedAt ops (a.put oj.dst v) i = wantedAt ops a i := by unfold wantedAt; simp only [ho]; exact wanted_of_sees hs
            refine ⟨v, ?_, ?_⟩
            · cases hd : oj.dst <;> simp [Act.put]
            · rw [hw]
              split
              · rename_i hwt
                rw [if_pos hwt] at hrec
                cases hsp : spOf t i with
                | quiet => simp only [hsp] at hrec ⊢; exact fun w'' hg'' => (quietRun_of_exec (exec_of_sees hsel hs)).2 (hrec w'' hg'')
                | val u => simp only [hsp] at hrec ⊢; exact hrec
                | rel p hp => simp only [hsp] at hrec ⊢; exact hrec
              · rename_i hwt; rw [if_neg hwt] at hrec; exact hrec
          · rw [getD_set_ne false hji] at hj
            have hjN : j < N := by
              rcases Nat.lt_or_ge j N with h | h
              · exact h
              · rw [c.head j h] at hj; cases hj
            obtain ⟨u, hu1, hu2⟩ := c.recs j oj hoj hj
            have hs := hself j oj hjN hoj (Or.inr hj)
            have hselj := fun cs cc => Region.noSelect_spec hok.sel j oj cs cc hoj
            have hw : wantedAt ops (a.put o.dst v) j = wantedAt ops a j := by unfold wantedAt; simp only [hoj]; exact wanted_of_sees hs
            refine ⟨u, ?_, ?_⟩
            · rw [Act.put_comm _ _ _ (fun d hd hdj => hok.apart j oj i o d hjN hiN hoj ho hd (fun e => hji e.symm) hdj), hu1]
            · rw [hw]
              split
              · rename_i hwt
                rw [if_pos hwt] at hu2
                cases hsp : spOf t j with
                | quiet => simp only [hsp] at hu2 ⊢; exact fun w'' hg'' => (quietRun_of_exec (exec_of_sees hselj hs)).2 (hu2 w'' (hT _ _ _ hg hg''))
                | val x => simp only [hsp] at hu2 ⊢; exact hu2
                | rel p hp => simp only [hsp] at hu2 ⊢; exact hp _ _ _ hu2 hg
              · rename_i hwt; rw [if_neg hwt] at hu2; exact hu2
      unfold wpOp
      simp only [ho]
      unfold Der at hDb
      rw [hwant] at hDb
      have hwa : wantedAt ops a i = Region.wanted o (yielded ops a.tmps) := by unfold wantedAt; simp only [ho]
      by_cases hw : Region.wanted o (yielded ops a.tmps) = true
      · rw [if_pos hw] at hDb ⊢
        refine .inl ?_
        cases hsp : spOf t i with
        | quiet =>
          simp only [hsp, Clause] at hDb
          obtain ⟨v, hr, _⟩ := hDb
          refine ((quietRun_of_exec hexec).1 (hr w c.grown hctx)).wp (step v w (hG w) ?_)
          rw [if_pos (by rw [hwa]; exact hw)]
          simp only [hsp]
          exact fun w'' hg => (quietRun_of_exec hexec).1 (hr w'' (hT _ _ _ c.grown hg) (G_ctx hctx hg))
        | val u =>
          simp only [hsp, Clause] at hDb
          refine ((Gives_of_exec hexec).1 (hDb.1 w c.grown hctx)).wp fun v w' ⟨hv, hg⟩ => step v w' hg ?_
          rw [if_pos (by rw [hwa]; exact hw)]
          simp only [hsp]
          exact hv
        | rel p hp =>
          simp only [hsp, Clause] at hDb
          refine ((Gives_of_exec hexec).1 (hDb.1 w c.grown hctx)).wp fun v w' ⟨hv, hg⟩ => step v w' hg ?_
          rw [if_pos (by rw [hwa]; exact hw)]
          simp only [hsp]
          exact hv
      · rw [if_neg hw]
        exact step undef w (hG w) (by rw [if_neg (by rw [hwa]; exact hw)])

end

/-- The worlds that have grown from another one: what was there is as it was. -/
def Gr (w w' : World) : Prop := Below w.heap.size w w'
theorem Gr.refl (w : World) : Gr w w := Below.refl _ _
theorem Gr.trans {a b c : World} (h : Gr a b) (k : Gr b c) : Gr a c := Below.trans h (Below.mono k h.size)

def relHasDst {G : World → World → Prop} (ops : Array Oper) : List (Nat × Sp G) → Bool
  | [] => true
  | (j, .rel _ _) :: t => (match ops[j]? with | some o => o.dst.isSome | none => false) && relHasDst ops t
  | _ :: t => relHasDst ops t
theorem relHasDst_spec {G : World → World → Prop} {ops : Array Oper} : ∀ {t : List (Nat × Sp G)}, relHasDst ops t = true → ∀ j p hp, spOf t j = .rel p hp → ∃ o, ops[j]? = some o ∧ o.dst ≠ none
  | [], _, j, p, hp, hs => by simp [spOf] at hs
  | (i, s) :: t, h, j, p, hp, hs => by
    unfold spOf at hs
    by_cases hij : i = j
    · subst hij
      rw [if_pos rfl] at hs
      subst hs
      simp only [relHasDst, Bool.and_eq_true] at h
      cases ho : ops[i]? with
      | none => simp [ho] at h
      | some o => simp only [ho] at h; exact ⟨o, rfl, by intro e; rw [e] at h; simp at h⟩
    · rw [if_neg hij] at hs
      cases s <;> simp only [relHasDst, Bool.and_eq_true] at h
      · exact relHasDst_spec h j p hp hs
      · exact relHasDst_spec h j p hp hs
      · exact relHasDst_spec h.2 j p hp hs

theorem wp_grow {P : Program} {id : Nat} {Q : Exit → Act → World → Prop} {a : Act} {w : World} {l : List Oper} (t : List (Nat × Sp Gr)) (N : Nat) (hm : P.follows .mixedOrders = true) (hB : headOk l.toArray N = true)
    (hsl : slotsIn l.toArray N a.tmps.size = true) (hrel : relHasDst l.toArray t = true)
    (h : Der P l.toArray t w.drew N (fun a' w' => wpList P l.toArray Q (l.drop N) a' w') (l.take N) 0 a) : (Code.region id l.toArray true).wp P Q a w := by
  refine wp_region_any hm ?_
  have hok := headOk_spec hB
  refine wpAny_grow (P := P) (w1 := w.drew) (a0 := a) (t := t) hok hsl (relHasDst_spec hrel) Gr.refl (fun _ _ _ => Gr.trans) (by simpa using h) _ _ _ _ ?_ ?_
  · unfold unl; simp [List.countP_replicate]
  · refine ⟨by simp, Gr.refl _, fun i _ => getD_replicate_false _ _, fun i j hi _ => ?_, fun _ _ => rfl, rfl, rfl, fun i o _ hi => ?_⟩
    · rw [getD_replicate_false] at hi; cases hi
    · rw [getD_replicate_false] at hi; cases hi
end Go.Proofs.YtkekidjjmcmjhaaGreat
