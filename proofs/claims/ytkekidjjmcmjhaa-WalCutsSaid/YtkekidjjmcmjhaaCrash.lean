/- The contract of Crash. -/
import Derived.Test.YtkekidjjmcmjhaaPend
import Derived.Test.YtkekidjjmcmjhaaCalm
namespace Go.Proofs.Ytkekidjjmcmjhaa
open Go.RowKit Go.Shelf
set_option maxRecDepth 100000
attribute [local irreducible] Der
attribute [local go_sem] Oper.semAt_some

/-- What is known behind some pieces: how many, which files are cut off, where they end. -/
structure Cr where
  at_ : Nat
  cut : Int → Option Bool
  ends : Int → Option Int
def updO {α : Type} (f : Int → Option α) (x : Int) (v : α) : Int → Option α := fun y => if y = x then some v else f y
theorem upd_map {α : Type} (g : α → Value) (f : Int → Option α) (x : Int) (v : α) : upd (fun y => (f y).map g) x (some (g v)) = fun y => (updO f x v y).map g := by
  funext y
  unfold upd updO
  split <;> rfl
def cutB (keep : List Bool) (c : Cr) (p : Pc) : Bool := (c.cut (p.1.val : Int)).getD false || decide (keep.length ≤ c.at_) || !(keep.getD c.at_ false)
def crStep (keep : List Bool) (c : Cr) (p : Pc) : Cr := ⟨c.at_ + 1, updO c.cut (p.1.val : Int) (cutB keep c p), if cutB keep c p then c.ends else updO c.ends (p.1.val : Int) (p.2.val : Int)⟩
def crK (keep : List Bool) (l : List Pc) : Cr := l.foldl (crStep keep) ⟨0, fun _ => none, fun _ => none⟩
theorem crK_snoc (keep : List Bool) (l : List Pc) (p : Pc) : crK keep (l ++ [p]) = crStep keep (crK keep l) p := by unfold crK; rw [List.foldl_append]; rfl
theorem crK_at (keep : List Bool) (l : List Pc) : (crK keep l).at_ = l.length := by
  suffices h : ∀ (l : List Pc) (c : Cr), (l.foldl (crStep keep) c).at_ = c.at_ + l.length by
    have := h l ⟨0, fun _ => none, fun _ => none⟩
    unfold crK; rw [this]; simp
  intro l
  induction l with
  | nil => intro c; rfl
  | cons x l ih => intro c; rw [List.foldl_cons, ih]; unfold crStep; simp; omega
theorem crK_ends (keep : List Bool) : ∀ (l : List Pc) (x e : Int), (crK keep l).ends x = some e → ∃ p ∈ l, (p.1.val : Int) = x ∧ (p.2.val : Int) = e := by
  suffices h : ∀ (l : List Pc) (c : Cr) (x e : Int), (l.foldl (crStep keep) c).ends x = some e → c.ends x = some e ∨ ∃ p ∈ l, (p.1.val : Int) = x ∧ (p.2.val : Int) = e by
    intro l x e he
    rcases h l _ x e he with h1 | h1
    · cases h1
    · exact h1
  intro l
  induction l with
  | nil => intro c x e he; exact .inl he
  | cons p l ih =>
    intro c x e he
    rcases ih _ x e he with h1 | ⟨q, hq, h1⟩
    · unfold crStep at h1
      simp only at h1
      split at h1
      · exact .inl h1
      · unfold updO at h1
        split at h1
        · rename_i hx
          cases h1
          exact .inr ⟨p, by simp, hx.symm, rfl⟩
        · exact .inl h1
    · exact .inr ⟨q, by simp [hq], h1⟩

/-- Bools: a slice. -/
def Bools (w : World) (v : Value) (l : List Bool) : Prop := Sl w v l.length (l.map Value.bool)
theorem Bools.open {w : World} {v : Value} {l : List Bool} (h : Bools w v l) : ∃ a cap, v = .slice a l.length cap ∧ l.length ≤ cap ∧ cap ≤ 9223372036854775807 ∧
    ∀ i (hi : i < l.length), ∃ b off, a = some ⟨b, off, none⟩ ∧ b < w.heap.size ∧ w.cell? ⟨b, off + i, none⟩ = some (.bool l[i]) := by
  obtain ⟨a, cap, hv, hl, hm, hc⟩ := h.form
  refine ⟨a, cap, hv, hl, hm, fun i hi => ?_⟩
  obtain ⟨b, off, ha, hlt, hcell⟩ := hc (by intro e; simp at e; subst e; simp at hi)
  exact ⟨b, off, ha, hlt, (hcell i (by simpa using hi)).trans (by simp)⟩

theorem wpIn_store {P : Program} {Fn : Fence} {nF : Nat} (w : World) {ops : Array Oper} {rest : List Oper} {o : Oper} {a : Act} {Q : Exit → Act → World → Prop} {F : Int → Option Value} (hg : o.guard = none) (mo x v : Operand) (t : TypeId) (hop : o.op = Op.mapUpdate t mo x v) (k e : TypeId) (hk : P.underlying k = some (.int .i64)) (ht : P.underlying t = some (.map k e)) (m n : Nat)
    (hm : a.eval mo = .map (some m)) (h : Mp P k w m n F) (hn : n < maxLen) (i : Int) (u : Value) (hx : a.eval x = .int .i64 i) (hv : a.eval v = u) (hi : W64 i)
    (hK : ∀ w', Mp P k w' m (n + 1) (upd F i (some u)) → w.mapTurned w' m → wpListIn Fn nF P ops Q rest (a.put o.dst undef) w') :
    wpListIn Fn nF P ops Q (o :: rest) a w := by
  refine wpListIn_plain hg fun K' hK' => ?_
  obtain ⟨w', hrun, r1, r2⟩ := h.store hk ht hn hi u
  unfold Oper.wpIn
  refine ⟨by simp [Oper.about, hop], ?_⟩
  rw [Oper.semAt_plain Fn _ _ (by rw [hop]; intro c hc'; cases hc')]
  simp [execOp, hop, hm, hx, hv, hrun, Result.andThen]
  exact hK' _ _ (hK w' r1 r2)

/-- What the loop over the pieces knows: the five boxes that the call has laid from block B on, and the two maps. -/
structure CrI (w : World) (kv : Value) (c : Cr) (W : World) : Prop where
  low : Below w.heap.size w W
  size : w.heap.size + 6 ≤ W.heap.size
  k0 : W.cell? ⟨w.heap.size, 0, none⟩ = some kv
  k3 : W.cell? ⟨w.heap.size + 3, 0, none⟩ = some (.map (some (w.heap.size + 1)))
  k4 : W.cell? ⟨w.heap.size + 4, 0, none⟩ = some (.map (some (w.heap.size + 2)))
  k5 : W.cell? ⟨w.heap.size + 5, 0, none⟩ = some (.int .i64 c.at_)
  f5 : W.frozen? ⟨w.heap.size + 5, 0, none⟩ = false
  me : Mp Try.prog 3 W (w.heap.size + 1) c.at_ (fun y => (c.ends y).map (Value.int .i64))
  mc : Mp Try.prog 3 W (w.heap.size + 2) c.at_ (fun y => (c.cut y).map Value.bool)

theorem CrI.below {w W W' : World} {kv : Value} {c : Cr} (h : CrI w kv c W) (hb : Below (w.heap.size + 6) W W') : CrI w kv c W' :=
  ⟨h.low.trans (hb.mono (by omega)), Nat.le_trans h.size hb.size, (hb.cell (p := ⟨w.heap.size, 0, none⟩) (by dsimp; omega)).trans h.k0, (hb.cell (p := ⟨w.heap.size + 3, 0, none⟩) (by dsimp; omega)).trans h.k3, (hb.cell (p := ⟨w.heap.size + 4, 0, none⟩) (by dsimp; omega)).trans h.k4,
    (hb.cell (p := ⟨w.heap.size + 5, 0, none⟩) (by dsimp; omega)).trans h.k5, (hb.frozen (p := ⟨w.heap.size + 5, 0, none⟩) (by dsimp; omega)).trans h.f5, h.me.below hb (by omega), h.mc.below hb (by omega)⟩

theorem run_cut3 (a : Option Addr) (n c k : Nat) (h : k ≤ n) (hc : n ≤ c) (hm : c ≤ 9223372036854775807) (w : World) :
    (Instr.sliceAt 28 (.slice a n c) none (some (.int .i64 k)) (some (.int .i64 k))).run Try.prog w = .ok (.slice a k k) w := by
  have h2 : k ≤ c := by omega
  go_simp

def crF (E : Int → Option Int) (x : Int) (f : Fi) : Option Fi := if (!f.kp && max f.sy ((E x).getD 0) == 0) then none else some ⟨f.bs.take (max f.sy ((E x).getD 0)).toNat, max f.sy ((E x).getD 0), true⟩
def crFl (s : DS) (E : Int → Option Int) (l : List Int) : Int → Option Fi := fun x => if x ∈ l then (s.fl x).bind (crF E x) else s.fl x
def crashS (s : DS) (keep : List Bool) : DS := { s with fl := crFl s (crK keep (pieces s)).ends (namesOf s), dead := false, armed := -1, failing := -1 }

theorem crFl_nil (s : DS) (E : Int → Option Int) : crFl s E [] = s.fl := by funext x; simp [crFl]
theorem crFl_step (s : DS) (E : Int → Option Int) (k : Nat) (h : k < (namesOf s).length) : crFl s E ((namesOf s).take (k + 1)) = updF (crFl s E ((namesOf s).take k)) (namesOf s)[k] ((s.fl (namesOf s)[k]).bind (crF E (namesOf s)[k])) := by
  have hm : ∀ x, x ∈ (namesOf s).take (k + 1) ↔ x ∈ (namesOf s).take k ∨ x = (namesOf s)[k] := fun x => by
    rw [List.take_succ_eq_append_getElem h]; simp only [List.mem_append, List.mem_singleton]
  funext x
  unfold crFl updF
  by_cases hx : x = (namesOf s)[k]
  · rw [if_pos ((hm x).2 (.inr hx)), if_pos hx, hx]
  · rw [if_neg hx]
    dsimp only
    by_cases hx2 : x ∈ (namesOf s).take k
    · rw [if_pos ((hm x).2 (.inl hx2)), if_pos hx2]
    · rw [if_neg (fun hc => by rcases (hm x).1 hc with h1 | h1; exact hx2 h1; exact hx h1), if_neg hx2]
theorem names_notin (s : DS) (k : Nat) (h : k < (namesOf s).length) : (namesOf s)[k] ∉ (namesOf s).take k := by
  have h1 := namesOf_nodup s
  intro hc
  obtain ⟨i, hi, e⟩ := List.getElem_of_mem hc
  have hi2 : i < k := by simp at hi; omega
  rw [List.getElem_take] at e
  exact (List.pairwise_iff_getElem.1 h1) i k (by omega) h hi2 e
theorem crFl_name {s : DS} (hok : s.Ok) (E : Int → Option Int) (l : List Int) : ∀ x f, crFl s E l x = some f → 0 ≤ x ∧ x < 4 := by
  intro x f h
  unfold crFl at h
  split at h
  · cases hf : s.fl x with
    | none => rw [hf] at h; simp at h
    | some g => exact hok.name x g hf
  · exact hok.name x f h

theorem pEnd_le (f : Fi) (j : Nat) : pEnd f j ≤ f.bs.length := by unfold pEnd; omega
theorem pieces_mem {s : DS} (hok : s.Ok) {p : Pc} (h : p ∈ pieces s) : (p.2.val : Int) ≤ (s.at (p.1.val : Int)).bs.length := by
  unfold pieces at h
  obtain ⟨x, hx, hp⟩ := List.mem_flatMap.1 h
  unfold pieceL pieceN at hp
  obtain ⟨j, hj, rfl⟩ := List.mem_map.1 hp
  have hx4 := (namesOf_mem.1 hx).1
  obtain ⟨f, hf⟩ := Option.isSome_iff_exists.1 (namesOf_mem.1 hx).2
  have hat : s.at x = f := by unfold DS.at; rw [hf]; rfl
  have hlen := len_le hok hf
  have h1 := pEnd_le f j
  have e1 : ((pc x.toNat (pEnd (s.at x) j)).1.val : Int) = x := by
    unfold pc; simp only [Fin.ofNat]; rw [Nat.mod_eq_of_lt (by omega)]; omega
  have e2 : ((pc x.toNat (pEnd (s.at x) j)).2.val : Int) = pEnd (s.at x) j := by
    unfold pc; simp only [Fin.ofNat]; rw [Nat.mod_eq_of_lt (by rw [hat]; omega)]
  rw [e1, e2, hat]
  omega

section
variable {w : World} {A : List Nat} {b m : Nat} {s : DS}

end
end Go.Proofs.Ytkekidjjmcmjhaa
