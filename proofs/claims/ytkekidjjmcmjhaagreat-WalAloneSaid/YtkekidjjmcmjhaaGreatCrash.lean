/- The contract of Crash. -/
import Derived.Test.YtkekidjjmcmjhaaGreatPend
import Derived.Test.YtkekidjjmcmjhaaGreatCalm
namespace Go.Proofs.YtkekidjjmcmjhaaGreat
open Go.RowKit Go.Shelf
set_option maxRecDepth 100000
attribute [local irreducible] Der
attribute [local go_sem] Oper.semAt_some

/-- What is known behind some pieces: how many, which files are cut off, where they end. -/
structure Cr where
  at_ : Nat
  cut : Int → Option Bool
  ends : Int → Option Int
def updO {α : Type} (f : Int → Option α) (x : Int) (v : α) : Int → Option α := fun y => if y = x then some v else f y
theorem upd_map {α : Type} (g : α → Value) (f : Int → Option α) (x : Int) (v : α) : upd (fun y => (f y).map g) x (some (g v)) = fun y => (updO f x v y).map g := by
  funext y
  unfold upd updO
  split <;> rfl
def cutB (keep : List Bool) (c : Cr) (p : Pc) : Bool := (c.cut (p.1.val : Int)).getD false || decide (keep.length ≤ c.at_) || !(keep.getD c.at_ false)
def crStep (keep : List Bool) (c : Cr) (p : Pc) : Cr := ⟨c.at_ + 1, updO c.cut (p.1.val : Int) (cutB keep c p), if cutB keep c p then c.ends else updO c.ends (p.1.val : Int) (p.2.val : Int)⟩
def crK (keep : List Bool) (l : List Pc) : Cr := l.foldl (crStep keep) ⟨0, fun _ => none, fun _ => none⟩
theorem crK_snoc (keep : List Bool) (l : List Pc) (p : Pc) : crK keep (l ++ [p]) = crStep keep (crK keep l) p := by unfold crK; rw [List.foldl_append]; rfl
theorem crK_at (keep : List Bool) (l : List Pc) : (crK keep l).at_ = l.length := by
  suffices h : ∀ (l : List Pc) (c : Cr), (l.foldl (crStep keep) c).at_ = c.at_ + l.length by
    have := h l ⟨0, fun _ => none, fun _ => none⟩
    unfold crK; rw [this]; simp
  intro l
  induction l with
  | nil => intro c; rfl
  | cons x l ih => intro c; rw [List.foldl_cons, ih]; unfold crStep; simp; omega
theorem crK_ends (keep : List Bool) : ∀ (l : List Pc) (x e : Int), (crK keep l).ends x = some e → ∃ p ∈ l, (p.1.val : Int) = x ∧ (p.2.val : Int) = e := by
  suffices h : ∀ (l : List Pc) (c : Cr) (x e : Int), (l.foldl (crStep keep) c).ends x = some e → c.ends x = some e ∨ ∃ p ∈ l, (p.1.val : Int) = x ∧ (p.2.val : Int) = e by
    intro l x e he
    rcases h l _ x e he with h1 | h1
    · cases h1
    · exact h1
  intro l
  induction l with
  | nil => intro c x e he; exact .inl he
  | cons p l ih =>
    intro c x e he
    rcases ih _ x e he with h1 | ⟨q, hq, h1⟩
    · unfold crStep at h1
      simp only at h1
      split at h1
      · exact .inl h1
      · unfold updO at h1
        split at h1
        · rename_i hx
          cases h1
          exact .inr ⟨p, by simp, hx.symm, rfl⟩
        · exact .inl h1
    · exact .inr ⟨q, by simp [hq], h1⟩

/-- Bools: a slice. -/
def Bools (w : World) (v : Value) (l : List Bool) : Prop := Sl w v l.length (l.map Value.bool)
theorem Bools.open {w : World} {v : Value} {l : List Bool} (h : Bools w v l) : ∃ a cap, v = .slice a l.length cap ∧ l.length ≤ cap ∧ cap ≤ 9223372036854775807 ∧
    ∀ i (hi : i < l.length), ∃ b off, a = some ⟨b, off, none⟩ ∧ b < w.heap.size ∧ w.cell? ⟨b, off + i, none⟩ = some (.bool l[i]) := by
  obtain ⟨a, cap, hv, hl, hm, hc⟩ := h.form
  refine ⟨a, cap, hv, hl, hm, fun i hi => ?_⟩
  obtain ⟨b, off, ha, hlt, hcell⟩ := hc (by intro e; simp at e; subst e; simp at hi)
  exact ⟨b, off, ha, hlt, (hcell i (by simpa using hi)).trans (by simp)⟩

theorem wpIn_store {P : Program} {Fn : Fence} {nF : Nat} (w : World) {ops : Array Oper} {rest : List Oper} {o : Oper} {a : Act} {Q : Exit → Act → World → Prop} {F : Int → Option Value} (hg : o.guard = none) (mo x v : Operand) (t : TypeId) (hop : o.op = Op.mapUpdate t mo x v) (k e : TypeId) (hk : P.underlying k = some (.int .i64)) (ht : P.underlying t = some (.map k e)) (m n : Nat)
    (hm : a.eval mo = .map (some m)) (h : Mp P k w m n F) (hn : n < maxLen) (i : Int) (u : Value) (hx : a.eval x = .int .i64 i) (hv : a.eval v = u) (hi : W64 i)
    (hK : ∀ w', Mp P k w' m (n + 1) (upd F i (some u)) → w.mapTurned w' m → wpListIn Fn nF P ops Q rest (a.put o.dst undef) w') :
    wpListIn Fn nF P ops Q (o :: rest) a w := by
  refine wpListIn_plain hg fun K' hK' => ?_
  obtain ⟨w', hrun, r1, r2⟩ := h.store hk ht hn hi u
  unfold Oper.wpIn
  refine ⟨by simp [Oper.about, hop], ?_⟩
  rw [Oper.semAt_plain Fn _ _ (by rw [hop]; intro c hc'; cases hc')]
  simp [execOp, hop, hm, hx, hv, hrun, Result.andThen]
  exact hK' _ _ (hK w' r1 r2)

/-- What the loop over the pieces knows: the five boxes that the call has laid from block B on, and the two maps. -/
structure CrI (w : World) (kv : Value) (c : Cr) (W : World) : Prop where
  low : Below w.heap.size w W
  size : w.heap.size + 6 ≤ W.heap.size
  k0 : W.cell? ⟨w.heap.size, 0, none⟩ = some kv
  k3 : W.cell? ⟨w.heap.size + 3, 0, none⟩ = some (.map (some (w.heap.size + 1)))
  k4 : W.cell? ⟨w.heap.size + 4, 0, none⟩ = some (.map (some (w.heap.size + 2)))
  k5 : W.cell? ⟨w.heap.size + 5, 0, none⟩ = some (.int .i64 c.at_)
  f5 : W.frozen? ⟨w.heap.size + 5, 0, none⟩ = false
  me : Mp Tryz.prog 3 W (w.heap.size + 1) c.at_ (fun y => (c.ends y).map (Value.int .i64))
  mc : Mp Tryz.prog 3 W (w.heap.size + 2) c.at_ (fun y => (c.cut y).map Value.bool)

theorem CrI.below {w W W' : World} {kv : Value} {c : Cr} (h : CrI w kv c W) (hb : Below (w.heap.size + 6) W W') : CrI w kv c W' :=
  ⟨h.low.trans (hb.mono (by omega)), Nat.le_trans h.size hb.size, (hb.cell (p := ⟨w.heap.size, 0, none⟩) (by dsimp; omega)).trans h.k0, (hb.cell (p := ⟨w.heap.size + 3, 0, none⟩) (by dsimp; omega)).trans h.k3, (hb.cell (p := ⟨w.heap.size + 4, 0, none⟩) (by dsimp; omega)).trans h.k4,
    (hb.cell (p := ⟨w.heap.size + 5, 0, none⟩) (by dsimp; omega)).trans h.k5, (hb.frozen (p := ⟨w.heap.size + 5, 0, none⟩) (by dsimp; omega)).trans h.f5, h.me.below hb (by omega), h.mc.below hb (by omega)⟩

theorem run_cut3 (a : Option Addr) (n c k : Nat) (h : k ≤ n) (hc : n ≤ c) (hm : c ≤ 9223372036854775807) (w : World) :
    (Instr.sliceAt 24 (.slice a n c) none (some (.int .i64 k)) (some (.int .i64 k))).run Tryz.prog w = .ok (.slice a k k) w := by
  have h2 : k ≤ c := by omega
  go_simp

def crF (E : Int → Option Int) (x : Int) (f : Fi) : Option Fi := if (!f.kp && max f.sy ((E x).getD 0) == 0) then none else some ⟨f.bs.take (max f.sy ((E x).getD 0)).toNat, max f.sy ((E x).getD 0), true⟩
def crFl (s : DS) (E : Int → Option Int) (l : List Int) : Int → Option Fi := fun x => if x ∈ l then (s.fl x).bind (crF E x) else s.fl x
def crashS (s : DS) (keep : List Bool) : DS := { s with fl := crFl s (crK keep (pieces s)).ends (namesOf s), dead := false, armed := -1, failing := -1 }

theorem crFl_nil (s : DS) (E : Int → Option Int) : crFl s E [] = s.fl := by funext x; simp [crFl]
theorem crFl_step (s : DS) (E : Int → Option Int) (k : Nat) (h : k < (namesOf s).length) : crFl s E ((namesOf s).take (k + 1)) = updF (crFl s E ((namesOf s).take k)) (namesOf s)[k] ((s.fl (namesOf s)[k]).bind (crF E (namesOf s)[k])) := by
  have hm : ∀ x, x ∈ (namesOf s).take (k + 1) ↔ x ∈ (namesOf s).take k ∨ x = (namesOf s)[k] := fun x => by
    rw [List.take_succ_eq_append_getElem h]; simp only [List.mem_append, List.mem_singleton]
  funext x
  unfold crFl updF
  by_cases hx : x = (namesOf s)[k]
  · rw [if_pos ((hm x).2 (.inr hx)), if_pos hx, hx]
  · rw [if_neg hx]
    dsimp only
    by_cases hx2 : x ∈ (namesOf s).take k
    · rw [if_pos ((hm x).2 (.inl hx2)), if_pos hx2]
    · rw [if_neg (fun hc => by rcases (hm x).1 hc with h1 | h1; exact hx2 h1; exact hx h1), if_neg hx2]
theorem names_notin (s : DS) (k : Nat) (h : k < (namesOf s).length) : (namesOf s)[k] ∉ (namesOf s).take k := by
  have h1 := namesOf_nodup s
  intro hc
  obtain ⟨i, hi, e⟩ := List.getElem_of_mem hc
  have hi2 : i < k := by simp at hi; omega
  rw [List.getElem_take] at e
  exact (List.pairwise_iff_getElem.1 h1) i k (by omega) h hi2 e
theorem crFl_name {s : DS} (hok : s.Ok) (E : Int → Option Int) (l : List Int) : ∀ x f, crFl s E l x = some f → 0 ≤ x ∧ x < 4 := by
  intro x f h
  unfold crFl at h
  split at h
  · cases hf : s.fl x with
    | none => rw [hf] at h; simp at h
    | some g => exact hok.name x g hf
  · exact hok.name x f h

theorem pEnd_le (f : Fi) (j : Nat) : pEnd f j ≤ f.bs.length := by unfold pEnd; omega
theorem pieces_mem {s : DS} (hok : s.Ok) {p : Pc} (h : p ∈ pieces s) : (p.2.val : Int) ≤ (s.at (p.1.val : Int)).bs.length := by
  unfold pieces at h
  obtain ⟨x, hx, hp⟩ := List.mem_flatMap.1 h
  unfold pieceL pieceN at hp
  obtain ⟨j, hj, rfl⟩ := List.mem_map.1 hp
  have hx4 := (namesOf_mem.1 hx).1
  obtain ⟨f, hf⟩ := Option.isSome_iff_exists.1 (namesOf_mem.1 hx).2
  have hat : s.at x = f := by unfold DS.at; rw [hf]; rfl
  have hlen := len_le hok hf
  have h1 := pEnd_le f j
  have e1 : ((pc x.toNat (pEnd (s.at x) j)).1.val : Int) = x := by
    unfold pc; simp only [Fin.ofNat]; rw [Nat.mod_eq_of_lt (by omega)]; omega
  have e2 : ((pc x.toNat (pEnd (s.at x) j)).2.val : Int) = pEnd (s.at x) j := by
    unfold pc; simp only [Fin.ofNat]; rw [Nat.mod_eq_of_lt (by rw [hat]; omega)]
  rw [e1, e2, hat]
  omega

section
variable {w : World} {A : List Nat} {b m : Nat} {s : DS}

set_option maxRecDepth 100000 in
set_option maxHeartbeats 4000000 in
theorem f_Crash (h : Disk w A b m s) (hok : s.Ok) (kv : Value) (keep : List Bool) (hkv : Bools w kv keep) (hkl : keep.length ≤ 1000000) :
    Calls Tryz.prog 23 #[DP b, kv] w fun e w' => e = .returned (.int .i64 0) ∧ Disk w' A b m (crashS s keep) ∧ Tw w.heap.size [b, m] w w' := by
  have HL := Lib.hid (pieces_len hok)
  have HD := Lib.hid h
  obtain ⟨ka, kcap, rfl, hk1, hk2, hkc⟩ := hkv.open
  have HK := Lib.hid hkc
  clear h hkv hkc
  refine (callsIn_wide (n := 6)).1 ?_
  have h1 : 1 ≤ 6 := by omega
  refine callsIn_of_wp_marks Tryz.func23 rfl trivial ?_ rfl
  simp only [Tryz.ntmps23, List.size_toArray, List.length_cons, List.length_nil, Nat.reduceAdd, Nat.reduceSub, Array.replicate_succ, Array.replicate_zero, List.push_toArray, List.append_toArray, List.nil_append, List.cons_append]
  have hmm := @run_makeMap Tryz.prog
  gi_wp2_with (refine ⟨trivial, ?_⟩; gi_at_call 61; refine (callsIn_wide.2 (f_pieces _ _)).mono ?_; rintro e w' ⟨rfl, rfl⟩)
  have hI0 : CrI w (.slice ka keep.length kcap) (crK keep []) (((((((w.alloc (.cells #[.slice ka keep.length kcap] 49)).alloc (.map #[] 0)).alloc (.map #[] 0)).alloc (.cells #[.map (some (w.heap.size + 1))] 102)).alloc (.cells #[.map (some (w.heap.size + 1 + 1))] 103)).alloc (.cells #[.int .i64 0] 3)).alloc (.cells #[DP b] 25)) := by
    have m1 := Mp.made (w.alloc (.cells #[.slice ka keep.length kcap] 49)) Tryz.prog 3
    have m2 := Mp.made ((w.alloc (.cells #[.slice ka keep.length kcap] 49)).alloc (.map #[] 0)) Tryz.prog 3
    have m1' := (((((m1.alloc (.map #[] 0)).alloc (.cells #[.map (some (w.heap.size + 1))] 102)).alloc (.cells #[.map (some (w.heap.size + 1 + 1))] 103)).alloc (.cells #[.int .i64 0] 3)).alloc (.cells #[DP b] 25))
    have m2' := ((((m2.alloc (.cells #[.map (some (w.heap.size + 1))] 102)).alloc (.cells #[.map (some (w.heap.size + 1 + 1))] 103)).alloc (.cells #[.int .i64 0] 3)).alloc (.cells #[DP b] 25))
    simp only [World.size_alloc] at m1' m2'
    refine ⟨?_, by simp, by go_simp, ?_, ?_, ?_, ?_, m1', m2'⟩
    · exact (((((((Below.refl _ _).alloc (Nat.le_refl _) _).alloc (by simp) _).alloc (by simp; omega) _).alloc (by simp; omega) _).alloc (by simp; omega) _).alloc (by simp; omega) _).alloc (by simp; omega) _
    · rw [show w.heap.size + 3 = w.heap.size + 1 + 1 + 1 from rfl]; go_simp
    · rw [show w.heap.size + 4 = w.heap.size + 1 + 1 + 1 + 1 from rfl]; go_simp
    · rw [show w.heap.size + 5 = w.heap.size + 1 + 1 + 1 + 1 + 1 from rfl]; go_simp; rfl
    · rw [show w.heap.size + 5 = w.heap.size + 1 + 1 + 1 + 1 + 1 from rfl]; go_simp
  have hc0 : (((((((w.alloc (.cells #[.slice ka keep.length kcap] 49)).alloc (.map #[] 0)).alloc (.map #[] 0)).alloc (.cells #[.map (some (w.heap.size + 1))] 102)).alloc (.cells #[.map (some (w.heap.size + 1 + 1))] 103)).alloc (.cells #[.int .i64 0] 3)).alloc (.cells #[DP b] 25)).cell? ⟨w.heap.size + 1 + 1 + 1 + 1 + 1 + 1, 0, none⟩ = some (DP b) := by go_simp
  have hbk : (((((((w.alloc (.cells #[.slice ka keep.length kcap] 49)).alloc (.map #[] 0)).alloc (.map #[] 0)).alloc (.cells #[.map (some (w.heap.size + 1))] 102)).alloc (.cells #[.map (some (w.heap.size + 1 + 1))] 103)).alloc (.cells #[.int .i64 0] 3)).alloc (.cells #[DP b] 25)).heap[w.heap.size + 1 + 1 + 1 + 1 + 1 + 1]? = some (.cells #[DP b] 25) := by
    have := (MapKept.heap_alloc ((((((w.alloc (.cells #[.slice ka keep.length kcap] 49)).alloc (.map #[] 0)).alloc (.map #[] 0)).alloc (.cells #[.map (some (w.heap.size + 1))] 102)).alloc (.cells #[.map (some (w.heap.size + 1 + 1))] 103)).alloc (.cells #[.int .i64 0] 3)) (.cells #[DP b] 25)).1
    simpa using this
  have hsz : (((((((w.alloc (.cells #[.slice ka keep.length kcap] 49)).alloc (.map #[] 0)).alloc (.map #[] 0)).alloc (.cells #[.map (some (w.heap.size + 1))] 102)).alloc (.cells #[.map (some (w.heap.size + 1 + 1))] 103)).alloc (.cells #[.int .i64 0] 3)).alloc (.cells #[DP b] 25)).heap.size = w.heap.size + 7 := by simp
  obtain ⟨W3, hW3⟩ : ∃ W3, (((((((w.alloc (.cells #[.slice ka keep.length kcap] 49)).alloc (.map #[] 0)).alloc (.map #[] 0)).alloc (.cells #[.map (some (w.heap.size + 1))] 102)).alloc (.cells #[.map (some (w.heap.size + 1 + 1))] 103)).alloc (.cells #[.int .i64 0] 3)).alloc (.cells #[DP b] 25)) = W3 := ⟨_, rfl⟩
  rw [hW3] at hI0 hc0 hbk hsz ⊢
  clear hW3
  obtain ⟨B6, h6⟩ : ∃ x, w.heap.size + 1 + 1 + 1 + 1 + 1 + 1 = x := ⟨_, rfl⟩
  obtain ⟨B5, h5⟩ : ∃ x, w.heap.size + 1 + 1 + 1 + 1 + 1 = x := ⟨_, rfl⟩
  obtain ⟨B4, h4⟩ : ∃ x, w.heap.size + 1 + 1 + 1 + 1 = x := ⟨_, rfl⟩
  obtain ⟨B3, h3⟩ : ∃ x, w.heap.size + 1 + 1 + 1 = x := ⟨_, rfl⟩
  obtain ⟨B2, h2⟩ : ∃ x, w.heap.size + 1 + 1 = x := ⟨_, rfl⟩
  obtain ⟨B1, h1'⟩ : ∃ x, w.heap.size + 1 = x := ⟨_, rfl⟩
  rw [h6, h5, h4, h3, h2, h1']
  rw [h6] at hc0 hbk
  have hH : Hold (w.heap.size + 6) (fun _ => none) w [(B6, .cells #[DP b] 25)] W3 := by
    refine ⟨hI0.low, by omega, fun k hk => (by cases hk), fun p hp => ?_⟩
    simp only [List.mem_cons, List.not_mem_nil, or_false] at hp
    subst hp
    exact ⟨hbk, rfl, by dsimp; omega, by simp⟩
  have stops := pieces_stops (n := 5) (by omega) B6 (w.heap.size + 6) w (fun _ => none) (fun _ _ _ => rfl) (by omega) W3 hc0 HD.out hok _ hH
  clear hc0 hbk hH
  refine wpIn_rangeFunc_ownG rfl h1 (gf := 98) (lb := #[.pointer (some ⟨B6, 0, none⟩)]) rfl trivial (enters_of Tryz.func98 (by kernel_rfl) rfl)
    stops Kq.trans (Kq.put (w := W3) (by omega) (by omega) (fun _ _ _ => rfl)) (Below.refl _ _) (fun _ => rfl)
    (fun (pre : List Pc) W => CrI w (.slice ka keep.length kcap) (crK keep pre) W)
    (fun _ _ _ => False)
    (fun _ W W' row hs hg hr => hs.below ⟨hg.os, hg.tape, hg.output, hg.size, fun k hk => hg.block k (by have := hs.size; omega) (fun e => by have := (hr k e.symm).1; omega)⟩)
    (fun _ _ _ _ _ hs _ _ => hs)
    hI0 ?a1 ?assign ?body ?done ?stop
  case assign =>
    intro l x W K hK
    simp only [encP]
    gi_wp2
    exact hK
  case body =>
    rintro l pre x W hI hlt
    have hat := crK_at keep pre
    have HLo := HL.out
    have hst : crK keep (pre ++ [x]) = crStep keep (crK keep pre) x := crK_snoc keep pre x
    obtain ⟨c, hc⟩ : ∃ c, crK keep pre = c := ⟨_, rfl⟩
    rw [hc] at hI hat hst
    have hat2 : c.at_ ≤ 40000 := by omega
    clear hat
    obtain ⟨xn, hxn⟩ : ∃ z : Int, (x.1.val : Int) = z := ⟨_, rfl⟩
    obtain ⟨xe, hxe⟩ : ∃ z : Int, (x.2.val : Int) = z := ⟨_, rfl⟩
    have hx4 : 0 ≤ xn ∧ xn < 4 := by have := x.1.isLt; omega
    have hxw : W64 xn := w64 (by omega) (by omega)
    have hsD : crStep keep c x = ⟨c.at_ + 1, updO c.cut xn (cutB keep c x), if cutB keep c x then c.ends else updO c.ends xn xe⟩ := by unfold crStep; rw [hxn, hxe]
    have hcb : cutB keep c x = ((c.cut xn).getD false || decide (keep.length ≤ c.at_) || !(keep.getD c.at_ false)) := by unfold cutB; rw [hxn]
    have k0 := hI.k0
    have k3 : W.cell? ⟨B3, 0, none⟩ = some (.map (some B1)) := by rw [← h3, ← h1']; exact hI.k3
    have k4 : W.cell? ⟨B4, 0, none⟩ = some (.map (some B2)) := by rw [← h4, ← h2]; exact hI.k4
    have k5 : W.cell? ⟨B5, 0, none⟩ = some (.int .i64 c.at_) := by rw [← h5]; exact hI.k5
    have mc : Mp Tryz.prog 3 W B2 c.at_ (fun y => (c.cut y).map Value.bool) := by rw [← h2]; exact hI.mc
    have me : Mp Tryz.prog 3 W B1 c.at_ (fun y => (c.ends y).map (Value.int .i64)) := by rw [← h1']; exact hI.me
    have hWs := hI.size
    have zb : ∀ w : World, (zeroValue 4).run Tryz.prog w = .ok (.bool false) w := fun w => by kernel_rfl
    have zi : ∀ w : World, (zeroValue 3).run Tryz.prog w = .ok (.int .i64 0) w := fun w => by kernel_rfl
    have HI := Lib.hid hI
    have HST := Lib.hid (hst.trans hsD)
    have HCB := Lib.hid hcb
    have MC := Lib.hid mc
    have ME := Lib.hid me
    obtain ⟨c0, hc0⟩ : ∃ c0, (c.cut xn).getD false = c0 := ⟨_, rfl⟩
    have hlk : ∀ W' : World, Below W.heap.size W W' → (Instr.lookup 103 (.map (some B2)) (.int .i64 xn) false).run Tryz.prog W' = .ok (.bool c0) W' := fun W' hb => by
      have h9 := (MC.out.below hb (by omega)).look Tryz.underlying3 Tryz.underlying103 (zb W') hxw
      rw [h9]
      congr 1
      rw [← hc0]
      cases c.cut xn <;> rfl
    have HLK := Lib.hid hlk
    have HC0 := Lib.hid hc0
    clear hst hsD hcb hlk hc hI hc0 mc me
    gi_wp2
    rw [hxn, hxe]
    cases c0 with
    | true =>
      refine wp_growIn [] 18 (by kernel_rfl) (by kernel_rfl) (by rfl) (by rfl) (by rfl) ?_
      simp only [List.take_succ_cons, List.take_zero, List.drop_succ_cons, List.drop_zero]
      repeat (first
        | (apply Der.quiet; (rfl); (rfl); (intro w' hw' hctx; have hc' := bcell hw'; have y0 := (hw'.cell (p := ⟨B4, 0, none⟩) (by dsimp; omega)).trans k4; have y1 := HLK.out w' ((Below.refl _ _).drew.trans hw'); clear hctx; go_simp; first | exact rfl | exact ⟨rfl, rfl⟩); simp only [Act.put, List.setIfInBounds_toArray, List.set_cons_succ, List.set_cons_zero, Nat.reduceAdd])
        | (apply Der.skip; (rfl); simp only [Act.put, List.setIfInBounds_toArray, List.set_cons_succ, List.set_cons_zero, Nat.reduceAdd]))
      refine Der.nil (fun w2 hgw2 hctx => ?_)
      clear hctx
      have hb2 : Below _ _ w2 := hgw2
      clear hgw2
      have e2 : Below W.heap.size W w2 := (Below.refl _ _).drew.trans hb2
      go_wp2_with (at_mapUpdate; refine wp_store _ rfl _ _ _ 103 rfl 3 4 Tryz.underlying3 Tryz.underlying103 B2 c.at_ rfl (MC.out.below e2 (by omega)) (by unfold maxLen; omega) xn (.bool true) rfl rfl hxw ?_; intro w3 g3 hmt; refine Hid.out ?_)
      refine Lib.hid ?_
      have hs2 := e2.size
      have hs3 := hmt.grown.size
      have T3 : Tw W.heap.size [B1, B2, B5] W w3 := (Tw.of_below e2).mapTurned (by simp) hmt
      have q3 : w3.cell? ⟨B3, 0, none⟩ = some (.map (some B1)) := (T3.cell (p := ⟨B3, 0, none⟩) (by dsimp; omega) (by simp; omega)).trans k3
      have q4 : w3.cell? ⟨B4, 0, none⟩ = some (.map (some B2)) := (T3.cell (p := ⟨B4, 0, none⟩) (by dsimp; omega) (by simp; omega)).trans k4
      have q5 : w3.cell? ⟨B5, 0, none⟩ = some (.int .i64 c.at_) := by
        rw [World.cell?_of_block (w := w2) (hmt.grown.block _ (by dsimp; omega) (by simp; omega)), e2.cell (p := ⟨B5, 0, none⟩) (by dsimp; omega)]; exact k5
      have f5 : w3.frozen? ⟨B5, 0, none⟩ = false := by
        rw [World.frozen?_of_block (w := w2) (hmt.grown.block _ (by dsimp; omega) (by simp; omega)), e2.frozen (p := ⟨B5, 0, none⟩) (by dsimp; omega), ← h5]; exact HI.out.f5
      have g3' : Mp Tryz.prog 3 w3 B2 (c.at_ + 1) (fun y => (updO c.cut xn true y).map Value.bool) := by rw [← upd_map Value.bool]; exact g3
      have hl3 : (Instr.lookup 103 (.map (some B2)) (.int .i64 xn) false).run Tryz.prog w3 = .ok (.bool true) w3 := by
        rw [g3'.look Tryz.underlying3 Tryz.underlying103 (zb w3) hxw]
        simp [updO]
      have me3 : Mp Tryz.prog 3 w3 B1 c.at_ (fun y => (c.ends y).map (Value.int .i64)) := (ME.out.below e2 (by omega)).kept hmt.grown (by simp; omega)
      have ewr : IntKind.i64.wrap ((c.at_ : Int) + 1) = (c.at_ : Int) + 1 := wr64 (by omega) (by omega)
      have HCUT := Lib.hid (show cutB keep c x = true from by rw [HCB.out, HC0.out]; simp)
      have G3 := Lib.hid g3'
      have TT3 := Lib.hid T3
      clear g3 g3' hmt T3
      go_wp2
      rename_i Ka ha
      refine ha _ _ ?_
      gi_wp2
      have TT5 := TT3
      have q5' := q5
      have f5' := f5
      have MC5 := G3
      have ME5 := Lib.hid (me3.mono (n' := c.at_ + 1) (by omega))
      have T5 := TT5.out.setCell (b := B5) (.inl (by simp)) 0 (.int .i64 ((c.at_ : Int) + 1))
      have hsz5 := T5.size
      have lo5 : Below w.heap.size W (w3.setCell ⟨B5, 0, none⟩ (.int .i64 ((c.at_ : Int) + 1))) := T5.below (by omega) (by intro a ha; simp at ha; omega)
      refine ⟨⟨hsz5, fun k o hk ho _ => ?_⟩, ⟨lo5, fun k hk _ o ho _ => ?_, .inl rfl⟩, ?_⟩
      · rw [T5.block k (Array.getElem?_eq_some_iff.1 ho).1 (by simp; omega)]; exact ho
      · rw [T5.block k (Array.getElem?_eq_some_iff.1 ho).1 (by simp; omega)]; exact ho
      · show CrI w _ (crK keep (pre ++ [x])) _
        rw [HST.out, HCUT.out]
        exact ⟨HI.out.low.trans lo5, by omega, (T5.cell (p := ⟨w.heap.size, 0, none⟩) (by dsimp; omega) (by simp; omega)).trans k0, by rw [h3, h1']; exact (T5.cell (p := ⟨B3, 0, none⟩) (by dsimp; omega) (by simp; omega)).trans k3, by rw [h4, h2]; exact (T5.cell (p := ⟨B4, 0, none⟩) (by dsimp; omega) (by simp; omega)).trans k4,
          by rw [h5, cell_set, if_pos rfl, q5']; simp, by rw [h5, World.frozen?_setCell]; exact f5', by rw [h1']; exact ME5.out.setCell (by dsimp; omega) _, by rw [h2]; exact MC5.out.setCell (by dsimp; omega) _⟩
    | false =>
      by_cases hge : keep.length ≤ c.at_
      · have hge2 : (keep.length : Int) ≤ (c.at_ : Int) := by omega
        refine wp_growIn [] 18 (by kernel_rfl) (by kernel_rfl) (by rfl) (by rfl) (by rfl) ?_
        simp only [List.take_succ_cons, List.take_zero, List.drop_succ_cons, List.drop_zero]
        repeat (first
          | (apply Der.quiet; (rfl); (rfl); (intro w' hw' hctx; have hc' := bcell hw'; have y0 := (hw'.cell (p := ⟨B4, 0, none⟩) (by dsimp; omega)).trans k4; have y1 := HLK.out w' ((Below.refl _ _).drew.trans hw'); have y2 := (hw'.cell (p := ⟨B5, 0, none⟩) (by dsimp; omega)).trans k5; have y3 := (hw'.cell (p := ⟨w.heap.size, 0, none⟩) (by dsimp; omega)).trans k0; clear hctx; go_simp; first | exact rfl | exact ⟨rfl, rfl⟩); simp only [Act.put, List.setIfInBounds_toArray, List.set_cons_succ, List.set_cons_zero, Nat.reduceAdd])
          | (apply Der.skip; (rfl); simp only [Act.put, List.setIfInBounds_toArray, List.set_cons_succ, List.set_cons_zero, Nat.reduceAdd]))
        refine Der.nil (fun w2 hgw2 hctx => ?_)
        clear hctx
        have hb2 : Below _ _ w2 := hgw2
        clear hgw2
        have e2 : Below W.heap.size W w2 := (Below.refl _ _).drew.trans hb2
        go_wp2_with (at_mapUpdate; refine wp_store _ rfl _ _ _ 103 rfl 3 4 Tryz.underlying3 Tryz.underlying103 B2 c.at_ rfl (MC.out.below e2 (by omega)) (by unfold maxLen; omega) xn (.bool true) rfl rfl hxw ?_; intro w3 g3 hmt; refine Hid.out ?_)
        refine Lib.hid ?_
        have hs2 := e2.size
        have hs3 := hmt.grown.size
        have T3 : Tw W.heap.size [B1, B2, B5] W w3 := (Tw.of_below e2).mapTurned (by simp) hmt
        have q3 : w3.cell? ⟨B3, 0, none⟩ = some (.map (some B1)) := (T3.cell (p := ⟨B3, 0, none⟩) (by dsimp; omega) (by simp; omega)).trans k3
        have q4 : w3.cell? ⟨B4, 0, none⟩ = some (.map (some B2)) := (T3.cell (p := ⟨B4, 0, none⟩) (by dsimp; omega) (by simp; omega)).trans k4
        have q5 : w3.cell? ⟨B5, 0, none⟩ = some (.int .i64 c.at_) := by
          rw [World.cell?_of_block (w := w2) (hmt.grown.block _ (by dsimp; omega) (by simp; omega)), e2.cell (p := ⟨B5, 0, none⟩) (by dsimp; omega)]; exact k5
        have f5 : w3.frozen? ⟨B5, 0, none⟩ = false := by
          rw [World.frozen?_of_block (w := w2) (hmt.grown.block _ (by dsimp; omega) (by simp; omega)), e2.frozen (p := ⟨B5, 0, none⟩) (by dsimp; omega), ← h5]; exact HI.out.f5
        have g3' : Mp Tryz.prog 3 w3 B2 (c.at_ + 1) (fun y => (updO c.cut xn true y).map Value.bool) := by rw [← upd_map Value.bool]; exact g3
        have hl3 : (Instr.lookup 103 (.map (some B2)) (.int .i64 xn) false).run Tryz.prog w3 = .ok (.bool true) w3 := by
          rw [g3'.look Tryz.underlying3 Tryz.underlying103 (zb w3) hxw]
          simp [updO]
        have me3 : Mp Tryz.prog 3 w3 B1 c.at_ (fun y => (c.ends y).map (Value.int .i64)) := (ME.out.below e2 (by omega)).kept hmt.grown (by simp; omega)
        have ewr : IntKind.i64.wrap ((c.at_ : Int) + 1) = (c.at_ : Int) + 1 := wr64 (by omega) (by omega)
        have HCUT := Lib.hid (show cutB keep c x = true from by rw [HCB.out, HC0.out]; simp [hge])
        have G3 := Lib.hid g3'
        have TT3 := Lib.hid T3
        clear g3 g3' hmt T3
        go_wp2
        rename_i Ka ha
        refine ha _ _ ?_
        gi_wp2
        have TT5 := TT3
        have q5' := q5
        have f5' := f5
        have MC5 := G3
        have ME5 := Lib.hid (me3.mono (n' := c.at_ + 1) (by omega))
        have T5 := TT5.out.setCell (b := B5) (.inl (by simp)) 0 (.int .i64 ((c.at_ : Int) + 1))
        have hsz5 := T5.size
        have lo5 : Below w.heap.size W (w3.setCell ⟨B5, 0, none⟩ (.int .i64 ((c.at_ : Int) + 1))) := T5.below (by omega) (by intro a ha; simp at ha; omega)
        refine ⟨⟨hsz5, fun k o hk ho _ => ?_⟩, ⟨lo5, fun k hk _ o ho _ => ?_, .inl rfl⟩, ?_⟩
        · rw [T5.block k (Array.getElem?_eq_some_iff.1 ho).1 (by simp; omega)]; exact ho
        · rw [T5.block k (Array.getElem?_eq_some_iff.1 ho).1 (by simp; omega)]; exact ho
        · show CrI w _ (crK keep (pre ++ [x])) _
          rw [HST.out, HCUT.out]
          exact ⟨HI.out.low.trans lo5, by omega, (T5.cell (p := ⟨w.heap.size, 0, none⟩) (by dsimp; omega) (by simp; omega)).trans k0, by rw [h3, h1']; exact (T5.cell (p := ⟨B3, 0, none⟩) (by dsimp; omega) (by simp; omega)).trans k3, by rw [h4, h2]; exact (T5.cell (p := ⟨B4, 0, none⟩) (by dsimp; omega) (by simp; omega)).trans k4,
            by rw [h5, cell_set, if_pos rfl, q5']; simp, by rw [h5, World.frozen?_setCell]; exact f5', by rw [h1']; exact ME5.out.setCell (by dsimp; omega) _, by rw [h2]; exact MC5.out.setCell (by dsimp; omega) _⟩
      · have hlt2 : c.at_ < keep.length := by omega
        have hlt3 : ¬ ((keep.length : Int) ≤ (c.at_ : Int)) := by omega
        obtain ⟨kb0, ko, rfl, hkb, hkc⟩ := HK.out c.at_ hlt2
        have kc : W.cell? ⟨kb0, ko + c.at_, none⟩ = some (.bool keep[c.at_]) := (HI.out.low.cell (p := ⟨kb0, ko + c.at_, none⟩) hkb).trans hkc
        have hgd : keep.getD c.at_ false = keep[c.at_] := by simp [hlt2]
        have HGD := Lib.hid hgd
        clear hkc hgd
        cases hkv : keep[c.at_] with
        | false =>
          rw [hkv] at kc
          have HKV := Lib.hid hkv
          clear hkv
          refine wp_growIn [] 18 (by kernel_rfl) (by kernel_rfl) (by rfl) (by rfl) (by rfl) ?_
          simp only [List.take_succ_cons, List.take_zero, List.drop_succ_cons, List.drop_zero]
          repeat (first
            | (apply Der.quiet; (rfl); (rfl); (intro w' hw' hctx; have hc' := bcell hw'; have y0 := (hw'.cell (p := ⟨B4, 0, none⟩) (by dsimp; omega)).trans k4; have y1 := HLK.out w' ((Below.refl _ _).drew.trans hw'); have y2 := (hw'.cell (p := ⟨B5, 0, none⟩) (by dsimp; omega)).trans k5; have y3 := (hw'.cell (p := ⟨w.heap.size, 0, none⟩) (by dsimp; omega)).trans k0; have y4 := (hw'.cell (p := ⟨kb0, ko + c.at_, none⟩) (by dsimp; omega)).trans kc; clear hctx; go_simp; first | exact rfl | exact ⟨rfl, rfl⟩); simp only [Act.put, List.setIfInBounds_toArray, List.set_cons_succ, List.set_cons_zero, Nat.reduceAdd])
            | (apply Der.skip; (rfl); simp only [Act.put, List.setIfInBounds_toArray, List.set_cons_succ, List.set_cons_zero, Nat.reduceAdd]))
          refine Der.nil (fun w2 hgw2 hctx => ?_)
          clear hctx
          have hb2 : Below _ _ w2 := hgw2
          clear hgw2
          have e2 : Below W.heap.size W w2 := (Below.refl _ _).drew.trans hb2
          go_wp2_with (at_mapUpdate; refine wp_store _ rfl _ _ _ 103 rfl 3 4 Tryz.underlying3 Tryz.underlying103 B2 c.at_ rfl (MC.out.below e2 (by omega)) (by unfold maxLen; omega) xn (.bool true) rfl rfl hxw ?_; intro w3 g3 hmt; refine Hid.out ?_)
          refine Lib.hid ?_
          have hs2 := e2.size
          have hs3 := hmt.grown.size
          have T3 : Tw W.heap.size [B1, B2, B5] W w3 := (Tw.of_below e2).mapTurned (by simp) hmt
          have q3 : w3.cell? ⟨B3, 0, none⟩ = some (.map (some B1)) := (T3.cell (p := ⟨B3, 0, none⟩) (by dsimp; omega) (by simp; omega)).trans k3
          have q4 : w3.cell? ⟨B4, 0, none⟩ = some (.map (some B2)) := (T3.cell (p := ⟨B4, 0, none⟩) (by dsimp; omega) (by simp; omega)).trans k4
          have q5 : w3.cell? ⟨B5, 0, none⟩ = some (.int .i64 c.at_) := by
            rw [World.cell?_of_block (w := w2) (hmt.grown.block _ (by dsimp; omega) (by simp; omega)), e2.cell (p := ⟨B5, 0, none⟩) (by dsimp; omega)]; exact k5
          have f5 : w3.frozen? ⟨B5, 0, none⟩ = false := by
            rw [World.frozen?_of_block (w := w2) (hmt.grown.block _ (by dsimp; omega) (by simp; omega)), e2.frozen (p := ⟨B5, 0, none⟩) (by dsimp; omega), ← h5]; exact HI.out.f5
          have g3' : Mp Tryz.prog 3 w3 B2 (c.at_ + 1) (fun y => (updO c.cut xn true y).map Value.bool) := by rw [← upd_map Value.bool]; exact g3
          have hl3 : (Instr.lookup 103 (.map (some B2)) (.int .i64 xn) false).run Tryz.prog w3 = .ok (.bool true) w3 := by
            rw [g3'.look Tryz.underlying3 Tryz.underlying103 (zb w3) hxw]
            simp [updO]
          have me3 : Mp Tryz.prog 3 w3 B1 c.at_ (fun y => (c.ends y).map (Value.int .i64)) := (ME.out.below e2 (by omega)).kept hmt.grown (by simp; omega)
          have ewr : IntKind.i64.wrap ((c.at_ : Int) + 1) = (c.at_ : Int) + 1 := wr64 (by omega) (by omega)
          have HCUT := Lib.hid (show cutB keep c x = true from by rw [HCB.out, HC0.out]; rw [HGD.out, HKV.out]; simp)
          have G3 := Lib.hid g3'
          have TT3 := Lib.hid T3
          clear g3 g3' hmt T3
          go_wp2
          rename_i Ka ha
          refine ha _ _ ?_
          gi_wp2
          have TT5 := TT3
          have q5' := q5
          have f5' := f5
          have MC5 := G3
          have ME5 := Lib.hid (me3.mono (n' := c.at_ + 1) (by omega))
          have T5 := TT5.out.setCell (b := B5) (.inl (by simp)) 0 (.int .i64 ((c.at_ : Int) + 1))
          have hsz5 := T5.size
          have lo5 : Below w.heap.size W (w3.setCell ⟨B5, 0, none⟩ (.int .i64 ((c.at_ : Int) + 1))) := T5.below (by omega) (by intro a ha; simp at ha; omega)
          refine ⟨⟨hsz5, fun k o hk ho _ => ?_⟩, ⟨lo5, fun k hk _ o ho _ => ?_, .inl rfl⟩, ?_⟩
          · rw [T5.block k (Array.getElem?_eq_some_iff.1 ho).1 (by simp; omega)]; exact ho
          · rw [T5.block k (Array.getElem?_eq_some_iff.1 ho).1 (by simp; omega)]; exact ho
          · show CrI w _ (crK keep (pre ++ [x])) _
            rw [HST.out, HCUT.out]
            exact ⟨HI.out.low.trans lo5, by omega, (T5.cell (p := ⟨w.heap.size, 0, none⟩) (by dsimp; omega) (by simp; omega)).trans k0, by rw [h3, h1']; exact (T5.cell (p := ⟨B3, 0, none⟩) (by dsimp; omega) (by simp; omega)).trans k3, by rw [h4, h2]; exact (T5.cell (p := ⟨B4, 0, none⟩) (by dsimp; omega) (by simp; omega)).trans k4,
              by rw [h5, cell_set, if_pos rfl, q5']; simp, by rw [h5, World.frozen?_setCell]; exact f5', by rw [h1']; exact ME5.out.setCell (by dsimp; omega) _, by rw [h2]; exact MC5.out.setCell (by dsimp; omega) _⟩
        | true =>
          rw [hkv] at kc
          have HKV := Lib.hid hkv
          clear hkv
          refine wp_growIn [] 18 (by kernel_rfl) (by kernel_rfl) (by rfl) (by rfl) (by rfl) ?_
          simp only [List.take_succ_cons, List.take_zero, List.drop_succ_cons, List.drop_zero]
          repeat (first
            | (apply Der.quiet; (rfl); (rfl); (intro w' hw' hctx; have hc' := bcell hw'; have y0 := (hw'.cell (p := ⟨B4, 0, none⟩) (by dsimp; omega)).trans k4; have y1 := HLK.out w' ((Below.refl _ _).drew.trans hw'); have y2 := (hw'.cell (p := ⟨B5, 0, none⟩) (by dsimp; omega)).trans k5; have y3 := (hw'.cell (p := ⟨w.heap.size, 0, none⟩) (by dsimp; omega)).trans k0; have y4 := (hw'.cell (p := ⟨kb0, ko + c.at_, none⟩) (by dsimp; omega)).trans kc; clear hctx; go_simp; first | exact rfl | exact ⟨rfl, rfl⟩); simp only [Act.put, List.setIfInBounds_toArray, List.set_cons_succ, List.set_cons_zero, Nat.reduceAdd])
            | (apply Der.skip; (rfl); simp only [Act.put, List.setIfInBounds_toArray, List.set_cons_succ, List.set_cons_zero, Nat.reduceAdd]))
          refine Der.nil (fun w2 hgw2 hctx => ?_)
          clear hctx
          have hb2 : Below _ _ w2 := hgw2
          clear hgw2
          have e2 : Below W.heap.size W w2 := (Below.refl _ _).drew.trans hb2
          go_wp2_with (at_mapUpdate; refine wp_store _ rfl _ _ _ 103 rfl 3 4 Tryz.underlying3 Tryz.underlying103 B2 c.at_ rfl (MC.out.below e2 (by omega)) (by unfold maxLen; omega) xn (.bool false) rfl rfl hxw ?_; intro w3 g3 hmt; refine Hid.out ?_)
          refine Lib.hid ?_
          have hs2 := e2.size
          have hs3 := hmt.grown.size
          have T3 : Tw W.heap.size [B1, B2, B5] W w3 := (Tw.of_below e2).mapTurned (by simp) hmt
          have q3 : w3.cell? ⟨B3, 0, none⟩ = some (.map (some B1)) := (T3.cell (p := ⟨B3, 0, none⟩) (by dsimp; omega) (by simp; omega)).trans k3
          have q4 : w3.cell? ⟨B4, 0, none⟩ = some (.map (some B2)) := (T3.cell (p := ⟨B4, 0, none⟩) (by dsimp; omega) (by simp; omega)).trans k4
          have q5 : w3.cell? ⟨B5, 0, none⟩ = some (.int .i64 c.at_) := by
            rw [World.cell?_of_block (w := w2) (hmt.grown.block _ (by dsimp; omega) (by simp; omega)), e2.cell (p := ⟨B5, 0, none⟩) (by dsimp; omega)]; exact k5
          have f5 : w3.frozen? ⟨B5, 0, none⟩ = false := by
            rw [World.frozen?_of_block (w := w2) (hmt.grown.block _ (by dsimp; omega) (by simp; omega)), e2.frozen (p := ⟨B5, 0, none⟩) (by dsimp; omega), ← h5]; exact HI.out.f5
          have g3' : Mp Tryz.prog 3 w3 B2 (c.at_ + 1) (fun y => (updO c.cut xn false y).map Value.bool) := by rw [← upd_map Value.bool]; exact g3
          have hl3 : (Instr.lookup 103 (.map (some B2)) (.int .i64 xn) false).run Tryz.prog w3 = .ok (.bool false) w3 := by
            rw [g3'.look Tryz.underlying3 Tryz.underlying103 (zb w3) hxw]
            simp [updO]
          have me3 : Mp Tryz.prog 3 w3 B1 c.at_ (fun y => (c.ends y).map (Value.int .i64)) := (ME.out.below e2 (by omega)).kept hmt.grown (by simp; omega)
          have ewr : IntKind.i64.wrap ((c.at_ : Int) + 1) = (c.at_ : Int) + 1 := wr64 (by omega) (by omega)
          have HCUT := Lib.hid (show cutB keep c x = false from by rw [HCB.out, HC0.out]; rw [HGD.out, HKV.out]; simp [hge])
          have G3 := Lib.hid g3'
          have TT3 := Lib.hid T3
          clear g3 g3' hmt T3
          go_wp2
          rename_i Ka ha
          refine ha _ _ ?_
          have ME3 := Lib.hid me3
          gi_wp2_with (gi_at_mapUpdate; refine wpIn_store _ rfl _ _ _ 102 rfl 3 3 Tryz.underlying3 Tryz.underlying102 B1 c.at_ rfl ME3.out (by unfold maxLen; omega) xn (.int .i64 xe) rfl rfl hxw ?_; intro w5 g5 hmt5; have q5' := (World.cell?_of_block (a := ⟨B5, 0, none⟩) (hmt5.grown.block B5 (by omega) (by simp; omega))).trans q5; have f5' := (World.frozen?_of_block (a := ⟨B5, 0, none⟩) (hmt5.grown.block B5 (by omega) (by simp; omega))).trans f5)
          have TT5 := Lib.hid (TT3.out.mapTurned (by simp) hmt5)
          have MC5 := Lib.hid (G3.out.kept hmt5.grown (by simp; omega))
          have ME5 := Lib.hid (show Mp Tryz.prog 3 w5 B1 (c.at_ + 1) (fun y => (updO c.ends xn xe y).map (Value.int .i64)) by rw [← upd_map (Value.int .i64)]; exact g5)
          have T5 := TT5.out.setCell (b := B5) (.inl (by simp)) 0 (.int .i64 ((c.at_ : Int) + 1))
          have hsz5 := T5.size
          have lo5 : Below w.heap.size W (w5.setCell ⟨B5, 0, none⟩ (.int .i64 ((c.at_ : Int) + 1))) := T5.below (by omega) (by intro a ha; simp at ha; omega)
          refine ⟨⟨hsz5, fun k o hk ho _ => ?_⟩, ⟨lo5, fun k hk _ o ho _ => ?_, .inl rfl⟩, ?_⟩
          · rw [T5.block k (Array.getElem?_eq_some_iff.1 ho).1 (by simp; omega)]; exact ho
          · rw [T5.block k (Array.getElem?_eq_some_iff.1 ho).1 (by simp; omega)]; exact ho
          · show CrI w _ (crK keep (pre ++ [x])) _
            rw [HST.out, HCUT.out]
            exact ⟨HI.out.low.trans lo5, by omega, (T5.cell (p := ⟨w.heap.size, 0, none⟩) (by dsimp; omega) (by simp; omega)).trans k0, by rw [h3, h1']; exact (T5.cell (p := ⟨B3, 0, none⟩) (by dsimp; omega) (by simp; omega)).trans k3, by rw [h4, h2]; exact (T5.cell (p := ⟨B4, 0, none⟩) (by dsimp; omega) (by simp; omega)).trans k4,
              by rw [h5, cell_set, if_pos rfl, q5']; simp, by rw [h5, World.frozen?_setCell]; exact f5', by rw [h1']; exact ME5.out.setCell (by dsimp; omega) _, by rw [h2]; exact MC5.out.setCell (by dsimp; omega) _⟩
  case done =>
    rintro D ys W hD rfl hI hK
    have hDlt := (Array.getElem?_eq_some_iff.1 hK).1
    have hDW := HD.out.more hI.low (C := [D]) (by intro a ha; simp only [List.mem_cons, List.not_mem_nil, or_false] at ha; omega)
    have hbA := HD.out.hb
    have hmA := HD.out.hm
    gi_wp2_with (refine ⟨trivial, ?_⟩; gi_at_call 62; refine (callsIn_wide.2 (f_Files hDW hok)).mono ?_; rintro e w1 ⟨⟨v, rfl, own1⟩, hb1⟩; refine Hid.out ?_)
    refine Lib.hid ?_
    obtain ⟨E, hE⟩ : ∃ E, (crK keep (pieces s)).ends = E := ⟨_, rfl⟩
    obtain ⟨nE, hnE⟩ : ∃ nE, (crK keep (pieces s)).at_ = nE := ⟨_, rfl⟩
    have hEl : ∀ x e, E x = some e → 0 ≤ e ∧ e ≤ (s.at x).bs.length := fun x e he => by
      rw [← hE] at he
      obtain ⟨p, hp, e1, e2⟩ := crK_ends keep _ x e he
      have := pieces_mem hok hp
      rw [e1, e2] at this
      omega
    have hCS : crashS s keep = { s with fl := crFl s E (namesOf s), dead := false, armed := -1, failing := -1 } := by unfold crashS; rw [hE]
    have me : Mp Tryz.prog 3 W B1 nE (fun y => (E y).map (Value.int .i64)) := by rw [← h1', ← hE, ← hnE]; exact hI.me
    have k3 : W.cell? ⟨B3, 0, none⟩ = some (.map (some B1)) := by rw [← h3, ← h1']; exact hI.k3
    have hWs := hI.size
    have hDl := (Array.getElem?_eq_some_iff.1 hK).1
    have zi : ∀ w : World, (zeroValue 3).run Tryz.prog w = .ok (.int .i64 0) w := fun w => by kernel_rfl
    obtain ⟨ra, rcap, g, og, rfl, hle, hcap, hrow⟩ := row_open own1
    have hHN := namesOf_len s
    have hs1 := hb1.size
    have hbl := HD.out.blt
    have hml := HD.out.mlt
    have TW1 : Tw w.heap.size [b, m] w w1 := Tw.of_below (hI.low.trans (hb1.mono (by omega)))
    have H1 := Lib.hid (hDW.below hb1)
    have HEL := Lib.hid hEl
    have HCS := Lib.hid hCS
    have ME := Lib.hid (me.below hb1 (by omega))
    have K3 := Lib.hid ((hb1.cell (p := ⟨B3, 0, none⟩) (by dsimp; omega)).trans k3)
    have HKD := Lib.hid ((hb1.block D hDl).trans hK)
    have HROW := Lib.hid hrow
    clear hrow own1 hDW hI hE hnE hEl hCS me k3 hK stops hI0
    gi_wp2
    refine wpIn_wide.2 ?_
    go_loopw [52] (fun i wr => ∃ k : Nat, k ≤ (namesOf s).length ∧ i = .int .i64 k ∧ Disk wr ([D] ++ A) b m { s with fl := crFl s E ((namesOf s).take k) } ∧ Tw w1.heap.size [b, m] w1 wr) (fun i _ => (namesOf s).length - (intOf i).toNat)
    case atStart => exact ⟨0, Nat.zero_le _, rfl, by rw [List.take_zero, crFl_nil]; exact H1.out, Tw.refl _ _ _⟩
    case round =>
      obtain ⟨k, hk, rfl, hDr, hT⟩ := hrel
      by_cases hkl : k < (namesOf s).length
      · obtain ⟨x, hx⟩ : ∃ x, (namesOf s)[k] = x := ⟨_, rfl⟩
        have hne : namesOf s ≠ [] := fun e => by rw [e] at hkl; simp at hkl
        obtain ⟨rfl, hBg, hgo, -, hcells⟩ := HROW.out hne
        have hgl := (Array.getElem?_eq_some_iff.1 hgo).1
        have hcell := (hT.cell (p := ⟨g, k, none⟩) hgl (by simp; omega)).trans (hcells k hkl)
        rw [hx] at hcell
        have hxm := namesOf_mem.1 (hx ▸ List.getElem_mem hkl)
        have hxw : W64 x := w64 (by omega) (by omega)
        obtain ⟨f, hf⟩ := Option.isSome_iff_exists.1 hxm.2
        have hsat : s.at x = f := by unfold DS.at; rw [hf]; rfl
        have hat : ({ s with fl := crFl s E ((namesOf s).take k) } : DS).at x = f := by
          unfold DS.at crFl
          dsimp only
          rw [if_neg (hx ▸ names_notin s k hkl), hf]; rfl
        have hstep := crFl_step s E k hkl
        rw [hx, hf] at hstep
        have hlen := len_le hok hf
        have hsy := hok.sy x f hf
        obtain ⟨G, sl, g1, g2, e, -, hB, hap⟩ := hDr.look x
        rw [hat] at e hB
        obtain ⟨a0, cap0, rfl, hc1, hc2, -⟩ := hB.open
        obtain ⟨e0, he0⟩ : ∃ e0, (E x).getD 0 = e0 := ⟨_, rfl⟩
        have he2 : 0 ≤ e0 ∧ e0 ≤ f.bs.length := by
          rw [← he0]
          cases hEx : E x with
          | none => simp
          | some e9 => have := HEL.out x e9 hEx; rw [hsat] at this; simpa using this
        obtain ⟨nn, hnn⟩ : ∃ nn : Nat, max f.sy e0 = (nn : Int) := ⟨(max f.sy e0).toNat, by omega⟩
        have hnl : nn ≤ f.bs.length := by omega
        have hcr : crF E x f = if (!f.kp && (nn : Int) == 0) then none else some ⟨f.bs.take nn, nn, true⟩ := by
          unfold crF; rw [he0, hnn]; simp
        have c1 := hDr.c1
        have hblr := hDr.blt
        have hmlr := hDr.mlt
        have hTs := hT.size
        have q3 : wr.cell? ⟨B3, 0, none⟩ = some (.map (some B1)) := (hT.cell (p := ⟨B3, 0, none⟩) (by dsimp; omega) (by simp; omega)).trans K3.out
        have hB3l : B3 < wr.heap.size := by omega
        have meW : Mp Tryz.prog 3 wr B1 nE (fun y => (E y).map (Value.int .i64)) := ME.out.block (hT.block _ (by omega) (by simp; omega))
        have hl2 : (Instr.lookup 102 (.map (some B1)) (.int .i64 x) false).run Tryz.prog (wr.alloc (.cells #[.slice a0 f.bs.length cap0, .int .i64 f.sy, .bool f.kp] 75)) = .ok (.int .i64 e0) (wr.alloc (.cells #[.slice a0 f.bs.length cap0, .int .i64 f.sy, .bool f.kp] 75)) := by
          rw [(meW.alloc _).look Tryz.underlying3 Tryz.underlying102 (zi _) hxw]
          congr 1
          rw [← he0]
          cases E x <;> rfl
        have hb5 : Below wr.heap.size wr (wr.alloc (.cells #[.slice a0 f.bs.length cap0, .int .i64 f.sy, .bool f.kp] 75)) := (Below.refl _ _).alloc (Nat.le_refl _) _
        have hD5 := hDr.below hb5
        have hnm1 : ∀ gf z g9, updF (crFl s E ((namesOf s).take k)) x gf z = some g9 → 0 ≤ z ∧ z < 4 := by
          intro gf z g9 hz
          unfold updF at hz
          split at hz
          · rename_i hzx; subst hzx; omega
          · exact crFl_name hok E _ z g9 hz
        have E1 := Lib.hid e
        have HD5 := Lib.hid hD5
        have HB := Lib.hid hB
        have HAP := Lib.hid hap
        have HST := Lib.hid hstep
        have HNM := Lib.hid hnm1
        have G2 := Lib.hid g2
        have TT := Lib.hid hT
        have HCR := Lib.hid hcr
        have g15 := g1.alloc (.cells #[.slice a0 f.bs.length cap0, .int .i64 f.sy, .bool f.kp] 75)
        clear hDr hT hB hap e hf hat hsat hx hxm hcells hstep hD5 meW hnm1 hcr he0 g2
        have g25 : ∀ y, FileOp (wr.alloc (.cells #[.slice a0 f.bs.length cap0, .int .i64 f.sy, .bool f.kp] 75)) ([D] ++ A) (G y) (crFl s E ((namesOf s).take k) y) := fun y => (G2.out y).turn hb5.size (fun a ha => .inl ha) (fun k hk _ => hb5.block k hk)
        have G25 := Lib.hid g25
        clear g25
        by_cases hdel : f.kp = false ∧ nn = 0
        · obtain ⟨hkp, hn0⟩ := hdel
          subst hn0
          have hfin : (some f).bind (crF E x) = none := by simp [HCR.out, hkp]
          have HFIN := Lib.hid hfin
          rw [hkp] at hl2 hb5 g15 HD5 G25 E1
          have H5 := Lib.hid hb5
          have L2 := Lib.hid hl2
          have hl3 := L2.out
          clear hb5 hl2 hfin
          go_wp2_with (first
            | (at_lookup; refine wp_look _ rfl _ _ 69 rfl 3 75 Tryz.underlying3 Tryz.underlying69 (zero_file _) m 4 rfl g1 x rfl hxw _ E1.out ?_)
            | (at_delete; refine wp_delete _ rfl _ _ 69 3 rfl 75 Tryz.underlying3 Tryz.underlying69 m 4 rfl g15 x rfl hxw ?_; intro w7 g7 hmt))
          have h7 := Disk.mapped (gv := none) (gf := none) HD5.out G25.out rfl _ g7 hmt trivial (HNM.out none)
          have t7 : Tw wr.heap.size [b, m] wr w7 := (Tw.of_below H5.out).mapTurned (by simp) hmt
          refine ⟨⟨k + 1, by omega, by simp, ?_, TT.out.trans (t7.mono (by omega) (fun a ha => .inl ha))⟩, by simp [intOf]; omega⟩
          rw [HST.out, HFIN.out]; exact h7
        · have hfin : (some f).bind (crF E x) = some ⟨f.bs.take nn, nn, true⟩ := by
            have : (!f.kp && (nn : Int) == 0) = false := by
              cases hk9 : f.kp with
              | true => rfl
              | false =>
                have : nn ≠ 0 := fun h0 => hdel ⟨hk9, h0⟩
                simp; omega
            simp [HCR.out, this]
          have HFIN := Lib.hid hfin
          have H5 := Lib.hid hb5
          have HDEL := Lib.hid hdel
          have hbt := Lib.hid ((HB.out.grown hb5).take nn hnl)
          have c15 := HD5.out.c1
          have q05 : (wr.alloc (.cells #[.slice a0 f.bs.length cap0, .int .i64 f.sy, .bool f.kp] 75)).cell? ⟨wr.heap.size, 0, none⟩ = some (.slice a0 f.bs.length cap0) := by go_simp
          have hs5 : wr.heap.size < (wr.alloc (.cells #[.slice a0 f.bs.length cap0, .int .i64 f.sy, .bool f.kp] 75)).heap.size := by simp
          have hbl5 := HD5.out.blt
          clear hfin hb5
          cases hkp : f.kp with
          | true =>
            rw [hkp] at hl2 g15 HD5 G25 E1 H5 hbt c15 q05 hs5 hbl5
            clear hdel
            go_wp2_with (first
              | (at_lookup; refine wp_look _ rfl _ _ 69 rfl 3 75 Tryz.underlying3 Tryz.underlying69 (zero_file _) m 4 rfl g1 x rfl hxw _ E1.out ?_) | fail)
            obtain ⟨W5, hW5⟩ : ∃ W, (wr.alloc (.cells #[.slice a0 f.bs.length cap0, .int .i64 f.sy, .bool true] 75)) = W := ⟨_, rfl⟩
            rw [hW5] at g15 HD5 G25 H5 hbt c15 q05 hs5 hbl5 ⊢
            clear hW5 hl2
            refine wp_grow [] 12 (by kernel_rfl) (by kernel_rfl) (by rfl) (by rfl) ?_
            simp only [List.take_succ_cons, List.take_zero, List.drop_succ_cons, List.drop_zero]
            repeat (first
              | (apply Der.quiet; (rfl); (rfl); (intro w' hw' hctx; have hc' := bcell hw'; have y1 := (hw'.cell (p := ⟨b, 1, none⟩) hbl5).trans c15; have y2 := (hw'.cell (p := ⟨wr.heap.size, 0, none⟩) hs5).trans q05; have y3 := run_cut3 a0 f.bs.length cap0 nn hnl hc1 hc2 w'; clear hctx; go_simp; first | exact rfl | exact ⟨rfl, rfl⟩); simp only [Act.put, List.setIfInBounds_toArray, List.set_cons_succ, List.set_cons_zero, Nat.reduceAdd])
              | (apply Der.skip; (rfl); simp only [Act.put, List.setIfInBounds_toArray, List.set_cons_succ, List.set_cons_zero, Nat.reduceAdd]))
            refine Der.nil (fun w6 hgw6 hctx => ?_)
            clear hctx
            have hb6 : Below _ _ w6 := hgw6
            clear hgw6
            have e6 : Below W5.heap.size W5 w6 := (Below.refl _ _).drew.trans hb6
            have g61 := g15.below e6 HD5.out.mlt
            go_wp2_with (at_mapUpdate; refine wp_store _ rfl _ _ _ 69 rfl 3 75 Tryz.underlying3 Tryz.underlying69 m 4 rfl g61 (by unfold maxLen; omega) x (.agg #[.slice a0 nn nn, .int .i64 nn, .bool true]) rfl rfl hxw ?_; intro w7 g7 hmt)
            have hfo : FileOp w6 ([D] ++ A) (some (.agg #[.slice a0 nn nn, .int .i64 nn, .bool true])) (some ⟨f.bs.take nn, nn, true⟩) := by
              refine FileIs.turn (w := W5) (A := [D] ++ A) ⟨_, rfl, hbt.out, fun ad n c e => ?_⟩ e6.size (fun a ha => .inl ha) (fun k hk _ => e6.block k hk)
              simp only [Value.slice.injEq] at e
              have h9 := HAP.out ad _ _ (by rw [e.1])
              exact ⟨by omega, h9.2⟩
            have h7 := Disk.mapped (HD5.out.below e6) (fun y => (G25.out y).turn e6.size (fun a ha => .inl ha) (fun k hk _ => e6.block k hk)) rfl _ g7 hmt hfo (HNM.out _)
            have t7 : Tw wr.heap.size [b, m] wr w7 := (Tw.of_below (H5.out.trans (e6.mono (by omega)))).mapTurned (by simp) hmt
            refine ⟨⟨k + 1, by omega, by simp, ?_, TT.out.trans (t7.mono (by omega) (fun a ha => .inl ha))⟩, by simp [intOf]; omega⟩
            rw [HST.out, HFIN.out]; exact h7
          | false =>
            rw [hkp] at hl2 g15 HD5 G25 E1 H5 hbt c15 q05 hs5 hbl5
            have hn1 : ¬ ((nn : Int) = 0) := fun h0 => hdel ⟨hkp, by omega⟩
            clear hdel
            go_wp2_with (first
              | (at_lookup; refine wp_look _ rfl _ _ 69 rfl 3 75 Tryz.underlying3 Tryz.underlying69 (zero_file _) m 4 rfl g1 x rfl hxw _ E1.out ?_) | fail)
            obtain ⟨W5, hW5⟩ : ∃ W, (wr.alloc (.cells #[.slice a0 f.bs.length cap0, .int .i64 f.sy, .bool false] 75)) = W := ⟨_, rfl⟩
            rw [hW5] at g15 HD5 G25 H5 hbt c15 q05 hs5 hbl5 ⊢
            clear hW5 hl2
            refine wp_grow [] 12 (by kernel_rfl) (by kernel_rfl) (by rfl) (by rfl) ?_
            simp only [List.take_succ_cons, List.take_zero, List.drop_succ_cons, List.drop_zero]
            repeat (first
              | (apply Der.quiet; (rfl); (rfl); (intro w' hw' hctx; have hc' := bcell hw'; have y1 := (hw'.cell (p := ⟨b, 1, none⟩) hbl5).trans c15; have y2 := (hw'.cell (p := ⟨wr.heap.size, 0, none⟩) hs5).trans q05; have y3 := run_cut3 a0 f.bs.length cap0 nn hnl hc1 hc2 w'; clear hctx; go_simp; first | exact rfl | exact ⟨rfl, rfl⟩); simp only [Act.put, List.setIfInBounds_toArray, List.set_cons_succ, List.set_cons_zero, Nat.reduceAdd])
              | (apply Der.skip; (rfl); simp only [Act.put, List.setIfInBounds_toArray, List.set_cons_succ, List.set_cons_zero, Nat.reduceAdd]))
            refine Der.nil (fun w6 hgw6 hctx => ?_)
            clear hctx
            have hb6 : Below _ _ w6 := hgw6
            clear hgw6
            have e6 : Below W5.heap.size W5 w6 := (Below.refl _ _).drew.trans hb6
            have g61 := g15.below e6 HD5.out.mlt
            go_wp2_with (at_mapUpdate; refine wp_store _ rfl _ _ _ 69 rfl 3 75 Tryz.underlying3 Tryz.underlying69 m 4 rfl g61 (by unfold maxLen; omega) x (.agg #[.slice a0 nn nn, .int .i64 nn, .bool true]) rfl rfl hxw ?_; intro w7 g7 hmt)
            have hfo : FileOp w6 ([D] ++ A) (some (.agg #[.slice a0 nn nn, .int .i64 nn, .bool true])) (some ⟨f.bs.take nn, nn, true⟩) := by
              refine FileIs.turn (w := W5) (A := [D] ++ A) ⟨_, rfl, hbt.out, fun ad n c e => ?_⟩ e6.size (fun a ha => .inl ha) (fun k hk _ => e6.block k hk)
              simp only [Value.slice.injEq] at e
              have h9 := HAP.out ad _ _ (by rw [e.1])
              exact ⟨by omega, h9.2⟩
            have h7 := Disk.mapped (HD5.out.below e6) (fun y => (G25.out y).turn e6.size (fun a ha => .inl ha) (fun k hk _ => e6.block k hk)) rfl _ g7 hmt hfo (HNM.out _)
            have t7 : Tw wr.heap.size [b, m] wr w7 := (Tw.of_below (H5.out.trans (e6.mono (by omega)))).mapTurned (by simp) hmt
            refine ⟨⟨k + 1, by omega, by simp, ?_, TT.out.trans (t7.mono (by omega) (fun a ha => .inl ha))⟩, by simp [intOf]; omega⟩
            rw [HST.out, HFIN.out]; exact h7
      · obtain rfl : k = (namesOf s).length := by omega
        rw [List.take_length] at hDr
        have h9 := (((hDr.set5 false).set3 (-1)).set4 (-1))
        have t9 := ((hT.setCell (b := b) (.inl (by simp)) 5 (.bool false)).setCell (b := b) (.inl (by simp)) 3 (.int .i64 (-1))).setCell (b := b) (.inl (by simp)) 4 (.int .i64 (-1))
        have c5 := hDr.c5
        have c3 := hDr.c3
        have c4 := hDr.c4
        have fr := hDr.fr 5
        have fr3 := hDr.fr 3
        have fr4 := hDr.fr 4
        have H9 := Lib.hid h9
        have T9 := Lib.hid t9
        have hDr' := (t9.block D (by omega) (by simp; omega)).trans HKD.out
        have HK9 := Lib.hid hDr'
        clear hDr h9 t9 hT hDr'
        go_wp2
        gi_wp2
        refine ⟨by simp, .inl ⟨_, _, rfl, run_takeDeferred HK9.out, ?_⟩⟩
        refine ⟨_, results_tmp rfl _ _ _, rfl, ?_, ?_⟩
        · rw [HCS.out]
          refine H9.out.turn (by simp [World.putObj]) (fun a ha => ⟨.inl (List.mem_append_right _ ha), by have := HD.out.lt a ha; have := TW1.size; simp [World.putObj]; have := T9.out.size; simp at this; omega⟩) hbA hmA (fun k _ hkA => ?_) ?_ ?_
          · exact (grownBy_putObj' _ D (.deferred none)).block k (by assumption) (fun e => hkA (by cases e; simp))
          · exact (grownBy_putObj' _ D (.deferred none)).block b H9.out.blt (fun e => by cases e; omega)
          · exact (grownBy_putObj' _ D (.deferred none)).block m H9.out.mlt (fun e => by cases e; omega)
        · exact (TW1.trans (T9.out.mono (by omega) (fun a ha => .inl ha))).trans (Tw.of_below (belowK_b (w := w) (Nat.le_refl _) _ D _ _ (by omega) HK9.out rfl rfl))
  case stop =>
    rintro D c pre W _ _ h _
    exact h.elim
end
end Go.Proofs.YtkekidjjmcmjhaaGreat
