/- The events of the laws on logs; a crash of a disk all of whose files are synced; Checkpoint and Open on a calm disk. -/
import Derived.Test.YtkekidjjmcmjhaaGreatWalZ
namespace Go.Proofs.YtkekidjjmcmjhaaGreat
open Go.RowKit
set_option maxRecDepth 100000
attribute [local irreducible] Der

structure Evt where
  k : Int
  n : Int
  bv : Value
  kv : Value
  bs : List Int
  keep : List Bool
def Evt.cells (e : Evt) : List Value := [.int .i64 e.k, .int .i64 e.n, e.bv, e.kv]
def BoolN (w : World) (v : Value) (l : List Bool) : Prop := Bools w v l ∧ NilA v
structure EvIs (w : World) (e : Evt) : Prop where
  b : Byt w e.bv e.bs
  kp : BoolN w e.kv e.keep
  byte : Byte e.bs
theorem EvIs.grown {w w' : World} {e : Evt} (h : EvIs w e) (hb : Below w.heap.size w w') : EvIs w' e := ⟨h.b.grown hb, ⟨Sl.grown h.kp.1 hb, h.kp.2⟩, h.byte⟩
def EvsV (w : World) (v : Value) (l : List Evt) : Prop := (Sl w v l.length (l.flatMap Evt.cells) ∧ NilA v) ∧ ∀ e ∈ l, EvIs w e
theorem flatEv (l : List Evt) (i : Nat) (hi : i < l.length) (j : Nat) (hj : j < 4) : (l.flatMap Evt.cells)[i * 4 + j]? = (l[i].cells)[j]? := by
  induction l generalizing i with
  | nil => simp at hi
  | cons y l ih =>
    rw [List.flatMap_cons]
    have hc : y.cells.length = 4 := rfl
    cases i with
    | zero => rw [List.getElem?_append_left (by rw [hc]; omega)]; simp
    | succ i =>
      rw [List.getElem?_append_right (by rw [hc]; omega), hc, show (i + 1) * 4 + j - 4 = i * 4 + j by omega]
      exact ih i (by simpa using hi)
theorem flatEv_len (l : List Evt) : (l.flatMap Evt.cells).length = l.length * 4 := by
  induction l with
  | nil => rfl
  | cons y l ih => rw [List.flatMap_cons, List.length_append, ih]; simp [Evt.cells]; omega
theorem EvsV.open {w : World} {v : Value} {l : List Evt} (h : EvsV w v l) : ∃ a cap, v = .slice a l.length cap ∧ l.length ≤ cap ∧ cap ≤ 9223372036854775807 ∧
    ∀ i (hi : i < l.length), ∃ b off, a = some ⟨b, off, none⟩ ∧ b < w.heap.size ∧ w.cell? ⟨b, off + i * 4, none⟩ = some (.int .i64 l[i].k) ∧ w.cell? ⟨b, off + i * 4 + 1, none⟩ = some (.int .i64 l[i].n) ∧
      w.cell? ⟨b, off + i * 4 + 2, none⟩ = some l[i].bv ∧ w.cell? ⟨b, off + i * 4 + 3, none⟩ = some l[i].kv := by
  obtain ⟨a, cap, hv, hl, hm, hc⟩ := h.1.1.form
  refine ⟨a, cap, hv, hl, hm, fun i hi => ?_⟩
  have hlen := flatEv_len l
  obtain ⟨b, off, ha, hlt, hcell⟩ := hc (by intro e; rw [e] at hlen; simp at hlen; omega)
  have key : ∀ j (hj : j < 4), w.cell? ⟨b, off + i * 4 + j, none⟩ = (l[i].cells)[j]? := fun j hj => by
    have := hcell (i * 4 + j) (by rw [hlen]; omega)
    rw [← Nat.add_assoc] at this
    rw [this, ← flatEv l i hi j hj, List.getElem?_eq_getElem]
  exact ⟨b, off, ha, hlt, key 0 (by omega), key 1 (by omega), key 2 (by omega), key 3 (by omega)⟩
def kuE (k : Int) : Int := (IntKind.u64.wrap k).tmod 12
theorem kuE_lt (k : Int) : 0 ≤ kuE k ∧ kuE k < 12 := by
  unfold kuE
  have : 0 ≤ IntKind.u64.wrap k := by unfold IntKind.wrap; simp [IntKind.bits, IntKind.signed]; omega
  rw [Int.tmod_eq_emod_of_nonneg this]
  omega
theorem Bools.cut {w : World} {a : Option Addr} {n c k : Nat} {l : List Bool} (h : Bools w (.slice a n c) l) (hk : k ≤ l.length) : Bools w (.slice a k c) (l.take k) := by
  obtain ⟨a', c', e, e2, e3, h4⟩ := Sl.form h
  simp only [Value.slice.injEq] at e
  have hl : (l.take k).length = k := by rw [List.length_take]; omega
  refine ⟨a, c, by rw [hl], by omega, by omega, fun hne => ?_⟩
  obtain ⟨bb, off, e4, h5, h6⟩ := h4 (by intro e5; apply hne; rw [List.map_take, e5]; simp)
  refine ⟨bb, off, by rw [e.1, e4], h5, fun i hi => ?_⟩
  rw [List.length_map, hl] at hi
  rw [h6 i (by rw [List.length_map]; omega)]
  simp
theorem run_cutK (a : Option Addr) (n c k : Nat) (h : k ≤ n) (hc : n ≤ c) (hm : c ≤ 9223372036854775807) (w : World) :
    (Instr.sliceAt 49 (.slice a n c) none (some (.int .i64 k)) none).run Tryz.prog w = .ok (.slice a k c) w := by
  have h2 : k ≤ c := by omega
  go_simp

theorem nP_sy (f : Fi) : nP (syncF f) = 0 := by
  unfold nP syncF
  simp
def AllSy (s : DS) : Prop := ∀ x f, s.fl x = some f → f = syncF f
theorem crash_sy {s : DS} (hok : s.Ok) (h : AllSy s) (keep : List Bool) : (crashS s keep).fl = s.fl := by
  have hp : pieces s = [] := by
    unfold pieces
    rw [List.flatMap_eq_nil_iff]
    intro x hx
    unfold pieceL
    have : nP (s.at x) = 0 := by
      unfold DS.at
      cases hf : s.fl x with
      | none => rfl
      | some f => rw [h x f hf]; exact nP_sy f
    rw [this]; rfl
  funext x
  rw [crash_fl hok, hp]
  cases hf : s.fl x with
  | none => rfl
  | some f =>
    rw [h x f hf]
    show crF (fun _ => none) x (syncF f) = _
    unfold crF syncF
    simp

theorem wchk_calm {s : DS} {ws : WS} {bs : List Int} (h : LogOn s ws.most ws.parts) (hbr : ws.broken = false) (hb : Byte bs) (hl : bs.length ≤ 16000) (hf : (12 + bs.length : Int) ≤ ws.most) (hr : ((s.len 2 + s.len 3 : Nat) : Int) + 2 * (ws.most + 20) ≤ s.room) (hcm : Cm s) :
    wchkE ws s bs = 0 ∧ wchkW ws s bs = ⟨ws.most, [bs], false⟩ ∧ Cm (wchkS ws s bs) ∧ LogOn (wchkS ws s bs) ws.most [bs] ∧ (wchkS ws s bs).room = s.room ∧ (∀ y, y ≠ 0 → (wchkS ws s bs).fl y = s.fl y) ∧ (wchkS ws s bs).ops ≤ s.ops + 4 := by
  have hk : askedE ws bs.length = 0 := by unfold askedE; rw [if_neg (by simp [hbr]), if_neg (by omega)]
  have e1 : wchkE ws s bs = (makesR ws.most bs s).1 := by unfold wchkE; rw [hk, if_neg (by simp), if_neg (by omega)]
  have e2 : wchkS ws s bs = (makesR ws.most bs s).2 := by unfold wchkS; rw [hk, if_neg (by simp), if_neg (by omega)]
  have e3 : wchkW ws s bs = if (makesR ws.most bs s).1 = 0 then ⟨ws.most, [bs], false⟩ else ⟨ws.most, ws.parts, true⟩ := by unfold wchkW; rw [hk, if_neg (by simp), if_neg (by omega)]
  have h0 : s.len 0 = 20 + costL ws.parts := by unfold DS.len DS.at; rw [h.log]; exact fileB_len _ _
  have hc := h.cost
  have o := makes_out (s := s) (most := ws.most) (snap := bs) h.dead (by omega)
  obtain ⟨k1, k2⟩ := o.calm hcm
  obtain ⟨g1, g2⟩ := o.good k1
  have hg := inRowS_good [ridsR 1, appR 1 (headB ws.most ++ framB 0 bs), syncR 1, renR 1 0] (by
    intro r hr'
    simp only [List.mem_cons, List.not_mem_nil, or_false] at hr'
    rcases hr' with rfl | rfl | rfl | rfl
    · exact ridsR_good 1
    · exact appR_good 1 (headB_byte.app (framB_byte hb))
    · exact syncR_good 1
    · exact renR_good 1 0) s h.ok
  rw [e1, e2, e3, if_pos k1]
  refine ⟨k1, rfl, k2, ⟨hg.1, g2, by rw [g1, updF_same], by rw [g1, updF_ne _ _ (by decide), updF_same], h.lim, by simp only [costL]; omega, by simp, fun p hp => by simp at hp; rw [hp]; exact hb⟩, o.room, fun y hy => ?_, hg.2.1⟩
  rw [g1, updF_ne _ _ hy]
  by_cases h1 : y = 1
  · rw [h1, updF_same, h.new]
  · rw [updF_ne _ _ h1]
theorem open_calm {s : DS} {most : Int} {parts : List (List Int)} (h : LogOn s most parts) (hcm : Cm s) :
    (openR s).1 = 0 ∧ Cm (openR s).2 ∧ LogOn (openR s).2 most parts ∧ (openR s).2.room = s.room ∧ (openR s).2.fl = s.fl ∧ (openR s).2.ops ≤ s.ops + 3 ∧ mostB (s.at 0).bs = most ∧ partsB (s.at 0).bs = parts := by
  have hpn : parse1 parts.length ([] : List Int) = none := parse1_short (by simp)
  have o := open_out (s := s) (most := most) (parts := parts) (r := []) h.dead (by rw [List.append_nil]; exact h.log) (by simp) h.lim h.cost hpn h.one
  obtain ⟨k1, k2⟩ := o.calm hcm
  obtain ⟨g1, g2⟩ := o.good k1
  have hg := open_good h.ok
  have hF : (openR s).2.fl = s.fl := by
    rw [g1]
    funext z
    by_cases h1 : z = 1
    · rw [h1, updF_same, h.new]
    · rw [updF_ne _ _ h1]
      by_cases h0 : z = 0
      · rw [h0, updF_same, h.log]; simp
      · rw [updF_ne _ _ h0]
  obtain ⟨p1, p2⟩ := partsB_file (most := most) (parts := parts) (r := []) h.lim h.cost hpn
  have hat : (s.at 0).bs = fileB most parts ++ [] := by unfold DS.at; rw [h.log]; simp
  exact ⟨k1, k2, ⟨hg.1, g2, by rw [hF]; exact h.log, by rw [hF]; exact h.new, h.lim, h.cost, h.one, h.byte⟩, o.room, hF, hg.2, by rw [hat]; exact p1, by rw [hat]; exact p2⟩
end Go.Proofs.YtkekidjjmcmjhaaGreat
