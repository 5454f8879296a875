/- How vectors, rows of vectors, and cells lie in memory. -/
import Derived.Test.YtlfmffjlmhpcdaaRowZ
import Derived.Laws.AppendOwnNone
import Derived.RangeFuncNested
import Derived.RangeFuncBound
import Derived.RangeFuncCalls
import Derived.RangeFuncLeaves
import Derived.RangeFuncBox
import Derived.Shelf.RegionOpen
import Derived.OwnWalkIn
import Derived.TacticsInMore
import Derived.LoopNIn
import Derived.LoopIn
import Derived.Maps.AppendAt
namespace Go.Proofs.Ytlfmffjlmhpcdaa
open Go.RowKit
set_option maxRecDepth 100000

theorem flatMap_get {α : Type} (f : α → List Value) (C : Nat) (h0 : 0 < C) (hf : ∀ x, (f x).length = C) : ∀ (l : List α) (i : Nat) (hi : i < l.length) (j : Nat), j < C → (l.flatMap f)[i * C + j]? = (f l[i])[j]?
  | [], i, hi, _, _ => by simp at hi
  | x :: l, 0, _, j, hj => by
    rw [List.flatMap_cons, Nat.zero_mul, Nat.zero_add, List.getElem?_append_left (by rw [hf]; exact hj)]; rfl
  | x :: l, i + 1, hi, j, hj => by
    rw [List.flatMap_cons, List.getElem?_append_right (by rw [hf, Nat.succ_mul]; omega), hf, show (i + 1) * C + j - C = i * C + j by rw [Nat.succ_mul]; omega]
    exact flatMap_get f C h0 hf l i (by simpa using hi) j hj
theorem flatMap_len {α : Type} (f : α → List Value) (C : Nat) (hf : ∀ x, (f x).length = C) : ∀ (l : List α), (l.flatMap f).length = l.length * C
  | [] => by simp
  | x :: l => by rw [List.flatMap_cons, List.length_append, hf, flatMap_len f C hf l, List.length_cons, Nat.succ_mul]; omega
theorem Sl.openG {α : Type} (f : α → List Value) (C : Nat) (h0 : 0 < C) (hf : ∀ x, (f x).length = C) {w : World} {v : Value} {l : List α} (h : Sl w v l.length (l.flatMap f)) :
    ∃ a cap, v = .slice a l.length cap ∧ l.length ≤ cap ∧ cap ≤ 9223372036854775807 ∧
      ∀ i (hi : i < l.length), ∃ b off, a = some ⟨b, off, none⟩ ∧ b < w.heap.size ∧ ∀ j, j < C → w.cell? ⟨b, off + i * C + j, none⟩ = (f l[i])[j]? := by
  obtain ⟨a, cap, hv, hl, hm, hc⟩ := h.form
  refine ⟨a, cap, hv, hl, hm, fun i hi => ?_⟩
  have hlen := flatMap_len f C hf l
  have hlt : ∀ j, j < C → i * C + j < (l.flatMap f).length := fun j hj => by
    rw [hlen]
    have : (i + 1) * C ≤ l.length * C := Nat.mul_le_mul_right C hi
    rw [Nat.succ_mul] at this; omega
  obtain ⟨b, off, ha, hb, hcell⟩ := hc (by intro e; have := hlt 0 h0; rw [e] at this; simp at this)
  refine ⟨b, off, ha, hb, fun j hj => ?_⟩
  have := hcell (i * C + j) (hlt j hj)
  rw [← Nat.add_assoc] at this
  rw [this, ← List.getElem?_eq_getElem (hlt j hj), flatMap_get f C h0 hf l i hi j hj]

/-- A slice's value: nil, or with an address. -/
def NilA (v : Value) : Prop := v = .slice none 0 0 ∨ ∃ ad n c, v = .slice (some ad) n c
theorem NilA.of_none {n c : Nat} (h : NilA (.slice none n c)) : n = 0 ∧ c = 0 := by
  rcases h with h | ⟨_, _, _, h⟩
  · simp only [Value.slice.injEq, true_and] at h; exact h
  · simp at h
theorem NilA.nil : NilA (.slice none 0 0) := .inl rfl
theorem NilA.of_some (ad : Addr) (n c : Nat) : NilA (.slice (Option.some ad) n c) := .inr ⟨ad, n, c, rfl⟩
theorem NilA.of_owns {w : World} {B e size n : Nat} {v : Value} {xs : List Value} (h : w.ownsRow B e size v n xs) : NilA v := by
  rcases h.2 with ⟨rfl, _⟩ | ⟨g, cap, cur, rfl, _⟩
  · exact .inl rfl
  · exact .inr ⟨_, _, _, rfl⟩
/-- What an owned row holds, as a slice. -/
theorem Sl.of_owns {w : World} {B e size n : Nat} {v : Value} {xs : List Value} (h : w.ownsRow B e size v n xs) : Sl w v n xs := by
  rcases h.2 with ⟨rfl, h0⟩ | ⟨g, cap, cur, rfl, hB, hg, hl, hm, hs, hx⟩
  · have hlen := h.1
    subst h0
    have : xs = [] := List.eq_nil_of_length_eq_zero (by omega)
    subst this
    exact Sl.nilS w
  · have hlt : g < w.heap.size := (Array.getElem?_eq_some_iff.1 hg).1
    have hm' : cap ≤ 9223372036854775807 := by unfold maxLen at hm; omega
    refine Sl.of_cells hlt hl hm' fun i hi => ?_
    have := h.cells (g := g) rfl i _ (List.getElem?_eq_getElem hi)
    have e : (⟨g, 0, none⟩ : Addr).add i = ⟨g, i, none⟩ := by unfold Addr.add; split <;> simp_all
    rw [e] at this
    exact this
theorem Sl.news {w : World} {ad : Addr} {n cap : Nat} {xs : List Value} (h : Sl w (.slice (some ad) n cap) n xs) {w' : World} (hb : Below w.heap.size w w') :
    ∀ j u, xs[j]? = some u → w'.cell? (ad.add j) = some u := by
  intro j u hu
  obtain ⟨a, cap', hv, _, _, hc⟩ := h.form
  obtain ⟨hj, he⟩ := List.getElem?_eq_some_iff.1 hu
  obtain ⟨b, off, ha, hlt, hcell⟩ := hc (by intro e; rw [e] at hj; simp at hj)
  simp only [Value.slice.injEq] at hv
  rw [← hv.1] at ha
  obtain rfl : ad = ⟨b, off, none⟩ := by simpa using ha
  have e : (⟨b, off, none⟩ : Addr).add j = ⟨b, off + j, none⟩ := by unfold Addr.add; split <;> simp_all
  rw [e, hb.cell (p := ⟨b, off + j, none⟩) hlt, hcell j hj, he]
/-- append(s, x...): s a row of the call's own, x whatever slice, nil or with an address. -/
theorem append_any {P : Program} {w : World} {ops : Array Oper} {rest : List Oper} {o : Oper} {a : Act} {Q : Exit → Act → World → Prop} (hgd : o.guard = none) (s x : Operand) (t : TypeId)
    (ho : o.op = .call { callee := .builtin .append, args := #[s, x], argTypes := #[t, t] }) (base : Nat) (e : TypeId) (z : Value) (size bytes : Nat) (ht : P.underlying t = some (.slice e))
    (hinfo : (P.info? e).map (fun i => (i.zero, i.size, i.bytes)) = some (some z, size, bytes)) (hzs : z.cells.size = size) (hsz : 0 < size)
    (v : Value) (n : Nat) (xs : List Value) (hs : a.eval s = v) (hown : w.ownsRow base e size v n xs)
    (vx : Value) (m : Nat) (news : List Value) (hx : a.eval x = vx) (hsl : Sl w vx m news) (hnil : NilA vx) (hl : news.length = m * size) (h1 : ∀ u ∈ news, u.oneCell' = true)
    (h63 : n + m ≤ maxLen) (hbytes : (n + m) * bytes ≤ 140737488355328) (hbase : base ≤ w.heap.size)
    (h : ∀ v' w', w'.ownsRow base e size v' (n + m) (xs ++ news) → w.grownBy w' v.ownBlock → wpList P ops Q rest (a.put o.dst v') w') : wpList P ops Q (o :: rest) a w := by
  obtain ⟨i0, hi, hz0, hz1, hz2⟩ := info_parts hinfo
  obtain ⟨p, cap, rfl, hle, hmx, hc⟩ := hsl.form
  cases p with
  | none =>
    obtain ⟨rfl, rfl⟩ := hnil.of_none
    have en : news = [] := List.eq_nil_of_length_eq_zero (by omega)
    subst en
    refine wpList_append_own_none hgd s x t ho base e i0 size ht hi v n xs hs hown hx ?_
    exact h v w (by simpa using hown) ⟨rfl, rfl, rfl, Nat.le_refl _, fun _ _ _ => rfl⟩
  | some ad =>
    exact wpList_append_own _ hgd s x t ho base e i0 z size bytes ht hi hz0 hz1 hz2 hzs hsz v n xs hs hown ad m cap news hx hl (hsl.news (Below.refl _ _)) h1 h63 hbytes hbase (fun v' w' h2 h3 _ => h v' w' h2 h3)

/-- A vector: a slice of int32s. -/
def VecV (w : World) (v : Value) (l : List Int) : Prop := Sl w v l.length (l.flatMap fun x => [.int .i32 x]) ∧ NilA v
theorem VecV.grown {w w' : World} {v : Value} {l : List Int} (h : VecV w v l) (hb : Below w.heap.size w w') : VecV w' v l := ⟨Sl.grown h.1 hb, h.2⟩
theorem VecV.open {w : World} {v : Value} {l : List Int} (h : VecV w v l) : ∃ a cap, v = .slice a l.length cap ∧ l.length ≤ cap ∧ cap ≤ 9223372036854775807 ∧
    ∀ i (hi : i < l.length), ∃ b off, a = some ⟨b, off, none⟩ ∧ b < w.heap.size ∧ w.cell? ⟨b, off + i, none⟩ = some (.int .i32 l[i]) := by
  obtain ⟨a, cap, hv, hl, hm, hc⟩ := Sl.openG (fun x => [.int .i32 x]) 1 (by omega) (fun _ => rfl) h.1
  refine ⟨a, cap, hv, hl, hm, fun i hi => ?_⟩
  obtain ⟨b, off, ha, hb, hj⟩ := hc i hi
  exact ⟨b, off, ha, hb, by have := hj 0 (by omega); rw [Nat.mul_one, Nat.add_zero] at this; exact this⟩
theorem VecV.form {w : World} {v : Value} {l : List Int} (h : VecV w v l) : ∃ a cap, v = .slice a l.length cap ∧ l.length ≤ cap ∧ cap ≤ 9223372036854775807 := by
  obtain ⟨a, cap, hv, hl, hm, -⟩ := h.open; exact ⟨a, cap, hv, hl, hm⟩

/-- A vector in memory: the slice's value, and what it holds. -/
abbrev PV := Value × List Int
/-- A row of vectors. -/
def VecsV (w : World) (v : Value) (l : List PV) : Prop := (Sl w v l.length (l.flatMap fun p => [p.1]) ∧ NilA v) ∧ ∀ p ∈ l, VecV w p.1 p.2
theorem VecsV.grown {w w' : World} {v : Value} {l : List PV} (h : VecsV w v l) (hb : Below w.heap.size w w') : VecsV w' v l := ⟨⟨Sl.grown h.1.1 hb, h.1.2⟩, fun p hp => (h.2 p hp).grown hb⟩
theorem VecsV.open {w : World} {v : Value} {l : List PV} (h : VecsV w v l) : ∃ a cap, v = .slice a l.length cap ∧ l.length ≤ cap ∧ cap ≤ 9223372036854775807 ∧
    ∀ i (hi : i < l.length), ∃ b off, a = some ⟨b, off, none⟩ ∧ b < w.heap.size ∧ w.cell? ⟨b, off + i, none⟩ = some l[i].1 := by
  obtain ⟨a, cap, hv, hl, hm, hc⟩ := Sl.openG (fun p : PV => [p.1]) 1 (by omega) (fun _ => rfl) h.1.1
  refine ⟨a, cap, hv, hl, hm, fun i hi => ?_⟩
  obtain ⟨b, off, ha, hb, hj⟩ := hc i hi
  exact ⟨b, off, ha, hb, by have := hj 0 (by omega); rw [Nat.mul_one, Nat.add_zero] at this; exact this⟩

/-- A cell: what its five cells of memory hold, and the vector behind the last one. -/
structure Cel where
  used : Bool
  id : Int
  b : Int
  e : Int
  sv : Value
  vec : List Int
def Cel.cells (c : Cel) : List Value := [.bool c.used, .int .u64 c.id, .int .u64 c.b, .int .u64 c.e, c.sv]
def CelsV (w : World) (v : Value) (l : List Cel) : Prop := (Sl w v l.length (l.flatMap Cel.cells) ∧ NilA v) ∧ ∀ c ∈ l, VecV w c.sv c.vec
theorem CelsV.grown {w w' : World} {v : Value} {l : List Cel} (h : CelsV w v l) (hb : Below w.heap.size w w') : CelsV w' v l := ⟨⟨Sl.grown h.1.1 hb, h.1.2⟩, fun p hp => (h.2 p hp).grown hb⟩
theorem CelsV.open {w : World} {v : Value} {l : List Cel} (h : CelsV w v l) : ∃ a cap, v = .slice a l.length cap ∧ l.length ≤ cap ∧ cap ≤ 9223372036854775807 ∧
    ∀ i (hi : i < l.length), ∃ b off, a = some ⟨b, off, none⟩ ∧ b < w.heap.size ∧ w.cell? ⟨b, off + i * 5, none⟩ = some (.bool l[i].used) ∧ w.cell? ⟨b, off + i * 5 + 1, none⟩ = some (.int .u64 l[i].id) ∧
      w.cell? ⟨b, off + i * 5 + 2, none⟩ = some (.int .u64 l[i].b) ∧ w.cell? ⟨b, off + i * 5 + 3, none⟩ = some (.int .u64 l[i].e) ∧ w.cell? ⟨b, off + i * 5 + 4, none⟩ = some l[i].sv := by
  obtain ⟨a, cap, hv, hl, hm, hc⟩ := Sl.openG Cel.cells 5 (by omega) (fun _ => rfl) h.1.1
  refine ⟨a, cap, hv, hl, hm, fun i hi => ?_⟩
  obtain ⟨b, off, ha, hb, hj⟩ := hc i hi
  exact ⟨b, off, ha, hb, hj 0 (by omega), hj 1 (by omega), hj 2 (by omega), hj 3 (by omega), hj 4 (by omega)⟩

theorem Cel.cells_len (l : List Cel) : (l.flatMap Cel.cells).length = l.length * 5 := flatMap_len Cel.cells 5 (fun _ => rfl) l
theorem VecV.one {w : World} {v : Value} {l : List Int} (h : VecV w v l) : v.oneCell' = true := by
  obtain ⟨a, cap, rfl, -⟩ := h.form; rfl
theorem Cels.one {w : World} {l : List Cel} (h : ∀ c ∈ l, VecV w c.sv c.vec) : ∀ u ∈ l.flatMap Cel.cells, u.oneCell' = true := by
  intro u hu
  obtain ⟨c, hc, hm⟩ := List.mem_flatMap.1 hu
  unfold Cel.cells at hm
  simp only [List.mem_cons, List.not_mem_nil, or_false] at hm
  rcases hm with rfl | rfl | rfl | rfl | rfl
  · rfl
  · rfl
  · rfl
  · rfl
  · exact (h c hc).one
theorem Vecs.one {w : World} {l : List PV} (h : ∀ p ∈ l, VecV w p.1 p.2) : ∀ u ∈ l.flatMap (fun p : PV => [p.1]), u.oneCell' = true := by
  intro u hu
  obtain ⟨c, hc, hm⟩ := List.mem_flatMap.1 hu
  simp only [List.mem_cons, List.not_mem_nil, or_false] at hm
  rw [hm]; exact (h c hc).one
theorem Vec.one {l : List Int} : ∀ u ∈ l.flatMap (fun x => [Value.int .i32 x]), u.oneCell' = true := by
  intro u hu
  obtain ⟨c, hc, hm⟩ := List.mem_flatMap.1 hu
  simp only [List.mem_cons, List.not_mem_nil, or_false] at hm
  rw [hm]; rfl
theorem info_vec : (Try.prog.info? 21).map (fun i => (i.zero, i.size, i.bytes)) = some (some (.int .i32 0), 1, 4) := by kernel_rfl
theorem info_vecs : (Try.prog.info? 56).map (fun i => (i.zero, i.size, i.bytes)) = some (some (.slice none 0 0), 1, 24) := by kernel_rfl
theorem info_cell : (Try.prog.info? 60).map (fun i => (i.zero, i.size, i.bytes)) = some (some (.agg #[.bool false, .int .u64 0, .int .u64 0, .int .u64 0, .slice none 0 0]), 5, 56) := by kernel_rfl

/-- Where the first of a row is of which something holds; -1: there is none. -/
def idxF {α : Type} (p : α → Bool) (l : List α) : Int := match l.findIdx? p with | some i => (i : Int) | none => -1
theorem idxF_hit {α : Type} (p : α → Bool) (l : List α) (k : Nat) (h : k < l.length) (hb : ∀ x ∈ l.take k, p x = false) (hh : p l[k] = true) : idxF p l = k := by
  have : l.findIdx? p = some k := by
    rw [List.findIdx?_eq_some_iff_getElem]
    refine ⟨h, hh, fun j hj => ?_⟩
    have := hb l[j] (by rw [List.mem_take_iff_getElem]; exact ⟨j, by omega, rfl⟩)
    simp [this]
  unfold idxF; rw [this]
theorem idxF_none {α : Type} (p : α → Bool) (l : List α) (hb : ∀ x ∈ l, p x = false) : idxF p l = -1 := by
  have : l.findIdx? p = none := by rw [List.findIdx?_eq_none_iff]; exact fun x hx => hb x hx
  unfold idxF; rw [this]
theorem idxF_any {α : Type} (p : α → Bool) (l : List α) : decide (0 ≤ idxF p l) = l.any p := by
  unfold idxF
  cases h : l.findIdx? p with
  | none =>
    rw [List.findIdx?_eq_none_iff] at h
    have : l.any p = false := by rw [List.any_eq_false]; intro x hx; simp [h x hx]
    rw [this]; rfl
  | some i =>
    rw [List.findIdx?_eq_some_iff_getElem] at h
    obtain ⟨hi, hp, -⟩ := h
    have : l.any p = true := List.any_eq_true.2 ⟨l[i], List.getElem_mem hi, hp⟩
    rw [this]; simp
theorem take_snoc_false {α : Type} {p : α → Bool} {l : List α} {k : Nat} (h : k < l.length) (hb : ∀ x ∈ l.take k, p x = false) (hh : p l[k] = false) : ∀ x ∈ l.take (k + 1), p x = false := by
  intro x hx
  rw [List.take_succ_eq_append_getElem h] at hx
  rcases List.mem_append.1 hx with hx | hx
  · exact hb x hx
  · rw [List.mem_singleton] at hx; rw [hx]; exact hh
end Go.Proofs.Ytlfmffjlmhpcdaa

/- slices.IndexFunc and slices.ContainsFunc over vectors, rows of vectors, and cells: for every function value whose calls give a predicate. -/
namespace Go.Proofs.Ytlfmffjlmhpcdaa
open Go.RowKit
set_option maxRecDepth 100000

/-- The calls of function k, with what it has captured, give p x at each x that is handed to it, in every world that has grown from w. -/
def PredOn {α : Type} (k : Nat) (lb : Array Value) (arg : α → Value) (p : α → Bool) (l : List α) (w : World) : Prop :=
  ∀ x ∈ l, ∀ w', Below w.heap.size w w' → Calls Try.prog k (#[arg x] ++ lb) w' fun e w'' => e = .returned (.bool (p x)) ∧ Below w'.heap.size w' w''
theorem take_all {α : Type} {P : α → Prop} {l : List α} (h : ∀ x ∈ l.take l.length, P x) : ∀ x ∈ l, P x := by rwa [List.take_length] at h

/-- Vectors. -/
def argI (x : Int) : Value := .int .i32 x
def argV (p : PV) : Value := p.1
def argC (c : Cel) : Value := .agg #[.bool c.used, .int .u64 c.id, .int .u64 c.b, .int .u64 c.e, c.sv]
set_option maxHeartbeats 1000000 in
theorem idxI (k : Nat) (lb : Array Value) (eg : ∀ args w, (callFunc k args).run Try.prog w = .ok (.enter k args) w) (p : Int → Bool) (v : Value) (l : List Int) (w : World) (h : VecV w v l) (hp : PredOn k lb argI p l w) :
    Calls Try.prog 116 #[v, .func (.func k) #[] lb] w fun e w' => e = .returned (.int .i64 (idxF p l)) ∧ Below w.heap.size w w' := by
  obtain ⟨a, cap, rfl, hl, hm, hcell⟩ := h.open
  have Hc := Lib.hid hcell
  have HP := Lib.hid hp
  have HY := Lib.hid (idxF_hit p l)
  have HN := Lib.hid (idxF_none p l)
  have HS := Lib.hid (fun k h hb hh => take_snoc_false (p := p) (l := l) (k := k) h hb hh)
  clear hcell hp h
  go_enter Try.func116, Try.ntmps116
  go_wp2
  go_loopw [8] (fun i wr => ∃ j : Nat, j ≤ l.length ∧ i = .int .i64 j ∧ (∀ x ∈ l.take j, p x = false) ∧ Below w.heap.size w wr) (fun i _ => l.length - (intOf i).toNat)
  case atStart => exact ⟨0, Nat.zero_le _, rfl, by simp, Below.refl _ _⟩
  case round =>
    obtain ⟨j, hj, rfl, hall, hbr⟩ := hrel
    have HA := Lib.hid hall
    clear hall
    have hsz := hbr.size
    by_cases hlt2 : j < l.length
    · obtain ⟨b,off,rfl,hlt,g1⟩ := Hc.out j hlt2
      have HX := Lib.hid (HP.out l[j] (List.getElem_mem hlt2))
      have HYj := Lib.hid (HY.out j hlt2 HA.out)
      have HSj := Lib.hid (HS.out j hlt2 HA.out)
      generalize l[j] = y at *
      have e1 := (hbr.cell (p := ⟨b, off + j, none⟩) hlt).trans g1
      clear g1
      cases hh : p y
      · have HH := Lib.hid hh
        have HS2 := Lib.hid (HSj.out hh)
        clear hh
        go_wp2_with fail
        refine (HX.out _ hbr).mono ?_
        rintro e w2 ⟨rfl, hb2⟩
        rw [HH.out]
        go_wp2
        go_roundw
        case rel => exact ⟨j + 1, by omega, by go_num, HS2.out, by ((have shb2 := hb2.size); (try simp at shb2); (have shbr := hbr.size); (try simp at shbr); (repeat' (first | (with_reducible exact Below.refl _ _) | (with_reducible refine Below.setCell ?_ ?_ _) | (with_reducible refine Below.alloc ?_ ?_ _) | (with_reducible refine Below.drew ?_) | (with_reducible refine Below.trans ?_ (Below.mono hb2 ?_)) | (with_reducible refine Below.trans ?_ (Below.mono hbr ?_)) | go_size)))⟩
        case measure => simp [intOf]; omega
      · have HH := Lib.hid hh
        have HY2 := Lib.hid (HYj.out hh)
        clear hh
        go_wp2_with fail
        refine (HX.out _ hbr).mono ?_
        rintro e w2 ⟨rfl, hb2⟩
        rw [HH.out]
        go_wp2
        go_ret
        refine ⟨by rw [HY2.out]; rfl, ?_⟩
        ((have shb2 := hb2.size); (try simp at shb2); (have shbr := hbr.size); (try simp at shbr); (repeat' (first | (with_reducible exact Below.refl _ _) | (with_reducible refine Below.setCell ?_ ?_ _) | (with_reducible refine Below.alloc ?_ ?_ _) | (with_reducible refine Below.drew ?_) | (with_reducible refine Below.trans ?_ (Below.mono hb2 ?_)) | (with_reducible refine Below.trans ?_ (Below.mono hbr ?_)) | go_size)))
    · have : j = l.length := by omega
      subst this
      have HN2 := Lib.hid (HN.out (take_all HA.out))
      go_wp2
      go_ret
      exact ⟨by rw [HN2.out]; rfl, hbr⟩
theorem anyI (k : Nat) (lb : Array Value) (eg : ∀ args w, (callFunc k args).run Try.prog w = .ok (.enter k args) w) (p : Int → Bool) (v : Value) (l : List Int) (w : World) (h : VecV w v l) (hp : PredOn k lb argI p l w) :
    Calls Try.prog 107 #[v, .func (.func k) #[] lb] w fun e w' => e = .returned (.bool (l.any p)) ∧ Below w.heap.size w w' := by
  obtain ⟨a, cap, hv, hl, hm, -⟩ := h.open
  have HA := Lib.hid (idxF_any p l)
  have HI := fun w => Lib.hid (idxI k lb eg p v l w)
  have H := Lib.hid h
  have HP := Lib.hid hp
  subst hv
  clear h hp eg
  go_enter Try.func107, Try.ntmps107
  go_wp2_with fail
  refine ((HI _).out H.out HP.out).mono ?_
  rintro e w1 ⟨rfl, hb1⟩
  generalize idxF p l = z at *
  go_wp2
  go_ret
  refine ⟨congrArg (fun b => Ending.returned (Value.bool b)) HA.out, ?_⟩
  ((have shb1 := hb1.size); (try simp at shb1); (repeat' (first | (with_reducible exact Below.refl _ _) | (with_reducible refine Below.setCell ?_ ?_ _) | (with_reducible refine Below.alloc ?_ ?_ _) | (with_reducible refine Below.drew ?_) | (with_reducible refine Below.trans ?_ (Below.mono hb1 ?_)) | go_size)))
set_option maxHeartbeats 1000000 in
theorem idxPV (k : Nat) (lb : Array Value) (eg : ∀ args w, (callFunc k args).run Try.prog w = .ok (.enter k args) w) (p : PV → Bool) (v : Value) (l : List PV) (w : World) (h : VecsV w v l) (hp : PredOn k lb argV p l w) :
    Calls Try.prog 109 #[v, .func (.func k) #[] lb] w fun e w' => e = .returned (.int .i64 (idxF p l)) ∧ Below w.heap.size w w' := by
  obtain ⟨a, cap, rfl, hl, hm, hcell⟩ := h.open
  have Hc := Lib.hid hcell
  have HP := Lib.hid hp
  have HY := Lib.hid (idxF_hit p l)
  have HN := Lib.hid (idxF_none p l)
  have HS := Lib.hid (fun k h hb hh => take_snoc_false (p := p) (l := l) (k := k) h hb hh)
  clear hcell hp h
  go_enter Try.func109, Try.ntmps109
  go_wp2
  go_loopw [8] (fun i wr => ∃ j : Nat, j ≤ l.length ∧ i = .int .i64 j ∧ (∀ x ∈ l.take j, p x = false) ∧ Below w.heap.size w wr) (fun i _ => l.length - (intOf i).toNat)
  case atStart => exact ⟨0, Nat.zero_le _, rfl, by simp, Below.refl _ _⟩
  case round =>
    obtain ⟨j, hj, rfl, hall, hbr⟩ := hrel
    have HA := Lib.hid hall
    clear hall
    have hsz := hbr.size
    by_cases hlt2 : j < l.length
    · obtain ⟨b,off,rfl,hlt,g1⟩ := Hc.out j hlt2
      have HX := Lib.hid (HP.out l[j] (List.getElem_mem hlt2))
      have HYj := Lib.hid (HY.out j hlt2 HA.out)
      have HSj := Lib.hid (HS.out j hlt2 HA.out)
      generalize l[j] = y at *
      have e1 := (hbr.cell (p := ⟨b, off + j, none⟩) hlt).trans g1
      clear g1
      cases hh : p y
      · have HH := Lib.hid hh
        have HS2 := Lib.hid (HSj.out hh)
        clear hh
        go_wp2_with fail
        refine (HX.out _ hbr).mono ?_
        rintro e w2 ⟨rfl, hb2⟩
        rw [HH.out]
        go_wp2
        go_roundw
        case rel => exact ⟨j + 1, by omega, by go_num, HS2.out, by ((have shb2 := hb2.size); (try simp at shb2); (have shbr := hbr.size); (try simp at shbr); (repeat' (first | (with_reducible exact Below.refl _ _) | (with_reducible refine Below.setCell ?_ ?_ _) | (with_reducible refine Below.alloc ?_ ?_ _) | (with_reducible refine Below.drew ?_) | (with_reducible refine Below.trans ?_ (Below.mono hb2 ?_)) | (with_reducible refine Below.trans ?_ (Below.mono hbr ?_)) | go_size)))⟩
        case measure => simp [intOf]; omega
      · have HH := Lib.hid hh
        have HY2 := Lib.hid (HYj.out hh)
        clear hh
        go_wp2_with fail
        refine (HX.out _ hbr).mono ?_
        rintro e w2 ⟨rfl, hb2⟩
        rw [HH.out]
        go_wp2
        go_ret
        refine ⟨by rw [HY2.out]; rfl, ?_⟩
        ((have shb2 := hb2.size); (try simp at shb2); (have shbr := hbr.size); (try simp at shbr); (repeat' (first | (with_reducible exact Below.refl _ _) | (with_reducible refine Below.setCell ?_ ?_ _) | (with_reducible refine Below.alloc ?_ ?_ _) | (with_reducible refine Below.drew ?_) | (with_reducible refine Below.trans ?_ (Below.mono hb2 ?_)) | (with_reducible refine Below.trans ?_ (Below.mono hbr ?_)) | go_size)))
    · have : j = l.length := by omega
      subst this
      have HN2 := Lib.hid (HN.out (take_all HA.out))
      go_wp2
      go_ret
      exact ⟨by rw [HN2.out]; rfl, hbr⟩
theorem anyPV (k : Nat) (lb : Array Value) (eg : ∀ args w, (callFunc k args).run Try.prog w = .ok (.enter k args) w) (p : PV → Bool) (v : Value) (l : List PV) (w : World) (h : VecsV w v l) (hp : PredOn k lb argV p l w) :
    Calls Try.prog 87 #[v, .func (.func k) #[] lb] w fun e w' => e = .returned (.bool (l.any p)) ∧ Below w.heap.size w w' := by
  obtain ⟨a, cap, hv, hl, hm, -⟩ := h.open
  have HA := Lib.hid (idxF_any p l)
  have HI := fun w => Lib.hid (idxPV k lb eg p v l w)
  have H := Lib.hid h
  have HP := Lib.hid hp
  subst hv
  clear h hp eg
  go_enter Try.func87, Try.ntmps87
  go_wp2_with fail
  refine ((HI _).out H.out HP.out).mono ?_
  rintro e w1 ⟨rfl, hb1⟩
  generalize idxF p l = z at *
  go_wp2
  go_ret
  refine ⟨congrArg (fun b => Ending.returned (Value.bool b)) HA.out, ?_⟩
  ((have shb1 := hb1.size); (try simp at shb1); (repeat' (first | (with_reducible exact Below.refl _ _) | (with_reducible refine Below.setCell ?_ ?_ _) | (with_reducible refine Below.alloc ?_ ?_ _) | (with_reducible refine Below.drew ?_) | (with_reducible refine Below.trans ?_ (Below.mono hb1 ?_)) | go_size)))
set_option maxHeartbeats 1000000 in
theorem idxC (k : Nat) (lb : Array Value) (eg : ∀ args w, (callFunc k args).run Try.prog w = .ok (.enter k args) w) (p : Cel → Bool) (v : Value) (l : List Cel) (w : World) (h : CelsV w v l) (hp : PredOn k lb argC p l w) :
    Calls Try.prog 78 #[v, .func (.func k) #[] lb] w fun e w' => e = .returned (.int .i64 (idxF p l)) ∧ Below w.heap.size w w' := by
  obtain ⟨a, cap, rfl, hl, hm, hcell⟩ := h.open
  have Hc := Lib.hid hcell
  have HP := Lib.hid hp
  have HY := Lib.hid (idxF_hit p l)
  have HN := Lib.hid (idxF_none p l)
  have HS := Lib.hid (fun k h hb hh => take_snoc_false (p := p) (l := l) (k := k) h hb hh)
  clear hcell hp h
  go_enter Try.func78, Try.ntmps78
  go_wp2
  go_loopw [8] (fun i wr => ∃ j : Nat, j ≤ l.length ∧ i = .int .i64 j ∧ (∀ x ∈ l.take j, p x = false) ∧ Below w.heap.size w wr) (fun i _ => l.length - (intOf i).toNat)
  case atStart => exact ⟨0, Nat.zero_le _, rfl, by simp, Below.refl _ _⟩
  case round =>
    obtain ⟨j, hj, rfl, hall, hbr⟩ := hrel
    have HA := Lib.hid hall
    clear hall
    have hsz := hbr.size
    by_cases hlt2 : j < l.length
    · obtain ⟨b,off,rfl,hlt,g1,g2,g3,g4,g5⟩ := Hc.out j hlt2
      have HX := Lib.hid (HP.out l[j] (List.getElem_mem hlt2))
      have HYj := Lib.hid (HY.out j hlt2 HA.out)
      have HSj := Lib.hid (HS.out j hlt2 HA.out)
      generalize l[j] = y at *
      have e1 := (hbr.cell (p := ⟨b, off + j * 5, none⟩) hlt).trans g1
      have e2 := (hbr.cell (p := ⟨b, off + j * 5 + 1, none⟩) hlt).trans g2
      have e3 := (hbr.cell (p := ⟨b, off + j * 5 + 2, none⟩) hlt).trans g3
      have e4 := (hbr.cell (p := ⟨b, off + j * 5 + 3, none⟩) hlt).trans g4
      have e5 := (hbr.cell (p := ⟨b, off + j * 5 + 4, none⟩) hlt).trans g5
      clear g1 g2 g3 g4 g5
      cases hh : p y
      · have HH := Lib.hid hh
        have HS2 := Lib.hid (HSj.out hh)
        clear hh
        go_wp2_with fail
        refine (HX.out _ hbr).mono ?_
        rintro e w2 ⟨rfl, hb2⟩
        rw [HH.out]
        go_wp2
        go_roundw
        case rel => exact ⟨j + 1, by omega, by go_num, HS2.out, by ((have shb2 := hb2.size); (try simp at shb2); (have shbr := hbr.size); (try simp at shbr); (repeat' (first | (with_reducible exact Below.refl _ _) | (with_reducible refine Below.setCell ?_ ?_ _) | (with_reducible refine Below.alloc ?_ ?_ _) | (with_reducible refine Below.drew ?_) | (with_reducible refine Below.trans ?_ (Below.mono hb2 ?_)) | (with_reducible refine Below.trans ?_ (Below.mono hbr ?_)) | go_size)))⟩
        case measure => simp [intOf]; omega
      · have HH := Lib.hid hh
        have HY2 := Lib.hid (HYj.out hh)
        clear hh
        go_wp2_with fail
        refine (HX.out _ hbr).mono ?_
        rintro e w2 ⟨rfl, hb2⟩
        rw [HH.out]
        go_wp2
        go_ret
        refine ⟨by rw [HY2.out]; rfl, ?_⟩
        ((have shb2 := hb2.size); (try simp at shb2); (have shbr := hbr.size); (try simp at shbr); (repeat' (first | (with_reducible exact Below.refl _ _) | (with_reducible refine Below.setCell ?_ ?_ _) | (with_reducible refine Below.alloc ?_ ?_ _) | (with_reducible refine Below.drew ?_) | (with_reducible refine Below.trans ?_ (Below.mono hb2 ?_)) | (with_reducible refine Below.trans ?_ (Below.mono hbr ?_)) | go_size)))
    · have : j = l.length := by omega
      subst this
      have HN2 := Lib.hid (HN.out (take_all HA.out))
      go_wp2
      go_ret
      exact ⟨by rw [HN2.out]; rfl, hbr⟩
theorem anyC (k : Nat) (lb : Array Value) (eg : ∀ args w, (callFunc k args).run Try.prog w = .ok (.enter k args) w) (p : Cel → Bool) (v : Value) (l : List Cel) (w : World) (h : CelsV w v l) (hp : PredOn k lb argC p l w) :
    Calls Try.prog 94 #[v, .func (.func k) #[] lb] w fun e w' => e = .returned (.bool (l.any p)) ∧ Below w.heap.size w w' := by
  obtain ⟨a, cap, hv, hl, hm, -⟩ := h.open
  have HA := Lib.hid (idxF_any p l)
  have HI := fun w => Lib.hid (idxC k lb eg p v l w)
  have H := Lib.hid h
  have HP := Lib.hid hp
  subst hv
  clear h hp eg
  go_enter Try.func94, Try.ntmps94
  go_wp2_with fail
  refine ((HI _).out H.out HP.out).mono ?_
  rintro e w1 ⟨rfl, hb1⟩
  generalize idxF p l = z at *
  go_wp2
  go_ret
  refine ⟨congrArg (fun b => Ending.returned (Value.bool b)) HA.out, ?_⟩
  ((have shb1 := hb1.size); (try simp at shb1); (repeat' (first | (with_reducible exact Below.refl _ _) | (with_reducible refine Below.setCell ?_ ?_ _) | (with_reducible refine Below.alloc ?_ ?_ _) | (with_reducible refine Below.drew ?_) | (with_reducible refine Below.trans ?_ (Below.mono hb1 ?_)) | go_size)))
end Go.Proofs.Ytlfmffjlmhpcdaa

/- slices.Equal, slices.EqualFunc, and the document's Same, over vectors, masks and rows of vectors. -/
namespace Go.Proofs.Ytlfmffjlmhpcdaa
open Go.RowKit
set_option maxRecDepth 100000
attribute [local irreducible] Der

theorem takeq_succ {α : Type} {l m : List α} {k : Nat} (h : k < l.length) (h' : k < m.length) (ht : l.take k = m.take k) (he : l[k] = m[k]) : l.take (k + 1) = m.take (k + 1) := by
  rw [List.take_succ_eq_append_getElem h, List.take_succ_eq_append_getElem h', ht, he]
theorem takeq_ne {α : Type} [DecidableEq α] {l m : List α} {k : Nat} (h : k < l.length) (h' : k < m.length) (he : ¬ l[k] = m[k]) : decide (l = m) = false :=
  decide_eq_false fun e => he (by subst e; rfl)
theorem eq_of_take {α : Type} [DecidableEq α] {l m : List α} (hlen : l.length = m.length) (h : l.take l.length = m.take l.length) : decide (l = m) = true :=
  decide_eq_true (by rw [List.take_length] at h; rw [h, hlen, List.take_length])

set_option maxHeartbeats 1000000 in
theorem eqI (v u : Value) (l m : List Int) (w : World) (h : VecV w v l) (h' : VecV w u m) : Calls Try.prog 90 #[v, u] w fun e w' => e = .returned (.bool (decide (l = m))) ∧ Below w.heap.size w w' := by
  obtain ⟨p, cap, rfl, hl, hm, hcell⟩ := h.open
  have Hcell := Lib.hid hcell
  obtain ⟨p', cap', rfl, hl', hm', hcell'⟩ := h'.open
  have Hcell' := Lib.hid hcell'
  clear hcell hcell' h h'
  by_cases hlen : l.length = m.length
  · have HM := Lib.hid hlen
    have HT := Lib.hid (fun h => eq_of_take (l := l) (m := m) hlen h)
    have HS := Lib.hid (fun (k : Nat) (h : k < l.length) (h' : k < m.length) (ht : l.take k = m.take k) (he : l[k] = m[k]) => takeq_succ h h' ht he)
    have HNE := Lib.hid (fun (k : Nat) (h : k < l.length) (h' : k < m.length) (he : ¬ l[k] = m[k]) => takeq_ne h h' he)
    rw [← hlen] at hl' ⊢
    clear hlen
    go_enter Try.func90, Try.ntmps90
    go_wp2
    go_loopw [13] (fun i wr => ∃ k : Nat, k ≤ l.length ∧ i = .int .i64 k ∧ l.take k = m.take k ∧ Below w.heap.size w wr) (fun i _ => l.length - (intOf i).toNat)
    case atStart => exact ⟨0, Nat.zero_le _, rfl, rfl, Below.refl _ _⟩
    case round =>
      obtain ⟨k, hk, rfl, htk, hbr⟩ := hrel
      have HK := Lib.hid htk
      clear htk
      have hsz := hbr.size
      by_cases hlt2 : k < l.length
      · have hl2 : k < l.length := hlt2
        have hm2 : k < m.length := by rw [← HM.out]; exact hlt2
        have HX := Lib.hid (HS.out k hl2 hm2 HK.out)
        have HY := Lib.hid (HNE.out k hl2 hm2)
        obtain ⟨g,off,rfl,hlt,g1⟩ := Hcell.out k hl2
        obtain ⟨g',off',rfl,hlt',h1⟩ := Hcell'.out k hm2
        clear HT HS HNE Hcell Hcell'
        generalize l[k] = x at *
        generalize m[k] = y at *
        have z1 : g < wr.heap.size := by omega
        have z2 : g' < wr.heap.size := by omega
        have e1 := (hbr.cell (p := ⟨g, off + k, none⟩) hlt).trans g1
        have e2 := (hbr.cell (p := ⟨g', off' + k, none⟩) hlt').trans h1
        clear g1 h1 hm2
        by_cases hxy : x = y
        · have HX2 := Lib.hid (HX.out hxy)
          subst hxy
          go_wp2
          refine wp_grow [] 9 (by kernel_rfl) (by kernel_rfl) (by rfl) (by rfl) ?_
          simp only [List.take_succ_cons, List.take_zero, List.drop_succ_cons, List.drop_zero]
          repeat (first
            | (apply Der.quiet; (rfl); (rfl); (intro w' hw' hctx; have hc' := bcell hw'; have y1 := fun o => hw'.cell (p := ⟨g, o, none⟩) (by simp; omega); have y2 := fun o => hw'.cell (p := ⟨g', o, none⟩) (by simp; omega); clear hctx; go_simp; first | exact rfl | exact ⟨rfl, rfl⟩); simp only [Act.put, List.setIfInBounds_toArray, List.set_cons_succ, List.set_cons_zero, Nat.reduceAdd])
            | (apply Der.skip; (rfl); simp only [Act.put, List.setIfInBounds_toArray, List.set_cons_succ, List.set_cons_zero, Nat.reduceAdd]))
          refine Der.nil (fun w2 hgw2 hctx => ?_)
          clear hctx
          have hb2 : Below _ _ w2 := hgw2
          clear hgw2
          go_wp2
          go_roundw
          case rel => exact ⟨k + 1, by omega, by go_num, HX2.out, by ((have shb2 := hb2.size); (try simp at shb2); (have shbr := hbr.size); (try simp at shbr); (repeat' (first | (with_reducible exact Below.refl _ _) | (with_reducible refine Below.setCell ?_ ?_ _) | (with_reducible refine Below.alloc ?_ ?_ _) | (with_reducible refine Below.drew ?_) | (with_reducible refine Below.trans ?_ (Below.mono hb2 ?_)) | (with_reducible refine Below.trans ?_ (Below.mono hbr ?_)) | go_size)))⟩
          case measure => simp [intOf]; omega
        · have HY2 := Lib.hid (HY.out hxy)
          have hxb : (x == y) = false := by simp [hxy]
          clear hxy
          go_wp2
          refine wp_grow [] 9 (by kernel_rfl) (by kernel_rfl) (by rfl) (by rfl) ?_
          simp only [List.take_succ_cons, List.take_zero, List.drop_succ_cons, List.drop_zero]
          repeat (first
            | (apply Der.quiet; (rfl); (rfl); (intro w' hw' hctx; have hc' := bcell hw'; have y1 := fun o => hw'.cell (p := ⟨g, o, none⟩) (by simp; omega); have y2 := fun o => hw'.cell (p := ⟨g', o, none⟩) (by simp; omega); clear hctx; go_simp; first | exact rfl | exact ⟨rfl, rfl⟩); simp only [Act.put, List.setIfInBounds_toArray, List.set_cons_succ, List.set_cons_zero, Nat.reduceAdd])
            | (apply Der.skip; (rfl); simp only [Act.put, List.setIfInBounds_toArray, List.set_cons_succ, List.set_cons_zero, Nat.reduceAdd]))
          refine Der.nil (fun w2 hgw2 hctx => ?_)
          clear hctx
          have hb2 : Below _ _ w2 := hgw2
          clear hgw2
          go_wp2
          go_ret
          refine ⟨?_, ?_⟩
          · rw [HY2.out]; rfl
          · ((have shb2 := hb2.size); (try simp at shb2); (have shbr := hbr.size); (try simp at shbr); (repeat' (first | (with_reducible exact Below.refl _ _) | (with_reducible refine Below.setCell ?_ ?_ _) | (with_reducible refine Below.alloc ?_ ?_ _) | (with_reducible refine Below.drew ?_) | (with_reducible refine Below.trans ?_ (Below.mono hb2 ?_)) | (with_reducible refine Below.trans ?_ (Below.mono hbr ?_)) | go_size)))
      · have : k = l.length := by omega
        subst this
        have HT2 := Lib.hid (HT.out HK.out)
        go_wp2
        go_ret
        exact ⟨by rw [HT2.out]; rfl, hbr⟩
  · have HB := Lib.hid (show decide (l = m) = false from decide_eq_false (fun e => hlen (by rw [e])))
    have hne : ¬ (l.length : Int) = (m.length : Int) := by omega
    clear hlen
    go_enter Try.func90, Try.ntmps90
    go_wp2
    go_ret
    exact ⟨by rw [HB.out]; rfl, Below.refl _ _⟩
set_option maxHeartbeats 1000000 in
theorem eqM (v u : Value) (l m : List M) (w : World) (h : Masks w v l) (h' : Masks w u m) : Calls Try.prog 47 #[v, u] w fun e w' => e = .returned (.bool (decide (l = m))) ∧ Below w.heap.size w w' := by
  obtain ⟨p, cap, rfl, hl, hm, hcell⟩ := h.open
  have Hcell := Lib.hid hcell
  obtain ⟨p', cap', rfl, hl', hm', hcell'⟩ := h'.open
  have Hcell' := Lib.hid hcell'
  clear hcell hcell' h h'
  by_cases hlen : l.length = m.length
  · have HM := Lib.hid hlen
    have HT := Lib.hid (fun h => eq_of_take (l := l) (m := m) hlen h)
    have HS := Lib.hid (fun (k : Nat) (h : k < l.length) (h' : k < m.length) (ht : l.take k = m.take k) (he : l[k] = m[k]) => takeq_succ h h' ht he)
    have HNE := Lib.hid (fun (k : Nat) (h : k < l.length) (h' : k < m.length) (he : ¬ l[k] = m[k]) => takeq_ne h h' he)
    rw [← hlen] at hl' ⊢
    clear hlen
    go_enter Try.func47, Try.ntmps47
    go_wp2
    go_loopw [13] (fun i wr => ∃ k : Nat, k ≤ l.length ∧ i = .int .i64 k ∧ l.take k = m.take k ∧ Below w.heap.size w wr) (fun i _ => l.length - (intOf i).toNat)
    case atStart => exact ⟨0, Nat.zero_le _, rfl, rfl, Below.refl _ _⟩
    case round =>
      obtain ⟨k, hk, rfl, htk, hbr⟩ := hrel
      have HK := Lib.hid htk
      clear htk
      have hsz := hbr.size
      by_cases hlt2 : k < l.length
      · have hl2 : k < l.length := hlt2
        have hm2 : k < m.length := by rw [← HM.out]; exact hlt2
        have HX := Lib.hid (HS.out k hl2 hm2 HK.out)
        have HY := Lib.hid (HNE.out k hl2 hm2)
        obtain ⟨g,off,rfl,hlt,g1,g2⟩ := Hcell.out k hl2
        obtain ⟨g',off',rfl,hlt',h1,h2⟩ := Hcell'.out k hm2
        clear HT HS HNE Hcell Hcell'
        generalize l[k] = x at *
        generalize m[k] = y at *
        have z1 : g < wr.heap.size := by omega
        have z2 : g' < wr.heap.size := by omega
        have e1 := (hbr.cell (p := ⟨g, off + k * 2, none⟩) hlt).trans g1
        have e2 := (hbr.cell (p := ⟨g', off' + k * 2, none⟩) hlt').trans h1
        have e3 := (hbr.cell (p := ⟨g, off + k * 2 + 1, none⟩) hlt).trans g2
        have e4 := (hbr.cell (p := ⟨g', off' + k * 2 + 1, none⟩) hlt').trans h2
        clear g1 h1 g2 h2 hm2
        obtain ⟨x1, x2⟩ := x
        obtain ⟨y1, y2⟩ := y
        by_cases hxy : x1 = y1 ∧ x2 = y2
        · have HX2 := Lib.hid (HX.out (by rw [hxy.1, hxy.2]))
          obtain ⟨rfl, rfl⟩ := hxy
          go_wp2
          refine wp_grow [] 9 (by kernel_rfl) (by kernel_rfl) (by rfl) (by rfl) ?_
          simp only [List.take_succ_cons, List.take_zero, List.drop_succ_cons, List.drop_zero]
          repeat (first
            | (apply Der.quiet; (rfl); (rfl); (intro w' hw' hctx; have hc' := bcell hw'; have y1 := fun o => hw'.cell (p := ⟨g, o, none⟩) (by simp; omega); have y2 := fun o => hw'.cell (p := ⟨g', o, none⟩) (by simp; omega); clear hctx; go_simp; first | exact rfl | exact ⟨rfl, rfl⟩); simp only [Act.put, List.setIfInBounds_toArray, List.set_cons_succ, List.set_cons_zero, Nat.reduceAdd])
            | (apply Der.skip; (rfl); simp only [Act.put, List.setIfInBounds_toArray, List.set_cons_succ, List.set_cons_zero, Nat.reduceAdd]))
          refine Der.nil (fun w2 hgw2 hctx => ?_)
          clear hctx
          have hb2 : Below _ _ w2 := hgw2
          clear hgw2
          go_wp2
          go_roundw
          case rel => exact ⟨k + 1, by omega, by go_num, HX2.out, by ((have shb2 := hb2.size); (try simp at shb2); (have shbr := hbr.size); (try simp at shbr); (repeat' (first | (with_reducible exact Below.refl _ _) | (with_reducible refine Below.setCell ?_ ?_ _) | (with_reducible refine Below.alloc ?_ ?_ _) | (with_reducible refine Below.drew ?_) | (with_reducible refine Below.trans ?_ (Below.mono hb2 ?_)) | (with_reducible refine Below.trans ?_ (Below.mono hbr ?_)) | go_size)))⟩
          case measure => simp [intOf]; omega
        · have HY2 := Lib.hid (HY.out (fun e => hxy ⟨congrArg Prod.fst e, congrArg Prod.snd e⟩))
          have hxb : (x1 == y1 && x2 == y2) = false := by
            cases h1 : x1 == y1 <;> cases h2 : x2 == y2 <;> simp_all
          clear hxy
          go_wp2
          refine wp_grow [] 9 (by kernel_rfl) (by kernel_rfl) (by rfl) (by rfl) ?_
          simp only [List.take_succ_cons, List.take_zero, List.drop_succ_cons, List.drop_zero]
          repeat (first
            | (apply Der.quiet; (rfl); (rfl); (intro w' hw' hctx; have hc' := bcell hw'; have y1 := fun o => hw'.cell (p := ⟨g, o, none⟩) (by simp; omega); have y2 := fun o => hw'.cell (p := ⟨g', o, none⟩) (by simp; omega); clear hctx; go_simp; first | exact rfl | exact ⟨rfl, rfl⟩); simp only [Act.put, List.setIfInBounds_toArray, List.set_cons_succ, List.set_cons_zero, Nat.reduceAdd])
            | (apply Der.skip; (rfl); simp only [Act.put, List.setIfInBounds_toArray, List.set_cons_succ, List.set_cons_zero, Nat.reduceAdd]))
          refine Der.nil (fun w2 hgw2 hctx => ?_)
          clear hctx
          have hb2 : Below _ _ w2 := hgw2
          clear hgw2
          go_wp2
          go_ret
          refine ⟨?_, ?_⟩
          · rw [HY2.out]; rfl
          · ((have shb2 := hb2.size); (try simp at shb2); (have shbr := hbr.size); (try simp at shbr); (repeat' (first | (with_reducible exact Below.refl _ _) | (with_reducible refine Below.setCell ?_ ?_ _) | (with_reducible refine Below.alloc ?_ ?_ _) | (with_reducible refine Below.drew ?_) | (with_reducible refine Below.trans ?_ (Below.mono hb2 ?_)) | (with_reducible refine Below.trans ?_ (Below.mono hbr ?_)) | go_size)))
      · have : k = l.length := by omega
        subst this
        have HT2 := Lib.hid (HT.out HK.out)
        go_wp2
        go_ret
        exact ⟨by rw [HT2.out]; rfl, hbr⟩
  · have HB := Lib.hid (show decide (l = m) = false from decide_eq_false (fun e => hlen (by rw [e])))
    have hne : ¬ (l.length : Int) = (m.length : Int) := by omega
    clear hlen
    go_enter Try.func47, Try.ntmps47
    go_wp2
    go_ret
    exact ⟨by rw [HB.out]; rfl, Below.refl _ _⟩
set_option maxHeartbeats 1000000 in
theorem r5Same (v u : Value) (l m : List Int) (w : World) (h : VecV w v l) (h' : VecV w u m) : Calls Try.prog 48 #[v, u] w fun e w' => e = .returned (.bool (decide (l = m))) ∧ Below w.heap.size w w' := by
  obtain ⟨p, cap, rfl, hl, hm, hcell⟩ := h.open
  have Hcell := Lib.hid hcell
  obtain ⟨p', cap', rfl, hl', hm', hcell'⟩ := h'.open
  have Hcell' := Lib.hid hcell'
  clear hcell hcell' h h'
  by_cases hlen : l.length = m.length
  · have HM := Lib.hid hlen
    have HT := Lib.hid (fun h => eq_of_take (l := l) (m := m) hlen h)
    have HS := Lib.hid (fun (k : Nat) (h : k < l.length) (h' : k < m.length) (ht : l.take k = m.take k) (he : l[k] = m[k]) => takeq_succ h h' ht he)
    have HNE := Lib.hid (fun (k : Nat) (h : k < l.length) (h' : k < m.length) (he : ¬ l[k] = m[k]) => takeq_ne h h' he)
    rw [← hlen] at hl' ⊢
    clear hlen
    go_enter Try.func48, Try.ntmps48
    go_wp2
    go_loopw [5] (fun i wr => ∃ k : Nat, k ≤ l.length ∧ i = .int .i64 k ∧ l.take k = m.take k ∧ Below w.heap.size w wr) (fun i _ => l.length - (intOf i).toNat)
    case atStart => exact ⟨0, Nat.zero_le _, rfl, rfl, Below.refl _ _⟩
    case round =>
      obtain ⟨k, hk, rfl, htk, hbr⟩ := hrel
      have HK := Lib.hid htk
      clear htk
      have hsz := hbr.size
      by_cases hlt2 : k < l.length
      · have hl2 : k < l.length := hlt2
        have hm2 : k < m.length := by rw [← HM.out]; exact hlt2
        have HX := Lib.hid (HS.out k hl2 hm2 HK.out)
        have HY := Lib.hid (HNE.out k hl2 hm2)
        obtain ⟨g,off,rfl,hlt,g1⟩ := Hcell.out k hl2
        obtain ⟨g',off',rfl,hlt',h1⟩ := Hcell'.out k hm2
        clear HT HS HNE Hcell Hcell'
        generalize l[k] = x at *
        generalize m[k] = y at *
        have z1 : g < wr.heap.size := by omega
        have z2 : g' < wr.heap.size := by omega
        have e1 := (hbr.cell (p := ⟨g, off + k, none⟩) hlt).trans g1
        have e2 := (hbr.cell (p := ⟨g', off' + k, none⟩) hlt').trans h1
        clear g1 h1 hm2
        by_cases hxy : x = y
        · have HX2 := Lib.hid (HX.out hxy)
          subst hxy
          go_wp2
          refine wp_grow [] 9 (by kernel_rfl) (by kernel_rfl) (by rfl) (by rfl) ?_
          simp only [List.take_succ_cons, List.take_zero, List.drop_succ_cons, List.drop_zero]
          repeat (first
            | (apply Der.quiet; (rfl); (rfl); (intro w' hw' hctx; have hc' := bcell hw'; have y1 := fun o => hw'.cell (p := ⟨g, o, none⟩) (by simp; omega); have y2 := fun o => hw'.cell (p := ⟨g', o, none⟩) (by simp; omega); clear hctx; go_simp; first | exact rfl | exact ⟨rfl, rfl⟩); simp only [Act.put, List.setIfInBounds_toArray, List.set_cons_succ, List.set_cons_zero, Nat.reduceAdd])
            | (apply Der.skip; (rfl); simp only [Act.put, List.setIfInBounds_toArray, List.set_cons_succ, List.set_cons_zero, Nat.reduceAdd]))
          refine Der.nil (fun w2 hgw2 hctx => ?_)
          clear hctx
          have hb2 : Below _ _ w2 := hgw2
          clear hgw2
          go_wp2
          go_roundw
          case rel => exact ⟨k + 1, by omega, by go_num, HX2.out, by ((have shb2 := hb2.size); (try simp at shb2); (have shbr := hbr.size); (try simp at shbr); (repeat' (first | (with_reducible exact Below.refl _ _) | (with_reducible refine Below.setCell ?_ ?_ _) | (with_reducible refine Below.alloc ?_ ?_ _) | (with_reducible refine Below.drew ?_) | (with_reducible refine Below.trans ?_ (Below.mono hb2 ?_)) | (with_reducible refine Below.trans ?_ (Below.mono hbr ?_)) | go_size)))⟩
          case measure => simp [intOf]; omega
        · have HY2 := Lib.hid (HY.out hxy)
          have hxb : (x == y) = false := by simp [hxy]
          clear hxy
          go_wp2
          refine wp_grow [] 9 (by kernel_rfl) (by kernel_rfl) (by rfl) (by rfl) ?_
          simp only [List.take_succ_cons, List.take_zero, List.drop_succ_cons, List.drop_zero]
          repeat (first
            | (apply Der.quiet; (rfl); (rfl); (intro w' hw' hctx; have hc' := bcell hw'; have y1 := fun o => hw'.cell (p := ⟨g, o, none⟩) (by simp; omega); have y2 := fun o => hw'.cell (p := ⟨g', o, none⟩) (by simp; omega); clear hctx; go_simp; first | exact rfl | exact ⟨rfl, rfl⟩); simp only [Act.put, List.setIfInBounds_toArray, List.set_cons_succ, List.set_cons_zero, Nat.reduceAdd])
            | (apply Der.skip; (rfl); simp only [Act.put, List.setIfInBounds_toArray, List.set_cons_succ, List.set_cons_zero, Nat.reduceAdd]))
          refine Der.nil (fun w2 hgw2 hctx => ?_)
          clear hctx
          have hb2 : Below _ _ w2 := hgw2
          clear hgw2
          go_wp2
          go_ret
          refine ⟨?_, ?_⟩
          · rw [HY2.out]; rfl
          · ((have shb2 := hb2.size); (try simp at shb2); (have shbr := hbr.size); (try simp at shbr); (repeat' (first | (with_reducible exact Below.refl _ _) | (with_reducible refine Below.setCell ?_ ?_ _) | (with_reducible refine Below.alloc ?_ ?_ _) | (with_reducible refine Below.drew ?_) | (with_reducible refine Below.trans ?_ (Below.mono hb2 ?_)) | (with_reducible refine Below.trans ?_ (Below.mono hbr ?_)) | go_size)))
      · have : k = l.length := by omega
        subst this
        have HT2 := Lib.hid (HT.out HK.out)
        go_wp2
        go_ret
        exact ⟨by rw [HT2.out]; rfl, hbr⟩
  · have HB := Lib.hid (show decide (l = m) = false from decide_eq_false (fun e => hlen (by rw [e])))
    have hne : ¬ (l.length : Int) = (m.length : Int) := by omega
    clear hlen
    go_enter Try.func48, Try.ntmps48
    go_wp2
    go_ret
    exact ⟨by rw [HB.out]; rfl, Below.refl _ _⟩
theorem f_vecSame (v u : Value) (l m : List Int) (w : World) (h : VecV w v l) (h' : VecV w u m) : Calls Try.prog 46 #[v, u] w fun e w' => e = .returned (.bool (decide (l = m))) ∧ Below w.heap.size w w' := by
  have H := fun w => Lib.hid (eqI v u l m w)
  have H1 := Lib.hid h
  have H2 := Lib.hid h'
  clear h h'
  go_enter Try.func46, Try.ntmps46
  go_wp2_with fail
  refine ((H _).out H1.out H2.out).mono ?_
  rintro e w1 ⟨rfl, hb1⟩
  go_wp2
  go_ret
  exact ⟨rfl, hb1⟩
/-- Are two rows alike, place by place? -/
def all2 {α β : Type} (q : α → β → Bool) : List α → List β → Bool
  | [], [] => true
  | x :: l, y :: m => q x y && all2 q l m
  | _, _ => false
theorem all2_take {α β : Type} (q : α → β → Bool) : ∀ (l : List α) (m : List β), l.length = m.length → (∀ k (h : k < l.length) (h' : k < m.length), q l[k] m[k] = true) → all2 q l m = true
  | [], [], _, _ => rfl
  | x :: l, y :: m, hl, h => by
    unfold all2
    rw [h 0 (by simp) (by simp) |> fun e : q x y = true => e, all2_take q l m (by simpa using hl) (fun k h1 h2 => h (k + 1) (by simpa using h1) (by simpa using h2))]; rfl
  | [], y :: m, hl, _ => by simp at hl
  | x :: l, [], hl, _ => by simp at hl
theorem all2_no {α β : Type} (q : α → β → Bool) : ∀ (l : List α) (m : List β) (k : Nat) (h : k < l.length) (h' : k < m.length), q l[k] m[k] = false → all2 q l m = false
  | [], _, k, h, _, _ => by simp at h
  | _, [], k, _, h', _ => by simp at h'
  | x :: l, y :: m, 0, _, _, he => by unfold all2; have he' : q x y = false := he; rw [he']; rfl
  | x :: l, y :: m, k + 1, h, h', he => by
    unfold all2
    rw [all2_no q l m k (by simpa using h) (by simpa using h') he]; simp
theorem all2_len {α β : Type} (q : α → β → Bool) : ∀ (l : List α) (m : List β), l.length ≠ m.length → all2 q l m = false
  | [], [], h => absurd rfl h
  | x :: l, y :: m, h => by unfold all2; rw [all2_len q l m (by simpa using h)]; simp
  | [], y :: m, _ => rfl
  | x :: l, [], _ => rfl
/-- The calls of function k give q x y at each pair that is handed to it. -/
def RelOn {α β : Type} (k : Nat) (lb : Array Value) (arg : α → Value) (arg' : β → Value) (q : α → β → Bool) (l : List α) (m : List β) (w : World) : Prop :=
  ∀ x ∈ l, ∀ y ∈ m, ∀ w', Below w.heap.size w w' → Calls Try.prog k (#[arg x, arg' y] ++ lb) w' fun e w'' => e = .returned (.bool (q x y)) ∧ Below w'.heap.size w' w''
set_option maxHeartbeats 1000000 in
theorem eqfV (f : Nat) (lb : Array Value) (eg : ∀ args w, (callFunc f args).run Try.prog w = .ok (.enter f args) w) (q : PV → PV → Bool) (v u : Value) (l m : List PV) (w : World) (h : VecsV w v l) (h' : VecsV w u m) (hq : RelOn f lb argV argV q l m w) :
    Calls Try.prog 45 #[v, u, .func (.func f) #[] lb] w fun e w' => e = .returned (.bool (all2 q l m)) ∧ Below w.heap.size w w' := by
  obtain ⟨p, cap, rfl, hl, hm, hcell⟩ := h.open
  have Hcell := Lib.hid hcell
  obtain ⟨p', cap', rfl, hl', hm', hcell'⟩ := h'.open
  have Hcell' := Lib.hid hcell'
  have HQ := Lib.hid hq
  clear hcell hcell' h h' hq
  by_cases hlen : l.length = m.length
  · have HM := Lib.hid hlen
    have HT := Lib.hid (fun h => all2_take q l m hlen h)
    have HNE := Lib.hid (fun k h h' he => all2_no q l m k h h' he)
    rw [← hlen] at hl' ⊢
    clear hlen
    go_enter Try.func45, Try.ntmps45
    go_wp2
    go_loopw [17] (fun i wr => ∃ k : Nat, k ≤ l.length ∧ i = .int .i64 k ∧ (∀ j, j < k → ∀ (h : j < l.length) (h' : j < m.length), q l[j] m[j] = true) ∧ Below w.heap.size w wr) (fun i _ => l.length - (intOf i).toNat)
    case atStart => exact ⟨0, Nat.zero_le _, rfl, fun j hj => absurd hj (Nat.not_lt_zero _), Below.refl _ _⟩
    case round =>
      obtain ⟨k, hk, rfl, htk, hbr⟩ := hrel
      have HK := Lib.hid htk
      clear htk
      have hsz := hbr.size
      by_cases hlt2 : k < l.length
      · have hl2 : k < l.length := hlt2
        have hm2 : k < m.length := by rw [← HM.out]; exact hlt2
        have HQk := Lib.hid (HQ.out l[k] (List.getElem_mem hl2) m[k] (List.getElem_mem hm2))
        have HX := Lib.hid (fun (hh : q l[k] m[k] = true) (j : Nat) (hj : j < k + 1) (h : j < l.length) (h' : j < m.length) => (show q l[j] m[j] = true by
          rcases Nat.lt_or_ge j k with hjk | hjk
          · exact HK.out j hjk h h'
          · have : j = k := by omega
            subst this; exact hh))
        have HY := Lib.hid (HNE.out k hl2 hm2)
        obtain ⟨g,off,rfl,hlt,g1⟩ := Hcell.out k hl2
        obtain ⟨g',off',rfl,hlt',h1⟩ := Hcell'.out k hm2
        clear HT HNE Hcell Hcell' HQ
        cases hh : q l[k] m[k]
        · have HH := Lib.hid hh
          have HY2 := Lib.hid (HY.out hh)
          clear hh HX HY
          generalize l[k] = x at *
          generalize m[k] = y at *
          have e1 := (hbr.cell (p := ⟨g, off + k, none⟩) hlt).trans g1
          have e2 := (hbr.cell (p := ⟨g', off' + k, none⟩) hlt').trans h1
          clear g1 h1 hm2
          go_wp2_with fail
          refine (HQk.out _ hbr).mono ?_
          rintro e w2 ⟨rfl, hb2⟩
          rw [HH.out]
          go_wp2
          go_ret
          refine ⟨?_, ?_⟩
          · rw [HY2.out]; rfl
          · ((have shb2 := hb2.size); (try simp at shb2); (have shbr := hbr.size); (try simp at shbr); (repeat' (first | (with_reducible exact Below.refl _ _) | (with_reducible refine Below.setCell ?_ ?_ _) | (with_reducible refine Below.alloc ?_ ?_ _) | (with_reducible refine Below.drew ?_) | (with_reducible refine Below.trans ?_ (Below.mono hb2 ?_)) | (with_reducible refine Below.trans ?_ (Below.mono hbr ?_)) | go_size)))
        · have HH := Lib.hid hh
          have HX2 := Lib.hid (HX.out hh)
          clear hh HX HY
          generalize l[k] = x at *
          generalize m[k] = y at *
          have e1 := (hbr.cell (p := ⟨g, off + k, none⟩) hlt).trans g1
          have e2 := (hbr.cell (p := ⟨g', off' + k, none⟩) hlt').trans h1
          clear g1 h1 hm2
          go_wp2_with fail
          refine (HQk.out _ hbr).mono ?_
          rintro e w2 ⟨rfl, hb2⟩
          rw [HH.out]
          go_wp2
          go_roundw
          case rel => exact ⟨k + 1, by omega, by go_num, HX2.out, by ((have shb2 := hb2.size); (try simp at shb2); (have shbr := hbr.size); (try simp at shbr); (repeat' (first | (with_reducible exact Below.refl _ _) | (with_reducible refine Below.setCell ?_ ?_ _) | (with_reducible refine Below.alloc ?_ ?_ _) | (with_reducible refine Below.drew ?_) | (with_reducible refine Below.trans ?_ (Below.mono hb2 ?_)) | (with_reducible refine Below.trans ?_ (Below.mono hbr ?_)) | go_size)))⟩
          case measure => simp [intOf]; omega
      · have : k = l.length := by omega
        subst this
        have HT2 := Lib.hid (HT.out (fun j h h' => HK.out j h h h'))
        go_wp2
        go_ret
        exact ⟨by rw [HT2.out]; rfl, hbr⟩
  · have HB := Lib.hid (all2_len q l m hlen)
    have hne : ¬ (l.length : Int) = (m.length : Int) := by omega
    clear hlen
    go_enter Try.func45, Try.ntmps45
    go_wp2
    go_ret
    exact ⟨by rw [HB.out]; rfl, Below.refl _ _⟩
end Go.Proofs.Ytlfmffjlmhpcdaa

/- The contracts of package vec: Check, Of, all. -/
namespace Go.Proofs.Ytlfmffjlmhpcdaa
open Go.RowKit
set_option maxRecDepth 100000
attribute [local irreducible] Der

def badI (x : Int) : Bool := decide (x < -1073741823) || decide (1073741823 < x)
/-- May a vector be? -/
def vecOK (l : List Int) : Bool := decide (1 ≤ l.length) && (decide (l.length ≤ 4) && !l.any badI)
def vecE (l : List Int) : Int := if vecOK l then 0 else 150
theorem c_bad (x : Int) (w : World) : Calls Try.prog 106 #[.int .i32 x] w fun e w' => e = .returned (.bool (badI x)) ∧ Below w.heap.size w w' := by
  by_cases h1 : x < -1073741823
  · have H := Lib.hid (show badI x = true by unfold badI; simp [h1])
    have h2 : decide (x < -1073741823) = true := decide_eq_true h1
    clear h1
    go_enter Try.func106, Try.ntmps106
    go_wp2
    go_ret
    refine ⟨by rw [H.out]; rfl, Below.refl _ _⟩
  · have H := Lib.hid (show badI x = decide (1073741823 < x) by unfold badI; simp [h1])
    have h2 : decide (x < -1073741823) = false := decide_eq_false h1
    clear h1
    go_enter Try.func106, Try.ntmps106
    go_wp2
    go_ret
    refine ⟨by rw [H.out]; rfl, Below.refl _ _⟩
theorem bad_on (l : List Int) (w : World) : PredOn 106 #[] argI badI l w := fun x _ w' _ => c_bad x w'
theorem enters_bad : ∀ args w, (callFunc 106 args).run Try.prog w = .ok (.enter 106 args) w := enters_of Try.func106 (by kernel_rfl) rfl
theorem f_vecCheck (v : Value) (l : List Int) (w : World) (h : VecV w v l) : Calls Try.prog 67 #[v] w fun e w' => e = .returned (.int .i64 (vecE l)) ∧ Below w.heap.size w w' := by
  obtain ⟨a, cap, rfl, hl, hm⟩ := h.form
  have H := Lib.hid h
  clear h
  by_cases h0 : l.length < 1
  · have HE := Lib.hid (show vecE l = 150 by unfold vecE vecOK; rw [decide_eq_false (by omega)]; rfl)
    have h00 : l.length = 0 := by omega
    go_enter Try.func67, Try.ntmps67
    go_wp2
    go_ret
    refine ⟨by rw [HE.out]; rfl, Below.refl _ _⟩
  · by_cases h4 : 4 < l.length
    · have HE := Lib.hid (show vecE l = 150 by unfold vecE vecOK; rw [decide_eq_false (show ¬ l.length ≤ 4 by omega)]; simp)
      go_enter Try.func67, Try.ntmps67
      go_wp2
      go_ret
      refine ⟨by rw [HE.out]; rfl, Below.refl _ _⟩
    · have HE := Lib.hid (show vecE l = if l.any badI then 150 else 0 by
        unfold vecE vecOK; rw [decide_eq_true (show 1 ≤ l.length by omega), decide_eq_true (show l.length ≤ 4 by omega)]; cases l.any badI <;> rfl)
      go_enter Try.func67, Try.ntmps67
      go_wp2_with fail
      refine (anyI _ #[] enters_bad badI _ l _ H.out (bad_on l _)).mono ?_
      rintro e w1 ⟨rfl, hb1⟩
      generalize l.any badI = q at *
      cases q
      all_goals
        go_wp2
        go_ret
        refine ⟨by rw [HE.out]; rfl, hb1⟩
def ofE (l : List Int) (d : Int) : Int := if vecOK l then (if (l.length : Int) = d then 0 else 151) else 150
theorem f_vecOf (v : Value) (l : List Int) (d : Int) (w : World) (h : VecV w v l) : Calls Try.prog 86 #[v, .int .i64 d] w fun e w' => e = .returned (.int .i64 (ofE l d)) ∧ Below w.heap.size w w' := by
  obtain ⟨a, cap, rfl, hl, hm⟩ := h.form
  have H := Lib.hid h
  clear h
  have C := fun w => Lib.hid (f_vecCheck (.slice a l.length cap) l w)
  cases hok : vecOK l
  · have HE := Lib.hid (show ofE l d = 150 by unfold ofE; rw [hok]; rfl)
    have HC := Lib.hid (show vecE l = 150 by unfold vecE; rw [hok]; rfl)
    clear hok
    go_enter Try.func86, Try.ntmps86
    go_wp2_with fail
    refine ((C _).out H.out).mono ?_
    rintro e w1 ⟨rfl, hb1⟩
    rw [HC.out]
    go_wp2
    go_ret
    exact ⟨by rw [HE.out]; rfl, hb1⟩
  · have HC := Lib.hid (show vecE l = 0 by unfold vecE; rw [hok]; rfl)
    by_cases hd : (l.length : Int) = d
    · have HE := Lib.hid (show ofE l d = 0 by unfold ofE; rw [hok, hd]; simp)
      have hdd : ((l.length : Int) != d) = false := by simp [hd]
      clear hok hd
      go_enter Try.func86, Try.ntmps86
      go_wp2_with fail
      refine ((C _).out H.out).mono ?_
      rintro e w1 ⟨rfl, hb1⟩
      rw [HC.out]
      go_wp2
      go_ret
      exact ⟨by rw [HE.out]; rfl, hb1⟩
    · have HE := Lib.hid (show ofE l d = 151 by unfold ofE; rw [hok, if_neg hd]; rfl)
      have hdd : ((l.length : Int) != d) = true := by simp [hd]
      clear hok hd
      go_enter Try.func86, Try.ntmps86
      go_wp2_with fail
      refine ((C _).out H.out).mono ?_
      rintro e w1 ⟨rfl, hb1⟩
      rw [HC.out]
      go_wp2
      go_ret
      exact ⟨by rw [HE.out]; rfl, hb1⟩

/-- The dimension of the first of a row of vectors. -/
def dim0 (l : List PV) : Nat := match l with | [] => 0 | p :: _ => p.2.length
theorem dim0_get {l : List PV} (h : 0 < l.length) : dim0 l = l[0].2.length := by cases l with | nil => simp at h | cons p t => rfl
def otherD (d : Nat) (p : PV) : Bool := !decide ((p.2.length : Int) = (d : Int))
theorem c_other (B : Nat) (v : Value) (l : List PV) (p : PV) (w : World) (hc : w.cell? ⟨B, 0, none⟩ = some v) (h : VecsV w v l) (h0 : 0 < l.length) (hp : VecV w p.1 p.2) :
    Calls Try.prog 104 #[p.1, .pointer (some ⟨B, 0, none⟩)] w fun e w' => e = .returned (.bool (otherD (dim0 l) p)) ∧ Below w.heap.size w w' := by
  obtain ⟨a, cap, rfl, hl, hm, hcell⟩ := h.open
  obtain ⟨b, off, rfl, hlt, g1⟩ := hcell 0 h0
  obtain ⟨a', cap', e', hl', hm'⟩ := (h.2 l[0] (List.getElem_mem h0)).form
  obtain ⟨pv, pl⟩ := p
  obtain ⟨a2, cap2, e2, hl2, hm2⟩ := hp.form
  simp only at e2
  subst e2
  rw [e', Nat.add_zero] at g1
  have HD := Lib.hid (show otherD (dim0 l) (.slice a2 pl.length cap2, pl) = !decide ((pl.length : Int) = (l[0].2.length : Int)) by unfold otherD; rw [dim0_get h0])
  generalize l[0].2.length = d at *
  have hlen : ¬ l = [] := by intro e; subst e; simp at h0
  clear hcell h hp e'
  go_enter Try.func104, Try.ntmps104
  go_wp2
  go_ret
  refine ⟨by rw [HD.out]; first | rfl | (simp; done) | (congr 2; simp [bne]), Below.refl _ _⟩
theorem other_on (B : Nat) (v : Value) (l : List PV) (w : World) (hB : B < w.heap.size) (hc : w.cell? ⟨B, 0, none⟩ = some v) (h : VecsV w v l) : PredOn 104 #[.pointer (some ⟨B, 0, none⟩)] argV (otherD (dim0 l)) l w := fun p hp w' hb =>
  c_other B v l p w' ((hb.cell (p := ⟨B, 0, none⟩) hB).trans hc) (h.grown hb) (List.length_pos_of_mem hp) ((h.2 p hp).grown hb)
theorem enters_other : ∀ args w, (callFunc 104 args).run Try.prog w = .ok (.enter 104 args) w := enters_of Try.func104 (by kernel_rfl) rfl
/-- Why vectors may not be together. -/
def vecsE (l : List PV) : Int := if l.all (fun p => vecOK p.2) then (if l.any (otherD (dim0 l)) then 151 else 0) else 150
theorem vecsE_bad {l : List PV} {k : Nat} (h : k < l.length) (hh : vecOK l[k].2 = false) : vecsE l = 150 := by
  unfold vecsE
  rw [if_neg]
  intro ha
  have := List.all_eq_true.1 ha l[k] (List.getElem_mem h)
  rw [hh] at this; cases this
theorem vecsE_ok {l : List PV} (h : ∀ p ∈ l, vecOK p.2 = true) : vecsE l = if l.any (otherD (dim0 l)) then 151 else 0 := by
  unfold vecsE
  rw [if_pos (List.all_eq_true.2 h)]
theorem take_snoc_true {α : Type} {p : α → Bool} {l : List α} {k : Nat} (h : k < l.length) (hb : ∀ x ∈ l.take k, p x = true) (hh : p l[k] = true) : ∀ x ∈ l.take (k + 1), p x = true := by
  intro x hx
  rw [List.take_succ_eq_append_getElem h] at hx
  rcases List.mem_append.1 hx with hx | hx
  · exact hb x hx
  · rw [List.mem_singleton] at hx; rw [hx]; exact hh
set_option maxHeartbeats 1000000 in
theorem f_vecAll (v : Value) (l : List PV) (w : World) (h : VecsV w v l) : Calls Try.prog 64 #[v] w fun e w' => e = .returned (.int .i64 (vecsE l)) ∧ Below w.heap.size w w' := by
  obtain ⟨a, cap, rfl, hl, hm, hcell⟩ := h.open
  have Hc := Lib.hid hcell
  have H := Lib.hid h
  clear hcell h
  have HB := Lib.hid (fun k h hh => vecsE_bad (l := l) (k := k) h hh)
  have HO := Lib.hid (fun h => vecsE_ok (l := l) h)
  have HS := Lib.hid (fun k h hb hh => take_snoc_true (p := fun p : PV => vecOK p.2) (l := l) (k := k) h hb hh)
  go_enter Try.func64, Try.ntmps64
  go_wp2
  go_loopw [9] (fun i wr => ∃ k : Nat, k ≤ l.length ∧ i = .int .i64 k ∧ (∀ p ∈ l.take k, vecOK p.2 = true) ∧ Below (w.heap.size + 1) (w.alloc (.cells #[.slice a l.length cap] 22)) wr ∧ w.heap.size + 1 ≤ wr.heap.size) (fun i _ => l.length - (intOf i).toNat)
  case atStart => exact ⟨0, Nat.zero_le _, rfl, by simp, Below.refl _ _, by simp⟩
  case round =>
    obtain ⟨k, hk, rfl, hall, hbr, hsz⟩ := hrel
    have HA := Lib.hid hall
    clear hall
    have hB : Below w.heap.size w wr := by ((have shbr := hbr.size); (try simp at shbr); (repeat' (first | (with_reducible exact Below.refl _ _) | (with_reducible refine Below.setCell ?_ ?_ _) | (with_reducible refine Below.alloc ?_ ?_ _) | (with_reducible refine Below.drew ?_) | (with_reducible refine Below.trans ?_ (Below.mono hbr ?_)) | go_size)))
    have zrw0 : w.heap.size < wr.heap.size := (by have := hbr.size; (try simp at this); omega)
    have qrw0 := fun o => hbr.cell (p := ⟨w.heap.size, o, none⟩) (by first | omega | (simp; done) | (simp; omega))
    have rrw0 := fun o => hbr.frozen (p := ⟨w.heap.size, o, none⟩) (by first | omega | (simp; done) | (simp; omega))
    by_cases hlt2 : k < l.length
    · obtain ⟨b, off, rfl, hlt, g1⟩ := Hc.out k hlt2
      have e1 := (hB.cell (p := ⟨b, off + k, none⟩) hlt).trans g1
      have hV := Lib.hid ((H.out.2 l[k] (List.getElem_mem hlt2)).grown hB)
      have HBk := Lib.hid (HB.out k hlt2)
      have HSk := Lib.hid (HS.out k hlt2 HA.out)
      clear g1
      cases hh : vecOK l[k].2
      · have HC := Lib.hid (show vecE l[k].2 = 150 by unfold vecE; rw [hh]; rfl)
        have HE := Lib.hid (HBk.out hh)
        clear hh HSk
        generalize l[k] = y at *
        go_wp2_with fail
        refine (f_vecCheck _ y.2 _ hV.out).mono ?_
        rintro e w2 ⟨rfl, hb2⟩
        rw [HC.out]
        go_wp2
        go_ret
        refine ⟨by rw [HE.out]; rfl, by ((have shb2 := hb2.size); (try simp at shb2); (have shbr := hbr.size); (try simp at shbr); (repeat' (first | (with_reducible exact Below.refl _ _) | (with_reducible refine Below.setCell ?_ ?_ _) | (with_reducible refine Below.alloc ?_ ?_ _) | (with_reducible refine Below.drew ?_) | (with_reducible refine Below.trans ?_ (Below.mono hb2 ?_)) | (with_reducible refine Below.trans ?_ (Below.mono hbr ?_)) | go_size)))⟩
      · have HC := Lib.hid (show vecE l[k].2 = 0 by unfold vecE; rw [hh]; rfl)
        have HE := Lib.hid (HSk.out hh)
        clear hh HBk
        generalize l[k] = y at *
        go_wp2_with fail
        refine (f_vecCheck _ y.2 _ hV.out).mono ?_
        rintro e w2 ⟨rfl, hb2⟩
        rw [HC.out]
        have z2w0 : w.heap.size < w2.heap.size := (by have := hb2.size; (try simp at this); omega)
        have q2w0 := fun o => hb2.cell (p := ⟨w.heap.size, o, none⟩) (by first | omega | (simp; done) | (simp; omega))
        have r2w0 := fun o => hb2.frozen (p := ⟨w.heap.size, o, none⟩) (by first | omega | (simp; done) | (simp; omega))
        go_wp2
        go_roundw
        case rel => exact ⟨k + 1, by omega, by go_num, HE.out, by ((have shb2 := hb2.size); (try simp at shb2); (have shbr := hbr.size); (try simp at shbr); (repeat' (first | (with_reducible exact Below.refl _ _) | (with_reducible refine Below.setCell ?_ ?_ _) | (with_reducible refine Below.alloc ?_ ?_ _) | (with_reducible refine Below.drew ?_) | (with_reducible refine Below.trans ?_ (Below.mono hb2 ?_)) | (with_reducible refine Below.trans ?_ (Below.mono hbr ?_)) | go_size))), by have := hb2.size; omega⟩
        case measure => simp [intOf]; omega
    · have : k = l.length := by omega
      subst this
      have HE := Lib.hid (HO.out (take_all HA.out))
      have hbox : wr.cell? ⟨w.heap.size, 0, none⟩ = some (.slice a l.length cap) := by rw [qrw0]; go_simp
      have HO' := Lib.hid (other_on w.heap.size _ l wr zrw0 hbox (H.out.grown hB))
      go_wp2_with fail
      refine (anyPV _ _ enters_other (otherD (dim0 l)) _ l _ (H.out.grown hB) HO'.out).mono ?_
      rintro e w2 ⟨rfl, hb2⟩
      generalize l.any (otherD (dim0 l)) = q at *
      cases q
      all_goals
        go_wp2
        go_ret
        refine ⟨by rw [HE.out]; rfl, by ((have shb2 := hb2.size); (try simp at shb2); (have shB := hB.size); (try simp at shB); (repeat' (first | (with_reducible exact Below.refl _ _) | (with_reducible refine Below.setCell ?_ ?_ _) | (with_reducible refine Below.alloc ?_ ?_ _) | (with_reducible refine Below.drew ?_) | (with_reducible refine Below.trans ?_ (Below.mono hb2 ?_)) | (with_reducible refine Below.trans ?_ (Below.mono hB ?_)) | go_size)))⟩
end Go.Proofs.Ytlfmffjlmhpcdaa

/- The contracts of vec.both (an iterator over two vectors) and of vec.dist. -/
namespace Go.Proofs.Ytlfmffjlmhpcdaa
open Go.RowKit Go.Shelf
set_option maxRecDepth 100000
attribute [local irreducible] Der
attribute [local go_sem] Oper.semAt_some

/-- All blocks below n but block g lie as they lay. -/
structure KeepBut (n g : Nat) (W W' : World) : Prop where
  size : W.heap.size ≤ W'.heap.size
  block : ∀ i, i < n → i ≠ g → W'.heap[i]? = W.heap[i]?
theorem KeepBut.refl (n g : Nat) (W : World) : KeepBut n g W W := ⟨Nat.le_refl _, fun _ _ _ => rfl⟩
theorem KeepBut.trans {n g : Nat} {A B C : World} (h : KeepBut n g A B) (k : KeepBut n g B C) : KeepBut n g A C := ⟨Nat.le_trans h.size k.size, fun i hi hg => (k.block i hi hg).trans (h.block i hi hg)⟩
theorem KeepBut.putObj {n g : Nat} {w : World} (hn : n ≤ w.heap.size) (W : World) (l : Nat) (o o' : Obj) (hl : w.heap.size ≤ l) (_ : W.heap[l]? = some o) (_ : o.isCells = false) (_ : o.isWalk = false) : KeepBut n g W (W.putObj l o') :=
  ⟨by simp [World.putObj], fun i hi _ => World.putObj_heap_other (by omega)⟩
theorem KeepBut.setCell {n g : Nat} {A W : World} (h : KeepBut n g A W) (o : Nat) (v : Value) : KeepBut n g A (W.setCell ⟨g, o, none⟩ v) :=
  h.trans ⟨by simp [World.setCell], fun i _ hg => Below.heap_setCell _ _ _ _ hg⟩
theorem KeepBut.cell {n g : Nat} {W W' : World} (h : KeepBut n g W W') {p : Addr} (h1 : p.block < n) (h2 : p.block ≠ g) : W'.cell? p = W.cell? p := World.cell?_of_block (w := W) (h.block p.block h1 h2)

/-- Components that may be. -/
abbrev Cmp2 := { p : Int × Int // (-1073741823 ≤ p.1 ∧ p.1 ≤ 1073741823) ∧ (-1073741823 ≤ p.2 ∧ p.2 ≤ 1073741823) }
def vals (zs : List Cmp2) : List (Int × Int) := zs.map (·.1)
/-- The two vectors lie there, and their boxes. -/
structure TwoV (B1 B2 : Nat) (v1 v2 : Value) (l m : List Int) (W : World) : Prop where
  c1 : W.cell? ⟨B1, 0, none⟩ = some v1
  c2 : W.cell? ⟨B2, 0, none⟩ = some v2
  r1 : VecV W v1 l
  r2 : VecV W v2 m
theorem take_vals {zs : List Cmp2} {k : Nat} (h : k < zs.length) : zs.take (k + 1) = zs.take k ++ [zs[k]] := List.take_succ_eq_append_getElem h

set_option maxHeartbeats 2000000 in
theorem both1_in (n : Nat) (hn : 1 ≤ n) (l0 B1 B2 : Nat) (v1 v2 : Value) (l m : List Int) (zs : List Cmp2) (hlen : l.length = m.length) (hz : vals zs = l.zip m) (Good : World → Prop) (hGood : ∀ W, Good W → TwoV B1 B2 v1 v2 l m W) (Kp : World → World → Prop) (hKp : ∀ W W', Kp W W' → Good W → Good W')
    (J Jx : List Cmp2 → World → Prop) (W : World)
    (hY : ∀ pre x W, J pre W → pre.length < zs.length → YieldAt Fence.wide (n - 1) Try.prog l0 #[.int .i64 x.1.1, .int .i64 x.1.2] W fun e W' =>
      (e = .returned (.bool true) ∧ J (pre ++ [x]) W' ∧ Kp W W') ∨ (e = .returned (.bool false) ∧ Jx (pre ++ [x]) W'))
    (hG' : Good W) (h0 : J [] W) :
    CallsIn Fence.wide n Try.prog 115 #[.func (.yield l0) #[] #[], .pointer (some ⟨B1, 0, none⟩), .pointer (some ⟨B2, 0, none⟩)] W fun e W' => (∃ v, e = .returned v) ∧
      ((∃ ys, ys = zs ∧ J ys W') ∨ (∃ pre, pre <+: zs ∧ Jx pre W')) := by
  have HY := Lib.hid hY
  have HK := Lib.hid hKp
  have HG := Lib.hid hG'
  have HGd := Lib.hid hGood
  have hG := hGood _ hG'
  have hzl : zs.length = l.length := by have := congrArg List.length hz; simp [vals, hlen] at this; omega
  have HZ := Lib.hid (fun k (h : k < zs.length) (h1 : k < l.length) (h2 : k < m.length) => (show zs[k].1.1 = l[k] ∧ zs[k].1.2 = m[k] by
    have e := congrArg (fun x : List (Int × Int) => x[k]?) hz
    simp only [vals, List.getElem?_map] at e
    rw [List.getElem?_eq_getElem h, List.getElem?_eq_getElem (by simp; omega)] at e
    simp at e
    exact ⟨by rw [e], by rw [e]⟩))
  obtain ⟨a, cap, rfl, hl, hm⟩ := hG.r1.form
  obtain ⟨a', cap', rfl, hl', hm'⟩ := hG.r2.form
  have b1 := hG.c1
  have b2 := hG.c2
  have HLen := Lib.hid hlen
  have HZL := Lib.hid hzl
  clear hY hKp hG hG' hGood hz hzl
  rw [← hlen] at b2 hl'
  refine callsIn_of_wp Try.func115 rfl trivial ?_ rfl
  simp only [Try.ntmps115, List.size_toArray, List.length_cons, List.length_nil, Nat.reduceAdd, Nat.reduceSub, Array.replicate_succ, Array.replicate_zero, List.push_toArray, List.append_toArray, List.nil_append, List.cons_append]
  clear hlen
  gi_wp2
  gi_loopw [8] (fun i wr => ∃ k : Nat, k ≤ l.length ∧ i = .int .i64 k ∧ J (zs.take k) wr ∧ Good wr) (fun i _ => l.length - (intOf i).toNat)
  case atStart => exact ⟨0, Nat.zero_le _, rfl, h0, HG.out⟩
  case round =>
    obtain ⟨k, hk, rfl, hJs, hgd⟩ := hrel
    have hg := HGd.out _ hgd
    by_cases hlt : k < l.length
    · have hm2 : k < m.length := by rw [← HLen.out]; exact hlt
      have hz2 : k < zs.length := by rw [HZL.out]; exact hlt
      obtain ⟨_, _, e1, -, -, hcell⟩ := hg.r1.open
      obtain ⟨_, _, e2, -, -, hcell'⟩ := hg.r2.open
      simp only [Value.slice.injEq] at e1 e2
      obtain ⟨rfl, -, rfl⟩ := e1
      obtain ⟨rfl, -, rfl⟩ := e2
      obtain ⟨g, off, rfl, hgl, g1⟩ := hcell k hlt
      obtain ⟨g', off', rfl, hgl', g2⟩ := hcell' k hm2
      have c2 := hg.c2
      have HGk := Lib.hid hgd
      obtain ⟨z1, z2⟩ := HZ.out k hz2 hlt hm2
      have HTk := Lib.hid (take_vals hz2)
      obtain ⟨fn, tmps, assign, body, hy, hR⟩ := HY.out _ zs[k] wr hJs (by simp; omega)
      have bd := zs[k].2
      rw [← z1] at g1
      rw [← z2] at g2
      rw [← HLen.out] at c2
      clear z1 z2 hcell hcell' hg hgd
      generalize zs[k] = z at *
      obtain ⟨⟨z1, z2⟩, hzb⟩ := z
      simp only at g1 g2 hy hR bd
      obtain ⟨⟨b1', b2'⟩, b3', b4'⟩ := bd
      have HTO := Lib.hid hm2
      clear hm2
      gi_wp2
      refine hR.mono ?_
      rintro e W3 (⟨rfl, hJ3, hk3⟩ | ⟨rfl, hJx3⟩)
      · rw [← HTk.out] at hJ3
        have HG3 := Lib.hid (HK.out _ _ hk3 HGk.out)
        clear hy hR hk3
        gi_wp2
        go_roundw
        case rel => exact ⟨k + 1, by omega, by go_num, hJ3, HG3.out⟩
        case measure => simp [intOf]; omega
      · gi_wp2
        refine bodyPost_ret (results_none rfl _ _ _) rfl ?_
        exact ⟨⟨_, rfl⟩, .inr ⟨_, by rw [← HTk.out]; exact List.take_prefix _ _, hJx3⟩⟩
    · obtain rfl : k = l.length := by omega
      have e : zs.take l.length = zs := by rw [← HZL.out, List.take_length]
      rw [e] at hJs
      clear e
      gi_wp2
      go_end0
      exact ⟨⟨_, rfl⟩, .inl ⟨_, rfl, hJs⟩⟩
/-- vec.both hands back a value over which a range gives two vectors' components, pair by pair. -/
theorem both_stops (n : Nat) (hn : 1 ≤ n) (B1 B2 : Nat) (v1 v2 : Value) (l m : List Int) (zs : List Cmp2) (hlen : l.length = m.length) (hz : vals zs = l.zip m) (Good : World → Prop) (hGood : ∀ W, Good W → TwoV B1 B2 v1 v2 l m W) (Kp : World → World → Prop) (hKp : ∀ W W', Kp W W' → Good W → Good W')
    (w : World) (hG : ∀ W, Below w.heap.size w W → Good W) :
    SeqStopsK Fence.wide n Try.prog 115 #[.pointer (some ⟨B1, 0, none⟩), .pointer (some ⟨B2, 0, none⟩)] (fun x : Cmp2 => #[Value.int .i64 x.1.1, Value.int .i64 x.1.2]) Kp (fun ys => ys = zs) (fun pre => pre <+: zs) zs.length w := fun l0 J Jx W hW _ _ hY hj =>
  both1_in n hn l0 B1 B2 v1 v2 l m zs hlen hz Good hGood Kp hKp J Jx W hY (hG W hW) hj
theorem f_both (a a' : Option Addr) (n n' c c' : Nat) (w : World) : Calls Try.prog 105 #[.slice a n c, .slice a' n' c'] w fun e w' => e = .returned (.func (.func 115) #[] #[.pointer (some ⟨w.heap.size, 0, none⟩), .pointer (some ⟨w.heap.size + 1, 0, none⟩)]) ∧ w' = (w.alloc (.cells #[.slice a n c] 56)).alloc (.cells #[.slice a' n' c'] 56) := by
  go_enter Try.func105, Try.ntmps105
  go_wp2
  go_ret
  exact ⟨rfl, rfl⟩
def sqs (zs : List Cmp2) : Int := (zs.map fun z => (z.1.1 - z.1.2) * (z.1.1 - z.1.2)).sum
theorem sqs_snoc (zs : List Cmp2) (z : Cmp2) : sqs (zs ++ [z]) = sqs zs + (z.1.1 - z.1.2) * (z.1.1 - z.1.2) := by simp [sqs]
theorem sq_bound {d : Int} (h0 : 0 ≤ d) (h1 : d ≤ 2147483646) : 0 ≤ d * d ∧ d * d ≤ 4611686009837453316 := by
  refine ⟨Int.mul_nonneg h0 h0, ?_⟩
  have := Int.mul_le_mul h1 h1 h0 (by omega)
  omega
theorem sqs_bound : ∀ zs : List Cmp2, 0 ≤ sqs zs ∧ sqs zs ≤ 4611686009837453316 * zs.length
  | [] => by simp [sqs]
  | z :: zs => by
    have ih := sqs_bound zs
    have hz := z.2
    have e : sqs (z :: zs) = (z.1.1 - z.1.2) * (z.1.1 - z.1.2) + sqs zs := by simp [sqs]
    have hb : 0 ≤ (z.1.1 - z.1.2) * (z.1.1 - z.1.2) ∧ (z.1.1 - z.1.2) * (z.1.1 - z.1.2) ≤ 4611686009837453316 := by
      by_cases h : 0 ≤ z.1.1 - z.1.2
      · exact sq_bound h (by omega)
      · have := sq_bound (d := -(z.1.1 - z.1.2)) (by omega) (by omega)
        rwa [Int.neg_mul_neg] at this
    rw [e, List.length_cons]
    omega
theorem dist_step (x y S : Int) (h1 : -1073741823 ≤ x) (h2 : x ≤ 1073741823) (h3 : -1073741823 ≤ y) (h4 : y ≤ 1073741823) (h5 : 0 ≤ S) (h6 : S ≤ 13835058029512359948) (h : ¬ x - y < y - x) : IntKind.u64.wrap (S + IntKind.u64.wrap ((x - y) * (x - y))) = S + (x - y) * (x - y) := by
  have := sq_bound (d := x - y) (by omega) (by omega)
  rw [IntKind.wrap_u64, IntKind.wrap_u64]; omega
theorem dist_step' (x y S : Int) (h1 : -1073741823 ≤ x) (h2 : x ≤ 1073741823) (h3 : -1073741823 ≤ y) (h4 : y ≤ 1073741823) (h5 : 0 ≤ S) (h6 : S ≤ 13835058029512359948) (h : x - y < y - x) : IntKind.u64.wrap (S + IntKind.u64.wrap ((y - x) * (y - x))) = S + (x - y) * (x - y) := by
  have := sq_bound (d := y - x) (by omega) (by omega)
  have e : (x - y) * (x - y) = (y - x) * (y - x) := by rw [← Int.neg_mul_neg, Int.neg_sub]
  rw [e, IntKind.wrap_u64, IntKind.wrap_u64]; omega
set_option maxHeartbeats 2000000 in
theorem dist_in (v u : Value) (l m : List Int) (zs : List Cmp2) (hz : vals zs = l.zip m) (hlen : l.length = m.length) (h4 : zs.length ≤ 4) (w : World) (h : VecV w v l) (h' : VecV w u m) :
    Calls Try.prog 65 #[v, u] w fun e w' => e = .returned (.int .u64 (sqs zs)) ∧ Below w.heap.size w w' := by
  obtain ⟨a, cap, rfl, hl, hm⟩ := h.form
  obtain ⟨a', cap', rfl, hl', hm'⟩ := h'.form
  have H := Lib.hid h
  have H' := Lib.hid h'
  have HZ := Lib.hid hz
  have HLen := Lib.hid hlen
  have HS := Lib.hid (fun zs z => sqs_snoc zs z)
  have HB := Lib.hid sqs_bound
  clear h h' hz hlen
  refine (callsIn_wide (n := 3)).1 ?_
  have h1 : 1 ≤ 3 := by omega
  refine callsIn_of_wp_marks Try.func65 rfl trivial ?_ rfl
  simp only [Try.ntmps65, List.size_toArray, List.length_cons, List.length_nil, Nat.reduceAdd, Nat.reduceSub, Array.replicate_succ, Array.replicate_zero, List.push_toArray, List.append_toArray, List.nil_append, List.cons_append]
  gi_wp2_with (refine ⟨trivial, ?_⟩; gi_at_call 105; refine (callsIn_wide.2 (f_both _ _ _ _ _ _ _)).mono ?_; rintro e w' ⟨rfl, rfl⟩)
  have bN : Boxed ((w.alloc (.cells #[.int .u64 0] 47)).alloc (.cells #[.slice a l.length cap] 56) |>.alloc (.cells #[.slice a' m.length cap'] 56)) w.heap.size 47 (.int .u64 0) := ((Boxed.new w 47 (.int .u64 0)).alloc _).alloc _
  have hB0 : Below w.heap.size w (((w.alloc (.cells #[.int .u64 0] 47)).alloc (.cells #[.slice a l.length cap] 56)).alloc (.cells #[.slice a' m.length cap'] 56)) := by ((repeat' (first | (with_reducible exact Below.refl _ _) | (with_reducible refine Below.setCell ?_ ?_ _) | (with_reducible refine Below.alloc ?_ ?_ _) | (with_reducible refine Below.drew ?_) | (with_reducible refine Below.trans ?_ (Below.mono (by assumption) ?_)) | go_size)))
  have hm0 : (((w.alloc (.cells #[.int .u64 0] 47)).alloc (.cells #[.slice a l.length cap] 56)).alloc (.cells #[.slice a' m.length cap'] 56)).cell? ⟨w.heap.size + 1, 0, none⟩ = some (.slice a l.length cap) := by go_simp
  have hm1 : (((w.alloc (.cells #[.int .u64 0] 47)).alloc (.cells #[.slice a l.length cap] 56)).alloc (.cells #[.slice a' m.length cap'] 56)).cell? ⟨w.heap.size + 1 + 1, 0, none⟩ = some (.slice a' m.length cap') := by go_simp
  obtain ⟨W3, hW3⟩ : ∃ W3, (((w.alloc (.cells #[.int .u64 0] 47)).alloc (.cells #[.slice a l.length cap] 56)).alloc (.cells #[.slice a' m.length cap'] 56)) = W3 := ⟨_, rfl⟩
  have hsz : W3.heap.size = w.heap.size + 3 := by rw [← hW3]; simp
  rw [hW3] at bN hB0 hm0 hm1 ⊢
  clear hW3
  have hgood : TwoV (w.heap.size + 1) (w.heap.size + 1 + 1) (.slice a l.length cap) (.slice a' m.length cap') l m W3 ∧ Below w.heap.size w W3 := ⟨⟨hm0, hm1, H.out.grown hB0, H'.out.grown hB0⟩, hB0⟩
  have hKeep : ∀ W W', KeepBut (w.heap.size + 3) w.heap.size W W' ∧ Below w.heap.size W W' → (TwoV (w.heap.size + 1) (w.heap.size + 1 + 1) (.slice a l.length cap) (.slice a' m.length cap') l m W ∧ Below w.heap.size w W) → (TwoV (w.heap.size + 1) (w.heap.size + 1 + 1) (.slice a l.length cap) (.slice a' m.length cap') l m W' ∧ Below w.heap.size w W') := by
    rintro W W' ⟨hk, hb⟩ ⟨hg, hB⟩
    have hB' := hB.trans hb
    exact ⟨⟨(hk.cell (p := ⟨w.heap.size + 1, 0, none⟩) (by simp) (by simp)).trans hg.c1, (hk.cell (p := ⟨w.heap.size + 1 + 1, 0, none⟩) (by simp) (by simp; omega)).trans hg.c2, H.out.grown hB', H'.out.grown hB'⟩, hB'⟩
  refine wpIn_rangeFunc_ownG rfl h1 (gf := 115) (lb := #[.pointer (some ⟨w.heap.size + 1, 0, none⟩), .pointer (some ⟨w.heap.size + 1 + 1, 0, none⟩)]) rfl trivial (enters_of Try.func115 (by kernel_rfl) rfl)
    (both_stops 2 (by omega) _ _ _ _ l m zs HLen.out HZ.out _ (fun _ h => h.1) _ hKeep W3 (fun W hW => ⟨⟨(hW.cell (p := ⟨w.heap.size + 1, 0, none⟩) (by simp; omega)).trans hm0, (hW.cell (p := ⟨w.heap.size + 1 + 1, 0, none⟩) (by simp; omega)).trans hm1, H.out.grown (hB0.trans (hW.mono (by omega))), H'.out.grown (hB0.trans (hW.mono (by omega)))⟩, hB0.trans (hW.mono (by omega))⟩))
    (fun h k => ⟨h.1.trans k.1, h.2.trans k.2⟩) (fun W l o o' hl h1 h2 h3 => ⟨KeepBut.putObj (by omega) W l o o' hl h1 h2 h3, belowK_b (by omega) W l o o' hl h1 h2 h3⟩) (Below.refl _ _) (fun _ => rfl)
    (fun (pre : List Cmp2) W => (W.cell? ⟨w.heap.size, 0, none⟩ = some (.int .u64 (sqs pre)) ∧ W.frozen? ⟨w.heap.size, 0, none⟩ = false) ∧ Below w.heap.size w W)
    (fun _ _ _ => False)
    (OwnFrom.and (Own.from (fun s A B row hs hg hr => ⟨cell_kept hs.1 hg hr, (frozen_kept hs.1 hg hr).trans hs.2⟩) _) (ownFrom_below (Nat.le_refl _) (by omega)))
    (fun _ _ _ _ _ hs _ _ => hs)
    ⟨⟨bN.cell, bN.frozen⟩, hB0⟩
    (fun x => { tmps := #[.slice a l.length cap, .slice a' m.length cap', undef, undef, .int .u64 0, .pointer (some ⟨w.heap.size, 0, none⟩), .int .i64 x.1.1, .int .i64 x.1.2, undef, .slice a l.length cap, .slice a' m.length cap', .func (.func 115) #[] #[.pointer (some ⟨w.heap.size + 1, 0, none⟩), .pointer (some ⟨w.heap.size + 1 + 1, 0, none⟩)], .int .i64 x.1.1, .int .i64 x.1.2, undef, undef, undef, undef, undef, undef, undef, undef, undef, undef, undef, undef, undef, undef], defers := [] }) ?assign ?body ?done ?stop
  case assign =>
    intro l x W K hK
    gi_wp2
    exact hK
  case body =>
    rintro l pre ⟨⟨x, y⟩, ⟨bx1, bx2⟩, by1, by2⟩ W ⟨⟨hc, hf⟩, hB⟩ hlt
    have hs1 := HS.out pre ⟨(x, y), ⟨bx1, bx2⟩, by1, by2⟩
    have hs2 := HB.out pre
    simp only at hs1 hc hf ⊢
    have hpl : (pre.length : Int) ≤ 3 := by omega
    simp only at bx1 bx2 by1 by2
    have HS1 := Lib.hid hs1
    clear hs1
    have HE := Lib.hid (dist_step x y (sqs pre) bx1 bx2 by1 by2 hs2.1 (by omega))
    have HE' := Lib.hid (dist_step' x y (sqs pre) bx1 bx2 by1 by2 hs2.1 (by omega))
    clear hs2
    by_cases hxy : x - y < y - x
    all_goals
      gi_wp2
      refine ⟨(KeepsOthers.setCell _ _ _).from _, ⟨(KeepBut.refl _ _ _).setCell _ _, (Below.refl w.heap.size W).setCell (p := ⟨w.heap.size, 0, none⟩) (Nat.le_refl _) _⟩, ⟨?_, ?_⟩, hB.setCell (p := ⟨w.heap.size, 0, none⟩) (Nat.le_refl _) _⟩
      · rw [HS1.out]
        refine (World.cell?_setCell_same' _ _ _ (by rw [hc]; rfl)).trans (congrArg some (congrArg (Value.int .u64) ?_))
        first | exact HE'.out hxy | exact HE.out hxy
      · rw [World.frozen?_setCell]; exact hf
  case done =>
    rintro D ys W hD rfl ⟨⟨hc, _⟩, hB⟩ hK
    gi_wp2
    refine ⟨by simp, .inl ⟨_, _, rfl, run_takeDeferred hK, ?_⟩⟩
    exact ⟨_, results_tmp rfl _ _ _, rfl, hB.trans (belowK_b (w := w) (Nat.le_refl _) W D _ _ (by omega) hK rfl rfl)⟩
  case stop =>
    rintro D c pre W _ _ h _
    exact h.elim
theorem vecOK_len {l : List Int} (h : vecOK l = true) : 1 ≤ l.length ∧ l.length ≤ 4 := by
  unfold vecOK at h; simp only [Bool.and_eq_true, decide_eq_true_eq] at h; exact ⟨h.1, h.2.1⟩
theorem vecOK_mem {l : List Int} (h : vecOK l = true) : ∀ x ∈ l, -1073741823 ≤ x ∧ x ≤ 1073741823 := by
  unfold vecOK at h
  simp only [Bool.and_eq_true, Bool.not_eq_true', List.any_eq_false, badI, Bool.or_eq_true, decide_eq_true_eq] at h
  intro x hx
  have := h.2.2 x hx
  omega
/-- The distance of two vectors. -/
def distL (l m : List Int) : Int := ((l.zip m).map fun p => (p.1 - p.2) * (p.1 - p.2)).sum
def cmps (l m : List Int) (hl : vecOK l = true) (hm : vecOK m = true) : List Cmp2 :=
  (l.zip m).attach.map fun ⟨p, hp⟩ => ⟨p, vecOK_mem hl p.1 (List.of_mem_zip hp).1, vecOK_mem hm p.2 (List.of_mem_zip hp).2⟩
theorem vals_cmps (l m : List Int) (hl : vecOK l = true) (hm : vecOK m = true) : vals (cmps l m hl hm) = l.zip m := by
  unfold vals cmps
  rw [List.map_map]
  exact (List.attach_map_subtype_val (l.zip m))
theorem sqs_vals (zs : List Cmp2) : sqs zs = ((vals zs).map fun p => (p.1 - p.2) * (p.1 - p.2)).sum := by
  unfold sqs vals; rw [List.map_map]; rfl
theorem f_dist (v u : Value) (l m : List Int) (hl : vecOK l = true) (hm : vecOK m = true) (hlen : l.length = m.length) (w : World) (h : VecV w v l) (h' : VecV w u m) :
    Calls Try.prog 65 #[v, u] w fun e w' => e = .returned (.int .u64 (distL l m)) ∧ Below w.heap.size w w' := by
  have hv := vals_cmps l m hl hm
  have hc : (cmps l m hl hm).length ≤ 4 := by
    have h1 := congrArg List.length hv
    have h2 := vecOK_len hl
    simp [vals] at h1
    omega
  have he : sqs (cmps l m hl hm) = distL l m := by rw [sqs_vals, hv]; rfl
  rw [← he]
  exact dist_in v u l m (cmps l m hl hm) hv hlen hc w h h'
theorem distL_bound {l m : List Int} (hl : vecOK l = true) (hm : vecOK m = true) : 0 ≤ distL l m ∧ distL l m < 18446744073709551616 := by
  have hv := vals_cmps l m hl hm
  have hc : (cmps l m hl hm).length ≤ 4 := by
    have h1 := congrArg List.length hv
    have h2 := vecOK_len hl
    simp [vals] at h1
    omega
  have he : sqs (cmps l m hl hm) = distL l m := by rw [sqs_vals, hv]; rfl
  have := sqs_bound (cmps l m hl hm)
  omega
end Go.Proofs.Ytlfmffjlmhpcdaa

/- slices.Clone over vectors, rows of vectors, and cells: a row of the call's own. -/
namespace Go.Proofs.Ytlfmffjlmhpcdaa
open Go.RowKit
set_option maxRecDepth 100000
attribute [local irreducible] Der

set_option maxHeartbeats 1000000 in
theorem cloneI (v : Value) (l : List Int) (w : World) (h : VecV w v l) (hlen : l.length ≤ 1000000) :
    Calls Try.prog 80 #[v] w fun e w' => (∃ v', e = .returned v' ∧ w'.ownsRow w.heap.size 21 1 v' l.length (l.flatMap (fun x : Int => [Value.int .i32 x]))) ∧ Below w.heap.size w w' := by
  have HH := Lib.hid h
  have hsl := h.1
  have hn := h.2
  have HS := Lib.hid hsl
  have HN := Lib.hid hn
  have hfl := flatMap_len (fun x : Int => [Value.int .i32 x]) 1 (fun _ => rfl) l
  clear hsl h
  rcases hn with rfl | ⟨ad, n, c, rfl⟩
  · have h0 : l.length = 0 := by
      obtain ⟨a, cap, e, -⟩ := HS.out.form
      simp only [Value.slice.injEq] at e
      exact e.2.1.symm
    have hl0 : l = [] := List.eq_nil_of_length_eq_zero h0
    subst hl0
    clear HS HN HH hfl h0
    have he : ∀ w : World, (binOp .eql 56 (.slice none 0 0) (.slice none 0 0)).run Try.prog w = .ok (.bool true) w := fun _ => rfl
    go_enter Try.func80, Try.ntmps80
    go_wp2
    go_ret
    exact ⟨⟨_, rfl, World.ownsRow_nil _ _ _ _⟩, Below.refl _ _⟩
  · obtain ⟨a, cap, e, hl, hm, -⟩ := HS.out.form
    simp only [Value.slice.injEq] at e
    obtain ⟨-, rfl, rfl⟩ := e
    have he : ∀ w : World, (binOp .eql 56 (.slice (some ad) l.length c) (.slice none 0 0)).run Try.prog w = .ok (.bool false) w := fun _ => rfl
    go_enter Try.func80, Try.ntmps80
    have own := World.ownsRow_made (e := 21) (size := 1) w #[] 0 (Nat.le_refl _) (by decide) rfl
    have hB : Below w.heap.size w (w.alloc (.cells #[] 21)) := (Below.refl _ _).alloc (Nat.le_refl _) _
    go_wp2_with (at_builtin; refine append_any rfl _ _ 56 rfl w.heap.size 21 (.int .i32 0) 1 4 Try.underlying56 info_vec rfl (by decide) _ 0 [] rfl own _ l.length (l.flatMap (fun x : Int => [Value.int .i32 x])) rfl (HS.out.grown hB) HN.out hfl Vec.one (by unfold maxLen; omega) (by omega) (by simp) ?_; intro v' w2 hown' hgrow)
    have hb2 : Below w.heap.size w w2 := hB.grown hgrow (by simp) (fun q hq => by have e : w.heap.size = q := Option.some.inj hq; omega)
    rw [Nat.zero_add, List.nil_append] at hown'
    have HO := Lib.hid hown'
    clear hown' hgrow own hB
    go_wp2
    go_ret
    exact ⟨⟨_, rfl, HO.out⟩, hb2⟩
set_option maxHeartbeats 1000000 in
theorem cloneV (v : Value) (l : List PV) (w : World) (h : VecsV w v l) (hlen : l.length ≤ 1000000) :
    Calls Try.prog 52 #[v] w fun e w' => (∃ v', e = .returned v' ∧ w'.ownsRow w.heap.size 56 1 v' l.length (l.flatMap (fun p : PV => [p.1]))) ∧ Below w.heap.size w w' := by
  have HH := Lib.hid h
  have hsl := h.1.1
  have hn := h.1.2
  have HS := Lib.hid hsl
  have HN := Lib.hid hn
  have hfl := flatMap_len (fun p : PV => [p.1]) 1 (fun _ => rfl) l
  clear hsl h
  rcases hn with rfl | ⟨ad, n, c, rfl⟩
  · have h0 : l.length = 0 := by
      obtain ⟨a, cap, e, -⟩ := HS.out.form
      simp only [Value.slice.injEq] at e
      exact e.2.1.symm
    have hl0 : l = [] := List.eq_nil_of_length_eq_zero h0
    subst hl0
    clear HS HN HH hfl h0
    have he : ∀ w : World, (binOp .eql 22 (.slice none 0 0) (.slice none 0 0)).run Try.prog w = .ok (.bool true) w := fun _ => rfl
    go_enter Try.func52, Try.ntmps52
    go_wp2
    go_ret
    exact ⟨⟨_, rfl, World.ownsRow_nil _ _ _ _⟩, Below.refl _ _⟩
  · obtain ⟨a, cap, e, hl, hm, -⟩ := HS.out.form
    simp only [Value.slice.injEq] at e
    obtain ⟨-, rfl, rfl⟩ := e
    have he : ∀ w : World, (binOp .eql 22 (.slice (some ad) l.length c) (.slice none 0 0)).run Try.prog w = .ok (.bool false) w := fun _ => rfl
    go_enter Try.func52, Try.ntmps52
    have own := World.ownsRow_made (e := 56) (size := 1) w #[] 0 (Nat.le_refl _) (by decide) rfl
    have hB : Below w.heap.size w (w.alloc (.cells #[] 56)) := (Below.refl _ _).alloc (Nat.le_refl _) _
    go_wp2_with (at_builtin; refine append_any rfl _ _ 22 rfl w.heap.size 56 (.slice none 0 0) 1 24 Try.underlying22 info_vecs rfl (by decide) _ 0 [] rfl own _ l.length (l.flatMap (fun p : PV => [p.1])) rfl (HS.out.grown hB) HN.out hfl (Vecs.one HH.out.2) (by unfold maxLen; omega) (by omega) (by simp) ?_; intro v' w2 hown' hgrow)
    have hb2 : Below w.heap.size w w2 := hB.grown hgrow (by simp) (fun q hq => by have e : w.heap.size = q := Option.some.inj hq; omega)
    rw [Nat.zero_add, List.nil_append] at hown'
    have HO := Lib.hid hown'
    clear hown' hgrow own hB
    go_wp2
    go_ret
    exact ⟨⟨_, rfl, HO.out⟩, hb2⟩
set_option maxHeartbeats 1000000 in
theorem cloneC (v : Value) (l : List Cel) (w : World) (h : CelsV w v l) (hlen : l.length ≤ 1000000) :
    Calls Try.prog 108 #[v] w fun e w' => (∃ v', e = .returned v' ∧ w'.ownsRow w.heap.size 60 5 v' l.length (l.flatMap Cel.cells)) ∧ Below w.heap.size w w' := by
  have HH := Lib.hid h
  have hsl := h.1.1
  have hn := h.1.2
  have HS := Lib.hid hsl
  have HN := Lib.hid hn
  have hfl := flatMap_len Cel.cells 5 (fun _ => rfl) l
  clear hsl h
  rcases hn with rfl | ⟨ad, n, c, rfl⟩
  · have h0 : l.length = 0 := by
      obtain ⟨a, cap, e, -⟩ := HS.out.form
      simp only [Value.slice.injEq] at e
      exact e.2.1.symm
    have hl0 : l = [] := List.eq_nil_of_length_eq_zero h0
    subst hl0
    clear HS HN HH hfl h0
    have he : ∀ w : World, (binOp .eql 35 (.slice none 0 0) (.slice none 0 0)).run Try.prog w = .ok (.bool true) w := fun _ => rfl
    go_enter Try.func108, Try.ntmps108
    go_wp2
    go_ret
    exact ⟨⟨_, rfl, World.ownsRow_nil _ _ _ _⟩, Below.refl _ _⟩
  · obtain ⟨a, cap, e, hl, hm, -⟩ := HS.out.form
    simp only [Value.slice.injEq] at e
    obtain ⟨-, rfl, rfl⟩ := e
    have he : ∀ w : World, (binOp .eql 35 (.slice (some ad) l.length c) (.slice none 0 0)).run Try.prog w = .ok (.bool false) w := fun _ => rfl
    go_enter Try.func108, Try.ntmps108
    have own := World.ownsRow_made (e := 60) (size := 5) w #[] 0 (Nat.le_refl _) (by decide) rfl
    have hB : Below w.heap.size w (w.alloc (.cells #[] 60)) := (Below.refl _ _).alloc (Nat.le_refl _) _
    go_wp2_with (at_builtin; refine append_any rfl _ _ 35 rfl w.heap.size 60 (.agg #[.bool false, .int .u64 0, .int .u64 0, .int .u64 0, .slice none 0 0]) 5 56 Try.underlying35 info_cell rfl (by decide) _ 0 [] rfl own _ l.length (l.flatMap Cel.cells) rfl (HS.out.grown hB) HN.out hfl (Cels.one HH.out.2) (by unfold maxLen; omega) (by omega) (by simp) ?_; intro v' w2 hown' hgrow)
    have hb2 : Below w.heap.size w w2 := hB.grown hgrow (by simp) (fun q hq => by have e : w.heap.size = q := Option.some.inj hq; omega)
    rw [Nat.zero_add, List.nil_append] at hown'
    have HO := Lib.hid hown'
    clear hown' hgrow own hB
    go_wp2
    go_ret
    exact ⟨⟨_, rfl, HO.out⟩, hb2⟩
end Go.Proofs.Ytlfmffjlmhpcdaa
