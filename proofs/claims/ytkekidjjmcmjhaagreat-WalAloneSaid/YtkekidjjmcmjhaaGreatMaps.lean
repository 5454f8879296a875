/- Maps keyed by ints, as functions from ints: what stands in the block of a map, what a lookup, a store, a delete, a range over it make of it. No program is named here. -/
import Derived.Maps.RangeWalk
import Derived.Maps.Ext
import Derived.Test.YtkekidjjmcmjhaaGreatKit
namespace Go.Proofs.YtkekidjjmcmjhaaGreat
open Go Go.RowKit Go.Maps Go.ChangeMaps Go.MapKept Go.WideShapes
open Go.WideElems (Fit rd rg pl rd_key rd_val rg_of other_key)
set_option maxRecDepth 100000

abbrev RV (v : Value) : Option (DataW Value × List MemPlace) := some (.held v, [])
abbrev W64 (x : Int) : Prop := (Lit.int .i64 x).wf = true
abbrev KI (x : Int) : Lit := .int .i64 x

theorem ki_key {x : Int} : WideAt.IsKeyLit (KI x) := by unfold KI WideAt.IsKeyLit; trivial
theorem ki_ne {x y : Int} (h : x ≠ y) : KI x ≠ KI y := fun e => h (by simpa [KI] using e)

def upd (F : Int → Option Value) (x : Int) (v : Option Value) : Int → Option Value := fun y => if y = x then v else F y
theorem upd_same (F : Int → Option Value) (x : Int) (v : Option Value) : upd F x v x = v := by simp [upd]
theorem upd_other (F : Int → Option Value) {x y : Int} (h : y ≠ x) (v : Option Value) : upd F x v y = F y := by simp [upd, h]

/-- D holds just what F says. -/
def Holds (D : DataW Value) (F : Int → Option Value) : Prop :=
  ∀ x, W64 x → Maps.has D (KI x) = (F x).isSome ∧ ∀ v, F x = some v → ∀ zd, D.atKey (KI x) zd = .held v

theorem Holds.put {D : DataW Value} {F : Int → Option Value} (h : Holds D F) (hm : IsMap D) (x : Int) (v : Value) : Holds (D.put (KI x) (.held v)) (upd F x (some v)) := by
  intro y hy
  by_cases e : y = x
  · subst e
    rw [has_put_same hm ki_key, upd_same]
    refine ⟨rfl, fun u hu zd => ?_⟩
    cases hu
    exact atKey_put_same hm ki_key _ _
  · rw [has_put_other (ki_ne e), upd_other F e]
    refine ⟨(h y hy).1, fun u hu zd => ?_⟩
    rw [atKey_put_other (ki_ne e)]
    exact (h y hy).2 u hu zd

theorem Holds.del {D : DataW Value} {F : Int → Option Value} (h : Holds D F) (x : Int) : Holds (D.del (KI x)) (upd F x none) := by
  intro y hy
  by_cases e : y = x
  · subst e
    rw [has_del_same, upd_same]
    exact ⟨rfl, fun u hu => by cases hu⟩
  · rw [has_del_other (ki_ne e), upd_other F e]
    refine ⟨(h y hy).1, fun u hu zd => ?_⟩
    rw [atKey_del_other (ki_ne e)]
    exact (h y hy).2 u hu zd

/-- Block m of w is a map of at most n entries that holds F. -/
def Mp (P : Program) (k : TypeId) (w : World) (m n : Nat) (F : Int → Option Value) : Prop := ∃ D, w.ownsMap P k RV m n D ∧ Holds D F

section
variable {P : Program} {k t e : TypeId} {w w' : World} {m n r cnt : Nat} {F : Int → Option Value} {left : Int → Bool} {x : Int}

theorem Mp.lt (h : Mp P k w m n F) : m < w.heap.size := by obtain ⟨D, h1, _⟩ := h; exact h1.lt
theorem Mp.mono (h : Mp P k w m n F) {n' : Nat} (hn : n ≤ n') : Mp P k w m n' F := by obtain ⟨D, h1, h2⟩ := h; exact ⟨D, h1.mono hn, h2⟩
theorem Mp.kept {row : Option Nat} (h : Mp P k w m n F) (hg : w.grownBy w' row) (hne : some m ≠ row) : Mp P k w' m n F := by obtain ⟨D, h1, h2⟩ := h; exact ⟨D, h1.kept hg hne, h2⟩
theorem Mp.alloc (h : Mp P k w m n F) (o : Obj) : Mp P k (w.alloc o) m n F := h.kept (World.grownBy_alloc w o none) (by simp)
theorem Mp.setCell (h : Mp P k w m n F) {a : Addr} (ha : m ≠ a.block) (u : Value) : Mp P k (w.setCell a u) m n F := by obtain ⟨D, h1, h2⟩ := h; exact ⟨D, h1.setCell ha u, h2⟩
theorem Mp.block (h : Mp P k w m n F) (hb : w'.heap[m]? = w.heap[m]?) : Mp P k w' m n F := by
  obtain ⟨D, ⟨es, clock, h1, h2⟩, h3⟩ := h
  exact ⟨D, ⟨es, clock, hb.trans h1, h2⟩, h3⟩
theorem Mp.below {B : Nat} (h : Mp P k w m n F) (hb : Below B w w') (hm : m < B) : Mp P k w' m n F := h.block (hb.block m hm)

theorem Mp.made (w : World) (P : Program) (k : TypeId) : Mp P k (w.alloc (.map #[] 0)) w.heap.size 0 (fun _ => none) :=
  ⟨_, World.ownsMap_made w P k RV, fun _ _ => ⟨rfl, fun _ h => by cases h⟩⟩

/-- What F says elsewhere than at ints that are there is nothing. -/
theorem Mp.congr {G : Int → Option Value} (h : Mp P k w m n F) (hG : ∀ x, W64 x → G x = F x) : Mp P k w m n G := by
  obtain ⟨D, h1, h2⟩ := h
  exact ⟨D, h1, fun x hx => by rw [hG x hx]; exact h2 x hx⟩

theorem Mp.look2 (h : Mp P k w m n F) (hk : P.underlying k = some (.int .i64)) (ht : P.underlying t = some (.map k e)) {z : Value} (hz : (zeroValue e).run P w = .ok z w) (hx : W64 x) :
    (Instr.lookup t (.map (some m)) (.int .i64 x) true).run P w = .ok (.tuple #[(F x).getD z, .bool (F x).isSome]) w := by
  obtain ⟨D, h1, h2⟩ := h
  obtain ⟨v, ps, hrun, hv⟩ := h1.look_ok (int_keyed hk) ht hz (zd := .held z) (zp := []) rfl (keyOf_int_mk hk hx)
  rw [hrun, (h2 x hx).1]
  have : v = (F x).getD z := by
    simp only [RV, Option.some.injEq, Prod.mk.injEq] at hv
    cases hF : F x with
    | none =>
      have h3 := (h2 x hx).1
      rw [hF] at h3
      rw [atKey_of_not_has h3] at hv
      simpa using hv.1
    | some u =>
      rw [(h2 x hx).2 u hF] at hv
      simpa using hv.1
  rw [this]

theorem Mp.look (h : Mp P k w m n F) (hk : P.underlying k = some (.int .i64)) (ht : P.underlying t = some (.map k e)) {z : Value} (hz : (zeroValue e).run P w = .ok z w) (hx : W64 x) :
    (Instr.lookup t (.map (some m)) (.int .i64 x) false).run P w = .ok ((F x).getD z) w := by
  obtain ⟨D, h1, h2⟩ := h
  obtain ⟨v, ps, hrun, hv⟩ := h1.lookup (int_keyed hk) ht hz (zd := .held z) (zp := []) rfl (keyOf_int_mk hk hx)
  rw [hrun]
  have : v = (F x).getD z := by
    simp only [RV, Option.some.injEq, Prod.mk.injEq] at hv
    cases hF : F x with
    | none =>
      have h3 := (h2 x hx).1
      rw [hF] at h3
      rw [atKey_of_not_has h3] at hv
      simpa using hv.1
    | some u =>
      rw [(h2 x hx).2 u hF] at hv
      simpa using hv.1
  rw [this]

theorem Mp.store (h : Mp P k w m n F) (hk : P.underlying k = some (.int .i64)) (ht : P.underlying t = some (.map k e)) (hn : n < maxLen) (hx : W64 x) (v : Value) :
    ∃ w', (Instr.mapUpdate t (.map (some m)) (.int .i64 x) v).run P w = .ok () w' ∧ Mp P k w' m (n + 1) (upd F x (some v)) ∧ w.mapTurned w' m := by
  obtain ⟨D, h1, h2⟩ := h
  obtain ⟨w', hrun, h3, h4⟩ := h1.store (int_keyed hk) ht hn (d := .held v) (ps := []) (keyOf_int_mk hk hx) rfl
  exact ⟨w', hrun, ⟨_, h3, h2.put h1.isMap x v⟩, h4⟩

theorem Mp.drop (h : Mp P k w m n F) (hk : P.underlying k = some (.int .i64)) (ht : P.underlying t = some (.map k e)) (hx : W64 x) (ty : TypeId) :
    ∃ w', (Builtin.delete_ #[t, k] ty #[.map (some m), .int .i64 x]).run P w = .ok (.tuple #[]) w' ∧ Mp P k w' m n (upd F x none) ∧ w.mapTurned w' m := by
  obtain ⟨D, h1, h2⟩ := h
  obtain ⟨w', hrun, h3, h4⟩ := h1.drop (int_keyed hk) ht (keyOf_int_mk hk hx) ty
  exact ⟨w', hrun, ⟨_, h3, h2.del x⟩, h4⟩

/-! ### how many -/
theorem entry_int (hk : P.underlying k = some (.int .i64)) {D : DataW Value} (h : w.ownsMap P k RV m n D) : ∃ es, D = .map es ∧ es.Pairwise (fun p q => p.1 ≠ q.1) ∧ ∀ p ∈ es, ∃ x, W64 x ∧ p.1 = KI x := by
  obtain ⟨es, rfl, h1, h2⟩ := h.entries (int_keyed hk)
  refine ⟨es, rfl, h1, fun p hp => ?_⟩
  obtain ⟨es0, clock, _, Ft, _, hD⟩ := h
  simp only [DataW.map.injEq] at hD
  rw [hD] at hp
  obtain ⟨x0, hx0, rfl⟩ := List.mem_map.1 (mem_sorted.1 hp)
  obtain ⟨y, hy⟩ := Ft.reads x0 hx0
  obtain ⟨x, _, h4, h5⟩ := keyOf_int_inv hk (rd_key hy)
  exact ⟨x, h5, by rw [rg_of hy]; exact h4⟩

def litI : Lit → Int | .int _ x => x | _ => 0

theorem nodup_short : ∀ (N : Nat) (l : List Int), l.Nodup → (∀ x ∈ l, 0 ≤ x ∧ x < N) → l.length ≤ N
  | 0, l, _, h => by
    cases l with
    | nil => simp
    | cons x r => have := h x (by simp); omega
  | N + 1, l, hn, h => by
    by_cases hN : (N : Int) ∈ l
    · have h1 := nodup_short N (l.erase (N : Int)) (hn.erase _) (fun x hx => by
        have h2 := (List.Nodup.mem_erase_iff hn).1 hx
        have := h x h2.2
        have := h2.1
        omega)
      rw [List.length_erase_of_mem hN] at h1
      omega
    · have h1 := nodup_short N l hn (fun x hx => by
        have := h x hx
        have : x ≠ N := fun e => hN (e ▸ hx)
        omega)
      omega

theorem Mp.few (h : Mp P k w m n F) (hk : P.underlying k = some (.int .i64)) (N : Nat) (hF : ∀ x, W64 x → (F x).isSome = true → 0 ≤ x ∧ x < N) : Mp P k w m N F := by
  obtain ⟨D, h1, h2⟩ := h
  obtain ⟨es, rfl, h3, h4⟩ := entry_int hk h1
  refine ⟨_, ?_, h2⟩
  have hlen : es.length ≤ N := by
    have := nodup_short N (es.map fun p => litI p.1) (List.pairwise_map.2 (h3.imp_of_mem (fun {p q} hp hq hne e0 => hne (by
      obtain ⟨x, _, ex⟩ := h4 p hp
      obtain ⟨y, _, ey⟩ := h4 q hq
      rw [ex, ey] at e0 ⊢
      simp only [litI, KI] at e0
      rw [e0])))) (fun z hz => by
        obtain ⟨p, hp, rfl⟩ := List.mem_map.1 hz
        obtain ⟨x, hx, ex⟩ := h4 p hp
        have hh : Maps.has (.map es) (KI x) = true := List.any_eq_true.2 ⟨p, hp, by rw [ex]; exact WideAt.sameKey_self ki_key⟩
        rw [(h2 x hx).1] at hh
        rw [ex]
        exact hF x hx hh)
    simpa using this
  obtain ⟨es0, clock, hb, Ft, hs, hD⟩ := h1
  refine ⟨es0, clock, hb, Ft, ?_, hD⟩
  have e1 : es.length = es0.size := by
    simp only [DataW.map.injEq] at hD
    rw [hD, length_sorted]; simp
  omega

/-! ### a range over a map -/
def MpR (P : Program) (k : TypeId) (w : World) (m r n : Nat) (F : Int → Option Value) (left : Int → Bool) (cnt : Nat) : Prop :=
  ∃ D lf, w.ranges P k RV m r n D lf cnt ∧ Holds D F ∧ ∀ x, W64 x → lf (KI x) = left x

theorem MpR.owns (h : MpR P k w m r n F left cnt) : Mp P k w m n F := by obtain ⟨D, lf, h1, h2, _⟩ := h; exact ⟨D, h1.owns, h2⟩
theorem MpR.left_eq (h : MpR P k w m r n F left cnt) : w.rangeLeft m r = cnt := by obtain ⟨D, lf, h1, _⟩ := h; exact h1.left_eq
theorem MpR.ne (h : MpR P k w m r n F left cnt) : r ≠ m := by obtain ⟨D, lf, h1, _⟩ := h; exact h1.ne
theorem MpR.lt (h : MpR P k w m r n F left cnt) : r < w.heap.size := by obtain ⟨D, lf, h1, _⟩ := h; exact h1.lt
theorem MpR.kept {row : Option Nat} (h : MpR P k w m r n F left cnt) (hg : w.grownBy w' row) (hb : some m ≠ row) (hr : some r ≠ row) : MpR P k w' m r n F left cnt := by
  obtain ⟨D, lf, h1, h2⟩ := h; exact ⟨D, lf, h1.kept hg hb hr, h2⟩
theorem MpR.block (h : MpR P k w m r n F left cnt) (hb : w'.heap[m]? = w.heap[m]?) (hr : w'.heap[r]? = w.heap[r]?) : MpR P k w' m r n F left cnt := by
  obtain ⟨D, lf, ⟨es, clock, since, seen, c0, h1, h2, h3, h4, h5, h6⟩, h7⟩ := h
  exact ⟨D, lf, ⟨es, clock, since, seen, c0, hb.trans h1, h2, h3, h4, hr.trans h5, h6⟩, h7⟩
theorem MpR.setCell (h : MpR P k w m r n F left cnt) {a : Addr} (ha : m ≠ a.block) (hr : r ≠ a.block) (u : Value) : MpR P k (w.setCell a u) m r n F left cnt :=
  h.block (by rw [RowKit.Below.heap_setCell _ _ _ _ ha]) (by rw [RowKit.Below.heap_setCell _ _ _ _ hr])
theorem MpR.congr {G : Int → Option Value} {left' : Int → Bool} (h : MpR P k w m r n F left cnt) (hG : ∀ x, W64 x → G x = F x) (hl : ∀ x, W64 x → left' x = left x) : MpR P k w m r n G left' cnt := by
  obtain ⟨D, lf, h1, h2, h3⟩ := h
  exact ⟨D, lf, h1, fun x hx => by rw [hG x hx]; exact h2 x hx, fun x hx => by rw [hl x hx]; exact h3 x hx⟩

theorem Mp.range (h : Mp P k w m n F) (hk : P.underlying k = some (.int .i64)) (ht : P.underlying t = some (.map k e)) :
    ∃ w' cnt, (Instr.range t (.map (some m))).run P w = .ok (.pointer (some ⟨w.heap.size, 0, none⟩)) w' ∧ MpR P k w' m w.heap.size n F (fun x => (F x).isSome) cnt ∧ w.grownBy w' none ∧ w'.heap.size = w.heap.size + 1 := by
  obtain ⟨D, h1, h2⟩ := h
  obtain ⟨w', hrun, h3, h4, h5⟩ := h1.range (int_keyed hk) ht
  exact ⟨w', _, hrun, ⟨D, _, h3, h2, fun x hx => (h2 x hx).1⟩, h4, h5⟩

/-- The step. -/
theorem MpR.next (h : MpR P k w m r n F left cnt) (hk : P.underlying k = some (.int .i64)) (ty : TypeId) :
    (cnt = 0 ∧ (∀ x, W64 x → left x = false) ∧ (Instr.next (.pointer (some ⟨r, 0, none⟩)) false ty).run P w = .ok (.tuple #[.bool false]) w) ∨
    ∃ x v w' cnt', W64 x ∧ left x = true ∧ F x = some v ∧ (Instr.next (.pointer (some ⟨r, 0, none⟩)) false ty).run P w = .ok (.tuple #[.bool true, .int .i64 x, v]) w' ∧
      MpR P k w' m r n F (fun z => left z && !decide (z = x)) cnt' ∧ cnt' < cnt ∧ w.grownBy w' (some r) ∧ w'.heap.size = w.heap.size ∧ (Instr.entry (.pointer (some ⟨r, 0, none⟩))).run P w' = .ok (.tuple #[.int .i64 x, v]) w' := by
  obtain ⟨D, lf, h1, h2, h3⟩ := h
  rcases h1.next (int_keyed hk) ty with ⟨a1, a2, a3⟩ | ⟨key, v, kl, y, w', cnt', hkey, hlk, hv, hat, hrun, hrg, hlt, hgr, hsz, hen⟩
  · exact .inl ⟨a1, fun x hx => by rw [← h3 x hx]; exact a2 _, a3⟩
  · obtain ⟨x, rfl, rfl, hx⟩ := keyOf_int_inv hk hkey
    refine .inr ⟨x, v, w', cnt', hx, by rw [← h3 x hx]; exact hlk, ?_, hrun, ⟨D, _, hrg, h2, fun z hz => ?_⟩, hlt, hgr, hsz, hen⟩
    · have hh := has_true_of_atKey hat
      rw [show (Lit.int .i64 x) = KI x from rfl, (h2 x hx).1] at hh
      obtain ⟨u, hu⟩ := Option.isSome_iff_exists.1 hh
      have e1 := (h2 x hx).2 u hu .nil
      rw [show KI x = Lit.int .i64 x from rfl, hat] at e1
      simp only [RV, Option.some.injEq] at hv
      rw [← hv] at e1
      simp only [DataW.held.injEq] at e1
      rw [hu, e1]
    · show (lf (KI z) && !(KI z).sameKey (KI x)) = _
      rw [h3 z hz]
      by_cases ez : z = x
      · subst ez
        rw [WideAt.sameKey_self ki_key]; simp
      · rw [sameKey_ne (ki_ne ez)]; simp [ez]

theorem leftOf_size (es : Array MapEntry) (seen : Array Nat) : (leftOf es seen).size = ((es.toList.map (·.born)).filter fun b => !seen.contains b).length := by
  unfold leftOf
  rw [List.filter_map, List.length_map, ← Array.length_toList, Array.toList_filter]
  rfl

/-- 'm[k] = v' in the round, where k is there already. -/
theorem ranges_put {D : DataW Value} {lf : Lit → Bool} (h : w.ranges P k RV m r n D lf cnt) (K : Keyed P k) (ht : P.underlying t = some (.map k e)) (hn : n < maxLen) {key : Value} {kl : Lit} (hkey : keyOf P k key = some kl) (hhas : Maps.has D kl = true) (v : Value) :
    ∃ w', (Instr.mapUpdate t (.map (some m)) key v).run P w = .ok () w' ∧ w'.ranges P k RV m r n (D.put kl (.held v)) lf cnt ∧ w.mapTurned w' m := by
  have hne := h.ne
  obtain ⟨es, clock, since, seen, c0, hb, Ft, hs, rfl, hr, hold, rfl, hl1, hl2, hsc, hsk⟩ := h
  obtain ⟨es', clock', hrun, F', hput, _, _, hwho⟩ := Maps.fit_store (R' := RV) K ht hb Ft (Nat.lt_of_le_of_lt hs hn) (fun _ _ _ _ hz => hz) hkey (rfl : RV v = some (.held v, []))
  rcases K.find w hkey es.toList Ft.keys with ⟨f1, f2⟩ | ⟨j, e0, f1, f2, f3⟩
  · exfalso
    obtain ⟨p, hp, hpk⟩ := List.any_eq_true.1 hhas
    obtain ⟨x0, hx0, rfl⟩ := List.mem_map.1 (mem_sorted.1 hp)
    obtain ⟨y, hy⟩ := Ft.reads x0 hx0
    have e1 := WideAt.sameKey_eq hpk
    rw [rg_of hy] at e1
    exact f2 x0 hx0 (K.inj (e1 ▸ rd_key hy) hkey)
  · have hj : es[j]? = some e0 := by simpa using f2
    have hrun2 : (Instr.mapUpdate t (.map (some m)) key v).run P w = .ok () (setBlock w m (.map (es.modify j (fun e' => { e' with key := key, val := v })) clock)) := by
      simp [Instr.mapUpdate, run_underlying ht, MapKept.run_getObj_map hb, K.check w false hkey, f1, hj, f3, K.stays w hkey, MapKept.run_setObj_map _ hb, Result.andThen, setBlock]
    rw [hrun] at hrun2
    have eb : setBlock w m (.map es' clock') = setBlock w m (.map (es.modify j (fun e' => { e' with key := key, val := v })) clock) := by injection hrun2
    have eb2 := congrArg (fun w0 : World => w0.heap[m]?) eb
    simp only [heap_setBlock_same hb, Option.some.injEq, Obj.map.injEq] at eb2
    obtain ⟨rfl, rfl⟩ := eb2
    have hlist : (es.modify j (fun e' => { e' with key := key, val := v })).toList = es.toList.set j { e0 with key := key, val := v } := by rw [Array.toList_modify, modify_eq_set _ _ _ _ f2]
    have hborn : (es.modify j (fun e' => { e' with key := key, val := v })).toList.map (·.born) = es.toList.map (·.born) := by
      rw [hlist, List.map_set]
      apply List.ext_getElem?
      intro i
      rw [List.getElem?_set]
      split
      · rename_i hij
        subst hij
        have hjl : j < es.toList.length := (List.getElem?_eq_some_iff.1 f2).1
        simp [f2, hjl]
        have := (List.getElem?_eq_some_iff.1 f2)
        simpa using hjl
      · rfl
    have hmem : ∀ x' ∈ (es.modify j (fun e' => { e' with key := key, val := v })).toList, ∃ x0 ∈ es.toList, x0.born = x'.born ∧ x0.key = x'.key := by
      intro x' hx'
      rw [hlist] at hx'
      rcases List.mem_or_eq_of_mem_set hx' with h1 | rfl
      · exact ⟨x', h1, rfl, rfl⟩
      · exact ⟨e0, List.mem_of_getElem? f2, rfl, f3⟩
    have hmem2 : ∀ x0 ∈ es.toList, ∃ x' ∈ (es.modify j (fun e' => { e' with key := key, val := v })).toList, x0.key = x'.key := by
      intro x0 hx0
      obtain ⟨i, hi, rfl⟩ := List.getElem_of_mem hx0
      rw [hlist]
      by_cases hij : i = j
      · subst hij
        refine ⟨{ e0 with key := key, val := v }, List.mem_iff_getElem.2 ⟨i, by simpa using hi, by simp⟩, ?_⟩
        rw [List.getElem?_eq_getElem hi] at f2
        simp only [Option.some.injEq] at f2
        rw [f2]; exact f3
      · exact ⟨es.toList[i], List.mem_iff_getElem.2 ⟨i, by simpa using hi, by rw [List.getElem_set]; simp [Ne.symm hij]⟩, rfl⟩
    have hkeyrg : ∀ {x0 x' : MapEntry}, x0 ∈ es.toList → x' ∈ (es.modify j (fun e' => { e' with key := key, val := v })).toList → x0.key = x'.key → (rg P k RV x').1 = (rg P k RV x0).1 := by
      intro x0 x' h0 h' hkk
      obtain ⟨y, hy⟩ := Ft.reads x0 h0
      obtain ⟨y', hy'⟩ := F'.reads x' h'
      have a1 := rd_key hy
      have a2 := rd_key hy'
      rw [hkk, a2] at a1
      rw [rg_of hy, rg_of hy']
      exact Option.some.inj a1
    refine ⟨_, hrun, ⟨_, clock', since, seen, c0, heap_setBlock_same hb _, F', ?_, ?_, (heap_setBlock_other hb _ hne).trans hr, ?_, ?_, ?_, ?_, hsc, hsk⟩, ⟨es, clock', _, clock', hb, rfl⟩⟩
    · simpa using hs
    · rw [DataW.put_eq, hput]
    · intro x' hx'
      obtain ⟨x0, h0, e1, _⟩ := hmem x' hx'
      rw [← e1]; exact hold x0 h0
    · rw [leftOf_size, leftOf_size, hborn]
    · intro x' hx'
      obtain ⟨x0, h0, e1, e2⟩ := hmem x' hx'
      rw [hkeyrg h0 hx' e2, hl1 x0 h0, e1]
    · intro kl' hkl'
      obtain ⟨x0, h0, rfl⟩ := hl2 kl' hkl'
      obtain ⟨x', hx', e2⟩ := hmem2 x0 h0
      exact ⟨x', hx', hkeyrg h0 hx' e2⟩

theorem MpR.put (h : MpR P k w m r n F left cnt) (hk : P.underlying k = some (.int .i64)) (ht : P.underlying t = some (.map k e)) (hn : n < maxLen) (hx : W64 x) {v0 : Value} (hF : F x = some v0) (v : Value) :
    ∃ w', (Instr.mapUpdate t (.map (some m)) (.int .i64 x) v).run P w = .ok () w' ∧ MpR P k w' m r n (upd F x (some v)) left cnt ∧ w.mapTurned w' m := by
  obtain ⟨D, lf, h1, h2, h3⟩ := h
  obtain ⟨w', hrun, h4, h5⟩ := ranges_put h1 (int_keyed hk) ht hn (keyOf_int_mk hk hx) (by rw [show (Lit.int .i64 x) = KI x from rfl, (h2 x hx).1, hF]; rfl) v
  exact ⟨w', hrun, ⟨_, lf, h4, h2.put h1.owns.isMap x v, h3⟩, h5⟩

end

/-! ### at the operation -/
section
variable {P : Program} (w : World) {ops : Array Oper} {rest : List Oper} {o : Oper} {a : Act} {Q : Exit → Act → World → Prop}

theorem wp_look {F : Int → Option Value} (hg : o.guard = none) (mo x : Operand) (t : TypeId) (hop : o.op = Op.lookup t mo x false) (k e : TypeId) (hk : P.underlying k = some (.int .i64)) (ht : P.underlying t = some (.map k e)) {z : Value} (hz : (zeroValue e).run P w = .ok z w) (m n : Nat)
    (hm : a.eval mo = .map (some m)) (h : Mp P k w m n F) (i : Int) (hx : a.eval x = .int .i64 i) (hi : W64 i) (u : Value) (hu : (F i).getD z = u) (hK : wpList P ops Q rest (a.put o.dst u) w) :
    wpList P ops Q (o :: rest) a w := by
  subst hu
  refine wpList_plain hg fun K' hK' => ?_
  unfold Oper.wp
  simp [execOp, hop, hm, hx, h.look hk ht hz hi, Result.andThen]
  exact hK' _ _ hK

theorem wp_look2 {F : Int → Option Value} (hg : o.guard = none) (mo x : Operand) (t : TypeId) (hop : o.op = Op.lookup t mo x true) (k e : TypeId) (hk : P.underlying k = some (.int .i64)) (ht : P.underlying t = some (.map k e)) {z : Value} (hz : (zeroValue e).run P w = .ok z w) (m n : Nat)
    (hm : a.eval mo = .map (some m)) (h : Mp P k w m n F) (i : Int) (hx : a.eval x = .int .i64 i) (hi : W64 i) (u : Value) (c : Bool) (hu : (F i).getD z = u) (hc : (F i).isSome = c) (hK : wpList P ops Q rest (a.put o.dst (.tuple #[u, .bool c])) w) :
    wpList P ops Q (o :: rest) a w := by
  subst hu hc
  refine wpList_plain hg fun K' hK' => ?_
  unfold Oper.wp
  simp [execOp, hop, hm, hx, h.look2 hk ht hz hi, Result.andThen]
  exact hK' _ _ hK

theorem wp_store {F : Int → Option Value} (hg : o.guard = none) (mo x v : Operand) (t : TypeId) (hop : o.op = Op.mapUpdate t mo x v) (k e : TypeId) (hk : P.underlying k = some (.int .i64)) (ht : P.underlying t = some (.map k e)) (m n : Nat)
    (hm : a.eval mo = .map (some m)) (h : Mp P k w m n F) (hn : n < maxLen) (i : Int) (u : Value) (hx : a.eval x = .int .i64 i) (hv : a.eval v = u) (hi : W64 i)
    (hK : ∀ w', Mp P k w' m (n + 1) (upd F i (some u)) → w.mapTurned w' m → wpList P ops Q rest (a.put o.dst undef) w') :
    wpList P ops Q (o :: rest) a w := by
  refine wpList_plain hg fun K' hK' => ?_
  obtain ⟨w', hrun, r1, r2⟩ := h.store hk ht hn hi u
  unfold Oper.wp
  simp [execOp, hop, hm, hx, hv, hrun, Result.andThen]
  exact hK' _ _ (hK w' r1 r2)

theorem wp_storeR {F : Int → Option Value} {left : Int → Bool} (hg : o.guard = none) (mo x v : Operand) (t : TypeId) (hop : o.op = Op.mapUpdate t mo x v) (k e : TypeId) (hk : P.underlying k = some (.int .i64)) (ht : P.underlying t = some (.map k e)) (m r n cnt : Nat)
    (hm : a.eval mo = .map (some m)) (h : MpR P k w m r n F left cnt) (hn : n < maxLen) (i : Int) (u : Value) (hx : a.eval x = .int .i64 i) (hv : a.eval v = u) (hi : W64 i) (v0 : Value) (hF : F i = some v0)
    (hK : ∀ w', MpR P k w' m r n (upd F i (some u)) left cnt → w.mapTurned w' m → wpList P ops Q rest (a.put o.dst undef) w') :
    wpList P ops Q (o :: rest) a w := by
  refine wpList_plain hg fun K' hK' => ?_
  obtain ⟨w', hrun, r1, r2⟩ := h.put hk ht hn hi hF u
  unfold Oper.wp
  simp [execOp, hop, hm, hx, hv, hrun, Result.andThen]
  exact hK' _ _ (hK w' r1 r2)

theorem wp_delete {F : Int → Option Value} (hg : o.guard = none) (mo x : Operand) (t k : TypeId) (hop : o.op = Op.call { callee := Callee.builtin Builtin.delete, args := #[mo, x], argTypes := #[t, k] })
    (e : TypeId) (hk : P.underlying k = some (.int .i64)) (ht : P.underlying t = some (.map k e)) (m n : Nat)
    (hm : a.eval mo = .map (some m)) (h : Mp P k w m n F) (i : Int) (hx : a.eval x = .int .i64 i) (hi : W64 i)
    (hK : ∀ w', Mp P k w' m n (upd F i none) → w.mapTurned w' m → wpList P ops Q rest (a.put o.dst (.tuple #[])) w') :
    wpList P ops Q (o :: rest) a w := by
  refine wpList_plain hg fun K' hK' => ?_
  obtain ⟨w', hrun, r1, r2⟩ := h.drop hk ht hi o.type
  unfold Oper.wp
  simp [execOp, hop, resolve, invoke, builtin, hm, hx, hrun, Result.andThen]
  exact hK' _ _ (hK w' r1 r2)

theorem wp_range {F : Int → Option Value} (hg : o.guard = none) (mo : Operand) (t : TypeId) (hop : o.op = Op.range t mo) (k e : TypeId) (hk : P.underlying k = some (.int .i64)) (ht : P.underlying t = some (.map k e)) (m n : Nat)
    (hm : a.eval mo = .map (some m)) (h : Mp P k w m n F)
    (hK : ∀ w' cnt, MpR P k w' m w.heap.size n F (fun x => (F x).isSome) cnt → w.grownBy w' none → w'.heap.size = w.heap.size + 1 → wpList P ops Q rest (a.put o.dst (.pointer (some ⟨w.heap.size, 0, none⟩))) w') :
    wpList P ops Q (o :: rest) a w := by
  refine wpList_plain hg fun K' hK' => ?_
  obtain ⟨w', cnt, hrun, r1, r2, r3⟩ := h.range hk ht
  unfold Oper.wp
  simp [execOp, hop, hm, hrun, Result.andThen]
  exact hK' _ _ (hK w' cnt r1 r2 r3)

/-- The step; 'inv': every element has the shape 'mkV'. -/
theorem wp_next {β : Type} {F : Int → Option Value} {left : Int → Bool} (hg : o.guard = none) (it : Operand) (hop : o.op = Op.next it false) (k : TypeId) (hk : P.underlying k = some (.int .i64)) (mkV : β → Value) (m r n cnt : Nat)
    (hit : a.eval it = .pointer (some ⟨r, 0, none⟩)) (h : MpR P k w m r n F left cnt) (inv : ∀ x v, F x = some v → ∃ c, v = mkV c)
    (hDone : (∀ x, W64 x → left x = false) → wpList P ops Q rest (a.put o.dst (.tuple #[.bool false])) w)
    (hMore : ∀ (x : Int) (c : β) (w' : World) (cnt' : Nat), W64 x → left x = true → F x = some (mkV c) → MpR P k w' m r n F (fun z => left z && !decide (z = x)) cnt' → cnt' < cnt → w.grownBy w' (some r) → w'.heap.size = w.heap.size →
      (Instr.entry (.pointer (some ⟨r, 0, none⟩))).run P w' = .ok (.tuple #[.int .i64 x, mkV c]) w' → wpList P ops Q rest (a.put o.dst (.tuple #[.bool true, .int .i64 x, mkV c])) w') :
    wpList P ops Q (o :: rest) a w := by
  refine wpList_plain hg fun K' hK' => ?_
  unfold Oper.wp
  rcases h.next hk o.type with ⟨_, hl, hrun⟩ | ⟨x, v, w', cnt', hx, hl, hF, hrun, hrg, hlt, hgr, hsz, hen⟩
  · simp [execOp, hop, hit, hrun, Result.andThen]
    exact hK' _ _ (hDone hl)
  · obtain ⟨c, rfl⟩ := inv x v hF
    simp [execOp, hop, hit, hrun, Result.andThen]
    exact hK' _ _ (hMore x c w' cnt' hx hl hF hrg hlt hgr hsz hen)
end

end Go.Proofs.YtkekidjjmcmjhaaGreat
