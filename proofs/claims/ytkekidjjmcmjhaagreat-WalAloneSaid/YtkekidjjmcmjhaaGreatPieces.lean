/- The iterator of a disk's pieces: its contract. -/
import Derived.Test.YtkekidjjmcmjhaaGreatFiles
import Derived.RangeFuncNested
import Derived.RangeFuncBound
import Derived.RangeFuncCalls
import Derived.RangeFuncLeaves
import Derived.RangeFuncWrites
import Derived.RangeFuncBox
import Derived.Shelf.Abstract
import Derived.Shelf.RegionOpen
import Derived.OwnWalkIn
import Derived.TacticsInMore
import Derived.LoopNIn
import Derived.LoopIn
import Derived.Maps.OwnIn
namespace Go.Proofs.YtkekidjjmcmjhaaGreat
open Go.RowKit Go.Shelf
set_option maxRecDepth 100000
attribute [local go_sem] Oper.semAt_some

/-- A piece: its file, and where it ends. -/
abbrev Pc := Fin 4 × Fin 65537
def pc (x e : Nat) : Pc := (Fin.ofNat 4 x, Fin.ofNat 65537 e)
def encP (p : Pc) : Array Value := #[.int .i64 (p.1.val : Int), .int .i64 (p.2.val : Int)]
theorem encP_pc {x e : Nat} (hx : x < 4) (he : e ≤ 65536) : encP (pc x e) = #[.int .i64 (x : Int), .int .i64 (e : Int)] := by
  unfold encP pc
  simp only [Fin.ofNat]
  rw [Nat.mod_eq_of_lt hx, Nat.mod_eq_of_lt (by omega)]

/-- How many loose pieces a file has. -/
def nP (f : Fi) : Nat := (f.bs.length - f.sy.toNat + 7) / 8
def pEnd (f : Fi) (j : Nat) : Nat := min (f.sy.toNat + 8 * j + 8) f.bs.length
def pieceN (s : DS) (x : Int) (j : Nat) : List Pc := (List.range j).map fun i => pc x.toNat (pEnd (s.at x) i)
def pieceL (s : DS) (x : Int) : List Pc := pieceN s x (nP (s.at x))
def piecesK (s : DS) (k : Nat) : List Pc := ((namesOf s).take k).flatMap (pieceL s)
def pieces (s : DS) : List Pc := (namesOf s).flatMap (pieceL s)

theorem pieceN_succ (s : DS) (x : Int) (j : Nat) : pieceN s x (j + 1) = pieceN s x j ++ [pc x.toNat (pEnd (s.at x) j)] := by
  unfold pieceN; rw [List.range_succ, List.map_append]; rfl
theorem piecesK_succ (s : DS) (k : Nat) (h : k < (namesOf s).length) : piecesK s (k + 1) = piecesK s k ++ pieceL s (namesOf s)[k] := by
  unfold piecesK; rw [List.take_succ_eq_append_getElem h, List.flatMap_append]; simp
theorem piecesK_all (s : DS) : piecesK s (namesOf s).length = pieces s := by unfold piecesK pieces; rw [List.take_length]
theorem piecesK_pre (s : DS) (k : Nat) : piecesK s k <+: pieces s := by
  refine ⟨((namesOf s).drop k).flatMap (pieceL s), ?_⟩
  unfold piecesK pieces
  rw [← List.flatMap_append, List.take_append_drop]
theorem pieces_mid (s : DS) (k : Nat) (h : k < (namesOf s).length) (j : Nat) (hj : j ≤ nP (s.at (namesOf s)[k])) : piecesK s k ++ pieceN s (namesOf s)[k] j <+: pieces s := by
  refine List.IsPrefix.trans ?_ (piecesK_pre s (k + 1))
  rw [piecesK_succ s k h]
  refine ⟨(pieceN s (namesOf s)[k] (nP (s.at (namesOf s)[k]))).drop j, ?_⟩
  rw [List.append_assoc]
  congr 1
  have : pieceN s (namesOf s)[k] j = (pieceN s (namesOf s)[k] (nP (s.at (namesOf s)[k]))).take j := by
    unfold pieceN
    rw [← List.map_take, List.take_range, Nat.min_eq_left hj]
  rw [this, List.take_append_drop]
  rfl

/-- What a round that goes on keeps: all below n0; all cells from n1 on but the row that the body owns. -/
structure Kq (n0 n1 : Nat) (own : World → Option Nat) (W W' : World) : Prop where
  low : Below n0 W W'
  cells : ∀ k, n1 ≤ k → some k ≠ own W → ∀ o, W.heap[k]? = some o → o.isCells = true → W'.heap[k]? = some o
  ow : own W' = own W ∨ ∃ k, own W' = some k ∧ W.heap.size ≤ k ∧ k < W'.heap.size

theorem Kq.trans {n0 n1 : Nat} {own : World → Option Nat} {A B C : World} (h : Kq n0 n1 own A B) (k : Kq n0 n1 own B C) : Kq n0 n1 own A C := by
  refine ⟨h.low.trans k.low, fun i hi hne o ho hc => ?_, ?_⟩
  · have h1 := h.cells i hi hne o ho hc
    refine k.cells i hi (fun e => ?_) o h1 hc
    rcases h.ow with h2 | ⟨q, h2, h3, -⟩
    · exact hne (e.trans h2)
    · rw [h2] at e
      cases e
      have := (Array.getElem?_eq_some_iff.1 ho).1
      omega
  · rcases k.ow with h1 | ⟨q, h1, h2, h5⟩
    · rcases h.ow with h3 | ⟨q, h3, h4, h5⟩
      · exact .inl (h1.trans h3)
      · exact .inr ⟨q, h1.trans h3, h4, by have := k.low.size; omega⟩
    · exact .inr ⟨q, h1, by have := h.low.size; omega, h5⟩
theorem Kq.put {n0 n1 : Nat} {own : World → Option Nat} {w : World} (hn : n0 ≤ n1) (hw : n1 ≤ w.heap.size) (hO : ∀ W W' : World, Below n1 W W' → own W' = own W) (W : World) (l : Nat) (o o' : Obj) (hl : w.heap.size ≤ l) (h : W.heap[l]? = some o) (hc : o.isCells = false) (hwk : o.isWalk = false) : Kq n0 n1 own W (W.putObj l o') := by
  have hb : Below n1 W (W.putObj l o') := belowK_b (w := w) hw W l o o' hl h hc hwk
  refine ⟨hb.mono hn, fun k _ _ q hq hqc => ?_, .inl (hO _ _ hb)⟩
  have hne : k ≠ l := fun e => by
    rw [e, h] at hq
    cases hq
    rw [hc] at hqc
    cases hqc
  rw [(grownBy_putObj' W l o').block k (Array.getElem?_eq_some_iff.1 hq).1 (fun e => hne (Option.some.inj e)), hq]

theorem abides_belowD {β : Type} {B : Nat} {J : β → World → Prop} (hJ : AbidesFrom B J) {s : β} {W W' : World} (h : J s W) (hb : Below W.heap.size W W') : J s W' :=
  hJ s W W' none h ⟨hb.os, hb.tape, hb.output, hb.size, fun i hi _ => hb.block i hi⟩ (fun r e => by cases e)

/-- What the iterator holds on to, from round to round: the blocks of bs are as they were laid, and not the body's. -/
structure Hold (n1 : Nat) (own : World → Option Nat) (w0 : World) (bs : List (Nat × Obj)) (W : World) : Prop where
  low : Below w0.heap.size w0 W
  size : n1 ≤ W.heap.size
  ow : ∀ k, own W = some k → k < W.heap.size
  bl : ∀ p ∈ bs, W.heap[p.1]? = some p.2 ∧ p.2.isCells = true ∧ n1 ≤ p.1 ∧ own W ≠ some p.1

section
variable {n1 : Nat} {own : World → Option Nat} {w0 W W' : World} {bs : List (Nat × Obj)}
theorem Hold.lt (h : Hold n1 own w0 bs W) {p : Nat × Obj} (hp : p ∈ bs) : p.1 < W.heap.size := (Array.getElem?_eq_some_iff.1 (h.bl p hp).1).1
theorem Hold.kq {n0 : Nat} (h : Hold n1 own w0 bs W) (k : Kq n0 n1 own W W') (hn : n0 = w0.heap.size) : Hold n1 own w0 bs W' := by
  subst hn
  refine ⟨h.low.trans k.low, Nat.le_trans h.size k.low.size, fun i hi => ?_, fun p hp => ?_⟩
  · rcases k.ow with h1 | ⟨q, h1, h2, h3⟩
    · have := h.ow i (h1 ▸ hi); have := k.low.size; omega
    · rw [h1] at hi; cases hi; exact h3
  · obtain ⟨g1, g2, g3, g4⟩ := h.bl p hp
    refine ⟨k.cells p.1 g3 (fun e => g4 e.symm) p.2 g1 g2, g2, g3, fun e => ?_⟩
    rcases k.ow with h1 | ⟨q, h1, h2, h3⟩
    · exact g4 (h1 ▸ e)
    · rw [h1] at e
      cases e
      have := h.lt hp
      omega
theorem Hold.below (h : Hold n1 own w0 bs W) (hO : ∀ W W' : World, Below n1 W W' → own W' = own W) (hb : Below W.heap.size W W') (hw : w0.heap.size ≤ W.heap.size) : Hold n1 own w0 bs W' := by
  have e := hO W W' (hb.mono h.size)
  refine ⟨h.low.trans (hb.mono hw), Nat.le_trans h.size hb.size, fun i hi => ?_, fun p hp => ?_⟩
  · have := h.ow i (e ▸ hi); have := hb.size; omega
  · obtain ⟨g1, g2, g3, g4⟩ := h.bl p hp
    exact ⟨(hb.block _ (h.lt hp)).trans g1, g2, g3, fun e1 => g4 (e ▸ e1)⟩
theorem Hold.add (h : Hold n1 own w0 bs W) {p : Nat × Obj} (h1 : W.heap[p.1]? = some p.2) (h2 : p.2.isCells = true) (h3 : n1 ≤ p.1) (h4 : own W ≠ some p.1) : Hold n1 own w0 (p :: bs) W :=
  ⟨h.low, h.size, h.ow, fun q hq => by
    rcases List.mem_cons.1 hq with rfl | hq
    · exact ⟨h1, h2, h3, h4⟩
    · exact h.bl q hq⟩
theorem Hold.sub {bs' : List (Nat × Obj)} (h : Hold n1 own w0 bs W) (hs : ∀ p ∈ bs', p ∈ bs) : Hold n1 own w0 bs' W := ⟨h.low, h.size, h.ow, fun p hp => h.bl p (hs p hp)⟩
end

/-- A row of numbers of the call's own: its block, and what it reads. -/
theorem row_open {w : World} {B e : Nat} {v : Value} {l : List Int} (h : w.ownsRow B e 1 v l.length (l.map (Value.int .i64))) : ∃ a cap g o, v = .slice a l.length cap ∧ l.length ≤ cap ∧ cap ≤ 9223372036854775807 ∧
    (l ≠ [] → a = some ⟨g, 0, none⟩ ∧ B ≤ g ∧ w.heap[g]? = some o ∧ o.isCells = true ∧ ∀ i (hi : i < l.length), w.cell? ⟨g, i, none⟩ = some (.int .i64 l[i])) := by
  rcases h.2 with ⟨rfl, h0⟩ | ⟨g, cap, cur, rfl, hB, hg, hl, hm, hs, hx⟩
  · have := List.eq_nil_of_length_eq_zero h0
    subst this
    exact ⟨none, 0, 0, default, rfl, Nat.le_refl _, by omega, fun hne => absurd rfl hne⟩
  · refine ⟨_, cap, g, _, rfl, hl, by unfold maxLen at hm; omega, fun _ => ⟨rfl, hB, hg, rfl, fun i hi => ?_⟩⟩
    have := h.cells (g := g) rfl i (.int .i64 l[i]) (by simp [hi])
    have e : (⟨g, 0, none⟩ : Addr).add i = ⟨g, i, none⟩ := by unfold Addr.add; split <;> simp_all
    rw [e] at this
    exact this

section
variable {A : List Nat} {b m : Nat} {s : DS}

set_option maxRecDepth 100000 in
set_option maxHeartbeats 2000000 in
theorem pieces1_in (n : Nat) (hn : 1 ≤ n) (l Bm n1 : Nat) (w0 : World) (own : World → Option Nat) (hO : ∀ W W' : World, Below n1 W W' → own W' = own W) (J Jx : List Pc → World → Prop) (W : World) (hJ : AbidesFrom W.heap.size J)
    (hY : ∀ pre x W, J pre W → pre.length < (pieces s).length + 1 → YieldAt Fence.wide (n - 1) Tryz.prog l (encP x) W fun e W' =>
      (e = .returned (.bool true) ∧ J (pre ++ [x]) W' ∧ Kq w0.heap.size n1 own W W') ∨ (e = .returned (.bool false) ∧ Jx (pre ++ [x]) W'))
    (hn0 : w0.heap.size ≤ n1) (hc0 : W.cell? ⟨Bm, 0, none⟩ = some (DP b)) (hD : Disk w0 A b m s) (hok : s.Ok) (oB : Obj) (hH : Hold n1 own w0 [(Bm, oB)] W) (h0 : J [] W) :
    CallsIn Fence.wide n Tryz.prog 98 #[.func (.yield l) #[] #[], .pointer (some ⟨Bm, 0, none⟩)] W fun e W' => (∃ v, e = .returned v) ∧
      ((∃ ys, ys = pieces s ∧ J ys W') ∨ (∃ pre, pre <+: pieces s ∧ Jx pre W')) := by
  have HY := Lib.hid hY
  have HJ := Lib.hid hJ
  have HD := Lib.hid hD
  have HH := Lib.hid hH
  have hsz := hH.size
  have hBl := hH.lt (p := (Bm, oB)) (by simp)
  clear hY hD hH
  refine callsIn_of_wp Tryz.func98 rfl trivial ?_ rfl
  simp only [Tryz.ntmps98, List.size_toArray, List.length_cons, List.length_nil, Nat.reduceAdd, Nat.reduceSub, Array.replicate_succ, Array.replicate_zero, List.push_toArray, List.append_toArray, List.nil_append, List.cons_append]
  gi_wp2_with (refine ⟨trivial, ?_⟩; gi_at_call 62; refine (callsIn_wide.2 (f_Files (HD.out.below HH.out.low) hok)).mono ?_; rintro e w1 ⟨⟨v, rfl, own1⟩, hb1⟩; refine Hid.out ?_)
  refine Lib.hid ?_
  obtain ⟨a, cap, g, o, rfl, hle, hcap, hrow⟩ := row_open own1
  have HN := namesOf_len s
  have hH1 : ∃ bs, Hold n1 own w0 bs w1 ∧ (Bm, oB) ∈ bs ∧ (namesOf s ≠ [] → (g, o) ∈ bs) := by
    have h1 := HH.out.below hO hb1 (by omega)
    by_cases hne : namesOf s = []
    · exact ⟨_, h1, by simp, fun hc => absurd hne hc⟩
    · obtain ⟨-, g2, g3, g4, -⟩ := hrow hne
      exact ⟨_, h1.add (p := (g, o)) g3 g4 (by dsimp; omega) (fun e => by
        have e2 := hO W w1 (hb1.mono hsz)
        rw [e2] at e
        have := HH.out.ow _ e
        dsimp at this; omega), by simp, fun _ => by simp⟩
  obtain ⟨bs, hH2, hBb, hgb⟩ := hH1
  have cB : ∀ W2, Hold n1 own w0 bs W2 → W2.cell? ⟨Bm, 0, none⟩ = some (DP b) := fun W2 h2 => (World.cell?_of_block ((h2.bl _ hBb).1.trans (HH.out.bl _ (by simp)).1.symm)).trans hc0
  have cR : ∀ W2, Hold n1 own w0 bs W2 → ∀ i (hi : i < (namesOf s).length), a = some ⟨g, 0, none⟩ ∧ W2.cell? ⟨g, i, none⟩ = some (.int .i64 (namesOf s)[i]) := fun W2 h2 i hi => by
    have hne : namesOf s ≠ [] := fun e => by rw [e] at hi; simp at hi
    obtain ⟨g1, g2, g3, g4, g5⟩ := hrow hne
    exact ⟨g1, (World.cell?_of_block ((h2.bl _ (hgb hne)).1.trans g3.symm)).trans (g5 i hi)⟩
  have h01 : J [] w1 := abides_belowD HJ.out h0 hb1
  have H2 := Lib.hid hH2
  have CB := Lib.hid cB
  have CR := Lib.hid cR
  clear HH hrow hH2 cB cR own1 h0 hc0 hgb
  gi_wp2
  gi_loopw [10] (fun i wr => ∃ k : Nat, k ≤ (namesOf s).length ∧ i = .int .i64 k ∧ J (piecesK s k) wr ∧ Hold n1 own w0 bs wr ∧ W.heap.size ≤ wr.heap.size) (fun i _ => (namesOf s).length - (intOf i).toNat)
  case atStart => exact ⟨0, Nat.zero_le _, rfl, by simpa [piecesK] using h01, H2.out, hb1.size⟩
  case round =>
    obtain ⟨k, hk, rfl, hJs, hHr, hWs⟩ := hrel
    have HJs := Lib.hid hJs
    have HHr := Lib.hid hHr
    clear hJs hHr H2 h01
    by_cases hkl : k < (namesOf s).length
    · obtain ⟨x, hx⟩ : ∃ x, (namesOf s)[k] = x := ⟨_, rfl⟩
      obtain ⟨rfl, hcell⟩ := CR.out wr HHr.out k hkl
      rw [hx] at hcell
      have cBr := CB.out wr HHr.out
      have hDr := HD.out.below HHr.out.low
      have c1 := hDr.c1
      have hx4 : (x = 0 ∨ x = 1 ∨ x = 2 ∨ x = 3) := (namesOf_mem.1 (hx ▸ List.getElem_mem hkl)).1
      have hxw : W64 x := w64 (by omega) (by omega)
      obtain ⟨G, sl, g1, g2, e, -, hB, -⟩ := hDr.look x
      obtain ⟨a0, cap0, rfl, hc1, hc2, -⟩ := hB.open
      have hrun := g1.look Tryz.underlying3 Tryz.underlying69 (zero_file wr) hxw
      rw [e] at hrun
      have HX := Lib.hid hx
      clear hDr hB g1 g2 e hx
      obtain ⟨f, hf⟩ : ∃ f, s.fl x = some f := Option.isSome_iff_exists.1 (namesOf_mem.1 (HX.out ▸ List.getElem_mem hkl)).2
      have hat : s.at x = f := by unfold DS.at; rw [hf]; rfl
      have hsy := hok.sy x f hf
      have hlen := len_le hok hf
      rw [hat] at hrun hc1
      have HAT := Lib.hid hat
      clear hf hat
      gi_wp2
      have hF0 : Hold n1 own w0 ((wr.heap.size, .cells #[.slice a0 f.bs.length cap0, .int .i64 f.sy, .bool f.kp] 75) :: bs) (wr.alloc (.cells #[.slice a0 f.bs.length cap0, .int .i64 f.sy, .bool f.kp] 75)) := by
        have h1 := HHr.out.below hO ((Below.refl _ _).alloc (Nat.le_refl _) (.cells #[.slice a0 f.bs.length cap0, .int .i64 f.sy, .bool f.kp] 75)) (by omega)
        refine h1.add (MapKept.heap_alloc wr _).1 rfl HHr.out.size (fun e => ?_)
        have e2 := hO wr _ (((Below.refl _ _).alloc (Nat.le_refl _) (.cells #[.slice a0 f.bs.length cap0, .int .i64 f.sy, .bool f.kp] 75)).mono HHr.out.size)
        rw [e2] at e
        have := HHr.out.ow _ e
        dsimp at this; omega
      have cF : ∀ W2, Hold n1 own w0 ((wr.heap.size, .cells #[.slice a0 f.bs.length cap0, .int .i64 f.sy, .bool f.kp] 75) :: bs) W2 → W2.cell? ⟨wr.heap.size, 0, none⟩ = some (.slice a0 f.bs.length cap0) := fun W2 h2 => by
        rw [World.cell?_of_block (w := wr.alloc (.cells #[.slice a0 f.bs.length cap0, .int .i64 f.sy, .bool f.kp] 75)) ((h2.bl (wr.heap.size, .cells #[.slice a0 f.bs.length cap0, .int .i64 f.sy, .bool f.kp] 75) List.mem_cons_self).1.trans (MapKept.heap_alloc wr _).1.symm)]
        go_simp
      have hJ0 : J (piecesK s k ++ pieceN s x 0) (wr.alloc (.cells #[.slice a0 f.bs.length cap0, .int .i64 f.sy, .bool f.kp] 75)) := by
        have h1 := abides_belowD HJ.out HJs.out ((Below.refl _ wr).alloc (Nat.le_refl _) (.cells #[.slice a0 f.bs.length cap0, .int .i64 f.sy, .bool f.kp] 75))
        simpa [pieceN] using h1
      have HF0 := Lib.hid hF0
      have CF := Lib.hid cF
      have HJ0 := Lib.hid hJ0
      obtain ⟨wo, hwo⟩ : ∃ wo, wo = wr := ⟨_, rfl⟩
      subst hwo
      clear hF0 cF hJ0 hrun cBr c1 hcell
      gi_loopw [6] (fun i wr => ∃ (j : Nat) (z : Int), j ≤ nP f ∧ z = f.sy + 8 * j ∧ i = .int .i64 z ∧ J (piecesK s k ++ pieceN s x j) wr ∧ Hold n1 own w0 ((wo.heap.size, .cells #[.slice a0 f.bs.length cap0, .int .i64 f.sy, .bool f.kp] 75) :: bs) wr ∧ wo.heap.size ≤ wr.heap.size)
        (fun i _ => (f.bs.length + 8 - intOf i).toNat)
      case atStart => exact ⟨0, f.sy, by omega, by omega, rfl, HJ0.out, HF0.out, by simp⟩
      case round =>
        obtain ⟨j, z, hj, hz, rfl, hJj, hHj, hwj⟩ := hrel
        have HJj := Lib.hid hJj
        have HHj := Lib.hid hHj
        have cf := CF.out wr hHj
        clear hJj hHj HJ0 HF0
        by_cases hlt : z < f.bs.length
        · have hjn : j < nP f := by unfold nP; omega
          have hpe : ((pEnd f j : Nat) : Int) = min (z + 8) f.bs.length := by unfold pEnd; omega
          have hpx : ((x.toNat : Nat) : Int) = x := by omega
          have hwz : IntKind.i64.wrap (z + 8) = z + 8 := wr64 (by omega) (by omega)
          obtain ⟨fn, tmps, assign, body, hy, hR⟩ := HY.out (piecesK s k ++ pieceN s x j) (pc x.toNat (pEnd f j)) wr HJj.out (by
            have h1 := (pieces_mid s k hkl j (by rw [HX.out, HAT.out]; omega)).length_le
            rw [HX.out] at h1
            omega)
          rw [encP_pc (by omega) (by unfold pEnd; omega), hpe, hpx] at hy
          have HZ := Lib.hid hz
          have HPE := Lib.hid hpe
          have HPX := Lib.hid hpx
          have hHW := fun W3 (hk3 : Kq w0.heap.size n1 own wr W3) => HHj.out.kq hk3 rfl
          have HHW := Lib.hid hHW
          clear hz hpe hpx hHW
          gi_wp2
          refine hR.mono ?_
          rintro e W3 (⟨rfl, hJ3, hk3⟩ | ⟨rfl, hJx3⟩)
          · have hH3 := HHW.out W3 hk3
            have hs3 := hk3.low.size
            have HJ3 := Lib.hid hJ3
            have HH3 := Lib.hid hH3
            clear hy hR hJ3 hk3 cf hH3
            gi_wp2
            go_roundw
            case rel => exact ⟨j + 1, z + 8, by omega, by have := HZ.out; omega, rfl, by rw [pieceN_succ, ← List.append_assoc, HAT.out]; exact HJ3.out, HH3.out, by have := HH3.out.size; have := HHj.out.size; omega⟩
            case measure => simp [intOf]; omega
          · gi_wp2
            refine bodyPost_ret (results_none rfl _ _ _) rfl ?_
            refine ⟨⟨_, rfl⟩, .inr ⟨_, ?_, hJx3⟩⟩
            have h1 := pieces_mid s k hkl (j + 1) (by rw [HX.out, HAT.out]; omega)
            rw [HX.out, pieceN_succ, ← List.append_assoc, HAT.out] at h1
            exact h1
        · have hjn : j = nP f := by unfold nP at *; omega
          subst hjn
          gi_wp2
          have h1 := piecesK_succ s k hkl
          rw [HX.out] at h1
          exact ⟨⟨k + 1, by omega, by simp, by rw [h1]; unfold pieceL; rw [HAT.out]; exact HJj.out, HHj.out.sub (fun p hp => List.mem_cons_of_mem _ hp), by omega⟩, by simp [intOf]; omega⟩
    · obtain rfl : k = (namesOf s).length := by omega
      gi_wp2
      go_end0
      exact ⟨⟨_, rfl⟩, .inl ⟨_, (piecesK_all s).symm ▸ rfl, HJs.out⟩⟩

theorem pieces_stops (n : Nat) (hn : 1 ≤ n) (Bm n1 : Nat) (w0 : World) (own : World → Option Nat) (hO : ∀ W W' : World, Below n1 W W' → own W' = own W) (hn0 : w0.heap.size ≤ n1) (w : World) (hc0 : w.cell? ⟨Bm, 0, none⟩ = some (DP b)) (hD : Disk w0 A b m s) (hok : s.Ok) (oB : Obj) (hH : Hold n1 own w0 [(Bm, oB)] w) :
    SeqStopsK Fence.wide n Tryz.prog 98 #[.pointer (some ⟨Bm, 0, none⟩)] encP (Kq w0.heap.size n1 own) (fun ys => ys = pieces s) (fun pre => pre <+: pieces s) ((pieces s).length + 1) w := fun l J Jx W hW hJ _ hY hj =>
  pieces1_in n hn l Bm n1 w0 own hO J Jx W hJ hY hn0 ((hW.cell (p := ⟨Bm, 0, none⟩) (hH.lt (p := (Bm, oB)) (by simp))).trans hc0) hD hok oB (hH.below hO hW (by have := hH.size; omega)) hj

theorem f_pieces (b : Nat) (w : World) : Calls Tryz.prog 61 #[DP b] w fun e w' => e = .returned (.func (.func 98) #[] #[.pointer (some ⟨w.heap.size, 0, none⟩)]) ∧ w' = w.alloc (.cells #[DP b] 25) := by
  go_enter Tryz.func61, Tryz.ntmps61
  go_wp2
  go_ret
  exact ⟨rfl, rfl⟩
end
end Go.Proofs.YtkekidjjmcmjhaaGreat
