/- Cells that may be, and arenas: the program's word and the document's. -/
import Derived.Test.YtlfmffjlmhpcdaaArenaA
namespace Go.Proofs.Ytlfmffjlmhpcdaa
open Go.RowKit
set_option maxRecDepth 100000
attribute [local irreducible] Der

@[local go_sem] theorem run_eq_pair (x y z t : Int) (w : World) : (Op.equalIn 10000 48 (.agg #[.int .u64 x, .int .u64 y]) (.agg #[.int .u64 z, .int .u64 t])).run Try.prog w = .ok (x == z && y == t) w :=
  run_equalIn_arr2 9998 48 47 .u64 .u64 x y z t w Try.underlying48 Try.underlying47 mask_size (fun _ => rfl)
theorem f_SameVersion (b e b' e' : Int) (v u : Value) (l m : List Int) (w : World) (h : VecV w v l) (h' : VecV w u m) : Calls Try.prog 111 #[.agg #[.int .u64 b, .int .u64 e, v], .agg #[.int .u64 b', .int .u64 e', u]] w fun x w' =>
    x = .returned (.bool (decide (b = b' ∧ e = e') && decide (l = m))) ∧ Below w.heap.size w w' := by
  obtain ⟨a, cap, rfl, hl, hm⟩ := h.form
  obtain ⟨a', cap', rfl, hl', hm'⟩ := h'.form
  have HV := Lib.hid (fun W (hb : Below w.heap.size w W) => h.grown hb)
  have HU := Lib.hid (fun W (hb : Below w.heap.size w W) => h'.grown hb)
  clear h h'
  by_cases hbe : b = b' ∧ e = e'
  · obtain ⟨rfl, rfl⟩ := hbe
    have HE := Lib.hid (show (decide (b = b ∧ e = e) && decide (l = m)) = decide (l = m) by simp)
    go_enter Try.func111, Try.ntmps111
    go_wp2_with fail
    refine (f_vecSame _ _ l m _ (HV.out _ (by ((repeat' (first | (with_reducible exact Below.refl _ _) | (with_reducible refine Below.setCell ?_ ?_ _) | (with_reducible refine Below.alloc ?_ ?_ _) | (with_reducible refine Below.drew ?_) | (with_reducible refine Below.trans ?_ (Below.mono (by assumption) ?_)) | go_size))))) (HU.out _ (by ((repeat' (first | (with_reducible exact Below.refl _ _) | (with_reducible refine Below.setCell ?_ ?_ _) | (with_reducible refine Below.alloc ?_ ?_ _) | (with_reducible refine Below.drew ?_) | (with_reducible refine Below.trans ?_ (Below.mono (by assumption) ?_)) | go_size)))))).mono ?_
    rintro x w1 ⟨rfl, hb1⟩
    go_wp2
    go_ret
    refine ⟨by rw [HE.out]; rfl, ?_⟩
    ((have shb1 := hb1.size); (try simp at shb1); (repeat' (first | (with_reducible exact Below.refl _ _) | (with_reducible refine Below.setCell ?_ ?_ _) | (with_reducible refine Below.alloc ?_ ?_ _) | (with_reducible refine Below.drew ?_) | (with_reducible refine Below.trans ?_ (Below.mono hb1 ?_)) | go_size)))
  · have HE := Lib.hid (show (decide (b = b' ∧ e = e') && decide (l = m)) = false by rw [decide_eq_false hbe]; rfl)
    have hne : (b == b' && e == e') = false := by
      cases h1 : b == b' <;> cases h2 : e == e' <;> simp_all
    clear hbe
    go_enter Try.func111, Try.ntmps111
    go_wp2
    go_ret
    refine ⟨by rw [HE.out]; rfl, ?_⟩
    ((repeat' (first | (with_reducible exact Below.refl _ _) | (with_reducible refine Below.setCell ?_ ?_ _) | (with_reducible refine Below.alloc ?_ ?_ _) | (with_reducible refine Below.drew ?_) | (with_reducible refine Below.trans ?_ (Below.mono (by assumption) ?_)) | go_size)))
/-- May a cell be? -/
def cellOK (c : Cel) : Bool := if c.used then verOK c.b c.e c.vec else (decide (c.id = 0) && (decide (c.b = 0 ∧ c.e = 0) && decide (c.vec = [])))
theorem VecV.nil (w : World) : VecV w (.slice none 0 0) [] := ⟨Sl.nilS w, NilA.nil⟩
set_option maxHeartbeats 1000000 in
theorem f_right (c : Cel) (w : World) (h : VecV w c.sv c.vec) : Calls Try.prog 93 #[argC c] w fun x w' => x = .returned (.bool (cellOK c)) ∧ Below w.heap.size w w' := by
  obtain ⟨used, id, b, e, sv, vec⟩ := c
  simp only at h
  unfold argC
  obtain ⟨a, cap, rfl, hl, hm⟩ := h.form
  have HV := Lib.hid (fun W (hb : Below w.heap.size w W) => h.grown hb)
  clear h
  cases used
  · by_cases h0 : id = 0
    · have HE := Lib.hid (show cellOK ⟨false, id, b, e, .slice a vec.length cap, vec⟩ = (decide (b = 0 ∧ e = 0) && decide (vec = [])) by unfold cellOK; simp [h0])
      have hi : (id == 0) = true := by simp [h0]
      clear h0
      go_enter Try.func93, Try.ntmps93
      go_wp2_with fail
      refine (f_SameVersion _ _ _ _ _ _ vec [] _ (HV.out _ (by ((repeat' (first | (with_reducible exact Below.refl _ _) | (with_reducible refine Below.setCell ?_ ?_ _) | (with_reducible refine Below.alloc ?_ ?_ _) | (with_reducible refine Below.drew ?_) | (with_reducible refine Below.trans ?_ (Below.mono (by assumption) ?_)) | go_size))))) (VecV.nil _)).mono ?_
      rintro x w1 ⟨rfl, hb1⟩
      obtain ⟨q, hq⟩ : ∃ q, (decide (b = 0 ∧ e = 0) && decide (vec = [])) = q := ⟨_, rfl⟩
      rw [hq] at HE ⊢
      clear hq
      go_wp2
      go_ret
      refine ⟨by rw [HE.out]; rfl, ?_⟩
      ((have shb1 := hb1.size); (try simp at shb1); (repeat' (first | (with_reducible exact Below.refl _ _) | (with_reducible refine Below.setCell ?_ ?_ _) | (with_reducible refine Below.alloc ?_ ?_ _) | (with_reducible refine Below.drew ?_) | (with_reducible refine Below.trans ?_ (Below.mono hb1 ?_)) | go_size)))
    · have HE := Lib.hid (show cellOK ⟨false, id, b, e, .slice a vec.length cap, vec⟩ = false by unfold cellOK; simp [h0])
      have hi : (id == 0) = false := by simp [h0]
      clear h0
      go_enter Try.func93, Try.ntmps93
      go_wp2
      go_ret
      refine ⟨by rw [HE.out]; rfl, ?_⟩
      ((repeat' (first | (with_reducible exact Below.refl _ _) | (with_reducible refine Below.setCell ?_ ?_ _) | (with_reducible refine Below.alloc ?_ ?_ _) | (with_reducible refine Below.drew ?_) | (with_reducible refine Below.trans ?_ (Below.mono (by assumption) ?_)) | go_size)))
  · have HE := Lib.hid (show cellOK ⟨true, id, b, e, .slice a vec.length cap, vec⟩ = verOK b e vec by unfold cellOK; rfl)
    have HC := Lib.hid (show verE b e vec = if verOK b e vec then 0 else 171 from rfl)
    go_enter Try.func93, Try.ntmps93
    go_wp2_with fail
    refine (f_CheckVersion _ _ _ vec _ (HV.out _ (by ((repeat' (first | (with_reducible exact Below.refl _ _) | (with_reducible refine Below.setCell ?_ ?_ _) | (with_reducible refine Below.alloc ?_ ?_ _) | (with_reducible refine Below.drew ?_) | (with_reducible refine Below.trans ?_ (Below.mono (by assumption) ?_)) | go_size)))))).mono ?_
    rintro x w1 ⟨rfl, hb1⟩
    rw [HC.out]
    generalize verOK b e vec = q at *
    cases q
    all_goals
      go_wp2
      go_ret
      refine ⟨by rw [HE.out]; rfl, ?_⟩
      ((have shb1 := hb1.size); (try simp at shb1); (repeat' (first | (with_reducible exact Below.refl _ _) | (with_reducible refine Below.setCell ?_ ?_ _) | (with_reducible refine Below.alloc ?_ ?_ _) | (with_reducible refine Below.drew ?_) | (with_reducible refine Below.trans ?_ (Below.mono hb1 ?_)) | go_size)))
theorem c_wrong (c : Cel) (w : World) (h : VecV w c.sv c.vec) : Calls Try.prog 92 #[argC c] w fun x w' => x = .returned (.bool (!cellOK c)) ∧ Below w.heap.size w w' := by
  have HR := fun w => Lib.hid (f_right c w)
  have HV := Lib.hid (fun W (hb : Below w.heap.size w W) => h.grown hb)
  clear h
  obtain ⟨used, id, b, e, sv, vec⟩ := c
  unfold argC at *
  go_enter Try.func92, Try.ntmps92
  go_wp2_with fail
  refine ((HR _).out (HV.out _ (by ((repeat' (first | (with_reducible exact Below.refl _ _) | (with_reducible refine Below.setCell ?_ ?_ _) | (with_reducible refine Below.alloc ?_ ?_ _) | (with_reducible refine Below.drew ?_) | (with_reducible refine Below.trans ?_ (Below.mono (by assumption) ?_)) | go_size)))))).mono ?_
  rintro x w1 ⟨rfl, hb1⟩
  go_wp2
  go_ret
  refine ⟨rfl, ?_⟩
  ((have shb1 := hb1.size); (try simp at shb1); (repeat' (first | (with_reducible exact Below.refl _ _) | (with_reducible refine Below.setCell ?_ ?_ _) | (with_reducible refine Below.alloc ?_ ?_ _) | (with_reducible refine Below.drew ?_) | (with_reducible refine Below.trans ?_ (Below.mono hb1 ?_)) | go_size)))
theorem wrong_on (l : List Cel) (w : World) (h : ∀ c ∈ l, VecV w c.sv c.vec) : PredOn 92 #[] argC (fun c => !cellOK c) l w := fun c hc w' hb => c_wrong c w' ((h c hc).grown hb)
theorem enters_wrong : ∀ args w, (callFunc 92 args).run Try.prog w = .ok (.enter 92 args) w := enters_of Try.func92 (by kernel_rfl) rfl
/-- May an arena be? -/
def arenaOK (l : List Cel) : Bool := decide (l.length = 96) && l.all cellOK
def arenaE (l : List Cel) : Int := if arenaOK l then 0 else 190
theorem any_not {α : Type} (p : α → Bool) (l : List α) : l.any (fun x => !p x) = !l.all p := by
  induction l with
  | nil => rfl
  | cons x l ih => simp only [List.any_cons, List.all_cons, ih, Bool.not_and]
theorem f_arenaCheck (v : Value) (l : List Cel) (w : World) (h : CelsV w v l) : Calls Try.prog 51 #[.agg #[v]] w fun x w' => x = .returned (.int .i64 (arenaE l)) ∧ Below w.heap.size w w' := by
  obtain ⟨a, cap, rfl, hl, hm⟩ : ∃ a cap, v = .slice a l.length cap ∧ l.length ≤ cap ∧ cap ≤ 9223372036854775807 := by
    obtain ⟨a, cap, e, h1, h2, -⟩ := h.open; exact ⟨a, cap, e, h1, h2⟩
  have HV := Lib.hid (fun W (hb : Below w.heap.size w W) => h.grown hb)
  clear h
  by_cases h96 : l.length = 96
  · have HE := Lib.hid (show arenaE l = if l.any (fun c => !cellOK c) then 190 else 0 by unfold arenaE arenaOK; rw [any_not, decide_eq_true h96]; cases l.all cellOK <;> rfl)
    have hn : ((l.length : Int) != 96) = false := by simp; omega
    clear h96
    go_enter Try.func51, Try.ntmps51
    go_wp2_with fail
    refine (anyC _ #[] enters_wrong (fun c => !cellOK c) _ l _ (HV.out _ (by ((repeat' (first | (with_reducible exact Below.refl _ _) | (with_reducible refine Below.setCell ?_ ?_ _) | (with_reducible refine Below.alloc ?_ ?_ _) | (with_reducible refine Below.drew ?_) | (with_reducible refine Below.trans ?_ (Below.mono (by assumption) ?_)) | go_size))))) (wrong_on l _ (HV.out _ (by ((repeat' (first | (with_reducible exact Below.refl _ _) | (with_reducible refine Below.setCell ?_ ?_ _) | (with_reducible refine Below.alloc ?_ ?_ _) | (with_reducible refine Below.drew ?_) | (with_reducible refine Below.trans ?_ (Below.mono (by assumption) ?_)) | go_size))))).2)).mono ?_
    rintro x w1 ⟨rfl, hb1⟩
    generalize l.any (fun c => !cellOK c) = q at *
    cases q
    all_goals
      go_wp2
      go_ret
      refine ⟨by rw [HE.out]; rfl, ?_⟩
      ((have shb1 := hb1.size); (try simp at shb1); (repeat' (first | (with_reducible exact Below.refl _ _) | (with_reducible refine Below.setCell ?_ ?_ _) | (with_reducible refine Below.alloc ?_ ?_ _) | (with_reducible refine Below.drew ?_) | (with_reducible refine Below.trans ?_ (Below.mono hb1 ?_)) | go_size)))
  · have HE := Lib.hid (show arenaE l = 190 by unfold arenaE arenaOK; rw [decide_eq_false h96]; rfl)
    have hn : ((l.length : Int) != 96) = true := by simp; omega
    clear h96
    go_enter Try.func51, Try.ntmps51
    go_wp2
    go_ret
    refine ⟨by rw [HE.out]; rfl, ?_⟩
    ((repeat' (first | (with_reducible exact Below.refl _ _) | (with_reducible refine Below.setCell ?_ ?_ _) | (with_reducible refine Below.alloc ?_ ?_ _) | (with_reducible refine Below.drew ?_) | (with_reducible refine Below.trans ?_ (Below.mono (by assumption) ?_)) | go_size)))
set_option maxHeartbeats 1000000 in
theorem r9Cell (c : Cel) (w : World) (h : VecV w c.sv c.vec) : Calls Try.prog 55 #[argC c] w fun x w' => x = .returned (.bool (cellOK c)) ∧ Below w.heap.size w w' := by
  obtain ⟨used, id, b, e, sv, vec⟩ := c
  simp only at h
  unfold argC
  obtain ⟨a, cap, rfl, hl, hm⟩ := h.form
  have HV := Lib.hid (fun W (hb : Below w.heap.size w W) => h.grown hb)
  clear h
  cases used
  · have hi : (id == 0) = decide (id = 0) := by rw [Bool.eq_iff_iff]; simp
    have hb' : (b == 0) = decide (b = 0) := by rw [Bool.eq_iff_iff]; simp
    have he' : (e == 0) = decide (e = 0) := by rw [Bool.eq_iff_iff]; simp
    have hn : ((vec.length : Int) == 0) = decide (vec = []) := by rw [Bool.eq_iff_iff]; simp
    have HE := Lib.hid (show cellOK ⟨false, id, b, e, .slice a vec.length cap, vec⟩ = (decide (id = 0) && (decide (b = 0) && (decide (e = 0) && decide (vec = [])))) by
      unfold cellOK; simp only [Bool.false_eq_true, if_false]; rw [Bool.decide_and, Bool.and_assoc])
    by_cases h0 : id = 0
    · rw [decide_eq_true h0] at hi HE
      by_cases h1 : b = 0
      · rw [decide_eq_true h1] at hb' HE
        by_cases h2 : e = 0
        · rw [decide_eq_true h2] at he' HE
          have hnn : ((vec.length : Int) == 0) = decide (vec = []) := hn
          by_cases h3 : vec = []
          · rw [decide_eq_true h3] at hn HE
            clear h0 h1 h2 h3 hnn
            go_enter Try.func55, Try.ntmps55
            go_wp2
            go_ret
            refine ⟨by rw [HE.out]; rfl, ?_⟩
            ((repeat' (first | (with_reducible exact Below.refl _ _) | (with_reducible refine Below.setCell ?_ ?_ _) | (with_reducible refine Below.alloc ?_ ?_ _) | (with_reducible refine Below.drew ?_) | (with_reducible refine Below.trans ?_ (Below.mono (by assumption) ?_)) | go_size)))
          · rw [decide_eq_false h3] at hn HE
            clear h0 h1 h2 h3 hnn
            go_enter Try.func55, Try.ntmps55
            go_wp2
            go_ret
            refine ⟨by rw [HE.out]; rfl, ?_⟩
            ((repeat' (first | (with_reducible exact Below.refl _ _) | (with_reducible refine Below.setCell ?_ ?_ _) | (with_reducible refine Below.alloc ?_ ?_ _) | (with_reducible refine Below.drew ?_) | (with_reducible refine Below.trans ?_ (Below.mono (by assumption) ?_)) | go_size)))
        · rw [decide_eq_false h2] at he' HE
          clear h0 h1 h2 hn
          go_enter Try.func55, Try.ntmps55
          go_wp2
          go_ret
          refine ⟨by rw [HE.out]; rfl, ?_⟩
          ((repeat' (first | (with_reducible exact Below.refl _ _) | (with_reducible refine Below.setCell ?_ ?_ _) | (with_reducible refine Below.alloc ?_ ?_ _) | (with_reducible refine Below.drew ?_) | (with_reducible refine Below.trans ?_ (Below.mono (by assumption) ?_)) | go_size)))
      · rw [decide_eq_false h1] at hb' HE
        clear h0 h1 hn he'
        go_enter Try.func55, Try.ntmps55
        go_wp2
        go_ret
        refine ⟨by rw [HE.out]; rfl, ?_⟩
        ((repeat' (first | (with_reducible exact Below.refl _ _) | (with_reducible refine Below.setCell ?_ ?_ _) | (with_reducible refine Below.alloc ?_ ?_ _) | (with_reducible refine Below.drew ?_) | (with_reducible refine Below.trans ?_ (Below.mono (by assumption) ?_)) | go_size)))
    · rw [decide_eq_false h0] at hi HE
      clear h0 hn he' hb'
      go_enter Try.func55, Try.ntmps55
      go_wp2
      go_ret
      refine ⟨by rw [HE.out]; rfl, ?_⟩
      ((repeat' (first | (with_reducible exact Below.refl _ _) | (with_reducible refine Below.setCell ?_ ?_ _) | (with_reducible refine Below.alloc ?_ ?_ _) | (with_reducible refine Below.drew ?_) | (with_reducible refine Below.trans ?_ (Below.mono (by assumption) ?_)) | go_size)))
  · have HE := Lib.hid (show cellOK ⟨true, id, b, e, .slice a vec.length cap, vec⟩ = verOK b e vec by unfold cellOK; rfl)
    go_enter Try.func55, Try.ntmps55
    go_wp2_with fail
    refine (r7RightVersion _ _ _ vec _ (HV.out _ (by ((repeat' (first | (with_reducible exact Below.refl _ _) | (with_reducible refine Below.setCell ?_ ?_ _) | (with_reducible refine Below.alloc ?_ ?_ _) | (with_reducible refine Below.drew ?_) | (with_reducible refine Below.trans ?_ (Below.mono (by assumption) ?_)) | go_size)))))).mono ?_
    rintro x w1 ⟨rfl, hb1⟩
    go_wp2
    go_ret
    refine ⟨by rw [HE.out]; rfl, ?_⟩
    ((have shb1 := hb1.size); (try simp at shb1); (repeat' (first | (with_reducible exact Below.refl _ _) | (with_reducible refine Below.setCell ?_ ?_ _) | (with_reducible refine Below.alloc ?_ ?_ _) | (with_reducible refine Below.drew ?_) | (with_reducible refine Below.trans ?_ (Below.mono hb1 ?_)) | go_size)))
theorem arenaOK_bad {l : List Cel} {k : Nat} (h : k < l.length) (hh : cellOK l[k] = false) : arenaOK l = false := by
  have : l.all cellOK = false := List.all_eq_false.2 ⟨l[k], List.getElem_mem h, by simp [hh]⟩
  unfold arenaOK; rw [this]; simp
theorem arenaOK_all {l : List Cel} (h : ∀ c ∈ l, cellOK c = true) : arenaOK l = decide ((l.length : Int) = 96) := by
  unfold arenaOK; rw [List.all_eq_true.2 h, Bool.and_true, decide_eq_decide]; omega
set_option maxHeartbeats 1000000 in
theorem r9Right (v : Value) (l : List Cel) (w : World) (h : CelsV w v l) : Calls Try.prog 21 #[.agg #[v]] w fun x w' => x = .returned (.bool (arenaOK l)) ∧ Below w.heap.size w w' := by
  obtain ⟨a, cap, rfl, hl, hm, hcell⟩ := h.open
  have Hc := Lib.hid hcell
  have H := Lib.hid h
  have HB := Lib.hid (fun k h hh => arenaOK_bad (l := l) (k := k) h hh)
  have HO := Lib.hid (fun h => arenaOK_all (l := l) h)
  have HS := Lib.hid (fun k h hb hh => take_snoc_true (p := cellOK) (l := l) (k := k) h hb hh)
  clear hcell h
  go_enter Try.func21, Try.ntmps21
  go_wp2
  go_loopw [3] (fun i wr => ∃ k : Nat, k ≤ l.length ∧ i = .int .i64 k ∧ (∀ c ∈ l.take k, cellOK c = true) ∧ Below (w.heap.size + 1) (w.alloc (.cells #[.slice a l.length cap] 37)) wr ∧ w.heap.size + 1 ≤ wr.heap.size) (fun i _ => l.length - (intOf i).toNat)
  case atStart => exact ⟨0, Nat.zero_le _, rfl, by simp, Below.refl _ _, by simp⟩
  case round =>
    obtain ⟨k, hk, rfl, hall, hbr, hsz⟩ := hrel
    have HA := Lib.hid hall
    clear hall
    have hB : Below w.heap.size w wr := by ((have shbr := hbr.size); (try simp at shbr); (repeat' (first | (with_reducible exact Below.refl _ _) | (with_reducible refine Below.setCell ?_ ?_ _) | (with_reducible refine Below.alloc ?_ ?_ _) | (with_reducible refine Below.drew ?_) | (with_reducible refine Below.trans ?_ (Below.mono hbr ?_)) | go_size)))
    have zrw0 : w.heap.size < wr.heap.size := (by have := hbr.size; (try simp at this); omega)
    have qrw0 := fun o => hbr.cell (p := ⟨w.heap.size, o, none⟩) (by first | omega | (simp; done) | (simp; omega))
    have rrw0 := fun o => hbr.frozen (p := ⟨w.heap.size, o, none⟩) (by first | omega | (simp; done) | (simp; omega))
    by_cases hlt2 : k < l.length
    · obtain ⟨b, off, rfl, hlt, g1, g2, g3, g4, g5⟩ := Hc.out k hlt2
      have e1 := (hB.cell (p := ⟨b, off + k * 5, none⟩) hlt).trans g1
      have e2 := (hB.cell (p := ⟨b, off + k * 5 + 1, none⟩) hlt).trans g2
      have e3 := (hB.cell (p := ⟨b, off + k * 5 + 2, none⟩) hlt).trans g3
      have e4 := (hB.cell (p := ⟨b, off + k * 5 + 3, none⟩) hlt).trans g4
      have e5 := (hB.cell (p := ⟨b, off + k * 5 + 4, none⟩) hlt).trans g5
      have hV := Lib.hid ((H.out.2 l[k] (List.getElem_mem hlt2)).grown hB)
      have HBk := Lib.hid (HB.out k hlt2)
      have HSk := Lib.hid (HS.out k hlt2 HA.out)
      clear g1 g2 g3 g4 g5
      cases hh : cellOK l[k]
      · have HC := Lib.hid hh
        have HE := Lib.hid (HBk.out hh)
        clear hh HSk
        generalize l[k] = y at *
        go_wp2_with fail
        refine (r9Cell y _ hV.out).mono ?_
        rintro e w2 ⟨rfl, hb2⟩
        rw [HC.out]
        go_wp2
        go_ret
        refine ⟨by rw [HE.out]; rfl, by ((have shb2 := hb2.size); (try simp at shb2); (have shbr := hbr.size); (try simp at shbr); (repeat' (first | (with_reducible exact Below.refl _ _) | (with_reducible refine Below.setCell ?_ ?_ _) | (with_reducible refine Below.alloc ?_ ?_ _) | (with_reducible refine Below.drew ?_) | (with_reducible refine Below.trans ?_ (Below.mono hb2 ?_)) | (with_reducible refine Below.trans ?_ (Below.mono hbr ?_)) | go_size)))⟩
      · have HC := Lib.hid hh
        have HE := Lib.hid (HSk.out hh)
        clear hh HBk
        generalize l[k] = y at *
        go_wp2_with fail
        refine (r9Cell y _ hV.out).mono ?_
        rintro e w2 ⟨rfl, hb2⟩
        rw [HC.out]
        have z2w0 : w.heap.size < w2.heap.size := (by have := hb2.size; (try simp at this); omega)
        have q2w0 := fun o => hb2.cell (p := ⟨w.heap.size, o, none⟩) (by first | omega | (simp; done) | (simp; omega))
        have r2w0 := fun o => hb2.frozen (p := ⟨w.heap.size, o, none⟩) (by first | omega | (simp; done) | (simp; omega))
        go_wp2
        go_roundw
        case rel => exact ⟨k + 1, by omega, by go_num, HE.out, by ((have shb2 := hb2.size); (try simp at shb2); (have shbr := hbr.size); (try simp at shbr); (repeat' (first | (with_reducible exact Below.refl _ _) | (with_reducible refine Below.setCell ?_ ?_ _) | (with_reducible refine Below.alloc ?_ ?_ _) | (with_reducible refine Below.drew ?_) | (with_reducible refine Below.trans ?_ (Below.mono hb2 ?_)) | (with_reducible refine Below.trans ?_ (Below.mono hbr ?_)) | go_size))), by have := hb2.size; omega⟩
        case measure => simp [intOf]; omega
    · have : k = l.length := by omega
      subst this
      have HE := Lib.hid (HO.out (take_all HA.out))
      have hn : ((l.length : Int) == 96) = decide ((l.length : Int) = 96) := by rw [Bool.eq_iff_iff]; simp
      generalize hq : decide ((l.length : Int) = 96) = q at *
      cases q
      all_goals
        go_wp2
        go_ret
        refine ⟨by rw [HE.out]; rfl, hB⟩
end Go.Proofs.Ytlfmffjlmhpcdaa
