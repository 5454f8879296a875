/- slices.IndexFunc and slices.ContainsFunc over vectors, rows of vectors, and cells: for every function value whose calls give a predicate. -/
import Derived.Test.YtlfmffjlmhpcdaaData
namespace Go.Proofs.Ytlfmffjlmhpcdaa
open Go.RowKit
set_option maxRecDepth 100000

/-- The calls of function k, with what it has captured, give p x at each x that is handed to it, in every world that has grown from w. -/
def PredOn {α : Type} (k : Nat) (lb : Array Value) (arg : α → Value) (p : α → Bool) (l : List α) (w : World) : Prop :=
  ∀ x ∈ l, ∀ w', Below w.heap.size w w' → Calls Try.prog k (#[arg x] ++ lb) w' fun e w'' => e = .returned (.bool (p x)) ∧ Below w'.heap.size w' w''
theorem take_all {α : Type} {P : α → Prop} {l : List α} (h : ∀ x ∈ l.take l.length, P x) : ∀ x ∈ l, P x := by rwa [List.take_length] at h

/-- Vectors. -/
def argI (x : Int) : Value := .int .i32 x
def argV (p : PV) : Value := p.1
def argC (c : Cel) : Value := .agg #[.bool c.used, .int .u64 c.id, .int .u64 c.b, .int .u64 c.e, c.sv]
set_option maxHeartbeats 1000000 in
theorem idxI (k : Nat) (lb : Array Value) (eg : ∀ args w, (callFunc k args).run Try.prog w = .ok (.enter k args) w) (p : Int → Bool) (v : Value) (l : List Int) (w : World) (h : VecV w v l) (hp : PredOn k lb argI p l w) :
    Calls Try.prog 116 #[v, .func (.func k) #[] lb] w fun e w' => e = .returned (.int .i64 (idxF p l)) ∧ Below w.heap.size w w' := by
  obtain ⟨a, cap, rfl, hl, hm, hcell⟩ := h.open
  have Hc := Lib.hid hcell
  have HP := Lib.hid hp
  have HY := Lib.hid (idxF_hit p l)
  have HN := Lib.hid (idxF_none p l)
  have HS := Lib.hid (fun k h hb hh => take_snoc_false (p := p) (l := l) (k := k) h hb hh)
  clear hcell hp h
  go_enter Try.func116, Try.ntmps116
  go_wp2
  go_loopw [8] (fun i wr => ∃ j : Nat, j ≤ l.length ∧ i = .int .i64 j ∧ (∀ x ∈ l.take j, p x = false) ∧ Below w.heap.size w wr) (fun i _ => l.length - (intOf i).toNat)
  case atStart => exact ⟨0, Nat.zero_le _, rfl, by simp, Below.refl _ _⟩
  case round =>
    obtain ⟨j, hj, rfl, hall, hbr⟩ := hrel
    have HA := Lib.hid hall
    clear hall
    have hsz := hbr.size
    by_cases hlt2 : j < l.length
    · obtain ⟨b,off,rfl,hlt,g1⟩ := Hc.out j hlt2
      have HX := Lib.hid (HP.out l[j] (List.getElem_mem hlt2))
      have HYj := Lib.hid (HY.out j hlt2 HA.out)
      have HSj := Lib.hid (HS.out j hlt2 HA.out)
      generalize l[j] = y at *
      have e1 := (hbr.cell (p := ⟨b, off + j, none⟩) hlt).trans g1
      clear g1
      cases hh : p y
      · have HH := Lib.hid hh
        have HS2 := Lib.hid (HSj.out hh)
        clear hh
        go_wp2_with fail
        refine (HX.out _ hbr).mono ?_
        rintro e w2 ⟨rfl, hb2⟩
        rw [HH.out]
        go_wp2
        go_roundw
        case rel => exact ⟨j + 1, by omega, by go_num, HS2.out, by ((have shb2 := hb2.size); (try simp at shb2); (have shbr := hbr.size); (try simp at shbr); (repeat' (first | (with_reducible exact Below.refl _ _) | (with_reducible refine Below.setCell ?_ ?_ _) | (with_reducible refine Below.alloc ?_ ?_ _) | (with_reducible refine Below.drew ?_) | (with_reducible refine Below.trans ?_ (Below.mono hb2 ?_)) | (with_reducible refine Below.trans ?_ (Below.mono hbr ?_)) | go_size)))⟩
        case measure => simp [intOf]; omega
      · have HH := Lib.hid hh
        have HY2 := Lib.hid (HYj.out hh)
        clear hh
        go_wp2_with fail
        refine (HX.out _ hbr).mono ?_
        rintro e w2 ⟨rfl, hb2⟩
        rw [HH.out]
        go_wp2
        go_ret
        refine ⟨by rw [HY2.out]; rfl, ?_⟩
        ((have shb2 := hb2.size); (try simp at shb2); (have shbr := hbr.size); (try simp at shbr); (repeat' (first | (with_reducible exact Below.refl _ _) | (with_reducible refine Below.setCell ?_ ?_ _) | (with_reducible refine Below.alloc ?_ ?_ _) | (with_reducible refine Below.drew ?_) | (with_reducible refine Below.trans ?_ (Below.mono hb2 ?_)) | (with_reducible refine Below.trans ?_ (Below.mono hbr ?_)) | go_size)))
    · have : j = l.length := by omega
      subst this
      have HN2 := Lib.hid (HN.out (take_all HA.out))
      go_wp2
      go_ret
      exact ⟨by rw [HN2.out]; rfl, hbr⟩
theorem anyI (k : Nat) (lb : Array Value) (eg : ∀ args w, (callFunc k args).run Try.prog w = .ok (.enter k args) w) (p : Int → Bool) (v : Value) (l : List Int) (w : World) (h : VecV w v l) (hp : PredOn k lb argI p l w) :
    Calls Try.prog 107 #[v, .func (.func k) #[] lb] w fun e w' => e = .returned (.bool (l.any p)) ∧ Below w.heap.size w w' := by
  obtain ⟨a, cap, hv, hl, hm, -⟩ := h.open
  have HA := Lib.hid (idxF_any p l)
  have HI := fun w => Lib.hid (idxI k lb eg p v l w)
  have H := Lib.hid h
  have HP := Lib.hid hp
  subst hv
  clear h hp eg
  go_enter Try.func107, Try.ntmps107
  go_wp2_with fail
  refine ((HI _).out H.out HP.out).mono ?_
  rintro e w1 ⟨rfl, hb1⟩
  generalize idxF p l = z at *
  go_wp2
  go_ret
  refine ⟨congrArg (fun b => Ending.returned (Value.bool b)) HA.out, ?_⟩
  ((have shb1 := hb1.size); (try simp at shb1); (repeat' (first | (with_reducible exact Below.refl _ _) | (with_reducible refine Below.setCell ?_ ?_ _) | (with_reducible refine Below.alloc ?_ ?_ _) | (with_reducible refine Below.drew ?_) | (with_reducible refine Below.trans ?_ (Below.mono hb1 ?_)) | go_size)))
set_option maxHeartbeats 1000000 in
theorem idxPV (k : Nat) (lb : Array Value) (eg : ∀ args w, (callFunc k args).run Try.prog w = .ok (.enter k args) w) (p : PV → Bool) (v : Value) (l : List PV) (w : World) (h : VecsV w v l) (hp : PredOn k lb argV p l w) :
    Calls Try.prog 109 #[v, .func (.func k) #[] lb] w fun e w' => e = .returned (.int .i64 (idxF p l)) ∧ Below w.heap.size w w' := by
  obtain ⟨a, cap, rfl, hl, hm, hcell⟩ := h.open
  have Hc := Lib.hid hcell
  have HP := Lib.hid hp
  have HY := Lib.hid (idxF_hit p l)
  have HN := Lib.hid (idxF_none p l)
  have HS := Lib.hid (fun k h hb hh => take_snoc_false (p := p) (l := l) (k := k) h hb hh)
  clear hcell hp h
  go_enter Try.func109, Try.ntmps109
  go_wp2
  go_loopw [8] (fun i wr => ∃ j : Nat, j ≤ l.length ∧ i = .int .i64 j ∧ (∀ x ∈ l.take j, p x = false) ∧ Below w.heap.size w wr) (fun i _ => l.length - (intOf i).toNat)
  case atStart => exact ⟨0, Nat.zero_le _, rfl, by simp, Below.refl _ _⟩
  case round =>
    obtain ⟨j, hj, rfl, hall, hbr⟩ := hrel
    have HA := Lib.hid hall
    clear hall
    have hsz := hbr.size
    by_cases hlt2 : j < l.length
    · obtain ⟨b,off,rfl,hlt,g1⟩ := Hc.out j hlt2
      have HX := Lib.hid (HP.out l[j] (List.getElem_mem hlt2))
      have HYj := Lib.hid (HY.out j hlt2 HA.out)
      have HSj := Lib.hid (HS.out j hlt2 HA.out)
      generalize l[j] = y at *
      have e1 := (hbr.cell (p := ⟨b, off + j, none⟩) hlt).trans g1
      clear g1
      cases hh : p y
      · have HH := Lib.hid hh
        have HS2 := Lib.hid (HSj.out hh)
        clear hh
        go_wp2_with fail
        refine (HX.out _ hbr).mono ?_
        rintro e w2 ⟨rfl, hb2⟩
        rw [HH.out]
        go_wp2
        go_roundw
        case rel => exact ⟨j + 1, by omega, by go_num, HS2.out, by ((have shb2 := hb2.size); (try simp at shb2); (have shbr := hbr.size); (try simp at shbr); (repeat' (first | (with_reducible exact Below.refl _ _) | (with_reducible refine Below.setCell ?_ ?_ _) | (with_reducible refine Below.alloc ?_ ?_ _) | (with_reducible refine Below.drew ?_) | (with_reducible refine Below.trans ?_ (Below.mono hb2 ?_)) | (with_reducible refine Below.trans ?_ (Below.mono hbr ?_)) | go_size)))⟩
        case measure => simp [intOf]; omega
      · have HH := Lib.hid hh
        have HY2 := Lib.hid (HYj.out hh)
        clear hh
        go_wp2_with fail
        refine (HX.out _ hbr).mono ?_
        rintro e w2 ⟨rfl, hb2⟩
        rw [HH.out]
        go_wp2
        go_ret
        refine ⟨by rw [HY2.out]; rfl, ?_⟩
        ((have shb2 := hb2.size); (try simp at shb2); (have shbr := hbr.size); (try simp at shbr); (repeat' (first | (with_reducible exact Below.refl _ _) | (with_reducible refine Below.setCell ?_ ?_ _) | (with_reducible refine Below.alloc ?_ ?_ _) | (with_reducible refine Below.drew ?_) | (with_reducible refine Below.trans ?_ (Below.mono hb2 ?_)) | (with_reducible refine Below.trans ?_ (Below.mono hbr ?_)) | go_size)))
    · have : j = l.length := by omega
      subst this
      have HN2 := Lib.hid (HN.out (take_all HA.out))
      go_wp2
      go_ret
      exact ⟨by rw [HN2.out]; rfl, hbr⟩
theorem anyPV (k : Nat) (lb : Array Value) (eg : ∀ args w, (callFunc k args).run Try.prog w = .ok (.enter k args) w) (p : PV → Bool) (v : Value) (l : List PV) (w : World) (h : VecsV w v l) (hp : PredOn k lb argV p l w) :
    Calls Try.prog 87 #[v, .func (.func k) #[] lb] w fun e w' => e = .returned (.bool (l.any p)) ∧ Below w.heap.size w w' := by
  obtain ⟨a, cap, hv, hl, hm, -⟩ := h.open
  have HA := Lib.hid (idxF_any p l)
  have HI := fun w => Lib.hid (idxPV k lb eg p v l w)
  have H := Lib.hid h
  have HP := Lib.hid hp
  subst hv
  clear h hp eg
  go_enter Try.func87, Try.ntmps87
  go_wp2_with fail
  refine ((HI _).out H.out HP.out).mono ?_
  rintro e w1 ⟨rfl, hb1⟩
  generalize idxF p l = z at *
  go_wp2
  go_ret
  refine ⟨congrArg (fun b => Ending.returned (Value.bool b)) HA.out, ?_⟩
  ((have shb1 := hb1.size); (try simp at shb1); (repeat' (first | (with_reducible exact Below.refl _ _) | (with_reducible refine Below.setCell ?_ ?_ _) | (with_reducible refine Below.alloc ?_ ?_ _) | (with_reducible refine Below.drew ?_) | (with_reducible refine Below.trans ?_ (Below.mono hb1 ?_)) | go_size)))
set_option maxHeartbeats 1000000 in
theorem idxC (k : Nat) (lb : Array Value) (eg : ∀ args w, (callFunc k args).run Try.prog w = .ok (.enter k args) w) (p : Cel → Bool) (v : Value) (l : List Cel) (w : World) (h : CelsV w v l) (hp : PredOn k lb argC p l w) :
    Calls Try.prog 78 #[v, .func (.func k) #[] lb] w fun e w' => e = .returned (.int .i64 (idxF p l)) ∧ Below w.heap.size w w' := by
  obtain ⟨a, cap, rfl, hl, hm, hcell⟩ := h.open
  have Hc := Lib.hid hcell
  have HP := Lib.hid hp
  have HY := Lib.hid (idxF_hit p l)
  have HN := Lib.hid (idxF_none p l)
  have HS := Lib.hid (fun k h hb hh => take_snoc_false (p := p) (l := l) (k := k) h hb hh)
  clear hcell hp h
  go_enter Try.func78, Try.ntmps78
  go_wp2
  go_loopw [8] (fun i wr => ∃ j : Nat, j ≤ l.length ∧ i = .int .i64 j ∧ (∀ x ∈ l.take j, p x = false) ∧ Below w.heap.size w wr) (fun i _ => l.length - (intOf i).toNat)
  case atStart => exact ⟨0, Nat.zero_le _, rfl, by simp, Below.refl _ _⟩
  case round =>
    obtain ⟨j, hj, rfl, hall, hbr⟩ := hrel
    have HA := Lib.hid hall
    clear hall
    have hsz := hbr.size
    by_cases hlt2 : j < l.length
    · obtain ⟨b,off,rfl,hlt,g1,g2,g3,g4,g5⟩ := Hc.out j hlt2
      have HX := Lib.hid (HP.out l[j] (List.getElem_mem hlt2))
      have HYj := Lib.hid (HY.out j hlt2 HA.out)
      have HSj := Lib.hid (HS.out j hlt2 HA.out)
      generalize l[j] = y at *
      have e1 := (hbr.cell (p := ⟨b, off + j * 5, none⟩) hlt).trans g1
      have e2 := (hbr.cell (p := ⟨b, off + j * 5 + 1, none⟩) hlt).trans g2
      have e3 := (hbr.cell (p := ⟨b, off + j * 5 + 2, none⟩) hlt).trans g3
      have e4 := (hbr.cell (p := ⟨b, off + j * 5 + 3, none⟩) hlt).trans g4
      have e5 := (hbr.cell (p := ⟨b, off + j * 5 + 4, none⟩) hlt).trans g5
      clear g1 g2 g3 g4 g5
      cases hh : p y
      · have HH := Lib.hid hh
        have HS2 := Lib.hid (HSj.out hh)
        clear hh
        go_wp2_with fail
        refine (HX.out _ hbr).mono ?_
        rintro e w2 ⟨rfl, hb2⟩
        rw [HH.out]
        go_wp2
        go_roundw
        case rel => exact ⟨j + 1, by omega, by go_num, HS2.out, by ((have shb2 := hb2.size); (try simp at shb2); (have shbr := hbr.size); (try simp at shbr); (repeat' (first | (with_reducible exact Below.refl _ _) | (with_reducible refine Below.setCell ?_ ?_ _) | (with_reducible refine Below.alloc ?_ ?_ _) | (with_reducible refine Below.drew ?_) | (with_reducible refine Below.trans ?_ (Below.mono hb2 ?_)) | (with_reducible refine Below.trans ?_ (Below.mono hbr ?_)) | go_size)))⟩
        case measure => simp [intOf]; omega
      · have HH := Lib.hid hh
        have HY2 := Lib.hid (HYj.out hh)
        clear hh
        go_wp2_with fail
        refine (HX.out _ hbr).mono ?_
        rintro e w2 ⟨rfl, hb2⟩
        rw [HH.out]
        go_wp2
        go_ret
        refine ⟨by rw [HY2.out]; rfl, ?_⟩
        ((have shb2 := hb2.size); (try simp at shb2); (have shbr := hbr.size); (try simp at shbr); (repeat' (first | (with_reducible exact Below.refl _ _) | (with_reducible refine Below.setCell ?_ ?_ _) | (with_reducible refine Below.alloc ?_ ?_ _) | (with_reducible refine Below.drew ?_) | (with_reducible refine Below.trans ?_ (Below.mono hb2 ?_)) | (with_reducible refine Below.trans ?_ (Below.mono hbr ?_)) | go_size)))
    · have : j = l.length := by omega
      subst this
      have HN2 := Lib.hid (HN.out (take_all HA.out))
      go_wp2
      go_ret
      exact ⟨by rw [HN2.out]; rfl, hbr⟩
theorem anyC (k : Nat) (lb : Array Value) (eg : ∀ args w, (callFunc k args).run Try.prog w = .ok (.enter k args) w) (p : Cel → Bool) (v : Value) (l : List Cel) (w : World) (h : CelsV w v l) (hp : PredOn k lb argC p l w) :
    Calls Try.prog 94 #[v, .func (.func k) #[] lb] w fun e w' => e = .returned (.bool (l.any p)) ∧ Below w.heap.size w w' := by
  obtain ⟨a, cap, hv, hl, hm, -⟩ := h.open
  have HA := Lib.hid (idxF_any p l)
  have HI := fun w => Lib.hid (idxC k lb eg p v l w)
  have H := Lib.hid h
  have HP := Lib.hid hp
  subst hv
  clear h hp eg
  go_enter Try.func94, Try.ntmps94
  go_wp2_with fail
  refine ((HI _).out H.out HP.out).mono ?_
  rintro e w1 ⟨rfl, hb1⟩
  generalize idxF p l = z at *
  go_wp2
  go_ret
  refine ⟨congrArg (fun b => Ending.returned (Value.bool b)) HA.out, ?_⟩
  ((have shb1 := hb1.size); (try simp at shb1); (repeat' (first | (with_reducible exact Below.refl _ _) | (with_reducible refine Below.setCell ?_ ?_ _) | (with_reducible refine Below.alloc ?_ ?_ _) | (with_reducible refine Below.drew ?_) | (with_reducible refine Below.trans ?_ (Below.mono hb1 ?_)) | go_size)))
end Go.Proofs.Ytlfmffjlmhpcdaa
