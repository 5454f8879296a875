/- The contracts of the document's Next, Place, SameInts. -/
import Derived.Test.YtbanmngngfanhaaDoorRefB
namespace Go.Proofs.YtbanmngngfanhaaDoor
open Go.RowKit
attribute [local irreducible] Der

def cntL (L : List Int) (n : Int) (k : Nat) : Nat := ((L.take k).filter fun x => decide (x < n)).length
theorem cntL_hit (L : List Int) (n : Int) (k : Nat) (h : k < L.length) (hh : L[k] < n) : cntL L n (k + 1) = cntL L n k + 1 := by
  unfold cntL; rw [List.take_succ_eq_append_getElem h, List.filter_append, List.filter_cons_of_pos (by simp [hh])]; simp
theorem cntL_miss (L : List Int) (n : Int) (k : Nat) (h : k < L.length) (hh : ¬ L[k] < n) : cntL L n (k + 1) = cntL L n k := by
  unfold cntL; rw [List.take_succ_eq_append_getElem h, List.filter_append, List.filter_cons_of_neg (by simp [hh])]; simp
theorem cntL_le (L : List Int) (n : Int) (k : Nat) : cntL L n k ≤ k := by
  unfold cntL; have := List.length_filter_le (fun x => decide (x < n)) (L.take k); have := List.length_take_le k L; omega

set_option maxHeartbeats 400000 in
theorem r_Place (a b : BitVec 64) (n : Int) (w : World) : Calls Tryd.prog 15 #[MV a b, .int .i64 n] w fun e w' => e = .returned (.int .i64 (cntL (slotsK (a, b) 96) n (slotsK (a, b) 96).length)) ∧ Below w.heap.size w w' := by
  go_enter Tryd.func15, Tryd.ntmps15
  go_wp2_with fail
  refine (r_Slots _ _ _).mono ?_
  rintro e w1 ⟨⟨v, rfl, hI⟩, hb1⟩
  obtain ⟨p, cap, rfl, hl, hm, hcell⟩ := owns_open hI
  have Hcell := Lib.hid hcell
  have hle := slotsK_le (a, b) 96
  clear hcell hI
  generalize hL : slotsK (a, b) 96 = L at *
  have HL := Lib.hid hL
  clear hL
  have HY := Lib.hid (cntL_hit L n)
  have HN := Lib.hid (cntL_miss L n)
  have HC := Lib.hid (cntL_le L n)
  obtain ⟨F, hF⟩ : ∃ F, cntL L n = F := ⟨_, rfl⟩
  rw [hF] at HY HN HC
  have HF := Lib.hid hF
  have h0 : F 0 = 0 := by rw [← hF]; rfl
  clear hF
  go_wp2
  go_loopw [5, 11] (fun c i wr => ∃ k : Nat, k ≤ L.length ∧ i = .int .i64 k ∧ c = .int .i64 (F k : Nat) ∧ Below w1.heap.size w1 wr) (fun _ i _ => L.length - (intOf i).toNat)
  case atStart => exact ⟨0, Nat.zero_le _, rfl, by rw [h0]; rfl, Below.refl _ _⟩
  case round =>
    obtain ⟨k, hk, rfl, rfl, hbr⟩ := hrel
    have hFk := HC.out k
    by_cases hlt2 : k < L.length
    · obtain ⟨g, rfl, -, hlt, g1⟩ := Hcell.out k hlt2
      have e1 := (hbr.cell (p := ⟨g, k, none⟩) hlt).trans g1
      clear g1
      by_cases hh : L[k] < n
      · have hstep := Lib.hid (HY.out k hlt2 hh)
        generalize L[k] = y at *
        go_wp2
        go_roundw
        case rel => exact ⟨k + 1, by omega, by go_num, by rw [hstep.out]; go_num, hbr⟩
        case measure => simp [intOf]; omega
      · have hstep := Lib.hid (HN.out k hlt2 (by omega))
        generalize L[k] = y at *
        go_wp2
        go_roundw
        case rel => exact ⟨k + 1, by omega, by go_num, by rw [hstep.out], hbr⟩
        case measure => simp [intOf]; omega
    · have : k = L.length := by omega
      subst this
      go_wp2
      go_ret
      refine ⟨?_, ?_⟩
      · rw [HL.out, HF.out]; rfl
      · ((have shbr := hbr.size); (try simp at shbr); (have shb1 := hb1.size); (try simp at shb1); (repeat' (first | (with_reducible exact Below.refl _ _) | (with_reducible refine Below.setCell ?_ ?_ _) | (with_reducible refine Below.alloc ?_ ?_ _) | (with_reducible refine Below.drew ?_) | (with_reducible refine Below.trans ?_ (Below.mono hbr ?_)) | (with_reducible refine Below.trans ?_ (Below.mono hb1 ?_)) | go_size)))

/-- The least that is n or more, and whether there is one. -/
def nextF (L : List Int) (n : Int) : Int × Bool := match L.find? (fun x => decide (n ≤ x)) with | some x => (x, true) | none => (0, false)
theorem nextF_hit (L : List Int) (n : Int) (k : Nat) (h : k < L.length) (hb : ∀ x ∈ L.take k, ¬ n ≤ x) (hh : n ≤ L[k]) : nextF L n = (L[k], true) := by
  have e : L.find? (fun x => decide (n ≤ x)) = some L[k] := by
    have hs : L = L.take k ++ L[k] :: L.drop (k + 1) := by rw [← List.drop_eq_getElem_cons h, List.take_append_drop]
    have h1 : (L.take k).find? (fun x => decide (n ≤ x)) = none := List.find?_eq_none.2 fun x hx => by simpa using hb x hx
    have h2 := congrArg (List.find? fun x => decide (n ≤ x)) hs
    rw [h2, List.find?_append, h1, Option.none_or, List.find?_cons_of_pos (by simp [hh])]
  unfold nextF; rw [e]
theorem nextF_none (L : List Int) (n : Int) (hb : ∀ x ∈ L, ¬ n ≤ x) : nextF L n = (0, false) := by
  have e : L.find? (fun x => decide (n ≤ x)) = none := List.find?_eq_none.2 fun x hx => by simpa using hb x hx
  unfold nextF; rw [e]

set_option maxHeartbeats 400000 in
theorem r_Next (a b : BitVec 64) (n : Int) (w : World) : Calls Tryd.prog 11 #[MV a b, .int .i64 n] w fun e w' => e = .returned (.tuple #[.int .i64 (nextF (slotsK (a, b) 96) n).1, .bool (nextF (slotsK (a, b) 96) n).2]) ∧ Below w.heap.size w w' := by
  go_enter Tryd.func11, Tryd.ntmps11
  go_wp2_with fail
  refine (r_Slots _ _ _).mono ?_
  rintro e w1 ⟨⟨v, rfl, hI⟩, hb1⟩
  obtain ⟨p, cap, rfl, hl, hm, hcell⟩ := owns_open hI
  have Hcell := Lib.hid hcell
  have hle := slotsK_le (a, b) 96
  clear hcell hI
  generalize hL : slotsK (a, b) 96 = L at *
  have HL := Lib.hid hL
  clear hL
  go_wp2
  go_loopw [11] (fun i wr => ∃ k : Nat, k ≤ L.length ∧ i = .int .i64 k ∧ (∀ x ∈ L.take k, ¬ n ≤ x) ∧ Below w1.heap.size w1 wr) (fun i _ => L.length - (intOf i).toNat)
  case atStart => exact ⟨0, Nat.zero_le _, rfl, by simp, Below.refl _ _⟩
  case round =>
    obtain ⟨k, hk, rfl, hall, hbr⟩ := hrel
    have HA := Lib.hid hall
    clear hall
    by_cases hlt2 : k < L.length
    · obtain ⟨g, rfl, -, hlt, g1⟩ := Hcell.out k hlt2
      have e1 := (hbr.cell (p := ⟨g, k, none⟩) hlt).trans g1
      clear g1
      by_cases hh : n ≤ L[k]
      · have hstep := Lib.hid (nextF_hit L n k hlt2 HA.out hh)
        generalize L[k] = y at *
        go_wp2
        refine bodyPost_ret (v := .tuple #[.int .i64 y, .bool true]) (by simp only [results, Tryd.results11]; go_simp) rfl ⟨?_, ?_⟩
        · rw [HL.out, hstep.out]
        · ((have shbr := hbr.size); (try simp at shbr); (have shb1 := hb1.size); (try simp at shb1); (repeat' (first | (with_reducible exact Below.refl _ _) | (with_reducible refine Below.setCell ?_ ?_ _) | (with_reducible refine Below.alloc ?_ ?_ _) | (with_reducible refine Below.drew ?_) | (with_reducible refine Below.trans ?_ (Below.mono hbr ?_)) | (with_reducible refine Below.trans ?_ (Below.mono hb1 ?_)) | go_size)))
      · have hstep := Lib.hid (all_snoc (P := fun x => ¬ n ≤ x) hlt2 rfl HA.out hh)
        generalize L[k] = y at *
        go_wp2
        go_roundw
        case rel => exact ⟨k + 1, by omega, by go_num, hstep.out, hbr⟩
        case measure => simp [intOf]; omega
    · have : k = L.length := by omega
      subst this
      have hstep := Lib.hid (nextF_none L n (by have := HA.out; rwa [List.take_length] at this))
      go_wp2
      refine bodyPost_ret (v := .tuple #[.int .i64 0, .bool false]) (by simp only [results, Tryd.results11]; go_simp) rfl ⟨?_, ?_⟩
      · rw [HL.out, hstep.out]
      · ((have shbr := hbr.size); (try simp at shbr); (have shb1 := hb1.size); (try simp at shb1); (repeat' (first | (with_reducible exact Below.refl _ _) | (with_reducible refine Below.setCell ?_ ?_ _) | (with_reducible refine Below.alloc ?_ ?_ _) | (with_reducible refine Below.drew ?_) | (with_reducible refine Below.trans ?_ (Below.mono hbr ?_)) | (with_reducible refine Below.trans ?_ (Below.mono hb1 ?_)) | go_size)))

theorem take_eq_succ {l m : List Int} {k : Nat} (h : k < l.length) (h' : k < m.length) (ht : l.take k = m.take k) (he : l[k] = m[k]) : l.take (k + 1) = m.take (k + 1) := by
  rw [List.take_succ_eq_append_getElem h, List.take_succ_eq_append_getElem h', ht, he]
theorem ne_at {l m : List Int} {k : Nat} (h : k < l.length) (h' : k < m.length) (he : ¬ l[k] = m[k]) : decide (l = m) = false :=
  decide_eq_false fun e => he (by subst e; rfl)
set_option maxHeartbeats 400000 in
theorem r_SameInts (v u : Value) (l m : List Int) (w : World) (h : Ints w v l) (h' : Ints w u m) : Calls Tryd.prog 7 #[v, u] w fun e w' => e = .returned (.bool (decide (l = m))) ∧ Below w.heap.size w w' := by
  obtain ⟨p, cap, rfl, hl, hm, hcell⟩ := h.open
  have Hcell := Lib.hid hcell
  obtain ⟨p', cap', rfl, hl', hm', hcell'⟩ := h'.open
  have Hcell' := Lib.hid hcell'
  clear hcell hcell' h h'
  by_cases hlen : l.length = m.length
  · have HT := Lib.hid (fun (h : l.take l.length = m.take m.length) => (show decide (l = m) = true from decide_eq_true (by rwa [List.take_length, List.take_length] at h)))
    have HS := Lib.hid (fun (k : Nat) (h : k < l.length) (h' : k < m.length) (ht : l.take k = m.take k) (he : l[k] = m[k]) => take_eq_succ h h' ht he)
    have HNE := Lib.hid (fun (k : Nat) (h : k < l.length) (h' : k < m.length) (he : ¬ l[k] = m[k]) => ne_at h h' he)
    have HM := Lib.hid hlen
    rw [← hlen] at hl' ⊢
    clear hlen
    go_enter Tryd.func7, Tryd.ntmps7
    go_wp2
    go_loopw [13] (fun i wr => ∃ k : Nat, k ≤ l.length ∧ i = .int .i64 k ∧ l.take k = m.take k ∧ Below w.heap.size w wr) (fun i _ => l.length - (intOf i).toNat)
    case atStart => exact ⟨0, Nat.zero_le _, rfl, rfl, Below.refl _ _⟩
    case round =>
      obtain ⟨k, hk, rfl, htk, hbr⟩ := hrel
      have HK := Lib.hid htk
      clear htk
      by_cases hlt2 : k < l.length
      · have hl2 : k < l.length := hlt2
        have hm2 : k < m.length := by rw [← HM.out]; exact hlt2
        have HX := Lib.hid (HS.out k hl2 hm2 HK.out)
        have HY := Lib.hid (HNE.out k hl2 hm2)
        obtain ⟨x, hx, g, off, rfl, hlt, g1⟩ : ∃ x, l[k] = x ∧ ∃ g off, p = some ⟨g, off, none⟩ ∧ g < w.heap.size ∧ w.cell? ⟨g, off + k, none⟩ = some (.int .i64 x) := ⟨_, rfl, Hcell.out k hl2⟩
        obtain ⟨y, hy, g', off', rfl, hlt', g2⟩ : ∃ y, m[k] = y ∧ ∃ g off, p' = some ⟨g, off, none⟩ ∧ g < w.heap.size ∧ w.cell? ⟨g, off + k, none⟩ = some (.int .i64 y) := ⟨_, rfl, Hcell'.out k hm2⟩
        have e1 := (hbr.cell (p := ⟨g, off + k, none⟩) hlt).trans g1
        have e2 := (hbr.cell (p := ⟨g', off' + k, none⟩) hlt').trans g2
        have z1 : g < wr.heap.size := by have := hbr.size; omega
        have z2 : g' < wr.heap.size := by have := hbr.size; omega
        rw [hx, hy] at HX HY
        clear g1 g2 hx hy hm2
        by_cases hxy : x = y
        · subst hxy
          go_wp2
          refine wp_grow [] 9 (by kernel_rfl) (by kernel_rfl) (by rfl) (by rfl) ?_
          simp only [List.take_succ_cons, List.take_zero, List.drop_succ_cons, List.drop_zero]
          repeat (first
            | (apply Der.quiet; (rfl); (rfl); (intro w' hw' hctx; have hc' := bcell hw'; have y1 := fun o => hw'.cell (p := ⟨g, o, none⟩) (by simp; omega); have y2 := fun o => hw'.cell (p := ⟨g', o, none⟩) (by simp; omega); clear hctx; go_simp; first | exact rfl | exact ⟨rfl, rfl⟩); simp only [Act.put, List.setIfInBounds_toArray, List.set_cons_succ, List.set_cons_zero, Nat.reduceAdd])
            | (apply Der.skip; (rfl); simp only [Act.put, List.setIfInBounds_toArray, List.set_cons_succ, List.set_cons_zero, Nat.reduceAdd]))
          refine Der.nil (fun w2 hgw2 hctx => ?_)
          clear hctx
          have hb2 : Below _ _ w2 := hgw2
          clear hgw2
          go_wp2
          go_roundw
          case rel => exact ⟨k + 1, by omega, by go_num, (by first | exact HX.out rfl | exact HX.out trivial | exact HX.out), by ((have shb2 := hb2.size); (try simp at shb2); (have shbr := hbr.size); (try simp at shbr); (repeat' (first | (with_reducible exact Below.refl _ _) | (with_reducible refine Below.setCell ?_ ?_ _) | (with_reducible refine Below.alloc ?_ ?_ _) | (with_reducible refine Below.drew ?_) | (with_reducible refine Below.trans ?_ (Below.mono hb2 ?_)) | (with_reducible refine Below.trans ?_ (Below.mono hbr ?_)) | go_size)))⟩
          case measure => simp [intOf]; omega
        · have hxb : (x == y) = false := by simp [hxy]
          go_wp2
          refine wp_grow [] 9 (by kernel_rfl) (by kernel_rfl) (by rfl) (by rfl) ?_
          simp only [List.take_succ_cons, List.take_zero, List.drop_succ_cons, List.drop_zero]
          repeat (first
            | (apply Der.quiet; (rfl); (rfl); (intro w' hw' hctx; have hc' := bcell hw'; have y1 := fun o => hw'.cell (p := ⟨g, o, none⟩) (by simp; omega); have y2 := fun o => hw'.cell (p := ⟨g', o, none⟩) (by simp; omega); clear hctx; go_simp; first | exact rfl | exact ⟨rfl, rfl⟩); simp only [Act.put, List.setIfInBounds_toArray, List.set_cons_succ, List.set_cons_zero, Nat.reduceAdd])
            | (apply Der.skip; (rfl); simp only [Act.put, List.setIfInBounds_toArray, List.set_cons_succ, List.set_cons_zero, Nat.reduceAdd]))
          refine Der.nil (fun w2 hgw2 hctx => ?_)
          clear hctx
          have hb2 : Below _ _ w2 := hgw2
          clear hgw2
          go_wp2
          go_ret
          refine ⟨?_, ?_⟩
          · rw [HY.out hxy]; rfl
          · ((have shb2 := hb2.size); (try simp at shb2); (have shbr := hbr.size); (try simp at shbr); (repeat' (first | (with_reducible exact Below.refl _ _) | (with_reducible refine Below.setCell ?_ ?_ _) | (with_reducible refine Below.alloc ?_ ?_ _) | (with_reducible refine Below.drew ?_) | (with_reducible refine Below.trans ?_ (Below.mono hb2 ?_)) | (with_reducible refine Below.trans ?_ (Below.mono hbr ?_)) | go_size)))
      · have : k = l.length := by omega
        subst this
        go_wp2
        go_ret
        exact ⟨by rw [HT.out (by rw [← HM.out]; exact HK.out)]; rfl, hbr⟩
  · have HB := Lib.hid (show decide (l = m) = false from decide_eq_false (fun e => hlen (by rw [e])))
    have hne : ¬ (l.length : Int) = (m.length : Int) := by omega
    clear hlen
    go_enter Tryd.func7, Tryd.ntmps7
    go_wp2
    go_ret
    exact ⟨by rw [HB.out]; rfl, Below.refl _ _⟩
end Go.Proofs.YtbanmngngfanhaaDoor
