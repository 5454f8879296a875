/- The contracts of the document's answer for layer 10: Minus, Or, And. -/
import Derived.Test.YtbanmngngfanhaaRefB
namespace Go.Proofs.Ytbanmngngfanhaa
open Go.RowKit

def minusL (a b : M) (j : Nat) : List Int := ((slotsK a 96).take j).filter fun n => !hasM b n
theorem minusL_hit (a b : M) (j : Nat) (h : j < (slotsK a 96).length) (hh : hasM b (slotsK a 96)[j] = false) : ofAll (minusL a b (j + 1)) = mOr (ofAll (minusL a b j)) (mBit (slotsK a 96)[j]) := by
  unfold minusL; rw [List.take_succ_eq_append_getElem h, List.filter_append, List.filter_cons_of_pos (by simp [hh]), List.filter_nil, ofAll_append]
theorem minusL_miss (a b : M) (j : Nat) (h : j < (slotsK a 96).length) (hh : hasM b (slotsK a 96)[j] = true) : minusL a b (j + 1) = minusL a b j := by
  unfold minusL; rw [List.take_succ_eq_append_getElem h, List.filter_append, List.filter_cons_of_neg (by simp [hh])]; simp

set_option maxHeartbeats 400000 in
theorem r_Minus (a b c d : BitVec 64) (w : World) : Calls Try.prog 16 #[MV a b, MV c d] w fun e w' => e = .returned (MV (ofAll (minusL (a, b) (c, d) 96)).1 (ofAll (minusL (a, b) (c, d) 96)).2) ∧ Below w.heap.size w w' := by
  go_enter Try.func16, Try.ntmps16
  go_wp2_with fail
  refine (r_Slots _ _ _).mono ?_
  rintro e w1 ⟨⟨v, rfl, hI⟩, hb1⟩
  have z1w0 : w.heap.size < w1.heap.size := (by have := hb1.size; (try simp at this); omega)
  have q1w0 := fun o => hb1.cell (p := ⟨w.heap.size, o, none⟩) (by first | omega | (simp; done) | (simp; omega))
  have r1w0 := fun o => hb1.frozen (p := ⟨w.heap.size, o, none⟩) (by first | omega | (simp; done) | (simp; omega))
  have z1w1 : w.heap.size + 1 < w1.heap.size := (by have := hb1.size; (try simp at this); omega)
  have q1w1 := fun o => hb1.cell (p := ⟨w.heap.size + 1, o, none⟩) (by first | omega | (simp; done) | (simp; omega))
  have r1w1 := fun o => hb1.frozen (p := ⟨w.heap.size + 1, o, none⟩) (by first | omega | (simp; done) | (simp; omega))
  have z1w2 : w.heap.size + 1 + 1 < w1.heap.size := (by have := hb1.size; (try simp at this); omega)
  have q1w2 := fun o => hb1.cell (p := ⟨w.heap.size + 1 + 1, o, none⟩) (by first | omega | (simp; done) | (simp; omega))
  have r1w2 := fun o => hb1.frozen (p := ⟨w.heap.size + 1 + 1, o, none⟩) (by first | omega | (simp; done) | (simp; omega))
  have z1w3 : w.heap.size + 1 + 1 + 1 < w1.heap.size := (by have := hb1.size; (try simp at this); omega)
  have q1w3 := fun o => hb1.cell (p := ⟨w.heap.size + 1 + 1 + 1, o, none⟩) (by first | omega | (simp; done) | (simp; omega))
  have r1w3 := fun o => hb1.frozen (p := ⟨w.heap.size + 1 + 1 + 1, o, none⟩) (by first | omega | (simp; done) | (simp; omega))
  obtain ⟨p, cap, rfl, hl, hm, hcell⟩ := owns_open hI
  have Hcell := Lib.hid hcell
  have hle := slotsK_le (a, b) 96
  have HS := Lib.hid (slotsK_slot (a, b))
  have HE := Lib.hid (show minusL (a, b) (c, d) 96 = minusL (a, b) (c, d) (slotsK (a, b) 96).length by unfold minusL; rw [List.take_of_length_le hle, List.take_length])
  have HN := Lib.hid (minusL_miss (a, b) (c, d))
  have HY := Lib.hid (minusL_hit (a, b) (c, d))
  have HZ := Lib.hid (show ofAll (minusL (a, b) (c, d) 0) = mZero by unfold minusL ofAll; rw [List.take_zero]; rfl)
  clear hcell hI
  generalize hL : slotsK (a, b) 96 = L at *
  generalize hF : minusL (a, b) (c, d) = F at *
  have HF := Lib.hid hF
  clear hF
  clear hL
  go_wp2
  go_loopw [11] (fun i wr => ∃ k : Nat, k ≤ L.length ∧ i = .int .i64 k ∧ wr.cell? ⟨w.heap.size + 1 + 1 + 1, 0, none⟩ = some (.int .u64 (U (ofAll (F k)).1)) ∧ wr.cell? ⟨w.heap.size + 1 + 1 + 1, 1, none⟩ = some (.int .u64 (U (ofAll (F k)).2)) ∧
      wr.frozen? ⟨w.heap.size + 1 + 1 + 1, 0, none⟩ = false ∧ wr.frozen? ⟨w.heap.size + 1 + 1 + 1, 1, none⟩ = false ∧ w1.grownBy wr (some (w.heap.size + 1 + 1 + 1))) (fun i _ => L.length - (intOf i).toNat)
  case atStart => exact ⟨0, Nat.zero_le _, rfl, by rw [HZ.out]; go_simp; rfl, by rw [HZ.out]; go_simp; rfl, by go_simp, by go_simp, but_refl _ _⟩
  case round =>
    obtain ⟨k, hk, rfl, hc0, hc1', hf0, hf1, hg⟩ := hrel
    have hsz := hg.size
    have p0 := fun o => but_cell hg (p := ⟨w.heap.size + 1, o, none⟩) (show _ < _ by simp only []; omega) (by simp only [ne_eq]; omega)
    have p1 := fun o => but_cell hg (p := ⟨w.heap.size + 1 + 1, o, none⟩) (show _ < _ by simp only []; omega) (by simp only [ne_eq]; omega)
    have p2 := fun o => but_frozen hg (p := ⟨w.heap.size + 1 + 1, o, none⟩) (show _ < _ by simp only []; omega) (by simp only [ne_eq]; omega)
    have p3 : w.heap.size + 1 + 1 + 1 < wr.heap.size := by omega
    by_cases hlt2 : k < L.length
    · obtain ⟨g, rfl, hBg, hlt, g1⟩ := Hcell.out k hlt2
      have e1 := (but_cell hg (p := ⟨g, k, none⟩) hlt (by simp at hBg ⊢; omega)).trans g1
      have hs : 0 ≤ L[k] ∧ L[k] < 96 := HS.out _ (List.getElem_mem hlt2)
      clear g1
      cases hh : hasM (c, d) L[k]
      · have hstep := Lib.hid (HY.out k hlt2 hh)
        have HH := Lib.hid hh
        clear hh
        generalize hX : ofAll (F k) = X at *
        generalize hy : L[k] = y at *
        go_wp2_with (first | (go_at_call 33; refine (r_Has _ _ y (by omega) (by omega) _).mono ?_; rintro e w2 ⟨rfl, hb2⟩; have z2w0 : w.heap.size < w2.heap.size := (by have := hb2.size; (try simp at this); omega); have q2w0 := fun o => hb2.cell (p := ⟨w.heap.size, o, none⟩) (by first | omega | (simp; done) | (simp; omega)); have r2w0 := fun o => hb2.frozen (p := ⟨w.heap.size, o, none⟩) (by first | omega | (simp; done) | (simp; omega)); have z2w1 : w.heap.size + 1 < w2.heap.size := (by have := hb2.size; (try simp at this); omega); have q2w1 := fun o => hb2.cell (p := ⟨w.heap.size + 1, o, none⟩) (by first | omega | (simp; done) | (simp; omega)); have r2w1 := fun o => hb2.frozen (p := ⟨w.heap.size + 1, o, none⟩) (by first | omega | (simp; done) | (simp; omega)); have z2w2 : w.heap.size + 1 + 1 < w2.heap.size := (by have := hb2.size; (try simp at this); omega); have q2w2 := fun o => hb2.cell (p := ⟨w.heap.size + 1 + 1, o, none⟩) (by first | omega | (simp; done) | (simp; omega)); have r2w2 := fun o => hb2.frozen (p := ⟨w.heap.size + 1 + 1, o, none⟩) (by first | omega | (simp; done) | (simp; omega)); have z2w3 : w.heap.size + 1 + 1 + 1 < w2.heap.size := (by have := hb2.size; (try simp at this); omega); have q2w3 := fun o => hb2.cell (p := ⟨w.heap.size + 1 + 1 + 1, o, none⟩) (by first | omega | (simp; done) | (simp; omega)); have r2w3 := fun o => hb2.frozen (p := ⟨w.heap.size + 1 + 1 + 1, o, none⟩) (by first | omega | (simp; done) | (simp; omega)); rw [HH.out]) | (go_at_call 30; refine (r_with _ _ y (by omega) (by omega) _).mono ?_; rintro e w3 ⟨rfl, hb3⟩; have z3w0 : w.heap.size < w3.heap.size := (by have := hb3.size; (try simp at this); omega); have q3w0 := fun o => hb3.cell (p := ⟨w.heap.size, o, none⟩) (by first | omega | (simp; done) | (simp; omega)); have r3w0 := fun o => hb3.frozen (p := ⟨w.heap.size, o, none⟩) (by first | omega | (simp; done) | (simp; omega)); have z3w1 : w.heap.size + 1 < w3.heap.size := (by have := hb3.size; (try simp at this); omega); have q3w1 := fun o => hb3.cell (p := ⟨w.heap.size + 1, o, none⟩) (by first | omega | (simp; done) | (simp; omega)); have r3w1 := fun o => hb3.frozen (p := ⟨w.heap.size + 1, o, none⟩) (by first | omega | (simp; done) | (simp; omega)); have z3w2 : w.heap.size + 1 + 1 < w3.heap.size := (by have := hb3.size; (try simp at this); omega); have q3w2 := fun o => hb3.cell (p := ⟨w.heap.size + 1 + 1, o, none⟩) (by first | omega | (simp; done) | (simp; omega)); have r3w2 := fun o => hb3.frozen (p := ⟨w.heap.size + 1 + 1, o, none⟩) (by first | omega | (simp; done) | (simp; omega)); have z3w3 : w.heap.size + 1 + 1 + 1 < w3.heap.size := (by have := hb3.size; (try simp at this); omega); have q3w3 := fun o => hb3.cell (p := ⟨w.heap.size + 1 + 1 + 1, o, none⟩) (by first | omega | (simp; done) | (simp; omega)); have r3w3 := fun o => hb3.frozen (p := ⟨w.heap.size + 1 + 1 + 1, o, none⟩) (by first | omega | (simp; done) | (simp; omega))))
        go_roundw
        case rel =>
          refine ⟨k + 1, by omega, by go_num, ?_, ?_, ?_, ?_, ?_⟩
          · rw [hstep.out]; go_simp; rfl
          · rw [hstep.out]; go_simp; rfl
          · go_simp
          · go_simp
          · exact but_setCell (but_setCell (but_below (but_below hg hb2) hb3) _) _
        case measure => simp [intOf]; omega
      · have hstep := Lib.hid (HN.out k hlt2 hh)
        have HH := Lib.hid hh
        clear hh
        generalize hX : F k = X at *
        generalize hy : L[k] = y at *
        go_wp2_with (go_at_call 33; refine (r_Has _ _ y (by omega) (by omega) _).mono ?_; rintro e w2 ⟨rfl, hb2⟩; have z2w0 : w.heap.size < w2.heap.size := (by have := hb2.size; (try simp at this); omega); have q2w0 := fun o => hb2.cell (p := ⟨w.heap.size, o, none⟩) (by first | omega | (simp; done) | (simp; omega)); have r2w0 := fun o => hb2.frozen (p := ⟨w.heap.size, o, none⟩) (by first | omega | (simp; done) | (simp; omega)); have z2w1 : w.heap.size + 1 < w2.heap.size := (by have := hb2.size; (try simp at this); omega); have q2w1 := fun o => hb2.cell (p := ⟨w.heap.size + 1, o, none⟩) (by first | omega | (simp; done) | (simp; omega)); have r2w1 := fun o => hb2.frozen (p := ⟨w.heap.size + 1, o, none⟩) (by first | omega | (simp; done) | (simp; omega)); have z2w2 : w.heap.size + 1 + 1 < w2.heap.size := (by have := hb2.size; (try simp at this); omega); have q2w2 := fun o => hb2.cell (p := ⟨w.heap.size + 1 + 1, o, none⟩) (by first | omega | (simp; done) | (simp; omega)); have r2w2 := fun o => hb2.frozen (p := ⟨w.heap.size + 1 + 1, o, none⟩) (by first | omega | (simp; done) | (simp; omega)); have z2w3 : w.heap.size + 1 + 1 + 1 < w2.heap.size := (by have := hb2.size; (try simp at this); omega); have q2w3 := fun o => hb2.cell (p := ⟨w.heap.size + 1 + 1 + 1, o, none⟩) (by first | omega | (simp; done) | (simp; omega)); have r2w3 := fun o => hb2.frozen (p := ⟨w.heap.size + 1 + 1 + 1, o, none⟩) (by first | omega | (simp; done) | (simp; omega)); rw [HH.out])
        go_roundw
        case rel =>
          refine ⟨k + 1, by omega, by go_num, ?_, ?_, ?_, ?_, but_below hg hb2⟩
          all_goals (try rw [hstep.out])
          all_goals go_simp
        case measure => simp [intOf]; omega
    · have : k = L.length := by omega
      subst this
      rw [← HE.out] at hc0 hc1'
      go_wp2
      refine bodyPost_ret (v := MV (ofAll (F 96)).1 (ofAll (F 96)).2) (by simp only [results, Try.results16]; go_simp) rfl ⟨by rw [HF.out], ?_⟩
      have hB : Below w.heap.size w wr := (show Below w.heap.size w w1 by ((have shb1 := hb1.size); (try simp at shb1); (repeat' (first | (with_reducible exact Below.refl _ _) | (with_reducible refine Below.setCell ?_ ?_ _) | (with_reducible refine Below.alloc ?_ ?_ _) | (with_reducible refine Below.drew ?_) | (with_reducible refine Below.trans ?_ (Below.mono hb1 ?_)) | go_size)))).grown hg (by omega) (by intro q hq; simp at hq; omega)
      ((have shB := hB.size); (try simp at shB); (repeat' (first | (with_reducible exact Below.refl _ _) | (with_reducible refine Below.setCell ?_ ?_ _) | (with_reducible refine Below.alloc ?_ ?_ _) | (with_reducible refine Below.drew ?_) | (with_reducible refine Below.trans ?_ (Below.mono hB ?_)) | go_size)))
end Go.Proofs.Ytbanmngngfanhaa
