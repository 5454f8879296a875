/- The contract of the document's answer for layer 10: Or. -/
import Derived.Test.YtlfmffjlmhpcdaaRefD
namespace Go.Proofs.Ytlfmffjlmhpcdaa
open Go.RowKit
set_option maxRecDepth 100000

def orL (l : List M) (k : Nat) : List Int := (l.take k).flatMap fun m => slotsK m 96
theorem orL_succ (l : List M) (k : Nat) (h : k < l.length) : orL l (k + 1) = orL l k ++ slotsK l[k] 96 := by
  unfold orL; rw [List.take_succ_eq_append_getElem h, List.flatMap_append]; simp
theorem ofAll_snoc2 (P L : List Int) (j : Nat) (h : j < L.length) : ofAll (P ++ L.take (j + 1)) = mOr (ofAll (P ++ L.take j)) (mBit L[j]) := by
  rw [List.take_succ_eq_append_getElem h, ← List.append_assoc, ofAll_append]

set_option maxHeartbeats 1000000 in
theorem r_Or (v : Value) (l : List M) (w : World) (h : Masks w v l) : Calls Try.prog 37 #[v] w fun e w' => e = .returned (MV (ofAll (orL l l.length)).1 (ofAll (orL l l.length)).2) ∧ Below w.heap.size w w' := by
  obtain ⟨a, cap, rfl, hl, hm, hcell⟩ := h.open
  have Hcell := Lib.hid hcell
  clear hcell h
  go_enter Try.func37, Try.ntmps37
  go_wp2
  go_loopw [10] (fun i wr => ∃ k : Nat, k ≤ l.length ∧ i = .int .i64 k ∧ wr.cell? ⟨w.heap.size + 1, 0, none⟩ = some (.int .u64 (U (ofAll (orL l k)).1)) ∧ wr.cell? ⟨w.heap.size + 1, 1, none⟩ = some (.int .u64 (U (ofAll (orL l k)).2)) ∧
      wr.frozen? ⟨w.heap.size + 1, 0, none⟩ = false ∧ wr.frozen? ⟨w.heap.size + 1, 1, none⟩ = false ∧
      Below (w.heap.size + 1) (w.alloc (.cells #[.int .u64 0, .int .u64 0] 49)) wr ∧ w.heap.size + 1 < wr.heap.size) (fun i _ => l.length - (intOf i).toNat)
  case atStart => exact ⟨0, Nat.zero_le _, rfl, by simp [orL, ofAll, mZero, U_zero], by simp [orL, ofAll, mZero, U_zero], by simp, by simp, (Below.refl _ _).alloc (by simp) _, by simp⟩
  case round =>
    obtain ⟨wo, hwo⟩ : ∃ wo, wo = wr := ⟨_, rfl⟩
    subst hwo
    obtain ⟨k, hk, rfl, hc0, hc1', hf0, hf1, hbo, hz⟩ := hrel
    have hB : Below w.heap.size w wo := by ((have shbo := hbo.size); (try simp at shbo); (repeat' (first | (with_reducible exact Below.refl _ _) | (with_reducible refine Below.setCell ?_ ?_ _) | (with_reducible refine Below.alloc ?_ ?_ _) | (with_reducible refine Below.drew ?_) | (with_reducible refine Below.trans ?_ (Below.mono hbo ?_)) | go_size)))
    have zow0 : w.heap.size < wo.heap.size := (by have := hbo.size; (try simp at this); omega)
    have qow0 := fun o => hbo.cell (p := ⟨w.heap.size, o, none⟩) (by first | omega | (simp; done) | (simp; omega))
    have row0 := fun o => hbo.frozen (p := ⟨w.heap.size, o, none⟩) (by first | omega | (simp; done) | (simp; omega))
    by_cases hlt2 : k < l.length
    · obtain ⟨b, off, rfl, hlt, g1, g2⟩ := Hcell.out k hlt2
      have e1 := (hB.cell (p := ⟨b, off + k * 2, none⟩) hlt).trans g1
      have e2 := (hB.cell (p := ⟨b, off + k * 2 + 1, none⟩) hlt).trans g2
      have HP := Lib.hid (orL_succ l k hlt2)
      clear g1 g2
      generalize l[k] = y at *
      obtain ⟨y1, y2⟩ := y
      go_wp2_with fail
      refine (r_Slots _ _ _).mono ?_
      rintro e w1 ⟨⟨v, rfl, hI⟩, hb1⟩
      have z1w0 : w.heap.size < w1.heap.size := (by have := hb1.size; (try simp at this); omega)
      have q1w0 := fun o => hb1.cell (p := ⟨w.heap.size, o, none⟩) (by first | omega | (simp; done) | (simp; omega))
      have r1w0 := fun o => hb1.frozen (p := ⟨w.heap.size, o, none⟩) (by first | omega | (simp; done) | (simp; omega))
      have z1w1 : w.heap.size + 1 < w1.heap.size := (by have := hb1.size; (try simp at this); omega)
      have q1w1 := fun o => hb1.cell (p := ⟨w.heap.size + 1, o, none⟩) (by first | omega | (simp; done) | (simp; omega))
      have r1w1 := fun o => hb1.frozen (p := ⟨w.heap.size + 1, o, none⟩) (by first | omega | (simp; done) | (simp; omega))
      obtain ⟨p, cap2, rfl, hl3, hm3, hcell⟩ := owns_open hI
      have Hc := Lib.hid hcell
      have hle := slotsK_le (y1, y2) 96
      have HS := Lib.hid (slotsK_slot (y1, y2))
      clear hcell hI
      generalize hL : slotsK (y1, y2) 96 = L at *
      generalize hP : orL l k = P at *
      have HT := Lib.hid (ofAll_snoc2 P L)
      clear hL
      go_wp2
      go_loopw [17] (fun i wr => ∃ j : Nat, j ≤ L.length ∧ i = .int .i64 j ∧ wr.cell? ⟨w.heap.size + 1, 0, none⟩ = some (.int .u64 (U (ofAll (P ++ L.take j)).1)) ∧ wr.cell? ⟨w.heap.size + 1, 1, none⟩ = some (.int .u64 (U (ofAll (P ++ L.take j)).2)) ∧
          wr.frozen? ⟨w.heap.size + 1, 0, none⟩ = false ∧ wr.frozen? ⟨w.heap.size + 1, 1, none⟩ = false ∧ w1.grownBy wr (some (w.heap.size + 1))) (fun i _ => L.length - (intOf i).toNat)
      case atStart => exact ⟨0, Nat.zero_le _, rfl, by rw [List.take_zero, List.append_nil]; go_simp, by rw [List.take_zero, List.append_nil]; go_simp, by go_simp, by go_simp, but_refl _ _⟩
      case round =>
        obtain ⟨j, hj, rfl, hd0, hd1, hh0, hh1, hg⟩ := hrel
        have hsz := hg.size
        have p3 : w.heap.size + 1 < wr.heap.size := by omega
        by_cases hlt3 : j < L.length
        · obtain ⟨g, rfl, hBg, hltg, g1⟩ := Hc.out j hlt3
          have e3 := (but_cell hg (p := ⟨g, j, none⟩) hltg (by simp at hBg ⊢; omega)).trans g1
          have hs : 0 ≤ L[j] ∧ L[j] < 96 := HS.out _ (List.getElem_mem hlt3)
          have hstep := Lib.hid (HT.out j hlt3)
          clear g1
          generalize hX : ofAll (P ++ L.take j) = X at *
          generalize hy : L[j] = y at *
          go_wp2_with (go_at_call 76; refine (r_with _ _ y (by omega) (by omega) _).mono ?_; rintro e w3 ⟨rfl, hb3⟩; have z3w0 : w.heap.size < w3.heap.size := (by have := hb3.size; (try simp at this); omega); have q3w0 := fun o => hb3.cell (p := ⟨w.heap.size, o, none⟩) (by first | omega | (simp; done) | (simp; omega)); have r3w0 := fun o => hb3.frozen (p := ⟨w.heap.size, o, none⟩) (by first | omega | (simp; done) | (simp; omega)); have z3w1 : w.heap.size + 1 < w3.heap.size := (by have := hb3.size; (try simp at this); omega); have q3w1 := fun o => hb3.cell (p := ⟨w.heap.size + 1, o, none⟩) (by first | omega | (simp; done) | (simp; omega)); have r3w1 := fun o => hb3.frozen (p := ⟨w.heap.size + 1, o, none⟩) (by first | omega | (simp; done) | (simp; omega)))
          go_roundw
          case rel =>
            refine ⟨j + 1, by omega, by go_num, ?_, ?_, ?_, ?_, ?_⟩
            · rw [hstep.out]; go_simp; rfl
            · rw [hstep.out]; go_simp; rfl
            · go_simp
            · go_simp
            · exact but_setCell (but_setCell (but_below hg hb3) _) _
          case measure => simp [intOf]; omega
        · have : j = L.length := by omega
          subst this
          rw [List.take_length, ← HP.out] at hd0 hd1
          have hB4 : Below (w.heap.size + 1) (w.alloc (.cells #[.int .u64 0, .int .u64 0] 49)) wr := (show Below (w.heap.size + 1) _ w1 by ((have shb1 := hb1.size); (try simp at shb1); (have shbo := hbo.size); (try simp at shbo); (repeat' (first | (with_reducible exact Below.refl _ _) | (with_reducible refine Below.setCell ?_ ?_ _) | (with_reducible refine Below.alloc ?_ ?_ _) | (with_reducible refine Below.drew ?_) | (with_reducible refine Below.trans ?_ (Below.mono hb1 ?_)) | (with_reducible refine Below.trans ?_ (Below.mono hbo ?_)) | go_size)))).grown hg (by omega) (by intro q hq; simp at hq; omega)
          go_wp2
          go_roundw
          case rel => exact ⟨k + 1, by omega, by go_num, hd0, hd1, hh0, hh1, hB4, p3⟩
          case measure => simp [intOf]; omega
    · have : k = l.length := by omega
      subst this
      generalize hP : orL l l.length = P at *
      have HP := Lib.hid hP
      clear hP
      go_wp2
      refine bodyPost_ret (v := MV (ofAll P).1 (ofAll P).2) (by simp only [results, Try.results37]; go_simp) rfl ⟨by rw [HP.out], ?_⟩
      ((have shB := hB.size); (try simp at shB); (repeat' (first | (with_reducible exact Below.refl _ _) | (with_reducible refine Below.setCell ?_ ?_ _) | (with_reducible refine Below.alloc ?_ ?_ _) | (with_reducible refine Below.drew ?_) | (with_reducible refine Below.trans ?_ (Below.mono hB ?_)) | go_size)))
end Go.Proofs.Ytlfmffjlmhpcdaa
