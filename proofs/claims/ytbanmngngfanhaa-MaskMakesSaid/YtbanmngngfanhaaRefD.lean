/- The contracts of the document's answer for layer 10: And, Or. -/
import Derived.Test.YtbanmngngfanhaaRefC
namespace Go.Proofs.Ytbanmngngfanhaa
open Go.RowKit

def andL (l : List M) (k : Nat) : List Int := (seqL 0 k).filter fun n => l.all fun m => hasM m n
theorem andL_hit (l : List M) (k : Nat) (h : (l.all fun m => hasM m k) = true) : ofAll (andL l (k + 1)) = mOr (ofAll (andL l k)) (mBit k) := by
  unfold andL; rw [seqL_succ, List.filter_append, Int.zero_add, List.filter_cons_of_pos (p := fun n : Int => l.all fun m => hasM m n) h, List.filter_nil, ofAll_append]
theorem andL_miss (l : List M) (k : Nat) (h : (l.all fun m => hasM m k) = false) : andL l (k + 1) = andL l k := by
  unfold andL; rw [seqL_succ, List.filter_append, Int.zero_add, List.filter_cons_of_neg (by simp only [h]; decide)]; simp
theorem all_take (l : List M) (p : M → Bool) (j : Nat) (h : j < l.length) : (l.take (j + 1)).all p = ((l.take j).all p && p l[j]) := by
  rw [List.take_succ_eq_append_getElem h, List.all_append]; simp

set_option maxHeartbeats 1000000 in
theorem r_And (v : Value) (l : List M) (w : World) (h : Masks w v l) : Calls Try.prog 12 #[v] w fun e w' => e = .returned (MV (ofAll (andL l 96)).1 (ofAll (andL l 96)).2) ∧ Below w.heap.size w w' := by
  obtain ⟨a, cap, rfl, hl, hm, hcell⟩ := h.open
  have Hcell := Lib.hid hcell
  clear hcell h
  have HZ := Lib.hid (show ofAll (andL l 0) = mZero from rfl)
  have HY := Lib.hid (andL_hit l)
  have HN := Lib.hid (andL_miss l)
  have HA := Lib.hid (all_take l)
  obtain ⟨F, hF⟩ : ∃ F, andL l = F := ⟨_, rfl⟩
  rw [hF] at HZ HY HN
  have HF := Lib.hid hF
  clear hF
  go_enter Try.func12, Try.ntmps12
  go_wp2
  go_loopw [8] (fun i wr => ∃ k : Nat, k ≤ 96 ∧ i = .int .i64 k ∧ wr.cell? ⟨w.heap.size + 1, 0, none⟩ = some (.int .u64 (U (ofAll (F k)).1)) ∧ wr.cell? ⟨w.heap.size + 1, 1, none⟩ = some (.int .u64 (U (ofAll (F k)).2)) ∧
      wr.frozen? ⟨w.heap.size + 1, 0, none⟩ = false ∧ wr.frozen? ⟨w.heap.size + 1, 1, none⟩ = false ∧
      Below (w.heap.size + 1) (w.alloc (.cells #[.int .u64 0, .int .u64 0] 27)) wr ∧ w.heap.size + 1 < wr.heap.size) (fun i _ => 96 - (intOf i).toNat)
  case atStart => exact ⟨0, Nat.zero_le _, rfl, by rw [HZ.out]; go_simp; rfl, by rw [HZ.out]; go_simp; rfl, by go_simp, by go_simp, (Below.refl _ _).alloc (by simp) _, by simp⟩
  case round =>
    obtain ⟨wo, hwo⟩ : ∃ wo, wo = wr := ⟨_, rfl⟩
    subst hwo
    obtain ⟨k, hk, rfl, hc0, hc1', hf0, hf1, hbo, hz⟩ := hrel
    have hB : Below w.heap.size w wo := by ((have shbo := hbo.size); (try simp at shbo); (repeat' (first | (with_reducible exact Below.refl _ _) | (with_reducible refine Below.setCell ?_ ?_ _) | (with_reducible refine Below.alloc ?_ ?_ _) | (with_reducible refine Below.drew ?_) | (with_reducible refine Below.trans ?_ (Below.mono hbo ?_)) | go_size)))
    have zow0 : w.heap.size < wo.heap.size := (by have := hbo.size; (try simp at this); omega)
    have qow0 := fun o => hbo.cell (p := ⟨w.heap.size, o, none⟩) (by first | omega | (simp; done) | (simp; omega))
    have row0 := fun o => hbo.frozen (p := ⟨w.heap.size, o, none⟩) (by first | omega | (simp; done) | (simp; omega))
    by_cases hlt2 : k < 96
    · have hd : decide ((k : Int) < 96) = true := decide_eq_true (by omega)
      go_wp2
      try rw [hd]
      go_loopw [5, 13] (fun b i wr => ∃ j : Nat, j ≤ l.length ∧ i = .int .i64 j ∧ b = .bool ((l.take j).all fun m => hasM m k) ∧ Below wo.heap.size wo wr) (fun _ i _ => l.length - (intOf i).toNat)
      case atStart => exact ⟨0, Nat.zero_le _, rfl, rfl, Below.refl _ _⟩
      case round =>
        obtain ⟨j, hj, rfl, rfl, hbr⟩ := hrel
        have hBr : Below w.heap.size w wr := by ((have shbr := hbr.size); (try simp at shbr); (have shB := hB.size); (try simp at shB); (repeat' (first | (with_reducible exact Below.refl _ _) | (with_reducible refine Below.setCell ?_ ?_ _) | (with_reducible refine Below.alloc ?_ ?_ _) | (with_reducible refine Below.drew ?_) | (with_reducible refine Below.trans ?_ (Below.mono hbr ?_)) | (with_reducible refine Below.trans ?_ (Below.mono hB ?_)) | go_size)))
        have zrw0 : w.heap.size < wr.heap.size := (by have := hbr.size; (try simp at this); omega)
        have qrw0 := fun o => hbr.cell (p := ⟨w.heap.size, o, none⟩) (by first | omega | (simp; done) | (simp; omega))
        have rrw0 := fun o => hbr.frozen (p := ⟨w.heap.size, o, none⟩) (by first | omega | (simp; done) | (simp; omega))
        have zrw1 : w.heap.size + 1 < wr.heap.size := (by have := hbr.size; (try simp at this); omega)
        have qrw1 := fun o => hbr.cell (p := ⟨w.heap.size + 1, o, none⟩) (by first | omega | (simp; done) | (simp; omega))
        have rrw1 := fun o => hbr.frozen (p := ⟨w.heap.size + 1, o, none⟩) (by first | omega | (simp; done) | (simp; omega))
        generalize hX : ((l.take j).all fun m => hasM m k) = X at *
        by_cases hlt3 : j < l.length
        · obtain ⟨b, off, rfl, hlt, g1, g2⟩ := Hcell.out j hlt3
          have e1 := (hBr.cell (p := ⟨b, off + j * 2, none⟩) hlt).trans g1
          have e2 := (hBr.cell (p := ⟨b, off + j * 2 + 1, none⟩) hlt).trans g2
          have hstep := HA.out (fun m => hasM m k) j hlt3
          rw [hX] at hstep
          have Hs := Lib.hid hstep
          clear g1 g2 hX hstep
          generalize l[j] = y at *
          obtain ⟨y1, y2⟩ := y
          cases X
          · go_wp2
            go_roundw
            case rel => exact ⟨j + 1, by omega, by go_num, by rw [Hs.out]; rfl, by ((have shbr := hbr.size); (try simp at shbr); (repeat' (first | (with_reducible exact Below.refl _ _) | (with_reducible refine Below.setCell ?_ ?_ _) | (with_reducible refine Below.alloc ?_ ?_ _) | (with_reducible refine Below.drew ?_) | (with_reducible refine Below.trans ?_ (Below.mono hbr ?_)) | go_size)))⟩
            case measure => simp [intOf]; omega
          · obtain ⟨Y, hY⟩ : ∃ Y, hasM (y1, y2) k = Y := ⟨_, rfl⟩
            have HYY := Lib.hid hY
            clear hY
            go_wp2_with (go_at_call 33; refine (r_Has _ _ k (by omega) (by omega) _).mono ?_; rintro e w2 ⟨rfl, hb2⟩; have z2w0 : w.heap.size < w2.heap.size := (by have := hb2.size; (try simp at this); omega); have q2w0 := fun o => hb2.cell (p := ⟨w.heap.size, o, none⟩) (by first | omega | (simp; done) | (simp; omega)); have r2w0 := fun o => hb2.frozen (p := ⟨w.heap.size, o, none⟩) (by first | omega | (simp; done) | (simp; omega)); have z2w1 : w.heap.size + 1 < w2.heap.size := (by have := hb2.size; (try simp at this); omega); have q2w1 := fun o => hb2.cell (p := ⟨w.heap.size + 1, o, none⟩) (by first | omega | (simp; done) | (simp; omega)); have r2w1 := fun o => hb2.frozen (p := ⟨w.heap.size + 1, o, none⟩) (by first | omega | (simp; done) | (simp; omega)); rw [HYY.out])
            go_roundw
            case rel => exact ⟨j + 1, by omega, by go_num, by rw [Hs.out, HYY.out]; rfl, by ((have shb2 := hb2.size); (try simp at shb2); (have shbr := hbr.size); (try simp at shbr); (repeat' (first | (with_reducible exact Below.refl _ _) | (with_reducible refine Below.setCell ?_ ?_ _) | (with_reducible refine Below.alloc ?_ ?_ _) | (with_reducible refine Below.drew ?_) | (with_reducible refine Below.trans ?_ (Below.mono hb2 ?_)) | (with_reducible refine Below.trans ?_ (Below.mono hbr ?_)) | go_size)))⟩
            case measure => simp [intOf]; omega
        · have : j = l.length := by omega
          subst this
          rw [List.take_length] at hX
          cases X
          · have hstep := Lib.hid (HN.out k hX)
            clear hX
            generalize hX : F k = X at *
            go_wp2
            go_roundw
            case rel =>
              refine ⟨k + 1, by omega, by go_num, ?_, ?_, ?_, ?_, ?_, ?_⟩
              · rw [hstep.out]; go_simp
              · rw [hstep.out]; go_simp
              · go_simp
              · go_simp
              · ((have shbr := hbr.size); (try simp at shbr); (have shbo := hbo.size); (try simp at shbo); (repeat' (first | (with_reducible exact Below.refl _ _) | (with_reducible refine Below.setCell ?_ ?_ _) | (with_reducible refine Below.alloc ?_ ?_ _) | (with_reducible refine Below.drew ?_) | (with_reducible refine Below.trans ?_ (Below.mono hbr ?_)) | (with_reducible refine Below.trans ?_ (Below.mono hbo ?_)) | go_size)))
              · omega
            case measure => simp [intOf]; omega
          · have hstep := Lib.hid (HY.out k hX)
            clear hX
            generalize hX : ofAll (F k) = X at *
            go_wp2_with (go_at_call 30; refine (r_with _ _ k (by omega) (by omega) _).mono ?_; rintro e w3 ⟨rfl, hb3⟩; have z3w0 : w.heap.size < w3.heap.size := (by have := hb3.size; (try simp at this); omega); have q3w0 := fun o => hb3.cell (p := ⟨w.heap.size, o, none⟩) (by first | omega | (simp; done) | (simp; omega)); have r3w0 := fun o => hb3.frozen (p := ⟨w.heap.size, o, none⟩) (by first | omega | (simp; done) | (simp; omega)); have z3w1 : w.heap.size + 1 < w3.heap.size := (by have := hb3.size; (try simp at this); omega); have q3w1 := fun o => hb3.cell (p := ⟨w.heap.size + 1, o, none⟩) (by first | omega | (simp; done) | (simp; omega)); have r3w1 := fun o => hb3.frozen (p := ⟨w.heap.size + 1, o, none⟩) (by first | omega | (simp; done) | (simp; omega)))
            go_roundw
            case rel =>
              refine ⟨k + 1, by omega, by go_num, ?_, ?_, ?_, ?_, ?_, ?_⟩
              · rw [hstep.out]; go_simp; rfl
              · rw [hstep.out]; go_simp; rfl
              · go_simp
              · go_simp
              · ((have shb3 := hb3.size); (try simp at shb3); (have shbr := hbr.size); (try simp at shbr); (have shbo := hbo.size); (try simp at shbo); (repeat' (first | (with_reducible exact Below.refl _ _) | (with_reducible refine Below.setCell ?_ ?_ _) | (with_reducible refine Below.alloc ?_ ?_ _) | (with_reducible refine Below.drew ?_) | (with_reducible refine Below.trans ?_ (Below.mono hb3 ?_)) | (with_reducible refine Below.trans ?_ (Below.mono hbr ?_)) | (with_reducible refine Below.trans ?_ (Below.mono hbo ?_)) | go_size)))
              · simp; omega
            case measure => simp [intOf]; omega
    · have : k = 96 := by omega
      subst this
      go_wp2
      refine bodyPost_ret (v := MV (ofAll (F 96)).1 (ofAll (F 96)).2) (by simp only [results, Try.results12]; go_simp) rfl ⟨by rw [HF.out], ?_⟩
      ((have shB := hB.size); (try simp at shB); (repeat' (first | (with_reducible exact Below.refl _ _) | (with_reducible refine Below.setCell ?_ ?_ _) | (with_reducible refine Below.alloc ?_ ?_ _) | (with_reducible refine Below.drew ?_) | (with_reducible refine Below.trans ?_ (Below.mono hB ?_)) | go_size)))
end Go.Proofs.Ytbanmngngfanhaa
