/- The contracts of the document's answer for layer 10: with, Has, Of. -/
import Derived.Test.YtlfmffjlmhpcdaaMaskE
namespace Go.Proofs.Ytlfmffjlmhpcdaa
open Go.RowKit
set_option maxRecDepth 100000

theorem r_with (a b : BitVec 64) (n : Int) (h0 : 0 ≤ n) (h1 : n < 96) (w : World) : Calls Try.prog 76 #[MV a b, .int .i64 n] w fun e w' => e = .returned (MV (a ||| bit0 n) (b ||| bit1 n)) ∧ Below w.heap.size w w' := by
  have e2 : n.tmod 64 = n % 64 := Int.tmod_eq_emod_of_nonneg h0
  have e5 := U_bit n
  by_cases hn : n < 64
  · have e1 : IntKind.i64.wrap (n.tdiv 64) = 0 := by
      rw [Int.tdiv_eq_ediv_of_nonneg h0, show n / 64 = 0 by omega]; rfl
    have q0 : bit0 n = bitW n := by unfold bit0; rw [if_pos hn]
    have q1 : bit1 n = 0#64 := by unfold bit1; rw [if_pos hn]
    have H := Lib.hid (congr (congrArg MV (congrArg (a ||| ·) q0)) (congrArg (b ||| ·) q1))
    clear q0 q1
    go_enter Try.func76, Try.ntmps76
    go_wp2
    refine wp_grow [] 9 (by kernel_rfl) (by kernel_rfl) (by rfl) (by rfl) ?_
    simp only [List.take_succ_cons, List.take_zero, List.drop_succ_cons, List.drop_zero]
    repeat (first
      | (apply Der.quiet; (rfl); (rfl); (intro w' hw' hctx; have hc' := bcell hw'; have yw0 := fun o => hw'.cell (p := ⟨w.heap.size, o, none⟩) (by first | omega | (simp; done) | (simp; omega)); have yw1 := fun o => hw'.cell (p := ⟨w.heap.size + 1, o, none⟩) (by first | omega | (simp; done) | (simp; omega)); clear hctx; go_simp; first | exact rfl | exact ⟨rfl, rfl⟩); simp only [Act.put, List.setIfInBounds_toArray, List.set_cons_succ, List.set_cons_zero, Nat.reduceAdd])
      | (apply Der.skip; (rfl); simp only [Act.put, List.setIfInBounds_toArray, List.set_cons_succ, List.set_cons_zero, Nat.reduceAdd]))
    refine Der.nil (fun w2 hgw2 hctx => ?_)
    clear hctx
    have hb2 : Below _ _ w2 := hgw2
    clear hgw2
    have z2w0 : w.heap.size < w2.heap.size := (by have := hb2.size; (try simp at this); omega)
    have q2w0 := fun o => hb2.cell (p := ⟨w.heap.size, o, none⟩) (by first | omega | (simp; done) | (simp; omega))
    have r2w0 := fun o => hb2.frozen (p := ⟨w.heap.size, o, none⟩) (by first | omega | (simp; done) | (simp; omega))
    have z2w1 : w.heap.size + 1 < w2.heap.size := (by have := hb2.size; (try simp at this); omega)
    have q2w1 := fun o => hb2.cell (p := ⟨w.heap.size + 1, o, none⟩) (by first | omega | (simp; done) | (simp; omega))
    have r2w1 := fun o => hb2.frozen (p := ⟨w.heap.size + 1, o, none⟩) (by first | omega | (simp; done) | (simp; omega))
    go_wp2
    refine bodyPost_ret (v := MV (a ||| bitW n) b) (by simp only [results, Try.results76]; go_simp; rw [bits_or_U]) rfl ⟨?_, ?_⟩
    · rw [H.out]; simp
    · ((have shb2 := hb2.size); (try simp at shb2); (repeat' (first | (with_reducible exact Below.refl _ _) | (with_reducible refine Below.setCell ?_ ?_ _) | (with_reducible refine Below.alloc ?_ ?_ _) | (with_reducible refine Below.drew ?_) | (with_reducible refine Below.trans ?_ (Below.mono hb2 ?_)) | go_size)))
  · have e1 : IntKind.i64.wrap (n.tdiv 64) = 1 := by
      rw [Int.tdiv_eq_ediv_of_nonneg h0, show n / 64 = 1 by omega]; rfl
    have q0 : bit0 n = 0#64 := by unfold bit0; rw [if_neg hn]
    have q1 : bit1 n = bitW n := by unfold bit1; rw [if_neg hn]
    have H := Lib.hid (congr (congrArg MV (congrArg (a ||| ·) q0)) (congrArg (b ||| ·) q1))
    clear q0 q1
    go_enter Try.func76, Try.ntmps76
    go_wp2
    refine wp_grow [] 9 (by kernel_rfl) (by kernel_rfl) (by rfl) (by rfl) ?_
    simp only [List.take_succ_cons, List.take_zero, List.drop_succ_cons, List.drop_zero]
    repeat (first
      | (apply Der.quiet; (rfl); (rfl); (intro w' hw' hctx; have hc' := bcell hw'; have yw0 := fun o => hw'.cell (p := ⟨w.heap.size, o, none⟩) (by first | omega | (simp; done) | (simp; omega)); have yw1 := fun o => hw'.cell (p := ⟨w.heap.size + 1, o, none⟩) (by first | omega | (simp; done) | (simp; omega)); clear hctx; go_simp; first | exact rfl | exact ⟨rfl, rfl⟩); simp only [Act.put, List.setIfInBounds_toArray, List.set_cons_succ, List.set_cons_zero, Nat.reduceAdd])
      | (apply Der.skip; (rfl); simp only [Act.put, List.setIfInBounds_toArray, List.set_cons_succ, List.set_cons_zero, Nat.reduceAdd]))
    refine Der.nil (fun w2 hgw2 hctx => ?_)
    clear hctx
    have hb2 : Below _ _ w2 := hgw2
    clear hgw2
    have z2w0 : w.heap.size < w2.heap.size := (by have := hb2.size; (try simp at this); omega)
    have q2w0 := fun o => hb2.cell (p := ⟨w.heap.size, o, none⟩) (by first | omega | (simp; done) | (simp; omega))
    have r2w0 := fun o => hb2.frozen (p := ⟨w.heap.size, o, none⟩) (by first | omega | (simp; done) | (simp; omega))
    have z2w1 : w.heap.size + 1 < w2.heap.size := (by have := hb2.size; (try simp at this); omega)
    have q2w1 := fun o => hb2.cell (p := ⟨w.heap.size + 1, o, none⟩) (by first | omega | (simp; done) | (simp; omega))
    have r2w1 := fun o => hb2.frozen (p := ⟨w.heap.size + 1, o, none⟩) (by first | omega | (simp; done) | (simp; omega))
    go_wp2
    refine bodyPost_ret (v := MV a (b ||| bitW n)) (by simp only [results, Try.results76]; go_simp; rw [bits_or_U]) rfl ⟨?_, ?_⟩
    · rw [H.out]; simp
    · ((have shb2 := hb2.size); (try simp at shb2); (repeat' (first | (with_reducible exact Below.refl _ _) | (with_reducible refine Below.setCell ?_ ?_ _) | (with_reducible refine Below.alloc ?_ ?_ _) | (with_reducible refine Below.drew ?_) | (with_reducible refine Below.trans ?_ (Below.mono hb2 ?_)) | go_size)))

set_option maxHeartbeats 400000 in
theorem r_Of (v : Value) (l : List Int) (w : World) (h : Ints w v l) (hall : ∀ x ∈ l, isSlot x) : Calls Try.prog 91 #[v] w fun e w' => e = .returned (MV (ofAll l).1 (ofAll l).2) ∧ Below w.heap.size w w' := by
  obtain ⟨a, cap, rfl, hl, hm, hcell⟩ := h.open
  have Hcell := Lib.hid hcell
  have Hall := Lib.hid hall
  clear hcell h hall
  go_enter Try.func91, Try.ntmps91
  go_wp2
  go_loopw [8] (fun i wr => ∃ k : Nat, k ≤ l.length ∧ i = .int .i64 k ∧ wr.cell? ⟨w.heap.size + 1, 0, none⟩ = some (.int .u64 (U (ofAll (l.take k)).1)) ∧ wr.cell? ⟨w.heap.size + 1, 1, none⟩ = some (.int .u64 (U (ofAll (l.take k)).2)) ∧
      wr.frozen? ⟨w.heap.size + 1, 0, none⟩ = false ∧ wr.frozen? ⟨w.heap.size + 1, 1, none⟩ = false ∧
      Below (w.heap.size + 1) (w.alloc (.cells #[.int .u64 0, .int .u64 0] 49)) wr ∧ w.heap.size + 1 < wr.heap.size) (fun i _ => l.length - (intOf i).toNat)
  case atStart => exact ⟨0, Nat.zero_le _, rfl, by simp [ofAll, mZero, U_zero], by simp [ofAll, mZero, U_zero], by simp, by simp, (Below.refl _ _).alloc (by simp) _, by simp⟩
  case round =>
    obtain ⟨k, hk, rfl, hc0, hc1', hf0, hf1, hbr, hz⟩ := hrel
    have hB : Below w.heap.size w wr := by ((have shbr := hbr.size); (try simp at shbr); (repeat' (first | (with_reducible exact Below.refl _ _) | (with_reducible refine Below.setCell ?_ ?_ _) | (with_reducible refine Below.alloc ?_ ?_ _) | (with_reducible refine Below.drew ?_) | (with_reducible refine Below.trans ?_ (Below.mono hbr ?_)) | go_size)))
    have zrw0 : w.heap.size < wr.heap.size := (by have := hbr.size; (try simp at this); omega)
    have qrw0 := fun o => hbr.cell (p := ⟨w.heap.size, o, none⟩) (by first | omega | (simp; done) | (simp; omega))
    have rrw0 := fun o => hbr.frozen (p := ⟨w.heap.size, o, none⟩) (by first | omega | (simp; done) | (simp; omega))
    by_cases hlt2 : k < l.length
    · obtain ⟨b, off, rfl, hlt, g1⟩ := Hcell.out k hlt2
      have e1 := (hB.cell (p := ⟨b, off + k, none⟩) hlt).trans g1
      have hstep := Lib.hid (ofAll_snoc l k hlt2)
      clear g1
      generalize hX : ofAll (l.take k) = X at *
      have hs : 0 ≤ l[k] ∧ l[k] < 96 := Hall.out _ (List.getElem_mem hlt2)
      generalize hy : l[k] = y at *
      go_wp2_with (go_at_call 76; refine (r_with _ _ y (by omega) (by omega) _).mono ?_; rintro e w2 ⟨rfl, hb2⟩; have z2w0 : w.heap.size < w2.heap.size := (by have := hb2.size; (try simp at this); omega); have q2w0 := fun o => hb2.cell (p := ⟨w.heap.size, o, none⟩) (by first | omega | (simp; done) | (simp; omega)); have r2w0 := fun o => hb2.frozen (p := ⟨w.heap.size, o, none⟩) (by first | omega | (simp; done) | (simp; omega)); have z2w1 : w.heap.size + 1 < w2.heap.size := (by have := hb2.size; (try simp at this); omega); have q2w1 := fun o => hb2.cell (p := ⟨w.heap.size + 1, o, none⟩) (by first | omega | (simp; done) | (simp; omega)); have r2w1 := fun o => hb2.frozen (p := ⟨w.heap.size + 1, o, none⟩) (by first | omega | (simp; done) | (simp; omega)))
      go_roundw
      case rel =>
        refine ⟨k + 1, by omega, by go_num, ?_, ?_, ?_, ?_, ?_, ?_⟩
        · rw [hstep.out]; go_simp; rfl
        · rw [hstep.out]; go_simp; rfl
        · go_simp
        · go_simp
        · ((have shb2 := hb2.size); (try simp at shb2); (have shbr := hbr.size); (try simp at shbr); (repeat' (first | (with_reducible exact Below.refl _ _) | (with_reducible refine Below.setCell ?_ ?_ _) | (with_reducible refine Below.alloc ?_ ?_ _) | (with_reducible refine Below.drew ?_) | (with_reducible refine Below.trans ?_ (Below.mono hb2 ?_)) | (with_reducible refine Below.trans ?_ (Below.mono hbr ?_)) | go_size)))
        · simp; omega
      case measure => simp [intOf]; omega
    · have : k = l.length := by omega
      subst this
      rw [List.take_length] at hc0 hc1'
      generalize hX : ofAll l = X at *
      go_wp2
      subst hX
      refine bodyPost_ret (v := MV (ofAll l).1 (ofAll l).2) (by simp only [results, Try.results91]; go_simp) rfl ⟨rfl, ?_⟩
      ((have shB := hB.size); (try simp at shB); (repeat' (first | (with_reducible exact Below.refl _ _) | (with_reducible refine Below.setCell ?_ ?_ _) | (with_reducible refine Below.alloc ?_ ?_ _) | (with_reducible refine Below.drew ?_) | (with_reducible refine Below.trans ?_ (Below.mono hB ?_)) | go_size)))
end Go.Proofs.Ytlfmffjlmhpcdaa
