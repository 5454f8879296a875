/- The walk of MaskRanges: what it asks comes out true. -/
import Derived.Test.YtbanmngngfanhaaRow
namespace Go.Proofs.Ytbanmngngfanhaa
open Go.RowKit

def cellsP (l : List (Int × Int)) : List Value := l.flatMap fun p => [.int .i64 p.1, .int .i64 p.2]
theorem cellsP_length (l : List (Int × Int)) : (cellsP l).length = 2 * l.length := by
  induction l with
  | nil => rfl
  | cons x l ih =>
    have e : cellsP (x :: l) = Value.int .i64 x.1 :: Value.int .i64 x.2 :: cellsP l := by simp [cellsP]
    rw [e]; simp [ih]; omega
theorem cellsP_get (l : List (Int × Int)) (i : Nat) (h : i < l.length) : (cellsP l)[2 * i]? = some (.int .i64 l[i].1) ∧ (cellsP l)[2 * i + 1]? = some (.int .i64 l[i].2) := by
  induction l generalizing i with
  | nil => simp at h
  | cons x l ih =>
    cases i with
    | zero => simp [cellsP]
    | succ i =>
      have := ih i (by simpa using h)
      have e : cellsP (x :: l) = Value.int .i64 x.1 :: Value.int .i64 x.2 :: cellsP l := by simp [cellsP]
      rw [e, show 2 * (i + 1) = 2 * i + 1 + 1 by omega]
      simpa using this
def Pairs (w : World) (v : Value) (l : List (Int × Int)) : Prop := Sl w v l.length (cellsP l)
theorem Pairs.open {w : World} {v : Value} {l : List (Int × Int)} (h : Pairs w v l) : ∃ a cap, v = .slice a l.length cap ∧ l.length ≤ cap ∧ cap ≤ 9223372036854775807 ∧
    ∀ i (hi : i < l.length), ∃ b off, a = some ⟨b, off, none⟩ ∧ b < w.heap.size ∧ w.cell? ⟨b, off + i * 2, none⟩ = some (.int .i64 l[i].1) ∧ w.cell? ⟨b, off + i * 2 + 1, none⟩ = some (.int .i64 l[i].2) := by
  obtain ⟨a, cap, hv, hl, hm, hc⟩ := h.form
  have hlen := cellsP_length l
  refine ⟨a, cap, hv, hl, hm, fun i hi => ?_⟩
  obtain ⟨b, off, ha, hlt, hcell⟩ := hc (by intro e; rw [e] at hlen; simp at hlen; omega)
  obtain ⟨g1, g2⟩ := cellsP_get l i hi
  have c1 := hcell (2 * i) (by omega)
  have c2 := hcell (2 * i + 1) (by omega)
  rw [List.getElem?_eq_getElem (by omega)] at g1 g2
  refine ⟨b, off, ha, hlt, ?_, ?_⟩
  · rw [show off + i * 2 = off + 2 * i by omega]; exact c1.trans g1
  · rw [show off + i * 2 + 1 = off + (2 * i + 1) by omega]; exact c2.trans g2

set_option maxHeartbeats 1000000 in
theorem f_MaskRanges (v : Value) (l : List (Int × Int)) (w : World) (h : Pairs w v l) : Calls Try.prog 3 #[v] w fun e w' => e = .returned (.bool true) ∧ Below w.heap.size w w' := by
  obtain ⟨a, cap, rfl, hl, hm, hcell⟩ := h.open
  have Hcell := Lib.hid hcell
  clear hcell h
  obtain ⟨i0, hi, hz0, hz1, hz2⟩ := info_parts info_int
  go_enter Try.func3, Try.ntmps3
  go_wp2_with fail
  refine (f_wakes _).mono ?_
  rintro e w1 ⟨rfl, hb1⟩
  go_wp2
  go_loopw [13] (fun i wr => ∃ k : Nat, k ≤ l.length ∧ i = .int .i64 k ∧ Below w.heap.size w wr) (fun i _ => l.length - (intOf i).toNat)
  case atStart => exact ⟨0, Nat.zero_le _, rfl, hb1⟩
  case round =>
    obtain ⟨wo, hwo⟩ : ∃ wo, wo = wr := ⟨_, rfl⟩
    subst hwo
    obtain ⟨k, hk, rfl, hB⟩ := hrel
    clear hb1
    by_cases hlt2 : k < l.length
    · obtain ⟨b, off, rfl, hlt, g1, g2⟩ := Hcell.out k hlt2
      have e1 := (hB.cell (p := ⟨b, off + k * 2, none⟩) hlt).trans g1
      have e2 := (hB.cell (p := ⟨b, off + k * 2 + 1, none⟩) hlt).trans g2
      clear g1 g2
      generalize l[k] = X at *
      obtain ⟨x, y⟩ := X
      by_cases h20 : k = 20
      · subst h20
        go_wp2
        go_ret
        refine ⟨rfl, ?_⟩
        ((have shB := hB.size); (try simp at shB); (repeat' (first | (with_reducible exact Below.refl _ _) | (with_reducible refine Below.setCell ?_ ?_ _) | (with_reducible refine Below.alloc ?_ ?_ _) | (with_reducible refine Below.drew ?_) | (with_reducible refine Below.trans ?_ (Below.mono hB ?_)) | go_size)))
      · by_cases hbad : x < 0 ∨ 96 < y ∨ y < x
        · go_wp2_with fail
          refine (f_Range_bad x y hbad _).mono ?_
          rintro e w2 ⟨rfl, hb2⟩
          have z2wo0 : wo.heap.size < w2.heap.size := (by have := hb2.size; (try simp at this); omega)
          have q2wo0 := fun o => hb2.cell (p := ⟨wo.heap.size, o, none⟩) (by first | omega | (simp; done) | (simp; omega))
          have r2wo0 := fun o => hb2.frozen (p := ⟨wo.heap.size, o, none⟩) (by first | omega | (simp; done) | (simp; omega))
          have hB2 : Below w.heap.size w w2 := by ((have shb2 := hb2.size); (try simp at shb2); (have shB := hB.size); (try simp at shB); (repeat' (first | (with_reducible exact Below.refl _ _) | (with_reducible refine Below.setCell ?_ ?_ _) | (with_reducible refine Below.alloc ?_ ?_ _) | (with_reducible refine Below.drew ?_) | (with_reducible refine Below.trans ?_ (Below.mono hb2 ?_)) | (with_reducible refine Below.trans ?_ (Below.mono hB ?_)) | go_size)))
          by_cases hx : x < 0
          · go_wp2
            go_roundw
            case rel => exact ⟨k + 1, by omega, by go_num, by ((have shB2 := hB2.size); (try simp at shB2); (repeat' (first | (with_reducible exact Below.refl _ _) | (with_reducible refine Below.setCell ?_ ?_ _) | (with_reducible refine Below.alloc ?_ ?_ _) | (with_reducible refine Below.drew ?_) | (with_reducible refine Below.trans ?_ (Below.mono hB2 ?_)) | go_size)))⟩
            case measure => simp [intOf]; omega
          · by_cases hy : 96 < y
            · go_wp2
              go_roundw
              case rel => exact ⟨k + 1, by omega, by go_num, by ((have shB2 := hB2.size); (try simp at shB2); (repeat' (first | (with_reducible exact Below.refl _ _) | (with_reducible refine Below.setCell ?_ ?_ _) | (with_reducible refine Below.alloc ?_ ?_ _) | (with_reducible refine Below.drew ?_) | (with_reducible refine Below.trans ?_ (Below.mono hB2 ?_)) | go_size)))⟩
              case measure => simp [intOf]; omega
            · have hz : y < x := by omega
              go_wp2
              go_roundw
              case rel => exact ⟨k + 1, by omega, by go_num, by ((have shB2 := hB2.size); (try simp at shB2); (repeat' (first | (with_reducible exact Below.refl _ _) | (with_reducible refine Below.setCell ?_ ?_ _) | (with_reducible refine Below.alloc ?_ ?_ _) | (with_reducible refine Below.drew ?_) | (with_reducible refine Below.trans ?_ (Below.mono hB2 ?_)) | go_size)))⟩
              case measure => simp [intOf]; omega
        · have t1 : 0 ≤ x := by omega
          have t2 : y ≤ 96 := by omega
          have t3 : x ≤ y := by omega
          go_wp2_with fail
          refine (f_Range x y t1 t3 t2 _).mono ?_
          rintro e w2 ⟨rfl, hb2⟩
          have z2wo0 : wo.heap.size < w2.heap.size := (by have := hb2.size; (try simp at this); omega)
          have q2wo0 := fun o => hb2.cell (p := ⟨wo.heap.size, o, none⟩) (by first | omega | (simp; done) | (simp; omega))
          have r2wo0 := fun o => hb2.frozen (p := ⟨wo.heap.size, o, none⟩) (by first | omega | (simp; done) | (simp; omega))
          clear hbad
          have hB2 : Below w.heap.size w w2 := by ((have shb2 := hb2.size); (try simp at shb2); (have shB := hB.size); (try simp at shB); (repeat' (first | (with_reducible exact Below.refl _ _) | (with_reducible refine Below.setCell ?_ ?_ _) | (with_reducible refine Below.alloc ?_ ?_ _) | (with_reducible refine Below.drew ?_) | (with_reducible refine Below.trans ?_ (Below.mono hb2 ?_)) | (with_reducible refine Below.trans ?_ (Below.mono hB ?_)) | go_size)))
          go_wp2
          go_loopw [7, 8] (fun v i wi => ∃ j : Nat, x + j ≤ y ∧ i = .int .i64 (x + j) ∧ wi.ownsRow (w2.heap.size + 1) 3 1 v j ((seqL x j).map (Value.int .i64)) ∧
              Below (w2.heap.size + 1) (w2.alloc (.cells #[.int .u64 (U (rangeM x y).1), .int .u64 (U (rangeM x y).2)] 27)) wi ∧ w2.heap.size + 1 ≤ wi.heap.size) (fun _ i _ => (y - intOf i).toNat)
          case atStart => exact ⟨0, by omega, by simp, World.ownsRow_nil _ _ _ _, Below.refl _ _, by simp⟩
          case round =>
            obtain ⟨j, hj, rfl, hown, hbi, hsz⟩ := hrel
            have ziwo0 : wo.heap.size < wr.heap.size := (by have := hbi.size; (try simp at this); omega)
            have qiwo0 := fun o => hbi.cell (p := ⟨wo.heap.size, o, none⟩) (by first | omega | (simp; done) | (simp; omega))
            have riwo0 := fun o => hbi.frozen (p := ⟨wo.heap.size, o, none⟩) (by first | omega | (simp; done) | (simp; omega))
            have ziw20 : w2.heap.size < wr.heap.size := (by have := hbi.size; (try simp at this); omega)
            have qiw20 := fun o => hbi.cell (p := ⟨w2.heap.size, o, none⟩) (by first | omega | (simp; done) | (simp; omega))
            have riw20 := fun o => hbi.frozen (p := ⟨w2.heap.size, o, none⟩) (by first | omega | (simp; done) | (simp; omega))
            have hBi : Below w.heap.size w wr := by ((have shbi := hbi.size); (try simp at shbi); (have shB2 := hB2.size); (try simp at shB2); (repeat' (first | (with_reducible exact Below.refl _ _) | (with_reducible refine Below.setCell ?_ ?_ _) | (with_reducible refine Below.alloc ?_ ?_ _) | (with_reducible refine Below.drew ?_) | (with_reducible refine Below.trans ?_ (Below.mono hbi ?_)) | (with_reducible refine Below.trans ?_ (Below.mono hB2 ?_)) | go_size)))
            by_cases hlt3 : x + j < y
            · go_wp2_with (at_builtin; refine wpList_append_own _ rfl _ _ 31 rfl (w2.heap.size + 1) 3 i0 (.int .i64 0) 1 8 Try.underlying31 hi hz0 hz1 hz2 rfl (by decide) _ _ _ rfl (hown.alloc _) ⟨wr.heap.size, 0, none⟩ 1 1 [.int .i64 (x + j)] rfl rfl (by intro a u ha; match a, ha with | 0, ha => simp at ha; subst ha; simp [Addr.add]) (by intro u hu; simp at hu; subst hu; rfl) (by unfold maxLen; omega) (by omega) (by simp; omega) ?_; intro v' w4 hown' hgrow _)
              obtain ⟨G1, G2⟩ := gather hbi hsz hown hgrow
              clear hown hgrow
              go_wp2
              go_roundw
              case rel => exact ⟨j + 1, by omega, by go_num, by rw [seqL_succ, List.map_append]; exact hown', G1, G2⟩
              case measure => simp [intOf]; omega
            · have e3 : x + j = y := by omega
              have HI := Lib.hid (Ints.of_owns hown)
              have HS := Lib.hid (seqL_slot x j t1 (by omega))
              have HR := Lib.hid (range_law x j t1 (by omega))
              rw [e3] at HR
              clear hown
              go_wp2
              refine wp_grow [(5, .val (MV (rangeM x y).1 (rangeM x y).2))] 8 (by kernel_rfl) (by kernel_rfl) (by rfl) (by rfl) ?_
              simp only [List.take_succ_cons, List.take_zero, List.drop_succ_cons, List.drop_zero]
              repeat (first
                | (apply Der.quiet; (rfl); (rfl); (intro w' hw' hctx; have hc' := bcell hw'; have ywo0 := fun o => hw'.cell (p := ⟨wo.heap.size, o, none⟩) (by first | omega | (simp; done) | (simp; omega)); have yw20 := fun o => hw'.cell (p := ⟨w2.heap.size, o, none⟩) (by first | omega | (simp; done) | (simp; omega)); clear hctx; go_simp; first | exact rfl | exact ⟨rfl, rfl⟩); simp only [Act.put, List.setIfInBounds_toArray, List.set_cons_succ, List.set_cons_zero, Nat.reduceAdd])
                | (apply Der.skip; (rfl); simp only [Act.put, List.setIfInBounds_toArray, List.set_cons_succ, List.set_cons_zero, Nat.reduceAdd]))
              apply Der.val
              · rfl
              · rfl
              · (intro w' hw' hctx; go_simp; refine (r_Of _ (seqL x j) _ ((HI.out.grown (Below.refl _ _).drew).grown hw') HS.out).mono ?_; rintro e w2 ⟨rfl, hb⟩; exact ⟨_, rfl, by rw [HR.out], hb⟩)
              simp only [Act.put, List.setIfInBounds_toArray, List.set_cons_succ, List.set_cons_zero, Nat.reduceAdd]
              repeat (first
                | (apply Der.quiet; (rfl); (rfl); (intro w' hw' hctx; have hc' := bcell hw'; have ywo0 := fun o => hw'.cell (p := ⟨wo.heap.size, o, none⟩) (by first | omega | (simp; done) | (simp; omega)); have yw20 := fun o => hw'.cell (p := ⟨w2.heap.size, o, none⟩) (by first | omega | (simp; done) | (simp; omega)); clear hctx; go_simp; first | exact rfl | exact ⟨rfl, rfl⟩); simp only [Act.put, List.setIfInBounds_toArray, List.set_cons_succ, List.set_cons_zero, Nat.reduceAdd])
                | (apply Der.skip; (rfl); simp only [Act.put, List.setIfInBounds_toArray, List.set_cons_succ, List.set_cons_zero, Nat.reduceAdd]))
              refine Der.nil (fun w5 hgw5 hctx => ?_)
              clear hctx
              have hb5 : Below _ _ w5 := hgw5
              clear hgw5
              go_wp2
              go_roundw
              case rel => exact ⟨k + 1, by omega, by go_num, by ((have shb5 := hb5.size); (try simp at shb5); (have shBi := hBi.size); (try simp at shBi); (repeat' (first | (with_reducible exact Below.refl _ _) | (with_reducible refine Below.setCell ?_ ?_ _) | (with_reducible refine Below.alloc ?_ ?_ _) | (with_reducible refine Below.drew ?_) | (with_reducible refine Below.trans ?_ (Below.mono hb5 ?_)) | (with_reducible refine Below.trans ?_ (Below.mono hBi ?_)) | go_size)))⟩
              case measure => simp [intOf]; omega
    · have : k = l.length := by omega
      subst this
      go_wp2
      go_ret
      exact ⟨rfl, hB⟩
end Go.Proofs.Ytbanmngngfanhaa
