/- 'wakes' of the statements on masks; what variadic calls hand on. -/
import Derived.Test.YtbanmngngfanhaaDoorMaskD
namespace Go.Proofs.YtbanmngngfanhaaDoor
open Go.RowKit

theorem Sl.of_cells {w : World} {b len cap : Nat} {cs : List Value} (hb : b < w.heap.size) (h1 : len ≤ cap) (h2 : cap ≤ 9223372036854775807) (hc : ∀ i (h : i < cs.length), w.cell? ⟨b, i, none⟩ = some cs[i]) :
    Sl w (.slice (some ⟨b, 0, none⟩) len cap) len cs :=
  ⟨⟨_, _, rfl, h1, h2, fun _ => ⟨b, 0, rfl, hb, fun i hi => by rw [Nat.zero_add]; exact hc i hi⟩⟩⟩
theorem Sl.fresh (w : World) (e : Nat) (len : Nat) (cs : List Value) {b : Nat} (hb : b = w.heap.size) (h : len ≤ 9223372036854775807) : Sl (w.alloc (.cells cs.toArray e)) (.slice (some ⟨b, 0, none⟩) len len) len cs := by
  subst hb
  refine Sl.of_cells (by simp) (Nat.le_refl _) h fun i hi => ?_
  have : (w.alloc (.cells cs.toArray e)).heap[w.heap.size]? = some (.cells cs.toArray e) := by
    show (w.heap.push _)[w.heap.size]? = _; simp
  unfold World.cell?
  rw [this]
  simp [hi]
theorem Sl.nilS (w : World) : Sl w (.slice none 0 0) 0 [] := ⟨⟨_, _, rfl, Nat.le_refl _, by omega, fun h => absurd rfl h⟩⟩

theorem wk_of : ofF [0, 64, 3] = ((9#64, 1#64), 0) := by decide
theorem wk_of2 : ofF [96] = ((0#64, 0#64), 2) := by decide
theorem wk_cnt : cntF 9#64 1#64 = 3 := by decide +kernel
theorem wk_cnt2 : cntF (ones &&& 18446744073709551615#64) (low32 &&& 18446744073709551615#64) = 96 := by decide +kernel
theorem f_wakes (w : World) : Calls Tryd.prog 5 #[] w fun e w' => e = .returned (.bool true) ∧ Below w.heap.size w w' := by
  go_enter Tryd.func5, Tryd.ntmps5
  go_wp2_with fail
  refine (f_Of _ [0, 64, 3] _ (Sl.fresh w 3 3 _ rfl (by omega))).mono ?_
  rintro e w1 ⟨he, hb1⟩
  unfold OfPost at he
  rw [wk_of] at he
  subst he
  go_wp2_with fail
  refine (f_Of _ [96] _ (Sl.fresh _ 3 1 _ (by simp) (by omega))).mono ?_
  rintro e w2 ⟨he, hb2⟩
  unfold OfPost at he
  rw [wk_of2] at he
  subst he
  have z2w10 : w1.heap.size < w2.heap.size := (by have := hb2.size; (try simp at this); omega)
  have q2w10 := fun o => hb2.cell (p := ⟨w1.heap.size, o, none⟩) (by first | omega | (simp; done) | (simp; omega))
  have r2w10 := fun o => hb2.frozen (p := ⟨w1.heap.size, o, none⟩) (by first | omega | (simp; done) | (simp; omega))
  have u1 : (U 9#64 == 9) = true := by decide
  have u2 : (U 1#64 == 1) = true := by decide
  go_wp2_with fail
  refine (f_Count _ _ _).mono ?_
  rintro e w3 ⟨rfl, hb3⟩
  rw [wk_cnt]
  go_wp2_with fail
  refine (f_Not 0#64 0#64 _).mono ?_
  rintro e w4 ⟨rfl, hb4⟩
  go_wp2_with fail
  refine (f_Count _ _ _).mono ?_
  rintro e w5 ⟨rfl, hb5⟩
  rw [wk_cnt2]
  go_wp2
  go_ret
  refine ⟨rfl, ?_⟩
  ((have shb5 := hb5.size); (try simp at shb5); (have shb4 := hb4.size); (try simp at shb4); (have shb3 := hb3.size); (try simp at shb3); (have shb2 := hb2.size); (try simp at shb2); (have shb1 := hb1.size); (try simp at shb1); (repeat' (first | (with_reducible exact Below.refl _ _) | (with_reducible refine Below.setCell ?_ ?_ _) | (with_reducible refine Below.alloc ?_ ?_ _) | (with_reducible refine Below.drew ?_) | (with_reducible refine Below.trans ?_ (Below.mono hb5 ?_)) | (with_reducible refine Below.trans ?_ (Below.mono hb4 ?_)) | (with_reducible refine Below.trans ?_ (Below.mono hb3 ?_)) | (with_reducible refine Below.trans ?_ (Below.mono hb2 ?_)) | (with_reducible refine Below.trans ?_ (Below.mono hb1 ?_)) | go_size)))
end Go.Proofs.YtbanmngngfanhaaDoor
