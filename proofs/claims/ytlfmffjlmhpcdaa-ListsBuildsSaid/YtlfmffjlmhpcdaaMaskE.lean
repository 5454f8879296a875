/- 'wakes' of the statements on masks; what variadic calls hand on. -/
import Derived.Test.YtlfmffjlmhpcdaaMaskD
namespace Go.Proofs.Ytlfmffjlmhpcdaa
open Go.RowKit

theorem Sl.of_cells {w : World} {b len cap : Nat} {cs : List Value} (hb : b < w.heap.size) (h1 : len ≤ cap) (h2 : cap ≤ 9223372036854775807) (hc : ∀ i (h : i < cs.length), w.cell? ⟨b, i, none⟩ = some cs[i]) :
    Sl w (.slice (some ⟨b, 0, none⟩) len cap) len cs :=
  ⟨⟨_, _, rfl, h1, h2, fun _ => ⟨b, 0, rfl, hb, fun i hi => by rw [Nat.zero_add]; exact hc i hi⟩⟩⟩
theorem Sl.fresh (w : World) (e : Nat) (len : Nat) (cs : List Value) {b : Nat} (hb : b = w.heap.size) (h : len ≤ 9223372036854775807) : Sl (w.alloc (.cells cs.toArray e)) (.slice (some ⟨b, 0, none⟩) len len) len cs := by
  subst hb
  refine Sl.of_cells (by simp) (Nat.le_refl _) h fun i hi => ?_
  have : (w.alloc (.cells cs.toArray e)).heap[w.heap.size]? = some (.cells cs.toArray e) := by
    show (w.heap.push _)[w.heap.size]? = _; simp
  unfold World.cell?
  rw [this]
  simp [hi]
theorem Sl.nilS (w : World) : Sl w (.slice none 0 0) 0 [] := ⟨⟨_, _, rfl, Nat.le_refl _, by omega, fun h => absurd rfl h⟩⟩

theorem wk_of : ofF [0, 64, 3] = ((9#64, 1#64), 0) := by decide
theorem wk_of2 : ofF [96] = ((0#64, 0#64), 2) := by decide
theorem wk_cnt : cntF 9#64 1#64 = 3 := by decide +kernel
theorem wk_cnt2 : cntF (ones &&& 18446744073709551615#64) (low32 &&& 18446744073709551615#64) = 96 := by decide +kernel
end Go.Proofs.Ytlfmffjlmhpcdaa
