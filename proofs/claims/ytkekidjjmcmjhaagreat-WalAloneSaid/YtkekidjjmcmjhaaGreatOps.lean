/- The contracts of Sync, Read, Truncate, Remove. -/
import Derived.Test.YtkekidjjmcmjhaaGreatWith
namespace Go.Proofs.YtkekidjjmcmjhaaGreat
open Go.RowKit
set_option maxRecDepth 100000
attribute [local irreducible] Der

theorem BoxF.set1 {W : World} {A : List Nat} {q : Nat} {f : Fi} (h : BoxF W A q f) (n : Int) : BoxF (W.setCell ⟨q, 1, none⟩ (.int .i64 n)) A q { f with sy := n } := by
  obtain ⟨sl, h1, h2, h3⟩ := h.is
  refine ⟨⟨sl, by rw [cell_set]; simp [h1], ?_, fun ad n c e => ⟨by simpa using (h3 ad n c e).1, (h3 ad n c e).2⟩⟩, by rw [cell_set]; simp [h.sy], by rw [cell_set]; simp [h.kp], fun o => by rw [World.frozen?_setCell]; exact h.fr o, by simpa using h.lt⟩
  obtain ⟨a, cap, rfl, -⟩ := h2.open
  cases a with
  | none =>
    have e1 := h2.none_nil
    have e2 := h2.2.of_none
    show Byt _ _ f.bs
    rw [e1] at h2 ⊢
    rw [e2.2]
    exact Byt.nil _
  | some ad => exact h2.block (RowKit.Below.heap_setCell _ _ _ _ (h3 ad _ _ rfl).2.2) (by simp)
theorem BoxF.set2 {W : World} {A : List Nat} {q : Nat} {f : Fi} (h : BoxF W A q f) (c : Bool) : BoxF (W.setCell ⟨q, 2, none⟩ (.bool c)) A q { f with kp := c } := by
  obtain ⟨sl, h1, h2, h3⟩ := h.is
  refine ⟨⟨sl, by rw [cell_set]; simp [h1], ?_, fun ad n c e => ⟨by simpa using (h3 ad n c e).1, (h3 ad n c e).2⟩⟩, by rw [cell_set]; simp [h.sy], by rw [cell_set]; simp [h.kp], fun o => by rw [World.frozen?_setCell]; exact h.fr o, by simpa using h.lt⟩
  obtain ⟨a, cap, rfl, -⟩ := h2.open
  cases a with
  | none =>
    have e1 := h2.none_nil
    have e2 := h2.2.of_none
    show Byt _ _ f.bs
    rw [e1] at h2 ⊢
    rw [e2.2]
    exact Byt.nil _
  | some ad => exact h2.block (RowKit.Below.heap_setCell _ _ _ _ (h3 ad _ _ rfl).2.2) (by simp)
theorem BoxF.set0 {W : World} {A : List Nat} {q : Nat} {f : Fi} (h : BoxF W A q f) (sl : Value) (bs : List Int) (hb : Byt W sl bs) (ha : ∀ ad n c, sl = .slice (some ad) n c → ad.block < W.heap.size ∧ ad.block ∉ A ∧ ad.block ≠ q) : BoxF (W.setCell ⟨q, 0, none⟩ sl) A q { f with bs := bs } := by
  obtain ⟨sl0, h1, h2, h3⟩ := h.is
  refine ⟨⟨sl, by rw [cell_set]; simp [h1], ?_, fun ad n c e => ⟨by simpa using (ha ad n c e).1, (ha ad n c e).2⟩⟩, by rw [cell_set]; simp [h.sy], by rw [cell_set]; simp [h.kp], fun o => by rw [World.frozen?_setCell]; exact h.fr o, by simpa using h.lt⟩
  obtain ⟨a, cap, rfl, -⟩ := hb.open
  cases a with
  | none =>
    have e1 := hb.none_nil
    have e2 := hb.2.of_none
    show Byt _ _ bs
    rw [e1] at hb ⊢
    rw [e2.2]
    exact Byt.nil _
  | some ad => exact hb.block (RowKit.Below.heap_setCell _ _ _ _ (ha ad _ _ rfl).2.2) (by simp)

def ask0 (_ : Fi) : Int := 0
def syncF (f : Fi) : Fi := ⟨f.bs, f.bs.length, true⟩

theorem len_le {s : DS} (hok : s.Ok) {x : Int} {f : Fi} (hf : s.fl x = some f) : f.bs.length ≤ 65536 := by
  obtain ⟨h0, h4⟩ := hok.name x f hf
  have h1 : s.len x = f.bs.length := by unfold DS.len DS.at; rw [hf]; rfl
  have hu := hok.used
  have hr := hok.room2
  have hx : x = 0 ∨ x = 1 ∨ x = 2 ∨ x = 3 := by omega
  unfold DS.used at hu
  rcases hx with rfl | rfl | rfl | rfl <;> omega

section
variable {w : World} {A : List Nat} {b m : Nat} {s : DS}

theorem f_nothing {W : World} {v : Value} {f : Fi} (h : FileIs W A v f) : Calls Tryz.prog 40 #[v] W fun e W' => e = .returned (.int .i64 0) ∧ Below W.heap.size W W' := by
  obtain ⟨⟨⟨a, n, c⟩, y, k⟩, rfl, -⟩ := h.parts
  clear h
  go_enter Tryz.func40, Tryz.ntmps40
  go_wp2
  go_ret
  exact ⟨rfl, (Below.refl _ _).alloc (Nat.le_refl _) _⟩

theorem f_syncs {W : World} {q : Nat} {f : Fi} (h : BoxF W A q f) (hlen : f.bs.length ≤ 1000000) : Calls Tryz.prog 41 #[.pointer (some ⟨q, 0, none⟩)] W fun e W' =>
    e = .returned (.tuple #[]) ∧ BoxF W' A q (syncF f) ∧ Tw W.heap.size [q] W W' := by
  have h1 := (h.set1 f.bs.length).set2 true
  have t1 : Tw W.heap.size [q] W ((W.setCell ⟨q, 1, none⟩ (.int .i64 f.bs.length)).setCell ⟨q, 2, none⟩ (.bool true)) := ((Tw.refl _ _ _).setCell (b := q) (.inl (by simp)) 1 _).setCell (b := q) (.inl (by simp)) 2 _
  obtain ⟨sl, x0, xB, xap⟩ := h.is
  obtain ⟨a5, cap5, rfl, -⟩ := xB.open
  have x1 := h.sy
  have x2 := h.kp
  have f1 := h.fr 1
  have f2 := h.fr 2
  clear h xB xap
  go_enter Tryz.func41, Tryz.ntmps41
  go_wp2
  go_returns
  exact ⟨rfl, h1, t1⟩

theorem f_Sync (h : Disk w A b m s) (hok : s.Ok) (hop : s.ops < 1000000) (x : Int) (hx : W64 x) : Calls Tryz.prog 10 #[DP b, .int .i64 x] w fun e w' =>
    e = .returned (.int .i64 (withE s x ask0)) ∧ Disk w' A b m (withS s x ask0 syncF) ∧ Tw w.heap.size [b, m] w w' := by
  have H := f_with h hok hop x hx 40 41 #[] #[] (fun _ _ => rfl) (fun _ _ => rfl) [] (by simp) ask0 syncF (fun _ => True) (fun _ _ => True) trivial (fun _ _ _ _ => trivial) (fun _ _ _ _ _ => trivial)
    (fun W v f _ hF _ _ => f_nothing hF)
    (fun W q f _ hX _ _ hf _ => (f_syncs hX (by have := len_le hok hf; omega)).mono fun e W' ⟨h1, h2, h3⟩ => ⟨h1, h2, trivial, h3⟩)
  clear h
  go_enter Tryz.func10, Tryz.ntmps10
  go_wp2_with fail
  refine H.mono ?_
  rintro e w1 ⟨rfl, h1, h2, -⟩
  go_wp2
  go_ret
  exact ⟨rfl, h1, h2⟩

/-! ### Remove's part, Truncate's, Read's -/
theorem f_removes (q : Nat) (W : World) : Calls Tryz.prog 116 #[.pointer (some ⟨q, 0, none⟩)] W fun e W' => e = .returned (.tuple #[]) ∧ W' = W := by
  go_enter Tryz.func116, Tryz.ntmps116
  go_wp2
  go_returns
  exact ⟨rfl, rfl⟩

theorem own_slice {w : World} {B e size n : Nat} {v : Value} {xs : List Value} (h : w.ownsRow B e size v n xs) : ∃ p k c, v = .slice p k c ∧ ∀ ad, p = some ad → B ≤ ad.block ∧ ad.block < w.heap.size := by
  rcases h.2 with ⟨rfl, _⟩ | ⟨g, cap, cur, rfl, hB, hg, _⟩
  · exact ⟨none, 0, 0, rfl, fun _ h => by cases h⟩
  · exact ⟨_, _, _, rfl, fun ad h => by cases h; exact ⟨hB, (Array.getElem?_eq_some_iff.1 hg).1⟩⟩

/-- A box that holds bytes. -/
structure BoxB (W : World) (r : Nat) (l : List Int) : Prop where
  is : ∃ p k c, W.cell? ⟨r, 0, none⟩ = some (.slice p k c) ∧ Byt W (.slice p k c) l ∧ ∀ ad, p = some ad → r < ad.block ∧ ad.block < W.heap.size
  fr : W.frozen? ⟨r, 0, none⟩ = false

theorem f_reads {W : World} {q r : Nat} {f : Fi} (h : BoxF W A q f) (hr : BoxB W r []) (hrA : r ∈ A) (hrq : r < q) (hlen : f.bs.length ≤ 1000000) :
    Calls Tryz.prog 63 #[.pointer (some ⟨q, 0, none⟩), .pointer (some ⟨r, 0, none⟩)] W fun e W' =>
      e = .returned (.tuple #[]) ∧ BoxF W' A q f ∧ BoxB W' r f.bs ∧ Tw W.heap.size (q :: [r]) W W' := by
  have HX := Lib.hid h
  obtain ⟨sl, x0, xB, xap⟩ := h.is
  obtain ⟨a5, cap5, rfl, -⟩ := xB.open
  obtain ⟨p, k, c, r0, -⟩ := hr.is
  have rf := hr.fr
  have hql := h.lt
  have XB := Lib.hid xB
  clear h xB xap hr
  go_enter Tryz.func63, Tryz.ntmps63
  go_wp2_with fail
  refine (f_bytesClone _ f.bs W XB.out hlen).mono ?_
  rintro e w2 ⟨⟨v', rfl, own⟩, hb2⟩
  obtain ⟨p2, k2, c2, rfl, hp2⟩ := own_slice own
  have hby := Byt.of_owns own rfl
  have s0 : w2.cell? ⟨r, 0, none⟩ = some (.slice p k c) := (hb2.cell (p := ⟨r, 0, none⟩) (by dsimp; omega)).trans r0
  have s1 : w2.frozen? ⟨r, 0, none⟩ = false := (hb2.frozen (p := ⟨r, 0, none⟩) (by dsimp; omega)).trans rf
  have HB := Lib.hid hby
  clear own hby
  go_wp2
  go_returns
  have t2 : Tw W.heap.size (q :: [r]) W (w2.setCell ⟨r, 0, none⟩ (.slice p2 k2 c2)) := (Tw.of_below hb2).setCell (b := r) (.inl (by simp)) 0 _
  have hs2 := hb2.size
  refine ⟨rfl, ?_, ⟨⟨p2, k2, c2, by rw [cell_set]; simp [s0], ?_, fun ad e => by have := hp2 ad e; simp; omega⟩, by rw [World.frozen?_setCell]; exact s1⟩, t2⟩
  · refine HX.out.turn (by simp; omega) (fun k hk hkA hkq => t2.block k hk (fun hc => ?_)) ?_
    · simp only [List.mem_cons, List.not_mem_nil, or_false] at hc
      rcases hc with rfl | rfl
      · exact hkq rfl
      · exact hkA hrA
    · rw [RowKit.Below.heap_setCell _ _ _ _ (by dsimp; omega)]
      exact hb2.block _ hql
  · cases p2 with
    | none =>
      have e1 := HB.out.none_nil
      have e2 := HB.out.2.of_none
      rw [e2.1, e2.2, e1]
      exact Byt.nil _
    | some ad => exact HB.out.block (RowKit.Below.heap_setCell _ _ _ _ (by have := hp2 ad rfl; dsimp; omega)) (by simp)

def askT (n : Int) (f : Fi) : Int := if n < 0 ∨ (f.bs.length : Int) < n then 2 else 0
def truncF (n : Int) (f : Fi) : Fi := ⟨f.bs.take n.toNat, min f.sy n, f.kp⟩

theorem f_fits {W : World} {v : Value} {f : Fi} {r : Nat} {n : Int} (h : FileIs W A v f) (hr : W.cell? ⟨r, 0, none⟩ = some (.int .i64 n)) (hrl : r < W.heap.size) : Calls Tryz.prog 84 #[v, .pointer (some ⟨r, 0, none⟩)] W fun e W' =>
    e = .returned (.int .i64 (askT n f)) ∧ Below W.heap.size W W' := by
  obtain ⟨⟨⟨a, k, c⟩, y, kp⟩, rfl, hk, -⟩ := h.parts
  dsimp only at hk
  subst hk
  clear h
  go_enter Tryz.func84, Tryz.ntmps84
  by_cases h0 : n < 0
  · have he : askT n f = 2 := by unfold askT; rw [if_pos (.inl h0)]
    rw [he]
    clear he
    go_wp2
    go_ret
    exact ⟨rfl, (Below.refl _ _).alloc (Nat.le_refl _) _⟩
  · by_cases h1 : (f.bs.length : Int) < n
    · have he : askT n f = 2 := by unfold askT; rw [if_pos (.inr h1)]
      rw [he]
      clear he
      go_wp2
      go_ret
      exact ⟨rfl, (Below.refl _ _).alloc (Nat.le_refl _) _⟩
    · have he : askT n f = 0 := by unfold askT; rw [if_neg (by omega)]
      rw [he]
      clear he
      go_wp2
      go_ret
      exact ⟨rfl, (Below.refl _ _).alloc (Nat.le_refl _) _⟩
end
end Go.Proofs.YtkekidjjmcmjhaaGreat
