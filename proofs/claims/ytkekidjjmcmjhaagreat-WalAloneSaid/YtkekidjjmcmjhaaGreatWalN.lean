/- The contracts of field.Read and of the first Num(4) of a scan. -/
import Derived.Test.YtkekidjjmcmjhaaGreatWalF
import Derived.Test.YtkekidjjmcmjhaaGreatRegion
namespace Go.Proofs.YtkekidjjmcmjhaaGreat
open Go.RowKit
set_option maxRecDepth 100000
attribute [local irreducible] Der

theorem or_byte (x c : Int) (h0 : 0 ≤ x) (h1 : x < 16777216) (c0 : 0 ≤ c) (c1 : c < 256) : bits .or .u64 (x * 256) c = x * 256 + c := by
  obtain ⟨a, rfl⟩ := Int.eq_ofNat_of_zero_le h0
  obtain ⟨b, rfl⟩ := Int.eq_ofNat_of_zero_le c0
  have e : ((a : Int) * 256) = ((a * 256 : Nat) : Int) := by push_cast; rfl
  rw [e, u64_or_nat _ _ (by omega) (by omega)]
  have := Nat.shiftLeft_add_eq_or_of_lt (show b < 2 ^ 8 by omega) a
  rw [Nat.shiftLeft_eq, show (2 : Nat) ^ 8 = 256 from rfl] at this
  rw [← this]; push_cast; rfl
theorem numB_snoc (l : List Int) (c : Int) : numB (l ++ [c]) = numB l * 256 + c := by unfold numB; rw [List.foldl_append]; rfl
theorem numB_lt : ∀ (k : Nat) (l : List Int), l.length = k → Byte l → 0 ≤ numB l ∧ numB l < (256 : Int) ^ k
  | 0, l, h, _ => by rw [List.eq_nil_of_length_eq_zero h]; simp [numB]
  | k + 1, l, h, hb => by
    have hne : l ≠ [] := fun e => by rw [e] at h; simp at h
    have e := List.dropLast_concat_getLast hne
    have h1 := numB_lt k l.dropLast (by rw [List.length_dropLast]; omega) (fun c hc => hb c (List.dropLast_subset _ hc))
    have h2 := hb _ (List.getLast_mem hne)
    rw [← e, numB_snoc, Int.pow_succ]
    omega

set_option maxHeartbeats 2000000 in
theorem f_Num1 (b off r : Nat) (l : List Int) (w : World) (hl : l.length = 4) (hb : Byte l) (hc : ∀ i (hi : i < l.length), w.cell? ⟨b, off + i, none⟩ = some (.int .u8 l[i])) (hr : w.cell? ⟨r, 0, none⟩ = some (.int .u64 0)) (hf : w.frozen? ⟨r, 0, none⟩ = false) (hbr : b ≠ r) (hrl : r < w.heap.size) :
    Calls Tryz.prog 113 #[.slice (some ⟨b, off, none⟩) 4 4, .pointer (some ⟨r, 0, none⟩)] w fun e w' => e = .returned (.tuple #[]) ∧ w'.cell? ⟨r, 0, none⟩ = some (.int .u64 (numB l)) ∧ w'.frozen? ⟨r, 0, none⟩ = false ∧ Tw w.heap.size [r] w w' := by
  have HC := Lib.hid hc
  have HL := Lib.hid hl
  clear hc hl
  go_enter Tryz.func113, Tryz.ntmps113
  go_wp2
  go_loopw [7] (fun i wr => ∃ k : Nat, k ≤ 4 ∧ i = .int .i64 k ∧ wr.cell? ⟨r, 0, none⟩ = some (.int .u64 (numB (l.take k))) ∧ wr.frozen? ⟨r, 0, none⟩ = false ∧ Tw w.heap.size [r] w wr) (fun i _ => 4 - (intOf i).toNat)
  case atStart => exact ⟨0, Nat.zero_le _, rfl, hr, hf, Tw.refl _ _ _⟩
  case round =>
    obtain ⟨k, hk, rfl, hx, hfx, ht⟩ := hrel
    have hlen := HL.out
    by_cases hlt : k < 4
    · have hkl : k < l.length := by omega
      have hck : wr.cell? ⟨b, off + k, none⟩ = some (.int .u8 l[k]) := (ht.cell (p := ⟨b, off + k, none⟩) (World.block_lt_of_cell? w _ (HC.out k hkl)) (by simpa using hbr)).trans (HC.out k hkl)
      have hbk := hb _ (List.getElem_mem (h := hkl))
      have hnb := numB_lt k (l.take k) (by rw [List.length_take]; omega) (hb.take k)
      have hp : (256 : Int) ^ k ≤ 16777216 := by
        rcases (show k = 0 ∨ k = 1 ∨ k = 2 ∨ k = 3 by omega) with rfl | rfl | rfl | rfl <;> decide
      have HS := Lib.hid (show numB (l.take (k + 1)) = numB (l.take k) * 256 + l[k] by rw [List.take_succ_eq_append_getElem hkl, numB_snoc])
      have hor := or_byte (numB (l.take k)) l[k] hnb.1 (by omega) hbk.1 hbk.2
      have HT := Lib.hid ht
      obtain ⟨c, hcc⟩ : ∃ c, l[k] = c := ⟨_, rfl⟩
      obtain ⟨x, hxx⟩ : ∃ x, numB (l.take k) = x := ⟨_, rfl⟩
      rw [hcc] at hck hbk HS hor
      rw [hxx] at hx hnb HS hor
      have hx2 : x < 16777216 := by omega
      have hx0 := hnb.1
      have hrw : r < wr.heap.size := Nat.lt_of_lt_of_le hrl ht.size
      clear hcc hxx hlen hp hnb ht
      go_wp2_with fail
      exact ⟨⟨k + 1, by omega, by go_num, by rw [HS.out]; go_simp, by go_simp, HT.out.setCell (.inl (by simp)) _ _⟩, by simp [intOf]; omega⟩
    · obtain rfl : k = 4 := by omega
      have e4 : l.take 4 = l := List.take_of_length_le (by omega)
      rw [e4] at hx
      have HX := Lib.hid hx
      have HT := Lib.hid ht
      clear hx ht e4 hlen
      go_wp2
      go_end0
      exact ⟨rfl, HX.out, hfx, HT.out⟩

/-- A scan that has taken nothing off yet. -/
structure ScanIs (w : World) (g : Nat) (l : List Int) : Prop where
  is : ∃ v, w.cell? ⟨g, 0, none⟩ = some v ∧ Byt w v l ∧ (∀ ad n c, v = .slice (some ad) n c → ad.block ≠ g)
  c1 : w.cell? ⟨g, 1, none⟩ = some (.int .i64 0)
  c2 : w.cell? ⟨g, 2, none⟩ = some (.bool false)
  fr : ∀ o, w.frozen? ⟨g, o, none⟩ = false
  lt : g < w.heap.size
theorem f_scRead (v : Value) (l : List Int) (w : World) (hv : Byt w v l) (hn : l.length ≤ 1000000) :
    Calls Tryz.prog 80 #[v] w fun e w' => (∃ g, e = .returned (.pointer (some ⟨g, 0, none⟩)) ∧ w.heap.size ≤ g ∧ ScanIs w' g l) ∧ Below w.heap.size w w' := by
  have HV := Lib.hid hv
  clear hv
  go_enter Tryz.func80, Tryz.ntmps80
  go_wp2_with fail
  refine (f_slClone _ _ _ HV.out hn).mono ?_
  rintro e w1 ⟨⟨v1, rfl, own1⟩, hb1⟩
  obtain ⟨p1, q1, c1, rfl, hp1⟩ := own_slice own1
  have HO1 := Lib.hid own1
  have HP1 := Lib.hid hp1
  have s1 := hb1.size
  clear own1 hp1
  go_wp2
  go_ret
  refine ⟨⟨_, rfl, by omega, ⟨⟨.slice p1 q1 c1, by go_simp, (Byt.of_owns HO1.out rfl).grown ((Below.refl _ _).alloc (Nat.le_refl _) _), fun ad n c e => ?_⟩, by go_simp, by go_simp, fun o => by go_simp, by simp⟩⟩, hb1.alloc (by omega) _⟩
  simp only [Value.slice.injEq] at e
  have := HP1.out ad e.1
  omega

set_option maxHeartbeats 4000000 in
theorem f_off4 (g r : Nat) (l : List Int) (w : World) (h : ScanIs w g l) (hn : 4 ≤ l.length) (hb : Byte l) (hr : w.cell? ⟨r, 0, none⟩ = some (.int .u64 0)) (hf : w.frozen? ⟨r, 0, none⟩ = false) (hrg : g < r)
    (hrb : ∀ v, w.cell? ⟨g, 0, none⟩ = some v → ∀ ad n c, v = .slice (some ad) n c → ad.block < r) :
    Calls Tryz.prog 112 #[.pointer (some ⟨g, 0, none⟩), .int .i64 4, .func (.func 113) #[] #[.pointer (some ⟨r, 0, none⟩)]] w fun e w' =>
      e = .returned (.tuple #[]) ∧ w'.cell? ⟨r, 0, none⟩ = some (.int .u64 (numB (l.take 4))) ∧ w'.frozen? ⟨r, 0, none⟩ = false ∧ Tw w.heap.size [g, r] w w' := by
  obtain ⟨⟨v, c0, hv, hne⟩, c1, c2, fr, hlt⟩ := h
  obtain ⟨a, cap, rfl, hlc, hcm, hcell⟩ := hv.open
  obtain ⟨b, off, rfl, hbl, -⟩ := hcell 0 (by omega)
  have hbr := hrb _ c0 _ _ _ rfl
  have hbg := hne _ _ _ rfl
  dsimp only at hbr hbg
  have HC := Lib.hid (fun i (hi : i < (l.take 4).length) => (show w.cell? ⟨b, off + i, none⟩ = some (.int .u8 (l.take 4)[i]) by
    have hi2 : i < l.length := by rw [List.length_take] at hi; omega
    obtain ⟨b2, off2, e, -, h2⟩ := hcell i hi2
    simp only [Option.some.injEq, Addr.mk.injEq, and_true] at e
    obtain ⟨rfl, rfl⟩ := e
    rw [h2, List.getElem_take]))
  have hrl := World.block_lt_of_cell? w _ hr
  dsimp only at hrl
  have f1 := fr 1
  have hL4 := Lib.hid (show (l.take 4).length = 4 by rw [List.length_take]; omega)
  have hbt := hb.take 4
  have nlen : ¬ ((l.length : Int) < 4) := by omega
  clear hcell hv hne hrb fr
  go_enter Tryz.func112, Tryz.ntmps112
  go_wp2_with fail
  go_quiet (fail)
  go_wp2_with fail
  go_quiet (fail)
  go_wp2_with fail
  have hT : ∀ n, Tw w.heap.size [g, r] w ((w.drewN n).setCell ⟨g, 1, none⟩ (.int .i64 4)) := fun n => (Tw.of_below ⟨rfl, rfl, rfl, Nat.le_refl _, fun _ _ => rfl⟩ : Tw w.heap.size [g, r] w (w.drewN n)).setCell (.inl (by simp)) _ _
  refine (f_Num1 b off r (l.take 4) _ hL4.out hbt (fun i hi => ?_) ?_ ?_ (by omega) (by simp; omega)).mono ?_
  · rw [World.cell?_setCell_other _ _ _ _ (by intro e; injection e with e1; omega), World.cell?_drewN]; exact HC.out i hi
  · rw [World.cell?_setCell_other _ _ _ _ (by intro e; injection e with e1; omega), World.cell?_drewN]; exact hr
  · rw [World.frozen?_setCell, World.frozen?_drewN]; exact hf
  · rintro e w2 ⟨rfl, hx, hfx, ht⟩
    have HX := Lib.hid hx
    have HT := Lib.hid ((hT _).trans (ht.mono (n' := w.heap.size) (L' := [g, r]) (by simp) (fun a ha => .inl (by simp at ha; simp [ha]))))
    clear hx ht
    go_wp2
    go_end0
    exact ⟨rfl, HX.out, hfx, HT.out⟩

theorem f_Num4 (g : Nat) (l : List Int) (w : World) (h : ScanIs w g l) (hn : 4 ≤ l.length) (hb : Byte l) :
    Calls Tryz.prog 81 #[.pointer (some ⟨g, 0, none⟩), .int .i64 4] w fun e w' => e = .returned (.int .u64 (numB (l.take 4))) ∧ Tw w.heap.size [g] w w' := by
  have HH := Lib.hid h
  have hlt := h.lt
  obtain ⟨v0, c00, hv0, -⟩ := h.is
  obtain ⟨a0, cap0, rfl, -, -, hcell0⟩ := hv0.open
  have hvl : ∀ ad n c, Value.slice a0 l.length cap0 = .slice (some ad) n c → ad.block < w.heap.size := by
    intro ad n c e
    obtain ⟨b, off, rfl, hbl, -⟩ := hcell0 0 (by omega)
    simp only [Value.slice.injEq, Option.some.injEq] at e
    rw [← e.1]; exact hbl
  have HVL := Lib.hid hvl
  have C00 := Lib.hid c00
  clear h hv0 hcell0 hvl c00
  go_enter Tryz.func81, Tryz.ntmps81
  go_wp2_with (first | (go_at_call 111; refine (f_sized 4 (by omega) (by omega) _).mono ?_; rintro e w' ⟨rfl, rfl⟩) | fail)
  have hb1 : Below w.heap.size w (w.alloc (.cells #[.int .u64 0] 90)) := (Below.refl _ _).alloc (Nat.le_refl _) _
  have hS : ScanIs (w.alloc (.cells #[.int .u64 0] 90)) g l := by
    obtain ⟨⟨v, h1, h2, h3⟩, h4, h5, h6, h7⟩ := HH.out
    exact ⟨⟨v, (hb1.cell (p := ⟨g, 0, none⟩) h7).trans h1, h2.grown hb1, h3⟩, (hb1.cell (p := ⟨g, 1, none⟩) h7).trans h4, (hb1.cell (p := ⟨g, 2, none⟩) h7).trans h5, fun o => (hb1.frozen (p := ⟨g, o, none⟩) h7).trans (h6 o), by simp; omega⟩
  refine (f_off4 g w.heap.size l _ hS hn hb (by go_simp) (by go_simp) hlt (fun v hv ad n c e => ?_)).mono ?_
  · have e2 := ((hb1.cell (p := ⟨g, 0, none⟩) hlt).trans C00.out).symm.trans hv
    simp only [Option.some.injEq] at e2
    exact HVL.out ad n c (e2.trans e)
  · rintro e w2 ⟨rfl, hx, hfx, ht⟩
    have HT := Lib.hid ((Tw.of_below hb1 : Tw w.heap.size [g] w _).trans (ht.mono (n' := w.heap.size) (L' := [g]) (by simp) (fun a ha => by simp at ha; rcases ha with rfl | rfl; exact .inl (by simp); exact .inr (Nat.le_refl _))))
    clear ht
    go_wp2
    go_ret
    exact ⟨rfl, HT.out⟩
end Go.Proofs.YtkekidjjmcmjhaaGreat
