/- wal.Open. -/
import Derived.Test.YtkekidjjmcmjhaaGreatWalT
namespace Go.Proofs.YtkekidjjmcmjhaaGreat
open Go.RowKit Go.Shelf
set_option maxRecDepth 100000
attribute [local irreducible] Der

section
variable {w w' : World} {A A' : List Nat} {q b m : Nat} {g : Option Nat} {s : DS}

def cutR (len : Nat) (e : Int) : DR := fun s => if e = len then (0, s) else truncR 0 e s
theorem cutR_good (len : Nat) (e : Int) : DR.Good (cutR len e) := fun s h => by
  unfold cutR
  split
  · exact ⟨h, by dsimp only; omega, Int.le_refl _⟩
  · exact truncR_good 0 e s h
def endB (bs : List Int) : Int := 20 + costL (partsB bs)
def openR (s : DS) : Int × DS :=
  if withE s 0 ask0 = 0 then
    if readOK (s.at 0).bs then inRowS [cutR (s.at 0).bs.length (endB (s.at 0).bs), ridsR 1] (withS s 0 ask0 id) else (140, withS s 0 ask0 id)
  else (if withE s 0 ask0 = 4 then 140 else withE s 0 ask0, withS s 0 ask0 id)

theorem readOK_limit {bs : List Int} (h : readOK bs = true) : limitB (mostB bs) = true := by
  have hR : readOK bs = (decide (20 ≤ bs.length) && limitB (mostB bs) && decide (headB (mostB bs) = bs.take 20) && decide (partsB bs ≠ [])) := rfl
  rw [hR] at h
  simp only [Bool.and_eq_true] at h
  exact h.1.1.2
theorem f_Open1 (h : Disk w A b m s) (hok : s.Ok) (hop : s.ops < 1000000) (e : Int) (v : Value) (bs : List Int) (hv : Byt w v bs) (hn : bs.length ≤ 100000) (r1 r2 r3 : Nat)
    (k1 : w.cell? ⟨r1, 0, none⟩ = some (.int .i64 e)) (k2 : w.cell? ⟨r2, 0, none⟩ = some v) (k3 : w.cell? ⟨r3, 0, none⟩ = some (DP b)) :
    Calls Tryz.prog 44 #[SP r1, SP r2, SP r3] w fun x w' => x = .returned (.int .i64 (cutR bs.length e s).1) ∧ Disk w' A b m (cutR bs.length e s).2 ∧ Tw w.heap.size [b, m] w w' := by
  have HD := Lib.hid h
  obtain ⟨av, cv, rfl, -⟩ := hv.open
  clear h hv
  by_cases hz : e = bs.length
  · have hc : cutR bs.length e s = (0, s) := if_pos hz
    rw [hc]
    subst hz
    clear hc
    go_enter Tryz.func44, Tryz.ntmps44
    go_wp2
    go_ret
    exact ⟨rfl, HD.out, Tw.refl _ _ _⟩
  · have hc : cutR bs.length e s = truncR 0 e s := if_neg hz
    rw [hc]
    obtain ⟨R, hR⟩ : ∃ R, truncR 0 e s = R := ⟨_, rfl⟩
    rw [hR]
    have hR2 : (withE s 0 (askT e), withS s 0 (askT e) (truncF e)) = R := hR
    have e1 : withE s 0 (askT e) = R.1 := by rw [← hR2]
    have e2 : withS s 0 (askT e) (truncF e) = R.2 := by rw [← hR2]
    have E1 := Lib.hid e1
    have E2 := Lib.hid e2
    clear hR hR2 hc e1 e2
    go_enter Tryz.func44, Tryz.ntmps44
    go_wp2_with (go_at_call 45; refine (f_Truncate HD.out hok hop 0 e (w64 (by omega) (by omega))).mono ?_; rintro x w2 ⟨rfl, h2, t2⟩; replace h2 := Lib.hid h2)
    go_ret
    exact ⟨by rw [E1.out]; rfl, E2.out ▸ h2.out, t2⟩

def OpenPost (w : World) (A : List Nat) (b m : Nat) (s : DS) (e : Ending) (w' : World) : Prop :=
  Tw w.heap.size [b, m] w w' ∧ ∃ A', Ext w.heap.size A A' ∧ (((openR s).1 ≠ 0 ∧ e = .returned (.tuple #[.pointer none, .int .i64 (openR s).1]) ∧ Disk w' A' b m (openR s).2) ∨
    ((openR s).1 = 0 ∧ ∃ q g, w.heap.size ≤ q ∧ GNew w.heap.size none g ∧ e = .returned (.tuple #[SP q, .int .i64 0]) ∧ WalIs w' A' b m q g ⟨mostB (s.at 0).bs, partsB (s.at 0).bs, false⟩ (openR s).2))

set_option maxHeartbeats 4000000 in
theorem f_Open (h : Disk w A b m s) (hok : s.Ok) (hop : s.ops < 900000) : Calls Tryz.prog 11 #[DP b] w (OpenPost w A b m s) := by
  have HD := Lib.hid h
  have hbl := h.blt
  have hml := h.mlt
  have hE : openR s = if withE s 0 ask0 = 0 then
    if readOK (s.at 0).bs then inRowS [cutR (s.at 0).bs.length (endB (s.at 0).bs), ridsR 1] (withS s 0 ask0 id) else (140, withS s 0 ask0 id)
  else (if withE s 0 ask0 = 4 then 140 else withE s 0 ask0, withS s 0 ask0 id) := rfl
  obtain ⟨Q, hQ⟩ : ∃ Q : Ending → World → Prop, OpenPost w A b m s = Q := ⟨_, rfl⟩
  rw [hQ]
  have HQ := Lib.hid hQ
  clear h hQ
  go_enter Tryz.func11, Tryz.ntmps11
  go_wp2_with fail
  have hb0 : Below w.heap.size w (w.alloc (.cells #[DP b] 25)) := (Below.refl _ _).alloc (Nat.le_refl _) _
  refine (f_Read (HD.out.below hb0) hok (by omega) 0 (w64 (by omega) (by omega))).mono ?_
  rintro e w1 ⟨v, rfl, hv, hd1, t1, hva⟩
  obtain ⟨E, hEE⟩ : ∃ E, withE s 0 ask0 = E := ⟨_, rfl⟩
  obtain ⟨s1, hs1⟩ : ∃ x, withS s 0 ask0 id = x := ⟨_, rfl⟩
  have hok1 : s1.Ok := by rw [← hs1]; exact withS_ok hok _ _ _ (fun f hf _ => ⟨hf, Nat.le_refl _⟩)
  have hop1 : s1.ops ≤ s.ops + 1 := by rw [← hs1]; exact (withS_ops _ _ _ _).1
  have hfl : E = 0 → ∃ f, s.fl 0 = some f := fun h => by
    obtain ⟨f, hf, -⟩ := withE_there (hEE.trans h) id
    exact ⟨f, hf⟩
  rw [hs1] at hd1 hE
  rw [hEE] at hv hE ⊢
  have kb : w1.cell? ⟨w.heap.size, 0, none⟩ = some (DP b) := by rw [t1.cell (p := ⟨w.heap.size, 0, none⟩) (by simp) (by simp; omega)]; go_simp
  have tw1 : Tw w.heap.size [b, m] w w1 := (Tw.of_below hb0).trans (t1.mono (by simp) (fun a ha => .inl ha))
  have hw1 : w.heap.size < w1.heap.size := by have := t1.size; simp at this; omega
  have HD1 := Lib.hid hd1
  have HVA := Lib.hid hva
  have HFL := Lib.hid hfl
  have TW1 := Lib.hid tw1
  have HE := Lib.hid hE
  clear hd1 hva t1 hEE hs1 hfl tw1 hE hb0
  by_cases hz : E = 0
  · subst hz
    obtain ⟨f, hf⟩ := HFL.out rfl
    have hat : s.at 0 = f := by unfold DS.at; rw [hf]; rfl
    have hlen := len_le hok hf
    have hbyte : Byte (s.at 0).bs := by rw [hat]; exact hok.byte 0 f hf
    rw [← hat] at hlen
    rw [if_pos rfl] at hv
    obtain ⟨bs, hbs⟩ : ∃ bs, (s.at 0).bs = bs := ⟨_, rfl⟩
    rw [hbs] at hv hlen hbyte
    have HE2 := HE.out
    rw [if_pos rfl, hbs] at HE2
    obtain ⟨av, cv, rfl, -⟩ := hv.open
    have HV := Lib.hid hv
    have HE3 := Lib.hid HE2
    have HBS := Lib.hid hbs
    clear hv hf hat HE HE2 HFL hbs
    go_wp2_with fail
    have b2 : Below w1.heap.size w1 (w1.alloc (.cells #[.slice av bs.length cv] 24)) := (Below.refl _ _).alloc (Nat.le_refl _) _
    refine (f_read _ bs _ A (fun a ha => Nat.lt_of_lt_of_le (HD1.out.lt a ha) b2.size) (HV.out.grown b2) (by omega) hbyte (fun ad n c e => Nat.lt_of_lt_of_le (HVA.out ad n c e).2 b2.size)).mono ?_
    rintro e w2 ⟨sv, rfl, hb2, ⟨xm, vr, xc, rfl, ar, kr, cr, rfl⟩, hgood⟩
    have kv : w2.cell? ⟨w1.heap.size, 0, none⟩ = some (.slice av bs.length cv) := by rw [hb2.cell (p := ⟨w1.heap.size, 0, none⟩) (by simp)]; go_simp
    have bw2 : Below w1.heap.size w1 w2 := b2.trans (hb2.mono b2.size)
    have kb2 := (bw2.cell (p := ⟨w.heap.size, 0, none⟩) hw1).trans kb
    have hs2 : w1.heap.size < w2.heap.size := by have := hb2.size; simp at this; omega
    have HG := Lib.hid hgood
    have B2 := Lib.hid bw2
    have b2s := b2.size
    clear hgood hb2 b2 bw2 kb
    by_cases hr : readOK bs = true
    · have HE4 := HE3.out
      rw [if_pos hr] at HE4
      obtain ⟨v, g, A2, hA2, hg2, hl2, hsv, hrow⟩ := HG.out hr
      obtain ⟨h1, rfl, h3⟩ : xm = mostB bs ∧ Value.slice ar kr cr = v ∧ xc = costL (partsB bs) := by simpa using hsv
      have hlim : limitB (mostB bs) = true := readOK_limit hr
      have hbd := limitB_bd hlim
      have hcs := fitsL_cost (mostB bs) (framesL (bs.drop 20).length 0 (bs.drop 20)) 0 (by omega)
      rw [← partsB_eq hbyte, Nat.zero_add] at hcs
      have hend : endB bs = 20 + xc := by unfold endB; omega
      rw [hend] at HE4
      have hxc : 0 ≤ xc ∧ xc ≤ 16000 := by omega
      have HM := Lib.hid h1
      have HC := Lib.hid h3
      have HE5 := Lib.hid HE4
      have HA2 := Lib.hid hA2
      have HG2 := Lib.hid hg2
      have HL2 := Lib.hid hl2
      have HRW := Lib.hid hrow
      have hw2 : w.heap.size < w2.heap.size := by omega
      rw [hr]
      clear HE4 HE3 hr HG hsv h1 h3 hlim hbd hcs hend hA2 hg2 hl2 hrow
      go_wp2_with (go_at_call 46; refine (f_rids b 1 _).mono ?_; rintro e w' ⟨rfl, rfl⟩)
      have hwb := B2.out.size
      have s3 : (((((w2.alloc (.cells #[.int .i64 xm, .slice ar kr cr, .int .i64 xc] 82)).alloc (.cells #[.int .i64 (20 + xc)] 3)).alloc (.cells #[DP b] 25)).alloc (.cells #[.int .i64 1] 3)).alloc (.cells #[.func (.func 44) #[] #[SP (w2.heap.size + 1), SP w1.heap.size, SP w.heap.size], .func (.func 86) #[] #[SP (w2.heap.size + 1 + 1), SP (w2.heap.size + 1 + 1 + 1)]] 73)).heap.size = w2.heap.size + 5 := by simp
      have b3 : Below w2.heap.size w2 (((((w2.alloc (.cells #[.int .i64 xm, .slice ar kr cr, .int .i64 xc] 82)).alloc (.cells #[.int .i64 (20 + xc)] 3)).alloc (.cells #[DP b] 25)).alloc (.cells #[.int .i64 1] 3)).alloc (.cells #[.func (.func 44) #[] #[SP (w2.heap.size + 1), SP w1.heap.size, SP w.heap.size], .func (.func 86) #[] #[SP (w2.heap.size + 1 + 1), SP (w2.heap.size + 1 + 1 + 1)]] 73)) := by ((repeat' (first | (with_reducible exact Below.refl _ _) | (with_reducible refine Below.setCell ?_ ?_ _) | (with_reducible refine Below.alloc ?_ ?_ _) | (with_reducible refine Below.drew ?_) | (with_reducible refine Below.trans ?_ (Below.mono (by assumption) ?_)) | go_size)))
      have y0 : (((((w2.alloc (.cells #[.int .i64 xm, .slice ar kr cr, .int .i64 xc] 82)).alloc (.cells #[.int .i64 (20 + xc)] 3)).alloc (.cells #[DP b] 25)).alloc (.cells #[.int .i64 1] 3)).alloc (.cells #[.func (.func 44) #[] #[SP (w2.heap.size + 1), SP w1.heap.size, SP w.heap.size], .func (.func 86) #[] #[SP (w2.heap.size + 1 + 1), SP (w2.heap.size + 1 + 1 + 1)]] 73)).cell? ⟨w2.heap.size, 0, none⟩ = some (.int .i64 xm) := by go_simp
      have y1 : (((((w2.alloc (.cells #[.int .i64 xm, .slice ar kr cr, .int .i64 xc] 82)).alloc (.cells #[.int .i64 (20 + xc)] 3)).alloc (.cells #[DP b] 25)).alloc (.cells #[.int .i64 1] 3)).alloc (.cells #[.func (.func 44) #[] #[SP (w2.heap.size + 1), SP w1.heap.size, SP w.heap.size], .func (.func 86) #[] #[SP (w2.heap.size + 1 + 1), SP (w2.heap.size + 1 + 1 + 1)]] 73)).cell? ⟨w2.heap.size, 1, none⟩ = some (.slice ar kr cr) := by go_simp
      have y2 : (((((w2.alloc (.cells #[.int .i64 xm, .slice ar kr cr, .int .i64 xc] 82)).alloc (.cells #[.int .i64 (20 + xc)] 3)).alloc (.cells #[DP b] 25)).alloc (.cells #[.int .i64 1] 3)).alloc (.cells #[.func (.func 44) #[] #[SP (w2.heap.size + 1), SP w1.heap.size, SP w.heap.size], .func (.func 86) #[] #[SP (w2.heap.size + 1 + 1), SP (w2.heap.size + 1 + 1 + 1)]] 73)).cell? ⟨w2.heap.size, 2, none⟩ = some (.int .i64 xc) := by go_simp
      have ke : (((((w2.alloc (.cells #[.int .i64 xm, .slice ar kr cr, .int .i64 xc] 82)).alloc (.cells #[.int .i64 (20 + xc)] 3)).alloc (.cells #[DP b] 25)).alloc (.cells #[.int .i64 1] 3)).alloc (.cells #[.func (.func 44) #[] #[SP (w2.heap.size + 1), SP w1.heap.size, SP w.heap.size], .func (.func 86) #[] #[SP (w2.heap.size + 1 + 1), SP (w2.heap.size + 1 + 1 + 1)]] 73)).cell? ⟨w2.heap.size + 1, 0, none⟩ = some (.int .i64 (20 + xc)) := by go_simp
      have k1 : (((((w2.alloc (.cells #[.int .i64 xm, .slice ar kr cr, .int .i64 xc] 82)).alloc (.cells #[.int .i64 (20 + xc)] 3)).alloc (.cells #[DP b] 25)).alloc (.cells #[.int .i64 1] 3)).alloc (.cells #[.func (.func 44) #[] #[SP (w2.heap.size + 1), SP w1.heap.size, SP w.heap.size], .func (.func 86) #[] #[SP (w2.heap.size + 1 + 1), SP (w2.heap.size + 1 + 1 + 1)]] 73)).cell? ⟨w2.heap.size + 2, 0, none⟩ = some (DP b) := by go_simp
      have k2 : (((((w2.alloc (.cells #[.int .i64 xm, .slice ar kr cr, .int .i64 xc] 82)).alloc (.cells #[.int .i64 (20 + xc)] 3)).alloc (.cells #[DP b] 25)).alloc (.cells #[.int .i64 1] 3)).alloc (.cells #[.func (.func 44) #[] #[SP (w2.heap.size + 1), SP w1.heap.size, SP w.heap.size], .func (.func 86) #[] #[SP (w2.heap.size + 1 + 1), SP (w2.heap.size + 1 + 1 + 1)]] 73)).cell? ⟨w2.heap.size + 3, 0, none⟩ = some (.int .i64 1) := by go_simp
      have hsl : Sl (((((w2.alloc (.cells #[.int .i64 xm, .slice ar kr cr, .int .i64 xc] 82)).alloc (.cells #[.int .i64 (20 + xc)] 3)).alloc (.cells #[DP b] 25)).alloc (.cells #[.int .i64 1] 3)).alloc (.cells #[.func (.func 44) #[] #[SP (w2.heap.size + 1), SP w1.heap.size, SP w.heap.size], .func (.func 86) #[] #[SP (w2.heap.size + 1 + 1), SP (w2.heap.size + 1 + 1 + 1)]] 73)) (.slice (some ⟨w2.heap.size + 4, 0, none⟩) 2 2) 2 [.func (.func 44) #[] #[SP (w2.heap.size + 1), SP w1.heap.size, SP w.heap.size], .func (.func 86) #[] #[SP (w2.heap.size + 1 + 1), SP (w2.heap.size + 1 + 1 + 1)]] := Sl.fresh _ _ 2 _ (by simp) (by omega)
      obtain ⟨W3, hW3⟩ : ∃ W, ((((w2.alloc (.cells #[.int .i64 xm, .slice ar kr cr, .int .i64 xc] 82)).alloc (.cells #[.int .i64 (20 + xc)] 3)).alloc (.cells #[DP b] 25)).alloc (.cells #[.int .i64 1] 3)).alloc (.cells #[.func (.func 44) #[] #[SP (w2.heap.size + 1), SP w1.heap.size, SP w.heap.size], .func (.func 86) #[] #[SP (w2.heap.size + 1 + 1), SP (w2.heap.size + 1 + 1 + 1)]] 73) = W := ⟨_, rfl⟩
      rw [hW3] at s3 b3 y0 y1 y2 ke k1 k2 hsl ⊢
      clear hW3
      have hd2A : Disk w2 A2 b m s1 := Disk.ext (L := []) HD1.out (Tw.of_below B2.out) (by simp) (by simp) (by simp) (HA2.out.mono b2s) HL2.out
      have hD3 := hd2A.below b3
      have ndb : ∀ x, w.heap.size ≤ x → x ∉ [b, m] := fun x hx => by simp; omega
      have cellW : ∀ (W : World), Tw W3.heap.size [b, m] W3 W → ∀ x, w.heap.size ≤ x → x < W3.heap.size → ∀ o, W.cell? ⟨x, o, none⟩ = W3.cell? ⟨x, o, none⟩ := fun W ht x hx hx2 o =>
        ht.cell (p := ⟨x, o, none⟩) hx2 (ndb x hx)
      have BV3 := Lib.hid (fun (W : World) (ht : Tw W3.heap.size [b, m] W3 W) => (show Byt W (.slice av bs.length cv) bs from
        (((HV.out.grown B2.out).grown b3).turn (ht.size) (fun ad n c e => ht.block _ (by have := (HVA.out ad n c e).2; omega) (by have := (HVA.out ad n c e).1; simp at this; exact ndb _ (by omega))))))
      have kv3 := (b3.cell (p := ⟨w1.heap.size, 0, none⟩) hs2).trans kv
      have kb3 := (b3.cell (p := ⟨w.heap.size, 0, none⟩) hw2).trans kb2
      have D0 : DoesR W3 A2 b m (.func (.func 44) #[] #[SP (w2.heap.size + 1), SP w1.heap.size, SP w.heap.size]) (cutR bs.length (20 + xc)) :=
        ⟨_, _, rfl, fun _ _ => rfl, cutR_good _ _, fun W s hD hok hop ht => f_Open1 hD hok (by omega) _ _ bs (BV3.out W ht) (by omega) _ _ _ ((cellW W ht _ (by omega) (by omega) 0).trans ke) ((cellW W ht _ (by omega) (by omega) 0).trans kv3) ((cellW W ht _ (by omega) (by omega) 0).trans kb3)⟩
      have D1 : DoesR W3 A2 b m (.func (.func 86) #[] #[SP (w2.heap.size + 1 + 1), SP (w2.heap.size + 1 + 1 + 1)]) (ridsR 1) :=
        ⟨_, _, rfl, fun _ _ => rfl, ridsR_good 1, fun W s hD hok hop ht => f_rids1 hD hok (by omega) 1 (w64 (by omega) (by omega)) (by omega) _ _ ((cellW W ht (w2.heap.size + 2) (by omega) (by omega) 0).trans k1) ((cellW W ht (w2.heap.size + 3) (by omega) (by omega) 0).trans k2)⟩
      refine (f_inRow hD3 hok1 (by omega) _ [.func (.func 44) #[] #[SP (w2.heap.size + 1), SP w1.heap.size, SP w.heap.size], .func (.func 86) #[] #[SP (w2.heap.size + 1 + 1), SP (w2.heap.size + 1 + 1 + 1)]] [cutR bs.length (20 + xc), ridsR 1] rfl (show (2 : Nat) ≤ 100 by decide) hsl (fun ad n c e => by
        simp only [Value.slice.injEq, Option.some.injEq] at e
        rw [← e.1]; dsimp only; omega) (fun i h1 h2 => by
          match i, h1, h2 with
          | 0, _, _ => exact D0
          | 1, _, _ => exact D1)).mono ?_
      rintro e w4 ⟨rfl, hD4, t4⟩
      have s4 := t4.size
      have hbA : b ∈ A2 := hD3.hb
      have hmA : m ∈ A2 := hD3.hm
      have hrow4 : RowIs w4 A2 (.slice ar kr cr) g (partsB bs) := HRW.out.turn (by omega) (Ext.refl _ _)
        (fun k hk hkA => (t4.block k (by omega) (fun hm => by simp at hm; rcases hm with rfl | rfl; exact hkA hbA; exact hkA hmA)).trans (b3.block k hk))
        (fun k hk => by
          have h8 := HL2.out k (HRW.out.2.1 k hk)
          refine (t4.block k (by omega) (ndb k ?_)).trans (b3.block k h8)
          rcases HG2.out with h9 | ⟨k', h9, h8⟩
          · rw [h9] at hk; cases hk
          · rw [h9] at hk; cases hk; omega)
      have z0 := (cellW w4 t4 w2.heap.size (by omega) (by omega) 0).trans y0
      have z1 := (cellW w4 t4 w2.heap.size (by omega) (by omega) 1).trans y1
      have z2 := (cellW w4 t4 w2.heap.size (by omega) (by omega) 2).trans y2
      have zb := (cellW w4 t4 w.heap.size (by omega) (by omega) 0).trans kb3
      have T4 := Lib.hid ((TW1.out.trans (Tw.of_below (B2.out.mono (by omega)))).trans ((Tw.of_below (b3.mono (by omega)) : Tw w.heap.size [b, m] w2 W3).trans (t4.mono (n' := w.heap.size) (L' := [b, m]) (by omega) (fun a ha => .inl ha))))
      have HRW4 := Lib.hid hrow4
      have HD4 := Lib.hid hD4
      have hl4 : w2.heap.size < w4.heap.size := by omega
      have hl5 : w.heap.size < w4.heap.size := by omega
      have e0 : inRowS [cutR bs.length (20 + xc), ridsR 1] s1 = openR s := HE5.out.symm
      obtain ⟨R, hR⟩ : ∃ R, inRowS [cutR bs.length (20 + xc), ridsR 1] s1 = R := ⟨_, rfl⟩
      rw [hR] at HD4 e0 ⊢
      have HR := Lib.hid e0
      clear hsl D0 D1 BV3 cellW k1 k2 ke b3 hD3 hD4 hrow4 t4 y0 y1 y2 kv3 kb3 hd2A hR e0 HE5 s3 kv kb2
      obtain ⟨err, sR⟩ := R
      have hA5 := HA2.out.mono (m := w.heap.size) (by omega)
      by_cases he : err = 0
      · subst he
        go_wp2
        rw [← HQ.out]
        have s5 : (w4.alloc (.cells #[.int .i64 xm, .slice ar kr cr, .int .i64 xc, DP b, .bool false] 89)).heap.size = w4.heap.size + 1 := by simp
        have b5 : Below w4.heap.size w4 (w4.alloc (.cells #[.int .i64 xm, .slice ar kr cr, .int .i64 xc, DP b, .bool false] 89)) := by ((repeat' (first | (with_reducible exact Below.refl _ _) | (with_reducible refine Below.setCell ?_ ?_ _) | (with_reducible refine Below.alloc ?_ ?_ _) | (with_reducible refine Below.drew ?_) | (with_reducible refine Below.trans ?_ (Below.mono (by assumption) ?_)) | go_size)))
        have c0 : (w4.alloc (.cells #[.int .i64 xm, .slice ar kr cr, .int .i64 xc, DP b, .bool false] 89)).cell? ⟨w4.heap.size, 0, none⟩ = some (.int .i64 xm) := by go_simp
        have c1 : (w4.alloc (.cells #[.int .i64 xm, .slice ar kr cr, .int .i64 xc, DP b, .bool false] 89)).cell? ⟨w4.heap.size, 1, none⟩ = some (.slice ar kr cr) := by go_simp
        have c2 : (w4.alloc (.cells #[.int .i64 xm, .slice ar kr cr, .int .i64 xc, DP b, .bool false] 89)).cell? ⟨w4.heap.size, 2, none⟩ = some (.int .i64 xc) := by go_simp
        have c3 : (w4.alloc (.cells #[.int .i64 xm, .slice ar kr cr, .int .i64 xc, DP b, .bool false] 89)).cell? ⟨w4.heap.size, 3, none⟩ = some (DP b) := by go_simp
        have c4 : (w4.alloc (.cells #[.int .i64 xm, .slice ar kr cr, .int .i64 xc, DP b, .bool false] 89)).cell? ⟨w4.heap.size, 4, none⟩ = some (.bool false) := by go_simp
        have fr : ∀ o, (w4.alloc (.cells #[.int .i64 xm, .slice ar kr cr, .int .i64 xc, DP b, .bool false] 89)).frozen? ⟨w4.heap.size, o, none⟩ = false := fun o => by go_simp
        obtain ⟨W5, hW5⟩ : ∃ W, w4.alloc (.cells #[.int .i64 xm, .slice ar kr cr, .int .i64 xc, DP b, .bool false] 89) = W := ⟨_, rfl⟩
        rw [hW5] at s5 b5 c0 c1 c2 c3 c4 fr ⊢
        clear hW5
        refine ⟨T4.out.trans (Tw.of_below (b5.mono (by omega))), [w4.heap.size] ++ A2, hA5.trans (Ext.cons (n := w4.heap.size) (by omega)) (by omega), .inr ⟨by rw [← HR.out], w4.heap.size, g, by omega, HG2.out.mono (by omega), rfl, ?_⟩⟩
        rw [← HR.out, HBS.out]
        rw [HM.out] at c0
        rw [HC.out] at c2
        exact WalIs.make HD4.out HRW4.out b5 (by omega) (by omega) (fun k hk => by
          rcases HG2.out with h9 | ⟨k', h9, h8⟩
          · rw [h9] at hk; cases hk
          · rw [h9] at hk; cases hk; omega) c0 c1 c2 c3 c4 fr
      · go_wp2
        rw [← HQ.out]
        exact ⟨T4.out, A2, hA5, .inl ⟨by rw [← HR.out]; exact he, by rw [← HR.out]; rfl, by rw [← HR.out]; exact HD4.out⟩⟩
    · have hr2 : readOK bs = false := by simpa using hr
      have HE4 := HE3.out
      rw [if_neg hr] at HE4
      rw [hr2]
      have HE5 := Lib.hid HE4
      clear HE4 HE3 hr hr2 HG
      go_wp2
      rw [← HQ.out]
      have b4 : Below w2.heap.size w2 (w2.alloc (.cells #[.int .i64 xm, .slice ar kr cr, .int .i64 xc] 82)) := (Below.refl _ _).alloc (Nat.le_refl _) _
      have b5 := B2.out.trans (b4.mono (by omega))
      exact ⟨TW1.out.trans (Tw.of_below (b5.mono (by omega))), A, Ext.refl _ _, .inl ⟨by rw [HE5.out]; show (140 : Int) ≠ 0; decide, by rw [HE5.out]; rfl, by rw [HE5.out]; exact HD1.out.below b5⟩⟩
  · have HE2 := HE.out
    rw [if_neg hz] at HE2
    rw [if_neg hz] at hv
    obtain ⟨av, cv, rfl, -⟩ := hv.open
    clear hv HE HFL HVA
    have b4 : Below w1.heap.size w1 (w1.alloc (.cells #[.slice av ([] : List Int).length cv] 24)) := (Below.refl _ _).alloc (Nat.le_refl _) _
    have t4 : Tw w.heap.size [b, m] w (w1.alloc (.cells #[.slice av ([] : List Int).length cv] 24)) := TW1.out.trans (Tw.of_below (b4.mono (by omega)))
    have T4 := Lib.hid t4
    have H4 := Lib.hid (HD1.out.below b4)
    by_cases h4 : E = 4
    · subst h4
      rw [if_pos rfl] at HE2
      have HE5 := Lib.hid HE2
      clear HE2 b4 t4
      go_wp2
      rw [← HQ.out]
      exact ⟨T4.out, A, Ext.refl _ _, .inl ⟨by rw [HE5.out]; show (140 : Int) ≠ 0; decide, by rw [HE5.out]; rfl, by rw [HE5.out]; exact H4.out⟩⟩
    · rw [if_neg h4] at HE2
      have HE5 := Lib.hid HE2
      clear HE2 b4 t4
      go_wp2
      rw [← HQ.out]
      exact ⟨T4.out, A, Ext.refl _ _, .inl ⟨by rw [HE5.out]; exact hz, by rw [HE5.out]; rfl, by rw [HE5.out]; exact H4.out⟩⟩
end
end Go.Proofs.YtkekidjjmcmjhaaGreat
