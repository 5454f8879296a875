/- The contracts of field.Put, mark.Of, wal.frame and wal.head: bytes of one's own. -/
import Derived.Test.YtkekidjjmcmjhaaGreatWalP
import Derived.Test.YtkekidjjmcmjhaaGreatOps
import Derived.Lib.SlBytesConst
namespace Go.Proofs.YtkekidjjmcmjhaaGreat
open Go.RowKit
set_option maxRecDepth 100000

theorem owns_below {w w' : World} {B e size n : Nat} {v : Value} {xs : List Value} (h : w.ownsRow B e size v n xs) (hb : Below w.heap.size w w') : w'.ownsRow B e size v n xs :=
  ⟨h.1, h.2.imp id fun ⟨g, cap, cur, hv, hB, hg, rest⟩ => ⟨g, cap, cur, hv, hB, (hb.block g (Array.getElem?_eq_some_iff.1 hg).1).trans hg, rest⟩⟩
theorem owns_base {w : World} {B B' e size n : Nat} {v : Value} {xs : List Value} (h : w.ownsRow B e size v n xs) (hb : B' ≤ B) : w.ownsRow B' e size v n xs :=
  ⟨h.1, h.2.imp id fun ⟨g, cap, cur, hv, hB, rest⟩ => ⟨g, cap, cur, hv, Nat.le_trans hb hB, rest⟩⟩

/-- Bytes of one's own, of a slice that is there or not. -/
theorem f_slClone (v : Value) (l : List Int) (w : World) (h : Byt w v l) (hn : l.length ≤ 1000000) :
    Calls Tryz.prog 110 #[v] w fun e w' => (∃ v', e = .returned v' ∧ w'.ownsRow w.heap.size 5 1 v' l.length (l.map (Value.int .u8))) ∧ Below w.heap.size w w' := by
  have HH := Lib.hid h
  rcases h.2 with rfl | ⟨ad, n, c, rfl⟩
  · have hl0 := h.none_nil
    subst hl0
    clear h HH
    have he : ∀ w : World, (binOp .eql 24 (.slice none 0 0) (.slice none 0 0)).run Tryz.prog w = .ok (.bool true) w := fun _ => rfl
    go_enter Tryz.func110, Tryz.ntmps110
    go_wp2
    go_ret
    exact ⟨⟨_, rfl, World.ownsRow_nil _ _ _ _⟩, Below.refl _ _⟩
  · obtain ⟨a, cap, e, hl, hm, -⟩ := h.1.form
    simp only [Value.slice.injEq] at e
    obtain ⟨-, rfl, rfl⟩ := e
    clear h
    have he : ∀ w : World, (binOp .eql 24 (.slice (some ad) l.length c) (.slice none 0 0)).run Tryz.prog w = .ok (.bool false) w := fun _ => rfl
    go_enter Tryz.func110, Tryz.ntmps110
    have own := World.ownsRow_made (e := 5) (size := 1) w #[] 0 (Nat.le_refl _) (by decide) rfl
    have hB : Below w.heap.size w (w.alloc (.cells #[] 5)) := (Below.refl _ _).alloc (Nat.le_refl _) _
    go_wp2_with (at_builtin; refine append_any rfl _ _ 24 rfl w.heap.size 5 (.int .u8 0) 1 1 Tryz.underlying24 info_byte rfl (by decide) _ 0 [] rfl own _ l.length (l.map (Value.int .u8)) rfl (HH.out.1.grown hB) HH.out.2 (by simp) (Byt.one _) (by unfold maxLen; omega) (by omega) (by simp) ?_; intro v' w2 hown' hgrow)
    have hb2 : Below w.heap.size w w2 := hB.grown hgrow (by simp) (fun q hq => by have e : w.heap.size = q := Option.some.inj hq; omega)
    rw [Nat.zero_add, List.nil_append] at hown'
    have HO := Lib.hid hown'
    clear hown' hgrow own hB
    go_wp2
    go_ret
    exact ⟨⟨_, rfl, HO.out⟩, hb2⟩

theorem f_sized (k : Nat) (h1 : 1 ≤ k) (h8 : k ≤ 8) (w : World) : Calls Tryz.prog 111 #[.int .i64 k] w fun e w' => e = .returned (.bool true) ∧ w' = w := by
  have h2 : (1 : Int) ≤ (k : Int) := by omega
  have h9 : (k : Int) ≤ 8 := by omega
  go_enter Tryz.func111, Tryz.ntmps111
  go_wp2
  go_ret
  exact ⟨rfl, rfl⟩

theorem shr_byte (x : Int) (j : Nat) : IntKind.u8.wrap (x / 2 ^ (8 * j)) = byteAt x j := by
  unfold byteAt
  rw [IntKind.wrap_u8, Int.pow_mul]
  rfl
theorem beN_snocs (k : Nat) (x : Int) (i : Nat) : (List.range (i + 1)).map (fun i => byteAt x (k - 1 - i)) = (List.range i).map (fun i => byteAt x (k - 1 - i)) ++ [byteAt x (k - 1 - i)] := by
  rw [List.range_succ, List.map_append]; rfl

set_option maxHeartbeats 4000000 in
theorem f_Put (v : Value) (bs : List Int) (k : Nat) (x : Int) (w : World) (hv : Byt w v bs) (hn : bs.length ≤ 100000) (h1 : 1 ≤ k) (h8 : k ≤ 8) (h0 : 0 ≤ x) :
    Calls Tryz.prog 92 #[v, .int .i64 k, .int .u64 x] w fun e w' => (∃ v', e = .returned v' ∧ w'.ownsRow w.heap.size 5 1 v' (bs ++ beN k x).length ((bs ++ beN k x).map (Value.int .u8))) ∧ Below w.heap.size w w' := by
  obtain ⟨i0, hi, hz0, hz1, hz2⟩ := info_parts info_byte
  have HV := Lib.hid hv
  clear hv
  go_enter Tryz.func92, Tryz.ntmps92
  go_wp2_with fail
  refine (f_slClone _ _ _ HV.out (by omega)).mono ?_
  rintro e w1 ⟨⟨v1, rfl, own1⟩, hb1⟩
  have HO1 := Lib.hid own1
  clear own1
  go_wp2_with (go_at_call 111; refine (f_sized k h1 h8 _).mono ?_; rintro e w' ⟨rfl, rfl⟩)
  go_loopw [7, 16] (fun v i wr => ∃ j : Nat, j ≤ k ∧ i = .int .i64 j ∧ wr.ownsRow w.heap.size 5 1 v (bs.length + j) ((bs ++ (List.range j).map (fun i => byteAt x (k - 1 - i))).map (Value.int .u8)) ∧ Below w.heap.size w wr) (fun _ i _ => k - (intOf i).toNat)
  case atStart => exact ⟨0, by omega, rfl, by simpa using HO1.out, hb1⟩
  case round =>
    obtain ⟨j, hj, rfl, hown, hbr⟩ := hrel
    have hsr := hbr.size
    by_cases hlt : j < k
    · have e2 : (k : Int) - 1 - (j : Int) = ((k - 1 - j : Nat) : Int) := by omega
      have hlen : bs.length + j < 1000000 := by omega
      have HO := Lib.hid hown
      have HS := Lib.hid (beN_snocs k x j)
      have HE := Lib.hid (show x / 2 ^ (8 * (k - 1 - j)) % 256 = byteAt x (k - 1 - j) by rw [← shr_byte, IntKind.wrap_u8])
      clear hown
      go_wp2_with (at_builtin; refine append_any rfl _ _ 24 rfl w.heap.size 5 (.int .u8 0) 1 1 Tryz.underlying24 info_byte rfl (by decide) _ (bs.length + j) _ rfl (HO.out.alloc _) _ 1 [.int .u8 (x / 2 ^ (8 * (k - 1 - j)) % 256)] rfl (Sl.fresh _ _ 1 _ rfl (by omega)) (NilA.of_some _ _ _) rfl (by intro u hu; simp at hu; subst hu; rfl) (by unfold maxLen; omega) (by omega) (by simp; omega) ?_; intro v4 w4 own4 hg4; refine Hid.out ?_)
      refine Lib.hid ?_
      obtain ⟨G1, G2⟩ := gather hbr hsr HO.out hg4
      rw [HE.out] at own4
      have HI := Lib.hid own4
      clear own4 hg4 HO e2
      go_wp2
      go_roundw
      case rel => exact ⟨j + 1, by omega, by go_num, by rw [HS.out, ← List.append_assoc, List.map_append]; exact HI.out, G1⟩
      case measure => simp [intOf]; omega
    · obtain rfl : j = k := by omega
      have HI := Lib.hid hown
      clear hown
      go_wp2
      go_ret
      exact ⟨⟨_, rfl, by rw [List.length_append, beN_len]; exact HI.out⟩, hbr⟩

theorem f_On1 (z c : Int) (b off n cp j : Nat) (r : Nat) (w : World) (hr : w.cell? ⟨r, 0, none⟩ = some (.slice (some ⟨b, off, none⟩) n cp)) (hj : j < n) (hn : n ≤ 1000000) (hc : w.cell? ⟨b, off + j, none⟩ = some (.int .u8 c)) (hc0 : 0 ≤ c) (hc1 : c < 256) :
    Calls Tryz.prog 130 #[.int .u64 z, .int .i64 j, .pointer (some ⟨r, 0, none⟩)] w fun e w' => e = .returned (.int .u64 (fnvS z c)) ∧ w' = w := by
  go_enter Tryz.func130, Tryz.ntmps130
  go_wp2
  go_ret
  exact ⟨rfl, rfl⟩
/-- mark.steps over bytes. -/
theorem f_steps (z : Int) (b off n cp r : Nat) (l : List Int) (w : World) (hr : w.cell? ⟨r, 0, none⟩ = some (.slice (some ⟨b, off, none⟩) n cp)) (hl : l.length = n) (hn : n ≤ 1000000) (hc : ∀ i (hi : i < l.length), w.cell? ⟨b, off + i, none⟩ = some (.int .u8 l[i])) (hb : Byte l) :
    Calls Tryz.prog 129 #[.int .u64 z, .int .i64 n, .func (.func 130) #[] #[.pointer (some ⟨r, 0, none⟩)]] w fun e w' => e = .returned (.int .u64 (fnvF z l)) ∧ w' = w := by
  have HC := Lib.hid hc
  have HL := Lib.hid hl
  have hA : n ≤ l.length := by omega
  have hB : l.length ≤ n := by omega
  clear hc hl
  go_enter Tryz.func129, Tryz.ntmps129
  go_wp2
  go_loop [0, 9] (fun m i => ∃ k : Nat, k ≤ n ∧ i = .int .i64 k ∧ m = .int .u64 (fnvF z (l.take k))) (fun _ i => n - (intOf i).toNat)
  case atStart => exact ⟨0, Nat.zero_le _, rfl, rfl⟩
  case round =>
    obtain ⟨k, hk, rfl, rfl⟩ := hrel
    by_cases hlt : k < n
    · have HS := Lib.hid (show fnvF z (l.take (k + 1)) = fnvS (fnvF z (l.take k)) (l[k]'(by omega)) from foldl_take_succ fnvS z l k (by omega))
      have hck := HC.out k (by omega)
      have hbk := hb _ (List.getElem_mem (h := (by omega : k < l.length)))
      go_wp2_with (go_at_call 130; refine (f_On1 _ _ b off n cp k r _ hr hlt hn hck hbk.1 hbk.2).mono ?_; rintro e w' ⟨rfl, rfl⟩)
      go_round
      case rel => exact ⟨k + 1, by omega, by go_num, by rw [HS.out]⟩
      case measure => simp [intOf]; omega
    · obtain rfl : k = n := by omega
      go_wp2
      go_ret
      exact ⟨by rw [List.take_of_length_le hB]; rfl, rfl⟩
theorem f_steps0 (z : Int) (f : Value) (w : World) : Calls Tryz.prog 129 #[.int .u64 z, .int .i64 0, f] w fun e w' => e = .returned (.int .u64 z) ∧ w' = w := by
  go_enter Tryz.func129, Tryz.ntmps129
  go_wp2
  refine wp_loop_rounds 1 ?_
  rw [rounds_succ]
  go_wp2
  go_ret
  exact ⟨rfl, rfl⟩

theorem f_On (z : Int) (v : Value) (l : List Int) (w : World) (hv : Byt w v l) (hn : l.length ≤ 1000000) (hb : Byte l) :
    Calls Tryz.prog 118 #[.int .u64 z, v] w fun e w' => e = .returned (.int .u64 (fnvF z l)) ∧ Below w.heap.size w w' := by
  obtain ⟨a, cap, rfl, -, -, hc⟩ := hv.open
  have hB : Below w.heap.size w (w.alloc (.cells #[.slice a l.length cap] 24)) := (Below.refl _ _).alloc (Nat.le_refl _) _
  by_cases h0 : l = []
  · subst h0
    clear hc hv
    go_enter Tryz.func118, Tryz.ntmps118
    go_wp2_with (go_at_call 129; refine (f_steps0 _ _ _).mono ?_; rintro e w' ⟨rfl, rfl⟩)
    go_ret
    exact ⟨rfl, hB⟩
  · have hpos : 0 < l.length := List.length_pos_iff.2 h0
    obtain ⟨b, off, rfl, hlt, -⟩ := hc 0 hpos
    have HC := Lib.hid (fun i (hi : i < l.length) => (show (w.alloc (.cells #[.slice (some ⟨b, off, none⟩) l.length cap] 24)).cell? ⟨b, off + i, none⟩ = some (.int .u8 l[i]) by
      obtain ⟨b2, off2, e, -, h2⟩ := hc i hi
      simp only [Option.some.injEq, Addr.mk.injEq, and_true] at e
      obtain ⟨rfl, rfl⟩ := e
      exact (hB.cell (p := ⟨b, off + i, none⟩) hlt).trans h2))
    have hr : (w.alloc (.cells #[.slice (some ⟨b, off, none⟩) l.length cap] 24)).cell? ⟨w.heap.size, 0, none⟩ = some (.slice (some ⟨b, off, none⟩) l.length cap) := by go_simp
    have HR := Lib.hid hr
    clear hc hv h0 hr
    go_enter Tryz.func118, Tryz.ntmps118
    go_wp2_with (go_at_call 129; refine (f_steps _ b off l.length cap w.heap.size l _ HR.out rfl hn HC.out hb).mono ?_; rintro e w' ⟨rfl, rfl⟩)
    go_ret
    exact ⟨rfl, hB⟩
theorem f_markOf (v : Value) (l : List Int) (w : World) (hv : Byt w v l) (hn : l.length ≤ 1000000) (hb : Byte l) :
    Calls Tryz.prog 93 #[v] w fun e w' => e = .returned (.int .u64 (fnv l)) ∧ Below w.heap.size w w' := by
  go_enter Tryz.func93, Tryz.ntmps93
  go_wp2_with (go_at_call 118; refine (f_On _ v l _ hv hn hb).mono ?_; rintro e w1 ⟨rfl, hb1⟩)
  go_ret
  exact ⟨rfl, hb1⟩
set_option maxHeartbeats 2000000 in
theorem f_frame (n : Nat) (v : Value) (bs : List Int) (w : World) (hv : Byt w v bs) (hn : bs.length ≤ 90000) (hk : n ≤ 1000000) (hb : Byte bs) :
    Calls Tryz.prog 57 #[.int .i64 n, v] w fun e w' => (∃ v', e = .returned v' ∧ w'.ownsRow w.heap.size 5 1 v' (framB n bs).length ((framB n bs).map (Value.int .u8))) ∧ Below w.heap.size w w' := by
  have HV := Lib.hid hv
  obtain ⟨a, cap, rfl, -⟩ := hv.open
  have HF := Lib.hid (show framB n bs = beN 4 bs.length ++ beN 8 (fnv (beN 8 n ++ bs)) ++ bs from rfl)
  have HL4 := Lib.hid (beN_len 4 bs.length)
  have HL8 := Lib.hid (beN_len 8 n)
  have hf0 := (fnv_bd (beN 8 n ++ bs)).1
  obtain ⟨F, hF⟩ : ∃ F, framB n bs = F := ⟨_, rfl⟩
  rw [hF] at HF ⊢
  clear hv hF
  go_enter Tryz.func57, Tryz.ntmps57
  go_wp2_with fail
  refine (f_Put _ [] 4 bs.length _ (Byt.nil _) (by simp) (by omega) (by omega) (by omega)).mono ?_
  rintro e w1 ⟨⟨v1, rfl, own1⟩, hb1⟩
  have s1 := hb1.size
  rw [List.nil_append] at own1
  obtain ⟨p1, q1, c1, rfl, hp1⟩ := own_slice own1
  have HO1 := Lib.hid own1
  clear own1 hp1
  go_wp2_with fail
  refine (f_Put _ [] 8 n _ (Byt.nil _) (by simp) (by omega) (by omega) (by omega)).mono ?_
  rintro e w2 ⟨⟨v2, rfl, own2⟩, hb2⟩
  have s2 := hb2.size
  rw [List.nil_append] at own2
  obtain ⟨p2, q2, c2, rfl, hp2⟩ := own_slice own2
  have HO2 := Lib.hid own2
  clear own2 hp2
  go_wp2_with fail
  have hb2a : Below w.heap.size w (w2.alloc (.cells #[.slice p2 q2 c2, .slice a bs.length cap] 24)) := (hb1.trans (hb2.mono s1)).alloc (by omega) _
  refine (f_Concat _ (.slice p2 q2 c2) (.slice a bs.length cap) (beN 8 n) bs _ (Sl.fresh _ _ 2 [.slice p2 q2 c2, .slice a bs.length cap] rfl (by omega)) ((Byt.of_owns HO2.out rfl).grown ((Below.refl _ _).alloc (Nat.le_refl _) _)) (HV.out.grown hb2a) (by rw [HL8.out]; omega) (by omega)).mono ?_
  rintro e w3 ⟨⟨v3, rfl, own3⟩, hb3⟩
  obtain ⟨p3, q3, c3, rfl, hp3⟩ := own_slice own3
  have HO3 := Lib.hid own3
  clear own3 hp3
  have s3 := hb3.size
  simp only [World.size_alloc] at s3
  have hb3a : Below w.heap.size w w3 := hb2a.trans (hb3.mono (by simp; omega))
  go_wp2_with fail
  refine (f_markOf _ (beN 8 n ++ bs) _ (Byt.of_owns HO3.out rfl) (by rw [List.length_append, HL8.out]; omega) (beN_byte.app hb)).mono ?_
  rintro e w4 ⟨rfl, hb4⟩
  have s4 := hb4.size
  have hO1 : w4.ownsRow w.heap.size 5 1 (.slice p1 q1 c1) (beN 4 bs.length).length ((beN 4 bs.length).map (Value.int .u8)) := owns_below (owns_below (owns_below (owns_below HO1.out hb2) ((Below.refl _ _).alloc (Nat.le_refl _) _)) hb3) hb4
  go_wp2_with fail
  refine (f_Put _ (beN 4 bs.length) 8 _ _ (Byt.of_owns hO1 rfl) (by rw [HL4.out]; omega) (by omega) (by omega) hf0).mono ?_
  rintro e w5 ⟨⟨v5, rfl, own5⟩, hb5⟩
  obtain ⟨p5, q5, c5, rfl, hp5⟩ := own_slice own5
  have HO5 := Lib.hid (owns_base own5 (show w.heap.size ≤ w4.heap.size by omega))
  have s5 := hb5.size
  have hb5a : Below w.heap.size w w5 := (hb3a.trans (hb4.mono (by omega))).trans (hb5.mono (by omega))
  have hl5 : (beN 4 (bs.length : Int) ++ beN 8 (fnv (beN 8 n ++ bs))).length = 12 := by rw [List.length_append, beN_len, beN_len]
  have HL5 := Lib.hid hl5
  clear own5 hp5 hO1 hl5
  go_wp2_with (at_builtin; refine append_any rfl _ _ 24 rfl w.heap.size 5 (.int .u8 0) 1 1 Tryz.underlying24 info_byte rfl (by decide) _ _ _ rfl HO5.out _ bs.length (bs.map (Value.int .u8)) rfl (HV.out.1.grown hb5a) HV.out.2 (by simp) (Byt.one _) (by rw [HL5.out]; unfold maxLen; omega) (by rw [HL5.out]; omega) (by omega) ?_; intro v6 w6 own6 hg6; refine Hid.out ?_)
  refine Lib.hid ?_
  have hb6 : Below w.heap.size w w6 := hb5a.grown hg6 (by omega) (fun q hq => (HO5.out.lt q hq).1)
  have HO6 := Lib.hid own6
  clear own6 hg6
  go_wp2
  go_ret
  exact ⟨⟨_, rfl, by rw [HF.out, List.map_append, List.length_append]; exact HO6.out⟩, hb6⟩

set_option maxHeartbeats 2000000 in
theorem f_head (most : Int) (w : World) (h0 : 0 ≤ most) (h1 : most ≤ 1000000) :
    Calls Tryz.prog 82 #[.int .i64 most] w fun e w' => (∃ v', e = .returned v' ∧ w'.ownsRow w.heap.size 5 1 v' (headB most).length ((headB most).map (Value.int .u8))) ∧ Below w.heap.size w w' := by
  have HF := Lib.hid (show headB most = letters ++ beN 4 most ++ beN 8 (fnv (letters ++ beN 4 most)) from rfl)
  have HL4 := Lib.hid (beN_len 4 most)
  have hf0 := (fnv_bd (letters ++ beN 4 most)).1
  obtain ⟨F, hF⟩ : ∃ F, headB most = F := ⟨_, rfl⟩
  rw [hF] at HF ⊢
  clear hF
  have kc := fun (w : World) (C : Array Value) (n c : Nat) => Lib.run_convert_bytes_const (P := Tryz.prog) w 24 5 C n c Tryz.underlying24 Tryz.underlying5
  go_enter Tryz.func82, Tryz.ntmps82
  go_wp2_with fail
  have hb0 : Below w.heap.size w (w.alloc (.cells #[.int .u8 113, .int .u8 117, .int .u8 105, .int .u8 118, .int .u8 114, .int .u8 108, .int .u8 111, .int .u8 103] 5 (8, 9))) := (Below.refl _ _).alloc (Nat.le_refl _) _
  have hby : Byt (w.alloc (.cells #[.int .u8 113, .int .u8 117, .int .u8 105, .int .u8 118, .int .u8 114, .int .u8 108, .int .u8 111, .int .u8 103] 5 (8, 9))) (.slice (some ⟨w.heap.size, 0, none⟩) 8 8) letters := by
    refine ⟨Sl.of_cells (by simp) (by decide) (by decide) (fun i hi => ?_), NilA.of_some _ _ _⟩
    have : (w.alloc (.cells #[.int .u8 113, .int .u8 117, .int .u8 105, .int .u8 118, .int .u8 114, .int .u8 108, .int .u8 111, .int .u8 103] 5 (8, 9))).heap[w.heap.size]? = some (.cells #[.int .u8 113, .int .u8 117, .int .u8 105, .int .u8 118, .int .u8 114, .int .u8 108, .int .u8 111, .int .u8 103] 5 (8, 9)) := by
      show (w.heap.push _)[w.heap.size]? = _; simp
    unfold World.cell?
    rw [this]
    have hi2 : i < 8 := by simpa [letters] using hi
    match i, hi2 with
    | 0, _ => rfl
    | 1, _ => rfl
    | 2, _ => rfl
    | 3, _ => rfl
    | 4, _ => rfl
    | 5, _ => rfl
    | 6, _ => rfl
    | 7, _ => rfl
  refine (f_Put _ letters 4 most _ hby (by simp [letters]) (by omega) (by omega) h0).mono ?_
  rintro e w1 ⟨⟨v1, rfl, own1⟩, hb1⟩
  obtain ⟨p1, q1, c1, rfl, hp1⟩ := own_slice own1
  have HO1 := Lib.hid own1
  have s1 := hb1.size
  simp only [World.size_alloc] at s1
  have hb1a : Below w.heap.size w w1 := hb0.trans (hb1.mono (by simp))
  have HL1 := Lib.hid (show (letters ++ beN 4 most).length = 12 by rw [List.length_append, beN_len]; rfl)
  clear own1 hp1 hby
  go_wp2_with fail
  refine (f_markOf _ (letters ++ beN 4 most) _ (Byt.of_owns HO1.out rfl) (by rw [HL1.out]; omega) (letters_byte.app beN_byte)).mono ?_
  rintro e w2 ⟨rfl, hb2⟩
  have s2 := hb2.size
  have hO2 := (Byt.of_owns (owns_below HO1.out hb2) rfl)
  go_wp2_with fail
  refine (f_Put _ (letters ++ beN 4 most) 8 _ _ hO2 (by rw [HL1.out]; omega) (by omega) (by omega) hf0).mono ?_
  rintro e w3 ⟨⟨v3, rfl, own3⟩, hb3⟩
  have HO3 := Lib.hid (owns_base own3 (show w.heap.size ≤ w2.heap.size by omega))
  have hb3a : Below w.heap.size w w3 := (hb1a.trans (hb2.mono (by omega))).trans (hb3.mono (by omega))
  clear own3 hO2
  go_wp2
  go_ret
  exact ⟨⟨_, rfl, by rw [HF.out]; exact HO3.out⟩, hb3a⟩
end Go.Proofs.YtkekidjjmcmjhaaGreat
