/- The walk of MaskBack: what it asks comes out true. -/
import Derived.Test.YtgcjfonbppchlaaDoorBackLaw
import Derived.Test.YtgcjfonbppchlaaDoorSlotsF
import Derived.Test.YtgcjfonbppchlaaDoorTellZ
namespace Go.Proofs.YtgcjfonbppchlaaDoor
open Go.RowKit Go.Sort
set_option maxRecDepth 100000
attribute [local irreducible] Der

theorem but_cellB {w w' : World} {row : Option Nat} (h : w.grownBy w' row) {p : Addr} (h1 : p.block < w.heap.size) (h2 : ∀ r, row = some r → p.block ≠ r) : w'.cell? p = w.cell? p :=
  World.cell?_of_block (w := w) (h.block p.block h1 (fun e => h2 p.block e.symm rfl))
theorem but_frozenB {w w' : World} {row : Option Nat} (h : w.grownBy w' row) {p : Addr} (h1 : p.block < w.heap.size) (h2 : ∀ r, row = some r → p.block ≠ r) : w'.frozen? p = w.frozen? p :=
  World.frozen?_of_block (w := w) (h.block p.block h1 (fun e => h2 p.block e.symm rfl))
theorem f_Of_ok (v : Value) (l : List Int) (hl : ∀ x ∈ l, isSlot x) (w : World) (h : Ints w v l) : Calls Tryd.prog 5 #[v] w fun e w' => e = .returned (.tuple #[MV (ofAll l).1 (ofAll l).2, .int .i64 0]) ∧ Below w.heap.size w w' := by
  refine (f_Of v l w h).mono ?_
  rintro e w' ⟨h1, h2⟩
  refine ⟨?_, h2⟩
  have : ofF l = (ofAll l, 0) := by unfold ofF; rw [if_pos hl]
  unfold OfPost at h1; rw [this] at h1; exact h1
set_option maxRecDepth 100000 in
set_option maxHeartbeats 1000000 in
theorem f_MaskBack (v : Value) (l : List Int) (a b : BitVec 64) (w : World) (h : Ints w v l) (hps : ∀ x ∈ l, -9223372036854775808 ≤ x ∧ x ≤ 9223372036854775807) (h0 : 0 < w.heap.size) (ht : Tab w) :
    Calls Tryd.prog 3 #[v, MV a b] w fun e w' => e = .returned (.bool true) ∧ Below w.heap.size w w' := by
  obtain ⟨i0, hi, hz0, hz1, hz2⟩ := info_parts info_int
  obtain ⟨p, cap, rfl, hl, hm, hcell⟩ := h.open
  have Hc := Lib.hid hcell
  have HP := Lib.hid hps
  have HT := Lib.hid ht
  clear hcell h ht hps
  go_enter Tryd.func3, Tryd.ntmps3
  go_wp2_with fail
  refine (f_wakes _).mono ?_
  rintro e w1 ⟨rfl, hb1⟩
  go_wp2
  go_loopw [5, 23] (fun v i wr => ∃ k : Nat, k ≤ l.length ∧ i = .int .i64 k ∧ wr.ownsRow (w.heap.size + 1) 3 1 v (backL l k).length ((backL l k).map (Value.int .i64)) ∧
      Below (w.heap.size + 1) (w.alloc (.cells #[.int .u64 (U a), .int .u64 (U b)] 25)) wr ∧ w.heap.size + 1 ≤ wr.heap.size) (fun _ i _ => l.length - (intOf i).toNat)
  case atStart => exact ⟨0, by omega, rfl, World.ownsRow_nil _ _ _ _, by ((have shb1 := hb1.size); (try simp at shb1); (repeat' (first | (with_reducible exact Below.refl _ _) | (with_reducible refine Below.setCell ?_ ?_ _) | (with_reducible refine Below.alloc ?_ ?_ _) | (with_reducible refine Below.drew ?_) | (with_reducible refine Below.trans ?_ (Below.mono hb1 ?_)) | go_size))), by have := hb1.size; simp at this; omega⟩
  case round =>
    obtain ⟨k, hk, rfl, hown, hbr, hsz⟩ := hrel
    have hBw : Below w.heap.size w wr := by ((have shbr := hbr.size); (try simp at shbr); (repeat' (first | (with_reducible exact Below.refl _ _) | (with_reducible refine Below.setCell ?_ ?_ _) | (with_reducible refine Below.alloc ?_ ?_ _) | (with_reducible refine Below.drew ?_) | (with_reducible refine Below.trans ?_ (Below.mono hbr ?_)) | go_size)))
    by_cases hlt : k < l.length
    · obtain ⟨x, b', off, hx, rfl, hlt', g1⟩ : ∃ x, ∃ b off, l[k] = x ∧ p = some ⟨b, off, none⟩ ∧ b < w.heap.size ∧ w.cell? ⟨b, off + k, none⟩ = some (.int .i64 x) := by
        obtain ⟨b', off', h1, h2, h3⟩ := Hc.out k hlt
        exact ⟨_, b', off', rfl, h1, h2, h3⟩
      have hx2 := HP.out x (hx ▸ List.getElem_mem hlt)
      have e1 := (hBw.cell (p := ⟨b', off + k, none⟩) hlt').trans g1
      clear g1
      by_cases hh : (0 ≤ x ∧ x < 96) ∧ k < 60
      · have R := Lib.hid (backL_hit hlt (by rw [hx]; exact hh.1) hh.2)
        rw [hx] at R
        obtain ⟨⟨c0, c1⟩, c2⟩ := hh
        have hle := (backL_len l k).2
        have d0 : decide (x ≥ 0) = true := decide_eq_true c0
        have d1 : decide (x < 96) = true := decide_eq_true c1
        have d2 : decide ((k : Int) < 60) = true := decide_eq_true (by omega)
        clear hx
        go_wp2_with (at_builtin; refine wpList_append_own _ rfl _ _ 22 rfl (w.heap.size + 1) 3 i0 (.int .i64 0) 1 8 Tryd.underlying22 hi hz0 hz1 hz2 rfl (by decide) _ _ _ rfl (hown.alloc _) ⟨wr.heap.size, 0, none⟩ 1 1 [.int .i64 x] rfl rfl (by intro a u ha; match a, ha with | 0, ha => simp at ha; subst ha; simp [Addr.add]) (by intro u hu; simp at hu; subst hu; rfl) (by unfold maxLen; omega) (by omega) (by simp; omega) ?_; intro v' w4 hown' hgrow _)
        obtain ⟨G1, G2⟩ := gather hbr (by omega) hown hgrow
        clear hown hgrow
        go_wp2
        go_roundw
        case rel => exact ⟨k + 1, by omega, by go_num, by rw [R.out, List.map_append, List.length_append]; exact hown', G1, G2⟩
        case measure => simp [intOf]; omega
      · have R := Lib.hid (backL_miss hlt (by rw [hx]; exact hh))
        clear hx
        by_cases c0 : 0 ≤ x
        · by_cases c1 : x < 96
          · have c2 : ¬ ((k : Int) < 60) := fun h => hh ⟨⟨c0, c1⟩, by omega⟩
            have d0 : decide (x ≥ 0) = true := decide_eq_true c0
            have d1 : decide (x < 96) = true := decide_eq_true c1
            have d2 : decide ((k : Int) < 60) = false := decide_eq_false c2
            clear hh
            have HI := Lib.hid hown
            clear hown
            go_wp2
            go_roundw
            case rel => exact ⟨k + 1, by omega, by go_num, by rw [R.out]; exact HI.out, hbr, hsz⟩
            case measure => simp [intOf]; omega
          · have d0 : decide (x ≥ 0) = true := decide_eq_true c0
            have d1 : decide (x < 96) = false := decide_eq_false c1
            clear hh
            have HI := Lib.hid hown
            clear hown
            go_wp2
            go_roundw
            case rel => exact ⟨k + 1, by omega, by go_num, by rw [R.out]; exact HI.out, hbr, hsz⟩
            case measure => simp [intOf]; omega
        · have d0 : decide (x ≥ 0) = false := decide_eq_false c0
          clear hh
          have HI := Lib.hid hown
          clear hown
          go_wp2
          go_roundw
          case rel => exact ⟨k + 1, by omega, by go_num, by rw [R.out]; exact HI.out, hbr, hsz⟩
          case measure => simp [intOf]; omega
    · have hkl : k = l.length := by omega
      subst hkl
      obtain ⟨G, hG⟩ : ∃ G, backL l l.length = G := ⟨_, rfl⟩
      have hGs := backL_slot l l.length
      have hGl := (backL_len l l.length).2
      rw [hG] at hGs hGl hown
      clear hG Hc HP
      have HGs := Lib.hid hGs
      have HGe := Lib.hid (back_slots G hGs)
      clear hGs
      have n0 : wr.cell? ⟨w.heap.size, 0, none⟩ = some (.int .u64 (U a)) := (hbr.cell (p := ⟨w.heap.size, 0, none⟩) (Nat.lt_succ_self _)).trans (by simp)
      have n1 : wr.cell? ⟨w.heap.size, 1, none⟩ = some (.int .u64 (U b)) := (hbr.cell (p := ⟨w.heap.size, 1, none⟩) (Nat.lt_succ_self _)).trans (by simp)
      have hown1 := Lib.hid hown
      clear hown
      have hT1 := HT.out.grown h0 hBw
      clear hb1 hbr
      go_wp2_with fail
      refine (f_Of_ok _ G HGs.out _ (Ints.of_owns hown1.out)).mono ?_
      rintro e w2 ⟨rfl, hb2⟩
      have hown2 := Lib.hid (owns_below hown1.out hb2)
      have z2w0 : w.heap.size < w2.heap.size := (by have := hb2.size; (try simp at this); omega)
      have q2w0 := fun o => hb2.cell (p := ⟨w.heap.size, o, none⟩) (by first | omega | (simp; done) | (simp; omega))
      have r2w0 := fun o => hb2.frozen (p := ⟨w.heap.size, o, none⟩) (by first | omega | (simp; done) | (simp; omega))
      obtain ⟨P, hP⟩ : ∃ P, (ofAll G).1 = P := ⟨_, rfl⟩
      obtain ⟨Q, hQ⟩ : ∃ Q, (ofAll G).2 = Q := ⟨_, rfl⟩
      rw [hP, hQ]
      have hE : slotsK (P, Q) 96 = Lib.compact (sortL G) := by rw [← hP, ← hQ]; exact HGe.out
      clear hP hQ HGe
      have HE := Lib.hid hE
      clear hE
      have m0 := (q2w0 0).trans n0
      have m1 := (q2w0 1).trans n1
      have hB2 : Below w.heap.size w w2 := by ((have shb2 := hb2.size); (try simp at shb2); (have shBw := hBw.size); (try simp at shBw); (repeat' (first | (with_reducible exact Below.refl _ _) | (with_reducible refine Below.setCell ?_ ?_ _) | (with_reducible refine Below.alloc ?_ ?_ _) | (with_reducible refine Below.drew ?_) | (with_reducible refine Below.trans ?_ (Below.mono hb2 ?_)) | (with_reducible refine Below.trans ?_ (Below.mono hBw ?_)) | go_size)))
      have s2 := hb2.size
      have hlt2 := hown2.out.lt
      clear q2w0 r2w0 n0 n1 hown1 hT1
      go_wp2_with fail
      refine (f_Sort _ G (w.heap.size + 1) G.length (by omega) _ (hown2.out.alloc _)).mono ?_
      rintro e w3 ⟨rfl, hown3', hg3⟩
      have hown3 := Lib.hid hown3'
      have s3 := hg3.size
      simp at s3
      have k0 : w3.cell? ⟨w.heap.size, 0, none⟩ = some (.int .u64 (U a)) := (but_cellB hg3 (by simp; omega) (fun r e => by have := hlt2 r e; simp; omega)).trans ((((Below.refl w2.heap.size w2).alloc (Nat.le_refl _) _).cell (p := ⟨w.heap.size, 0, none⟩) (by simp; omega)).trans m0)
      have k1 : w3.cell? ⟨w.heap.size, 1, none⟩ = some (.int .u64 (U b)) := (but_cellB hg3 (by simp; omega) (fun r e => by have := hlt2 r e; simp; omega)).trans ((((Below.refl w2.heap.size w2).alloc (Nat.le_refl _) _).cell (p := ⟨w.heap.size, 1, none⟩) (by simp; omega)).trans m1)
      have x0 : w3.cell? ⟨w2.heap.size, 0, none⟩ = some (.int .u64 (U P)) := (but_cellB hg3 (by simp) (fun r e => by have := hlt2 r e; simp; omega)).trans (by simp)
      have x1 : w3.cell? ⟨w2.heap.size, 1, none⟩ = some (.int .u64 (U Q)) := (but_cellB hg3 (by simp) (fun r e => by have := hlt2 r e; simp; omega)).trans (by simp)
      have hB3 : Below w.heap.size w w3 := (hB2.alloc (by omega) _).grown hg3 (by simp; omega) (fun k hk => by have := hlt2 k hk; omega)
      clear hown3' hg3 m0 m1 hlt2 hown2 hb2 hBw hB2
      obtain ⟨X, hX⟩ : ∃ X, w2.heap.size = X := ⟨_, rfl⟩
      rw [hX] at x0 x1 s3
      have hsX : w.heap.size < X := by omega
      simp only [hX]
      clear hX
      have hT3 := HT.out.grown h0 hB3
      go_wp2_with fail
      refine (f_Slots P Q _ (by omega) hT3).mono ?_
      rintro e w4 ⟨⟨v4, rfl, hrow4⟩, hb4⟩
      have s4 := hb4.size
      have k0 := (hb4.cell (p := ⟨w.heap.size, 0, none⟩) (by simp; omega)).trans k0
      have k1 := (hb4.cell (p := ⟨w.heap.size, 1, none⟩) (by simp; omega)).trans k1
      have hown4 := Lib.hid (owns_below hown3.out hb4)
      have hlt3 := hown3.out.lt
      have hlt4 := hown4.out.lt
      have hB4 : Below w.heap.size w w4 := by ((have shb4 := hb4.size); (try simp at shb4); (have shB3 := hB3.size); (try simp at shB3); (repeat' (first | (with_reducible exact Below.refl _ _) | (with_reducible refine Below.setCell ?_ ?_ _) | (with_reducible refine Below.alloc ?_ ?_ _) | (with_reducible refine Below.drew ?_) | (with_reducible refine Below.trans ?_ (Below.mono hb4 ?_)) | (with_reducible refine Below.trans ?_ (Below.mono hB3 ?_)) | go_size)))
      clear hb4 hB3 x0 x1 hown3 hT3
      go_wp2_with fail
      refine (f_Compact _ (sortL G) (w.heap.size + 1) G.length (by omega) _ hown4.out).mono ?_
      rintro e w5 ⟨⟨v5, rfl, hrow5⟩, hg5⟩
      have s5 := hg5.size
      have k0 := (but_cellB hg5 (by simp; omega) (fun r e => by have := hlt4 r e; simp; omega)).trans k0
      have k1 := (but_cellB hg5 (by simp; omega) (fun r e => by have := hlt4 r e; simp; omega)).trans k1
      have hrow45 := hrow4.kept hg5 (by
        by_cases hv : v4.ownBlock = none
        · exact .inl hv
        · refine .inr fun e => ?_
          obtain ⟨g, hg⟩ := Option.ne_none_iff_exists'.1 hv
          have h1 := (hrow4.lt g hg).1
          have h2 := (hlt3 g (e ▸ hg)).2
          omega)
      have hB5 : Below w.heap.size w w5 := hB4.grown hg5 (by omega) (fun k hk => by have := hlt4 k hk; omega)
      have hI4 := Lib.hid (Ints.of_owns hrow45)
      have hI5 := Lib.hid (Ints.of_owns hrow5)
      clear hrow4 hrow5 hrow45 hg5 hB4 hlt3 hlt4 hown4
      have hle := slotsK_le (P, Q) 96
      go_wp2_with fail
      refine (f_EqualI _ _ _ _ (by omega) (by rw [← HE.out]; omega) _ hI4.out hI5.out).mono ?_
      rintro e w6 ⟨rfl, hb6⟩
      rw [decide_eq_true HE.out]
      have s6 := hb6.size
      have k0 := (hb6.cell (p := ⟨w.heap.size, 0, none⟩) (by simp; omega)).trans k0
      have k1 := (hb6.cell (p := ⟨w.heap.size, 1, none⟩) (by simp; omega)).trans k1
      have hB6 : Below w.heap.size w w6 := by ((have shb6 := hb6.size); (try simp at shb6); (have shB5 := hB5.size); (try simp at shB5); (repeat' (first | (with_reducible exact Below.refl _ _) | (with_reducible refine Below.setCell ?_ ?_ _) | (with_reducible refine Below.alloc ?_ ?_ _) | (with_reducible refine Below.drew ?_) | (with_reducible refine Below.trans ?_ (Below.mono hb6 ?_)) | (with_reducible refine Below.trans ?_ (Below.mono hB5 ?_)) | go_size)))
      clear hb6 hB5 hI4 hI5 HE
      have hT6 := HT.out.grown h0 hB6
      have hz6 : w.heap.size < w6.heap.size := by omega
      clear s2 s3 s4 s5 s6 hsz hsX hle HGs
      go_wp2_with fail
      refine (f_Slots a b _ (by omega) hT6).mono ?_
      rintro e w7 ⟨⟨v7, rfl, hrow7⟩, hb7⟩
      have hz7 : w.heap.size < w7.heap.size := by have := hb7.size; omega
      have k0 := (hb7.cell (p := ⟨w.heap.size, 0, none⟩) (by simp; omega)).trans k0
      have k1 := (hb7.cell (p := ⟨w.heap.size, 1, none⟩) (by simp; omega)).trans k1
      have hB7 : Below w.heap.size w w7 := by ((have shb7 := hb7.size); (try simp at shb7); (have shB6 := hB6.size); (try simp at shB6); (repeat' (first | (with_reducible exact Below.refl _ _) | (with_reducible refine Below.setCell ?_ ?_ _) | (with_reducible refine Below.alloc ?_ ?_ _) | (with_reducible refine Below.drew ?_) | (with_reducible refine Below.trans ?_ (Below.mono hb7 ?_)) | (with_reducible refine Below.trans ?_ (Below.mono hB6 ?_)) | go_size)))
      have hI7 := Lib.hid (Ints.of_owns hrow7)
      clear hb7 hB6 hT6 hz6 hrow7
      obtain ⟨F, hF⟩ : ∃ F, slotsK (a, b) 96 = F := ⟨_, rfl⟩
      have hA := slots_all (a, b)
      have hFs := slotsK_slot (a, b)
      have hFh : ∀ x ∈ F, hasN (a, b) x = true := fun x hx => by
        rw [← hF] at hx
        obtain ⟨⟨h1, h2⟩, h3⟩ := (mem_slotsK (a, b) x 96).1 hx
        rw [hasN_yes ⟨by omega, by omega⟩]; exact h3
      have hFp := slots_strict (a, b)
      have hFle := slotsK_le (a, b) 96
      have hFpl : ∀ (x : Int) (q : Int) (hq : (if x < 0 then 0 else x) = q), cntF (a &&& lowBits q) (b &&& lowBits (q - 64)) = (cntL F x F.length : Nat) := fun x q hq => by rw [← hF]; exact place_list (a, b) x q hq
      have hnx : ∀ (n q : Int) (hq : (if n < 0 then 0 else n) = q) (hn : n ≤ 9223372036854775807) (w : World) (h0 : 0 < w.heap.size) (ht : Tab w), Calls Tryd.prog 11 #[MV a b, .int .i64 n] w fun e W' => e = .returned (.tuple #[.int .i64 (nextF F n).1, .bool (nextF F n).2]) ∧ Below w.heap.size w W' := fun n q hq hn w h0 ht => by rw [← hF]; exact f_Next a b n q hq hn w h0 ht
      rw [hF] at hA hFs hFp hFle hI7
      obtain ⟨R, hR⟩ : ∃ R, ofAll F = R := ⟨_, rfl⟩
      have hA2 : andAll [(a, b)] = R := by
        rw [← hR, hA]; unfold andAll; simp only [List.foldl_cons, List.foldl_nil, mAnd]; rw [BitVec.and_comm, BitVec.and_comm (x := mAll.2)]
      have HFs := Lib.hid hFs
      have HFh := Lib.hid hFh
      have HFp := Lib.hid hFp
      have HFpl := Lib.hid hFpl
      have HNX := Lib.hid hnx
      have HA := Lib.hid hA2
      have HOf := fun (w : World) (h : Ints w v7 F) => hR ▸ f_Of_ok v7 F HFs.out w h
      have HOf := Lib.hid HOf
      clear hF hA hFs hFh hFp hFpl hnx hA2 hR
      go_wp2_with fail
      refine (HOf.out _ hI7.out).mono ?_
      rintro e w8 ⟨rfl, hb8⟩
      obtain ⟨R1, R2⟩ := R
      have z8w0 : w.heap.size < w8.heap.size := (by have := hb8.size; (try simp at this); omega)
      have q8w0 := fun o => hb8.cell (p := ⟨w.heap.size, o, none⟩) (by first | omega | (simp; done) | (simp; omega))
      have r8w0 := fun o => hb8.frozen (p := ⟨w.heap.size, o, none⟩) (by first | omega | (simp; done) | (simp; omega))
      have hB8 : Below w.heap.size w w8 := by ((have shb8 := hb8.size); (try simp at shb8); (have shB7 := hB7.size); (try simp at shB7); (repeat' (first | (with_reducible exact Below.refl _ _) | (with_reducible refine Below.setCell ?_ ?_ _) | (with_reducible refine Below.alloc ?_ ?_ _) | (with_reducible refine Below.drew ?_) | (with_reducible refine Below.trans ?_ (Below.mono hb8 ?_)) | (with_reducible refine Below.trans ?_ (Below.mono hB7 ?_)) | go_size)))
      have hI8 := Lib.hid (hI7.out.grown hb8)
      have k0 := (hb8.cell (p := ⟨w.heap.size, 0, none⟩) (by simp; omega)).trans k0
      have k1 := (hb8.cell (p := ⟨w.heap.size, 1, none⟩) (by simp; omega)).trans k1
      have hz8 : w.heap.size < w8.heap.size := by have := hb8.size; omega
      clear q8w0 r8w0 hb8 hB7 hz7 HOf hI7
      go_wp2
      refine wp_grow [(5, .rel (fun v w => Masks w v [(a, b)]) (fun _ _ _ h hg => h.grown hg)), (6, .val (MV R1 R2))] 9 (by kernel_rfl) (by kernel_rfl) (by rfl) (by rfl) ?_
      simp only [List.take_succ_cons, List.take_zero, List.drop_succ_cons, List.drop_zero]
      repeat (first
        | (apply Der.quiet; (rfl); (rfl); (intro w' hw' hctx; have hc' := bcell hw'; have yw0 := fun o => hw'.cell (p := ⟨w.heap.size, o, none⟩) (by first | omega | (simp; done) | (simp; omega)); have yw80 := fun o => hw'.cell (p := ⟨w8.heap.size, o, none⟩) (by first | omega | (simp; done) | (simp; omega)); clear hctx; go_simp; first | exact rfl | exact ⟨rfl, rfl⟩); simp only [Act.put, List.setIfInBounds_toArray, List.set_cons_succ, List.set_cons_zero, Nat.reduceAdd])
        | (apply Der.skip; (rfl); simp only [Act.put, List.setIfInBounds_toArray, List.set_cons_succ, List.set_cons_zero, Nat.reduceAdd]))
      refine Der.rel (by rfl) (by rfl) (fun w' hw' hctx => ?_) (fun s5 => ?_)
      · (go_simp; exact ⟨Sl.fresh w' _ 1 _ rfl (by omega), (Below.refl _ _).alloc (Nat.le_refl _) _⟩)
      simp only [Act.put, List.setIfInBounds_toArray, List.set_cons_succ, List.set_cons_zero, Nat.reduceAdd]
      apply Der.val
      · rfl
      · rfl
      · (intro w' hw' hctx; go_simp; refine (f_And _ _ _ (hctx 5 _ _ (by kernel_rfl) rfl rfl)).mono ?_; rintro e w2 ⟨rfl, hb⟩; exact ⟨_, rfl, by rw [HA.out], hb⟩)
      simp only [Act.put, List.setIfInBounds_toArray, List.set_cons_succ, List.set_cons_zero, Nat.reduceAdd]
      repeat (first
        | (apply Der.quiet; (rfl); (rfl); (intro w' hw' hctx; have hc' := bcell hw'; have yw0 := fun o => hw'.cell (p := ⟨w.heap.size, o, none⟩) (by first | omega | (simp; done) | (simp; omega)); have yw80 := fun o => hw'.cell (p := ⟨w8.heap.size, o, none⟩) (by first | omega | (simp; done) | (simp; omega)); clear hctx; go_simp; first | exact rfl | exact ⟨rfl, rfl⟩); simp only [Act.put, List.setIfInBounds_toArray, List.set_cons_succ, List.set_cons_zero, Nat.reduceAdd])
        | (apply Der.skip; (rfl); simp only [Act.put, List.setIfInBounds_toArray, List.set_cons_succ, List.set_cons_zero, Nat.reduceAdd]))
      refine Der.nil (fun w9 hgw9 hctx => ?_)
      clear hctx
      have hb9 : Below _ _ w9 := hgw9
      clear hgw9
      have s9 := hb9.size
      simp at s9
      have k0 := (hb9.cell (p := ⟨w.heap.size, 0, none⟩) (by simp; omega)).trans ((((Below.refl w8.heap.size w8).alloc (Nat.le_refl _) _).cell (p := ⟨w.heap.size, 0, none⟩) (by simp; omega)).trans k0)
      have k1 := (hb9.cell (p := ⟨w.heap.size, 1, none⟩) (by simp; omega)).trans ((((Below.refl w8.heap.size w8).alloc (Nat.le_refl _) _).cell (p := ⟨w.heap.size, 1, none⟩) (by simp; omega)).trans k1)
      have hB9 : Below w.heap.size w w9 := by ((have shb9 := hb9.size); (try simp at shb9); (have shB8 := hB8.size); (try simp at shB8); (repeat' (first | (with_reducible exact Below.refl _ _) | (with_reducible refine Below.setCell ?_ ?_ _) | (with_reducible refine Below.alloc ?_ ?_ _) | (with_reducible refine Below.drew ?_) | (with_reducible refine Below.trans ?_ (Below.mono hb9 ?_)) | (with_reducible refine Below.trans ?_ (Below.mono hB8 ?_)) | go_size)))
      have hI9 := hI8.out.grown (show Below w8.heap.size w8 w9 by ((have shb9 := hb9.size); (try simp at shb9); (repeat' (first | (with_reducible exact Below.refl _ _) | (with_reducible refine Below.setCell ?_ ?_ _) | (with_reducible refine Below.alloc ?_ ?_ _) | (with_reducible refine Below.drew ?_) | (with_reducible refine Below.trans ?_ (Below.mono hb9 ?_)) | go_size))))
      have hz9 : w.heap.size < w9.heap.size := by omega
      have hT9 := Lib.hid (HT.out.grown h0 hB9)
      clear hb9 hB8 hI8 hz8 s9 HT HA
      obtain ⟨p7, c7, rfl, hl7, hm7, hcell7⟩ := hI9.open
      have HC7 := Lib.hid hcell7
      clear hcell7 hI9
      go_wp2
      go_loopw [12, 78] (fun v i wr => ∃ k : Nat, k ≤ F.length ∧ i = .int .i64 k ∧ v = .int .i64 (fromK F k) ∧ Below w9.heap.size w9 wr) (fun _ i _ => F.length - (intOf i).toNat)
      case atStart => exact ⟨0, by omega, rfl, rfl, Below.refl _ _⟩
      case round =>
        obtain ⟨k, hk, rfl, rfl, hbr⟩ := hrel
        have sr := hbr.size
        have n0 := (hbr.cell (p := ⟨w.heap.size, 0, none⟩) hz9).trans k0
        have n1 := (hbr.cell (p := ⟨w.heap.size, 1, none⟩) hz9).trans k1
        have hTr := hT9.out.grown (by omega) hbr
        by_cases hlt : k < F.length
        · obtain ⟨x, b', off, hx, rfl, hlt', g1⟩ : ∃ x, ∃ b off, F[k] = x ∧ p7 = some ⟨b, off, none⟩ ∧ b < w9.heap.size ∧ w9.cell? ⟨b, off + k, none⟩ = some (.int .i64 x) := by
            obtain ⟨b', off', h1, h2, h3⟩ := HC7.out k hlt
            exact ⟨_, b', off', rfl, h1, h2, h3⟩
          have e1 := (hbr.cell (p := ⟨b', off + k, none⟩) hlt').trans g1
          have hxs := HFs.out x (hx ▸ List.getElem_mem hlt)
          have hxn := next_k HFp.out (fun y hy => (HFs.out y hy).1) hlt
          have hxp := place_k HFp.out hlt
          have hxf := from_succ hlt
          have hxh := HFh.out x (hx ▸ List.getElem_mem hlt)
          rw [hx] at hxn hxp hxf
          have hfr : 0 ≤ fromK F k ∧ fromK F k ≤ 96 := by
            cases k with
            | zero => simp [fromK]
            | succ j =>
              have := HFs.out (F[j]'(by omega)) (List.getElem_mem _)
              rw [from_succ (show j < F.length by omega)]
              obtain ⟨a1, a2⟩ := this
              omega
          obtain ⟨x0, x1⟩ := hxs
          have hpl := Lib.hid (HFpl.out x x (by rw [if_neg (by omega)]))
          rw [hxp] at hpl
          have HXN := Lib.hid hxn
          have HXF := Lib.hid hxf
          have HXH := Lib.hid hxh
          obtain ⟨fk, hfk⟩ : ∃ fk, fromK F k = fk := ⟨_, rfl⟩
          rw [hfk] at HXN hfr
          simp only [hfk]
          clear g1 hx hxn hxp hxf hxh hfk
          go_wp2_with fail
          refine (HNX.out fk fk (by rw [if_neg (by omega)]) (by omega) _ (by omega) hTr).mono ?_
          rintro e w5 ⟨rfl, hb5⟩
          rw [HXN.out]
          have s5 := hb5.size
          have n0 := (hb5.cell (p := ⟨w.heap.size, 0, none⟩) (by simp; omega)).trans n0
          have n1 := (hb5.cell (p := ⟨w.heap.size, 1, none⟩) (by simp; omega)).trans n1
          go_wp2_with fail
          refine (f_Place _ _ x x (by rw [if_neg (by omega)]) x0 (by omega) _).mono ?_
          rintro e w6 ⟨rfl, hb6⟩
          rw [hpl.out]
          have s6 := hb6.size
          have n0 := (hb6.cell (p := ⟨w.heap.size, 0, none⟩) (by simp; omega)).trans n0
          have n1 := (hb6.cell (p := ⟨w.heap.size, 1, none⟩) (by simp; omega)).trans n1
          go_wp2_with fail
          refine (f_Has_any _ _ x _).mono ?_
          rintro e w7 ⟨rfl, hb7⟩
          rw [HXH.out]
          go_wp2
          go_roundw
          case rel => exact ⟨k + 1, by omega, by go_num, by rw [HXF.out], by ((have shb7 := hb7.size); (try simp at shb7); (have shb6 := hb6.size); (try simp at shb6); (have shb5 := hb5.size); (try simp at shb5); (have shbr := hbr.size); (try simp at shbr); (repeat' (first | (with_reducible exact Below.refl _ _) | (with_reducible refine Below.setCell ?_ ?_ _) | (with_reducible refine Below.alloc ?_ ?_ _) | (with_reducible refine Below.drew ?_) | (with_reducible refine Below.trans ?_ (Below.mono hb7 ?_)) | (with_reducible refine Below.trans ?_ (Below.mono hb6 ?_)) | (with_reducible refine Below.trans ?_ (Below.mono hb5 ?_)) | (with_reducible refine Below.trans ?_ (Below.mono hbr ?_)) | go_size)))⟩
          case measure => simp [intOf]; omega
        · have hkl : k = F.length := by omega
          subst hkl
          have hxn := next_end HFp.out
          have hxp := place_end (L := F) (fun y hy => (HFs.out y hy).2)
          have hfr : 0 ≤ fromK F F.length ∧ fromK F F.length ≤ 96 := by
            rcases Nat.eq_zero_or_pos F.length with h | h
            · rw [h]; simp [fromK]
            · have := HFs.out (F[F.length - 1]'(by omega)) (List.getElem_mem _)
              have e : F.length = (F.length - 1) + 1 := by omega
              rw [e, from_succ (show F.length - 1 < F.length by omega)]
              obtain ⟨a1, a2⟩ := this
              omega
          have hpl := Lib.hid (HFpl.out 96 96 (by rfl))
          rw [hxp] at hpl
          have HXN := Lib.hid hxn
          obtain ⟨fk, hfk⟩ : ∃ fk, fromK F F.length = fk := ⟨_, rfl⟩
          rw [hfk] at HXN hfr
          simp only [hfk]
          clear hxn hxp hfk
          go_wp2_with fail
          refine (HNX.out fk fk (by rw [if_neg (by omega)]) (by omega) _ (by omega) hTr).mono ?_
          rintro e w5 ⟨rfl, hb5⟩
          rw [HXN.out]
          have s5 := hb5.size
          have n0 := (hb5.cell (p := ⟨w.heap.size, 0, none⟩) (by simp; omega)).trans n0
          have n1 := (hb5.cell (p := ⟨w.heap.size, 1, none⟩) (by simp; omega)).trans n1
          go_wp2_with fail
          refine (f_Place _ _ 96 96 (by rfl) (by omega) (by omega) _).mono ?_
          rintro e w6 ⟨rfl, hb6⟩
          rw [hpl.out]
          go_wp2
          go_ret
          exact ⟨rfl, by ((have shb6 := hb6.size); (try simp at shb6); (have shb5 := hb5.size); (try simp at shb5); (have shbr := hbr.size); (try simp at shbr); (have shB9 := hB9.size); (try simp at shB9); (repeat' (first | (with_reducible exact Below.refl _ _) | (with_reducible refine Below.setCell ?_ ?_ _) | (with_reducible refine Below.alloc ?_ ?_ _) | (with_reducible refine Below.drew ?_) | (with_reducible refine Below.trans ?_ (Below.mono hb6 ?_)) | (with_reducible refine Below.trans ?_ (Below.mono hb5 ?_)) | (with_reducible refine Below.trans ?_ (Below.mono hbr ?_)) | (with_reducible refine Below.trans ?_ (Below.mono hB9 ?_)) | go_size)))⟩
end Go.Proofs.YtgcjfonbppchlaaDoor
