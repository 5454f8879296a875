/- The law's some; what a log that is nil tells. -/
import Derived.Test.YtkekidjjmcmjhaaGreatWalW
namespace Go.Proofs.YtkekidjjmcmjhaaGreat
open Go.RowKit
set_option maxRecDepth 100000
attribute [local irreducible] Der

theorem Byt.cut {w : World} {a : Option Addr} {n c k : Nat} {l : List Int} (h : Byt w (.slice a n c) l) (hk : k ≤ l.length) : Byt w (.slice a k c) (l.take k) := by
  obtain ⟨a', cap, e, h1, h2, h3⟩ := h.1.form
  simp only [Value.slice.injEq] at e
  obtain ⟨rfl, rfl, rfl⟩ := e
  have hlen : (l.take k).length = k := by simp; omega
  refine ⟨⟨a, c, by rw [hlen], by omega, by omega, fun hne => ?_⟩, ?_⟩
  · obtain ⟨b, off, rfl, hlt, hc⟩ := h3 (by intro e; simp at e; subst e; simp at hne)
    refine ⟨b, off, rfl, hlt, fun i hi => ?_⟩
    simp at hi
    rw [hc i (by simp; omega)]
    simp
  · rcases h.2 with h4 | ⟨ad, n', c', h4⟩
    · simp only [Value.slice.injEq] at h4
      obtain ⟨rfl, h5, rfl⟩ := h4
      have : k = 0 := by omega
      subst this
      exact .inl rfl
    · simp only [Value.slice.injEq] at h4
      obtain ⟨rfl, -, -⟩ := h4
      exact NilA.of_some _ _ _
theorem run_cutB (a : Option Addr) (n c k : Nat) (h : k ≤ n) (hc : n ≤ c) (hm : c ≤ 9223372036854775807) (w : World) :
    (Instr.sliceAt 24 (.slice a n c) none (some (.int .i64 k)) none).run Tryz.prog w = .ok (.slice a k c) w := by
  have h2 : k ≤ c := by omega
  go_simp

theorem f_some (v : Value) (l : List Int) (w : World) (h : Byt w v l) :
    Calls Tryz.prog 20 #[v] w fun e w' => (∃ v', e = .returned v' ∧ w'.ownsRow w.heap.size 5 1 v' (l.take 300).length ((l.take 300).map (Value.int .u8))) ∧ Below w.heap.size w w' := by
  obtain ⟨a, cap, rfl, hl, hm, -⟩ := h.open
  obtain ⟨m, hmm⟩ : ∃ m : Nat, min (l.length : Int) 300 = (m : Int) := ⟨min l.length 300, by omega⟩
  have hml : m ≤ l.length := by omega
  have ht : l.take 300 = l.take m := by
    rcases Nat.lt_or_ge 300 l.length with h9 | h9
    · rw [show m = 300 by omega]
    · rw [List.take_of_length_le h9, List.take_of_length_le (by omega)]
  rw [ht]
  have hlm : (l.take m).length = m := by simp; omega
  have HB := Lib.hid (h.cut hml)
  have r1 := run_cutB a l.length cap m hml hl hm
  have HLM := Lib.hid hlm
  have own := World.ownsRow_made (e := 5) (size := 1) w #[] 0 (Nat.le_refl _) (by decide) rfl
  have HO := Lib.hid own
  have hB : Below w.heap.size w (w.alloc (.cells #[] 5)) := (Below.refl _ _).alloc (Nat.le_refl _) _
  have hm3 : m ≤ 300 := by omega
  clear h ht hlm own
  go_enter Tryz.func20, Tryz.ntmps20
  go_wp2_with (at_builtin; refine append_any rfl _ _ 24 rfl w.heap.size 5 (.int .u8 0) 1 1 Tryz.underlying24 info_byte rfl (by decide) _ 0 [] rfl HO.out _ m ((l.take m).map (Value.int .u8)) rfl (by have := (HB.out.1.grown hB); rw [HLM.out] at this; exact this) HB.out.2 (by rw [List.length_map, HLM.out, Nat.mul_one]) (Byt.one _) (by unfold maxLen; omega) (by omega) (by first | omega | (simp; done) | (simp; omega)) ?_; intro v1 w1 hown1 hg1; refine Hid.out ?_)
  refine Lib.hid ?_
  have hb1 : Below w.heap.size w w1 := hB.grown hg1 (by simp) (fun q hq => by have e : w.heap.size = q := Option.some.inj hq; omega)
  rw [Nat.zero_add, List.nil_append] at hown1
  have HO1 := Lib.hid hown1
  clear hown1 hg1
  go_wp2
  go_ret
  exact ⟨⟨_, rfl, by rw [HLM.out]; exact HO1.out⟩, hb1⟩

theorem n_WalMost (w : World) : Calls Tryz.prog 14 #[.pointer none] w fun e w' => e = .returned (.int .i64 0) ∧ Below w.heap.size w w' := by
  go_enter Tryz.func14, Tryz.ntmps14
  go_wp2
  go_ret
  exact ⟨rfl, by first | exact Below.refl _ _ | exact (Below.refl _ _).alloc (Nat.le_refl _) _⟩
theorem n_WalLeft (w : World) : Calls Tryz.prog 29 #[.pointer none] w fun e w' => e = .returned (.int .i64 0) ∧ Below w.heap.size w w' := by
  go_enter Tryz.func29, Tryz.ntmps29
  go_wp2
  go_ret
  exact ⟨rfl, by first | exact Below.refl _ _ | exact (Below.refl _ _).alloc (Nat.le_refl _) _⟩
theorem n_WalLen (w : World) : Calls Tryz.prog 34 #[.pointer none] w fun e w' => e = .returned (.int .i64 0) ∧ Below w.heap.size w w' := by
  go_enter Tryz.func34, Tryz.ntmps34
  go_wp2
  go_ret
  exact ⟨rfl, by first | exact Below.refl _ _ | exact (Below.refl _ _).alloc (Nat.le_refl _) _⟩
theorem n_WalBroken (w : World) : Calls Tryz.prog 27 #[.pointer none] w fun e w' => e = .returned (.bool false) ∧ Below w.heap.size w w' := by
  go_enter Tryz.func27, Tryz.ntmps27
  go_wp2
  go_ret
  exact ⟨rfl, by first | exact Below.refl _ _ | exact (Below.refl _ _).alloc (Nat.le_refl _) _⟩
theorem n_WalSnapshot (w : World) : Calls Tryz.prog 16 #[.pointer none] w fun e w' => e = .returned (.slice none 0 0) ∧ Below w.heap.size w w' := by
  go_enter Tryz.func16, Tryz.ntmps16
  go_wp2
  go_ret
  exact ⟨rfl, by first | exact Below.refl _ _ | exact (Below.refl _ _).alloc (Nat.le_refl _) _⟩
theorem n_WalAll (w : World) : Calls Tryz.prog 18 #[.pointer none] w fun e w' => e = .returned (.slice none 0 0) ∧ Below w.heap.size w w' := by
  go_enter Tryz.func18, Tryz.ntmps18
  go_wp2
  go_ret
  exact ⟨rfl, by first | exact Below.refl _ _ | exact (Below.refl _ _).alloc (Nat.le_refl _) _⟩
theorem n_asked (v : Value) (w : World) : Calls Tryz.prog 54 #[.pointer none, v] w fun e w' => e = .returned (.int .i64 1) ∧ Below w.heap.size w w' := by
  go_enter Tryz.func54, Tryz.ntmps54
  go_wp2
  go_ret
  exact ⟨rfl, Below.refl _ _⟩
theorem n_WalAppend (a : Option Addr) (n c : Nat) (w : World) : Calls Tryz.prog 21 #[.pointer none, .slice a n c] w fun e w' => e = .returned (.int .i64 1) ∧ Below w.heap.size w w' := by
  go_enter Tryz.func21, Tryz.ntmps21
  go_wp2_with fail
  have b1 : Below w.heap.size w ((w.alloc (.cells #[.pointer none] 31)).alloc (.cells #[.slice a n c] 24)) := by ((repeat' (first | (with_reducible exact Below.refl _ _) | (with_reducible refine Below.setCell ?_ ?_ _) | (with_reducible refine Below.alloc ?_ ?_ _) | (with_reducible refine Below.drew ?_) | (with_reducible refine Below.trans ?_ (Below.mono (by assumption) ?_)) | go_size)))
  refine (n_asked _ _).mono ?_
  rintro e w2 ⟨rfl, hb2⟩
  have b2 := b1.trans (hb2.mono b1.size)
  go_wp2
  go_ret
  exact ⟨rfl, b2⟩
theorem n_WalCheckpoint (a : Option Addr) (n c : Nat) (w : World) : Calls Tryz.prog 22 #[.pointer none, .slice a n c] w fun e w' => e = .returned (.int .i64 1) ∧ Below w.heap.size w w' := by
  go_enter Tryz.func22, Tryz.ntmps22
  go_wp2_with fail
  refine (n_asked _ _).mono ?_
  rintro e w2 ⟨rfl, hb2⟩
  go_wp2
  go_ret
  exact ⟨rfl, hb2⟩
theorem n_Format (most : Int) (w : World) : Calls Tryz.prog 33 #[.pointer none, .int .i64 most] w fun e w' => e = .returned (.tuple #[.pointer none, .int .i64 1]) ∧ Below w.heap.size w w' := by
  go_enter Tryz.func33, Tryz.ntmps33
  go_wp2
  go_returns
  exact ⟨rfl, Below.refl _ _⟩
theorem n_with (x : Int) (g1 g2 : Value) (w : World) : Calls Tryz.prog 39 #[.pointer none, .int .i64 x, g1, g2] w fun e w' => e = .returned (.int .i64 1) ∧ Below w.heap.size w w' := by
  go_enter Tryz.func39, Tryz.ntmps39
  go_wp2_with fail
  refine (f_lives_nil _ _).mono ?_
  rintro e w1 ⟨rfl, rfl⟩
  go_wp2
  go_ret
  exact ⟨rfl, (Below.refl _ _).alloc (Nat.le_refl _) _⟩
theorem n_Read (x : Int) (w : World) : Calls Tryz.prog 24 #[.pointer none, .int .i64 x] w fun e w' => e = .returned (.tuple #[.slice none 0 0, .int .i64 1]) ∧ Below w.heap.size w w' := by
  go_enter Tryz.func24, Tryz.ntmps24
  go_wp2_with fail
  refine (n_with x _ _ _).mono ?_
  rintro e w1 ⟨rfl, hb1⟩
  have c0 : w1.cell? ⟨w.heap.size, 0, none⟩ = some (.slice none 0 0) := by rw [hb1.cell (p := ⟨w.heap.size, 0, none⟩) (by simp)]; go_simp
  have f0 : w1.frozen? ⟨w.heap.size, 0, none⟩ = false := by rw [hb1.frozen (p := ⟨w.heap.size, 0, none⟩) (by simp)]; go_simp
  have hbb := ((Below.refl w.heap.size w).alloc (Nat.le_refl _) (.cells #[.slice none 0 0] 24)).trans (hb1.mono (by simp))
  have HB := Lib.hid hbb
  clear hb1 hbb
  go_wp2
  exact bodyPost_ret (v := .tuple #[.slice none 0 0, .int .i64 1]) (by simp only [results, Tryz.results24]; go_simp) rfl ⟨rfl, by first | exact HB.out | exact HB.out.setCell (Nat.le_refl _) _⟩
theorem n_Open (w : World) : Calls Tryz.prog 11 #[.pointer none] w fun e w' => e = .returned (.tuple #[.pointer none, .int .i64 1]) ∧ Below w.heap.size w w' := by
  go_enter Tryz.func11, Tryz.ntmps11
  go_wp2_with fail
  refine (n_Read 0 _).mono ?_
  rintro e w1 ⟨rfl, hb1⟩
  have hbb := ((Below.refl w.heap.size w).alloc (Nat.le_refl _) (.cells #[.pointer none] 25)).trans (hb1.mono (by simp))
  have HB := Lib.hid hbb
  clear hb1 hbb
  go_wp2
  go_returns
  exact ⟨rfl, by first | exact HB.out | exact (HB.out.alloc (by have := HB.out.size; omega) _)⟩
end Go.Proofs.YtkekidjjmcmjhaaGreat
