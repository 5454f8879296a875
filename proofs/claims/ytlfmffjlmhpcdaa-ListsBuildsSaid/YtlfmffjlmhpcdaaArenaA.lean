/- Versions and cells that may be: the program's word and the document's. -/
import Derived.Test.YtlfmffjlmhpcdaaNearest
namespace Go.Proofs.Ytlfmffjlmhpcdaa
open Go.RowKit
set_option maxRecDepth 100000
attribute [local irreducible] Der

def endOK (b e : Int) : Bool := decide (e = 0) || (decide (b < e) && decide (e ≤ 1099511627776))
/-- May a version be? -/
def verOK (b e : Int) (l : List Int) : Bool := vecOK l && (decide (1 ≤ b) && (decide (b ≤ 1099511627776) && endOK b e))
theorem end_cases (b e : Int) : (e = 0 ∧ endOK b e = true) ∨ (e ≠ 0 ∧ b < e ∧ e ≤ 1099511627776 ∧ endOK b e = true) ∨ (e ≠ 0 ∧ b < e ∧ 1099511627776 < e ∧ endOK b e = false) ∨ (e ≠ 0 ∧ e ≤ b ∧ endOK b e = false) := by
  unfold endOK
  by_cases h : e = 0
  · exact .inl ⟨h, by simp [h]⟩
  · by_cases h1 : b < e
    · by_cases h2 : e ≤ 1099511627776
      · exact .inr (.inl ⟨h, h1, h2, by simp [h1, h2]⟩)
      · exact .inr (.inr (.inl ⟨h, h1, by omega, by simp [h, h2]⟩))
    · exact .inr (.inr (.inr ⟨h, by omega, by simp [h, h1]⟩))
theorem ver_cases (b e : Int) (l : List Int) : (vecOK l = false ∧ verOK b e l = false) ∨ (vecOK l = true ∧ b < 1 ∧ verOK b e l = false) ∨ (vecOK l = true ∧ 1 ≤ b ∧ 1099511627776 < b ∧ verOK b e l = false) ∨ (vecOK l = true ∧ 1 ≤ b ∧ b ≤ 1099511627776 ∧ verOK b e l = endOK b e) := by
  unfold verOK
  cases vecOK l
  · exact .inl ⟨rfl, rfl⟩
  · by_cases h1 : b < 1
    · exact .inr (.inl ⟨rfl, h1, by rw [decide_eq_false (show ¬ 1 ≤ b by omega)]; rfl⟩)
    · by_cases h2 : 1099511627776 < b
      · exact .inr (.inr (.inl ⟨rfl, by omega, h2, by rw [decide_eq_true (show 1 ≤ b by omega), decide_eq_false (show ¬ b ≤ 1099511627776 by omega)]; rfl⟩))
      · exact .inr (.inr (.inr ⟨rfl, by omega, by omega, by rw [decide_eq_true (show 1 ≤ b by omega), decide_eq_true (show b ≤ 1099511627776 by omega)]; rfl⟩))
def verE (b e : Int) (l : List Int) : Int := if verOK b e l then 0 else 171
set_option maxHeartbeats 4000000 in
theorem f_CheckVersion (b e : Int) (v : Value) (l : List Int) (w : World) (h : VecV w v l) : Calls Try.prog 77 #[.agg #[.int .u64 b, .int .u64 e, v]] w fun x w' => x = .returned (.int .i64 (verE b e l)) ∧ Below w.heap.size w w' := by
  obtain ⟨a, cap, rfl, hl, hm⟩ := h.form
  have H := Lib.hid h
  have hV : ∀ W, Below w.heap.size w W → VecV W (.slice a l.length cap) l := fun W hb => h.grown hb
  have HV := Lib.hid hV
  clear h hV
  rcases end_cases b e with ⟨h0, hE⟩ | ⟨h0, h1, h2, hE⟩ | ⟨h0, h1, h2, hE⟩ | ⟨h0, h1, hE⟩
  all_goals
    rcases ver_cases b e l with ⟨g0, hO⟩ | ⟨g0, g1, hO⟩ | ⟨g0, g1, g2, hO⟩ | ⟨g0, g1, g2, hO⟩
    all_goals try (exfalso; omega)
    all_goals
      have HC := Lib.hid (show vecE l = if vecOK l then 0 else 150 from rfl)
      rw [g0] at HC
      have HO : Hid (verE b e l = if verOK b e l then 0 else 171) := Lib.hid rfl
      rw [hO] at HO
      try rw [hE] at HO
      have ee : (e == 0) = decide (e = 0) := by rw [Bool.eq_iff_iff]; simp
      first | rw [decide_eq_true h0] at ee | rw [decide_eq_false h0] at ee
      first | have dm : decide (e ≤ 1099511627776) = false := decide_eq_false (by omega) | have dm : decide (e ≤ 1099511627776) = true := decide_eq_true (by omega) | skip
      clear g0 hO hE h0
      go_enter Try.func77, Try.ntmps77
      go_wp2_with fail
      refine (f_vecCheck _ l _ (HV.out _ (by ((repeat' (first | (with_reducible exact Below.refl _ _) | (with_reducible refine Below.setCell ?_ ?_ _) | (with_reducible refine Below.alloc ?_ ?_ _) | (with_reducible refine Below.drew ?_) | (with_reducible refine Below.trans ?_ (Below.mono (by assumption) ?_)) | go_size)))))).mono ?_
      rintro x w1 ⟨rfl, hb1⟩
      rw [HC.out]
      have z1w0 : w.heap.size < w1.heap.size := (by have := hb1.size; (try simp at this); omega)
      have q1w0 := fun o => hb1.cell (p := ⟨w.heap.size, o, none⟩) (by first | omega | (simp; done) | (simp; omega))
      have r1w0 := fun o => hb1.frozen (p := ⟨w.heap.size, o, none⟩) (by first | omega | (simp; done) | (simp; omega))
      go_wp2
      go_ret
      refine ⟨by rw [HO.out]; rfl, ?_⟩
      ((have shb1 := hb1.size); (try simp at shb1); (repeat' (first | (with_reducible exact Below.refl _ _) | (with_reducible refine Below.setCell ?_ ?_ _) | (with_reducible refine Below.alloc ?_ ?_ _) | (with_reducible refine Below.drew ?_) | (with_reducible refine Below.trans ?_ (Below.mono hb1 ?_)) | go_size)))
set_option maxHeartbeats 4000000 in
theorem r7RightVersion (b e : Int) (v : Value) (l : List Int) (w : World) (h : VecV w v l) : Calls Try.prog 98 #[.agg #[.int .u64 b, .int .u64 e, v]] w fun x w' => x = .returned (.bool (verOK b e l)) ∧ Below w.heap.size w w' := by
  obtain ⟨a, cap, rfl, hl, hm⟩ := h.form
  have hV : ∀ W, Below w.heap.size w W → VecV W (.slice a l.length cap) l := fun W hb => h.grown hb
  have HV := Lib.hid hV
  clear h hV
  by_cases hbad : b < 1 ∨ 1099511627776 < b ∨ 1099511627776 < e ∨ (e ≠ 0 ∧ e ≤ b)
  · have HO := Lib.hid (show verOK b e l = false by
      rcases ver_cases b e l with ⟨-, hO⟩ | ⟨-, -, hO⟩ | ⟨-, -, -, hO⟩ | ⟨g0, g1, g2, hO⟩
      · exact hO
      · exact hO
      · exact hO
      · rw [hO]
        rcases end_cases b e with ⟨h0, hE⟩ | ⟨h0, h1, h2, hE⟩ | ⟨h0, h1, h2, hE⟩ | ⟨h0, h1, hE⟩
        · omega
        · omega
        · exact hE
        · exact hE)
    by_cases h1 : b < 1
    · clear hbad
      go_enter Try.func98, Try.ntmps98
      go_wp2
      go_ret
      refine ⟨by rw [HO.out]; rfl, ?_⟩
      ((repeat' (first | (with_reducible exact Below.refl _ _) | (with_reducible refine Below.setCell ?_ ?_ _) | (with_reducible refine Below.alloc ?_ ?_ _) | (with_reducible refine Below.drew ?_) | (with_reducible refine Below.trans ?_ (Below.mono (by assumption) ?_)) | go_size)))
    · by_cases h2 : 1099511627776 < b
      · clear hbad
        go_enter Try.func98, Try.ntmps98
        go_wp2
        go_ret
        refine ⟨by rw [HO.out]; rfl, ?_⟩
        ((repeat' (first | (with_reducible exact Below.refl _ _) | (with_reducible refine Below.setCell ?_ ?_ _) | (with_reducible refine Below.alloc ?_ ?_ _) | (with_reducible refine Below.drew ?_) | (with_reducible refine Below.trans ?_ (Below.mono (by assumption) ?_)) | go_size)))
      · by_cases h3 : 1099511627776 < e
        · clear hbad
          go_enter Try.func98, Try.ntmps98
          go_wp2
          go_ret
          refine ⟨by rw [HO.out]; rfl, ?_⟩
          ((repeat' (first | (with_reducible exact Below.refl _ _) | (with_reducible refine Below.setCell ?_ ?_ _) | (with_reducible refine Below.alloc ?_ ?_ _) | (with_reducible refine Below.drew ?_) | (with_reducible refine Below.trans ?_ (Below.mono (by assumption) ?_)) | go_size)))
        · have h4 : e ≤ b := by omega
          have h5 : (e != 0) = true := by simp; omega
          clear hbad
          go_enter Try.func98, Try.ntmps98
          go_wp2
          go_ret
          refine ⟨by rw [HO.out]; rfl, ?_⟩
          ((repeat' (first | (with_reducible exact Below.refl _ _) | (with_reducible refine Below.setCell ?_ ?_ _) | (with_reducible refine Below.alloc ?_ ?_ _) | (with_reducible refine Below.drew ?_) | (with_reducible refine Below.trans ?_ (Below.mono (by assumption) ?_)) | go_size)))
  · have HO := Lib.hid (show verOK b e l = vecOK l by
      rcases ver_cases b e l with ⟨g, hO⟩ | ⟨_, g1, hO⟩ | ⟨_, _, g2, hO⟩ | ⟨g0, g1, g2, hO⟩
      · rw [hO, g]
      · omega
      · omega
      · rw [hO, g0]
        rcases end_cases b e with ⟨h0, hE⟩ | ⟨h0, h1, h2, hE⟩ | ⟨h0, h1, h2, hE⟩ | ⟨h0, h1, hE⟩
        · exact hE
        · exact hE
        · omega
        · omega)
    have h1 : ¬ b < 1 := by omega
    have h2 : ¬ 1099511627776 < b := by omega
    have h3 : ¬ 1099511627776 < e := by omega
    by_cases h4 : e = 0
    · have h5 : (e != 0) = false := by simp [h4]
      clear hbad h4
      go_enter Try.func98, Try.ntmps98
      go_wp2_with fail
      refine (r5Right _ l _ (HV.out _ (by ((repeat' (first | (with_reducible exact Below.refl _ _) | (with_reducible refine Below.setCell ?_ ?_ _) | (with_reducible refine Below.alloc ?_ ?_ _) | (with_reducible refine Below.drew ?_) | (with_reducible refine Below.trans ?_ (Below.mono (by assumption) ?_)) | go_size)))))).mono ?_
      rintro x w1 ⟨rfl, hb1⟩
      go_wp2
      go_ret
      refine ⟨by rw [HO.out]; rfl, ?_⟩
      ((have shb1 := hb1.size); (try simp at shb1); (repeat' (first | (with_reducible exact Below.refl _ _) | (with_reducible refine Below.setCell ?_ ?_ _) | (with_reducible refine Below.alloc ?_ ?_ _) | (with_reducible refine Below.drew ?_) | (with_reducible refine Below.trans ?_ (Below.mono hb1 ?_)) | go_size)))
    · have h5 : (e != 0) = true := by simp [h4]
      have h6 : ¬ e ≤ b := by omega
      clear hbad h4
      go_enter Try.func98, Try.ntmps98
      go_wp2_with fail
      refine (r5Right _ l _ (HV.out _ (by ((repeat' (first | (with_reducible exact Below.refl _ _) | (with_reducible refine Below.setCell ?_ ?_ _) | (with_reducible refine Below.alloc ?_ ?_ _) | (with_reducible refine Below.drew ?_) | (with_reducible refine Below.trans ?_ (Below.mono (by assumption) ?_)) | go_size)))))).mono ?_
      rintro x w1 ⟨rfl, hb1⟩
      go_wp2
      go_ret
      refine ⟨by rw [HO.out]; rfl, ?_⟩
      ((have shb1 := hb1.size); (try simp at shb1); (repeat' (first | (with_reducible exact Below.refl _ _) | (with_reducible refine Below.setCell ?_ ?_ _) | (with_reducible refine Below.alloc ?_ ?_ _) | (with_reducible refine Below.drew ?_) | (with_reducible refine Below.trans ?_ (Below.mono hb1 ?_)) | go_size)))
end Go.Proofs.Ytlfmffjlmhpcdaa
