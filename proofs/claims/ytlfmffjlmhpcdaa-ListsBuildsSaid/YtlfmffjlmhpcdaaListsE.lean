/- lists.put, lists.Same, and the document's Same. -/
import Derived.Test.YtlfmffjlmhpcdaaListsD
namespace Go.Proofs.Ytlfmffjlmhpcdaa
open Go.RowKit
set_option maxRecDepth 100000
attribute [local irreducible] Der

/-- What put does to a mask. -/
def putD (p : Nat) (s : Int) (i : Nat) (m : M) : M := if i = p then (m.1 ||| bit0 s, m.2 ||| bit1 s) else m
set_option maxHeartbeats 1000000 in
theorem c_put (B1 B2 : Nat) (p : Nat) (s : Int) (i : Nat) (m : M) (hs : isSlot s) (hm : i = p → chk m.2 = 0) (w : World) (h1 : w.cell? ⟨B1, 0, none⟩ = some (.int .i64 (p : Int))) (h2 : w.cell? ⟨B2, 0, none⟩ = some (.int .i64 s)) :
    Calls Try.prog 96 #[.int .i64 (i : Int), MV m.1 m.2, .pointer (some ⟨B1, 0, none⟩), .pointer (some ⟨B2, 0, none⟩)] w fun e w' => e = .returned (MV (putD p s i m).1 (putD p s i m).2) ∧ Below w.heap.size w w' := by
  obtain ⟨m1, m2⟩ := m
  have l1 : B1 < w.heap.size := World.block_lt_of_cell? w _ h1
  have l2 : B2 < w.heap.size := World.block_lt_of_cell? w _ h2
  by_cases hip : i = p
  · have HP := Lib.hid (show putD p s i (m1, m2) = (m1 ||| bit0 s, m2 ||| bit1 s) by unfold putD; rw [if_pos hip])
    have hq : ((i : Int) == (p : Int)) = true := by simp [hip]
    have HC := Lib.hid (hm hip)
    have HS := Lib.hid hs
    clear hm hs hip
    go_enter Try.func96, Try.ntmps96
    go_wp2_with fail
    refine (f_With_ok m1 m2 s HC.out HS.out _).mono ?_
    rintro e w1 ⟨rfl, hb1⟩
    have z1w0 : w.heap.size < w1.heap.size := (by have := hb1.size; (try simp at this); omega)
    have q1w0 := fun o => hb1.cell (p := ⟨w.heap.size, o, none⟩) (by first | omega | (simp; done) | (simp; omega))
    have r1w0 := fun o => hb1.frozen (p := ⟨w.heap.size, o, none⟩) (by first | omega | (simp; done) | (simp; omega))
    have z1w1 : w.heap.size + 1 < w1.heap.size := (by have := hb1.size; (try simp at this); omega)
    have q1w1 := fun o => hb1.cell (p := ⟨w.heap.size + 1, o, none⟩) (by first | omega | (simp; done) | (simp; omega))
    have r1w1 := fun o => hb1.frozen (p := ⟨w.heap.size + 1, o, none⟩) (by first | omega | (simp; done) | (simp; omega))
    go_wp2
    refine bodyPost_ret (v := MV (m1 ||| bit0 s) (m2 ||| bit1 s)) (by simp only [results, Try.results96]; go_simp) rfl ⟨by rw [HP.out], ?_⟩
    ((have shb1 := hb1.size); (try simp at shb1); (repeat' (first | (with_reducible exact Below.refl _ _) | (with_reducible refine Below.setCell ?_ ?_ _) | (with_reducible refine Below.alloc ?_ ?_ _) | (with_reducible refine Below.drew ?_) | (with_reducible refine Below.trans ?_ (Below.mono hb1 ?_)) | go_size)))
  · have HP := Lib.hid (show putD p s i (m1, m2) = (m1, m2) by unfold putD; rw [if_neg hip])
    have hq : ((i : Int) == (p : Int)) = false := by simp; omega
    clear hm hs hip
    go_enter Try.func96, Try.ntmps96
    go_wp2
    refine bodyPost_ret (v := MV m1 m2) (by simp only [results, Try.results96]; go_simp) rfl ⟨by rw [HP.out], ?_⟩
    ((repeat' (first | (with_reducible exact Below.refl _ _) | (with_reducible refine Below.setCell ?_ ?_ _) | (with_reducible refine Below.alloc ?_ ?_ _) | (with_reducible refine Below.drew ?_) | (with_reducible refine Below.trans ?_ (Below.mono (by assumption) ?_)) | go_size)))
theorem enters_put : ∀ args w, (callFunc 96 args).run Try.prog w = .ok (.enter 96 args) w := enters_of Try.func96 (by kernel_rfl) rfl
set_option maxHeartbeats 1000000 in
theorem f_put (vc vm : Value) (cs : List PV) (ms : List M) (p : Nat) (s : Int) (hs : isSlot s) (hp : ∀ i (h : i < ms.length), i = p → chk ms[i].2 = 0) (hcl : cs.length ≤ 1000) (hms : ms.length ≤ 1000) (w : World) (hc : VecsV w vc cs) (hm : Masks w vm ms) :
    Calls Try.prog 54 #[.agg #[vc, vm], .int .i64 (p : Int), .int .i64 s] w fun e w' => (∃ x, e = .returned x ∧ ListsO w.heap.size w' x cs (withL (putD p s) ms ms.length)) ∧ Below w.heap.size w w' := by
  obtain ⟨a, cap, rfl, hl1, hm1⟩ : ∃ a cap, vc = .slice a cs.length cap ∧ cs.length ≤ cap ∧ cap ≤ 9223372036854775807 := by
    obtain ⟨a, cap, e, h1, h2, -⟩ := hc.open; exact ⟨a, cap, e, h1, h2⟩
  obtain ⟨a', cap', rfl, hl2, hm2, -⟩ := hm.open
  have HV := Lib.hid (fun W (hb : Below w.heap.size w W) => hc.grown hb)
  have HM := Lib.hid (fun W (hb : Below w.heap.size w W) => hm.grown hb)
  have HP := Lib.hid hp
  clear hc hm hp
  go_enter Try.func54, Try.ntmps54
  have c1 : ((((w.alloc (.cells #[.slice a cs.length cap, .slice a' ms.length cap'] 25)).alloc (.cells #[.int .i64 (p : Int)] 3)).alloc (.cells #[.int .i64 s] 3)).alloc (.cells #[.slice none 0 0, .slice none 0 0] 25)).cell? ⟨w.heap.size + 1, 0, none⟩ = some (.int .i64 (p : Int)) := by go_simp
  have c2 : ((((w.alloc (.cells #[.slice a cs.length cap, .slice a' ms.length cap'] 25)).alloc (.cells #[.int .i64 (p : Int)] 3)).alloc (.cells #[.int .i64 s] 3)).alloc (.cells #[.slice none 0 0, .slice none 0 0] 25)).cell? ⟨w.heap.size + 1 + 1, 0, none⟩ = some (.int .i64 s) := by go_simp
  have hB0 : Below w.heap.size w ((((w.alloc (.cells #[.slice a cs.length cap, .slice a' ms.length cap'] 25)).alloc (.cells #[.int .i64 (p : Int)] 3)).alloc (.cells #[.int .i64 s] 3)).alloc (.cells #[.slice none 0 0, .slice none 0 0] 25)) := by ((repeat' (first | (with_reducible exact Below.refl _ _) | (with_reducible refine Below.setCell ?_ ?_ _) | (with_reducible refine Below.alloc ?_ ?_ _) | (with_reducible refine Below.drew ?_) | (with_reducible refine Below.trans ?_ (Below.mono (by assumption) ?_)) | go_size)))
  have hD : DoesOn 96 #[.pointer (some ⟨w.heap.size + 1, 0, none⟩), .pointer (some ⟨w.heap.size + 1 + 1, 0, none⟩)] (putD p s) ms ((((w.alloc (.cells #[.slice a cs.length cap, .slice a' ms.length cap'] 25)).alloc (.cells #[.int .i64 (p : Int)] 3)).alloc (.cells #[.int .i64 s] 3)).alloc (.cells #[.slice none 0 0, .slice none 0 0] 25)) := fun i hi W hW =>
    c_put (w.heap.size + 1) (w.heap.size + 1 + 1) p s i ms[i] hs (fun e => HP.out i hi e) W ((hW.cell (p := ⟨w.heap.size + 1, 0, none⟩) (by simp)).trans c1) ((hW.cell (p := ⟨w.heap.size + 1 + 1, 0, none⟩) (by simp)).trans c2)
  have HW := Lib.hid (f_listsWith _ _ enters_put (putD p s) _ _ cs ms hcl hms _ (HV.out _ hB0) (HM.out _ hB0) hD)
  clear hD c1 c2 hB0
  go_wp2_with fail
  refine HW.out.mono ?_
  rintro e w1 ⟨⟨x, rfl, hx⟩, hb1⟩
  have HX := Lib.hid hx
  obtain ⟨xa, xc, xa', xc', rfl⟩ := hx.form
  clear hx
  have z1w0 : w.heap.size < w1.heap.size := (by have := hb1.size; (try simp at this); omega)
  have q1w0 := fun o => hb1.cell (p := ⟨w.heap.size, o, none⟩) (by first | omega | (simp; done) | (simp; omega))
  have r1w0 := fun o => hb1.frozen (p := ⟨w.heap.size, o, none⟩) (by first | omega | (simp; done) | (simp; omega))
  have z1w1 : w.heap.size + 1 < w1.heap.size := (by have := hb1.size; (try simp at this); omega)
  have q1w1 := fun o => hb1.cell (p := ⟨w.heap.size + 1, o, none⟩) (by first | omega | (simp; done) | (simp; omega))
  have r1w1 := fun o => hb1.frozen (p := ⟨w.heap.size + 1, o, none⟩) (by first | omega | (simp; done) | (simp; omega))
  have z1w2 : w.heap.size + 1 + 1 < w1.heap.size := (by have := hb1.size; (try simp at this); omega)
  have q1w2 := fun o => hb1.cell (p := ⟨w.heap.size + 1 + 1, o, none⟩) (by first | omega | (simp; done) | (simp; omega))
  have r1w2 := fun o => hb1.frozen (p := ⟨w.heap.size + 1 + 1, o, none⟩) (by first | omega | (simp; done) | (simp; omega))
  have z1w3 : w.heap.size + 1 + 1 + 1 < w1.heap.size := (by have := hb1.size; (try simp at this); omega)
  have q1w3 := fun o => hb1.cell (p := ⟨w.heap.size + 1 + 1 + 1, o, none⟩) (by first | omega | (simp; done) | (simp; omega))
  have r1w3 := fun o => hb1.frozen (p := ⟨w.heap.size + 1 + 1 + 1, o, none⟩) (by first | omega | (simp; done) | (simp; omega))
  go_wp2
  refine bodyPost_ret (v := .agg #[.slice xa cs.length xc, .slice xa' (withL (putD p s) ms ms.length).length xc']) (by simp only [results, Try.results54]; go_simp) rfl ⟨⟨_, rfl, ?_⟩, ?_⟩
  · exact ((HX.out.setCell (by simp) _).setCell (by simp) _).weaken (by simp; omega)
  · ((have shb1 := hb1.size); (try simp at shb1); (repeat' (first | (with_reducible exact Below.refl _ _) | (with_reducible refine Below.setCell ?_ ?_ _) | (with_reducible refine Below.alloc ?_ ?_ _) | (with_reducible refine Below.drew ?_) | (with_reducible refine Below.trans ?_ (Below.mono hb1 ?_)) | go_size)))
end Go.Proofs.Ytlfmffjlmhpcdaa
