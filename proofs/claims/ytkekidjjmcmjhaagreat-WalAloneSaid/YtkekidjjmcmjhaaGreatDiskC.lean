/- The contracts of meets and New. -/
import Derived.Test.YtkekidjjmcmjhaaGreatDiskB
import Derived.BigRegion
namespace Go.Proofs.YtkekidjjmcmjhaaGreat
open Go.RowKit
set_option maxRecDepth 100000

def dec1 (x : Int) : Int := if x - 1 < -1 then -1 else x - 1
def meetsS (s : DS) : DS := { s with ops := s.ops + 1, armed := dec1 s.armed, failing := dec1 s.failing, dead := if s.armed = 0 then true else s.dead }
def meetsE (s : DS) : Int := if s.armed = 0 then 9 else if s.failing = 0 then 8 else 0

theorem wr64 {x : Int} (h : -9223372036854775808 ≤ x) (h2 : x ≤ 9223372036854775807) : IntKind.i64.wrap x = x := by
  unfold IntKind.wrap
  simp [IntKind.bits, IntKind.signed]
  omega

section
variable {w : World} {A : List Nat} {b m : Nat} {s : DS}

set_option maxHeartbeats 1000000 in
theorem f_meets (h : Disk w A b m s) (hok : s.Ok) (hop : s.ops < 1000000) :
    Calls Tryz.prog 37 #[DP b] w fun e w' => e = .returned (.int .i64 (meetsE s)) ∧ Disk w' A b m (meetsS s) ∧ Tw w.heap.size [b, m] w w' := by
  have h1 := h.set2 (s.ops + 1)
  have t1 : Tw w.heap.size [b, m] w (w.setCell ⟨b, 2, none⟩ (.int .i64 (s.ops + 1))) := (Tw.refl _ _ _).setCell (b := b) (.inl (by simp)) 2 _
  have HD := Lib.hid h1
  have HT := Lib.hid t1
  have c2 := h.c2
  have a1 := hok.ops
  have fr := h.fr 2
  have ew : IntKind.i64.wrap (s.ops + 1) = s.ops + 1 := wr64 (by omega) (by omega)
  clear h h1 t1
  go_enter Tryz.func37, Tryz.ntmps37
  go_wp2
  have hd := HD.out
  have d3 := hd.c3
  have d4 := hd.c4
  clear hd
  obtain ⟨W, hW⟩ : ∃ W, w.setCell ⟨b, 2, none⟩ (.int .i64 (s.ops + 1)) = W := ⟨_, rfl⟩
  rw [hW] at HD HT d3 d4 ⊢
  have f3 : W.frozen? ⟨b, 3, none⟩ = false := HD.out.fr 3
  have f4 : W.frozen? ⟨b, 4, none⟩ = false := HD.out.fr 4
  have a3 := hok.armed
  have a4 := hok.failing
  have b3 := hok.armed2
  have b4 := hok.failing2
  have e3 : IntKind.i64.wrap (s.armed - 1) = s.armed - 1 := wr64 (by omega) (by omega)
  have e4 : IntKind.i64.wrap (s.failing - 1) = s.failing - 1 := wr64 (by omega) (by omega)
  go_region
  go_wp2
  go_region
  obtain ⟨p1, hp1⟩ : ∃ x, (if s.armed - 1 < -1 then -1 else s.armed - 1) = x := ⟨_, rfl⟩
  obtain ⟨p2, hp2⟩ : ∃ x, (if s.failing - 1 < -1 then -1 else s.failing - 1) = x := ⟨_, rfl⟩
  rw [hp1, hp2]
  have q1 : dec1 s.armed = p1 := hp1
  have q2 : dec1 s.failing = p2 := hp2
  clear hp1 hp2
  have h5 := ((HD.out.set3 p1).set4 p2).below ((Below.refl _ _).drew.drew)
  have t5 := ((HT.out.setCell (b := b) (.inl (by simp)) 3 (.int .i64 p1)).setCell (b := b) (.inl (by simp)) 4 (.int .i64 p2)).trans (Tw.of_below ((Below.refl _ _).drew.drew))
  obtain ⟨W5, hW5⟩ : ∃ W5, ((W.setCell ⟨b, 3, none⟩ (.int .i64 p1)).setCell ⟨b, 4, none⟩ (.int .i64 p2)).drew.drew = W5 := ⟨_, rfl⟩
  rw [hW5] at h5 t5 ⊢
  have H5 := Lib.hid h5
  have T5 := Lib.hid t5
  have f5 := h5.fr 5
  have c5 := h5.c5
  clear hW5 d3 d4 f3 f4 e3 e4 fr c2 h5 t5 hW
  have hs0 : meetsE s = if (s.armed == 0) then 9 else if (s.failing == 0) then 8 else 0 := by unfold meetsE; simp
  have hs1 : meetsS s = { s with ops := s.ops + 1, armed := p1, failing := p2, dead := if (s.armed == 0) then true else s.dead } := by unfold meetsS; rw [q1, q2]; simp
  have HS0 := Lib.hid hs0
  have HS1 := Lib.hid hs1
  clear hs0 hs1
  obtain ⟨x1, hx1⟩ : ∃ x, (s.armed == 0) = x := ⟨_, rfl⟩
  obtain ⟨x2, hx2⟩ : ∃ x, (s.failing == 0) = x := ⟨_, rfl⟩
  rw [hx1, hx2] at HS0 ⊢
  rw [hx1] at HS1
  clear hx1 hx2 q1 q2
  cases x1 with
  | true =>
    go_wp2
    go_ret
    refine ⟨congrArg (fun z => Ending.returned (.int .i64 z)) HS0.out.symm, ?_, ?_⟩
    · rw [HS1.out]; exact H5.out.set5 true
    · exact T5.out.setCell (b := b) (.inl (by simp)) 5 _
  | false =>
    cases x2 with
    | true =>
      go_wp2
      go_ret
      refine ⟨congrArg (fun z => Ending.returned (.int .i64 z)) HS0.out.symm, ?_, ?_⟩
      · rw [HS1.out]; exact H5.out
      · exact T5.out
    | false =>
      go_wp2
      go_ret
      refine ⟨congrArg (fun z => Ending.returned (.int .i64 z)) HS0.out.symm, ?_, ?_⟩
      · rw [HS1.out]; exact H5.out
      · exact T5.out

theorem meets_ok (hok : s.Ok) : (meetsS s).Ok := by
  obtain ⟨h1, h2, h3, h4, h5, h6, h7, h8, h9, h10, h11⟩ := hok
  refine ⟨h1, h2, ?_, ?_, ?_, ?_, ?_, h8, h9, h10, h11⟩
  all_goals
    unfold meetsS dec1
    dsimp only
    (try split) <;> omega

def newS (room : Int) : DS := ⟨room, 0, -1, -1, false, fun _ => none⟩
theorem new_ok {room : Int} (h1 : 1 ≤ room) (h2 : room ≤ 65536) : (newS room).Ok :=
  ⟨h1, h2, by simp [newS], by simp [newS], by simp [newS], by simp [newS], by simp [newS], by simp [DS.used, DS.len, DS.at, newS, f0]; omega, fun _ _ h => by simp [newS] at h, fun _ _ h => by simp [newS] at h, fun _ _ h => by simp [newS] at h⟩

theorem f_New (room : Int) (w : World) (h1 : 1 ≤ room) (h2 : room ≤ 65536) :
    Calls Tryz.prog 8 #[.int .i64 room] w fun e w' => e = .returned (.tuple #[DP (w.heap.size + 1), .int .i64 0]) ∧ Disk w' [w.heap.size + 1, w.heap.size] (w.heap.size + 1) w.heap.size (newS room) ∧ Below w.heap.size w w' := by
  go_enter Tryz.func8, Tryz.ntmps8
  have hmm := @run_makeMap Tryz.prog
  go_wp2
  go_returns
  refine ⟨rfl, ?_, ?_⟩
  · have hMp := (Mp.made w Tryz.prog 3).alloc (.cells #[.int .i64 room, .map (some w.heap.size), .int .i64 0, .int .i64 (-1), .int .i64 (-1), .bool false] 71)
    exact ⟨by go_simp; rfl, by go_simp, by go_simp; rfl, by go_simp; rfl, by go_simp; rfl, by go_simp; rfl, fun o => by go_simp, ⟨_, hMp.mono (by omega), fun _ => trivial⟩, fun a ha => by
      simp only [List.mem_cons, List.not_mem_nil, or_false] at ha
      simp
      rcases ha with rfl | rfl <;> omega, by simp, by simp, by simp⟩
  · exact ((Below.refl _ _).alloc (Nat.le_refl _) _).alloc (by simp) _
theorem f_New_bad (room : Int) (w : World) (h1 : ¬ (1 ≤ room ∧ room ≤ 65536)) :
    Calls Tryz.prog 8 #[.int .i64 room] w fun e w' => e = .returned (.tuple #[.pointer none, .int .i64 2]) ∧ Below w.heap.size w w' := by
  go_enter Tryz.func8, Tryz.ntmps8
  by_cases h : room < 1
  · go_wp2
    go_returns
    exact ⟨rfl, Below.refl _ _⟩
  · have h2 : 65536 < room := by omega
    go_wp2
    go_returns
    exact ⟨rfl, Below.refl _ _⟩
end
end Go.Proofs.YtkekidjjmcmjhaaGreat
