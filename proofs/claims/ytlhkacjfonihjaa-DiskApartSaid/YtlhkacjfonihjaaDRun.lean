/- run: a disk on which operations were done. -/
import Derived.Test.YtlhkacjfonihjaaDLaw
import Derived.Test.YtlhkacjfonihjaaWakesD
namespace Go.Proofs.Ytlhkacjfonihjaa
open Go.RowKit
set_option maxRecDepth 100000

theorem take_go {α : Type} (l : List α) (k c : Nat) (h : k < l.length) (hc : k < c) : (l.take c).take (k + 1) = (l.take c).take k ++ [l[k]] := by
  have hk : k < (l.take c).length := by simp; omega
  rw [List.take_succ_eq_append_getElem hk, List.getElem_take]
theorem take_stay {α : Type} (l : List α) (k c : Nat) (hc : c ≤ k) : (l.take c).take (k + 1) = (l.take c).take k := by
  rw [List.take_of_length_le (l := l.take c) (by simp; omega), List.take_of_length_le (l := l.take c) (by simp; omega)]
theorem take_end {α : Type} (l : List α) (k c : Nat) (h : l.length ≤ k) : (l.take c).take k = l.take c := List.take_of_length_le (by simp; omega)
theorem OpsOk.take {l : List Opr} (h : OpsOk l) (k : Nat) : OpsOk (l.take k) := fun o ho => h o (List.mem_of_mem_take ho)
/-- The disk of the statements. -/
def lrunS (room : Int) (l : List Opr) : DS := opsS (newS (roomN room)) (l.take 40)
theorem lrun_ok (room : Int) {l : List Opr} (h : OpsOk l) (k : Nat) : (opsS (newS (roomN room)) ((l.take 40).take k)).Ok ∧ (opsS (newS (roomN room)) ((l.take 40).take k)).ops ≤ 40 := by
  have hr := roomN_le room
  obtain ⟨h1, h2⟩ := opsS_ok (new_ok hr.1 (by omega)) ((h.take 40).take k)
  refine ⟨h1, ?_⟩
  have h3 : ((l.take 40).take k).length ≤ 40 := by simp; omega
  have h4 : (newS (roomN room)).ops = 0 := rfl
  omega

set_option maxRecDepth 100000 in
set_option maxHeartbeats 4000000 in
theorem f_lrun (room : Int) (hroom : W64 room) (v : Value) (l : List Opr) (w : World) (h : OpsV w v l) :
    Calls Try.prog 10 #[.int .i64 room, v] w fun e w' => e = .returned (.tuple #[DP (w.heap.size + 1), .bool true]) ∧ Disk w' [w.heap.size + 1, w.heap.size] (w.heap.size + 1) w.heap.size (lrunS room l) ∧ Below w.heap.size w w' := by
  obtain ⟨a, cap, rfl, hl, hm, hcell⟩ := h.open
  have Hc := Lib.hid hcell
  have H := Lib.hid h
  have HOK := Lib.hid (fun k => lrun_ok room h.ok k)
  clear hcell h
  have hr := roomN_le room
  have h1 := Int.tmod_lt_of_pos room (show (0 : Int) < 400 by decide)
  have h2 : -400 < room.tmod 400 := by
    have := Int.lt_tmod_of_pos room (show (0 : Int) < 400 by decide)
    omega
  have ew1 : IntKind.i64.wrap (room.tmod 400 + 400) = room.tmod 400 + 400 := wr64 (by omega) (by omega)
  have ew2 : IntKind.i64.wrap ((room.tmod 400 + 400).tmod 400 + 1) = roomN room := wr64 (by unfold roomN at hr; omega) (by unfold roomN at hr; omega)
  clear h1 h2
  go_enter Try.func10, Try.ntmps10
  go_wp2_with fail
  refine (f_New (roomN room) w (by omega) (by omega)).mono ?_
  rintro e w1 ⟨rfl, h1, hb1⟩
  have H1 := Lib.hid h1
  have hz1 := h1.blt
  clear h1
  go_wp2
  go_loopw [23] (fun i wr => ∃ k : Nat, k ≤ l.length ∧ i = .int .i64 k ∧ Disk wr [w.heap.size + 1, w.heap.size] (w.heap.size + 1) w.heap.size (opsS (newS (roomN room)) ((l.take 40).take k)) ∧ Below w.heap.size w wr) (fun i _ => l.length - (intOf i).toNat)
  case atStart => exact ⟨0, Nat.zero_le _, rfl, H1.out, hb1⟩
  case round =>
    obtain ⟨k, hk, rfl, hD, hbr⟩ := hrel
    have HD := Lib.hid hD
    have hzr := hD.blt
    have hnk := HOK.out k
    clear hD
    by_cases hlt2 : k < l.length
    · obtain ⟨b, off, rfl, hlt, g1, g2, g3, g4, g5⟩ := Hc.out k hlt2
      have e1 := (hbr.cell (p := ⟨b, off + k * 5, none⟩) hlt).trans g1
      have e2 := (hbr.cell (p := ⟨b, off + k * 5 + 1, none⟩) hlt).trans g2
      have e3 := (hbr.cell (p := ⟨b, off + k * 5 + 2, none⟩) hlt).trans g3
      have e4 := (hbr.cell (p := ⟨b, off + k * 5 + 3, none⟩) hlt).trans g4
      have e5 := (hbr.cell (p := ⟨b, off + k * 5 + 4, none⟩) hlt).trans g5
      have hO := (H.out.2 l[k] (List.getElem_mem hlt2)).grown hbr
      have HO := Lib.hid hO
      obtain ⟨ab, cb, ebv, -⟩ := hO.b.open
      obtain ⟨ak, ck, ekv, -⟩ := hO.k.1.open
      clear g1 g2 g3 g4 g5 hO
      have hgo : k < 40 → opsS (newS (roomN room)) ((l.take 40).take (k + 1)) = if ku l[k].kind < 9 then runS (opsS (newS (roomN room)) ((l.take 40).take k)) l[k] else opsS (newS (roomN room)) ((l.take 40).take k) := fun hc => by
        rw [take_go l k 40 hlt2 hc, opsS_snoc]
      have hst : 40 ≤ k → opsS (newS (roomN room)) ((l.take 40).take (k + 1)) = opsS (newS (roomN room)) ((l.take 40).take k) := fun hc => by rw [take_stay l k 40 hc]
      obtain ⟨S1, hS1⟩ : ∃ x, opsS (newS (roomN room)) ((l.take 40).take (k + 1)) = x := ⟨_, rfl⟩
      obtain ⟨S0, hS0⟩ : ∃ x, opsS (newS (roomN room)) ((l.take 40).take k) = x := ⟨_, rfl⟩
      rw [hS1, hS0] at hgo hst
      rw [hS0] at HD hnk
      have HS1 := Lib.hid hS1
      have HGO := Lib.hid hgo
      have HST := Lib.hid hst
      clear hS0 hS1 hgo hst
      generalize l[k] = y at *
      obtain ⟨kind, file, n, bv, kv, bytes, keep⟩ := y
      dsimp only at e1 e2 e3 e4 e5 ebv ekv
      subst ebv ekv
      have hba : Below wr.heap.size wr (wr.alloc (.cells #[.int .i64 kind, .int .i64 file, .int .i64 n, .slice ab bytes.length cb, .slice ak keep.length ck] 34)) := (Below.refl _ _).alloc (Nat.le_refl _) _
      have HBA := Lib.hid hba
      clear hba
      by_cases h40 : (k : Int) < 40
      · by_cases hku : (IntKind.u64.wrap kind).tmod 12 < 9
        · go_wp2_with fail
          refine (f_run (HD.out.below HBA.out) hnk.1 (by omega) ⟨kind, file, n, .slice ab bytes.length cb, .slice ak keep.length ck, bytes, keep⟩ (HO.out.grown HBA.out)).mono ?_
          rintro e w2 ⟨v2, rfl, -, hd2, t2⟩
          have e9 := HGO.out (by omega)
          rw [if_pos (show ku kind < 9 from hku)] at e9
          rw [← e9] at hd2
          have HD2 := Lib.hid hd2
          have T2 := Lib.hid t2
          clear hd2 e9 t2
          go_wp2
          go_roundw
          case rel =>
            have hL : ∀ a ∈ [w.heap.size + 1, w.heap.size], w.heap.size ≤ a := by simp
            exact ⟨k + 1, by omega, by go_num, by rw [HS1.out]; exact HD2.out, hbr.trans ((HBA.out.mono (by omega)).trans (T2.out.below (by have := HBA.out.size; omega) hL))⟩
          case measure => simp [intOf]; omega
        · have e9 := HGO.out (by omega)
          rw [if_neg (show ¬ ku kind < 9 from hku)] at e9
          have HE := Lib.hid e9
          clear e9
          go_wp2
          go_roundw
          case rel => exact ⟨k + 1, by omega, by go_num, by rw [HS1.out, HE.out]; exact HD.out.below HBA.out, hbr.trans (HBA.out.mono (by omega))⟩
          case measure => simp [intOf]; omega
      · have HE := Lib.hid (HST.out (by omega))
        go_wp2
        go_roundw
        case rel => exact ⟨k + 1, by omega, by go_num, by rw [HS1.out, HE.out]; exact HD.out.below HBA.out, hbr.trans (HBA.out.mono (by omega))⟩
        case measure => simp [intOf]; omega
    · have HE := Lib.hid (take_end l k 40 (by omega))
      go_wp2
      go_returns
      exact ⟨rfl, by unfold lrunS; rw [← HE.out]; exact HD.out, hbr⟩
end Go.Proofs.Ytlhkacjfonihjaa
