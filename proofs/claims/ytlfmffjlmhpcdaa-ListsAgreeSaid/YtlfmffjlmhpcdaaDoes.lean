/- lists.slots, lists.Add, lists.Remove: their contracts. -/
import Derived.Test.YtlfmffjlmhpcdaaRefBuildZ
namespace Go.Proofs.Ytlfmffjlmhpcdaa
open Go.RowKit
set_option maxRecDepth 100000
attribute [local irreducible] Der

def slotsB (l : List Int) : Bool := decide ((ofF l).2 = 0)
theorem slotsB_iff (l : List Int) : slotsB l = true ↔ ∀ x ∈ l, isSlot x := by
  unfold slotsB ofF
  by_cases h : ∀ x ∈ l, isSlot x
  · rw [if_pos h]; simp; exact h
  · rw [if_neg h]; simp; simpa using h
theorem slotsB_one (n : Int) : slotsB [n] = decide (0 ≤ n ∧ n < 96) := by
  rw [Bool.eq_iff_iff, slotsB_iff, decide_eq_true_eq]
  simp [isSlot]
theorem f_lslots (v : Value) (l : List Int) (w : World) (h : Ints w v l) : Calls Try.prog 66 #[v] w fun e w' => e = .returned (.bool (slotsB l)) ∧ Below w.heap.size w w' := by
  have HS := Lib.hid (show slotsB l = decide ((ofF l).2 = 0) from rfl)
  obtain ⟨a, cap, rfl, -⟩ := h.open
  have HI := Lib.hid h
  clear h
  go_enter Try.func66, Try.ntmps66
  go_wp2_with fail
  refine (f_Of _ l _ HI.out).mono ?_
  rintro e w1 ⟨he, hb1⟩
  unfold OfPost at he
  subst he
  generalize ofF l = o at *
  obtain ⟨⟨o1, o2⟩, E⟩ := o
  have hn : ∀ z : Int, (z == 0) = decide (z = 0) := by intro z; rw [Bool.eq_iff_iff]; simp
  go_wp2
  go_ret
  exact ⟨by rw [HS.out]; first | rfl | (rw [← hn]; rfl), by ((have shb1 := hb1.size); (try simp at shb1); (repeat' (first | (with_reducible exact Below.refl _ _) | (with_reducible refine Below.setCell ?_ ?_ _) | (with_reducible refine Below.alloc ?_ ?_ _) | (with_reducible refine Below.drew ?_) | (with_reducible refine Below.trans ?_ (Below.mono hb1 ?_)) | go_size)))⟩

/-- What Add answers. -/
def addE (cs : List PV) (ms : List M) (s : Int) (vec : List Int) : Int :=
  if listsOK cs ms = false then 230 else if (whereF cs ms s).2 = true ∨ slotsB [s] = false then 2 else if vecOK vec = false then 150 else if cs = [] then 0 else if vec.length = dim0 cs then 0 else 151
def addP (cs : List PV) (ms : List M) (s : Int) (vec : List Int) : Bool := decide (addE cs ms s vec = 0) && !cs.isEmpty
def addC (cs : List PV) (ms : List M) (s : Int) (vec : List Int) : List PV := if addP cs ms s vec then cs else []
def addM (cs : List PV) (ms : List M) (s : Int) (vec : List Int) : List M := if addP cs ms s vec then withL (putD (bestK (farD cs vec) (cs.length - 1)) s) ms ms.length else []
def AddPost (cs : List PV) (ms : List M) (s : Int) (vec : List Int) (B : Nat) (e : Ending) (w' : World) : Prop := ∃ x, e = .returned (.tuple #[x, .int .i64 (addE cs ms s vec)]) ∧ ListsO B w' x (addC cs ms s vec) (addM cs ms s vec)
theorem add_nil {cs : List PV} {ms : List M} {s : Int} {vec : List Int} {E : Int} (h : addE cs ms s vec = E) (h2 : E ≠ 0 ∨ cs = []) (B : Nat) (w' : World) : AddPost cs ms s vec B (.returned (.tuple #[nilL, .int .i64 E])) w' := by
  have hp : addP cs ms s vec = false := by
    unfold addP
    rcases h2 with h2 | h2
    · rw [h, decide_eq_false h2, Bool.false_and]
    · subst h2; simp
  refine ⟨nilL, by rw [h], ?_⟩
  have hc : addC cs ms s vec = [] := by unfold addC; rw [hp]; rfl
  have hm : addM cs ms s vec = [] := by unfold addM; rw [hp]; rfl
  rw [hc, hm]
  exact nilL_O _ _
theorem add_bad {cs : List PV} {ms : List M} (h : listsOK cs ms = false) (s : Int) (vec : List Int) : addE cs ms s vec = 230 := by unfold addE; rw [if_pos h]
theorem add_two {cs : List PV} {ms : List M} (h : listsOK cs ms = true) {s : Int} (vec : List Int) (h2 : (whereF cs ms s).2 = true ∨ slotsB [s] = false) : addE cs ms s vec = 2 := by
  unfold addE; rw [if_neg (by rw [h]; decide), if_pos h2]
theorem add_vec {cs : List PV} {ms : List M} (h : listsOK cs ms = true) {s : Int} {vec : List Int} (h2 : (whereF cs ms s).2 = false) (h3 : slotsB [s] = true) (h4 : vecOK vec = false) : addE cs ms s vec = 150 := by
  unfold addE; rw [if_neg (by rw [h]; decide), if_neg (by rw [h2, h3]; decide), if_pos h4]
theorem add_empty {cs : List PV} {ms : List M} (h : listsOK cs ms = true) {s : Int} {vec : List Int} (h2 : (whereF cs ms s).2 = false) (h3 : slotsB [s] = true) (h4 : vecOK vec = true) (h5 : cs = []) : addE cs ms s vec = 0 := by
  unfold addE; rw [if_neg (by rw [h]; decide), if_neg (by rw [h2, h3]; decide), if_neg (by rw [h4]; decide), if_pos h5]
theorem add_dim {cs : List PV} {ms : List M} (h : listsOK cs ms = true) {s : Int} {vec : List Int} (h2 : (whereF cs ms s).2 = false) (h3 : slotsB [s] = true) (h4 : vecOK vec = true) (h5 : cs ≠ []) (h6 : ¬ vec.length = dim0 cs) : addE cs ms s vec = 151 := by
  unfold addE; rw [if_neg (by rw [h]; decide), if_neg (by rw [h2, h3]; decide), if_neg (by rw [h4]; decide), if_neg h5, if_neg h6]
theorem add_good {cs : List PV} {ms : List M} (h : listsOK cs ms = true) {s : Int} {vec : List Int} (h2 : (whereF cs ms s).2 = false) (h3 : slotsB [s] = true) (h4 : vecOK vec = true) (h5 : cs ≠ []) (h6 : vec.length = dim0 cs) : addE cs ms s vec = 0 := by
  unfold addE; rw [if_neg (by rw [h]; decide), if_neg (by rw [h2, h3]; decide), if_neg (by rw [h4]; decide), if_neg h5, if_pos h6]
theorem add_done {cs : List PV} {ms : List M} {s : Int} {vec : List Int} (h : addE cs ms s vec = 0) (h5 : cs ≠ []) : addC cs ms s vec = cs ∧ addM cs ms s vec = withL (putD (bestK (farD cs vec) (cs.length - 1)) s) ms ms.length := by
  have hp : addP cs ms s vec = true := by unfold addP; rw [h]; cases cs with | nil => exact absurd rfl h5 | cons p t => rfl
  unfold addC addM; rw [hp]; exact ⟨rfl, rfl⟩
theorem add_none {cs : List PV} {ms : List M} {s : Int} {vec : List Int} (h : addE cs ms s vec ≠ 0 ∨ cs = []) : addC cs ms s vec = [] ∧ addM cs ms s vec = [] := by
  have hp : addP cs ms s vec = false := by
    unfold addP
    rcases h with h | h
    · rw [decide_eq_false h, Bool.false_and]
    · subst h; simp
  unfold addC addM; rw [hp]; exact ⟨rfl, rfl⟩
theorem ok_cents {cs : List PV} {ms : List M} (h : listsOK cs ms = true) : vecsE cs = 0 := by
  unfold listsOK centsOK at h; simp at h; exact h.1.2
theorem ok_six {cs : List PV} {ms : List M} (h : listsOK cs ms = true) : cs.length ≤ 6 := by
  unfold listsOK centsOK at h; simp at h; exact h.1.1
theorem ok_len {cs : List PV} {ms : List M} (h : listsOK cs ms = true) : ms.length = cs.length := by
  unfold listsOK at h; simp at h; exact h.2.1
theorem ok_chk {cs : List PV} {ms : List M} (h : listsOK cs ms = true) {i : Nat} (hi : i < ms.length) : chk ms[i].2 = 0 := by
  unfold listsOK masksOK at h
  simp only [Bool.and_eq_true, List.all_eq_true, List.mem_range] at h
  have h1 := h.2.2 i hi
  unfold okAt at h1
  rw [mAt_get hi] at h1
  simp at h1
  exact h1.1
/-- The two boxes of a function of lists: its argument's, and its result's, still empty. -/
structure Box6 (w : World) (B : Nat) (x y : Value) : Prop where
  c0 : w.cell? ⟨B, 0, none⟩ = some x
  c1 : w.cell? ⟨B, 1, none⟩ = some y
  r0 : w.cell? ⟨B + 1, 0, none⟩ = some (.slice none 0 0)
  r1 : w.cell? ⟨B + 1, 1, none⟩ = some (.slice none 0 0)
  f0 : w.frozen? ⟨B + 1, 0, none⟩ = false
  f1 : w.frozen? ⟨B + 1, 1, none⟩ = false
  lt : B + 1 < w.heap.size
theorem Box6.go {w w' : World} {B : Nat} {x y : Value} (h : Box6 w B x y) (hb : Below w.heap.size w w') : Box6 w' B x y :=
  ⟨(hb.cell (p := ⟨B, 0, none⟩) (by have := h.lt; simp; omega)).trans h.c0, (hb.cell (p := ⟨B, 1, none⟩) (by have := h.lt; simp; omega)).trans h.c1, (hb.cell (p := ⟨B + 1, 0, none⟩) h.lt).trans h.r0, (hb.cell (p := ⟨B + 1, 1, none⟩) h.lt).trans h.r1,
    (hb.frozen (p := ⟨B + 1, 0, none⟩) h.lt).trans h.f0, (hb.frozen (p := ⟨B + 1, 1, none⟩) h.lt).trans h.f1, Nat.lt_of_lt_of_le h.lt hb.size⟩
set_option maxHeartbeats 8000000 in
theorem f_Add (vc vm vv : Value) (cs : List PV) (ms : List M) (s : Int) (vec : List Int) (hms : ms.length ≤ 1000) (hcl : cs.length ≤ 1000) (w : World) (hc : VecsV w vc cs) (hm : Masks w vm ms) (hv : VecV w vv vec) :
    Calls Try.prog 30 #[.agg #[vc, vm], .int .i64 s, vv] w fun e w' => AddPost cs ms s vec w.heap.size e w' ∧ Below w.heap.size w w' := by
  obtain ⟨a, cap, rfl, -⟩ := hc.open
  obtain ⟨a', cap', rfl, -⟩ := hm.open
  obtain ⟨a2, cap2, rfl, -⟩ := hv.form
  have HC := Lib.hid (fun W (hb : Below w.heap.size w W) => hc.grown hb)
  have HM := Lib.hid (fun W (hb : Below w.heap.size w W) => hm.grown hb)
  have HV := Lib.hid (fun W (hb : Below w.heap.size w W) => hv.grown hb)
  clear hc hm hv
  go_enter Try.func30, Try.ntmps30
  go_wp2_with fail
  refine (f_listsCheck _ _ cs ms _ (HC.out _ (by ((repeat' (first | (with_reducible exact Below.refl _ _) | (with_reducible refine Below.setCell ?_ ?_ _) | (with_reducible refine Below.alloc ?_ ?_ _) | (with_reducible refine Below.drew ?_) | (with_reducible refine Below.trans ?_ (Below.mono (by assumption) ?_)) | go_size))))) (HM.out _ (by ((repeat' (first | (with_reducible exact Below.refl _ _) | (with_reducible refine Below.setCell ?_ ?_ _) | (with_reducible refine Below.alloc ?_ ?_ _) | (with_reducible refine Below.drew ?_) | (with_reducible refine Below.trans ?_ (Below.mono (by assumption) ?_)) | go_size)))))).mono ?_
  rintro e w1 ⟨rfl, hb1⟩
  have z1w0 : w.heap.size < w1.heap.size := (by have := hb1.size; (try simp at this); omega)
  have q1w0 := fun o => hb1.cell (p := ⟨w.heap.size, o, none⟩) (by first | omega | (simp; done) | (simp; omega))
  have r1w0 := fun o => hb1.frozen (p := ⟨w.heap.size, o, none⟩) (by first | omega | (simp; done) | (simp; omega))
  have z1w1 : w.heap.size + 1 < w1.heap.size := (by have := hb1.size; (try simp at this); omega)
  have q1w1 := fun o => hb1.cell (p := ⟨w.heap.size + 1, o, none⟩) (by first | omega | (simp; done) | (simp; omega))
  have r1w1 := fun o => hb1.frozen (p := ⟨w.heap.size + 1, o, none⟩) (by first | omega | (simp; done) | (simp; omega))
  have hB1 : Below w.heap.size w w1 := by ((have shb1 := hb1.size); (try simp at shb1); (repeat' (first | (with_reducible exact Below.refl _ _) | (with_reducible refine Below.setCell ?_ ?_ _) | (with_reducible refine Below.alloc ?_ ?_ _) | (with_reducible refine Below.drew ?_) | (with_reducible refine Below.trans ?_ (Below.mono hb1 ?_)) | go_size)))
  have BX1 := Lib.hid (show Box6 w1 w.heap.size (.slice a cs.length cap) (.slice a' ms.length cap') from ⟨by rw [q1w0]; go_simp, by rw [q1w0]; go_simp, by rw [q1w1]; go_simp, by rw [q1w1]; go_simp, by rw [r1w1]; go_simp, by rw [r1w1]; go_simp, z1w1⟩)
  clear q1w0 q1w1 r1w0 r1w1 hb1 z1w0 z1w1
  obtain ⟨c0, c1, r0, r1, f0, f1, zz⟩ := BX1.out
  have z0 : w.heap.size < w1.heap.size := by omega
  cases hok : listsOK cs ms
  · have HP := Lib.hid (fun W => add_nil (add_bad hok s vec) (.inl (by decide)) w.heap.size W)
    have HL := Lib.hid (show listsE cs ms = 230 by unfold listsE; rw [hok]; rfl)
    rw [HL.out]
    clear hok
    go_wp2
    refine bodyPost_ret (v := .tuple #[nilL, .int .i64 230]) (by simp only [results, Try.results30]; unfold nilL; go_simp) rfl ⟨HP.out _, ?_⟩
    ((have shB1 := hB1.size); (try simp at shB1); (repeat' (first | (with_reducible exact Below.refl _ _) | (with_reducible refine Below.setCell ?_ ?_ _) | (with_reducible refine Below.alloc ?_ ?_ _) | (with_reducible refine Below.drew ?_) | (with_reducible refine Below.trans ?_ (Below.mono hB1 ?_)) | go_size)))
  · have HOK := Lib.hid hok
    have HL := Lib.hid (show listsE cs ms = 0 by unfold listsE; rw [hok]; rfl)
    rw [HL.out]
    clear hok
    go_wp2_with fail
    refine (f_Where _ _ cs ms s hms _ (HC.out _ hB1) (HM.out _ hB1)).mono ?_
    rintro e w2 ⟨rfl, hb2⟩
    have hB2 : Below w.heap.size w w2 := by ((have shb2 := hb2.size); (try simp at shb2); (have shB1 := hB1.size); (try simp at shB1); (repeat' (first | (with_reducible exact Below.refl _ _) | (with_reducible refine Below.setCell ?_ ?_ _) | (with_reducible refine Below.alloc ?_ ?_ _) | (with_reducible refine Below.drew ?_) | (with_reducible refine Below.trans ?_ (Below.mono hb2 ?_)) | (with_reducible refine Below.trans ?_ (Below.mono hB1 ?_)) | go_size)))
    have BX2 := Lib.hid (BX1.out.go hb2)
    clear c0 c1 r0 r1 f0 f1 z0 zz BX1
    obtain ⟨c0, c1, r0, r1, f0, f1, zz⟩ := BX2.out
    have z0 : w.heap.size < w2.heap.size := by omega
    obtain ⟨W, hW⟩ : ∃ W, whereF cs ms s = W := ⟨_, rfl⟩
    obtain ⟨W1, W2⟩ := W
    have HWh := Lib.hid (congrArg Prod.snd hW)
    rw [hW]
    clear hW
    cases W2
    case true =>
      have HP := Lib.hid (fun W => add_nil (add_two HOK.out vec (.inl HWh.out)) (.inl (by decide)) w.heap.size W)
      go_wp2
      refine bodyPost_ret (v := .tuple #[nilL, .int .i64 2]) (by simp only [results, Try.results30]; unfold nilL; go_simp) rfl ⟨HP.out _, ?_⟩
      ((have shB2 := hB2.size); (try simp at shB2); (repeat' (first | (with_reducible exact Below.refl _ _) | (with_reducible refine Below.setCell ?_ ?_ _) | (with_reducible refine Below.alloc ?_ ?_ _) | (with_reducible refine Below.drew ?_) | (with_reducible refine Below.trans ?_ (Below.mono hB2 ?_)) | go_size)))
    case false =>
      go_wp2_with fail
      refine (f_lslots _ [s] _ (show Ints _ _ [s] from Sl.fresh _ 3 1 _ (by simp) (by omega))).mono ?_
      rintro e w3 ⟨rfl, hb3⟩
      have hb23 : Below w2.heap.size w2 w3 := by ((have shb3 := hb3.size); (try simp at shb3); (repeat' (first | (with_reducible exact Below.refl _ _) | (with_reducible refine Below.setCell ?_ ?_ _) | (with_reducible refine Below.alloc ?_ ?_ _) | (with_reducible refine Below.drew ?_) | (with_reducible refine Below.trans ?_ (Below.mono hb3 ?_)) | go_size)))
      have hB3 : Below w.heap.size w w3 := by ((have shb23 := hb23.size); (try simp at shb23); (have shB2 := hB2.size); (try simp at shB2); (repeat' (first | (with_reducible exact Below.refl _ _) | (with_reducible refine Below.setCell ?_ ?_ _) | (with_reducible refine Below.alloc ?_ ?_ _) | (with_reducible refine Below.drew ?_) | (with_reducible refine Below.trans ?_ (Below.mono hb23 ?_)) | (with_reducible refine Below.trans ?_ (Below.mono hB2 ?_)) | go_size)))
      have BX3 := Lib.hid (BX2.out.go hb23)
      clear c0 c1 r0 r1 f0 f1 z0 zz BX2 hb3
      obtain ⟨c0, c1, r0, r1, f0, f1, zz⟩ := BX3.out
      have z0 : w.heap.size < w3.heap.size := by omega
      cases hsl : slotsB [s]
      case false =>
        have HP := Lib.hid (fun W => add_nil (add_two HOK.out vec (.inr hsl)) (.inl (by decide)) w.heap.size W)
        clear hsl
        go_wp2
        refine bodyPost_ret (v := .tuple #[nilL, .int .i64 2]) (by simp only [results, Try.results30]; unfold nilL; go_simp) rfl ⟨HP.out _, ?_⟩
        ((have shB3 := hB3.size); (try simp at shB3); (repeat' (first | (with_reducible exact Below.refl _ _) | (with_reducible refine Below.setCell ?_ ?_ _) | (with_reducible refine Below.alloc ?_ ?_ _) | (with_reducible refine Below.drew ?_) | (with_reducible refine Below.trans ?_ (Below.mono hB3 ?_)) | go_size)))
      case true =>
        have HSl := Lib.hid hsl
        clear hsl
        go_wp2_with fail
        refine (f_vecCheck _ vec _ (HV.out _ hB3)).mono ?_
        rintro e w4 ⟨rfl, hb4⟩
        have hB4 : Below w.heap.size w w4 := by ((have shb4 := hb4.size); (try simp at shb4); (have shB3 := hB3.size); (try simp at shB3); (repeat' (first | (with_reducible exact Below.refl _ _) | (with_reducible refine Below.setCell ?_ ?_ _) | (with_reducible refine Below.alloc ?_ ?_ _) | (with_reducible refine Below.drew ?_) | (with_reducible refine Below.trans ?_ (Below.mono hb4 ?_)) | (with_reducible refine Below.trans ?_ (Below.mono hB3 ?_)) | go_size)))
        have BX4 := Lib.hid (BX3.out.go hb4)
        clear c0 c1 r0 r1 f0 f1 z0 zz BX3
        obtain ⟨c0, c1, r0, r1, f0, f1, zz⟩ := BX4.out
        have z0 : w.heap.size < w4.heap.size := by omega
        cases hvk : vecOK vec
        case false =>
          have HP := Lib.hid (fun W => add_nil (add_vec HOK.out HWh.out HSl.out hvk) (.inl (by decide)) w.heap.size W)
          have HE := Lib.hid (show vecE vec = 150 by unfold vecE; rw [hvk]; rfl)
          rw [HE.out]
          clear hvk
          go_wp2
          refine bodyPost_ret (v := .tuple #[nilL, .int .i64 150]) (by simp only [results, Try.results30]; unfold nilL; go_simp) rfl ⟨HP.out _, ?_⟩
          ((have shB4 := hB4.size); (try simp at shB4); (repeat' (first | (with_reducible exact Below.refl _ _) | (with_reducible refine Below.setCell ?_ ?_ _) | (with_reducible refine Below.alloc ?_ ?_ _) | (with_reducible refine Below.drew ?_) | (with_reducible refine Below.trans ?_ (Below.mono hB4 ?_)) | go_size)))
        case true =>
          have HVk := Lib.hid hvk
          have HE := Lib.hid (show vecE vec = 0 by unfold vecE; rw [hvk]; rfl)
          rw [HE.out]
          clear hvk
          by_cases hcs : cs = []
          · have HP := Lib.hid (fun W => add_nil (add_empty HOK.out HWh.out HSl.out HVk.out hcs) (.inr hcs) w.heap.size W)
            have hz : ((cs.length : Int) == 0) = true := beq_iff_eq.2 (by rw [hcs]; rfl)
            clear hcs
            go_wp2
            refine bodyPost_ret (v := .tuple #[nilL, .int .i64 0]) (by simp only [results, Try.results30]; unfold nilL; go_simp) rfl ⟨HP.out _, ?_⟩
            ((have shB4 := hB4.size); (try simp at shB4); (repeat' (first | (with_reducible exact Below.refl _ _) | (with_reducible refine Below.setCell ?_ ?_ _) | (with_reducible refine Below.alloc ?_ ?_ _) | (with_reducible refine Below.drew ?_) | (with_reducible refine Below.trans ?_ (Below.mono hB4 ?_)) | go_size)))
          · have h0 : 0 < cs.length := List.length_pos_iff.2 hcs
            have hz : ((cs.length : Int) == 0) = false := beq_eq_false_iff_ne.2 (by omega)
            have HCS := Lib.hid hcs
            have hnf := near_fit (ok_cents HOK.out) h0 (u := .slice a2 vec.length cap2) HVk.out
            clear hcs
            by_cases hd : vec.length = dim0 cs
            · rw [if_pos hd] at hnf
              have HNF := Lib.hid hnf
              have HAE := Lib.hid (add_good HOK.out HWh.out HSl.out HVk.out HCS.out hd)
              have HAD := Lib.hid (add_done HAE.out HCS.out)
              clear hnf hd
              go_wp2_with fail
              refine (f_near_ok _ _ cs vec _ (HC.out _ hB4) (HV.out _ hB4) hcl h0 HNF.out).mono ?_
              rintro e w5 ⟨rfl, hb5⟩
              have hB5 : Below w.heap.size w w5 := by ((have shb5 := hb5.size); (try simp at shb5); (have shB4 := hB4.size); (try simp at shB4); (repeat' (first | (with_reducible exact Below.refl _ _) | (with_reducible refine Below.setCell ?_ ?_ _) | (with_reducible refine Below.alloc ?_ ?_ _) | (with_reducible refine Below.drew ?_) | (with_reducible refine Below.trans ?_ (Below.mono hb5 ?_)) | (with_reducible refine Below.trans ?_ (Below.mono hB4 ?_)) | go_size)))
              have BX5 := Lib.hid (BX4.out.go hb5)
              clear c0 c1 r0 r1 f0 f1 z0 zz BX4
              obtain ⟨c0, c1, r0, r1, f0, f1, zz⟩ := BX5.out
              have z0 : w.heap.size < w5.heap.size := by omega
              obtain ⟨p, hp⟩ : ∃ p, bestK (farD cs vec) (cs.length - 1) = p := ⟨_, rfl⟩
              rw [hp] at HAD ⊢
              clear hp hz
              have hss : isSlot s := by have h := HSl.out; rw [slotsB_one, decide_eq_true_eq] at h; exact h
              have HPut := Lib.hid (fun W h1 h2 => f_put (.slice a cs.length cap) (.slice a' ms.length cap') cs ms p s hss (fun i hi _ => ok_chk HOK.out hi) hcl hms W h1 h2)
              clear hss
              go_wp2_with fail
              refine (HPut.out _ (HC.out _ hB5) (HM.out _ hB5)).mono ?_
              rintro e w6 ⟨⟨x, rfl, hx⟩, hb6⟩
              have hB6 : Below w.heap.size w w6 := by ((have shb6 := hb6.size); (try simp at shb6); (have shB5 := hB5.size); (try simp at shB5); (repeat' (first | (with_reducible exact Below.refl _ _) | (with_reducible refine Below.setCell ?_ ?_ _) | (with_reducible refine Below.alloc ?_ ?_ _) | (with_reducible refine Below.drew ?_) | (with_reducible refine Below.trans ?_ (Below.mono hb6 ?_)) | (with_reducible refine Below.trans ?_ (Below.mono hB5 ?_)) | go_size)))
              have BX6 := Lib.hid (BX5.out.go hb6)
              clear c0 c1 r0 r1 f0 f1 z0
              have HX := Lib.hid hx
              obtain ⟨xa, xc, xa', xc', rfl⟩ := hx.form
              clear hx BX5
              have zz5 : w.heap.size + 1 < w5.heap.size := zz
              clear zz
              obtain ⟨c0, c1, r0, r1, f0, f1, zz⟩ := BX6.out
              go_wp2
              refine bodyPost_ret (v := .tuple #[.agg #[.slice xa cs.length xc, .slice xa' (withL (putD p s) ms ms.length).length xc'], .int .i64 0]) (by simp only [results, Try.results30]; go_simp) rfl ⟨⟨_, by rw [HAE.out], ?_⟩, ?_⟩
              · rw [HAD.out.1, HAD.out.2]
                exact ((HX.out.setCell (by omega) _).setCell (by omega) _).weaken (by omega)
              · ((have shB6 := hB6.size); (try simp at shB6); (repeat' (first | (with_reducible exact Below.refl _ _) | (with_reducible refine Below.setCell ?_ ?_ _) | (with_reducible refine Below.alloc ?_ ?_ _) | (with_reducible refine Below.drew ?_) | (with_reducible refine Below.trans ?_ (Below.mono hB6 ?_)) | go_size)))
            · rw [if_neg hd] at hnf
              have HNF := Lib.hid hnf
              have HP := Lib.hid (fun W => add_nil (add_dim HOK.out HWh.out HSl.out HVk.out HCS.out hd) (.inl (by decide)) w.heap.size W)
              clear hnf hd
              go_wp2_with fail
              refine (f_near_bad _ _ cs vec _ (HC.out _ hB4) (HV.out _ hB4) hcl h0 151 HNF.out (by decide)).mono ?_
              rintro e w5 ⟨rfl, hb5⟩
              have hB5 : Below w.heap.size w w5 := by ((have shb5 := hb5.size); (try simp at shb5); (have shB4 := hB4.size); (try simp at shB4); (repeat' (first | (with_reducible exact Below.refl _ _) | (with_reducible refine Below.setCell ?_ ?_ _) | (with_reducible refine Below.alloc ?_ ?_ _) | (with_reducible refine Below.drew ?_) | (with_reducible refine Below.trans ?_ (Below.mono hb5 ?_)) | (with_reducible refine Below.trans ?_ (Below.mono hB4 ?_)) | go_size)))
              have BX5 := Lib.hid (BX4.out.go hb5)
              clear c0 c1 r0 r1 f0 f1 z0 zz BX4
              obtain ⟨c0, c1, r0, r1, f0, f1, zz⟩ := BX5.out
              go_wp2
              refine bodyPost_ret (v := .tuple #[nilL, .int .i64 151]) (by simp only [results, Try.results30]; unfold nilL; go_simp) rfl ⟨HP.out _, ?_⟩
              ((have shB5 := hB5.size); (try simp at shB5); (repeat' (first | (with_reducible exact Below.refl _ _) | (with_reducible refine Below.setCell ?_ ?_ _) | (with_reducible refine Below.alloc ?_ ?_ _) | (with_reducible refine Below.drew ?_) | (with_reducible refine Below.trans ?_ (Below.mono hB5 ?_)) | go_size)))
end Go.Proofs.Ytlfmffjlmhpcdaa
