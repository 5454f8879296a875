/- lists.Union. -/
import Derived.Test.YtlfmffjlmhpcdaaListsZ
import Derived.Test.YtlfmffjlmhpcdaaRegion
import Derived.Test.YtlfmffjlmhpcdaaWhereZ
namespace Go.Proofs.Ytlfmffjlmhpcdaa
open Go.RowKit
set_option maxRecDepth 100000
attribute [local irreducible] Der

def inL (ms : List M) (n : Int) : Bool := decide (0 ≤ n ∧ n < ms.length)
def pickM (ms : List M) (l : List Int) : List M := l.map fun n => mAt ms n.toNat
def unionE (cs : List PV) (ms : List M) (l : List Int) : Int := if listsOK cs ms = false then 230 else if l.all (inL ms) then 0 else 2
def unionM (cs : List PV) (ms : List M) (l : List Int) : M := if unionE cs ms l = 0 then orF (pickM ms l) else mZero
theorem union_bad {cs : List PV} {ms : List M} (h : listsOK cs ms = false) (l : List Int) : unionE cs ms l = 230 := by unfold unionE; rw [if_pos h]
theorem union_no {cs : List PV} {ms : List M} (h : listsOK cs ms = true) {l : List Int} {k : Nat} (hk : k < l.length) (hn : inL ms l[k] = false) : unionE cs ms l = 2 := by
  unfold unionE
  rw [if_neg (by rw [h]; decide), if_neg]
  intro ha
  rw [List.all_eq_true.1 ha _ (List.getElem_mem hk)] at hn
  cases hn
theorem union_yes {cs : List PV} {ms : List M} (h : listsOK cs ms = true) {l : List Int} (ha : ∀ n ∈ l, inL ms n = true) : unionE cs ms l = 0 := by
  unfold unionE
  rw [if_neg (by rw [h]; decide), if_pos (List.all_eq_true.2 ha)]
theorem pick_snoc (ms : List M) {l : List Int} {k : Nat} (hk : k < l.length) : pickM ms (l.take (k + 1)) = pickM ms (l.take k) ++ [mAt ms l[k].toNat] := by
  unfold pickM; rw [List.take_succ_eq_append_getElem hk, List.map_append]; rfl
theorem pick_len (ms : List M) (l : List Int) : (pickM ms l).length = l.length := by unfold pickM; simp
theorem all_in {ms : List M} {l : List Int} {k : Nat} (h : ∀ n ∈ l.take k, inL ms n = true) (hk : k < l.length) (hn : inL ms l[k] = true) : ∀ n ∈ l.take (k + 1), inL ms n = true := by
  intro n hm
  rw [List.take_succ_eq_append_getElem hk] at hm
  rcases List.mem_append.1 hm with h1 | h1
  · exact h n h1
  · rw [List.mem_singleton.1 h1]; exact hn
set_option maxHeartbeats 4000000 in
theorem f_Union (vc vm vl : Value) (cs : List PV) (ms : List M) (l : List Int) (hll : l.length ≤ 1000) (w : World) (hc : VecsV w vc cs) (hm : Masks w vm ms) (hl : Ints w vl l) :
    Calls Try.prog 24 #[.agg #[vc, vm], vl] w fun e w' => e = .returned (.tuple #[MV (unionM cs ms l).1 (unionM cs ms l).2, .int .i64 (unionE cs ms l)]) ∧ Below w.heap.size w w' := by
  obtain ⟨a, cap, rfl, -⟩ := hc.open
  obtain ⟨a', cap', rfl, hl2, hm2, hcell⟩ := hm.open
  obtain ⟨b, cbp, rfl, hl3, hm3, lcell⟩ := hl.open
  have Hc := Lib.hid hcell
  have Hl := Lib.hid lcell
  have HV := Lib.hid (fun W (hb : Below w.heap.size w W) => hc.grown hb)
  have HM := Lib.hid (fun W (hb : Below w.heap.size w W) => hm.grown hb)
  clear hc hm hl hcell lcell
  cases hok : listsOK cs ms
  · have HE := Lib.hid (union_bad hok l)
    have HU := Lib.hid (show unionM cs ms l = mZero by unfold unionM; rw [union_bad hok l]; rfl)
    have HL := Lib.hid (show listsE cs ms = 230 by unfold listsE; rw [hok]; rfl)
    clear hok
    go_enter Try.func24, Try.ntmps24
    go_wp2_with fail
    refine (f_listsCheck _ _ cs ms _ (HV.out _ (by ((repeat' (first | (with_reducible exact Below.refl _ _) | (with_reducible refine Below.setCell ?_ ?_ _) | (with_reducible refine Below.alloc ?_ ?_ _) | (with_reducible refine Below.drew ?_) | (with_reducible refine Below.trans ?_ (Below.mono (by assumption) ?_)) | go_size))))) (HM.out _ (by ((repeat' (first | (with_reducible exact Below.refl _ _) | (with_reducible refine Below.setCell ?_ ?_ _) | (with_reducible refine Below.alloc ?_ ?_ _) | (with_reducible refine Below.drew ?_) | (with_reducible refine Below.trans ?_ (Below.mono (by assumption) ?_)) | go_size)))))).mono ?_
    rintro e w1 ⟨rfl, hb1⟩
    rw [HL.out]
    have z1w0 : w.heap.size < w1.heap.size := (by have := hb1.size; (try simp at this); omega)
    have q1w0 := fun o => hb1.cell (p := ⟨w.heap.size, o, none⟩) (by first | omega | (simp; done) | (simp; omega))
    have r1w0 := fun o => hb1.frozen (p := ⟨w.heap.size, o, none⟩) (by first | omega | (simp; done) | (simp; omega))
    have z1w1 : w.heap.size + 1 < w1.heap.size := (by have := hb1.size; (try simp at this); omega)
    have q1w1 := fun o => hb1.cell (p := ⟨w.heap.size + 1, o, none⟩) (by first | omega | (simp; done) | (simp; omega))
    have r1w1 := fun o => hb1.frozen (p := ⟨w.heap.size + 1, o, none⟩) (by first | omega | (simp; done) | (simp; omega))
    go_wp2
    refine bodyPost_ret (v := .tuple #[.agg #[.int .u64 0, .int .u64 0], .int .i64 230]) (by simp only [results, Try.results24]; go_simp) rfl ⟨?_, ?_⟩
    · rw [HE.out, HU.out]; simp [MV, mZero, U_zero]
    · ((have shb1 := hb1.size); (try simp at shb1); (repeat' (first | (with_reducible exact Below.refl _ _) | (with_reducible refine Below.setCell ?_ ?_ _) | (with_reducible refine Below.alloc ?_ ?_ _) | (with_reducible refine Below.drew ?_) | (with_reducible refine Below.trans ?_ (Below.mono hb1 ?_)) | go_size)))
  · have HOK := Lib.hid hok
    have HL := Lib.hid (show listsE cs ms = 0 by unfold listsE; rw [hok]; rfl)
    clear hok
    go_enter Try.func24, Try.ntmps24
    go_wp2_with fail
    refine (f_listsCheck _ _ cs ms _ (HV.out _ (by ((repeat' (first | (with_reducible exact Below.refl _ _) | (with_reducible refine Below.setCell ?_ ?_ _) | (with_reducible refine Below.alloc ?_ ?_ _) | (with_reducible refine Below.drew ?_) | (with_reducible refine Below.trans ?_ (Below.mono (by assumption) ?_)) | go_size))))) (HM.out _ (by ((repeat' (first | (with_reducible exact Below.refl _ _) | (with_reducible refine Below.setCell ?_ ?_ _) | (with_reducible refine Below.alloc ?_ ?_ _) | (with_reducible refine Below.drew ?_) | (with_reducible refine Below.trans ?_ (Below.mono (by assumption) ?_)) | go_size)))))).mono ?_
    rintro e w1 ⟨rfl, hb1⟩
    rw [HL.out]
    have z1w0 : w.heap.size < w1.heap.size := (by have := hb1.size; (try simp at this); omega)
    have q1w0 := fun o => hb1.cell (p := ⟨w.heap.size, o, none⟩) (by first | omega | (simp; done) | (simp; omega))
    have r1w0 := fun o => hb1.frozen (p := ⟨w.heap.size, o, none⟩) (by first | omega | (simp; done) | (simp; omega))
    have z1w1 : w.heap.size + 1 < w1.heap.size := (by have := hb1.size; (try simp at this); omega)
    have q1w1 := fun o => hb1.cell (p := ⟨w.heap.size + 1, o, none⟩) (by first | omega | (simp; done) | (simp; omega))
    have r1w1 := fun o => hb1.frozen (p := ⟨w.heap.size + 1, o, none⟩) (by first | omega | (simp; done) | (simp; omega))
    have hB1 : Below w.heap.size w w1 := by ((have shb1 := hb1.size); (try simp at shb1); (repeat' (first | (with_reducible exact Below.refl _ _) | (with_reducible refine Below.setCell ?_ ?_ _) | (with_reducible refine Below.alloc ?_ ?_ _) | (with_reducible refine Below.drew ?_) | (with_reducible refine Below.trans ?_ (Below.mono hb1 ?_)) | go_size)))
    have c1 : w1.cell? ⟨w.heap.size, 1, none⟩ = some (.slice a' ms.length cap') := by rw [q1w0]; go_simp
    have r0 : w1.cell? ⟨w.heap.size + 1, 0, none⟩ = some (.int .u64 0) := by rw [q1w1]; go_simp
    have r1 : w1.cell? ⟨w.heap.size + 1, 1, none⟩ = some (.int .u64 0) := by rw [q1w1]; go_simp
    have s0 : w1.frozen? ⟨w.heap.size + 1, 0, none⟩ = false := by rw [r1w1]; go_simp
    have s1 : w1.frozen? ⟨w.heap.size + 1, 1, none⟩ = false := by rw [r1w1]; go_simp
    clear q1w0 q1w1 r1w0 r1w1 hb1
    go_wp2
    go_loopw [7, 18] (fun v i wr => ∃ k : Nat, k ≤ l.length ∧ i = .int .i64 k ∧ wr.ownsRow w1.heap.size 49 2 v k (cellsM (pickM ms (l.take k))) ∧ (∀ n ∈ l.take k, inL ms n = true) ∧ Below w1.heap.size w1 wr ∧ w1.heap.size ≤ wr.heap.size) (fun _ i _ => l.length - (intOf i).toNat)
    case atStart => exact ⟨0, Nat.zero_le _, rfl, World.ownsRow_nil _ _ _ _, by simp, Below.refl _ _, by omega⟩
    case round =>
      obtain ⟨k, hk, rfl, hown, hin, hbr, hsz⟩ := hrel
      obtain ⟨v1, v2, rfl⟩ := own_slice hown
      have HO := Lib.hid hown
      have HI := Lib.hid hin
      clear hown hin
      have hBr : Below w.heap.size w wr := by ((have shbr := hbr.size); (try simp at shbr); (have shB1 := hB1.size); (try simp at shB1); (repeat' (first | (with_reducible exact Below.refl _ _) | (with_reducible refine Below.setCell ?_ ?_ _) | (with_reducible refine Below.alloc ?_ ?_ _) | (with_reducible refine Below.drew ?_) | (with_reducible refine Below.trans ?_ (Below.mono hbr ?_)) | (with_reducible refine Below.trans ?_ (Below.mono hB1 ?_)) | go_size)))
      by_cases hlt2 : k < l.length
      · obtain ⟨g, off, rfl, hlt, g1⟩ := Hl.out k hlt2
        have e1 := (hBr.cell (p := ⟨g, off + k, none⟩) hlt).trans g1
        have d1 := (hbr.cell (p := ⟨w.heap.size, 1, none⟩) z1w0).trans c1
        have HNo := Lib.hid (union_no HOK.out hlt2)
        have HPk := Lib.hid (pick_snoc ms hlt2)
        have HAl := Lib.hid (all_in HI.out hlt2)
        clear g1
        generalize l[k] = n at *
        by_cases h0 : 0 ≤ n
        · by_cases h1 : n < ms.length
          · obtain ⟨j, rfl⟩ : ∃ j : Nat, n = j := ⟨n.toNat, by omega⟩
            have hj : j < ms.length := by omega
            have hin : inL ms (j : Int) = true := decide_eq_true ⟨by omega, by omega⟩
            obtain ⟨g', off', rfl, hlt', g2, g3⟩ := Hc.out j hj
            have e2 := (hBr.cell (p := ⟨g', off' + j * 2, none⟩) hlt').trans g2
            have e3 := (hBr.cell (p := ⟨g', off' + j * 2 + 1, none⟩) hlt').trans g3
            have hP := HPk.out
            rw [Int.toNat_natCast, mAt_get hj] at hP
            have HP := Lib.hid hP
            have HA := Lib.hid (HAl.out hin)
            clear g2 g3 hP hin HNo
            generalize ms[j] = y at *
            obtain ⟨y1, y2⟩ := y
            simp only at e2 e3
            have HOa := Lib.hid (HO.out.alloc (.cells #[.int .u64 (U y1), .int .u64 (U y2)] 49))
            go_wp2_with (at_builtin; refine append_any rfl _ _ 23 rfl w1.heap.size 49 (.agg #[.int .u64 0, .int .u64 0]) 2 16 Try.underlying23 info_mask' rfl (by decide) _ k _ rfl HOa.out _ 1 [.int .u64 (U y1), .int .u64 (U y2)] rfl (Sl.fresh wr 49 1 [.int .u64 (U y1), .int .u64 (U y2)] rfl (by omega)) (NilA.of_some _ _ _) rfl (cellsM_one' [(y1, y2)]) (by unfold maxLen; omega) (by omega) (by simp; omega) ?_; intro v' w3 hown' hgrow; refine Hid.out ?_)
            refine Lib.hid ?_
            have hb3 : Below w1.heap.size w1 w3 := (hbr.alloc hsz _).grown hgrow (by simp; omega) (fun r e => (HO.out.lt r e).1)
            have hs3 := hgrow.size
            simp at hs3
            have HO3 := Lib.hid (show w3.ownsRow w1.heap.size 49 2 v' (k + 1) (cellsM (pickM ms (l.take (k + 1)))) from by rw [HP.out, cellsM_append]; exact hown')
            clear hown' hgrow
            go_wp2
            go_roundw
            case rel => exact ⟨k + 1, by omega, by go_num, HO3.out, HA.out, hb3, by omega⟩
            case measure => simp [intOf]; omega
          · have HE := Lib.hid (HNo.out (decide_eq_false (by omega)))
            have HU := Lib.hid (show unionM cs ms l = mZero by unfold unionM; rw [HE.out]; rfl)
            have zr1 : w.heap.size + 1 < wr.heap.size := by omega
            have t0 := (hbr.cell (p := ⟨w.heap.size + 1, 0, none⟩) z1w1).trans r0
            have t1 := (hbr.cell (p := ⟨w.heap.size + 1, 1, none⟩) z1w1).trans r1
            have u0 := (hbr.frozen (p := ⟨w.heap.size + 1, 0, none⟩) z1w1).trans s0
            have u1 := (hbr.frozen (p := ⟨w.heap.size + 1, 1, none⟩) z1w1).trans s1
            go_wp2
            refine bodyPost_ret (v := .tuple #[.agg #[.int .u64 0, .int .u64 0], .int .i64 2]) (by simp only [results, Try.results24]; go_simp) rfl ⟨?_, ?_⟩
            · rw [HE.out, HU.out]; simp [MV, mZero, U_zero]
            · ((have shBr := hBr.size); (try simp at shBr); (repeat' (first | (with_reducible exact Below.refl _ _) | (with_reducible refine Below.setCell ?_ ?_ _) | (with_reducible refine Below.alloc ?_ ?_ _) | (with_reducible refine Below.drew ?_) | (with_reducible refine Below.trans ?_ (Below.mono hBr ?_)) | go_size)))
        · have HE := Lib.hid (HNo.out (decide_eq_false (by omega)))
          have HU := Lib.hid (show unionM cs ms l = mZero by unfold unionM; rw [HE.out]; rfl)
          have zr1 : w.heap.size + 1 < wr.heap.size := by omega
          have t0 := (hbr.cell (p := ⟨w.heap.size + 1, 0, none⟩) z1w1).trans r0
          have t1 := (hbr.cell (p := ⟨w.heap.size + 1, 1, none⟩) z1w1).trans r1
          have u0 := (hbr.frozen (p := ⟨w.heap.size + 1, 0, none⟩) z1w1).trans s0
          have u1 := (hbr.frozen (p := ⟨w.heap.size + 1, 1, none⟩) z1w1).trans s1
          go_wp2
          refine bodyPost_ret (v := .tuple #[.agg #[.int .u64 0, .int .u64 0], .int .i64 2]) (by simp only [results, Try.results24]; go_simp) rfl ⟨?_, ?_⟩
          · rw [HE.out, HU.out]; simp [MV, mZero, U_zero]
          · ((have shBr := hBr.size); (try simp at shBr); (repeat' (first | (with_reducible exact Below.refl _ _) | (with_reducible refine Below.setCell ?_ ?_ _) | (with_reducible refine Below.alloc ?_ ?_ _) | (with_reducible refine Below.drew ?_) | (with_reducible refine Below.trans ?_ (Below.mono hBr ?_)) | go_size)))
      · have : k = l.length := by omega
        subst this
        have HE := Lib.hid (union_yes HOK.out (fun n hn => HI.out n (by rw [List.take_of_length_le (Nat.le_refl _)]; exact hn)))
        have HU := Lib.hid (show unionM cs ms l = orF (pickM ms l) by unfold unionM; rw [HE.out]; rfl)
        have zr1 : w.heap.size + 1 < wr.heap.size := by omega
        have t0 := (hbr.cell (p := ⟨w.heap.size + 1, 0, none⟩) z1w1).trans r0
        have t1 := (hbr.cell (p := ⟨w.heap.size + 1, 1, none⟩) z1w1).trans r1
        have u0 := (hbr.frozen (p := ⟨w.heap.size + 1, 0, none⟩) z1w1).trans s0
        have u1 := (hbr.frozen (p := ⟨w.heap.size + 1, 1, none⟩) z1w1).trans s1
        have HMs := Lib.hid (Masks.of_own HO.out (by rw [pick_len, List.take_of_length_le (Nat.le_refl _)]))
        rw [List.take_of_length_le (Nat.le_refl _)] at HMs
        go_wp2_with fail
        refine (f_Or _ (pickM ms l) _ HMs.out).mono ?_
        rintro e w2 ⟨rfl, hb2⟩
        have t02 := (hb2.cell (p := ⟨w.heap.size + 1, 0, none⟩) zr1).trans t0
        have t12 := (hb2.cell (p := ⟨w.heap.size + 1, 1, none⟩) zr1).trans t1
        have u02 := (hb2.frozen (p := ⟨w.heap.size + 1, 0, none⟩) zr1).trans u0
        have u12 := (hb2.frozen (p := ⟨w.heap.size + 1, 1, none⟩) zr1).trans u1
        have zr2 : w.heap.size + 1 < w2.heap.size := by have := hb2.size; omega
        obtain ⟨o, ho⟩ : ∃ o, orF (pickM ms l) = o := ⟨_, rfl⟩
        rw [ho] at HU ⊢
        obtain ⟨o1, o2⟩ := o
        clear ho
        go_wp2
        refine bodyPost_ret (v := .tuple #[MV o1 o2, .int .i64 0]) (by simp only [results, Try.results24]; go_simp) rfl ⟨?_, ?_⟩
        · rw [HE.out, HU.out]
        · ((have shb2 := hb2.size); (try simp at shb2); (have shBr := hBr.size); (try simp at shBr); (repeat' (first | (with_reducible exact Below.refl _ _) | (with_reducible refine Below.setCell ?_ ?_ _) | (with_reducible refine Below.alloc ?_ ?_ _) | (with_reducible refine Below.drew ?_) | (with_reducible refine Below.trans ?_ (Below.mono hb2 ?_)) | (with_reducible refine Below.trans ?_ (Below.mono hBr ?_)) | go_size)))
end Go.Proofs.Ytlfmffjlmhpcdaa

/- append onto a fresh row in a region whose order is drawn: each fresh block keeps its first cells. No program is named here. -/
namespace Go.Proofs.Ytlfmffjlmhpcdaa
open Go.RowKit
set_option maxRecDepth 100000

/-- The blocks from n on keep their shape, and each of the beginnings that S names. -/
def KeepL (n : Nat) (S : List (List Value)) (w w' : World) : Prop := ∀ g cur e, n ≤ g → w.heap[g]? = some (.cells cur e (0, 0)) → ∃ cur' : Array Value, w'.heap[g]? = some (.cells cur' e (0, 0)) ∧ cur'.size = cur.size ∧ ∀ X, X ∈ S → X <+: cur.toList → X <+: cur'.toList
/-- What was below n is as it was; what is not keeps its beginnings. -/
def GrL (n : Nat) (S : List (List Value)) (w w' : World) : Prop := Below n w w' ∧ KeepL n S w w'
theorem GrL.refl (n : Nat) (S : List (List Value)) (w : World) : GrL n S w w := ⟨Below.refl _ _, fun _ cur _ _ h => ⟨cur, h, rfl, fun _ _ h => h⟩⟩
theorem GrL.trans {n : Nat} {S : List (List Value)} {a b c : World} (h : GrL n S a b) (k : GrL n S b c) : GrL n S a c :=
  ⟨h.1.trans k.1, fun g cur e hn hg => by
    obtain ⟨c1, h1, h2, h3⟩ := h.2 g cur e hn hg
    obtain ⟨c2, k1, k2, k3⟩ := k.2 g c1 e hn h1
    exact ⟨c2, k1, k2.trans h2, fun X hX hp => k3 X hX (h3 X hX hp)⟩⟩
theorem GrL.of_below {n : Nat} {S : List (List Value)} {w w' : World} (hn : n ≤ w.heap.size) (h : Below w.heap.size w w') : GrL n S w w' :=
  ⟨h.mono hn, fun g cur e _ hg => ⟨cur, by rw [h.block g (Array.getElem?_eq_some_iff.1 hg).1]; exact hg, rfl, fun _ _ h => h⟩⟩
theorem own_keep {w w' : World} {n e size k : Nat} {S : List (List Value)} {v : Value} {xs : List Value} (h : w.ownsRow n e size v k xs) (hk : xs ∈ S) (hg : GrL n S w w') : w'.ownsRow n e size v k xs := by
  refine ⟨h.1, ?_⟩
  rcases h.2 with ⟨rfl, h0⟩ | ⟨g, cap, cur, rfl, hB, hc, hl, hm, hs, hx⟩
  · exact .inl ⟨rfl, h0⟩
  · obtain ⟨cur', h1, h2, h3⟩ := hg.2 g cur e hB hc
    refine .inr ⟨g, cap, cur', rfl, hB, h1, hl, hm, h2.trans hs, ?_⟩
    have := h3 xs hk (by rw [← hx]; exact List.take_prefix _ _)
    rw [← h.1]
    exact (List.prefix_iff_eq_take.1 this).symm
/-- append onto a fresh row: the beginnings that it keeps. -/
theorem run_append_keep {P : Program} (w : World) (base : Nat) (S : List (List Value)) (t ty e : TypeId) (i : TypeInfo) (z : Value) (size bytes : Nat) (ht : P.underlying t = some (.slice e)) (hi : P.info? e = some i) (hz : i.zero = some z)
    (hsize : i.size = size) (hby : i.bytes = bytes) (hzs : z.cells.size = size) (hsz : 0 < size)
    (v : Value) (n : Nat) (xs : List Value) (hown : w.ownsRow base e size v n xs)
    (a : Addr) (m c : Nat) (news : List Value) (hL : (∀ X, X ∈ S → X <+: xs ++ news) ∨ ∃ g, v = .slice (some ⟨g, 0, none⟩) n n) (hl : news.length = m * size) (hnews : ∀ j u, news[j]? = some u → w.cell? (a.add j) = some u) (h1 : ∀ u ∈ news, u.oneCell' = true)
    (h63 : n + m ≤ maxLen) (hbytes : (n + m) * bytes ≤ 140737488355328) (hbase : base ≤ w.heap.size) :
    ∃ v' w', (Builtin.append_ #[t, t] ty #[v, .slice (some a) m c]).run P w = .ok v' w' ∧ w'.ownsRow base e size v' (n + m) (xs ++ news) ∧ GrL base S w w' := by
  obtain ⟨v', w', hr, h2, h3, -⟩ := run_append_own (P := P) w base t ty e i z size bytes ht hi hz hsize hby hzs hsz v n xs hown a m c news hl hnews h1 h63 hbytes hbase
  refine ⟨v', w', hr, h2, ⟨h3.os, h3.tape, h3.output, h3.size, fun k hk => h3.block k (Nat.lt_of_lt_of_le hk hbase) (fun e => by have := (hown.lt k e.symm).1; omega)⟩, ?_⟩
  subst hsize
  subst hby
  intro g' cur' e' hg' hc'
  have hlt' := (Array.getElem?_eq_some_iff.1 hc').1
  rcases hown.2 with ⟨rfl, rfl⟩ | ⟨g, cap, cur, rfl, hB, hg, hnc, hm, hcs, htake⟩
  · exact ⟨cur', by rw [h3.block g' hlt' (by simp [Value.ownBlock])]; exact hc', rfl, fun _ _ h => h⟩
  · by_cases hroom : n + m ≤ cap
    · have hfit : n * i.size + news.length ≤ cur.size := by rw [hl, hcs, ← Nat.add_mul]; exact Nat.mul_le_mul_right _ hroom
      have hr2 := run_append_room (P := P) w t ty e i ht hi g n cap cur hg a m c news hl hnews h1 hroom hfit
      rw [hr] at hr2
      injection hr2 with hv hw
      subst hw
      by_cases hgg : g' = g
      · subst hgg
        rw [hg] at hc'
        injection hc' with hc'
        injection hc' with hc1 hc2
        subst hc1
        subst hc2
        refine ⟨_, setRow_heap w g' cur _ e _ hg, ?_, ?_⟩
        · simp only [List.size_toArray, List.length_append, List.length_take, List.length_drop, Array.length_toList]
          omega
        · intro X hX hp
          rcases hL with hL | ⟨g2, hL⟩
          · rw [htake]
            exact (hL X hX).trans (List.prefix_append _ _)
          · injection hL with _ _ hcap
            have hm0 : m = 0 := by omega
            subst hm0
            have : news = [] := List.eq_nil_of_length_eq_zero (by simpa using hl)
            subst this
            simpa using hp
      · exact ⟨cur', by rw [setRow_other w g g' _ hgg]; exact hc', rfl, fun _ _ h => h⟩
    · have holds : ∀ j u, xs[j]? = some u → w.cell? ((⟨g, 0, none⟩ : Addr).add j) = some u := hown.cells (g := g) rfl
      have hr2 := run_append_grow (P := P) w t ty e i z ht hi hz ⟨g, 0, none⟩ n cap xs hown.1 holds a m c news hl hnews (by omega) (by unfold maxLen at h63; omega) (growslice_fits (by omega) hbytes)
      rw [hr] at hr2
      injection hr2 with hv hw
      subst hw
      exact ⟨cur', by rw [heap_alloc_old w.drew _ (by simpa using hlt')]; exact hc', rfl, fun _ _ h => h⟩
theorem gives_append {P : Program} {o : Oper} {a : Act} {w : World} {R : Value → World → Prop} (s x : Operand) (t : TypeId) (ho : o.op = .call { callee := .builtin .append, args := #[s, x], argTypes := #[t, t] }) {v y v' : Value} {w' : World} (hs : a.eval s = v) (hx : a.eval x = y)
    (hr : (Builtin.append_ #[t, t] o.type #[v, y]).run P w = .ok v' w') (h : R v' w') : Gives P o a w R := by
  unfold Gives
  unfold execOp
  simp only [ho, resolve, invoke, builtin, Sem.run_bind, Sem.run_pure, Result.andThen_ok, List.map_toArray, List.map_cons, List.map_nil, hs, hx, hr]
  exact h
/-- wp_grow, for a growth of one's own. -/
theorem wp_growG {P : Program} {G : World → World → Prop} (hr : ∀ w, G w w) (ht : ∀ a b c, G a b → G b c → G a c) {id : Nat} {Q : Exit → Act → World → Prop} {a : Act} {w : World} {l : List Oper} (t : List (Nat × Sp G)) (N : Nat) (hm : P.follows .mixedOrders = true) (hB : headOk l.toArray N = true)
    (hsl : slotsIn l.toArray N a.tmps.size = true) (hrel : relHasDst l.toArray t = true)
    (h : Der P l.toArray t w.drew N (fun a' w' => wpList P l.toArray Q (l.drop N) a' w') (l.take N) 0 a) : (Code.region id l.toArray true).wp P Q a w := by
  refine wp_region_any hm ?_
  have hok := headOk_spec hB
  refine wpAny_grow (P := P) (w1 := w.drew) (a0 := a) (t := t) hok hsl (relHasDst_spec hrel) hr ht (by simpa using h) _ _ _ _ ?_ ?_
  · unfold unl; simp [List.countP_replicate]
  · refine ⟨by simp, hr _, fun i _ => getD_replicate_false _ _, fun i j hi _ => ?_, fun _ _ => rfl, rfl, rfl, fun i o _ hi => ?_⟩
    · rw [getD_replicate_false] at hi; cases hi
    · rw [getD_replicate_false] at hi; cases hi
end Go.Proofs.Ytlfmffjlmhpcdaa

/- What Unions of places come to: the plain law; and append onto a fresh row of numbers. -/
namespace Go.Proofs.Ytlfmffjlmhpcdaa
open Go.RowKit
set_option maxRecDepth 100000

theorem or_mask_bits (a b m : BitVec 64) : (a ||| b) &&& m = ((0#64 ||| (a &&& m)) ||| (b &&& m)) &&& m := by
  apply BitVec.eq_of_getLsbD_eq
  intro i hi
  simp only [BitVec.getLsbD_and, BitVec.getLsbD_or, BitVec.getLsbD_zero]
  cases a.getLsbD i <;> cases b.getLsbD i <;> cases m.getLsbD i <;> rfl
theorem foldl_or (l : List M) : ∀ x : M, l.foldl mOr x = mOr x (l.foldl mOr mZero) := by
  induction l with
  | nil => intro x; simp [mOr, mZero]
  | cons y l ih =>
    intro x
    rw [List.foldl_cons, List.foldl_cons, ih (mOr x y), ih (mOr mZero y)]
    unfold mOr mZero
    refine Prod.ext ?_ ?_ <;> simp [BitVec.or_assoc]
theorem orAll_app (l m : List M) : orAll (l ++ m) = mOr (orAll l) (orAll m) := by
  unfold orAll
  rw [List.foldl_append, foldl_or]
theorem orF_app (l m : List M) : orF (l ++ m) = orF [orF l, orF m] := by
  unfold orF
  rw [orAll_app]
  unfold orAll mOr mAnd mZero
  refine Prod.ext ?_ ?_
  · exact or_mask_bits _ _ _
  · exact or_mask_bits _ _ _
theorem orF_twice (l : List M) : orF (l ++ l) = orF l := by
  unfold orF
  rw [orAll_app]
  congr 1
  unfold mOr
  exact Prod.ext (BitVec.or_self) (BitVec.or_self)
theorem unions_bad {cs : List PV} {ms : List M} {a b : List Int} (h : unionE cs ms (a ++ b) ≠ 0) : unionM cs ms (a ++ b) = mZero ∧ (unionE cs ms a ≠ 0 ∨ unionE cs ms b ≠ 0) := by
  refine ⟨by unfold unionM; rw [if_neg h], ?_⟩
  unfold unionE at h ⊢
  by_cases hl : listsOK cs ms = false
  · rw [if_pos hl]; left; decide
  · rw [if_neg hl] at h ⊢
    rw [if_neg hl]
    rw [List.all_append] at h
    by_cases ha : a.all (inL ms) = true
    · right
      intro hb
      rw [ha, Bool.true_and] at h
      exact h hb
    · left; rw [if_neg ha]; decide
theorem unions_ok {cs : List PV} {ms : List M} {a b : List Int} (h : unionE cs ms (a ++ b) = 0) :
    unionE cs ms a = 0 ∧ unionE cs ms b = 0 ∧ unionE cs ms (a ++ a) = 0 ∧ unionM cs ms (a ++ b) = orF [unionM cs ms a, unionM cs ms b] ∧ unionM cs ms (a ++ a) = unionM cs ms a := by
  have hl : listsOK cs ms = true := by
    cases hh : listsOK cs ms
    · rw [union_bad hh] at h; omega
    · rfl
  have hall : (a ++ b).all (inL ms) = true := by
    unfold unionE at h
    rw [if_neg (by rw [hl]; decide)] at h
    cases hh : (a ++ b).all (inL ms)
    · rw [hh] at h; simp at h
    · rfl
  rw [List.all_append, Bool.and_eq_true] at hall
  have ea : unionE cs ms a = 0 := by unfold unionE; rw [if_neg (by rw [hl]; decide), if_pos hall.1]
  have eb : unionE cs ms b = 0 := by unfold unionE; rw [if_neg (by rw [hl]; decide), if_pos hall.2]
  have eaa : unionE cs ms (a ++ a) = 0 := by unfold unionE; rw [if_neg (by rw [hl]; decide), if_pos (by rw [List.all_append, hall.1]; rfl)]
  refine ⟨ea, eb, eaa, ?_, ?_⟩
  · unfold unionM
    rw [if_pos h, if_pos ea, if_pos eb]
    unfold pickM
    rw [List.map_append, orF_app]
  · unfold unionM
    rw [if_pos eaa, if_pos ea]
    unfold pickM
    rw [List.map_append, orF_twice]

theorem NilA.of_NilOr {v : Value} (h : v = .slice none 0 0 ∨ ∃ ad n c, v = .slice (some ad) n c) : NilA v := h
/-- append(row, y...) of numbers: the row fresh, y whatever slice. -/
theorem run_append_ints (w : World) (base : Nat) (S : List (List Value)) (ty : TypeId) (v : Value) (n : Nat) (xs : List Value) (hown : w.ownsRow base 3 1 v n xs) (y : Value) (l : List Int) (hy : Ints w y l) (hnil : NilA y)
    (hL : (∀ X, X ∈ S → X <+: xs ++ l.map (Value.int .i64)) ∨ ∃ g, v = .slice (some ⟨g, 0, none⟩) n n) (hn : n + l.length ≤ 1000) (hbase : base ≤ w.heap.size) :
    ∃ v' w', (Builtin.append_ #[46, 46] ty #[v, y]).run Try.prog w = .ok v' w' ∧ w'.ownsRow base 3 1 v' (n + l.length) (xs ++ l.map (Value.int .i64)) ∧ GrL base S w w' := by
  obtain ⟨i0, hi, hz0, hz1, hz2⟩ := info_parts info_int
  have hsl : Sl w y l.length (l.map (Value.int .i64)) := by
    have h := hy
    unfold Ints at h
    first | exact h | (simpa using h)
  obtain ⟨p, cap, rfl, hle, hmx, hc⟩ := hsl.form
  cases p with
  | none =>
    obtain ⟨h0, rfl⟩ := hnil.of_none
    have en : l = [] := List.eq_nil_of_length_eq_zero h0
    subst en
    refine ⟨v, w, ?_, by simpa using hown, GrL.refl _ _ _⟩
    exact run_append_owned_none (P := Try.prog) w base 46 ty 3 i0 1 Try.underlying46 hi v n xs hown
  | some ad =>
    exact run_append_keep (P := Try.prog) w base S 46 ty 3 i0 (.int .i64 0) 1 8 Try.underlying46 hi hz0 hz1 hz2 rfl (by decide) v n xs hown ad l.length cap (l.map (Value.int .i64)) hL (by simp) (hsl.news (Below.refl _ _))
      (by intro u hu; obtain ⟨x, -, rfl⟩ := List.mem_map.1 hu; rfl) (by unfold maxLen; omega) (by omega) hbase
end Go.Proofs.Ytlfmffjlmhpcdaa
