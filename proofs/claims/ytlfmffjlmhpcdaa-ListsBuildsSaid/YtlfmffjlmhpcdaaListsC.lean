/- The iterator over the lists that have a slot, and lists.Where. -/
import Derived.Test.YtlfmffjlmhpcdaaListsB
import Derived.Test.YtlfmffjlmhpcdaaHas
namespace Go.Proofs.Ytlfmffjlmhpcdaa
open Go.RowKit Go.Shelf
set_option maxRecDepth 100000
attribute [local irreducible] Der
attribute [local go_sem] Oper.semAt_some

/-- The places of the masks that have a slot. -/
def haveL (ms : List M) (n : Int) (k : Nat) : List Nat := (List.range k).filter fun i => hasN (mAt ms i) n
theorem haveL_hit {ms : List M} {n : Int} {k : Nat} (h : hasN (mAt ms k) n = true) : haveL ms n (k + 1) = haveL ms n k ++ [k] := by
  unfold haveL; rw [List.range_succ, List.filter_append, List.filter_cons_of_pos (p := fun i => hasN (mAt ms i) n) h]; rfl
theorem haveL_miss {ms : List M} {n : Int} {k : Nat} (h : hasN (mAt ms k) n = false) : haveL ms n (k + 1) = haveL ms n k := by
  unfold haveL; rw [List.range_succ, List.filter_append, List.filter_cons_of_neg (by simp [h])]; simp
theorem haveL_pre {ms : List M} {n : Int} {k j : Nat} (h : k ≤ j) : haveL ms n k <+: haveL ms n j := by
  unfold haveL
  obtain ⟨d, rfl⟩ : ∃ d, j = k + d := ⟨j - k, by omega⟩
  rw [List.range_add, List.filter_append]
  exact ⟨_, rfl⟩
theorem haveL_le (ms : List M) (n : Int) (k : Nat) : (haveL ms n k).length ≤ k := by
  unfold haveL; have := List.length_filter_le (fun i => hasN (mAt ms i) n) (List.range k); simpa using this
structure LBox (B1 B2 : Nat) (vm : Value) (ms : List M) (n : Int) (W : World) : Prop where
  c1 : W.cell? ⟨B1, 1, none⟩ = some vm
  c2 : W.cell? ⟨B2, 0, none⟩ = some (.int .i64 n)
  r : Masks W vm ms
theorem abides_below {β : Type} {B : Nat} {J : β → World → Prop} (hJ : AbidesFrom B J) {s : β} {W W' : World} (h : J s W) (hb : Below W.heap.size W W') : J s W' :=
  hJ s W W' none h ⟨hb.os, hb.tape, hb.output, hb.size, fun i hi _ => hb.block i hi⟩ (fun r e => by cases e)
set_option maxHeartbeats 4000000 in
theorem having1_in (n : Nat) (hn : 1 ≤ n) (l0 B1 B2 : Nat) (vm : Value) (ms : List M) (q : Int) (hms : ms.length ≤ 1000) (Good : World → Prop) (hGood : ∀ W, Good W → LBox B1 B2 vm ms q W) (hGr : ∀ W W', Below W.heap.size W W' → Good W → Good W')
    (Kp : World → World → Prop) (hKp : ∀ W W', Kp W W' → Good W → Good W') (J Jx : List Nat → World → Prop) (W : World) (hJ : AbidesFrom W.heap.size J)
    (hY : ∀ pre x W, J pre W → pre.length < ms.length → YieldAt Fence.wide (n - 1) Try.prog l0 #[.int .i64 (x : Nat)] W fun e W' =>
      (e = .returned (.bool true) ∧ J (pre ++ [x]) W' ∧ Kp W W') ∨ (e = .returned (.bool false) ∧ Jx (pre ++ [x]) W'))
    (hG' : Good W) (h0 : J [] W) :
    CallsIn Fence.wide n Try.prog 89 #[.func (.yield l0) #[] #[], .pointer (some ⟨B1, 0, none⟩), .pointer (some ⟨B2, 0, none⟩)] W fun e W' => (∃ v, e = .returned v) ∧
      ((∃ ys, ys = haveL ms q ms.length ∧ J ys W') ∨ (∃ pre, pre <+: haveL ms q ms.length ∧ Jx pre W')) := by
  have HY := Lib.hid hY
  have HK := Lib.hid hKp
  have HR := Lib.hid hGr
  have HG := Lib.hid hG'
  have HGd := Lib.hid hGood
  have HJ := Lib.hid hJ
  have HP := Lib.hid (fun k (h : k ≤ ms.length) => haveL_pre (ms := ms) (n := q) h)
  have HHit := Lib.hid (fun k h => haveL_hit (ms := ms) (n := q) (k := k) h)
  have HMiss := Lib.hid (fun k h => haveL_miss (ms := ms) (n := q) (k := k) h)
  have HLe := Lib.hid (fun k => haveL_le ms q k)
  have hG := hGood _ hG'
  obtain ⟨a, cap, rfl, hl, hm, -⟩ := hG.r.open
  have b1 := hG.c1
  have b2 := hG.c2
  clear hY hKp hG hG' hGood hGr hJ
  refine callsIn_of_wp Try.func89 rfl trivial ?_ rfl
  simp only [Try.ntmps89, List.size_toArray, List.length_cons, List.length_nil, Nat.reduceAdd, Nat.reduceSub, Array.replicate_succ, Array.replicate_zero, List.push_toArray, List.append_toArray, List.nil_append, List.cons_append]
  gi_wp2
  gi_loopw [9] (fun i wr => ∃ k : Nat, k ≤ ms.length ∧ i = .int .i64 k ∧ J (haveL ms q k) wr ∧ Good wr) (fun i _ => ms.length - (intOf i).toNat)
  case atStart => exact ⟨0, Nat.zero_le _, rfl, h0, HG.out⟩
  case round =>
    obtain ⟨k, hk, rfl, hJs, hgd⟩ := hrel
    have hg := HGd.out _ hgd
    by_cases hlt : k < ms.length
    · obtain ⟨_, _, e1, -, -, hcell⟩ := hg.r.open
      simp only [Value.slice.injEq] at e1
      obtain ⟨rfl, -, rfl⟩ := e1
      obtain ⟨g, off, rfl, hgl, g1, g2⟩ := hcell k hlt
      have c2 := hg.c2
      have z2 : B2 < wr.heap.size := World.block_lt_of_cell? wr _ c2
      have HGk := Lib.hid hgd
      have hmk := mAt_get hlt
      have HHk := HHit.out k
      have HMk := HMiss.out k
      rw [hmk] at HHk HMk
      clear hcell hg hgd hmk
      generalize ms[k] = m at *
      obtain ⟨m1, m2⟩ := m
      have HHk' := Lib.hid HHk
      have HMk' := Lib.hid HMk
      clear HHk HMk
      have HBx := Lib.hid (fun (W' : World) (hb : Below (wr.alloc (.cells #[.int .u64 (U m1), .int .u64 (U m2)] 49)).heap.size (wr.alloc (.cells #[.int .u64 (U m1), .int .u64 (U m2)] 49)) W') => (show Below wr.heap.size wr W' by ((have shb := hb.size); (try simp at shb); (repeat' (first | (with_reducible exact Below.refl _ _) | (with_reducible refine Below.setCell ?_ ?_ _) | (with_reducible refine Below.alloc ?_ ?_ _) | (with_reducible refine Below.drew ?_) | (with_reducible refine Below.trans ?_ (Below.mono hb ?_)) | go_size)))))
      cases hh : hasN (m1, m2) q
      · have HH := Lib.hid hh
        have HM2 := Lib.hid (HMk'.out hh)
        clear hh
        gi_wp2_with fail
        refine ⟨trivial, (callsIn_wide.2 (f_Has_any m1 m2 q _)).mono ?_⟩
        rintro e w2 ⟨rfl, hb2⟩
        rw [HH.out]
        have hb3 := HBx.out _ hb2
        have hJ2 := abides_below HJ.out hJs hb3
        rw [← HM2.out] at hJ2
        have HG2 := Lib.hid (HR.out _ _ hb3 HGk.out)
        have hs2 := hb3.size
        gi_wp2
        refine ⟨fun _ h => (by cases h), ?_⟩
        gi_wp2
        go_roundw
        case rel => exact ⟨k + 1, by omega, by go_num, hJ2, HG2.out⟩
        case measure => simp [intOf]; omega
      · have HH := Lib.hid hh
        have HM2 := Lib.hid (HHk'.out hh)
        clear hh
        gi_wp2_with fail
        refine ⟨trivial, (callsIn_wide.2 (f_Has_any m1 m2 q _)).mono ?_⟩
        rintro e w2 ⟨rfl, hb2⟩
        rw [HH.out]
        have hb3 := HBx.out _ hb2
        have hJ2 := abides_below HJ.out hJs hb3
        have HG2 := Lib.hid (HR.out _ _ hb3 HGk.out)
        have hs2 := hb3.size
        obtain ⟨fn, tmps, assign, body, hy, hR⟩ := HY.out _ k w2 hJ2 (by have := HLe.out k; omega)
        gi_wp2
        refine hR.mono ?_
        rintro e W3 (⟨rfl, hJ3, hk3⟩ | ⟨rfl, hJx3⟩)
        · rw [← HM2.out] at hJ3
          have HG3 := Lib.hid (HK.out _ _ hk3 HG2.out)
          clear hy hR hk3
          gi_wp2
          go_roundw
          case rel => exact ⟨k + 1, by omega, by go_num, hJ3, HG3.out⟩
          case measure => simp [intOf]; omega
        · gi_wp2
          refine bodyPost_ret (results_none rfl _ _ _) rfl ?_
          exact ⟨⟨_, rfl⟩, .inr ⟨_, by rw [← HM2.out]; exact HP.out (k + 1) (by omega), hJx3⟩⟩
    · obtain rfl : k = ms.length := by omega
      gi_wp2
      go_end0
      exact ⟨⟨_, rfl⟩, .inl ⟨_, rfl, hJs⟩⟩
theorem having_stops (n : Nat) (hn : 1 ≤ n) (B1 B2 : Nat) (vm : Value) (ms : List M) (q : Int) (hms : ms.length ≤ 1000) (Good : World → Prop) (hGood : ∀ W, Good W → LBox B1 B2 vm ms q W) (hGr : ∀ W W', Below W.heap.size W W' → Good W → Good W')
    (Kp : World → World → Prop) (hKp : ∀ W W', Kp W W' → Good W → Good W') (w : World) (hG : ∀ W, Below w.heap.size w W → Good W) :
    SeqStopsK Fence.wide n Try.prog 89 #[.pointer (some ⟨B1, 0, none⟩), .pointer (some ⟨B2, 0, none⟩)] (fun x : Nat => #[Value.int .i64 (x : Int)]) Kp (fun ys => ys = haveL ms q ms.length) (fun pre => pre <+: haveL ms q ms.length) ms.length w := fun l0 J Jx W hW hJ _ hY hj =>
  having1_in n hn l0 B1 B2 vm ms q hms Good hGood hGr Kp hKp J Jx W hJ hY (hG W hW) hj
theorem f_having (a a' : Option Addr) (n n' c c' : Nat) (q : Int) (w : World) : Calls Try.prog 44 #[.agg #[.slice a n c, .slice a' n' c'], .int .i64 q] w fun e w' => e = .returned (.func (.func 89) #[] #[.pointer (some ⟨w.heap.size, 0, none⟩), .pointer (some ⟨w.heap.size + 1, 0, none⟩)]) ∧
    w' = (w.alloc (.cells #[.slice a n c, .slice a' n' c'] 25)).alloc (.cells #[.int .i64 q] 3) := by
  go_enter Try.func44, Try.ntmps44
  go_wp2
  go_ret
  exact ⟨rfl, rfl⟩
/-- The place of the list that has a slot, and whether there is one. -/
def whereF (cs : List PV) (ms : List M) (q : Int) : Int × Bool :=
  if listsOK cs ms then (match haveL ms q ms.length with | [] => (0, false) | i :: _ => ((i : Int), true)) else (0, false)
set_option maxHeartbeats 4000000 in
theorem f_Where (vc vm : Value) (cs : List PV) (ms : List M) (q : Int) (hms : ms.length ≤ 1000) (w : World) (hc : VecsV w vc cs) (hm : Masks w vm ms) : Calls Try.prog 12 #[.agg #[vc, vm], .int .i64 q] w fun e W' =>
    e = .returned (.tuple #[.int .i64 (whereF cs ms q).1, .bool (whereF cs ms q).2]) ∧ Below w.heap.size w W' := by
  obtain ⟨a, cap, rfl, hl1, hm1⟩ : ∃ a cap, vc = .slice a cs.length cap ∧ cs.length ≤ cap ∧ cap ≤ 9223372036854775807 := by
    obtain ⟨a, cap, e, h1, h2, -⟩ := hc.open; exact ⟨a, cap, e, h1, h2⟩
  obtain ⟨a', cap', rfl, hl2, hm2, -⟩ := hm.open
  have HV := Lib.hid (fun W (hb : Below w.heap.size w W) => hc.grown hb)
  have HM := Lib.hid (fun W (hb : Below w.heap.size w W) => hm.grown hb)
  clear hc hm
  cases hok : listsOK cs ms
  · have HE := Lib.hid (show listsE cs ms = 230 by unfold listsE; rw [hok]; rfl)
    have HW := Lib.hid (show whereF cs ms q = (0, false) by unfold whereF; rw [hok]; rfl)
    clear hok
    go_enter Try.func12, Try.ntmps12
    go_wp2_with fail
    refine (f_listsCheck _ _ cs ms _ (HV.out _ (by ((repeat' (first | (with_reducible exact Below.refl _ _) | (with_reducible refine Below.setCell ?_ ?_ _) | (with_reducible refine Below.alloc ?_ ?_ _) | (with_reducible refine Below.drew ?_) | (with_reducible refine Below.trans ?_ (Below.mono (by assumption) ?_)) | go_size))))) (HM.out _ (by ((repeat' (first | (with_reducible exact Below.refl _ _) | (with_reducible refine Below.setCell ?_ ?_ _) | (with_reducible refine Below.alloc ?_ ?_ _) | (with_reducible refine Below.drew ?_) | (with_reducible refine Below.trans ?_ (Below.mono (by assumption) ?_)) | go_size)))))).mono ?_
    rintro e w1 ⟨rfl, hb1⟩
    rw [HE.out]
    have z1w0 : w.heap.size < w1.heap.size := (by have := hb1.size; (try simp at this); omega)
    have q1w0 := fun o => hb1.cell (p := ⟨w.heap.size, o, none⟩) (by first | omega | (simp; done) | (simp; omega))
    have r1w0 := fun o => hb1.frozen (p := ⟨w.heap.size, o, none⟩) (by first | omega | (simp; done) | (simp; omega))
    have z1w1 : w.heap.size + 1 < w1.heap.size := (by have := hb1.size; (try simp at this); omega)
    have q1w1 := fun o => hb1.cell (p := ⟨w.heap.size + 1, o, none⟩) (by first | omega | (simp; done) | (simp; omega))
    have r1w1 := fun o => hb1.frozen (p := ⟨w.heap.size + 1, o, none⟩) (by first | omega | (simp; done) | (simp; omega))
    have z1w2 : w.heap.size + 1 + 1 < w1.heap.size := (by have := hb1.size; (try simp at this); omega)
    have q1w2 := fun o => hb1.cell (p := ⟨w.heap.size + 1 + 1, o, none⟩) (by first | omega | (simp; done) | (simp; omega))
    have r1w2 := fun o => hb1.frozen (p := ⟨w.heap.size + 1 + 1, o, none⟩) (by first | omega | (simp; done) | (simp; omega))
    go_wp2
    refine bodyPost_ret (v := .tuple #[.int .i64 0, .bool false]) (by simp only [results, Try.results12]; go_simp) rfl ⟨by rw [HW.out], ?_⟩
    ((have shb1 := hb1.size); (try simp at shb1); (repeat' (first | (with_reducible exact Below.refl _ _) | (with_reducible refine Below.setCell ?_ ?_ _) | (with_reducible refine Below.alloc ?_ ?_ _) | (with_reducible refine Below.drew ?_) | (with_reducible refine Below.trans ?_ (Below.mono hb1 ?_)) | go_size)))
  · have HE := Lib.hid (show listsE cs ms = 0 by unfold listsE; rw [hok]; rfl)
    have HW := Lib.hid (show whereF cs ms q = (match haveL ms q ms.length with | [] => (0, false) | i :: _ => ((i : Int), true)) by unfold whereF; rw [hok]; rfl)
    clear hok
    refine (callsIn_wide (n := 3)).1 ?_
    have h1 : 1 ≤ 3 := by omega
    refine callsIn_of_wp_marks Try.func12 rfl trivial ?_ rfl
    simp only [Try.ntmps12, List.size_toArray, List.length_cons, List.length_nil, Nat.reduceAdd, Nat.reduceSub, Array.replicate_succ, Array.replicate_zero, List.push_toArray, List.append_toArray, List.nil_append, List.cons_append]
    gi_wp2_with fail
    refine ⟨trivial, (callsIn_wide.2 (f_listsCheck _ _ cs ms _ (HV.out _ (by ((repeat' (first | (with_reducible exact Below.refl _ _) | (with_reducible refine Below.setCell ?_ ?_ _) | (with_reducible refine Below.alloc ?_ ?_ _) | (with_reducible refine Below.drew ?_) | (with_reducible refine Below.trans ?_ (Below.mono (by assumption) ?_)) | go_size))))) (HM.out _ (by ((repeat' (first | (with_reducible exact Below.refl _ _) | (with_reducible refine Below.setCell ?_ ?_ _) | (with_reducible refine Below.alloc ?_ ?_ _) | (with_reducible refine Below.drew ?_) | (with_reducible refine Below.trans ?_ (Below.mono (by assumption) ?_)) | go_size))))))).mono ?_⟩
    rintro e w1 ⟨rfl, hb1⟩
    rw [HE.out]
    have z1w0 : w.heap.size < w1.heap.size := (by have := hb1.size; (try simp at this); omega)
    have q1w0 := fun o => hb1.cell (p := ⟨w.heap.size, o, none⟩) (by first | omega | (simp; done) | (simp; omega))
    have r1w0 := fun o => hb1.frozen (p := ⟨w.heap.size, o, none⟩) (by first | omega | (simp; done) | (simp; omega))
    have z1w1 : w.heap.size + 1 < w1.heap.size := (by have := hb1.size; (try simp at this); omega)
    have q1w1 := fun o => hb1.cell (p := ⟨w.heap.size + 1, o, none⟩) (by first | omega | (simp; done) | (simp; omega))
    have r1w1 := fun o => hb1.frozen (p := ⟨w.heap.size + 1, o, none⟩) (by first | omega | (simp; done) | (simp; omega))
    have z1w2 : w.heap.size + 1 + 1 < w1.heap.size := (by have := hb1.size; (try simp at this); omega)
    have q1w2 := fun o => hb1.cell (p := ⟨w.heap.size + 1 + 1, o, none⟩) (by first | omega | (simp; done) | (simp; omega))
    have r1w2 := fun o => hb1.frozen (p := ⟨w.heap.size + 1 + 1, o, none⟩) (by first | omega | (simp; done) | (simp; omega))
    have hB1 : Below w.heap.size w w1 := by ((have shb1 := hb1.size); (try simp at shb1); (repeat' (first | (with_reducible exact Below.refl _ _) | (with_reducible refine Below.setCell ?_ ?_ _) | (with_reducible refine Below.alloc ?_ ?_ _) | (with_reducible refine Below.drew ?_) | (with_reducible refine Below.trans ?_ (Below.mono hb1 ?_)) | go_size)))
    have c0 : w1.cell? ⟨w.heap.size, 0, none⟩ = some (.slice a cs.length cap) := by rw [q1w0]; go_simp
    have c0' : w1.cell? ⟨w.heap.size, 1, none⟩ = some (.slice a' ms.length cap') := by rw [q1w0]; go_simp
    have c1 : w1.cell? ⟨w.heap.size + 1, 0, none⟩ = some (.int .i64 0) := by rw [q1w1]; go_simp
    have f1 : w1.frozen? ⟨w.heap.size + 1, 0, none⟩ = false := by rw [r1w1]; go_simp
    have c2 : w1.cell? ⟨w.heap.size + 1 + 1, 0, none⟩ = some (.bool false) := by rw [q1w2]; go_simp
    have f2 : w1.frozen? ⟨w.heap.size + 1 + 1, 0, none⟩ = false := by rw [r1w2]; go_simp
    clear q1w0 q1w1 q1w2 r1w0 r1w1 r1w2 hb1
    gi_wp2_with (refine ⟨trivial, ?_⟩; gi_at_call 44; refine (callsIn_wide.2 (f_having _ _ _ _ _ _ _ _)).mono ?_; rintro e w' ⟨rfl, rfl⟩)
    have c3 : ((w1.alloc (.cells #[.slice a cs.length cap, .slice a' ms.length cap'] 25)).alloc (.cells #[.int .i64 q] 3)).cell? ⟨w1.heap.size, 1, none⟩ = some (.slice a' ms.length cap') := by go_simp
    have c4 : ((w1.alloc (.cells #[.slice a cs.length cap, .slice a' ms.length cap'] 25)).alloc (.cells #[.int .i64 q] 3)).cell? ⟨w1.heap.size + 1, 0, none⟩ = some (.int .i64 q) := by go_simp
    have k1 : ((w1.alloc (.cells #[.slice a cs.length cap, .slice a' ms.length cap'] 25)).alloc (.cells #[.int .i64 q] 3)).cell? ⟨w.heap.size + 1, 0, none⟩ = some (.int .i64 0) := by go_simp
    have k2 : ((w1.alloc (.cells #[.slice a cs.length cap, .slice a' ms.length cap'] 25)).alloc (.cells #[.int .i64 q] 3)).cell? ⟨w.heap.size + 1 + 1, 0, none⟩ = some (.bool false) := by go_simp
    have k3 : ((w1.alloc (.cells #[.slice a cs.length cap, .slice a' ms.length cap'] 25)).alloc (.cells #[.int .i64 q] 3)).frozen? ⟨w.heap.size + 1, 0, none⟩ = false := by go_simp
    have k4 : ((w1.alloc (.cells #[.slice a cs.length cap, .slice a' ms.length cap'] 25)).alloc (.cells #[.int .i64 q] 3)).frozen? ⟨w.heap.size + 1 + 1, 0, none⟩ = false := by go_simp
    have hB3 : Below w.heap.size w ((w1.alloc (.cells #[.slice a cs.length cap, .slice a' ms.length cap'] 25)).alloc (.cells #[.int .i64 q] 3)) := by ((have shB1 := hB1.size); (try simp at shB1); (repeat' (first | (with_reducible exact Below.refl _ _) | (with_reducible refine Below.setCell ?_ ?_ _) | (with_reducible refine Below.alloc ?_ ?_ _) | (with_reducible refine Below.drew ?_) | (with_reducible refine Below.trans ?_ (Below.mono hB1 ?_)) | go_size)))
    obtain ⟨W3, hW3⟩ : ∃ W3, ((w1.alloc (.cells #[.slice a cs.length cap, .slice a' ms.length cap'] 25)).alloc (.cells #[.int .i64 q] 3)) = W3 := ⟨_, rfl⟩
    have hsz : W3.heap.size = w1.heap.size + 2 := by rw [← hW3]; simp
    rw [hW3] at c3 c4 k1 k2 k3 k4 hB3 ⊢
    clear hW3 c0 c0' c1 c2 f1 f2
    have stops := having_stops 2 (by omega) w1.heap.size (w1.heap.size + 1) (.slice a' ms.length cap') ms q hms (fun W => Below W3.heap.size W3 W)
      (fun W hW => ⟨(hW.cell (p := ⟨w1.heap.size, 1, none⟩) (by simp; omega)).trans c3, (hW.cell (p := ⟨w1.heap.size + 1, 0, none⟩) (by simp; omega)).trans c4, HM.out _ (hB3.trans (hW.mono (by omega)))⟩)
      (fun W W' hb hW => hW.trans (hb.mono hW.size)) (Below W3.heap.size) (fun W W' hk hW => hW.trans hk) W3 (fun W hW => hW)
    refine wpIn_rangeFunc_ownG rfl h1 (gf := 89) (lb := #[.pointer (some ⟨w1.heap.size, 0, none⟩), .pointer (some ⟨w1.heap.size + 1, 0, none⟩)]) rfl trivial (enters_of Try.func89 (by kernel_rfl) rfl)
      stops belowK_t (belowK_b (Nat.le_refl _)) (Below.refl _ _) (fun _ => rfl)
      (fun pre W => (pre = [] ∧ W.cell? ⟨w.heap.size + 1, 0, none⟩ = some (.int .i64 0) ∧ W.frozen? ⟨w.heap.size + 1, 0, none⟩ = false ∧ W.cell? ⟨w.heap.size + 1 + 1, 0, none⟩ = some (.bool false) ∧ W.frozen? ⟨w.heap.size + 1 + 1, 0, none⟩ = false) ∧ Below w.heap.size w W)
      (fun c pre W => (c = .ret ∧ ∃ x : Nat, pre = [x] ∧ W.cell? ⟨w.heap.size + 1, 0, none⟩ = some (.int .i64 (x : Int)) ∧ W.cell? ⟨w.heap.size + 1 + 1, 0, none⟩ = some (.bool true)) ∧ Below w.heap.size w W)
      (OwnFrom.and (Own.from (fun s A B row hs hg hr => ⟨hs.1, cell_kept hs.2.1 hg hr, (frozen_kept hs.2.1 hg hr).trans hs.2.2.1, cell_kept hs.2.2.2.1 hg hr, (frozen_kept hs.2.2.2.1 hg hr).trans hs.2.2.2.2⟩) _) (ownFrom_below (Nat.le_refl _) (by omega)))
      (fun c => OwnFrom.and (Own.from (fun s A B row hs hg hr => by obtain ⟨hc, x, e1, e2, e3⟩ := hs; exact ⟨hc, x, e1, cell_kept e2 hg hr, cell_kept e3 hg hr⟩) _) (ownFrom_below (Nat.le_refl _) (by omega)))
      ⟨⟨rfl, k1, k3, k2, k4⟩, hB3⟩
      (fun x => { tmps := #[.agg #[.slice a cs.length cap, .slice a' ms.length cap'], .int .i64 q, .pointer (some ⟨w.heap.size, 0, none⟩), undef, .pointer (some ⟨w.heap.size + 1, 0, none⟩), .pointer (some ⟨w.heap.size + 1 + 1, 0, none⟩), .int .i64 (x : Int), .agg #[.slice a cs.length cap, .slice a' ms.length cap'], .int .i64 0, .bool false, .agg #[.slice a cs.length cap, .slice a' ms.length cap'], .int .i64 q, .func (.func 89) #[] #[.pointer (some ⟨w1.heap.size, 0, none⟩), .pointer (some ⟨w1.heap.size + 1, 0, none⟩)], .int .i64 (x : Int), undef], defers := [] }) ?assign ?body ?done ?stop
    case assign =>
      intro l x W K hK
      gi_wp2
      exact hK
    case body =>
      rintro l pre x W ⟨⟨rfl, hc1, hf1, hc2, hf2⟩, hB⟩ hlt
      gi_wp2
      refine ⟨((KeepsOthers.setCell _ _ _).trans (KeepsOthers.setCell _ _ _)).from _, ⟨rfl, x, rfl, ?_, ?_⟩, ?_⟩
      · go_simp
      · go_simp
      · exact (hB.setCell (p := ⟨w.heap.size + 1, 0, none⟩) (by simp) _).setCell (p := ⟨w.heap.size + 1 + 1, 0, none⟩) (by simp; omega) _
    case done =>
      rintro D ys W hD rfl ⟨⟨hnil, hc1, hf1, hc2, hf2⟩, hB⟩ hK
      have hnx := Lib.hid (show whereF cs ms q = (0, false) by rw [HW.out, hnil])
      clear hnil
      gi_wp2
      have hcA : ((W.setCell ⟨w.heap.size + 1, 0, none⟩ (.int .i64 0)).setCell ⟨w.heap.size + 1 + 1, 0, none⟩ (.bool false)).cell? ⟨w.heap.size + 1, 0, none⟩ = some (.int .i64 0) := by go_simp
      have hcB : ((W.setCell ⟨w.heap.size + 1, 0, none⟩ (.int .i64 0)).setCell ⟨w.heap.size + 1 + 1, 0, none⟩ (.bool false)).cell? ⟨w.heap.size + 1 + 1, 0, none⟩ = some (.bool false) := by go_simp
      have hK' := ((KeepsOthers.setCell W ⟨w.heap.size + 1, 0, none⟩ (.int .i64 0)).trans (KeepsOthers.setCell _ ⟨w.heap.size + 1 + 1, 0, none⟩ (.bool false))).same D _ hK rfl
      have hB' := (hB.setCell (p := ⟨w.heap.size + 1, 0, none⟩) (by simp) (.int .i64 0)).setCell (p := ⟨w.heap.size + 1 + 1, 0, none⟩) (by simp; omega) (.bool false)
      refine ⟨by simp, .inl ⟨_, _, rfl, run_takeDeferred hK', ?_⟩⟩
      have hc5 := cell_kept hcA (grownBy_putObj' _ D (.deferred none)) (fun r e => by cases e; exact ⟨_, hK', rfl⟩)
      have hc6 := cell_kept hcB (grownBy_putObj' _ D (.deferred none)) (fun r e => by cases e; exact ⟨_, hK', rfl⟩)
      refine ⟨.tuple #[.int .i64 0, .bool false], ?_, by rw [hnx.out], hB'.trans (belowK_b (w := w) (Nat.le_refl _) _ D _ _ (by omega) hK' rfl rfl)⟩
      simp [results, Try.f12, go_sem, hc5, hc6]
    case stop =>
      rintro D c pre W hD ⟨t, ht⟩ ⟨⟨rfl, x, rfl, hc1, hc2⟩, hB⟩ hK
      have hnx := Lib.hid (show whereF cs ms q = ((x : Int), true) by rw [HW.out, ← ht]; rfl)
      clear ht
      gi_wp2
      refine ⟨by simp, .inl ⟨_, _, rfl, run_takeDeferred hK, ?_⟩⟩
      have hc5 := cell_kept hc1 (grownBy_putObj' _ D (.deferred none)) (fun r e => by cases e; exact ⟨_, hK, rfl⟩)
      have hc6 := cell_kept hc2 (grownBy_putObj' _ D (.deferred none)) (fun r e => by cases e; exact ⟨_, hK, rfl⟩)
      refine ⟨.tuple #[.int .i64 (x : Int), .bool true], ?_, by rw [hnx.out], hB.trans (belowK_b (w := w) (Nat.le_refl _) W D _ _ (by omega) hK rfl rfl)⟩
      simp [results, Try.f12, go_sem, hc5, hc6]
end Go.Proofs.Ytlfmffjlmhpcdaa
