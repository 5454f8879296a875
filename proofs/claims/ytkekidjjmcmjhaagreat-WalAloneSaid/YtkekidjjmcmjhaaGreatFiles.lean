/- The contract of Files: the names, sorted. -/
import Derived.Test.YtkekidjjmcmjhaaGreatOps4
import Derived.Test.YtkekidjjmcmjhaaGreatDShelf
namespace Go.Proofs.YtkekidjjmcmjhaaGreat
open Go.RowKit Go.Maps Go.Sort Go.Shelf
set_option maxRecDepth 100000

def namesOf (s : DS) : List Int := [0, 1, 2, 3].filter fun x => (s.fl x).isSome

theorem namesOf_mem {s : DS} {x : Int} : x ∈ namesOf s ↔ (x = 0 ∨ x = 1 ∨ x = 2 ∨ x = 3) ∧ (s.fl x).isSome = true := by
  unfold namesOf; simp
theorem namesOf_len (s : DS) : (namesOf s).length ≤ 4 := by
  unfold namesOf; exact Nat.le_trans (List.length_filter_le _ _) (by simp)
theorem namesOf_nodup (s : DS) : (namesOf s).Nodup := by
  unfold namesOf; exact List.Pairwise.filter _ (by decide)
theorem namesOf_sorted (s : DS) : (namesOf s).mergeSort leI = namesOf s := by
  refine List.mergeSort_of_pairwise ?_
  unfold namesOf
  exact List.Pairwise.filter _ (by decide)

/-- slices.Sort's two contracts, at the fence that asks nothing. -/
theorem sortsA (m : Nat) : AnyZI.SortsIn Tryz.prog Tryz.sortedA_ren Fence.wide m :=
  ⟨fun blk off cap ss W hH hblk hsz => callsIn_wide.2 (Tryz.slices_Sort_int blk off cap ss W hH hblk hsz),
   fun p cap W => callsIn_wide.2 (Tryz.slices_Sort_int_none p cap W)⟩

section
variable {w : World} {A : List Nat} {b m : Nat} {s : DS}

theorem keys_names {n : Nat} {D : DataW Value} {G : Int → Option Value} (hown : w.ownsMap Tryz.prog 3 RV m n D) (hh : Holds D G) (hG : ∀ x, (G x).isSome = (s.fl x).isSome) (hok : s.Ok) {ss : List Int} (hp : ss.Perm (intKeys D)) : ss.mergeSort leI = namesOf s := by
  obtain ⟨es, rfl, h1, h2⟩ := entry_int Tryz.underlying3 hown
  have h3 : (namesOf s).Perm (intKeys (.map es)) := by
    refine perm_intKeys h1 (fun p hp => ?_) (namesOf_nodup s) (fun x => ?_)
    · obtain ⟨x, _, e⟩ := h2 p hp
      exact ⟨x, e⟩
    · rw [namesOf_mem]
      constructor
      · rintro ⟨h4, h5⟩
        have hx : W64 x := w64 (by omega) (by omega)
        exact ((hh x hx).1.trans (hG x)).trans h5
      · intro h4
        obtain ⟨p, hp, hpk⟩ := List.any_eq_true.1 h4
        have e1 := WideAt.sameKey_eq hpk
        obtain ⟨y, hy, e2⟩ := h2 p hp
        rw [e1] at e2
        have e3 : x = y := by simpa [KI] using e2
        subst e3
        have h5 := (hG x).symm.trans ((hh x hy).1.symm.trans h4)
        obtain ⟨f, hf⟩ := Option.isSome_iff_exists.1 h5
        have := hok.name x f hf
        exact ⟨by omega, h5⟩
  rw [mergeSort_of_perm_i (hp.trans h3.symm), namesOf_sorted]

set_option maxHeartbeats 1000000 in
theorem f_Files (h : Disk w A b m s) (hok : s.Ok) : Calls Tryz.prog 62 #[DP b] w fun e w' => (∃ v, e = .returned v ∧ w'.ownsRow w.heap.size 3 1 v (namesOf s).length ((namesOf s).map (Value.int .i64))) ∧ Below w.heap.size w w' := by
  obtain ⟨G, ⟨D, hown, hh⟩, g2⟩ := h.files
  have hG : ∀ x, (G x).isSome = (s.fl x).isSome := fun x => (g2 x).get.2
  have HN := Lib.hid (fun (ss : List Int) (hp : ss.Perm (intKeys D)) => keys_names hown hh hG hok hp)
  have hsz : Maps.size D ≤ 4 := by
    have h9 := hown.size_le
    omega
  have c1 := h.c1
  have hbl := hown.lt
  clear h g2 hG hh
  refine (callsIn_wide (n := 6)).1 ?_
  have hseq : SeqGives Fence.wide 2 Tryz.prog 122 #[.pointer (some ⟨w.heap.size, 0, none⟩)] encZ (fun ss => ss.Perm (intKeys D)) (Maps.size D) (w.alloc (.cells #[.map (some m)] 69)) :=
    AnyZI.keys_gives (ρ := Tryz.keysA_ren) { Tryz.keysA with } Fence.wide _ trivial rfl (by omega) w.heap.size m 4 D _ (by simp) (by simp) (by
      obtain ⟨es, clock, hb, Ft, hs, hD⟩ := hown
      exact ⟨es, clock, (Below.heap_alloc _ _ m hbl).trans hb, Ft, hs, hD⟩)
  have cK : ∀ mb W, CallsIn Fence.wide 5 Tryz.prog 100 #[.map mb] W fun e w' => e = .returned (.func (.func 122) #[] #[.pointer (some ⟨W.heap.size, 0, none⟩)]) ∧ w' = W.alloc (.cells #[.map mb] 69) := fun mb W => AnyZI.keys_in Tryz.keysA Fence.wide 5 trivial rfl mb W
  have cS := AnyZI.sorted_in Tryz.sortedA Fence.wide 5 trivial trivial trivial trivial rfl (by omega) (sortsA _) (enters_of Tryz.func121 (by kernel_rfl) rfl) 122 #[.pointer (some ⟨w.heap.size, 0, none⟩)] trivial (enters_of Tryz.func122 (by kernel_rfl) rfl) _ _ (by unfold maxLen; omega) (by omega) _ hseq
  change CallsIn _ _ Tryz.prog 99 _ _ _ at cS
  have hfK : Fence.wide.fn 100 := trivial
  have hfS : Fence.wide.fn 99 := trivial
  refine callsIn_of_wp Tryz.func62 rfl trivial ?_ rfl
  simp only [Tryz.ntmps62, List.size_toArray, List.length_cons, List.length_nil, Nat.reduceAdd, Nat.reduceSub, Array.replicate_succ, Array.replicate_zero, List.push_toArray, List.append_toArray, List.nil_append, List.cons_append]
  clear hown
  gi_wp2_with (first
    | (gi_at_call 100; refine (cK _ _).mono ?_; rintro e w' ⟨rfl, rfl⟩)
    | (gi_at_call 99; refine cS.mono ?_; rintro e w' ⟨v, ss, rfl, hS, hrow, hnil, hb⟩))
  go_ret
  have e1 := HN.out ss hS
  have e2 : ss.length = (namesOf s).length := by rw [← e1]; simp
  rw [e2, show (ss.mergeSort (fun x y => decide (x ≤ y))) = namesOf s from e1] at hrow
  exact ⟨⟨v, rfl, ownsRow_base_a hrow (by simp)⟩, ((Below.refl _ w).alloc (Nat.le_refl _) _).trans (hb.mono (by simp))⟩
end
end Go.Proofs.YtkekidjjmcmjhaaGreat
