/- The contract of Pending: a range over the pieces, gathered by append. -/
import Derived.Test.YtlhkacjfonihjaaPieces
namespace Go.Proofs.Ytlhkacjfonihjaa
open Go.RowKit Go.Shelf
set_option maxRecDepth 100000
attribute [local go_sem] Oper.semAt_some

def pendL (s : DS) : List Int := (pieces s).map fun p => (p.1.val : Int)

theorem nP_le {s : DS} (hok : s.Ok) (x : Int) : nP (s.at x) ≤ 8193 := by
  have : (s.at x).bs.length ≤ 65536 := by
    cases hfx : s.fl x with
    | none => have : (s.at x).bs = [] := by unfold DS.at; rw [hfx]; rfl
              rw [this]; simp
    | some f => have : s.at x = f := by unfold DS.at; rw [hfx]; rfl
                rw [this]; exact len_le hok hfx
  unfold nP; omega
theorem flatMap_le {α β : Type} (f : α → List β) (c : Nat) : ∀ (l : List α), (∀ x ∈ l, (f x).length ≤ c) → (l.flatMap f).length ≤ l.length * c
  | [], _ => by simp
  | x :: l, h => by
    have h1 := flatMap_le f c l (fun y hy => h y (by simp [hy]))
    have h2 := h x (by simp)
    rw [List.flatMap_cons, List.length_append, List.length_cons, Nat.succ_mul]
    omega
theorem pieces_len {s : DS} (hok : s.Ok) : (pieces s).length ≤ 40000 := by
  have h1 := flatMap_le (pieceL s) 8193 (namesOf s) (fun x _ => by unfold pieceL pieceN; rw [List.length_map, List.length_range]; exact nP_le hok x)
  have h2 := namesOf_len s
  have : (namesOf s).length * 8193 ≤ 4 * 8193 := Nat.mul_le_mul_right _ h2
  unfold pieces
  omega

section
variable {w : World} {A : List Nat} {b m : Nat} {s : DS}

def ownAt (B : Nat) (W : World) : Option Nat := (W.cell? ⟨B, 0, none⟩).bind Value.ownBlock
theorem ownAt_of {B n1 : Nat} (hB : B < n1) (W W' : World) (h : Below n1 W W') : ownAt B W' = ownAt B W := by
  unfold ownAt; rw [h.cell (p := ⟨B, 0, none⟩) hB]

set_option maxRecDepth 100000 in
set_option maxHeartbeats 2000000 in
theorem f_Pending (h : Disk w A b m s) (hok : s.Ok) : Calls Try.prog 19 #[DP b] w fun e W' =>
    (∃ v, e = .returned v ∧ W'.ownsRow w.heap.size 3 1 v (pendL s).length ((pendL s).map (Value.int .i64))) ∧ Below w.heap.size w W' := by
  obtain ⟨i0, hi, hz0, hz1, hz2⟩ := info_parts info_int
  have HL := Lib.hid (pieces_len hok)
  have HD := Lib.hid h
  clear h
  refine (callsIn_wide (n := 6)).1 ?_
  have h1 : 1 ≤ 6 := by omega
  refine callsIn_of_wp_marks Try.func19 rfl trivial ?_ rfl
  simp only [Try.ntmps19, List.size_toArray, List.length_cons, List.length_nil, Nat.reduceAdd, Nat.reduceSub, Array.replicate_succ, Array.replicate_zero, List.push_toArray, List.append_toArray, List.nil_append, List.cons_append]
  gi_wp2_with (refine ⟨trivial, ?_⟩; gi_at_call 43; refine (callsIn_wide.2 (f_pieces _ _)).mono ?_; rintro e w' ⟨rfl, rfl⟩)
  have bO := Boxed.new w 39 (.slice none 0 0)
  have bO3 := bO.alloc (.cells #[DP b] 24)
  have hB0 : Below w.heap.size w ((w.alloc (.cells #[.slice none 0 0] 39)).alloc (.cells #[DP b] 24)) := ((Below.refl _ _).alloc (Nat.le_refl _) _).alloc (by simp) _
  have hc0 : ((w.alloc (.cells #[.slice none 0 0] 39)).alloc (.cells #[DP b] 24)).cell? ⟨w.heap.size + 1, 0, none⟩ = some (DP b) := by go_simp
  have hbk : ((w.alloc (.cells #[.slice none 0 0] 39)).alloc (.cells #[DP b] 24)).heap[w.heap.size + 1]? = some (.cells #[DP b] 24) := by
    have := (MapKept.heap_alloc (w.alloc (.cells #[.slice none 0 0] 39)) (.cells #[DP b] 24)).1
    simpa using this
  have hsz : ((w.alloc (.cells #[.slice none 0 0] 39)).alloc (.cells #[DP b] 24)).heap.size = w.heap.size + 2 := by simp
  obtain ⟨W3, hW3⟩ : ∃ W3, ((w.alloc (.cells #[.slice none 0 0] 39)).alloc (.cells #[DP b] 24)) = W3 := ⟨_, rfl⟩
  rw [hW3] at bO3 hB0 hc0 hbk hsz ⊢
  have hown0 : ownAt w.heap.size W3 = none := by unfold ownAt; rw [bO3.cell]; rfl
  have hH : Hold (w.heap.size + 1) (ownAt w.heap.size) w [(w.heap.size + 1, .cells #[DP b] 24)] W3 := by
    refine ⟨hB0, by omega, fun k hk => by rw [hown0] at hk; (cases hk), fun p hp => ?_⟩
    simp only [List.mem_cons, List.not_mem_nil, or_false] at hp
    subst hp
    exact ⟨hbk, rfl, Nat.le_refl _, by rw [hown0]; simp⟩
  have stops := pieces_stops (n := 5) (by omega) (w.heap.size + 1) (w.heap.size + 1) w (ownAt w.heap.size) (ownAt_of (by omega)) (by omega) W3 hc0 HD.out hok _ hH
  clear bO hc0 hbk hown0
  refine wpIn_rangeFunc_ownG rfl h1 (gf := 72) (lb := #[.pointer (some ⟨w.heap.size + 1, 0, none⟩)]) rfl trivial (enters_of Try.func72 (by kernel_rfl) rfl)
    stops Kq.trans (Kq.put (w := W3) (by omega) (by omega) (ownAt_of (by omega))) (Below.refl _ _) (fun _ => rfl)
    (fun (pre : List Pc) W => (∃ v, Boxed W w.heap.size 39 v ∧ W.ownsRow w.heap.size 3 1 v pre.length (pre.map fun p => Value.int .i64 (p.1.val : Int)) ∧ True) ∧ Below w.heap.size w W)
    (fun _ _ _ => False)
    (OwnFrom.and (Own.from (holdsRow_own w.heap.size w.heap.size 39 3 1 (fun (pre : List Pc) => pre.length) (fun pre => pre.map fun p => Value.int .i64 (p.1.val : Int)) (fun pre v => True)) _) (ownFrom_below (Nat.le_refl _) (by omega)))
    (fun _ _ _ _ _ hs _ _ => hs)
    ⟨⟨_, bO3, World.ownsRow_nil _ _ _ _, trivial⟩, hB0⟩
    (fun p => { tmps := #[.pointer (some ⟨b, 0, none⟩), undef, .slice none 0 0, .pointer (some ⟨w.heap.size, 0, none⟩), .int .i64 (p.1.val : Int), .pointer (some ⟨b, 0, none⟩), .bool false, .pointer (some ⟨b, 0, none⟩), .func (.func 72) #[] #[.pointer (some ⟨w.heap.size + 1, 0, none⟩)], .int .i64 (p.1.val : Int), .int .i64 (p.2.val : Int), undef, undef, undef, undef, undef], defers := [] }) ?assign ?body ?done ?stop
  case assign =>
    intro l x W K hK
    simp only [encP]
    gi_wp2
    exact hK
  case body =>
    rintro l pre x W ⟨⟨v, hv, hrow, -⟩, hB⟩ hlt
    have hc := hv.cell
    have hll := HL.out
    have hvl := hv.lt
    gi_wp2_with (gi_at_builtin; refine wpListIn_append_own_at _ rfl _ _ 39 rfl w.heap.size 3 i0 (.int .i64 0) 1 8 Try.underlying39 hi hz0 hz1 hz2 rfl (by decide) _ _ _ rfl (hrow.alloc _) ⟨W.heap.size, 0, none⟩ 1 1 [.int .i64 (x.1.val : Int)] rfl rfl (cell_one_new _ _ _) (by simp [Value.oneCell']) (by unfold maxLen; omega) (by omega) (by have := hB.size; simp; omega) ?_; intro v' w1 hown' hgrow _ hat; obtain ⟨g', cap', rfl⟩ := ownsRow_succ hown'; obtain ⟨hv1, hv2, hr2, hk2, hb2⟩ := hv.appended (by decide) hrow hB.size (by omega) hown' hgrow; have hc1 := hv1.cell; have hf1 := hv1.frozen)
    have hkq : Kq w.heap.size (w.heap.size + 1) (ownAt w.heap.size) W (w1.setCell ⟨w.heap.size, 0, none⟩ (.slice (some ⟨g', 0, none⟩) (pre.length + 1) cap')) := by
      have eo : ownAt w.heap.size W = v.ownBlock := by unfold ownAt; rw [hc]; rfl
      have eo2 : ownAt w.heap.size (w1.setCell ⟨w.heap.size, 0, none⟩ (.slice (some ⟨g', 0, none⟩) (pre.length + 1) cap')) = some g' := by unfold ownAt; rw [hv2.cell]; rfl
      have hg' := (hr2.lt g' rfl).2
      refine ⟨hb2, fun k hk hne o ho _ => ?_, ?_⟩
      · rw [eo] at hne
        have hkl := (Array.getElem?_eq_some_iff.1 ho).1
        rw [RowKit.Below.heap_setCell _ _ _ _ (by dsimp; omega), hgrow.block k (by simp; omega) hne, (MapKept.heap_alloc W _).2 k hkl, ho]
      · rcases hat with h2 | h2
        · have h3 : some g' = v.ownBlock := h2
          exact .inl (by rw [eo, eo2, h3])
        · simp [Value.ownBlock] at h2
          exact .inr ⟨g', eo2, by omega, hg'⟩
    exact ⟨hk2.from _, hkq, ⟨_, hv2, by simpa using hr2, trivial⟩, hB.trans hb2⟩
  case done =>
    rintro D ys W hD rfl ⟨⟨v, hv, hrow, -⟩, hB⟩ hK
    have hc := hv.cell
    have hpl : pendL s = (pieces s).map fun p => (p.1.val : Int) := rfl
    gi_wp2
    refine ⟨by simp, .inl ⟨_, _, rfl, run_takeDeferred hK, ?_⟩⟩
    have hrow2 : W.ownsRow w.heap.size 3 1 v (pendL s).length ((pendL s).map (Value.int .i64)) := by
      rw [hpl, List.length_map, List.map_map]; exact hrow
    exact ⟨_, results_tmp rfl _ _ _, ⟨v, rfl, ownsRow_putObj hrow2 _ hK rfl⟩, hB.trans (belowK_b (w := w) (Nat.le_refl _) W D _ _ (by omega) hK rfl rfl)⟩
  case stop =>
    rintro D c pre W _ _ h _
    exact h.elim
end
end Go.Proofs.Ytlhkacjfonihjaa
