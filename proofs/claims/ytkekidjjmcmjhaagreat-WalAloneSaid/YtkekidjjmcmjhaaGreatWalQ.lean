/- Operations of a disk, one behind the other: wal.inRow; rids; makes; Format. -/
import Derived.Test.YtkekidjjmcmjhaaGreatWalS
import Derived.Test.YtkekidjjmcmjhaaGreatOk
import Derived.WalkMore
import Derived.Scope
namespace Go.Proofs.YtkekidjjmcmjhaaGreat
open Go.RowKit
set_option maxRecDepth 100000
attribute [local irreducible] Der

abbrev DR := DS → Int × DS
def inRowS : List DR → DR
  | [], s => (0, s)
  | f :: fs, s => if (f s).1 = 0 then inRowS fs (f s).2 else f s
def ridsR (x : Int) : DR := fun s => if (s.fl x).isSome then (withE s x ask0, removeS s x) else (0, s)
def appR (x : Int) (bs : List Int) : DR := fun s => (appendE s x bs, appendS s x bs)
def syncR (x : Int) : DR := fun s => (withE s x ask0, withS s x ask0 syncF)
def renR (x y : Int) : DR := fun s => (renameE s x y, renameS s x y)
def truncR (x n : Int) : DR := fun s => (withE s x (askT n), withS s x (askT n) (truncF n))
def makesR (most : Int) (snap : List Int) : DR := inRowS [ridsR 1, appR 1 (headB most ++ framB 0 snap), syncR 1, renR 1 0]

/-- An operation leaves a disk as one may be, and counts once at most. -/
def DR.Good (r : DR) : Prop := ∀ s : DS, s.Ok → (r s).2.Ok ∧ (r s).2.ops ≤ s.ops + 1 ∧ s.ops ≤ (r s).2.ops
theorem ridsR_good (x : Int) : DR.Good (ridsR x) := fun s h => by
  unfold ridsR
  split
  · exact ⟨remove_ok h x, (remove_ops s x).1, (remove_ops s x).2⟩
  · exact ⟨h, by dsimp only; omega, Int.le_refl _⟩
theorem appR_good (x : Int) {bs : List Int} (hb : Byte bs) : DR.Good (appR x bs) := fun s h => ⟨append_ok h x bs hb, (append_ops s x bs).1, (append_ops s x bs).2⟩
theorem syncR_good (x : Int) : DR.Good (syncR x) := fun s h => ⟨sync_ok h x, (withS_ops s x _ _).1, (withS_ops s x _ _).2⟩
theorem renR_good (x y : Int) : DR.Good (renR x y) := fun s h => ⟨rename_ok h x y, (rename_ops s x y).1, (rename_ops s x y).2⟩
theorem truncR_good (x n : Int) : DR.Good (truncR x n) := fun s h => ⟨trunc_ok h x n, (withS_ops s x _ _).1, (withS_ops s x _ _).2⟩
theorem inRowS_good : ∀ (rs : List DR), (∀ r ∈ rs, DR.Good r) → ∀ s : DS, s.Ok → (inRowS rs s).2.Ok ∧ (inRowS rs s).2.ops ≤ s.ops + rs.length ∧ s.ops ≤ (inRowS rs s).2.ops
  | [], _, s, h => ⟨h, by simp [inRowS], by simp [inRowS]⟩
  | r :: rs, hr, s, h => by
    have h1 := hr r (by simp) s h
    rw [inRowS]
    split
    · have h2 := inRowS_good rs (fun x hx => hr x (by simp [hx])) _ h1.1
      exact ⟨h2.1, by rw [List.length_cons]; omega, by omega⟩
    · exact ⟨h1.1, by rw [List.length_cons]; omega, h1.2.2⟩
theorem inRowS_drop (rs : List DR) (k : Nat) (hk : k < rs.length) (s : DS) : inRowS (rs.drop k) s = if (rs[k] s).1 = 0 then inRowS (rs.drop (k + 1)) (rs[k] s).2 else rs[k] s := by
  rw [List.drop_eq_getElem_cons hk, inRowS]

section
variable {w w' : World} {A A' : List Nat} {q b m : Nat} {g : Option Nat} {most : Int} {parts : List (List Int)} {s : DS}

/-- A function value that does an operation of the disk. -/
def DoesR (w : World) (A : List Nat) (b m : Nat) (f : Value) (r : DR) : Prop :=
  ∃ K L, f = .func (.func K) #[] L ∧ (∀ args w, (callFunc K args).run Tryz.prog w = .ok (.enter K args) w) ∧ DR.Good r ∧
    ∀ W s, Disk W A b m s → s.Ok → s.ops < 990000 → Tw w.heap.size [b, m] w W → Calls Tryz.prog K L W fun e W' => e = .returned (.int .i64 (r s).1) ∧ Disk W' A b m (r s).2 ∧ Tw W.heap.size [b, m] W W'

set_option maxHeartbeats 2000000 in
theorem f_inRow (h : Disk w A b m s) (hok : s.Ok) (hop : s.ops < 980000) (v : Value) (fs : List Value) (rs : List DR) (hl : fs.length = rs.length) (hn : fs.length ≤ 100) (hv : Sl w v fs.length fs) (hvb : ∀ ad n c, v = .slice (some ad) n c → ad.block ≠ b ∧ ad.block ≠ m)
    (H : ∀ i (h1 : i < fs.length) (h2 : i < rs.length), DoesR w A b m fs[i] rs[i]) :
    Calls Tryz.prog 43 #[v] w fun e w' => e = .returned (.int .i64 (inRowS rs s).1) ∧ Disk w' A b m (inRowS rs s).2 ∧ Tw w.heap.size [b, m] w w' := by
  obtain ⟨a, cap, rfl, hlc, hcm, hcell⟩ := hv.form
  have HC := Lib.hid (fun W (ht : Tw w.heap.size [b, m] w W) i (hi : i < fs.length) => (show ∃ bb off, a = some ⟨bb, off, none⟩ ∧ W.cell? ⟨bb, off + i, none⟩ = some fs[i] by
    obtain ⟨bb, off, rfl, hlt, hc⟩ := hcell (by intro e; rw [e] at hi; simp at hi)
    have hne := hvb _ _ _ rfl
    exact ⟨bb, off, rfl, (ht.cell (p := ⟨bb, off + i, none⟩) hlt (by simp; exact hne)).trans (hc i hi)⟩))
  have HH := Lib.hid H
  have HD := Lib.hid h
  have HL := Lib.hid hl
  have h1 : fs.length ≤ rs.length := by omega
  have h2 : rs.length ≤ fs.length := by omega
  clear hcell hv hvb H h hl
  obtain ⟨R, hR⟩ : ∃ R, inRowS rs s = R := ⟨_, rfl⟩
  rw [hR]
  have HR := Lib.hid hR
  clear hR
  go_enter Tryz.func43, Tryz.ntmps43
  go_wp2
  refine wp_scope_straight ?_
  go_wp2
  go_step3
  go_wp2
  go_loopw [2, 7] (fun e i wr => ∃ (k : Nat) (s' : DS), k ≤ fs.length ∧ i = .int .i64 k ∧ e = .int .i64 0 ∧ inRowS (rs.drop k) s' = R ∧ Disk wr A b m s' ∧ s'.Ok ∧ s'.ops ≤ s.ops + k ∧ Tw w.heap.size [b, m] w wr) (fun _ i _ => fs.length - (intOf i).toNat)
  case atStart => exact ⟨0, s, Nat.zero_le _, rfl, rfl, HR.out, HD.out, hok, by simp, Tw.refl _ _ _⟩
  case round =>
    obtain ⟨k, s', hk, rfl, rfl, hR, hD, hok', hops, ht⟩ := hrel
    have hRk := Lib.hid hR
    have hT := Lib.hid ht
    have hDr := Lib.hid hD
    clear hR hD ht
    by_cases hlt : k < fs.length
    · obtain ⟨bb, off, rfl, hck⟩ := HC.out wr hT.out k hlt
      obtain ⟨K, L, hf, eg, hgood, hcall⟩ := HH.out k hlt (by omega)
      rw [hf] at hck
      have hcl := hcall wr s' hDr.out hok' (by omega) hT.out
      have hgd := hgood s' hok'
      have hst := Lib.hid ((inRowS_drop rs k (by omega) s').symm.trans hRk.out)
      obtain ⟨p, hp⟩ : ∃ p, rs[k] s' = p := ⟨_, rfl⟩
      rw [hp] at hcl hgd hst
      obtain ⟨err, s2⟩ := p
      have hgd1 := Lib.hid hgd.1
      have hgd2 := hgd.2.1
      have HCL := Lib.hid hcl
      clear hf hcall hgood hp hgd hcl
      go_wp2_with fail
      refine HCL.out.mono ?_
      rintro e w2 ⟨rfl, hD2, ht2⟩
      have HD2 := Lib.hid hD2
      have HT2 := Lib.hid (hT.out.trans (ht2.mono (by have := hT.out.size; omega) (fun a ha => .inl ha)))
      clear hD2 ht2
      by_cases he : err = 0
      · subst he
        have hst2 := hst.out
        rw [if_pos rfl] at hst2
        have HST := Lib.hid hst2
        clear hst2 hst
        go_wp2
        go_roundw
        case rel => exact ⟨k + 1, s2, by omega, by go_num, rfl, HST.out, HD2.out, hgd1.out, by push_cast; omega, HT2.out⟩
        case measure => simp [intOf]; omega
      · have hst2 := hst.out
        rw [if_neg he] at hst2
        subst hst2
        clear hst
        go_wp2
        rw [Exit.noGoto_ret]
        go_ret
        exact ⟨rfl, HD2.out, HT2.out⟩
    · obtain rfl : k = fs.length := by omega
      have e0 : inRowS (rs.drop fs.length) s' = (0, s') := by rw [HL.out, List.drop_length]; rfl
      have hR2 := hRk.out
      rw [e0] at hR2
      subst hR2
      clear e0 hRk
      go_wp2
      rw [Exit.noGoto_ret]
      go_ret
      exact ⟨rfl, hDr.out, hT.out⟩

theorem f_Contains {B n : Nat} {v : Value} {l : List Int} (own : w.ownsRow B 3 1 v n (l.map (Value.int .i64))) (x : Int) :
    Calls Tryz.prog 87 #[v, .int .i64 x] w fun e w' => e = .returned (.bool (l.contains x)) ∧ w' = w := by
  have hn : l.length = n := by have := own.1; simpa using this
  subst hn
  rcases own.2 with ⟨rfl, h0⟩ | ⟨gg, cap, cur, rfl, hB, hg, hl, hm, hs, hx⟩
  · rw [List.eq_nil_of_length_eq_zero h0]
    exact Tryz.slices_Contains_int_empty none 0 x w
  · have hc := own.cells (g := gg) rfl
    have := Tryz.slices_Contains_int gg 0 l.length cap l x w (Nat.le_refl _) (by unfold maxLen at hm; omega) (fun j hj => by
      have h1 := hc j (.int .i64 l[j]) (by simp [hj])
      have e : (⟨gg, 0, none⟩ : Addr).add j = ⟨gg, j, none⟩ := by unfold Addr.add; split <;> simp_all
      rw [e] at h1
      rw [Nat.zero_add, h1]; simp [hj])
    rw [List.take_length] at this
    exact this

def NmR (l : List Int) (v : Value) (w : World) : Prop := ∃ p k c, v = .slice p k c ∧ w.ownsRow 0 3 1 v l.length (l.map (Value.int .i64))
theorem NmR.grown {l : List Int} {v : Value} {w w' : World} (h : NmR l v w) (hb : Below w.heap.size w w') : NmR l v w' := by
  obtain ⟨p, k, c, e, h⟩ := h
  exact ⟨p, k, c, e, owns_below h hb⟩
theorem f_ContainsR {v : Value} {l : List Int} {y : Bool} (h : NmR l v w) (x : Int) (hy : l.contains x = y) :
    Calls Tryz.prog 87 #[v, .int .i64 x] w fun e w' => e = .returned (.bool y) ∧ Below w.heap.size w w' := by
  obtain ⟨p, k, c, rfl, h⟩ := h
  subst hy
  exact (f_Contains h x).mono fun e w' ⟨h1, h2⟩ => ⟨h1, h2 ▸ Below.refl _ _⟩
set_option maxHeartbeats 2000000 in
theorem f_rids1 (h : Disk w A b m s) (hok : s.Ok) (hop : s.ops < 1000000) (x : Int) (hx : W64 x) (hx4 : 0 ≤ x ∧ x < 4) (r1 r2 : Nat) (k1 : w.cell? ⟨r1, 0, none⟩ = some (DP b)) (k2 : w.cell? ⟨r2, 0, none⟩ = some (.int .i64 x)) :
    Calls Tryz.prog 86 #[SP r1, SP r2] w fun e w' => e = .returned (.int .i64 (ridsR x s).1) ∧ Disk w' A b m (ridsR x s).2 ∧ Tw w.heap.size [b, m] w w' := by
  have HD := Lib.hid h
  have z1 := World.block_lt_of_cell? w _ k1
  have z2 := World.block_lt_of_cell? w _ k2
  dsimp only at z1 z2
  have hcon : (namesOf s).contains x = (s.fl x).isSome := by
    rw [Bool.eq_iff_iff, List.contains_iff_mem, namesOf_mem]
    constructor
    · exact fun h => h.2
    · exact fun h => ⟨by omega, h⟩
  have hE : ridsR x s = if (s.fl x).isSome then (withE s x ask0, removeS s x) else (0, s) := rfl
  obtain ⟨B, hB⟩ : ∃ B, (s.fl x).isSome = B := ⟨_, rfl⟩
  rw [hB] at hcon hE
  have HCN := Lib.hid hcon
  have HE := Lib.hid hE
  obtain ⟨R, hR⟩ : ∃ R, ridsR x s = R := ⟨_, rfl⟩
  rw [hR] at HE ⊢
  clear h hcon hR hE hB
  go_enter Tryz.func86, Tryz.ntmps86
  go_wp2_with fail
  refine wp_grow [(1, .rel (NmR (namesOf s)) (fun _ _ _ h hg => h.grown hg)), (3, .val (.bool B))] 5 (by kernel_rfl) (by kernel_rfl) (by rfl) (by rfl) ?_
  simp only [List.take_succ_cons, List.take_zero, List.drop_succ_cons, List.drop_zero]
  repeat (first
    | (apply Der.quiet; (rfl); (rfl); (intro w' hw' hctx; have hc' := bcell hw'; have y1 := (hw'.cell (p := ⟨r1, 0, none⟩) z1).trans k1; clear hctx; go_simp; first | exact rfl | exact ⟨rfl, rfl⟩); simp only [Act.put, List.setIfInBounds_toArray, List.set_cons_succ, List.set_cons_zero, Nat.reduceAdd])
    | (apply Der.skip; (rfl); simp only [Act.put, List.setIfInBounds_toArray, List.set_cons_succ, List.set_cons_zero, Nat.reduceAdd]))
  refine Der.rel (by rfl) (by rfl) (fun w' hw' hctx => ?_) (fun v4 => ?_)
  · (go_simp; refine (f_Files (HD.out.below ((Below.refl _ _).drew.trans hw')) hok).mono ?_; rintro e w2 ⟨⟨v', rfl, ho⟩, hb⟩; obtain ⟨p, k, c, rfl, -⟩ := own_slice ho; exact ⟨_, rfl, ⟨p, k, c, rfl, owns_base ho (Nat.zero_le _)⟩, hb⟩)
  simp only [Act.put, List.setIfInBounds_toArray, List.set_cons_succ, List.set_cons_zero, Nat.reduceAdd]
  repeat (first
    | (apply Der.quiet; (rfl); (rfl); (intro w' hw' hctx; have hc' := bcell hw'; have y1 := (hw'.cell (p := ⟨r2, 0, none⟩) z2).trans k2; clear hctx; go_simp; first | exact rfl | exact ⟨rfl, rfl⟩); simp only [Act.put, List.setIfInBounds_toArray, List.set_cons_succ, List.set_cons_zero, Nat.reduceAdd])
    | (apply Der.skip; (rfl); simp only [Act.put, List.setIfInBounds_toArray, List.set_cons_succ, List.set_cons_zero, Nat.reduceAdd]))
  apply Der.val
  · rfl
  · rfl
  · (intro w' hw' hctx; go_simp; refine (f_ContainsR (hctx 1 _ _ (by kernel_rfl) rfl rfl) x HCN.out).mono ?_; rintro e w2 ⟨rfl, hb⟩; exact ⟨_, rfl, rfl, hb⟩)
  simp only [Act.put, List.setIfInBounds_toArray, List.set_cons_succ, List.set_cons_zero, Nat.reduceAdd]
  repeat (first
    | (apply Der.quiet; (rfl); (rfl); (intro w' hw' hctx; have hc' := bcell hw'; clear hctx; go_simp; first | exact rfl | exact ⟨rfl, rfl⟩); simp only [Act.put, List.setIfInBounds_toArray, List.set_cons_succ, List.set_cons_zero, Nat.reduceAdd])
    | (apply Der.skip; (rfl); simp only [Act.put, List.setIfInBounds_toArray, List.set_cons_succ, List.set_cons_zero, Nat.reduceAdd]))
  refine Der.nil (fun w3 hgw3 hctx => ?_)
  clear hctx
  have hb3 : Below _ _ w3 := hgw3
  clear hgw3
  have b3 : Below w.heap.size w w3 := (Below.refl _ _).drew.trans hb3
  have H3 := Lib.hid (HD.out.below b3)
  have y1 := (b3.cell (p := ⟨r1, 0, none⟩) z1).trans k1
  have y2 := (b3.cell (p := ⟨r2, 0, none⟩) z2).trans k2
  have t3 : Tw w.heap.size [b, m] w w3 := Tw.of_below b3
  have s3 := b3.size
  clear hb3
  cases B
  · have hE := HE.out
    rw [if_neg (by decide)] at hE
    subst hE
    clear HE
    go_wp2
    go_ret
    exact ⟨rfl, H3.out, t3⟩
  · have hE := HE.out
    rw [if_pos rfl] at hE
    subst hE
    clear HE
    go_wp2_with (go_at_call 88; refine (f_Remove H3.out hok hop x hx).mono ?_; rintro e w4 ⟨rfl, h4, t4⟩)
    go_ret
    exact ⟨rfl, h4, t3.trans (t4.mono s3 (fun a ha => .inl ha))⟩
end
end Go.Proofs.YtkekidjjmcmjhaaGreat
