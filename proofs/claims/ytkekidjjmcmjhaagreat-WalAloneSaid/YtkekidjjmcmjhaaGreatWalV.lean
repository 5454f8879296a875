/- (*wal.Wal).Snapshot and All. -/
import Derived.Test.YtkekidjjmcmjhaaGreatWalU
namespace Go.Proofs.YtkekidjjmcmjhaaGreat
open Go.RowKit Go.Shelf
set_option maxRecDepth 100000
attribute [local irreducible] Der

/-- A row of rows of bytes, each in a block of its own. -/
def OwnRows (B : Nat) (W : World) (v : Value) (l : List (List Int)) : Prop :=
  ∃ ps : List (Value × List Int), ps.map Prod.snd = l ∧ W.ownsRow B 24 1 v ps.length (ps.map Prod.fst) ∧ ∀ p ∈ ps, W.ownsRow B 5 1 p.1 p.2.length (p.2.map (Value.int .u8))
/-- A row of rows of bytes that can be read. -/
def RowsAt (W : World) (v : Value) (l : List (List Int)) : Prop :=
  ∃ ps : List (Value × List Int), ps.map Prod.snd = l ∧ Sl W v ps.length (ps.map Prod.fst) ∧ ∀ p ∈ ps, Byt W p.1 p.2
theorem OwnRows.rows {B : Nat} {W : World} {v : Value} {l : List (List Int)} (h : OwnRows B W v l) : RowsAt W v l := by
  obtain ⟨ps, h1, h2, h3⟩ := h
  exact ⟨ps, h1, Sl.of_owns h2, fun p hp => Byt.of_owns (h3 p hp) rfl⟩
theorem OwnRows.below {B : Nat} {W W' : World} {v : Value} {l : List (List Int)} (h : OwnRows B W v l) (hb : Below W.heap.size W W') : OwnRows B W' v l := by
  obtain ⟨ps, h1, h2, h3⟩ := h
  exact ⟨ps, h1, owns_below h2 hb, fun p hp => owns_below (h3 p hp) hb⟩
theorem OwnRows.nil (B : Nat) (W : World) : OwnRows B W (.slice none 0 0) [] := ⟨[], rfl, World.ownsRow_nil _ _ _ _, fun p hp => by cases hp⟩
theorem OwnRows.len {B : Nat} {W : World} {v : Value} {l : List (List Int)} (h : OwnRows B W v l) : ∃ a c, v = .slice a l.length c := by
  obtain ⟨ps, h1, h2, h3⟩ := h
  obtain ⟨a, c, e, -⟩ := (Sl.of_owns h2).form
  exact ⟨a, c, by rw [← h1, List.length_map]; exact e⟩
/-- What append makes of it. -/
theorem OwnRows.grow {B : Nat} {W W' : World} {v v' : Value} {x : Value} {l : List (List Int)} {p : List Int} {ps : List (Value × List Int)} (h1 : ps.map Prod.snd = l) (h2 : W.ownsRow B 24 1 v ps.length (ps.map Prod.fst)) (h3 : ∀ p ∈ ps, W.ownsRow B 5 1 p.1 p.2.length (p.2.map (Value.int .u8)))
    (hx : W.ownsRow B 5 1 x p.length (p.map (Value.int .u8))) (hg : W.grownBy W' v.ownBlock) (ho : W'.ownsRow B 24 1 v' (ps.length + 1) (ps.map Prod.fst ++ [x])) : OwnRows B W' v' (l ++ [p]) := by
  have keep : ∀ (y : Value) (r : List Int), W.ownsRow B 5 1 y r.length (r.map (Value.int .u8)) → W'.ownsRow B 5 1 y r.length (r.map (Value.int .u8)) := fun y r hy => own_keep hy (fun k hk => by
    refine hg.block k (hy.lt k hk).2 (fun e => ?_)
    exact own_apart h2 hy (by decide) e.symm hk)
  refine ⟨ps ++ [(x, p)], by simp [h1], by simpa using ho, fun y hy => ?_⟩
  rcases List.mem_append.1 hy with h4 | h4
  · exact keep _ _ (h3 y h4)
  · simp only [List.mem_cons, List.not_mem_nil, or_false] at h4
    subst h4
    exact keep _ _ hx

/-- A row's end. -/
theorem run_sufR (a : Option Addr) (n c k : Nat) (hk : k ≤ n) (hc : n ≤ c) (hm : c ≤ 9223372036854775807) :
    ∃ a', (∀ w : World, (Instr.sliceAt 22 (.slice a n c) (some (.int .i64 k)) none none).run Tryz.prog w = .ok (.slice a' (n - k) (c - k)) w) ∧
      (∀ (W : World) (l : List Value), Sl W (.slice a n c) l.length l → Sl W (.slice a' (n - k) (c - k)) (l.drop k).length (l.drop k)) := by
  have h2 : k ≤ c := by omega
  by_cases hck : c = k
  · subst hck
    have hnc : n = c := by omega
    subst hnc
    refine ⟨a, fun w => by go_simp, fun W l h => ?_⟩
    obtain ⟨a', c', e, h3, -⟩ := h.form
    simp only [Value.slice.injEq] at e
    rw [List.drop_of_length_le (by omega), Nat.sub_self]
    exact ⟨_, _, rfl, Nat.le_refl _, by omega, fun h => absurd rfl h⟩
  · refine ⟨a.map (fun x => x.add k), fun w => ?_, fun W l h => ?_⟩
    · go_simp
    · obtain ⟨a', c', e, h3, h4, h5⟩ := h.form
      simp only [Value.slice.injEq] at e
      obtain ⟨rfl, rfl, rfl⟩ := e
      have hlen : (l.drop k).length = l.length - k := by simp
      refine ⟨_, _, by rw [hlen], by omega, by omega, fun hne => ?_⟩
      obtain ⟨b, off, e, hlt, hc'⟩ := h5 (by intro e; subst e; simp at hne)
      subst e
      refine ⟨b, off + k, by simp [Addr.add], hlt, fun i hi => ?_⟩
      rw [List.length_drop] at hi
      rw [Nat.add_assoc, hc' (k + i) (by omega)]
      simp

section
variable {w w' : World} {A A' : List Nat} {q b m : Nat} {g : Option Nat} {s : DS} {ws : WS}

theorem f_WalSnap (h : WalIs w A b m q g ws s) {p0 : List Int} {rest : List (List Int)} (hp : ws.parts = p0 :: rest) (hn : p0.length ≤ 1000000) :
    Calls Tryz.prog 16 #[SP q] w fun e w' => (∃ v', e = .returned v' ∧ w'.ownsRow w.heap.size 5 1 v' p0.length (p0.map (Value.int .u8))) ∧ Below w.heap.size w w' := by
  obtain ⟨v, c1, hr⟩ := h.said.rowIs
  obtain ⟨hv, -, ps, hps, ho, hby⟩ := hr
  rw [hp] at hps
  obtain ⟨⟨x0, l0⟩, ps', rfl⟩ : ∃ p ps', ps = p :: ps' := by
    cases ps with
    | nil => cases hps
    | cons p ps' => exact ⟨p, ps', rfl⟩
  simp only [List.map_cons, List.cons.injEq] at hps
  obtain ⟨rfl, -⟩ := hps
  obtain ⟨a, cap, rfl, hle, hcm, hc⟩ := (Sl.of_owns ho).form
  obtain ⟨bb, off, rfl, hlt, hc⟩ := hc (by simp)
  have hc0 := hc 0 (by simp)
  have hb0 := Lib.hid (hby (x0, l0) (by simp)).1
  simp only [List.map_cons, List.getElem_cons_zero, Nat.add_zero] at hc0
  have hl : 0 < ((x0, l0) :: ps').length := by simp
  obtain ⟨n, hn'⟩ : ∃ n, ((x0, l0) :: ps').length = n := ⟨_, rfl⟩
  rw [hn'] at c1 hle hl
  clear h hv ho hby hc hp
  go_enter Tryz.func16, Tryz.ntmps16
  go_wp2_with fail
  refine (f_bytesClone _ l0 _ hb0.out hn).mono ?_
  rintro e w1 ⟨⟨v1, rfl, own1⟩, hb1⟩
  have O1 := Lib.hid own1
  clear own1
  go_wp2
  go_ret
  exact ⟨⟨v1, rfl, O1.out⟩, hb1⟩

set_option maxHeartbeats 4000000 in
theorem f_WalAll (h : WalIs w A b m q g ws s) {p0 : List Int} {rest : List (List Int)} (hp : ws.parts = p0 :: rest) (hn : rest.length ≤ 100000) (hb : ∀ p ∈ rest, p.length ≤ 1000000) :
    Calls Tryz.prog 18 #[SP q] w fun e w' => (∃ v', e = .returned v' ∧ OwnRows w.heap.size w' v' rest) ∧ Below w.heap.size w w' := by
  obtain ⟨i0, hi, hz0, hz1, hz2⟩ := info_parts (show (Tryz.prog.info? 24).map (fun i => (i.zero, i.size, i.bytes)) = some (some (.slice none 0 0), 1, 24) by kernel_rfl)
  obtain ⟨v, c1, hr⟩ := h.said.rowIs
  obtain ⟨hv, -, ps, hps, ho, hby⟩ := hr
  rw [hp] at hps
  obtain ⟨⟨x0, l0⟩, ps', rfl⟩ : ∃ p ps', ps = p :: ps' := by
    cases ps with
    | nil => cases hps
    | cons p ps' => exact ⟨p, ps', rfl⟩
  simp only [List.map_cons, List.cons.injEq] at hps
  obtain ⟨-, hps⟩ := hps
  have hlen : ps'.length = rest.length := by rw [← hps, List.length_map]
  have hsl := Sl.of_owns ho
  obtain ⟨a, cap, rfl, hle, hcm, -⟩ := hsl.form
  rw [show ((x0, l0) :: ps').length = rest.length + 1 by simp [hlen]] at c1 hle hsl
  obtain ⟨a', hr, hs⟩ := run_sufR a (rest.length + 1) cap 1 (by omega) hle hcm
  have hr' : ∀ w : World, (Instr.sliceAt 22 (.slice a (rest.length + 1) cap) (some (.int .i64 1)) none none).run Tryz.prog w = .ok (.slice a' rest.length (cap - 1)) w := hr
  have HCELL := Lib.hid (fun (W : World) (hW : Below w.heap.size w W) (k : Nat) (hk : k < rest.length) => (show ∃ bb off x, a' = some ⟨bb, off, none⟩ ∧ W.cell? ⟨bb, off + k, none⟩ = some x ∧ Byt W x rest[k] from by
    have h1 := hs W (((x0, l0) :: ps').map Prod.fst) (by rw [List.length_map]; rw [show ((x0, l0) :: ps').length = rest.length + 1 by simp [hlen]]; exact hsl.grown hW)
    simp only [List.map_cons, List.drop_succ_cons, List.drop_zero] at h1
    obtain ⟨a2, c2, e, h2, h3, h4⟩ := h1.form
    obtain ⟨bb, off, e2, h5, h6⟩ := h4 (by intro e3; have := congrArg List.length e3; simp at this; rw [this] at hlen; simp at hlen; omega)
    simp only [Value.slice.injEq] at e
    refine ⟨bb, off, (ps'[k]'(by omega)).1, by rw [e.1, e2], by rw [h6 k (by simp; omega)]; simp, ?_⟩
    have h7 := (hby (ps'[k]'(by omega)) (by simp)).1.grown hW
    have e4 : rest[k] = (ps'[k]'(by omega)).2 := by simp [← hps]
    rw [e4]; exact h7))
  have HBD := Lib.hid hb
  clear h hv ho hby hp hs hr hsl hps hlen hb
  go_enter Tryz.func18, Tryz.ntmps18
  go_wp2_with fail
  go_loopw [3, 15] (fun acc i wr => ∃ k : Nat, k ≤ rest.length ∧ i = .int .i64 k ∧ OwnRows w.heap.size wr acc (rest.take k) ∧ Below w.heap.size w wr) (fun _ i _ => rest.length - (intOf i).toNat)
  case atStart => exact ⟨0, Nat.zero_le _, rfl, OwnRows.nil _ _, Below.refl _ _⟩
  case round =>
    obtain ⟨k, hk, rfl, hO, hB⟩ := hrel
    have HO := Lib.hid hO
    have HB := Lib.hid hB
    have hsB := hB.size
    clear hO hB
    by_cases hlt : k < rest.length
    · obtain ⟨bb, off, x, rfl, hck, hx⟩ := HCELL.out wr HB.out k hlt
      have HX := Lib.hid hx
      have hbl := HBD.out rest[k] (List.getElem_mem _)
      obtain ⟨pk, hpk⟩ : ∃ p, rest[k] = p := ⟨_, rfl⟩
      rw [hpk] at HX hbl
      obtain ⟨ax, cx, rfl, -⟩ := hx.open
      have HPK := Lib.hid hpk
      clear hx hpk
      go_wp2_with fail
      refine (f_bytesClone _ pk _ HX.out hbl).mono ?_
      rintro e w2 ⟨⟨v2, rfl, own2⟩, hb2⟩
      obtain ⟨ps2, e1, e2, e3⟩ := HO.out.below hb2
      have hl2 : ps2.length = k := by have := congrArg List.length e1; simp at this; omega
      have s2 := hb2.size
      have hrow2 : (w2.alloc (.cells #[v2] 24)).ownsRow w.heap.size 24 1 _ ps2.length (ps2.map Prod.fst) := e2.alloc _
      have E3 := Lib.hid e3
      have OWN2 := Lib.hid own2
      have E1 := Lib.hid e1
      have HB2 := Lib.hid hb2
      obtain ⟨p2, k2, c2, rfl, -⟩ := own_slice e2
      obtain ⟨p3, k3, c3, rfl, -⟩ := own_slice own2
      clear e1 e3 own2 hb2 e2
      go_wp2_with (at_builtin; go_loud (refine wpList_append_own_at _ rfl _ _ 22 rfl w.heap.size 24 i0 (.slice none 0 0) 1 24 Tryz.underlying22 hi hz0 hz1 hz2 rfl (by decide) _ _ _ rfl hrow2 ⟨w2.heap.size, 0, none⟩ 1 1 [.slice p3 k3 c3] rfl rfl (by intro a u ha; match a, ha with | 0, ha => simp at ha; subst ha; simp [Addr.add]) (by intro u hu; simp at hu; subst hu; rfl) (by unfold maxLen; omega) (by omega) (by simp; omega) ?_; intro v4 w4 own4 hg4 _ hat; refine Hid.out ?_))
      refine Lib.hid ?_
      have O4 := Lib.hid (OwnRows.grow E1.out hrow2 (fun p hp => (E3.out p hp).alloc _) ((owns_base OWN2.out hsB).alloc _) hg4 own4)
      have B4 := Lib.hid (show Below w.heap.size w w4 from (HB.out.trans (HB2.out.mono hsB)).trans (((Below.refl _ _).alloc (by omega) _).trans ⟨hg4.os, hg4.tape, hg4.output, hg4.size, fun j hj => hg4.block j (by simp; omega) (fun e => by have := (hrow2.lt j e.symm).1; omega)⟩))
      clear hrow2 own4 hg4 hat
      go_wp2
      go_roundw
      case rel => exact ⟨k + 1, by omega, by go_num, by rw [← List.take_append_getElem hlt, HPK.out]; exact O4.out, B4.out⟩
      case measure => simp [intOf]; omega
    · obtain rfl : k = rest.length := by omega
      have HO2 := HO.out
      rw [List.take_length] at HO2
      have HO3 := Lib.hid HO2
      clear HO2 HO
      go_wp2
      go_ret
      exact ⟨⟨_, rfl, HO3.out⟩, HB.out⟩
end
end Go.Proofs.YtkekidjjmcmjhaaGreat
