/- A log on its disk, in memory (WalIs); wal.Format; Left, Len, Most, Broken. -/
import Derived.Test.YtkekidjjmcmjhaaGreatWalK
namespace Go.Proofs.YtkekidjjmcmjhaaGreat
open Go.RowKit
set_option maxRecDepth 100000
attribute [local irreducible] Der

structure WS where
  most : Int
  parts : List (List Int)
  broken : Bool

/-- A log lies in block q, its parts' row in block g; its disk in b, m. -/
structure WalIs (w : World) (A : List Nat) (b m q : Nat) (g : Option Nat) (ws : WS) (s : DS) : Prop where
  disk : Disk w A b m s
  said : SaidIs w A q g ws.most ws.parts
  c3 : w.cell? ⟨q, 3, none⟩ = some (DP b)
  c4 : w.cell? ⟨q, 4, none⟩ = some (.bool ws.broken)
  qb : q ≠ b
  qm : q ≠ m
  gb : ∀ k, g = some k → k ≠ b ∧ k ≠ m

section
variable {w w' : World} {A A' : List Nat} {q b m : Nat} {g : Option Nat} {most : Int} {parts : List (List Int)} {s : DS} {ws : WS}

theorem WalIs.below (h : WalIs w A b m q g ws s) (hb : Below w.heap.size w w') : WalIs w' A b m q g ws s :=
  ⟨h.disk.below hb, h.said.below hb, (hb.cell (p := ⟨q, 3, none⟩) h.said.blt).trans h.c3, (hb.cell (p := ⟨q, 4, none⟩) h.said.blt).trans h.c4, h.qb, h.qm, h.gb⟩
theorem WalIs.more (h : WalIs w A b m q g ws s) (hb : Below w.heap.size w w') {C : List Nat} (hC : ∀ a ∈ C, w.heap.size ≤ a ∧ a < w'.heap.size) : WalIs w' (C ++ A) b m q g ws s :=
  ⟨h.disk.more hb hC, h.said.more hb hC, (hb.cell (p := ⟨q, 3, none⟩) h.said.blt).trans h.c3, (hb.cell (p := ⟨q, 4, none⟩) h.said.blt).trans h.c4, h.qb, h.qm, h.gb⟩
/-- Other blocks turn than its own. -/
theorem WalIs.tw {L : List Nat} (h : WalIs w A b m q g ws s) (ht : Tw w.heap.size L w w') (hL : ∀ a ∈ L, a ∈ A) (hb : b ∉ L) (hm : m ∉ L) (hq : q ∉ L) (hg : ∀ k, g = some k → k ∉ L) : WalIs w' A b m q g ws s :=
  ⟨h.disk.tw ht hL hb hm, h.said.tw ht hL hq hg, (ht.cell (p := ⟨q, 3, none⟩) h.said.blt hq).trans h.c3, (ht.cell (p := ⟨q, 4, none⟩) h.said.blt hq).trans h.c4, h.qb, h.qm, h.gb⟩
/-- The disk alone turns. -/
theorem WalIs.disked {s' : DS} (h : WalIs w A b m q g ws s) (hd : Disk w' A b m s') (ht : Tw w.heap.size [b, m] w w') : WalIs w' A b m q g ws s' := by
  have hL : ∀ a ∈ [b, m], a ∈ A := fun a ha => by simp at ha; rcases ha with rfl | rfl; exact h.disk.hb; exact h.disk.hm
  have hq : q ∉ [b, m] := by simp; exact ⟨h.qb, h.qm⟩
  exact ⟨hd, h.said.tw ht hL hq (fun k hk => by simp; exact h.gb k hk), (ht.cell (p := ⟨q, 3, none⟩) h.said.blt hq).trans h.c3, (ht.cell (p := ⟨q, 4, none⟩) h.said.blt hq).trans h.c4, h.qb, h.qm, h.gb⟩

theorem WalIs.make {v : Value} {br : Bool} (hd : Disk w A b m s) (hr : RowIs w A v g parts) (hb : Below w.heap.size w w') (h1 : w.heap.size ≤ q) (h2 : q < w'.heap.size) (hgb : ∀ k, g = some k → k ≠ b ∧ k ≠ m) (c0 : w'.cell? ⟨q, 0, none⟩ = some (.int .i64 most)) (c1 : w'.cell? ⟨q, 1, none⟩ = some v)
    (c2 : w'.cell? ⟨q, 2, none⟩ = some (.int .i64 (costL parts))) (c3 : w'.cell? ⟨q, 3, none⟩ = some (DP b)) (c4 : w'.cell? ⟨q, 4, none⟩ = some (.bool br)) (fr : ∀ o, w'.frozen? ⟨q, o, none⟩ = false) : WalIs w' ([q] ++ A) b m q g ⟨most, parts, br⟩ s := by
  have hd' := hd.more hb (C := [q]) (fun a ha => by simp at ha; omega)
  have hl := hd.lt
  obtain ⟨hv, hg, ps, hps, ho, hby⟩ := hr.turn (A' := [q] ++ A) hb.size ⟨fun a ha => List.mem_append_right _ ha, fun a ha => by
    rcases List.mem_append.1 ha with h3 | h3
    · simp at h3; exact .inr (by omega)
    · exact .inl h3⟩ (fun k hk _ => hb.block k hk) (fun k hk => hb.block _ (hl _ (hr.2.1 k hk)))
  exact ⟨hd', ⟨c0, ⟨v, c1, hv, ps, hps, ho, hby⟩, c2, fr, by simp, fun k hk => ⟨hg k hk, by have := hl _ (hr.2.1 k hk); omega⟩, hd'.lt⟩, c3, c4, by have := hl _ hd.hb; omega, by have := hl _ hd.hm; omega, hgb⟩

theorem RowIs.self (h : SaidIs w A q g most parts) (hc : ∀ o, w'.cell? ⟨q, o, none⟩ = w.cell? ⟨q, o, none⟩ ∨ 3 ≤ o) (ht : Tw w.heap.size [q] w w') (hf : ∀ o, w'.frozen? ⟨q, o, none⟩ = false) : SaidIs w' A q g most parts := by
  obtain ⟨v, c1, hr⟩ := h.rowIs
  have hc' : ∀ o, o < 3 → w'.cell? ⟨q, o, none⟩ = w.cell? ⟨q, o, none⟩ := fun o ho => (hc o).resolve_right (by omega)
  obtain ⟨hv, -, ps, hps, ho, hby⟩ := hr.turn (A' := A) ht.size (Ext.refl _ _) (fun k hk hkA => ht.block k hk (fun e => hkA (by simp at e; rw [e]; exact h.hq))) (fun k hk => ht.block k (h.lt _ (h.hg k hk).1) (by simp; exact (h.hg k hk).2))
  exact ⟨(hc' 0 (by omega)).trans h.c0, ⟨v, (hc' 1 (by omega)).trans c1, hv, ps, hps, ho, hby⟩, (hc' 2 (by omega)).trans h.c2, hf, h.hq, h.hg, fun a ha => Nat.lt_of_lt_of_le (h.lt a ha) ht.size⟩
theorem WalIs.setBroken (h : WalIs w A b m q g ws s) (x : Bool) : WalIs (w.setCell ⟨q, 4, none⟩ (.bool x)) A b m q g ⟨ws.most, ws.parts, x⟩ s := by
  have ht : Tw w.heap.size [q] w (w.setCell ⟨q, 4, none⟩ (.bool x)) := (Tw.refl _ _ _).setCell (.inl (by simp)) _ _
  refine ⟨h.disk.tw ht (fun a ha => by simp at ha; rw [ha]; exact h.said.hq) (by simp; exact h.qb.symm) (by simp; exact h.qm.symm), RowIs.self h.said (fun o => ?_) ht (fun o => by rw [World.frozen?_setCell]; exact h.said.fr o), ?_, ?_, h.qb, h.qm, h.gb⟩
  · by_cases ho : o = 4
    · exact .inr (by omega)
    · exact .inl (World.cell?_setCell_other _ _ _ _ (fun e => by injection e with _ e2; omega))
  · rw [World.cell?_setCell_other _ _ _ _ (by simp)]; exact h.c3
  · rw [cell_set]; simp [h.c4]
/-- A part more. -/
theorem WalIs.added {g' : Option Nat} {bs : List Int} (h : WalIs w A b m q g ws s) (hA : Ext w.heap.size A A') (hg : GNew w.heap.size g g') (hs : SaidIs w' A' q g' ws.most (ws.parts ++ [bs])) (ht : Tw w.heap.size (q :: g.toList) w w') (hc : ∀ o, o ≠ 1 → o ≠ 2 → w'.cell? ⟨q, o, none⟩ = w.cell? ⟨q, o, none⟩) : WalIs w' A' b m q g' ⟨ws.most, ws.parts ++ [bs], ws.broken⟩ s := by
  have hL : ∀ a ∈ q :: g.toList, a ∈ A := fun a ha => by
    rcases List.mem_cons.1 ha with rfl | h1
    · exact h.said.hq
    · exact (h.said.hg a (by simpa using h1)).1
  have hbL : b ∉ q :: g.toList := fun hb => by
    rcases List.mem_cons.1 hb with h1 | h1
    · exact h.qb h1.symm
    · exact (h.gb b (by simpa using h1)).1 rfl
  have hmL : m ∉ q :: g.toList := fun hb => by
    rcases List.mem_cons.1 hb with h1 | h1
    · exact h.qm h1.symm
    · exact (h.gb m (by simpa using h1)).2 rfl
  refine ⟨h.disk.ext ht hL hbL hmL hA hs.lt, hs, (hc 3 (by decide) (by decide)).trans h.c3, (hc 4 (by decide) (by decide)).trans h.c4, h.qb, h.qm, fun k hk => ?_⟩
  rcases hg with rfl | ⟨k', rfl, hk'⟩
  · exact h.gb k hk
  · cases hk
    have := h.disk.blt
    have := h.disk.mlt
    exact ⟨by omega, by omega⟩

def formatE (s : DS) (most : Int) : Int := if limitB most = false ∨ s.room < 2 * (most + 20) then 2 else (makesR most [] s).1
def formatS (s : DS) (most : Int) : DS := if limitB most = false ∨ s.room < 2 * (most + 20) then s else (makesR most [] s).2

def FmtPost (w : World) (A : List Nat) (b m : Nat) (most : Int) (s : DS) (e : Ending) (w' : World) : Prop :=
  Tw w.heap.size [b, m] w w' ∧ ∃ A', Ext w.heap.size A A' ∧ ((formatE s most ≠ 0 ∧ e = .returned (.tuple #[.pointer none, .int .i64 (formatE s most)]) ∧ Disk w' A' b m (formatS s most)) ∨
    (formatE s most = 0 ∧ ∃ q g, w.heap.size ≤ q ∧ GNew w.heap.size none g ∧ e = .returned (.tuple #[SP q, .int .i64 0]) ∧ WalIs w' A' b m q g ⟨most, [[]], false⟩ (formatS s most)))

set_option maxHeartbeats 4000000 in
theorem f_Format (h : Disk w A b m s) (hok : s.Ok) (hop : s.ops < 900000) : Calls Tryz.prog 33 #[DP b, .int .i64 most] w (FmtPost w A b m most s) := by
  have HD := Lib.hid h
  have hbl := h.blt
  have hml := h.mlt
  have hE : formatE s most = if limitB most = false ∨ s.room < 2 * (most + 20) then 2 else (makesR most [] s).1 := rfl
  have hS : formatS s most = if limitB most = false ∨ s.room < 2 * (most + 20) then s else (makesR most [] s).2 := rfl
  obtain ⟨Q, hQ⟩ : ∃ Q : Ending → World → Prop, FmtPost w A b m most s = Q := ⟨_, rfl⟩
  rw [hQ]
  have HQ := Lib.hid hQ
  clear h hQ
  cases hl : limitB most
  · rw [if_pos (.inl hl)] at hE hS
    have HE := Lib.hid hE
    have HS := Lib.hid hS
    have HL := Lib.hid hl
    clear hE hS hl
    go_enter Tryz.func33, Tryz.ntmps33
    go_wp2_with fail
    refine (f_limit most _).mono ?_
    rintro e w' ⟨rfl, rfl⟩
    rw [HL.out]
    go_wp2
    rw [← HQ.out]
    exact ⟨Tw.refl _ _ _, A, Ext.refl _ _, .inl ⟨by rw [HE.out]; decide, by rw [HE.out]; rfl, by rw [HS.out]; exact HD.out⟩⟩
  · obtain ⟨hm1, hm2⟩ := limitB_bd hl
    have hw1 : IntKind.i64.wrap (most + 20) = most + 20 := wr64 (by omega) (by omega)
    have hw2 : IntKind.i64.wrap (2 * (most + 20)) = 2 * (most + 20) := wr64 (by omega) (by omega)
    by_cases hr : s.room < 2 * (most + 20)
    · rw [if_pos (.inr hr)] at hE hS
      have HE := Lib.hid hE
      have HS := Lib.hid hS
      have HL := Lib.hid hl
      clear hE hS hl
      go_enter Tryz.func33, Tryz.ntmps33
      go_wp2_with fail
      refine (f_limit most _).mono ?_
      rintro e w' ⟨rfl, rfl⟩
      rw [HL.out]
      go_wp2_with fail
      refine (f_Room HD.out).mono ?_
      rintro e w1 ⟨rfl, hb1⟩
      go_wp2
      rw [← HQ.out]
      exact ⟨Tw.of_below hb1, A, Ext.refl _ _, .inl ⟨by rw [HE.out]; decide, by rw [HE.out]; rfl, by rw [HS.out]; exact HD.out.below hb1⟩⟩
    · rw [if_neg (by rw [hl]; simp; omega)] at hE hS
      have HE := Lib.hid hE
      have HS := Lib.hid hS
      have HL := Lib.hid hl
      clear hE hS hl
      go_enter Tryz.func33, Tryz.ntmps33
      go_wp2_with fail
      refine (f_limit most _).mono ?_
      rintro e w' ⟨rfl, rfl⟩
      rw [HL.out]
      go_wp2_with fail
      refine (f_Room HD.out).mono ?_
      rintro e w1 ⟨rfl, hb1⟩
      go_wp2_with fail
      have s1 := hb1.size
      refine (f_makes (HD.out.below hb1) hok hop (by omega) (by omega) _ [] (Byt.nil _) (by simp) (fun c hc => by cases hc) (fun ad n c e => by cases e)).mono ?_
      rintro e w2 ⟨v, A2, g, rfl, hA2, hg2, hrow, hd2, t2⟩
      have s2 := t2.size
      obtain ⟨R, hR⟩ : ∃ R, makesR most [] s = R := ⟨_, rfl⟩
      rw [hR] at hd2 HE HS ⊢
      obtain ⟨err, sR⟩ := R
      obtain ⟨ar, kr, rfl, -⟩ := hrow.slice
      have HRW := Lib.hid hrow
      have HD2 := Lib.hid hd2
      have HA2 := Lib.hid hA2
      have HG2 := Lib.hid hg2
      have T2 := Lib.hid ((Tw.of_below hb1 : Tw w.heap.size [b, m] w w1).trans (t2.mono s1 (fun a ha => .inl ha)))
      have HCS := Lib.hid (show costL [[]] = 12 from rfl)
      obtain ⟨cst, hcst⟩ : ∃ c : Nat, costL [([] : List Int)] = c := ⟨_, rfl⟩
      rw [hcst]
      have HC := Lib.hid hcst
      dsimp only at HE HS hd2
      clear hrow hd2 hA2 hg2 t2 hR hcst
      by_cases he : err = 0
      · subst he
        go_wp2
        rw [← HQ.out]
        have s4 : ((w2.alloc (.cells #[.int .i64 most, .slice ar 1 kr, .int .i64 cst] 82)).alloc (.cells #[.int .i64 most, .slice ar 1 kr, .int .i64 cst, DP b, .bool false] 89)).heap.size = w2.heap.size + 2 := by simp
        have b4 : Below w2.heap.size w2 ((w2.alloc (.cells #[.int .i64 most, .slice ar 1 kr, .int .i64 cst] 82)).alloc (.cells #[.int .i64 most, .slice ar 1 kr, .int .i64 cst, DP b, .bool false] 89)) := by ((repeat' (first | (with_reducible exact Below.refl _ _) | (with_reducible refine Below.setCell ?_ ?_ _) | (with_reducible refine Below.alloc ?_ ?_ _) | (with_reducible refine Below.drew ?_) | (with_reducible refine Below.trans ?_ (Below.mono (by assumption) ?_)) | go_size)))
        have c0 : ((w2.alloc (.cells #[.int .i64 most, .slice ar 1 kr, .int .i64 cst] 82)).alloc (.cells #[.int .i64 most, .slice ar 1 kr, .int .i64 cst, DP b, .bool false] 89)).cell? ⟨w2.heap.size + 1, 0, none⟩ = some (.int .i64 most) := by go_simp
        have c1 : ((w2.alloc (.cells #[.int .i64 most, .slice ar 1 kr, .int .i64 cst] 82)).alloc (.cells #[.int .i64 most, .slice ar 1 kr, .int .i64 cst, DP b, .bool false] 89)).cell? ⟨w2.heap.size + 1, 1, none⟩ = some (.slice ar 1 kr) := by go_simp
        have c2 : ((w2.alloc (.cells #[.int .i64 most, .slice ar 1 kr, .int .i64 cst] 82)).alloc (.cells #[.int .i64 most, .slice ar 1 kr, .int .i64 cst, DP b, .bool false] 89)).cell? ⟨w2.heap.size + 1, 2, none⟩ = some (.int .i64 cst) := by go_simp
        have c3 : ((w2.alloc (.cells #[.int .i64 most, .slice ar 1 kr, .int .i64 cst] 82)).alloc (.cells #[.int .i64 most, .slice ar 1 kr, .int .i64 cst, DP b, .bool false] 89)).cell? ⟨w2.heap.size + 1, 3, none⟩ = some (DP b) := by go_simp
        have c4 : ((w2.alloc (.cells #[.int .i64 most, .slice ar 1 kr, .int .i64 cst] 82)).alloc (.cells #[.int .i64 most, .slice ar 1 kr, .int .i64 cst, DP b, .bool false] 89)).cell? ⟨w2.heap.size + 1, 4, none⟩ = some (.bool false) := by go_simp
        have fr : ∀ o, ((w2.alloc (.cells #[.int .i64 most, .slice ar 1 kr, .int .i64 cst] 82)).alloc (.cells #[.int .i64 most, .slice ar 1 kr, .int .i64 cst, DP b, .bool false] 89)).frozen? ⟨w2.heap.size + 1, o, none⟩ = false := fun o => by go_simp
        obtain ⟨W4, hW4⟩ : ∃ W, (w2.alloc (.cells #[.int .i64 most, .slice ar 1 kr, .int .i64 cst] 82)).alloc (.cells #[.int .i64 most, .slice ar 1 kr, .int .i64 cst, DP b, .bool false] 89) = W := ⟨_, rfl⟩
        rw [hW4] at s4 b4 c0 c1 c2 c3 c4 fr ⊢
        clear hW4
        refine ⟨T2.out.trans (Tw.of_below (b4.mono (by omega))), [w2.heap.size + 1] ++ A2, (HA2.out.mono s1).trans (Ext.cons (n := w2.heap.size) (by omega)) (by omega), .inr ⟨HE.out, w2.heap.size + 1, g, by omega, HG2.out.mono s1, rfl, ?_⟩⟩
        rw [HS.out]
        exact WalIs.make HD2.out HRW.out b4 (by omega) (by omega) (fun k hk => by
          rcases HG2.out with h9 | ⟨k', h9, h8⟩
          · rw [h9] at hk; cases hk
          · rw [h9] at hk; cases hk; omega) c0 c1 (by rw [HC.out]; exact c2) c3 c4 fr
      · go_wp2
        rw [← HQ.out]
        have hb3 : Below w2.heap.size w2 (w2.alloc (.cells #[.int .i64 most, .slice ar [([] : List Int)].length kr, .int .i64 cst] 82)) := (Below.refl _ _).alloc (Nat.le_refl _) _
        exact ⟨T2.out.trans (Tw.of_below (hb3.mono (by omega))), A2, (HA2.out.mono (by omega)), .inl ⟨by rw [HE.out]; exact he, by rw [HE.out]; rfl, by rw [HS.out]; exact HD2.out.below hb3⟩⟩
theorem f_WalMost (h : WalIs w A b m q g ws s) : Calls Tryz.prog 14 #[SP q] w fun e w' => e = .returned (.int .i64 ws.most) ∧ Below w.heap.size w w' := by
  have c0 := h.said.c0
  clear h
  go_enter Tryz.func14, Tryz.ntmps14
  go_wp2
  go_ret
  exact ⟨rfl, Below.refl _ _⟩
theorem f_WalBroken (h : WalIs w A b m q g ws s) : Calls Tryz.prog 27 #[SP q] w fun e w' => e = .returned (.bool ws.broken) ∧ Below w.heap.size w w' := by
  have c4 := h.c4
  clear h
  go_enter Tryz.func27, Tryz.ntmps27
  go_wp2
  go_ret
  exact ⟨rfl, Below.refl _ _⟩
theorem f_WalLen (h : WalIs w A b m q g ws s) (hn : ws.parts.length ≤ 1000000) : Calls Tryz.prog 34 #[SP q] w fun e w' => e = .returned (.int .i64 ((ws.parts.length : Int) - 1)) ∧ Below w.heap.size w w' := by
  obtain ⟨v, c1, hr⟩ := h.said.rowIs
  obtain ⟨a, c, rfl, -⟩ := hr.slice
  have hw : IntKind.i64.wrap ((ws.parts.length : Int) - 1) = (ws.parts.length : Int) - 1 := wr64 (by omega) (by omega)
  clear h hr
  go_enter Tryz.func34, Tryz.ntmps34
  go_wp2
  go_ret
  exact ⟨rfl, Below.refl _ _⟩
theorem f_WalLeft (h : WalIs w A b m q g ws s) (hm : 0 ≤ ws.most ∧ ws.most ≤ 1000000) (hc : costL ws.parts ≤ 1000000) : Calls Tryz.prog 29 #[SP q] w fun e w' => e = .returned (.int .i64 (ws.most - costL ws.parts)) ∧ Below w.heap.size w w' := by
  have c0 := h.said.c0
  have c2 := h.said.c2
  have hw : IntKind.i64.wrap (ws.most - (costL ws.parts : Int)) = ws.most - (costL ws.parts : Int) := wr64 (by omega) (by omega)
  clear h
  go_enter Tryz.func29, Tryz.ntmps29
  go_wp2_with fail
  go_quiet (fail)
  go_wp2
  go_ret
  exact ⟨rfl, ⟨rfl, rfl, rfl, Nat.le_refl _, fun _ _ => rfl⟩⟩
end
end Go.Proofs.YtkekidjjmcmjhaaGreat
