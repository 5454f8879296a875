/- What a log's file says, how it lies in memory (SaidIs), and a log on its disk (WalIs); the small functions: limit, fits, adds. -/
import Derived.Test.YtkekidjjmcmjhaaGreatWalN
import Derived.Test.YtkekidjjmcmjhaaGreatFiles
namespace Go.Proofs.YtkekidjjmcmjhaaGreat
open Go.RowKit
set_option maxRecDepth 100000
attribute [local irreducible] Der

abbrev SP (q : Nat) : Value := .pointer (some ⟨q, 0, none⟩)
/-- Lists of blocks that grow. -/
def Ext (n : Nat) (A A' : List Nat) : Prop := (∀ a ∈ A, a ∈ A') ∧ ∀ a ∈ A', a ∈ A ∨ n ≤ a
theorem Ext.refl (n : Nat) (A : List Nat) : Ext n A A := ⟨fun _ h => h, fun _ h => .inl h⟩
theorem Ext.trans {n m : Nat} {A B C : List Nat} (h : Ext n A B) (k : Ext m B C) (hm : n ≤ m) : Ext n A C :=
  ⟨fun a ha => k.1 a (h.1 a ha), fun a ha => by
    rcases k.2 a ha with h1 | h1
    · exact h.2 a h1
    · exact .inr (by omega)⟩
theorem Ext.mono {n m : Nat} {A B : List Nat} (h : Ext n A B) (hm : m ≤ n) : Ext m A B := ⟨h.1, fun a ha => (h.2 a ha).imp id (fun h => by omega)⟩
theorem Ext.cons {n k : Nat} {A : List Nat} (h : n ≤ k) : Ext n A (k :: A) := ⟨fun a ha => List.mem_cons_of_mem _ ha, fun a ha => by
  rcases List.mem_cons.1 ha with rfl | h1
  · exact .inr h
  · exact .inl h1⟩
/-- The block of a row: the same, or a new one. -/
def GNew (n : Nat) (g g' : Option Nat) : Prop := g' = g ∨ ∃ k, g' = some k ∧ n ≤ k
theorem GNew.refl (n : Nat) (g : Option Nat) : GNew n g g := .inl rfl
theorem GNew.trans {n m : Nat} {a b c : Option Nat} (h : GNew n a b) (k : GNew m b c) (hm : n ≤ m) : GNew n a c := by
  rcases k with rfl | ⟨x, rfl, hx⟩
  · exact h
  · exact .inr ⟨x, rfl, by omega⟩
theorem GNew.mono {n m : Nat} {a b : Option Nat} (h : GNew n a b) (hm : m ≤ n) : GNew m a b := h.imp id fun ⟨k, e, hk⟩ => ⟨k, e, by omega⟩

/-- What a file says, in block q: the limit, the parts' row (in block g), and what they cost; no row of bytes lies in a block of A. -/
structure SaidIs (w : World) (A : List Nat) (q : Nat) (g : Option Nat) (most : Int) (parts : List (List Int)) : Prop where
  c0 : w.cell? ⟨q, 0, none⟩ = some (.int .i64 most)
  row : ∃ v, w.cell? ⟨q, 1, none⟩ = some v ∧ v.ownBlock = g ∧ ∃ ps : List (Value × List Int), ps.map Prod.snd = parts ∧ w.ownsRow 0 24 1 v ps.length (ps.map Prod.fst) ∧
    ∀ p ∈ ps, Byt w p.1 p.2 ∧ ∀ ad n c, p.1 = .slice (some ad) n c → ad.block < w.heap.size ∧ ad.block ∉ A
  c2 : w.cell? ⟨q, 2, none⟩ = some (.int .i64 (costL parts))
  fr : ∀ o, w.frozen? ⟨q, o, none⟩ = false
  hq : q ∈ A
  hg : ∀ k, g = some k → k ∈ A ∧ k ≠ q
  lt : ∀ a ∈ A, a < w.heap.size

theorem Byt.turn' {W W' : World} {A : List Nat} {v : Value} {l : List Int} (h : Byt W v l) (ha : ∀ ad n c, v = .slice (some ad) n c → ad.block < W.heap.size ∧ ad.block ∉ A) (hs : W.heap.size ≤ W'.heap.size) (hb : ∀ k, k < W.heap.size → k ∉ A → W'.heap[k]? = W.heap[k]?) : Byt W' v l :=
  h.turn hs fun ad n c e => hb _ (ha ad n c e).1 (ha ad n c e).2

theorem own_keep {w w' : World} {B e size n : Nat} {v : Value} {xs : List Value} (h : w.ownsRow B e size v n xs) (hb : ∀ g, v.ownBlock = some g → w'.heap[g]? = w.heap[g]?) : w'.ownsRow B e size v n xs := by
  refine ⟨h.1, ?_⟩
  rcases h.2 with hn | ⟨g, cap, cur, hv, hbg, hg, rest⟩
  · exact .inl hn
  · exact .inr ⟨g, cap, cur, hv, hbg, (hb g (by rw [hv]; rfl)).trans hg, rest⟩

section
variable {w w' : World} {A A' : List Nat} {q b m : Nat} {g : Option Nat} {most : Int} {parts : List (List Int)} {s : DS}

theorem SaidIs.turn (h : SaidIs w A q g most parts) (hs : w.heap.size ≤ w'.heap.size) (hA : Ext w.heap.size A A') (hl : ∀ a ∈ A', a < w'.heap.size) (hb : ∀ k, k < w.heap.size → k ∉ A → w'.heap[k]? = w.heap[k]?)
    (h1 : w'.heap[q]? = w.heap[q]?) (h2 : ∀ k, g = some k → w'.heap[k]? = w.heap[k]?) : SaidIs w' A' q g most parts := by
  obtain ⟨c0, ⟨v, c1, hv, ps, hps, ho, hby⟩, c2, fr, hq, hg, lt⟩ := h
  have hc : ∀ o, w'.cell? ⟨q, o, none⟩ = w.cell? ⟨q, o, none⟩ := fun o => World.cell?_of_block h1
  refine ⟨(hc 0).trans c0, ⟨v, (hc 1).trans c1, hv, ps, hps, own_keep ho (fun k hk => h2 k (hv ▸ hk)), fun p hp => ⟨(hby p hp).1.turn' (hby p hp).2 hs hb, fun ad n c e => ?_⟩⟩, (hc 2).trans c2,
    fun o => (World.frozen?_of_block h1).trans (fr o), hA.1 _ hq, fun k hk => ⟨hA.1 _ (hg k hk).1, (hg k hk).2⟩, hl⟩
  obtain ⟨h3, h4⟩ := (hby p hp).2 ad n c e
  refine ⟨by omega, fun hc => ?_⟩
  rcases hA.2 _ hc with h5 | h5
  · exact h4 h5
  · omega
theorem SaidIs.below (h : SaidIs w A q g most parts) (hb : Below w.heap.size w w') : SaidIs w' A q g most parts :=
  h.turn hb.size (Ext.refl _ _) (fun a ha => Nat.lt_of_lt_of_le (h.lt a ha) hb.size) (fun k hk _ => hb.block k hk) (hb.block _ (h.lt _ h.hq)) (fun k hk => hb.block _ (h.lt _ (h.hg k hk).1))
/-- Other blocks turn. -/
theorem SaidIs.tw {L : List Nat} (h : SaidIs w A q g most parts) (ht : Tw w.heap.size L w w') (hL : ∀ a ∈ L, a ∈ A) (hq : q ∉ L) (hg : ∀ k, g = some k → k ∉ L) : SaidIs w' A q g most parts :=
  h.turn ht.size (Ext.refl _ _) (fun a ha => Nat.lt_of_lt_of_le (h.lt a ha) ht.size) (fun k hk hkA => ht.block k hk (fun e => hkA (hL k e))) (ht.block _ (h.lt _ h.hq) hq) (fun k hk => ht.block _ (h.lt _ (h.hg k hk).1) (hg k hk))
theorem SaidIs.more (h : SaidIs w A q g most parts) (hb : Below w.heap.size w w') {C : List Nat} (hC : ∀ a ∈ C, w.heap.size ≤ a ∧ a < w'.heap.size) : SaidIs w' (C ++ A) q g most parts :=
  h.turn hb.size ⟨fun a ha => List.mem_append_right _ ha, fun a ha => by
    rcases List.mem_append.1 ha with h1 | h1
    · exact .inr (hC a h1).1
    · exact .inl h1⟩ (fun a ha => by
    rcases List.mem_append.1 ha with h1 | h1
    · exact (hC a h1).2
    · exact Nat.lt_of_lt_of_le (h.lt a h1) hb.size) (fun k hk _ => hb.block k hk) (hb.block _ (h.lt _ h.hq)) (fun k hk => hb.block _ (h.lt _ (h.hg k hk).1))
theorem SaidIs.less (h : SaidIs w A q g most parts) (hA : ∀ a ∈ A', a ∈ A) (hq : q ∈ A') (hg : ∀ k, g = some k → k ∈ A') : SaidIs w A' q g most parts := by
  obtain ⟨c0, ⟨v, c1, hv, ps, hps, ho, hby⟩, c2, fr, hq0, hg0, lt⟩ := h
  exact ⟨c0, ⟨v, c1, hv, ps, hps, ho, fun p hp => ⟨(hby p hp).1, fun ad n c e => ⟨((hby p hp).2 ad n c e).1, fun hc => ((hby p hp).2 ad n c e).2 (hA _ hc)⟩⟩⟩, c2, fr, hq, fun k hk => ⟨hg k hk, (hg0 k hk).2⟩, fun a ha => lt a (hA a ha)⟩
theorem SaidIs.blt (h : SaidIs w A q g most parts) : q < w.heap.size := h.lt _ h.hq

theorem Disk.ext {L : List Nat} (h : Disk w A b m s) (ht : Tw w.heap.size L w w') (hL : ∀ a ∈ L, a ∈ A) (hb : b ∉ L) (hm : m ∉ L) (hA : Ext w.heap.size A A') (hl : ∀ a ∈ A', a < w'.heap.size) : Disk w' A' b m s :=
  h.turn ht.size (fun a ha => ⟨hA.2 a ha, hl a ha⟩) (hA.1 _ h.hb) (hA.1 _ h.hm) (fun k hk hkA => ht.block k hk (fun e => hkA (hL k e))) (ht.block _ (h.lt _ h.hb) hb) (ht.block _ (h.lt _ h.hm) hm)

theorem f_limit (most : Int) (w : World) : Calls Tryz.prog 75 #[.int .i64 most] w fun e w' => e = .returned (.bool (limitB most)) ∧ w = w' := by
  by_cases h : 64 ≤ most
  · go_enter Tryz.func75, Tryz.ntmps75
    go_wp2
    go_ret
    exact ⟨by simp [limitB, h], rfl⟩
  · have h2 : ¬ (64 ≤ most) := h
    go_enter Tryz.func75, Tryz.ntmps75
    go_wp2
    go_ret
    exact ⟨by rw [show limitB most = false by simp [limitB]; omega]; rfl, rfl⟩

def fitB (most : Int) (parts : List (List Int)) (n : Nat) : Bool := decide (((costL parts + 12 + n : Nat) : Int) ≤ most)
theorem f_wfits (h : SaidIs w A q g most parts) (hc : costL parts ≤ 1000000) (a : Option Addr) (n c : Nat) (hn : n ≤ 1000000) :
    Calls Tryz.prog 55 #[SP q, .slice a n c] w fun e w' => e = .returned (.bool (fitB most parts n)) ∧ Below w.heap.size w w' := by
  have c0 := h.c0
  have c2 := h.c2
  have hF : fitB most parts n = decide ((costL parts : Int) + 12 + n ≤ most) := by unfold fitB; congr 1
  have HF := Lib.hid hF
  have e1 : IntKind.i64.wrap ((costL parts : Int) + 12) = (costL parts : Int) + 12 := wr64 (by omega) (by omega)
  have e2 : IntKind.i64.wrap ((costL parts : Int) + 12 + (n : Int)) = (costL parts : Int) + 12 + n := wr64 (by omega) (by omega)
  clear h hF
  go_enter Tryz.func55, Tryz.ntmps55
  go_wp2_with fail
  go_quiet (fail)
  go_wp2
  go_ret
  exact ⟨by rw [HF.out]; rfl, ⟨rfl, rfl, rfl, Nat.le_refl _, fun _ _ => rfl⟩⟩

set_option maxHeartbeats 2000000 in
theorem f_wadds (h : SaidIs w A q g most parts) (hc : costL parts ≤ 1000000) (v : Value) (bs : List Int) (hv : Byt w v bs) (hn : bs.length ≤ 1000000) (hva : ∀ ad n c, v = .slice (some ad) n c → ad.block < w.heap.size ∧ ad.block ∉ A) :
    Calls Tryz.prog 59 #[SP q, v] w fun e w' => e = .returned (.tuple #[]) ∧ ∃ A' g', Ext w.heap.size A A' ∧ GNew w.heap.size g g' ∧ SaidIs w' A' q g' most (parts ++ [bs]) ∧ Tw w.heap.size (q :: g.toList) w w' ∧ ∀ o, o ≠ 1 → o ≠ 2 → w'.cell? ⟨q, o, none⟩ = w.cell? ⟨q, o, none⟩ := by
  obtain ⟨i0, hi, hz0, hz1, hz2⟩ := info_parts (show (Tryz.prog.info? 24).map (fun i => (i.zero, i.size, i.bytes)) = some (some (.slice none 0 0), 1, 24) by kernel_rfl)
  have HH := Lib.hid h
  obtain ⟨c0, ⟨vr, c1, hvr, ps, hps, ho, hby⟩, c2, fr, hq, hg, lt⟩ := h
  have hlt := lt _ hq
  have hpl : ps.length ≤ 1000000 := by have := costL_len parts; have : parts.length = ps.length := by rw [← hps]; simp
                                       omega
  obtain ⟨av, cv, rfl, -⟩ := hv.open
  have HV := Lib.hid hv
  have HVA := Lib.hid hva
  have HO := Lib.hid ho
  have HBY := Lib.hid hby
  have f1 := fr 1
  have f2 := fr 2
  have HC := Lib.hid (show ((costL (parts ++ [bs]) : Nat) : Int) = (costL parts : Int) + (12 + (bs.length : Int)) by rw [costL_app]; simp [costL])
  obtain ⟨cst, hcst⟩ : ∃ c : Nat, costL parts = c := ⟨_, rfl⟩
  rw [hcst] at HC c2 hc
  clear hv hva ho hby hg lt fr hq
  go_enter Tryz.func59, Tryz.ntmps59
  go_wp2_with (at_builtin; refine wpList_append_own_at _ rfl _ _ 22 rfl 0 24 i0 (.slice none 0 0) 1 24 Tryz.underlying22 hi hz0 hz1 hz2 rfl (by decide) _ _ _ rfl (HO.out.alloc _) ⟨w.heap.size, 0, none⟩ 1 1 [.slice av bs.length cv] rfl rfl (by intro a u ha; match a, ha with | 0, ha => simp at ha; subst ha; simp [Addr.add]) (by intro u hu; simp at hu; subst hu; rfl) (by unfold maxLen; omega) (by omega) (by omega) ?_; intro v4 w4 own4 hg4 _ hat; refine Hid.out ?_)
  refine Lib.hid ?_
  replace hat : v4.ownBlock = vr.ownBlock ∨ v4.ownBlock = some (w.heap.size + 1) := by have h9 := hat; rw [World.size_alloc] at h9; exact h9
  replace hg4 : (w.alloc (.cells #[.slice av bs.length cv] 24)).grownBy w4 vr.ownBlock := hg4
  obtain ⟨p4, k4, c4, rfl, -⟩ := own_slice own4
  obtain ⟨o4, ho4⟩ : ∃ o, (Value.slice p4 k4 c4).ownBlock = o := ⟨_, rfl⟩
  have hlt4 := fun k hk => own4.lt k hk
  rw [ho4] at hat hlt4
  have HLT4 := Lib.hid hlt4
  have HO4E := Lib.hid ho4
  clear hlt4 ho4
  obtain ⟨hgA, hby⟩ : (∀ k, g = some k → k ∈ A ∧ k ≠ q) ∧ (∀ a ∈ A, a < w.heap.size) := ⟨HH.out.hg, HH.out.lt⟩
  have hs4 := hg4.size
  rw [World.size_alloc] at hs4
  have hqg : vr.ownBlock ≠ some q := fun e => (hgA q (hvr ▸ e)).2 rfl
  have hblk : ∀ k, k < w.heap.size → vr.ownBlock ≠ some k → w4.heap[k]? = w.heap[k]? := fun k hk hne => by
    rw [hg4.block k (by rw [World.size_alloc]; omega) (fun e => hne e.symm)]
    exact (MapKept.heap_alloc w _).2 k hk
  have hbq := hblk q hlt hqg
  have d0 : w4.cell? ⟨q, 0, none⟩ = some (.int .i64 most) := (World.cell?_of_block hbq).trans c0
  have d1 : w4.cell? ⟨q, 1, none⟩ = some vr := (World.cell?_of_block hbq).trans c1
  have d2 : w4.cell? ⟨q, 2, none⟩ = some (.int .i64 cst) := (World.cell?_of_block hbq).trans c2
  have e1 : w4.frozen? ⟨q, 1, none⟩ = false := (World.frozen?_of_block hbq).trans f1
  have e2 : w4.frozen? ⟨q, 2, none⟩ = false := (World.frozen?_of_block hbq).trans f2
  have hw1 : IntKind.i64.wrap (12 + (bs.length : Int)) = 12 + bs.length := wr64 (by omega) (by omega)
  have hw2 : IntKind.i64.wrap ((cst : Int) + (12 + (bs.length : Int))) = cst + (12 + bs.length) := wr64 (by omega) (by omega)
  have HA := Lib.hid hat
  have HG := Lib.hid hg4
  have HB := Lib.hid hblk
  have HO4 := Lib.hid own4
  have HGA := Lib.hid hgA
  have HLT := Lib.hid hby
  have HPS := Lib.hid hps
  have hl4 : q < w4.heap.size := by omega
  clear hat hg4 hblk own4 hgA hby hbq hqg c0 c1 c2 f1 f2 hps
  go_wp2
  go_end0
  refine ⟨rfl, o4.toList ++ A, o4, ⟨fun a ha => List.mem_append_right _ ha, fun a ha => ?_⟩, ?_, ?_, ?_, ?_⟩
  · rcases List.mem_append.1 ha with h1 | h1
    · rcases HA.out with h2 | h2
      · rw [h2] at h1
        exact .inl (HGA.out a (by rw [← hvr]; simpa using h1)).1
      · rw [h2] at h1; simp at h1; exact .inr (by omega)
    · exact .inl h1
  · rcases HA.out with h2 | h2
    · exact .inl (h2.trans hvr)
    · exact .inr ⟨_, h2, by omega⟩
  · have hown : ∀ k, o4 = some k → k ≠ q ∧ k < w4.heap.size ∧ (k ∈ A ∨ w.heap.size ≤ k) := fun k hk => by
      refine ⟨?_, (HLT4.out k hk).2, ?_⟩
      · rcases HA.out with h2 | h2
        · exact (HGA.out k (by rw [← hvr, ← h2]; exact hk)).2
        · rw [h2] at hk; cases hk; omega
      · rcases HA.out with h2 | h2
        · exact .inl (HGA.out k (by rw [← hvr, ← h2]; exact hk)).1
        · rw [h2] at hk; cases hk; exact .inr (by omega)
    have hset : ∀ k, k ≠ q → ((w4.setCell ⟨q, 1, none⟩ (.slice p4 k4 c4)).setCell ⟨q, 2, none⟩ (.int .i64 ((cst : Int) + (12 + (bs.length : Int))))).heap[k]? = w4.heap[k]? := fun k hk => by
      rw [RowKit.Below.heap_setCell _ _ _ _ hk, RowKit.Below.heap_setCell _ _ _ _ hk]
    have hkeep : ∀ (x : Value) (l : List Int), Byt w x l → (∀ ad n c, x = .slice (some ad) n c → ad.block < w.heap.size ∧ ad.block ∉ A) →
        Byt ((w4.setCell ⟨q, 1, none⟩ (.slice p4 k4 c4)).setCell ⟨q, 2, none⟩ (.int .i64 ((cst : Int) + (12 + (bs.length : Int))))) x l ∧ ∀ ad n c, x = .slice (some ad) n c → ad.block < ((w4.setCell ⟨q, 1, none⟩ (.slice p4 k4 c4)).setCell ⟨q, 2, none⟩ (.int .i64 ((cst : Int) + (12 + (bs.length : Int))))).heap.size ∧ ad.block ∉ o4.toList ++ A := fun x l hx hxa => by
      refine ⟨hx.turn' hxa (by simp; omega) (fun k hk hkA => ?_), fun ad n c e => ?_⟩
      · rw [hset k (fun e => hkA (e ▸ HH.out.hq)), HB.out k hk (fun e => hkA (HGA.out k (hvr ▸ e)).1)]
      · obtain ⟨h1, h2⟩ := hxa ad n c e
        refine ⟨by simp; omega, fun hc => ?_⟩
        rcases List.mem_append.1 hc with h3 | h3
        · rcases (hown _ (by simpa using h3)).2.2 with h4 | h4
          · exact h2 h4
          · omega
        · exact h2 h3
    refine ⟨by rw [World.cell?_setCell_other _ _ _ _ (by simp), World.cell?_setCell_other _ _ _ _ (by simp)]; exact d0, ⟨.slice p4 k4 c4, by rw [World.cell?_setCell_other _ _ _ _ (by simp), cell_set]; simp [d1], HO4E.out, ps ++ [(.slice av bs.length cv, bs)], by simp [HPS.out], ?_, fun p hp => ?_⟩, ?_, fun o => by rw [World.frozen?_setCell, World.frozen?_setCell]; exact (World.frozen?_of_block (HB.out q hlt (fun e => (HGA.out q (hvr ▸ e)).2 rfl))).trans (HH.out.fr o), List.mem_append_right _ HH.out.hq, fun k hk => ⟨List.mem_append_left _ (by simp [hk]), (hown k hk).1⟩, fun a ha => ?_⟩
    · rw [List.length_append, List.map_append]
      exact own_keep HO4.out (fun k hk => hset k (hown k (HO4E.out ▸ hk)).1)
    · rcases List.mem_append.1 hp with h1 | h1
      · exact hkeep p.1 p.2 (HBY.out p h1).1 (HBY.out p h1).2
      · simp only [List.mem_cons, List.not_mem_nil, or_false] at h1
        subst h1
        exact hkeep _ _ HV.out HVA.out
    · rw [HC.out, cell_set]; simp only [if_true]; rw [World.cell?_setCell_other _ _ _ _ (by simp), d2]; rfl
    · rcases List.mem_append.1 ha with h1 | h1
      · have := (hown a (by simpa using h1)).2.1; simp; omega
      · have := HLT.out a h1; simp; omega
  · refine ((⟨HG.out.os, HG.out.tape, HG.out.output, by omega, fun k hk hkL => HB.out k hk (fun e => hkL ?_)⟩ : Tw w.heap.size (q :: g.toList) w w4).setCell (.inl (by simp)) _ _).setCell (.inl (by simp)) _ _
    rw [hvr] at e
    simp [e]
  · intro o h1 h2
    rw [World.cell?_setCell_other _ _ _ _ (fun e => by injection e with _ e2; omega), World.cell?_setCell_other _ _ _ _ (fun e => by injection e with _ e2; omega)]
    exact World.cell?_of_block (HB.out q hlt (fun e => (HGA.out q (hvr ▸ e)).2 rfl))
end
end Go.Proofs.YtkekidjjmcmjhaaGreat
