/- What is done, as a value; the contract of few. -/
import Derived.Test.YtlhkacjfonihjaaOk
namespace Go.Proofs.Ytlhkacjfonihjaa
open Go.RowKit
set_option maxRecDepth 100000

structure Opr where
  kind : Int
  file : Int
  n : Int
  bv : Value
  kv : Value
  bytes : List Int
  keep : List Bool
abbrev OV (o : Opr) : Value := .agg #[.int .i64 o.kind, .int .i64 o.file, .int .i64 o.n, o.bv, o.kv]
def BoolN (w : World) (v : Value) (l : List Bool) : Prop := Bools w v l ∧ NilA v
structure OpIs (w : World) (o : Opr) : Prop where
  b : Byt w o.bv o.bytes
  k : BoolN w o.kv o.keep
  byte : ∀ c ∈ o.bytes, 0 ≤ c ∧ c < 256
  wk : W64 o.kind
  wf : W64 o.file
  wn : W64 o.n
  lb : o.bytes.length ≤ 9223372036854775807
  lk : o.keep.length ≤ 9223372036854775807
theorem OpIs.grown {w w' : World} {o : Opr} (h : OpIs w o) (hb : Below w.heap.size w w') : OpIs w' o := ⟨h.b.grown hb, ⟨h.k.1.grown hb, h.k.2⟩, h.byte, h.wk, h.wf, h.wn, h.lb, h.lk⟩

theorem Sl.cut {w : World} {a : Option Addr} {n c k : Nat} {α : Type} {f : α → Value} {l : List α} (h : Sl w (.slice a n c) l.length (l.map f)) (hk : k ≤ l.length) : Sl w (.slice a k c) (l.take k).length ((l.take k).map f) := by
  obtain ⟨a', cap, e, h1, h2, h3⟩ := h.form
  simp only [Value.slice.injEq] at e
  obtain ⟨rfl, rfl, rfl⟩ := e
  have hlen : (l.take k).length = k := by simp; omega
  refine ⟨⟨a, c, by rw [hlen], by omega, by omega, fun hne => ?_⟩⟩
  obtain ⟨b, off, rfl, hlt, hc⟩ := h3 (by intro e; simp at e; subst e; simp at hne)
  refine ⟨b, off, rfl, hlt, fun i hi => ?_⟩
  simp at hi
  rw [hc i (by simp; omega)]
  simp
theorem NilA.cut {a : Option Addr} {n c k : Nat} (h : NilA (.slice a n c)) (hk : k ≤ n) : NilA (.slice a k c) := by
  rcases h with h4 | ⟨ad, n', c', h4⟩
  · simp only [Value.slice.injEq] at h4
    obtain ⟨rfl, h5, rfl⟩ := h4
    have : k = 0 := by omega
    subst this
    exact .inl rfl
  · simp only [Value.slice.injEq] at h4
    obtain ⟨rfl, -, -⟩ := h4
    exact NilA.of_some _ _ _
theorem run_cut2 (a : Option Addr) (n c k : Nat) (h : k ≤ n) (hc : n ≤ c) (hm : c ≤ 9223372036854775807) (w : World) :
    (Instr.sliceAt 31 (.slice a n c) none (some (.int .i64 k)) none).run Try.prog w = .ok (.slice a k c) w := by
  have h2 : k ≤ c := by omega
  go_simp
theorem run_cut2b (a : Option Addr) (n c k : Nat) (h : k ≤ n) (hc : n ≤ c) (hm : c ≤ 9223372036854775807) (w : World) :
    (Instr.sliceAt 32 (.slice a n c) none (some (.int .i64 k)) none).run Try.prog w = .ok (.slice a k c) w := by
  have h2 : k ≤ c := by omega
  go_simp
theorem info_bool : (Try.prog.info? 4).map (fun i => (i.zero, i.size, i.bytes)) = some (some (.bool false), 1, 1) := by kernel_rfl
theorem one_bool (l : List Bool) : ∀ u ∈ l.map Value.bool, u.oneCell' = true := by
  intro u hu
  obtain ⟨x, -, rfl⟩ := List.mem_map.1 hu
  rfl

theorem own_block {w w' : World} {B e size n : Nat} {v : Value} {xs : List Value} (h : w.ownsRow B e size v n xs) (hb : ∀ g, v.ownBlock = some g → w'.heap[g]? = w.heap[g]?) : w'.ownsRow B e size v n xs := by
  refine ⟨h.1, ?_⟩
  rcases h.2 with hn | ⟨g, cap, cur, hv, hbg, hg, rest⟩
  · exact .inl hn
  · exact .inr ⟨g, cap, cur, hv, hbg, (hb g (by rw [hv]; rfl)).trans hg, rest⟩

set_option maxHeartbeats 1000000 in
theorem f_few {w : World} {o : Opr} (h : OpIs w o) : Calls Try.prog 34 #[OV o] w fun e w' =>
    ∃ bv kv, e = .returned (OV ⟨o.kind, o.file, o.n, bv, kv, o.bytes.take 300, o.keep.take 200⟩) ∧ w'.ownsRow w.heap.size 5 1 bv (o.bytes.take 300).length ((o.bytes.take 300).map (Value.int .u8)) ∧ w'.ownsRow w.heap.size 4 1 kv (o.keep.take 200).length ((o.keep.take 200).map Value.bool) ∧
      (∀ g, bv.ownBlock = some g → kv.ownBlock ≠ some g) ∧ Below w.heap.size w w' := by
  obtain ⟨kind, file, n, bv, kv, bytes, keep⟩ := o
  obtain ⟨hb0, hk0, -, -, -, -, -, -⟩ := h
  dsimp only at hb0 hk0 ⊢
  obtain ⟨ab, cb, rfl, hb1, hb2, -⟩ := hb0.open
  obtain ⟨ak, ck, rfl, hk1, hk2, -⟩ := hk0.1.open
  obtain ⟨m, hm⟩ : ∃ m : Nat, min (bytes.length : Int) 300 = (m : Int) := ⟨min bytes.length 300, by omega⟩
  obtain ⟨m', hm'⟩ : ∃ m : Nat, min (keep.length : Int) 200 = (m : Int) := ⟨min keep.length 200, by omega⟩
  have hml : m ≤ bytes.length := by omega
  have hml' : m' ≤ keep.length := by omega
  have ht1 : bytes.take 300 = bytes.take m := by
    rcases Nat.lt_or_ge 300 bytes.length with h9 | h9
    · rw [show m = 300 by omega]
    · rw [List.take_of_length_le h9, List.take_of_length_le (by omega)]
  have ht2 : keep.take 200 = keep.take m' := by
    rcases Nat.lt_or_ge 200 keep.length with h9 | h9
    · rw [show m' = 200 by omega]
    · rw [List.take_of_length_le h9, List.take_of_length_le (by omega)]
  rw [ht1, ht2]
  have hlm : (bytes.take m).length = m := by simp; omega
  have hlm' : (keep.take m').length = m' := by simp; omega
  have HB := Lib.hid (show Sl w (.slice ab m cb) m ((bytes.take m).map (Value.int .u8)) by have := Sl.cut hb0.1 hml; rw [hlm] at this; exact this)
  have HBN := Lib.hid (NilA.cut hb0.2 hml)
  have HK := Lib.hid (show Sl w (.slice ak m' ck) m' ((keep.take m').map Value.bool) by have := Sl.cut hk0.1 hml'; rw [hlm'] at this; exact this)
  have HKN := Lib.hid (NilA.cut hk0.2 hml')
  have r1 := run_cut2 ab bytes.length cb m hml hb1 hb2
  have r2 := run_cut2b ak keep.length ck m' hml' hk1 hk2
  clear hb0 hk0 ht1 ht2
  go_enter Try.func34, Try.ntmps34
  have own1 := World.ownsRow_made (base := w.heap.size + 2) (e := 5) (size := 1) ((w.alloc (.cells #[.int .i64 kind, .int .i64 file, .int .i64 n, .slice ab bytes.length cb, .slice ak keep.length ck] 34)).alloc (.cells #[.int .i64 0, .int .i64 0, .int .i64 0, .slice none 0 0, .slice none 0 0] 34)) #[] 0 (by simp) (by decide) rfl
  have hB1 : Below w.heap.size w (((w.alloc (.cells #[.int .i64 kind, .int .i64 file, .int .i64 n, .slice ab bytes.length cb, .slice ak keep.length ck] 34)).alloc (.cells #[.int .i64 0, .int .i64 0, .int .i64 0, .slice none 0 0, .slice none 0 0] 34)).alloc (.cells #[] 5)) := (((Below.refl _ _).alloc (Nat.le_refl _) _).alloc (by simp) _).alloc (by simp; omega) _
  simp only [World.size_alloc] at own1
  have HO1 := Lib.hid own1
  clear own1
  go_wp2_with (at_builtin; refine append_any rfl _ _ 31 rfl (w.heap.size + 2) 5 (.int .u8 0) 1 1 Try.underlying31 info_byte rfl (by decide) _ 0 [] rfl HO1.out _ m ((bytes.take m).map (Value.int .u8)) rfl (HB.out.grown hB1) HBN.out (by rw [List.length_map, hlm, Nat.mul_one]) (Byt.one _) (by unfold maxLen; omega) (by omega) (by first | omega | (simp; done) | (simp; omega)) ?_; intro v1 w1 hown1 hg1; refine Hid.out ?_)
  refine Lib.hid ?_
  have hs0 : (((w.alloc (.cells #[.int .i64 kind, .int .i64 file, .int .i64 n, .slice ab bytes.length cb, .slice ak keep.length ck] 34)).alloc (.cells #[.int .i64 0, .int .i64 0, .int .i64 0, .slice none 0 0, .slice none 0 0] 34)).alloc (.cells #[] 5)).heap.size = w.heap.size + 3 := by simp
  have hs1 := hg1.size
  rw [hs0] at hs1
  obtain ⟨p1, q1, c1, rfl, hp1⟩ := own_slice hown1
  rw [Nat.zero_add, List.nil_append] at hown1
  have hblk : ∀ j, j < w.heap.size + 2 → w1.heap[j]? = ((w.alloc (.cells #[.int .i64 kind, .int .i64 file, .int .i64 n, .slice ab bytes.length cb, .slice ak keep.length ck] 34)).alloc (.cells #[.int .i64 0, .int .i64 0, .int .i64 0, .slice none 0 0, .slice none 0 0] 34)).heap[j]? := fun j hj => by
    rw [hg1.block j (by rw [hs0]; omega) (fun e => by have e2 : j = w.heap.size + 1 + 1 := Option.some.inj e; omega)]
    exact (MapKept.heap_alloc _ _).2 j (by simp; omega)
  have f0 : ∀ i, w1.cell? ⟨w.heap.size, i, none⟩ = ((w.alloc (.cells #[.int .i64 kind, .int .i64 file, .int .i64 n, .slice ab bytes.length cb, .slice ak keep.length ck] 34)).alloc (.cells #[.int .i64 0, .int .i64 0, .int .i64 0, .slice none 0 0, .slice none 0 0] 34)).cell? ⟨w.heap.size, i, none⟩ := fun i => World.cell?_of_block (hblk _ (by dsimp; omega))
  have f1 : ∀ i, w1.cell? ⟨w.heap.size + 1, i, none⟩ = ((w.alloc (.cells #[.int .i64 kind, .int .i64 file, .int .i64 n, .slice ab bytes.length cb, .slice ak keep.length ck] 34)).alloc (.cells #[.int .i64 0, .int .i64 0, .int .i64 0, .slice none 0 0, .slice none 0 0] 34)).cell? ⟨w.heap.size + 1, i, none⟩ := fun i => World.cell?_of_block (hblk _ (by dsimp; omega))
  have c00 : w1.cell? ⟨w.heap.size, 0, none⟩ = some (.int .i64 kind) := by rw [f0]; go_simp
  have c01 : w1.cell? ⟨w.heap.size, 1, none⟩ = some (.int .i64 file) := by rw [f0]; go_simp
  have c02 : w1.cell? ⟨w.heap.size, 2, none⟩ = some (.int .i64 n) := by rw [f0]; go_simp
  have c03 : w1.cell? ⟨w.heap.size, 3, none⟩ = some (.slice ab bytes.length cb) := by rw [f0]; go_simp
  have c04 : w1.cell? ⟨w.heap.size, 4, none⟩ = some (.slice ak keep.length ck) := by rw [f0]; go_simp
  have c10 : w1.cell? ⟨w.heap.size + 1, 0, none⟩ = some (.int .i64 0) := by rw [f1]; go_simp
  have c11 : w1.cell? ⟨w.heap.size + 1, 1, none⟩ = some (.int .i64 0) := by rw [f1]; go_simp
  have c12 : w1.cell? ⟨w.heap.size + 1, 2, none⟩ = some (.int .i64 0) := by rw [f1]; go_simp
  have c13 : w1.cell? ⟨w.heap.size + 1, 3, none⟩ = some (.slice none 0 0) := by rw [f1]; go_simp
  have c14 : w1.cell? ⟨w.heap.size + 1, 4, none⟩ = some (.slice none 0 0) := by rw [f1]; go_simp
  have g0 : ∀ i, w1.frozen? ⟨w.heap.size, i, none⟩ = false := fun i => by rw [World.frozen?_of_block (hblk _ (by dsimp; omega))]; go_simp
  have g1 : ∀ i, w1.frozen? ⟨w.heap.size + 1, i, none⟩ = false := fun i => by rw [World.frozen?_of_block (hblk _ (by dsimp; omega))]; go_simp
  have g03 := g0 3
  have hBw1 : Below w.heap.size w w1 := hB1.grown hg1 (by rw [hs0]; omega) (fun q hq => by have e2 : w.heap.size + 1 + 1 = q := Option.some.inj hq; omega)
  have HW1 := Lib.hid hown1
  clear f0 f1 hblk hg1 hown1 HO1
  -- bytes are laid
  have hl0 : w.heap.size < w1.heap.size := by omega
  have hl1 : w.heap.size + 1 < w1.heap.size := by omega
  have own2 := World.ownsRow_made (base := w1.heap.size) (e := 4) (size := 1) (w1.setCell ⟨w.heap.size, 3, none⟩ (.slice p1 q1 c1)) #[] 0 (by simp) (by decide) rfl
  have hB2 : Below w.heap.size w ((w1.setCell ⟨w.heap.size, 3, none⟩ (.slice p1 q1 c1)).alloc (.cells #[] 4)) := (hBw1.setCell (p := ⟨w.heap.size, 3, none⟩) (Nat.le_refl _) _).alloc (by simp; omega) _
  have hs2 : ((w1.setCell ⟨w.heap.size, 3, none⟩ (.slice p1 q1 c1)).alloc (.cells #[] 4)).heap.size = w1.heap.size + 1 := by simp
  simp only [World.size_setCell] at own2
  have HO2 := Lib.hid own2
  clear own2
  go_wp2_with (at_builtin; refine append_any rfl _ _ 32 rfl w1.heap.size 4 (.bool false) 1 1 Try.underlying32 info_bool rfl (by decide) _ 0 [] rfl HO2.out _ m' ((keep.take m').map Value.bool) rfl (HK.out.grown hB2) HKN.out (by rw [List.length_map, hlm', Nat.mul_one]) (one_bool _) (by unfold maxLen; omega) (by omega) (by first | omega | (simp; done) | (simp; omega)) ?_; intro v2 w2 hown2 hg2; refine Hid.out ?_)
  refine Lib.hid ?_
  have hs3 := hg2.size
  rw [hs2] at hs3
  obtain ⟨p2, q2, c2, rfl, hp2⟩ := own_slice hown2
  rw [Nat.zero_add, List.nil_append] at hown2
  have hblk : ∀ j, j < w1.heap.size → w2.heap[j]? = (w1.setCell ⟨w.heap.size, 3, none⟩ (.slice p1 q1 c1)).heap[j]? := fun j hj => by
    rw [hg2.block j (by rw [hs2]; omega) (fun e => by have e2 : j = w1.heap.size := Option.some.inj e; omega)]
    exact (MapKept.heap_alloc _ _).2 j (by simp; omega)
  have f0 : ∀ i, w2.cell? ⟨w.heap.size, i, none⟩ = (w1.setCell ⟨w.heap.size, 3, none⟩ (.slice p1 q1 c1)).cell? ⟨w.heap.size, i, none⟩ := fun i => World.cell?_of_block (hblk _ (by dsimp; omega))
  have f1 : ∀ i, w2.cell? ⟨w.heap.size + 1, i, none⟩ = (w1.setCell ⟨w.heap.size, 3, none⟩ (.slice p1 q1 c1)).cell? ⟨w.heap.size + 1, i, none⟩ := fun i => World.cell?_of_block (hblk _ (by dsimp; omega))
  have d00 : w2.cell? ⟨w.heap.size, 0, none⟩ = some (.int .i64 kind) := by rw [f0, cell_set]; simp [c00]
  have d01 : w2.cell? ⟨w.heap.size, 1, none⟩ = some (.int .i64 file) := by rw [f0, cell_set]; simp [c01]
  have d02 : w2.cell? ⟨w.heap.size, 2, none⟩ = some (.int .i64 n) := by rw [f0, cell_set]; simp [c02]
  have d03 : w2.cell? ⟨w.heap.size, 3, none⟩ = some (.slice p1 q1 c1) := by rw [f0, cell_set]; simp [c03]
  have d04 : w2.cell? ⟨w.heap.size, 4, none⟩ = some (.slice ak keep.length ck) := by rw [f0, cell_set]; simp [c04]
  have d10 : w2.cell? ⟨w.heap.size + 1, 0, none⟩ = some (.int .i64 0) := by rw [f1, World.cell?_setCell_other _ _ _ _ (by simp)]; exact c10
  have d11 : w2.cell? ⟨w.heap.size + 1, 1, none⟩ = some (.int .i64 0) := by rw [f1, World.cell?_setCell_other _ _ _ _ (by simp)]; exact c11
  have d12 : w2.cell? ⟨w.heap.size + 1, 2, none⟩ = some (.int .i64 0) := by rw [f1, World.cell?_setCell_other _ _ _ _ (by simp)]; exact c12
  have d13 : w2.cell? ⟨w.heap.size + 1, 3, none⟩ = some (.slice none 0 0) := by rw [f1, World.cell?_setCell_other _ _ _ _ (by simp)]; exact c13
  have d14 : w2.cell? ⟨w.heap.size + 1, 4, none⟩ = some (.slice none 0 0) := by rw [f1, World.cell?_setCell_other _ _ _ _ (by simp)]; exact c14
  have e0 : ∀ i, w2.frozen? ⟨w.heap.size, i, none⟩ = false := fun i => by rw [World.frozen?_of_block (hblk _ (by dsimp; omega)), World.frozen?_setCell]; exact g0 i
  have e1 : ∀ i, w2.frozen? ⟨w.heap.size + 1, i, none⟩ = false := fun i => by rw [World.frozen?_of_block (hblk _ (by dsimp; omega)), World.frozen?_setCell]; exact g1 i
  have e04 := e0 4
  have e10 := e1 0
  have e11 := e1 1
  have e12 := e1 2
  have e13 := e1 3
  have e14 := e1 4
  have hBw2 : Below w.heap.size w w2 := hB2.grown hg2 (by rw [hs2]; omega) (fun q hq => by have e2 : w1.heap.size = q := Option.some.inj hq; omega)
  have HW2 := Lib.hid hown2
  have HBLK := Lib.hid hblk
  have hl2 : w.heap.size < w2.heap.size := by omega
  have hl3 : w.heap.size + 1 < w2.heap.size := by omega
  clear f0 f1 hblk hg2 hown2 HO2 e0 e1 g0 g1
  go_wp2
  have hlast : ∀ k, w.heap.size + 2 ≤ k → ((((((w2.setCell ⟨w.heap.size, 4, none⟩ (.slice p2 q2 c2)).setCell ⟨w.heap.size + 1, 0, none⟩ (.int .i64 kind)).setCell ⟨w.heap.size + 1, 1, none⟩ (.int .i64 file)).setCell ⟨w.heap.size + 1, 2, none⟩ (.int .i64 n)).setCell ⟨w.heap.size + 1, 3, none⟩ (.slice p1 q1 c1)).setCell ⟨w.heap.size + 1, 4, none⟩ (.slice p2 q2 c2)).heap[k]? = w2.heap[k]? := fun k hk => by
    rw [RowKit.Below.heap_setCell _ _ _ _ (by dsimp; omega), RowKit.Below.heap_setCell _ _ _ _ (by dsimp; omega), RowKit.Below.heap_setCell _ _ _ _ (by dsimp; omega), RowKit.Below.heap_setCell _ _ _ _ (by dsimp; omega), RowKit.Below.heap_setCell _ _ _ _ (by dsimp; omega), RowKit.Below.heap_setCell _ _ _ _ (by dsimp; omega)]
  refine bodyPost_ret (v := .agg #[.int .i64 kind, .int .i64 file, .int .i64 n, .slice p1 q1 c1, .slice p2 q2 c2]) (by simp only [results, Try.results34]; go_simp) rfl ⟨_, _, rfl, ?_, ?_, ?_, ?_⟩
  · rw [hlm]
    refine ownsRow_base_a (own_block HW1.out (fun g hg => ?_)) (by omega)
    have hgl := HW1.out.lt g hg
    rw [hlast g hgl.1, HBLK.out g hgl.2, RowKit.Below.heap_setCell _ _ _ _ (by dsimp; omega)]
  · rw [hlm']
    refine ownsRow_base_a (own_block HW2.out (fun g hg => ?_)) (by omega)
    have hgl := HW2.out.lt g hg
    rw [hlast g (by omega)]
  · intro g hg1 hg2
    have := HW1.out.lt g hg1
    have := HW2.out.lt g hg2
    omega
  · exact (((((hBw2.setCell (p := ⟨w.heap.size, 4, none⟩) (by dsimp; omega) _).setCell (p := ⟨w.heap.size + 1, 0, none⟩) (by dsimp; omega) _).setCell (p := ⟨w.heap.size + 1, 1, none⟩) (by dsimp; omega) _).setCell (p := ⟨w.heap.size + 1, 2, none⟩) (by dsimp; omega) _).setCell (p := ⟨w.heap.size + 1, 3, none⟩) (by dsimp; omega) _).setCell (p := ⟨w.heap.size + 1, 4, none⟩) (by dsimp; omega) _
end Go.Proofs.Ytlhkacjfonihjaa
