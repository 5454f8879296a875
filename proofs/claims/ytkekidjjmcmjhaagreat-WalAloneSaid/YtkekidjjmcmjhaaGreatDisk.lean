/- A disk as a value, and how it lies in memory; what a call may turn of it. -/
import Derived.Test.YtkekidjjmcmjhaaGreatSlD
import Derived.Test.YtkekidjjmcmjhaaGreatMaps
namespace Go.Proofs.YtkekidjjmcmjhaaGreat
open Go.RowKit
set_option maxRecDepth 100000

/-- A file: its bytes, how many are synced, whether it is kept. -/
structure Fi where
  bs : List Int
  sy : Int
  kp : Bool
def f0 : Fi := ⟨[], 0, false⟩
structure DS where
  room : Int
  ops : Int
  armed : Int
  failing : Int
  dead : Bool
  fl : Int → Option Fi

def DS.at (s : DS) (x : Int) : Fi := (s.fl x).getD f0
def DS.len (s : DS) (x : Int) : Nat := (s.at x).bs.length
def DS.used (s : DS) : Nat := s.len 0 + s.len 1 + s.len 2 + s.len 3
def nameB (x : Int) : Bool := decide (0 ≤ x) && decide (x < 4)

/-- What is so of every disk. -/
structure DS.Ok (s : DS) : Prop where
  room1 : 1 ≤ s.room
  room2 : s.room ≤ 65536
  ops : 0 ≤ s.ops
  armed : -1 ≤ s.armed
  failing : -1 ≤ s.failing
  armed2 : s.armed ≤ 9223372036854775807
  failing2 : s.failing ≤ 9223372036854775807
  used : (s.used : Int) ≤ s.room
  name : ∀ x f, s.fl x = some f → 0 ≤ x ∧ x < 4
  sy : ∀ x f, s.fl x = some f → 0 ≤ f.sy ∧ f.sy ≤ f.bs.length
  byte : ∀ x f, s.fl x = some f → ∀ c ∈ f.bs, 0 ≤ c ∧ c < 256

/-- How a file lies in memory: its row is in no block of A. -/
def FileIs (w : World) (A : List Nat) (v : Value) (f : Fi) : Prop :=
  ∃ s, v = .agg #[s, .int .i64 f.sy, .bool f.kp] ∧ Byt w s f.bs ∧ ∀ ad n c, s = .slice (some ad) n c → ad.block < w.heap.size ∧ ad.block ∉ A

def FileOp (w : World) (A : List Nat) : Option Value → Option Fi → Prop
  | some v, some f => FileIs w A v f
  | none, none => True
  | _, _ => False

def zf : Value := .agg #[.slice none 0 0, .int .i64 0, .bool false]

/-- A disk lies in block b, its map in block m; its rows are in no block of A. -/
structure Disk (w : World) (A : List Nat) (b m : Nat) (s : DS) : Prop where
  c0 : w.cell? ⟨b, 0, none⟩ = some (.int .i64 s.room)
  c1 : w.cell? ⟨b, 1, none⟩ = some (.map (some m))
  c2 : w.cell? ⟨b, 2, none⟩ = some (.int .i64 s.ops)
  c3 : w.cell? ⟨b, 3, none⟩ = some (.int .i64 s.armed)
  c4 : w.cell? ⟨b, 4, none⟩ = some (.int .i64 s.failing)
  c5 : w.cell? ⟨b, 5, none⟩ = some (.bool s.dead)
  fr : ∀ o, w.frozen? ⟨b, o, none⟩ = false
  files : ∃ G, Mp Tryz.prog 3 w m 4 G ∧ ∀ x, FileOp w A (G x) (s.fl x)
  lt : ∀ a ∈ A, a < w.heap.size
  hb : b ∈ A
  hm : m ∈ A
  ne : b ≠ m

/-- Of what lay below n nothing has turned but the blocks of L. -/
structure Tw (n : Nat) (L : List Nat) (w w' : World) : Prop where
  os : w'.os = w.os
  tape : w'.tape = w.tape
  output : w'.output = w.output
  size : w.heap.size ≤ w'.heap.size
  block : ∀ k, k < n → k ∉ L → w'.heap[k]? = w.heap[k]?

section
variable {n m : Nat} {L L' : List Nat} {w w' w'' : World}
theorem Tw.refl (n : Nat) (L : List Nat) (w : World) : Tw n L w w := ⟨rfl, rfl, rfl, Nat.le_refl _, fun _ _ _ => rfl⟩
theorem Tw.trans (h : Tw n L w w') (k : Tw n L w' w'') : Tw n L w w'' :=
  ⟨k.os.trans h.os, k.tape.trans h.tape, k.output.trans h.output, Nat.le_trans h.size k.size, fun i h1 h2 => (k.block i h1 h2).trans (h.block i h1 h2)⟩
theorem Tw.of_below (h : Below n w w') : Tw n L w w' := ⟨h.os, h.tape, h.output, h.size, fun i h1 _ => h.block i h1⟩
theorem Tw.mono {n' : Nat} (h : Tw n L w w') (hn : n' ≤ n) (hL : ∀ a ∈ L, a ∈ L' ∨ n' ≤ a) : Tw n' L' w w' := ⟨h.os, h.tape, h.output, h.size, fun i h1 h2 => h.block i (by omega) (fun hi => by rcases hL i hi with h3 | h3; exact h2 h3; omega)⟩
theorem Tw.below {n' : Nat} (h : Tw n L w w') (hn : n' ≤ n) (hL : ∀ a ∈ L, n' ≤ a) : Below n' w w' := ⟨h.os, h.tape, h.output, h.size, fun i hi => h.block i (by omega) (fun hc => by have := hL i hc; omega)⟩
theorem Tw.setCell {b : Nat} (h : Tw n L w w') (hb : b ∈ L ∨ n ≤ b) (o : Nat) (v : Value) : Tw n L w (w'.setCell ⟨b, o, none⟩ v) :=
  h.trans ⟨rfl, rfl, rfl, by simp, fun i h0 h1 => RowKit.Below.heap_setCell _ _ _ _ (fun e => by rcases hb with h2 | h2; exact h1 (e ▸ h2); (dsimp at e; omega))⟩
theorem Tw.mapTurned (h : Tw n L w w') (hm : m ∈ L) (ht : w'.mapTurned w'' m) : Tw n L w w'' :=
  h.trans ⟨ht.grown.os, ht.grown.tape, ht.grown.output, ht.grown.size, fun i _ h3 => by
    obtain ⟨es, c, es', c', hb, rfl⟩ := ht
    exact ChangeMaps.heap_setBlock_other hb _ (fun e => h3 (e ▸ hm))⟩
theorem Tw.cell (h : Tw n L w w') {p : Addr} (h1 : p.block < n) (h2 : p.block ∉ L) : w'.cell? p = w.cell? p := World.cell?_of_block (h.block _ h1 h2)
theorem Tw.frozen (h : Tw n L w w') {p : Addr} (h1 : p.block < n) (h2 : p.block ∉ L) : w'.frozen? p = w.frozen? p := World.frozen?_of_block (h.block _ h1 h2)
end

section
variable {b m : Nat} {w w' : World} {A A' : List Nat} {s : DS} {v : Value} {f : Fi} {l : List Int}

/-- Bytes stay where their own block stays. -/
theorem Byt.block {ad : Addr} {n c : Nat} (h : Byt w (.slice (some ad) n c) l) (hb : w'.heap[ad.block]? = w.heap[ad.block]?) (hs : w.heap.size ≤ w'.heap.size) : Byt w' (.slice (some ad) n c) l := by
  refine ⟨⟨?_⟩, h.2⟩
  obtain ⟨a, cap, e, h1, h2, h3⟩ := h.1.form
  refine ⟨a, cap, e, h1, h2, fun hne => ?_⟩
  obtain ⟨b, off, rfl, hlt, hc⟩ := h3 hne
  refine ⟨b, off, rfl, by omega, fun i hi => ?_⟩
  simp only [Value.slice.injEq, Option.some.injEq] at e
  rw [← hc i hi]
  refine World.cell?_of_block ?_
  show w'.heap[b]? = w.heap[b]?
  rw [e.1] at hb
  exact hb
theorem Byt.none_nil {n c : Nat} (h : Byt w (.slice none n c) l) : l = [] := by
  obtain ⟨a, cap, e, _⟩ := h.1.form
  rw [h.2.of_none.1] at e
  simp only [Value.slice.injEq] at e
  exact List.eq_nil_of_length_eq_zero e.2.1.symm

theorem FileIs.turn (h : FileIs w A v f) (hs : w.heap.size ≤ w'.heap.size) (hA : ∀ a ∈ A', a ∈ A ∨ w.heap.size ≤ a) (hb : ∀ k, k < w.heap.size → k ∉ A → w'.heap[k]? = w.heap[k]?) : FileIs w' A' v f := by
  obtain ⟨s, rfl, h1, h2⟩ := h
  refine ⟨s, rfl, ?_, fun ad n c e => ?_⟩
  · obtain ⟨a, cap, e, _⟩ := h1.1.form
    subst e
    cases a with
    | none =>
      have e1 := h1.none_nil
      have e2 := h1.2.of_none
      rw [e2.1, e2.2, e1]
      exact Byt.nil w'
    | some ad =>
      obtain ⟨h3, h4⟩ := h2 ad _ _ rfl
      exact h1.block (hb _ h3 h4) hs
  · obtain ⟨h3, h4⟩ := h2 ad n c e
    refine ⟨by omega, fun hc => ?_⟩
    rcases hA _ hc with h5 | h5
    · exact h4 h5
    · omega
theorem FileOp.turn {gv : Option Value} {gf : Option Fi} (h : FileOp w A gv gf) (hs : w.heap.size ≤ w'.heap.size) (hA : ∀ a ∈ A', a ∈ A ∨ w.heap.size ≤ a) (hb : ∀ k, k < w.heap.size → k ∉ A → w'.heap[k]? = w.heap[k]?) : FileOp w' A' gv gf := by
  cases gv <;> cases gf <;> first | exact h | exact FileIs.turn h hs hA hb

/-- A disk stays while its own blocks, and its rows', stay. -/
theorem Disk.turn (h : Disk w A b m s) (hs : w.heap.size ≤ w'.heap.size) (hA : ∀ a ∈ A', (a ∈ A ∨ w.heap.size ≤ a) ∧ a < w'.heap.size) (hb' : b ∈ A') (hm' : m ∈ A') (hb : ∀ k, k < w.heap.size → k ∉ A → w'.heap[k]? = w.heap[k]?) (h1 : w'.heap[b]? = w.heap[b]?) (h2 : w'.heap[m]? = w.heap[m]?) : Disk w' A' b m s := by
  have hc : ∀ o, w'.cell? ⟨b, o, none⟩ = w.cell? ⟨b, o, none⟩ := fun o => World.cell?_of_block h1
  have hf : ∀ o, w'.frozen? ⟨b, o, none⟩ = w.frozen? ⟨b, o, none⟩ := fun o => World.frozen?_of_block h1
  obtain ⟨G, g1, g2⟩ := h.files
  exact ⟨(hc 0).trans h.c0, (hc 1).trans h.c1, (hc 2).trans h.c2, (hc 3).trans h.c3, (hc 4).trans h.c4, (hc 5).trans h.c5, fun o => (hf o).trans (h.fr o),
    ⟨G, g1.block h2, fun x => (g2 x).turn hs (fun a ha => (hA a ha).1) hb⟩, fun a ha => (hA a ha).2, hb', hm', h.ne⟩
theorem Disk.below (h : Disk w A b m s) (hb : Below w.heap.size w w') : Disk w' A b m s :=
  h.turn hb.size (fun a ha => ⟨.inl ha, Nat.lt_of_lt_of_le (h.lt a ha) hb.size⟩) h.hb h.hm (fun k hk _ => hb.block k hk) (hb.block _ (h.lt _ h.hb)) (hb.block _ (h.lt _ h.hm))
/-- Another disk's operation turns no other one. -/
theorem Disk.tw {L : List Nat} (h : Disk w A b m s) (ht : Tw w.heap.size L w w') (hL : ∀ a ∈ L, a ∈ A) (hb : b ∉ L) (hm : m ∉ L) : Disk w' A b m s :=
  h.turn ht.size (fun a ha => ⟨.inl ha, Nat.lt_of_lt_of_le (h.lt a ha) ht.size⟩) h.hb h.hm (fun k hk hkA => ht.block k hk (fun e => hkA (hL k e))) (ht.block _ (h.lt _ h.hb) hb) (ht.block _ (h.lt _ h.hm) hm)
/-- New blocks are in no row. -/
theorem Disk.more (h : Disk w A b m s) (hb : Below w.heap.size w w') {C : List Nat} (hC : ∀ a ∈ C, w.heap.size ≤ a ∧ a < w'.heap.size) : Disk w' (C ++ A) b m s :=
  h.turn hb.size (fun a ha => by
    rcases List.mem_append.1 ha with h1 | h1
    · exact ⟨.inr (hC a h1).1, (hC a h1).2⟩
    · exact ⟨.inl h1, Nat.lt_of_lt_of_le (h.lt a h1) hb.size⟩) (List.mem_append_right _ h.hb) (List.mem_append_right _ h.hm) (fun k hk _ => hb.block k hk) (hb.block _ (h.lt _ h.hb)) (hb.block _ (h.lt _ h.hm))
theorem Disk.less {C : List Nat} (h : Disk w (C ++ A) b m s) (hb : b ∈ A) (hm : m ∈ A) : Disk w A b m s :=
  h.turn (Nat.le_refl _) (fun a ha => ⟨.inl (List.mem_append_right _ ha), h.lt a (List.mem_append_right _ ha)⟩) hb hm (fun _ _ _ => rfl) rfl rfl
theorem Disk.blt (h : Disk w A b m s) : b < w.heap.size := h.lt _ h.hb
theorem Disk.mlt (h : Disk w A b m s) : m < w.heap.size := h.lt _ h.hm

/-- The file of a name, and what a look-up gives. -/
theorem FileOp.get {gv : Option Value} {gf : Option Fi} (h : FileOp w A gv gf) : FileIs w A (gv.getD zf) (gf.getD f0) ∧ gv.isSome = gf.isSome := by
  cases gv <;> cases gf
  · exact ⟨⟨_, rfl, Byt.nil w, fun ad n c e => by cases e⟩, rfl⟩
  · exact absurd h (by simp [FileOp])
  · exact absurd h (by simp [FileOp])
  · exact ⟨h, rfl⟩

theorem cell_set (w : World) (b o o' : Nat) (v : Value) : (w.setCell ⟨b, o, none⟩ v).cell? ⟨b, o', none⟩ = if o' = o then (w.cell? ⟨b, o, none⟩).map (fun _ => v) else w.cell? ⟨b, o', none⟩ := by
  split
  · rename_i h; subst h; exact cell_setCell_map w _ v
  · rename_i h; exact World.cell?_setCell_other _ _ _ _ (fun e => h (by injection e with _ e2; exact e2.symm))

/-- A store into a cell of the disk's own block. -/
theorem Disk.set2 (h : Disk w A b m s) (x : Int) : Disk (w.setCell ⟨b, 2, none⟩ (.int .i64 x)) A b m { s with ops := x } := by
  obtain ⟨G, g1, g2⟩ := h.files
  exact ⟨by rw [cell_set]; simp [h.c0], by rw [cell_set]; simp [h.c1], by rw [cell_set]; simp [h.c2], by rw [cell_set]; simp [h.c3], by rw [cell_set]; simp [h.c4], by rw [cell_set]; simp [h.c5], fun o => by rw [World.frozen?_setCell]; exact h.fr o,
    ⟨G, g1.setCell (Ne.symm h.ne) _, fun y => (g2 y).turn (by simp) (fun a ha => .inl ha) (fun k _ hk => RowKit.Below.heap_setCell _ _ _ _ (fun e => hk (e ▸ h.hb)))⟩, fun a ha => by simpa using h.lt a ha, h.hb, h.hm, h.ne⟩
theorem Disk.set3 (h : Disk w A b m s) (x : Int) : Disk (w.setCell ⟨b, 3, none⟩ (.int .i64 x)) A b m { s with armed := x } := by
  obtain ⟨G, g1, g2⟩ := h.files
  exact ⟨by rw [cell_set]; simp [h.c0], by rw [cell_set]; simp [h.c1], by rw [cell_set]; simp [h.c2], by rw [cell_set]; simp [h.c3], by rw [cell_set]; simp [h.c4], by rw [cell_set]; simp [h.c5], fun o => by rw [World.frozen?_setCell]; exact h.fr o,
    ⟨G, g1.setCell (Ne.symm h.ne) _, fun y => (g2 y).turn (by simp) (fun a ha => .inl ha) (fun k _ hk => RowKit.Below.heap_setCell _ _ _ _ (fun e => hk (e ▸ h.hb)))⟩, fun a ha => by simpa using h.lt a ha, h.hb, h.hm, h.ne⟩
theorem Disk.set4 (h : Disk w A b m s) (x : Int) : Disk (w.setCell ⟨b, 4, none⟩ (.int .i64 x)) A b m { s with failing := x } := by
  obtain ⟨G, g1, g2⟩ := h.files
  exact ⟨by rw [cell_set]; simp [h.c0], by rw [cell_set]; simp [h.c1], by rw [cell_set]; simp [h.c2], by rw [cell_set]; simp [h.c3], by rw [cell_set]; simp [h.c4], by rw [cell_set]; simp [h.c5], fun o => by rw [World.frozen?_setCell]; exact h.fr o,
    ⟨G, g1.setCell (Ne.symm h.ne) _, fun y => (g2 y).turn (by simp) (fun a ha => .inl ha) (fun k _ hk => RowKit.Below.heap_setCell _ _ _ _ (fun e => hk (e ▸ h.hb)))⟩, fun a ha => by simpa using h.lt a ha, h.hb, h.hm, h.ne⟩
theorem Disk.set5 (h : Disk w A b m s) (x : Bool) : Disk (w.setCell ⟨b, 5, none⟩ (.bool x)) A b m { s with dead := x } := by
  obtain ⟨G, g1, g2⟩ := h.files
  exact ⟨by rw [cell_set]; simp [h.c0], by rw [cell_set]; simp [h.c1], by rw [cell_set]; simp [h.c2], by rw [cell_set]; simp [h.c3], by rw [cell_set]; simp [h.c4], by rw [cell_set]; simp [h.c5], fun o => by rw [World.frozen?_setCell]; exact h.fr o,
    ⟨G, g1.setCell (Ne.symm h.ne) _, fun y => (g2 y).turn (by simp) (fun a ha => .inl ha) (fun k _ hk => RowKit.Below.heap_setCell _ _ _ _ (fun e => hk (e ▸ h.hb)))⟩, fun a ha => by simpa using h.lt a ha, h.hb, h.hm, h.ne⟩

def updF (F : Int → Option Fi) (x : Int) (v : Option Fi) : Int → Option Fi := fun y => if y = x then v else F y

/-- The map has another element at x, and the world is else what it was. -/
theorem Disk.mapped {G' : Int → Option Value} {x : Int} {gv : Option Value} {gf : Option Fi} {G : Int → Option Value} (h : Disk w A b m s) (g2 : ∀ y, FileOp w A (G y) (s.fl y)) (hG : G' = upd G x gv) (n : Nat) (h1 : Mp Tryz.prog 3 w' m n G') (ht : w.mapTurned w' m)
    (hf : FileOp w A gv gf) (hok : ∀ y f, updF s.fl x gf y = some f → 0 ≤ y ∧ y < 4) : Disk w' A b m { s with fl := updF s.fl x gf } := by
  have hbl : ∀ k, k < w.heap.size → k ≠ m → w'.heap[k]? = w.heap[k]? := fun k hk hne => ht.grown.block k hk (by simpa using hne)
  have hc : ∀ o, w'.cell? ⟨b, o, none⟩ = w.cell? ⟨b, o, none⟩ := fun o => World.cell?_of_block (hbl _ h.blt h.ne)
  have hfr : ∀ o, w'.frozen? ⟨b, o, none⟩ = w.frozen? ⟨b, o, none⟩ := fun o => World.frozen?_of_block (hbl _ h.blt h.ne)
  have hop : ∀ y, FileOp w' A (G' y) (updF s.fl x gf y) := fun y => by
    have ha : FileOp w A (G' y) (updF s.fl x gf y) := by
      rw [hG]
      unfold upd updF
      by_cases e : y = x
      · rw [if_pos e, if_pos e]; exact hf
      · rw [if_neg e, if_neg e]; exact g2 y
    exact ha.turn ht.grown.size (fun a ha => .inl ha) (fun k hk hkA => hbl k hk (fun e => hkA (e ▸ h.hm)))
  refine ⟨(hc 0).trans h.c0, (hc 1).trans h.c1, (hc 2).trans h.c2, (hc 3).trans h.c3, (hc 4).trans h.c4, (hc 5).trans h.c5, fun o => (hfr o).trans (h.fr o), ⟨G', ?_, hop⟩, fun a ha => Nat.lt_of_lt_of_le (h.lt a ha) ht.grown.size, h.hb, h.hm, h.ne⟩
  refine h1.few Tryz.underlying3 4 fun y hy hs => ?_
  have h2 := (hop y).get.2
  rw [hs] at h2
  obtain ⟨f, hf⟩ := Option.isSome_iff_exists.1 h2.symm
  exact hok y f hf
end
end Go.Proofs.YtkekidjjmcmjhaaGreat
