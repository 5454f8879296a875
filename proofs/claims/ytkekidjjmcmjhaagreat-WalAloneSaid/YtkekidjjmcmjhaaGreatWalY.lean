/- What Open comes to, as values; what a file that is cut says. -/
import Derived.Test.YtkekidjjmcmjhaaGreatWalX
namespace Go.Proofs.YtkekidjjmcmjhaaGreat
set_option maxRecDepth 100000

section
variable {s : DS} {most : Int} {parts : List (List Int)} {r : List Int} {sy : Int} {kp : Bool}

/-- A file that says 'parts', and bytes behind them that say none: Open cuts it, and takes the new file away. -/
theorem open_out (hd : s.dead = false) (hl : s.fl 0 = some ⟨fileB most parts ++ r, sy, kp⟩) (hsy : sy ≤ ((fileB most parts ++ r).length : Int)) (hm : limitB most = true) (hp : ((costL parts : Nat) : Int) ≤ most) (hr : parse1 parts.length r = none) (hne : parts ≠ []) :
    Out (openR s) s (updF (updF s.fl 0 (some ⟨fileB most parts, min sy (fileB most parts).length, kp⟩)) 1 none) (fun F => (∀ y, y ≠ 0 → F y = s.fl y) ∧ (F 0 = s.fl 0 ∨ F 0 = some ⟨fileB most parts, min sy (fileB most parts).length, kp⟩)) := by
  have o1 := read_out (x := 0) hd (by omega) (by omega) hl
  rw [upd_self hl] at o1
  have hat : (s.at 0).bs = fileB most parts ++ r := by rw [at_of hl]
  have hrd : readOK (s.at 0).bs = true := by rw [hat, readOK_file hm hp hr]; exact decide_eq_true hne
  obtain ⟨hmm, hpp⟩ := partsB_file hm hp hr
  have hend : endB (s.at 0).bs = ((fileB most parts).length : Nat) := by rw [hat]; unfold endB; rw [hpp, fileB_len]; push_cast; rfl
  have hlen : (s.at 0).bs.length = (fileB most parts).length + r.length := by rw [hat, List.length_append]
  have e : openR s = if withE s 0 ask0 = 0 then inRowS [cutR (s.at 0).bs.length (endB (s.at 0).bs), ridsR 1] (withS s 0 ask0 id) else (if withE s 0 ask0 = 4 then 140 else withE s 0 ask0, withS s 0 ask0 id) := by
    unfold openR; rw [hrd]; rfl
  rw [e]
  have herr := o1.err
  dsimp only at herr
  by_cases hz : withE s 0 ask0 = 0
  · rw [if_pos hz]
    obtain ⟨g1, d1⟩ := o1.good hz
    have c1 := o1.calm
    have r1 := o1.room
    dsimp only at g1 d1 c1 r1
    obtain ⟨s1, hs1⟩ : ∃ t, withS s 0 ask0 id = t := ⟨_, rfl⟩
    rw [hs1] at g1 d1 c1 r1 ⊢
    have h1 : s1.fl 0 = some ⟨fileB most parts ++ r, sy, kp⟩ := by rw [g1]; exact hl
    have hcut : Out (cutR (s.at 0).bs.length (endB (s.at 0).bs) s1) s1 (updF s1.fl 0 (some ⟨fileB most parts, min sy (fileB most parts).length, kp⟩)) (fun F => F = s1.fl) := by
      rw [hend, hlen]
      unfold cutR
      by_cases hr0 : r.length = 0
      · rw [if_pos (by omega)]
        have er : r = [] := List.eq_nil_of_length_eq_zero hr0
        rw [er, List.append_nil] at h1 hsy
        refine ⟨fun _ => ⟨?_, d1⟩, fun h => absurd rfl h, rfl, fun h => ⟨rfl, h⟩, .inl rfl⟩
        rw [Int.min_eq_left hsy, upd_self h1]
      · rw [if_neg (by omega)]
        have o := trunc_out (x := 0) (n := (fileB most parts).length) d1 (by omega) (by omega) h1 ⟨by omega, by simp; omega⟩
        have ht : truncF (fileB most parts).length ⟨fileB most parts ++ r, sy, kp⟩ = ⟨fileB most parts, min sy (fileB most parts).length, kp⟩ := by unfold truncF; simp
        rw [ht] at o
        exact o
    have o2 : Out (inRowS [cutR (s.at 0).bs.length (endB (s.at 0).bs), ridsR 1] s1) s1 (updF (updF s.fl 0 (some ⟨fileB most parts, min sy (fileB most parts).length, kp⟩)) 1 none) (fun F => (∀ y, y ≠ 0 → F y = s.fl y) ∧ (F 0 = s.fl 0 ∨ F 0 = some ⟨fileB most parts, min sy (fileB most parts).length, kp⟩)) := by
      refine Out.cons hcut (fun e1 => ?_) (fun F h => by rw [h, g1]; exact ⟨fun _ _ => rfl, .inl rfl⟩) (fun F h => h)
      obtain ⟨g2, d2⟩ := hcut.good e1
      obtain ⟨s2, hs2⟩ : ∃ t, (cutR (s.at 0).bs.length (endB (s.at 0).bs) s1).2 = t := ⟨_, rfl⟩
      rw [hs2] at g2 d2 ⊢
      have o3 := rids_out (x := 1) d2 (by omega) (by omega)
      rw [g2, g1] at o3
      refine Out.cons o3 (fun e3 => ?_) (fun F h => by rw [h]; exact ⟨fun y hy => updF_ne _ _ hy, .inr (updF_same _ _ _)⟩) (fun F h => h)
      have g3 := o3.good e3
      exact (Out.nil _ g3.2).cast g3.1 (fun G h => h)
    exact ⟨o2.good, o2.bad, o2.room.trans r1, fun hc => o2.calm (c1 hc).2, o2.err⟩
  · rw [if_neg hz, if_neg (by omega)]
    exact ⟨fun h => absurd h hz, fun h => by rw [o1.bad hz]; exact ⟨fun _ _ => rfl, .inl rfl⟩, o1.room, fun hc => absurd (o1.calm hc).1 hz, herr⟩
theorem open_good {s : DS} (h : s.Ok) : (openR s).2.Ok ∧ (openR s).2.ops ≤ s.ops + 3 := by
  have h1 : (withS s 0 ask0 id).Ok := withS_ok h _ _ _ (fun f hf _ => ⟨hf, Nat.le_refl _⟩)
  have h2 := (withS_ops s 0 ask0 id).1
  have hg := inRowS_good [cutR (s.at 0).bs.length (endB (s.at 0).bs), ridsR 1] (by
    intro r hr'
    simp only [List.mem_cons, List.not_mem_nil, or_false] at hr'
    rcases hr' with rfl | rfl
    · exact cutR_good _ _
    · exact ridsR_good 1) (withS s 0 ask0 id) h1
  have h3 := hg.2.1
  simp only [List.length_cons, List.length_nil] at h3
  unfold openR
  split
  · split
    · exact ⟨hg.1, by omega⟩
    · exact ⟨h1, by dsimp only; omega⟩
  · exact ⟨h1, by dsimp only; omega⟩

/-- A file that is no log: Open says so. -/
theorem open_no (hc : Cm s) {f : Fi} (hl : s.fl 0 = some f) (hr : readOK f.bs = false) : (openR s).1 = 140 ∧ (openR s).2.fl = s.fl ∧ Cm (openR s).2 := by
  have o1 := read_out (x := 0) hc.dead (by omega) (by omega) hl
  rw [upd_self hl] at o1
  obtain ⟨hz, hc1⟩ := o1.calm hc
  have g1 := (o1.good hz).1
  dsimp only at hz hc1 g1
  have hat : (s.at 0).bs = f.bs := by rw [at_of hl]
  have e : openR s = (140, withS s 0 ask0 id) := by
    unfold openR
    rw [hat, hr, if_pos hz]; rfl
  rw [e]
  exact ⟨rfl, g1, hc1⟩
end

/-- How many records end in the first n bytes, counted one by one. -/
def cntN : List (List Int) → Nat → Nat → Nat
  | [], _, _ => 0
  | p :: ps, e, n => (if e + 12 + p.length ≤ n then 1 else 0) + cntN ps (e + 12 + p.length) n
theorem cntN_over : ∀ (l : List (List Int)) (e n : Nat), n < e + 12 → cntN l e n = 0
  | [], _, _, _ => rfl
  | p :: ps, e, n, h => by rw [cntN, if_neg (by omega), cntN_over ps _ n (by omega)]
theorem cntN_whole : ∀ (l : List (List Int)) (e n : Nat), e ≤ n → cntN l e n = wholeN l (n - e)
  | [], _, _, _ => rfl
  | p :: ps, e, n, h => by
    rw [cntN, wholeN]
    by_cases hx : 12 + p.length ≤ n - e
    · rw [if_pos (by omega), if_pos hx, cntN_whole ps _ n (by omega), show n - (e + 12 + p.length) = n - e - (12 + p.length) by omega]
    · rw [if_neg (by omega), if_neg hx, cntN_over ps _ n (by omega)]

theorem cut_no {most : Int} {recs : List (List Int)} {n : Nat} (hn : n < 32) (hm : limitB most = true) (hp : ((costL ([] :: recs) : Nat) : Int) ≤ most) (hs : ∀ p ∈ recs, p.length ≤ 16000) : readOK ((fileB most ([] :: recs)).take n) = false := by
  by_cases h20 : 20 ≤ n
  · obtain ⟨r, h1, h2⟩ := file_cut most ([] :: recs) n h20 (fun p hp => by
      rcases List.mem_cons.1 hp with rfl | h
      · simp
      · exact hs p h)
    have hw : wholeN ([] :: recs) (n - 20) = 0 := by rw [wholeN, if_neg (by simp; omega)]
    rw [hw] at h1 h2
    rw [h1, List.take_zero, readOK_file hm (by simp only [costL]; have := limitB_bd hm; omega) (by simpa using h2)]
    rfl
  · have hl : ((fileB most ([] :: recs)).take n).length < 20 := by rw [List.length_take]; omega
    unfold readOK
    rw [decide_eq_false (by omega)]
    rfl
theorem cut_yes {most : Int} {recs : List (List Int)} {n : Nat} (hn : 32 ≤ n) (hs : ∀ p ∈ recs, p.length ≤ 16000) :
    ∃ r, (fileB most ([] :: recs)).take n = fileB most ([] :: recs.take (wholeN recs (n - 32))) ++ r ∧ parse1 ([] :: recs.take (wholeN recs (n - 32))).length r = none := by
  obtain ⟨r, h1, h2⟩ := file_cut most ([] :: recs) n (by omega) (fun p hp => by
    rcases List.mem_cons.1 hp with rfl | h
    · simp
    · exact hs p h)
  have hw : wholeN ([] :: recs) (n - 20) = wholeN recs (n - 32) + 1 := by rw [wholeN, if_pos (by simp; omega), Nat.add_comm]; simp; congr 1
  rw [hw] at h1 h2
  refine ⟨r, by rw [h1]; rfl, ?_⟩
  rw [List.length_cons, List.length_take, Nat.min_eq_left (wholeN_le _ _)]
  exact h2
end Go.Proofs.YtkekidjjmcmjhaaGreat
