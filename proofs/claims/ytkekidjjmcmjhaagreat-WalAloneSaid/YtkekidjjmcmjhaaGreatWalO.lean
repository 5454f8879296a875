/- What makes and Append come to, as values. -/
import Derived.Test.YtkekidjjmcmjhaaGreatWalL
namespace Go.Proofs.YtkekidjjmcmjhaaGreat
set_option maxRecDepth 100000

section
variable {s : DS} {x y : Int} {f : Fi} {bs : List Int} {most : Int} {parts : List (List Int)}

theorem Out.nil (s : DS) {bad : (Int → Option Fi) → Prop} (hd : s.dead = false) : Out (inRowS [] s) s s.fl bad := ⟨fun _ => ⟨rfl, hd⟩, fun h => absurd rfl h, rfl, fun h => ⟨rfl, h⟩, .inl rfl⟩
theorem Out.cons {r : DR} {rs : List DR} {F1 F2 : Int → Option Fi} {bad1 bad2 bad : (Int → Option Fi) → Prop} (h1 : Out (r s) s F1 bad1) (h2 : (r s).1 = 0 → Out (inRowS rs (r s).2) (r s).2 F2 bad2) (hb1 : ∀ F, bad1 F → bad F) (hb2 : ∀ F, bad2 F → bad F) : Out (inRowS (r :: rs) s) s F2 bad := by
  rw [inRowS]
  by_cases he : (r s).1 = 0
  · rw [if_pos he]
    have k := h2 he
    exact ⟨k.good, fun h => hb2 _ (k.bad h), k.room.trans h1.room, fun h => k.calm (h1.calm h).2, k.err⟩
  · rw [if_neg he]
    exact ⟨fun h => absurd h he, fun h => hb1 _ (h1.bad h), h1.room, fun h => absurd (h1.calm h).1 he, h1.err⟩
theorem Out.cast {r : Int × DS} {F F' : Int → Option Fi} {bad bad' : (Int → Option Fi) → Prop} (h : Out r s F bad) (hF : F = F') (hb : ∀ G, bad G → bad' G) : Out r s F' bad' := ⟨fun h1 => hF ▸ h.good h1, fun h1 => hb _ (h.bad h1), h.room, h.calm, h.err⟩
theorem updF_same (F : Int → Option Fi) (x : Int) (v : Option Fi) : updF F x v x = v := by unfold updF; rw [if_pos rfl]
theorem updF_ne (F : Int → Option Fi) {x y : Int} (v : Option Fi) (h : y ≠ x) : updF F x v y = F y := by unfold updF; rw [if_neg h]
theorem updF_upd (F : Int → Option Fi) (x : Int) (u v : Option Fi) : updF (updF F x u) x v = updF F x v := by
  funext z; unfold updF; split <;> rfl
theorem updF_comm (F : Int → Option Fi) {x y : Int} (u v : Option Fi) (h : x ≠ y) : updF (updF F x u) y v = updF (updF F y v) x u := by
  funext z; unfold updF
  by_cases h1 : z = y
  · subst h1; simp [h.symm]
  · by_cases h2 : z = x
    · subst h2; simp [h]
    · simp [h1, h2]
theorem len_fl {s : DS} {F : Int → Option Fi} (h : s.fl = F) (x : Int) : s.len x = ((F x).getD f0).bs.length := by unfold DS.len DS.at; rw [h]
theorem at_fl {s : DS} {F : Int → Option Fi} (h : s.fl = F) (x : Int) : s.at x = (F x).getD f0 := by unfold DS.at; rw [h]
theorem f0_len : f0.bs.length = 0 := rfl

theorem makes_out {snap : List Int} (hd : s.dead = false) (hr : ((s.len 0 + s.len 2 + s.len 3 + (32 + snap.length) : Nat) : Int) ≤ s.room) :
    Out (makesR most snap s) s (updF (updF s.fl 1 none) 0 (some ⟨fileB most [snap], (fileB most [snap]).length, true⟩)) (fun F => ∀ y, y ≠ 1 → F y = s.fl y) := by
  have eB : headB most ++ framB 0 snap = fileB most [snap] := by simp [fileB, framesB]
  have lB : (fileB most [snap]).length = 32 + snap.length := by rw [fileB_len]; simp [costL]; omega
  unfold makesR
  rw [eB]
  refine Out.cons (rids_out (x := 1) hd (by omega) (by omega)) (fun e1 => ?_) (fun F h => by rw [h]; exact fun _ _ => rfl) (fun F h => h)
  have o1 := rids_out (x := 1) hd (by omega) (by omega)
  obtain ⟨g1, d1⟩ := o1.good e1
  have r1 := o1.room
  obtain ⟨s1, hs1⟩ : ∃ t, (ridsR 1 s).2 = t := ⟨_, rfl⟩
  rw [hs1] at g1 d1 r1 ⊢
  clear o1 hs1 e1
  have u1 : s1.used = s.len 0 + s.len 2 + s.len 3 := by
    unfold DS.used
    rw [len_fl g1 0, len_fl g1 1, len_fl g1 2, len_fl g1 3, updF_ne _ _ (by decide), updF_same, updF_ne _ _ (by decide), updF_ne _ _ (by decide)]
    rw [← len_fl rfl 0, ← len_fl rfl 2, ← len_fl rfl 3]
    simp [f0]
  have o2 := app_out (x := 1) (bs := fileB most [snap]) d1 (by omega) (by omega) (by rw [r1, u1, lB]; omega)
  have at1 : s1.at 1 = f0 := by rw [at_fl g1, updF_same]; rfl
  have hap : appF (s1.at 1) (fileB most [snap]) = ⟨fileB most [snap], 0, false⟩ := by rw [at1]; simp [appF, f0]
  rw [hap, g1, updF_upd] at o2
  refine Out.cons o2 (fun e2 => ?_) (fun F h => by
    rcases h with rfl | rfl
    · exact fun y hy => updF_ne _ _ hy
    · exact fun y hy => updF_ne _ _ hy) (fun F h => h)
  obtain ⟨g2, d2⟩ := o2.good e2
  obtain ⟨s2, hs2⟩ : ∃ t, (appR 1 (fileB most [snap]) s1).2 = t := ⟨_, rfl⟩
  rw [hs2] at g2 d2 ⊢
  clear o2 hs2 e2
  have o3 := sync_out (x := 1) (f := ⟨fileB most [snap], 0, false⟩) d2 (by omega) (by omega) (by rw [g2, updF_same])
  have hsy : syncF ⟨fileB most [snap], 0, false⟩ = ⟨fileB most [snap], (fileB most [snap]).length, true⟩ := rfl
  rw [hsy, g2, updF_upd] at o3
  refine Out.cons o3 (fun e3 => ?_) (fun F h => by rw [h]; exact fun y hy => updF_ne _ _ hy) (fun F h => h)
  obtain ⟨g3, d3⟩ := o3.good e3
  obtain ⟨s3, hs3⟩ : ∃ t, (syncR 1 s2).2 = t := ⟨_, rfl⟩
  rw [hs3] at g3 d3 ⊢
  clear o3 hs3 e3
  have o4 := ren_out (x := 1) (y := 0) (f := ⟨fileB most [snap], (fileB most [snap]).length, true⟩) d3 (by omega) (by omega) (by omega) (by omega) (by decide) (by rw [g3, updF_same])
  rw [g3, updF_upd] at o4
  refine Out.cons o4 (fun e4 => ?_) (fun F h => by rw [h]; exact fun y hy => updF_ne _ _ hy) (fun F h => h)
  have g4 := (o4.good e4)
  exact (Out.nil _ g4.2).cast g4.1 (fun G h => h)

theorem wapp_out {ws : WS} (hd : s.dead = false) (hl : s.fl 0 = some ⟨fileB ws.most ws.parts, (fileB ws.most ws.parts).length, true⟩) (hr : (s.used : Int) + 12 + bs.length ≤ s.room) :
    Out (wappR ws bs s) s (updF s.fl 0 (some ⟨fileB ws.most (ws.parts ++ [bs]), (fileB ws.most (ws.parts ++ [bs])).length, true⟩)) (fun F => F = s.fl ∨ F = updF s.fl 0 (some ⟨fileB ws.most (ws.parts ++ [bs]), (fileB ws.most ws.parts).length, true⟩)) := by
  have eB : fileB ws.most ws.parts ++ framB ws.parts.length bs = fileB ws.most (ws.parts ++ [bs]) := (fileB_snoc _ _ _).symm
  unfold wappR
  have o1 := app_out (x := 0) (bs := framB ws.parts.length bs) hd (by omega) (by omega) (by rw [framB_len]; omega)
  have hap : appF (s.at 0) (framB ws.parts.length bs) = ⟨fileB ws.most (ws.parts ++ [bs]), (fileB ws.most ws.parts).length, true⟩ := by rw [at_of hl]; simp [appF, eB]
  rw [hap] at o1
  refine Out.cons o1 (fun e1 => ?_) (fun F h => h) (fun F h => h)
  obtain ⟨g1, d1⟩ := o1.good e1
  obtain ⟨s1, hs1⟩ : ∃ t, (appR 0 (framB ws.parts.length bs) s).2 = t := ⟨_, rfl⟩
  rw [hs1] at g1 d1 ⊢
  have o2 := sync_out (x := 0) (f := ⟨fileB ws.most (ws.parts ++ [bs]), (fileB ws.most ws.parts).length, true⟩) d1 (by omega) (by omega) (by rw [g1, updF_same])
  have hsy : syncF ⟨fileB ws.most (ws.parts ++ [bs]), (fileB ws.most ws.parts).length, true⟩ = ⟨fileB ws.most (ws.parts ++ [bs]), (fileB ws.most (ws.parts ++ [bs])).length, true⟩ := rfl
  rw [hsy, g1, updF_upd] at o2
  refine Out.cons o2 (fun e2 => ?_) (fun F h => by rw [h]; exact .inr rfl) (fun F h => h)
  have g2 := o2.good e2
  exact (Out.nil _ g2.2).cast g2.1 (fun G h => h)
end
end Go.Proofs.YtkekidjjmcmjhaaGreat
