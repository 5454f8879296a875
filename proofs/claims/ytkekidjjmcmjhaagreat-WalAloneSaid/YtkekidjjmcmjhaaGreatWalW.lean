/- The law's wakes; some; what a log that is nil tells. -/
import Derived.Test.YtkekidjjmcmjhaaGreatWalO
namespace Go.Proofs.YtkekidjjmcmjhaaGreat
open Go.RowKit
set_option maxRecDepth 100000
attribute [local irreducible] Der

theorem fmt_new {room most : Int} (hl : limitB most = true) (h1 : 1 ≤ room) (h2 : room ≤ 65536) (hr : 2 * (most + 20) ≤ room) :
    formatE (newS room) most = 0 ∧ Cm (formatS (newS room) most) ∧ (formatS (newS room) most).Ok ∧ (formatS (newS room) most).ops ≤ 4 ∧ (formatS (newS room) most).room = room ∧
      (formatS (newS room) most).fl = updF (fun _ => none) 0 (some ⟨fileB most [[]], (fileB most [[]]).length, true⟩) := by
  have hb := limitB_bd hl
  have hc : Cm (newS room) := ⟨rfl, rfl, rfl⟩
  have hlen : ∀ x, (newS room).len x = 0 := fun x => rfl
  have hcond : ¬ (limitB most = false ∨ (newS room).room < 2 * (most + 20)) := by
    rw [hl]; simp; exact hr
  have o := makes_out (s := newS room) (most := most) (snap := []) hc.dead (by rw [hlen, hlen, hlen]; simp; show (32 : Int) ≤ room; omega)
  have hE : formatE (newS room) most = (makesR most [] (newS room)).1 := by unfold formatE; rw [if_neg hcond]
  have hS : formatS (newS room) most = (makesR most [] (newS room)).2 := by unfold formatS; rw [if_neg hcond]
  obtain ⟨e0, hc2⟩ := o.calm hc
  have hg := inRowS_good [ridsR 1, appR 1 (headB most ++ framB 0 []), syncR 1, renR 1 0] (by
    intro r hr'
    simp only [List.mem_cons, List.not_mem_nil, or_false] at hr'
    rcases hr' with rfl | rfl | rfl | rfl
    · exact ridsR_good 1
    · exact appR_good 1 (headB_byte.app (framB_byte (fun c hc => by cases hc)))
    · exact syncR_good 1
    · exact renR_good 1 0) (newS room) (new_ok h1 h2)
  rw [hE, hS]
  have hg2 : (makesR most [] (newS room)).2.ops ≤ (newS room).ops + 4 := hg.2.1
  refine ⟨e0, hc2, hg.1, by simpa [newS] using hg2, o.room, ?_⟩
  rw [(o.good e0).1]
  funext z
  unfold updF
  split
  · rfl
  · split <;> rfl

structure LogOn (s : DS) (most : Int) (parts : List (List Int)) : Prop where
  ok : s.Ok
  dead : s.dead = false
  log : s.fl 0 = some ⟨fileB most parts, (fileB most parts).length, true⟩
  new : s.fl 1 = none
  lim : limitB most = true
  cost : ((costL parts : Nat) : Int) ≤ most
  one : parts ≠ []
  byte : ∀ p ∈ parts, Byte p

theorem wappR_good (ws : WS) {bs : List Int} (hb : Byte bs) {s : DS} (h : s.Ok) : (wappR ws bs s).2.Ok ∧ (wappR ws bs s).2.ops ≤ s.ops + 2 :=
  have hg := inRowS_good [appR 0 (framB ws.parts.length bs), syncR 0] (by
    intro r hr'
    simp only [List.mem_cons, List.not_mem_nil, or_false] at hr'
    rcases hr' with rfl | rfl
    · exact appR_good 0 (framB_byte hb)
    · exact syncR_good 0) s h
  ⟨hg.1, hg.2.1⟩
theorem fit_bd {ws : WS} {bs : List Int} (hf : fitB ws.most ws.parts bs.length = true) : ((costL ws.parts + 12 + bs.length : Nat) : Int) ≤ ws.most := by unfold fitB at hf; exact of_decide_eq_true hf
theorem wapp_eqs {s : DS} {ws : WS} {bs : List Int} (hm : ws.most ≤ 16000) (hbr : ws.broken = false) (hf : fitB ws.most ws.parts bs.length = true) :
    wappE ws s bs = (wappR ws bs s).1 ∧ wappS ws s bs = (wappR ws bs s).2 ∧ wappW ws s bs = if (wappR ws bs s).1 = 0 then ⟨ws.most, ws.parts ++ [bs], false⟩ else ⟨ws.most, ws.parts, true⟩ := by
  have hk : askedE ws bs.length = 0 := by unfold askedE; rw [if_neg (by simp [hbr]), if_neg (by have := fit_bd hf; omega)]
  unfold wappE wappS wappW
  rw [hk, hf]
  simp
theorem used_eq {s : DS} {most : Int} {parts : List (List Int)} (h : LogOn s most parts) : s.used = 20 + costL parts + s.len 2 + s.len 3 := by
  have h0 : s.len 0 = 20 + costL parts := by unfold DS.len DS.at; rw [h.log]; exact fileB_len _ _
  have h1 : s.len 1 = 0 := by unfold DS.len DS.at; rw [h.new]; rfl
  unfold DS.used; rw [h0, h1]; omega
theorem LogOn.grown {s s' : DS} {ws : WS} {bs : List Int} (h : LogOn s ws.most ws.parts) (hb : Byte bs) (hf : fitB ws.most ws.parts bs.length = true) (hok : s'.Ok) (hd : s'.dead = false) (hfl : s'.fl = updF s.fl 0 (some ⟨fileB ws.most (ws.parts ++ [bs]), (fileB ws.most (ws.parts ++ [bs])).length, true⟩)) : LogOn s' ws.most (ws.parts ++ [bs]) :=
  ⟨hok, hd, by rw [hfl, updF_same], by rw [hfl, updF_ne _ _ (by decide)]; exact h.new, h.lim, by have := fit_bd hf; rw [costL_app]; simp only [costL]; omega, by simp, fun p hp => by
    rcases List.mem_append.1 hp with h1 | h1
    · exact h.byte p h1
    · simp only [List.mem_cons, List.not_mem_nil, or_false] at h1; rw [h1]; exact hb⟩
theorem wapp_calm {s : DS} {ws : WS} {bs : List Int} (h : LogOn s ws.most ws.parts) (hbr : ws.broken = false) (hb : Byte bs) (hf : fitB ws.most ws.parts bs.length = true) (hr : ((s.len 2 + s.len 3 : Nat) : Int) + ws.most + 20 ≤ s.room) (hcm : Cm s) :
    wappE ws s bs = 0 ∧ wappW ws s bs = ⟨ws.most, ws.parts ++ [bs], false⟩ ∧ Cm (wappS ws s bs) ∧ LogOn (wappS ws s bs) ws.most (ws.parts ++ [bs]) ∧ (wappS ws s bs).room = s.room ∧ (∀ y, y ≠ 0 → (wappS ws s bs).fl y = s.fl y) ∧ (wappS ws s bs).ops ≤ s.ops + 2 := by
  have hm := limitB_bd h.lim
  obtain ⟨e1, e2, e3⟩ := wapp_eqs (s := s) hm.2 hbr hf
  have o := wapp_out (bs := bs) h.dead h.log (by have := used_eq h; have := fit_bd hf; omega)
  have hg := wappR_good ws hb h.ok
  obtain ⟨k1, k2⟩ := o.calm hcm
  obtain ⟨g1, g2⟩ := o.good k1
  rw [e1, e2, e3, if_pos k1]
  exact ⟨k1, rfl, k2, h.grown hb hf hg.1 g2 g1, o.room, fun y hy => by rw [g1, updF_ne _ _ hy], hg.2⟩

theorem f_wakes (w : World) : Calls Tryz.prog 7 #[] w fun e w' => e = .returned (.bool true) ∧ Below w.heap.size w w' := by
  obtain ⟨a1, a2, a3, a4, a5, a6⟩ := fmt_new (room := 400) (most := 100) (by decide) (by omega) (by omega) (by omega)
  have HA1 := Lib.hid a1
  obtain ⟨S1, hS1⟩ : ∃ t, formatS (newS 400) 100 = t := ⟨_, rfl⟩
  rw [hS1] at a2 a3 a4 a5 a6
  have hlog : LogOn S1 100 [[]] := ⟨a3, a2.dead, by rw [a6, updF_same], by rw [a6, updF_ne _ _ (by decide)], by decide, by simp [costL], by simp, fun p hp => by simp at hp; subst hp; intro c hc; cases hc⟩
  have l2 : S1.len 2 = 0 := by rw [len_fl a6, updF_ne _ _ (by decide)]; rfl
  have l3 : S1.len 3 = 0 := by rw [len_fl a6, updF_ne _ _ (by decide)]; rfl
  have hby : Byte [1, 2, 3] := by unfold Byte; decide
  obtain ⟨b1, b2, b3, b4, -⟩ := wapp_calm (ws := ⟨100, [[]], false⟩) (s := S1) (bs := [1, 2, 3]) hlog rfl hby (by decide) (by rw [l2, l3, a5]; decide) a2
  have HS1 := Lib.hid hS1
  have HB1 := Lib.hid b1
  have HB2 := Lib.hid b2
  have HOK1 := Lib.hid a3
  clear a1 a2 a3 a5 a6 hlog l2 l3 b1 b2 b3 b4 hS1
  go_enter Tryz.func7, Tryz.ntmps7
  go_wp2_with fail
  refine (f_New 400 _ (by omega) (by omega)).mono ?_
  rintro e w1 ⟨rfl, hd1, hb1⟩
  have s1 := hb1.size
  have HD1 := Lib.hid hd1
  have hbl := hd1.blt
  clear hd1
  go_wp2_with fail
  refine (f_Format (most := 100) HD1.out (new_ok (by omega) (by omega)) (by simp [newS])).mono ?_
  rintro e w2 ⟨t2, A2, hA2, (⟨h1, -⟩ | ⟨-, q, g, hq, hg, rfl, hW⟩)⟩
  · exact absurd HA1.out h1
  rw [HS1.out] at hW
  have HW := Lib.hid hW
  have s2 := t2.size
  have T2 := Lib.hid ((Tw.of_below hb1 : Tw w.heap.size [] w w1).trans (t2.mono s1 (fun a ha => by simp at ha; exact .inr (by omega))))
  have HGL := Lib.hid (fun k (hk : g = some k) => (show w1.heap.size ≤ k by
    rcases hg with h9 | ⟨k', h9, h8⟩
    · rw [h9] at hk; cases hk
    · rw [h9] at hk; cases hk; omega))
  clear hW t2 hA2 hg
  go_wp2_with fail
  refine (f_WalLeft HW.out (by decide) (by decide)).mono ?_
  rintro e w3 ⟨rfl, hb3⟩
  have s3 := hb3.size
  have e88 : (100 : Int) - (costL [[]] : Nat) = 88 := by decide
  dsimp only
  rw [e88]
  clear e88
  go_wp2_with fail
  have b4 : Below w3.heap.size w3 (w3.alloc (.cells #[.int .u8 1, .int .u8 2, .int .u8 3] 5)) := (Below.refl _ _).alloc (Nat.le_refl _) _
  have hby4 : Byt (w3.alloc (.cells #[.int .u8 1, .int .u8 2, .int .u8 3] 5)) (.slice (some ⟨w3.heap.size, 0, none⟩) 3 3) [1, 2, 3] := ⟨Sl.fresh w3 5 3 [.int .u8 1, .int .u8 2, .int .u8 3] rfl (by omega), NilA.of_some _ _ _⟩
  have hW4 := (HW.out.below hb3).below b4
  have hql := HW.out.said.blt
  have hgl : ∀ k, g = some k → k < w2.heap.size := fun k hk => HW.out.said.lt _ (HW.out.said.hg k hk).1
  refine (f_WalAppend hW4 HOK1.out (by omega) (by decide) _ [1, 2, 3] hby4 (by simp) hby (fun ad n c e => by
    simp only [Value.slice.injEq, Option.some.injEq] at e
    rw [← e.1]; simp; omega)).mono ?_
  rintro e w5 ⟨rfl, A5, g5, hA5, hg5, hW5, t5⟩
  rw [HB2.out] at hW5
  rw [HB1.out]
  have HW5 := Lib.hid hW5
  have T5 := Lib.hid (T2.out.trans ((Tw.of_below ((hb3.trans (b4.mono s3)).mono (by omega)) : Tw w.heap.size [] w2 _).trans (t5.mono (n' := w.heap.size) (L' := []) (by simp; omega) (fun a ha => .inr (by
    simp only [List.mem_cons, Option.mem_toList, Option.mem_def] at ha
    rcases ha with rfl | rfl | rfl | ha
    · omega
    · exact Nat.le_refl _
    · omega
    · have := HGL.out a ha; omega)))))
  have s5 := t5.size
  simp only [World.size_alloc] at s5
  clear hW5 hW4 hA5 hg5 t5 b4 hby4 hb3
  go_wp2_with fail
  refine (f_WalLeft HW5.out (by decide) (by decide)).mono ?_
  rintro e w6 ⟨rfl, hb6⟩
  have s6 := hb6.size
  have e73 : (100 : Int) - (costL ([[]] ++ [[1, 2, 3]]) : Nat) = 73 := by decide
  dsimp only
  rw [e73]
  clear e73
  go_wp2_with fail
  refine (f_WalLen (HW5.out.below hb6) (by decide)).mono ?_
  rintro e w7 ⟨rfl, hb7⟩
  have s7 := hb7.size
  dsimp only
  go_wp2
  go_ret
  exact ⟨rfl, (T5.out.trans (Tw.of_below ((hb6.trans (hb7.mono s6)).mono (by omega)))).below (Nat.le_refl _) (by simp)⟩
end Go.Proofs.YtkekidjjmcmjhaaGreat
