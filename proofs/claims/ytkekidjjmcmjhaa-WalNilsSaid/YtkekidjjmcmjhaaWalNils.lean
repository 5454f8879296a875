/- The contract of quiverlaw04.WalNils. -/
import Derived.Test.YtkekidjjmcmjhaaWalB
namespace Go.Proofs.Ytkekidjjmcmjhaa
open Go.RowKit
set_option maxRecDepth 100000
attribute [local irreducible] Der

set_option maxHeartbeats 2000000 in
theorem f_WalNils (most : Int) (v : Value) (l : List Int) (w : World) (hv : Byt w v l) : Calls Try.prog 4 #[.int .i64 most, v] w fun e w' => e = .returned (.bool true) ∧ Below w.heap.size w w' := by
  have HV := Lib.hid (fun W (hb : Below w.heap.size w W) => hv.grown hb)
  obtain ⟨a, cap, rfl, -⟩ := hv.open
  clear hv
  go_enter Try.func4, Try.ntmps4
  go_wp2_with fail
  refine (f_wakes _).mono ?_
  rintro e w1 ⟨rfl, hb1⟩
  go_wp2_with fail
  refine (n_Format most _).mono ?_
  rintro e w2 ⟨rfl, hb2⟩
  have B2 := hb1.trans (hb2.mono hb1.size)
  go_wp2_with fail
  refine (n_Open _).mono ?_
  rintro e w3 ⟨rfl, hb3⟩
  have B3 := B2.trans (hb3.mono B2.size)
  go_wp2_with fail
  refine (f_some _ l _ (HV.out _ B3)).mono ?_
  rintro e w4 ⟨⟨v4, rfl, own4⟩, hb4⟩
  have B4 := B3.trans (hb4.mono B3.size)
  obtain ⟨p4, q4, c4, rfl, -⟩ := own_slice own4
  clear own4
  go_wp2_with fail
  refine (n_WalAppend _ _ _ _).mono ?_
  rintro e w5 ⟨rfl, hb5⟩
  have B5 := B4.trans (hb5.mono B4.size)
  go_wp2_with fail
  refine (f_some _ l _ (HV.out _ B5)).mono ?_
  rintro e w6 ⟨⟨v6, rfl, own6⟩, hb6⟩
  have B6 := B5.trans (hb6.mono B5.size)
  obtain ⟨p6, q6, c6, rfl, -⟩ := own_slice own6
  clear own6
  go_wp2_with fail
  refine (n_WalCheckpoint _ _ _ _).mono ?_
  rintro e w7 ⟨rfl, hb7⟩
  have B7 := B6.trans (hb7.mono B6.size)
  go_wp2_with fail
  refine (n_WalSnapshot _).mono ?_
  rintro e w8 ⟨rfl, hb8⟩
  have B8 := B7.trans (hb8.mono B7.size)
  go_wp2_with fail
  refine (n_WalAll _).mono ?_
  rintro e w9 ⟨rfl, hb9⟩
  have B9 := B8.trans (hb9.mono B8.size)
  go_wp2_with fail
  refine (n_WalLen _).mono ?_
  rintro e w10 ⟨rfl, hb10⟩
  have B10 := B9.trans (hb10.mono B9.size)
  go_wp2_with fail
  refine (n_WalLeft _).mono ?_
  rintro e w11 ⟨rfl, hb11⟩
  have B11 := B10.trans (hb11.mono B10.size)
  go_wp2_with fail
  refine (n_WalMost _).mono ?_
  rintro e w12 ⟨rfl, hb12⟩
  have B12 := B11.trans (hb12.mono B11.size)
  go_wp2_with fail
  refine (n_WalBroken _).mono ?_
  rintro e w13 ⟨rfl, hb13⟩
  have B13 := B12.trans (hb13.mono B12.size)
  go_wp2
  go_ret
  exact ⟨rfl, B13⟩
end Go.Proofs.Ytkekidjjmcmjhaa
