/- The walk of SenseKeys. -/
import Derived.Test.YtifhlkfdmnkhoaaSense8
namespace Go.Proofs.Ytifhlkfdmnkhoaa
set_option linter.unusedVariables false
open Go.RowKit

set_option maxHeartbeats 800000 in
theorem senseKeys_walk (g : Int) (A : Option Addr) (c : Nat) (ks : List Int) (x k : Int) (w : World) (hg : -9223372036854775808 ≤ g ∧ g ≤ 9223372036854775807) (hr : Rd w A (u64s ks)) (hc : ks.length ≤ c) (hU : isU ks) (hl : ks.length ≤ 17592186043904) (hx : 0 ≤ x ∧ x < 18446744073709551616) (hk : -9223372036854775808 ≤ k ∧ k ≤ 9223372036854775807) :
    Calls Try.prog 6 #[.int .i64 g, .slice A ks.length c, .int .u64 x, .int .i64 k] w fun e w' => e = .returned (.bool true) ∧ Below w.heap.size w w' := by
  have HR := Lib.hid hr
  have HU := Lib.hid hU
  clear hr hU
  go_enter Try.func6, Try.ntmps6
  go_wp2_with (first
    | (go_at_call 22; (with_reducible refine (keys_any A c g ks _ HR.out HU.out (by omega)).mono ?_); rintro e w1 ⟨A1, c1, rfl, hc1, ho1, hb1⟩; have HO1 := Lib.hid ho1; have HB1 := Lib.hid hb1; clear ho1 hb1)
    | (go_at_call 23; (with_reducible refine (rkeys_any A c g ks _ (HR.out.below HB1.out) HU.out (by omega)).mono ?_); rintro e w2 ⟨A2, c2, rfl, hc2, ho2, hb2⟩; have HO2 := Lib.hid ho2; have HB2 := Lib.hid hb2; clear ho2 hb2)
    | (go_at_call 24; (with_reducible refine (holder_any g x k _ hx.1 hx.2).mono ?_); rintro e w3 ⟨A3, c3, rfl, hc3, ho3, hb3⟩; have HO3 := Lib.hid ho3; have HB3 := Lib.hid hb3; clear ho3 hb3)
    | (go_at_call 25; (with_reducible refine (rholder_any g x k _ hx.1 hx.2).mono ?_); rintro e w4 ⟨A4, c4, rfl, hc4, ho4, hb4⟩; have k4 := conv8 _ c4 (Rd.of_own ho4) rfl; have k3 := conv8 _ c3 ((Rd.of_own HO3.out).below hb4) rfl; have k2 := conv8 _ c2 ((Rd.of_own HO2.out).below (bl_chain HB3.out hb4)) rfl; have k1 := conv8 _ c1 ((Rd.of_own HO1.out).below (bl_chain HB2.out (bl_chain HB3.out hb4))) rfl; have HB4 := Lib.hid hb4; clear ho4 hb4)
    | (go_at_call 13; (with_reducible refine (known_any _).mono ?_); rintro e w7 ⟨rfl, hb7⟩; have HB7 := Lib.hid hb7; clear hb7))
  go_ret
  exact ⟨rfl, bl_chain (bl_chain HB1.out (bl_chain HB2.out (bl_chain HB3.out HB4.out))) HB7.out⟩

end Go.Proofs.Ytifhlkfdmnkhoaa
