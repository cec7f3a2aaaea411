/- The walk of SenseCut. -/
import Derived.Test.YtifhlkfdmnkhoaaSense3
namespace Go.Proofs.Ytifhlkfdmnkhoaa
set_option linter.unusedVariables false
open Go.RowKit

theorem own_pre1 {w : World} {base : Nat} {e : TypeId} {g n cap : Nat} {l : List Int} {x : Int} (h : w.ownsRow base e 1 (.slice (some ⟨g, 0, none⟩) (n + 1) cap) (n + 1) (by8 (l ++ [x]))) (hn : l.length = n) : n + 1 ≤ cap := by
  obtain ⟨A, c, hv, hc, _⟩ := ownsRow_slice h
  injection hv with _ _ hv
  omega

theorem own_pre8 {w : World} {base : Nat} {e : TypeId} {g cap : Nat} {l m : List Int} (h : w.ownsRow base e 1 (.slice (some ⟨g, 0, none⟩) (l.length + m.length) cap) (l.length + m.length) (by8 (l ++ m))) :
    w.ownsRow base e 1 (.slice (some ⟨g, 0, none⟩) l.length cap) l.length (by8 l) := by
  have h2 := ownsRow_pre h (m := l.length) (by omega)
  rw [by8_take, List.take_left] at h2
  exact h2

/-- string(b) at bytes of this program. -/
theorem conv8 {w : World} {A : Option Addr} {l : List Int} (n c : Nat) (h : Rd w A (by8 l)) (hn : l.length = n) :
    (convert 22 9 (.slice A n c)).run Try.prog w = .ok (.string (strOfNums l)) w :=
  run_conv8 h n c hn Try.underlying22 Try.underlying5 Try.underlying9

set_option maxHeartbeats 800000 in
theorem senseCut_walk (A : Option Addr) (c : Nat) (l : List Int) (n : Int) (w : World) (hr : Rd w A (by8 l)) (hc : l.length ≤ c) (hB : isB l) (hl : l.length ≤ 140737488351232) (hn : -9223372036854775808 ≤ n ∧ n ≤ 9223372036854775807) :
    Calls Try.prog 3 #[.slice A l.length c, .int .i64 n] w fun e w' => e = .returned (.bool true) ∧ Below w.heap.size w w' := by
  have HR := Lib.hid hr
  clear hr
  go_enter Try.func3, Try.ntmps3
  go_wp2_with (first
    | (go_at_call 8; with_reducible refine (lent_any A c l _ HR.out hl).mono ?_; rintro e w1 ⟨g, cap, rfl, ho1, hb1⟩; have hcap := own_pre1 ho1 rfl; have hr1 := HR.out.below hb1; have HR1 := Lib.hid hr1; have HO1 := Lib.hid ho1; have HB1 := Lib.hid hb1; have HOL := Lib.hid (own_pre8 ho1); clear ho1 hb1 hr1)
    | (go_at_call 9; with_reducible refine (cut_any (some ⟨g, 0, none⟩) cap l n _ (Rd.of_own HOL.out) hl (by omega)).mono ?_; rintro e w2 ⟨A2, c2, rfl, hc2, ho2, hb2⟩; have HR2 := Lib.hid (HR1.out.below hb2); have HO2 := Lib.hid ho2; have HB2 := Lib.hid hb2; clear ho2 hb2))
  have hmn : (l.take n.toNat).length = min n.toNat l.length := by rw [List.length_take]
  have k2 := conv8 (w := w2.drew) _ c2 (Rd.drew (Rd.of_own HO2.out)) hmn
  have HMN := Lib.hid hmn
  have HRd := Lib.hid (HR2.out.drew)
  clear hmn
  go_region_with (first
    | (go_at_call 10; with_reducible refine (rcut_any A c l n _ HRd.out hl hc).mono ?_; rintro e w3 ⟨A3, c3, rfl, hc3, ho3, hb3⟩; have k3 := conv8 _ c3 (Rd.of_own ho3) HMN.out; have k4 := conv8 (w := w3) _ c2 ((Rd.drew (Rd.of_own HO2.out)).below hb3) HMN.out; have HO3 := Lib.hid ho3; have HB3 := Lib.hid (bl_of_drew hb3); have HK3 := Lib.hid (HRd.out.below hb3); clear ho3 hb3)
    | (go_at_call 11; with_reducible refine (kept_any A c g cap l _ HK3.out ((Rd.of_own HO1.out).below (bl_chain HB2.out HB3.out)) hcap hl).mono ?_; rintro e w4 ⟨rfl, rfl⟩))
  all_goals
    clear k2 k3 k4
    have HB13 := Lib.hid (bl_chain HB2.out HB3.out)
    have HO23 := Lib.hid (ownsRow_base (base' := 0) (own_below (B := 0) (own_below (B := 0) HO2.out (bl_drew w2)) (w' := w3) ⟨HB3.out.os, HB3.out.tape, HB3.out.output, HB3.out.size, HB3.out.block⟩) (Nat.zero_le _))
    have hmin : min n.toNat l.length ≤ 140737488351232 := by omega
    go_wp2_with (first
      | (go_at_call 12; with_reducible refine (spoil_any A2 _ c2 _ _ HO23.out hmin).mono ?_; rintro e w5 ⟨rfl, ht5⟩; have HB15 := Lib.hid (bl_tr HB13.out ht5 (fun x hx => own_ge HO2.out x hx)); clear ht5)
      | (go_at_call 11; with_reducible refine (kept_any A c g cap l _ (HR1.out.below HB15.out) ((Rd.of_own HO1.out).below HB15.out) hcap hl).mono ?_; rintro e w6 ⟨rfl, rfl⟩)
      | (go_at_call 13; with_reducible refine (known_any _).mono ?_; rintro e w7 ⟨rfl, hb7⟩; have HB7 := Lib.hid hb7; clear hb7))
    go_ret
    exact ⟨rfl, bl_chain (bl_chain HB1.out HB15.out) HB7.out⟩

end Go.Proofs.Ytifhlkfdmnkhoaa
