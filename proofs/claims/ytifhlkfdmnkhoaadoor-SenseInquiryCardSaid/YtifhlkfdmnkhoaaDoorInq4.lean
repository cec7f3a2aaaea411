/- SenseInquiry: pages of vital data, by the program. -/
import Derived.Test.YtifhlkfdmnkhoaaDoorInq3
namespace Go.Proofs.YtifhlkfdmnkhoaaDoor
set_option linter.unusedVariables false
open Go.RowKit

def allP : List Int := [0, 128, 131]

set_option maxHeartbeats 1600000 in
theorem inq_vital (page lun : Int) (w : World) (hk : Kin w) (h0 : 0 ≤ lun) (h1 : lun ≤ 255) : Calls Tryd.prog 4 #[.bool true, .int .i64 page, .int .i64 lun] w (RetI w (vN page) (vL page lun) (vE page)) := by
  have HK := Lib.hid hk
  clear hk
  have q0 := k0
  have q1 := k1
  have q2 := k2
  have LD := loadKinds
  go_enter Tryd.func4, Tryd.ntmps4
  go_wp2_with (first
    | (go_at_call 8; (with_reducible refine (in_yes lun 255 _ ⟨h0, h1⟩).mono ?_); rintro e w1 ⟨rfl, rfl⟩)
    | (refine wpL_loadArr (ty := 31) rfl rfl rfl HK.out Tryd.underlying31 rfl LD ?_))
  go_loopw [24] (fun v w2 => (v = .int .i64 0 ∨ v = .int .i64 1 ∧ page ≠ 0 ∨ v = .int .i64 2 ∧ page ≠ 0 ∧ page ≠ 128 ∨ v = .int .i64 3 ∧ page ≠ 0 ∧ page ≠ 128 ∧ page ≠ 131) ∧ Below w.heap.size w w2) (fun v _ => 3 - (intOf v).toNat)
  case atStart => exact ⟨.inl rfl, Below.refl _ _⟩
  case round =>
    obtain ⟨hv, hb⟩ := hrel
    have HB := Lib.hid hb
    clear hb
    rcases hv with rfl | ⟨rfl, p0⟩ | ⟨rfl, p0, p1⟩ | ⟨rfl, p0, p1, p2⟩
    · by_cases p0 : page = 0
      · subst p0
        have HB0 := Lib.hid (bl_chain HB.out (bl_alloc wr (.cells #[.int .i64 0, .int .i64 0] 30)))
        have HK2 := Lib.hid (HK.out.below HB0.out)
        go_wp2_with (first
          | (refine wpL_loadArr (ty := 31) rfl rfl rfl HK2.out Tryd.underlying31 rfl LD ?_))
        go_loopw [10, 36] (fun u v w2 => ∃ (k : Nat) (A : Option Addr) (c : Nat), (k = 0 ∧ v = .int .i64 0 ∨ k = 1 ∧ v = .int .i64 1 ∨ k = 2 ∧ v = .int .i64 2 ∨ k = 3 ∧ v = .int .i64 3) ∧ u = .slice A k c ∧ w2.ownsRow w.heap.size 5 1 (.slice A k c) k (by8 (allP.take k)) ∧ Below w.heap.size w w2) (fun _ v _ => 3 - (intOf v).toNat)
        case atStart => exact ⟨0, none, 0, .inl ⟨rfl, rfl⟩, rfl, ownsRow_emp _ _ _ _, HB0.out⟩
        case round =>
          obtain ⟨k, A, c, hk, rfl, ho, hb⟩ := hrel
          have HO := Lib.hid ho
          have HB3 := Lib.hid hb
          clear ho hb
          have hz := HB3.out.size
          rcases hk with ⟨rfl, rfl⟩ | ⟨rfl, rfl⟩ | ⟨rfl, rfl⟩ | ⟨rfl, rfl⟩
          · have HW := Lib.hid (bl_alloc wr (.cells #[.int .i64 0, .int .i64 0] 30))
            have HR := fun (W : World) (hW : W.heap.size = wr.heap.size + 1) => (hW ▸ Rd.new1 W 5 (.int .u8 0) : Rd (W.alloc (.cells #[.int .u8 0] 5)) (some ⟨wr.heap.size + 1, 0, none⟩) [.int .u8 0])
            go_wp2_with (first
              | (at_builtin; refine wpL_append E8 rfl rfl (own_below (B := 0) HO.out (bl_chain HW.out (bl_alloc _ _))) rfl (HR _ (by simp)) rfl rfl (by simp [Value.oneCell']) 1 (by8 (allP.take 1)) rfl rfl (by simp only [maxLen]; omega) (by omega) (by simp; omega) ?_; intro A2 c2 w2 hc2 ho2 ht2 _; have HO2 := Lib.hid ho2; have HB2 := Lib.hid (bl_tr (bl_chain HB3.out (bl_chain HW.out (bl_alloc _ _))) ht2 (fun x hx => own_ge HO.out x hx)); clear ho2 ht2))
            go_roundw
            case rel => exact ⟨1, A2, c2, by simp, rfl, HO2.out, HB2.out⟩
            case measure => simp [intOf]
          · have HW := Lib.hid (bl_alloc wr (.cells #[.int .i64 128, .int .i64 1] 30))
            have HR := fun (W : World) (hW : W.heap.size = wr.heap.size + 1) => (hW ▸ Rd.new1 W 5 (.int .u8 128) : Rd (W.alloc (.cells #[.int .u8 128] 5)) (some ⟨wr.heap.size + 1, 0, none⟩) [.int .u8 128])
            go_wp2_with (first
              | (at_builtin; refine wpL_append E8 rfl rfl (own_below (B := 0) HO.out (bl_chain HW.out (bl_alloc _ _))) rfl (HR _ (by simp)) rfl rfl (by simp [Value.oneCell']) 2 (by8 (allP.take 2)) rfl rfl (by simp only [maxLen]; omega) (by omega) (by simp; omega) ?_; intro A2 c2 w2 hc2 ho2 ht2 _; have HO2 := Lib.hid ho2; have HB2 := Lib.hid (bl_tr (bl_chain HB3.out (bl_chain HW.out (bl_alloc _ _))) ht2 (fun x hx => own_ge HO.out x hx)); clear ho2 ht2))
            go_roundw
            case rel => exact ⟨2, A2, c2, by simp, rfl, HO2.out, HB2.out⟩
            case measure => simp [intOf]
          · have HW := Lib.hid (bl_alloc wr (.cells #[.int .i64 131, .int .i64 2] 30))
            have HR := fun (W : World) (hW : W.heap.size = wr.heap.size + 1) => (hW ▸ Rd.new1 W 5 (.int .u8 131) : Rd (W.alloc (.cells #[.int .u8 131] 5)) (some ⟨wr.heap.size + 1, 0, none⟩) [.int .u8 131])
            go_wp2_with (first
              | (at_builtin; refine wpL_append E8 rfl rfl (own_below (B := 0) HO.out (bl_chain HW.out (bl_alloc _ _))) rfl (HR _ (by simp)) rfl rfl (by simp [Value.oneCell']) 3 (by8 (allP.take 3)) rfl rfl (by simp only [maxLen]; omega) (by omega) (by simp; omega) ?_; intro A2 c2 w2 hc2 ho2 ht2 _; have HO2 := Lib.hid ho2; have HB2 := Lib.hid (bl_tr (bl_chain HB3.out (bl_chain HW.out (bl_alloc _ _))) ht2 (fun x hx => own_ge HO.out x hx)); clear ho2 ht2))
            go_roundw
            case rel => exact ⟨3, A2, c2, by simp, rfl, HO2.out, HB2.out⟩
            case measure => simp [intOf]
          · have HS := fun (W : World) (hW : w.heap.size ≤ W.heap.size) => semi_lit4 W w.heap.size 0 0 0 3 hW
            have HR := Lib.hid (Rd.of_own HO.out)
            go_wp2_with (first
              | (at_builtin; refine wpL_append_semi rfl rfl (HS _ hz) rfl (l2 := [0, 128, 131]) (HR.out.below (bl_alloc _ _)) rfl rfl 7 pagesL rfl rfl (by omega) (by simp only [maxLen]; omega) (by omega) (by simp; omega) ?_; intro A2 c2 w2 hc2 ho2 ht2; have HO2 := Lib.hid ho2; have HB2 := Lib.hid (bl_tr (bl_chain HB3.out (bl_alloc _ _)) ht2 (fun x hx => hx)); clear ho2 ht2))
            go_ret2
            exact ⟨A2, c2, rfl, hc2, HO2.out, HB2.out⟩
      · have p0' : 0 ≠ page := fun h => p0 h.symm
        go_wp2_with fail
        go_roundw
        case rel => exact ⟨.inr (.inl ⟨rfl, p0⟩), HB.out.alloc HB.out.size _⟩
        case measure => simp [intOf]
    · by_cases p1 : page = 128
      · subst p1
        have HB0 := Lib.hid (bl_chain HB.out (bl_alloc wr (.cells #[.int .i64 128, .int .i64 1] 30)))
        go_wp2_with (first
          | (go_at_call 9; (with_reducible refine (snum_any lun _ h0 h1).mono ?_); rintro e w1 ⟨A1, c1, rfl, hc1, ho1, hb1⟩; have HR := Lib.hid (Rd.of_own ho1); have HB1 := Lib.hid (bl_chain HB0.out hb1); have HL := Lib.hid (show (serL lun).length = 11 from rfl); clear ho1 hb1)
          | (at_builtin; refine wpL_append_semi rfl rfl (semi_lit4 w1 w.heap.size 0 128 0 11 HB1.out.size) rfl (l2 := serL lun) (HR.out.below (bl_alloc _ _)) rfl HL.out 15 (serP lun) rfl rfl (by omega) (by simp only [maxLen]; omega) (by omega) (by have := HB1.out.size; simp; omega) ?_; intro A2 c2 w2 hc2 ho2 ht2; have HO2 := Lib.hid ho2; have HB2 := Lib.hid (bl_tr (bl_chain HB1.out (bl_alloc _ _)) ht2 (fun x hx => hx)); clear ho2 ht2))
        go_ret2
        exact ⟨A2, c2, rfl, hc2, HO2.out, HB2.out⟩
      · have p1' : 128 ≠ page := fun h => p1 h.symm
        go_wp2_with fail
        go_roundw
        case rel => exact ⟨.inr (.inr (.inl ⟨rfl, p0, p1⟩)), HB.out.alloc HB.out.size _⟩
        case measure => simp [intOf]
    · by_cases p2 : page = 131
      · subst p2
        have HB0 := Lib.hid (bl_chain HB.out (bl_alloc wr (.cells #[.int .i64 131, .int .i64 2] 30)))
        go_wp2_with (first
          | (go_at_call 9; (with_reducible refine (snum_any lun _ h0 h1).mono ?_); rintro e w1 ⟨A1, c1, rfl, hc1, ho1, hb1⟩; have HR := Lib.hid (Rd.of_own ho1); have HB1 := Lib.hid (bl_chain HB0.out hb1); have HL := Lib.hid (show (serL lun).length = 11 from rfl); have HL2 := Lib.hid (show (idsL lun).length = 15 from rfl); clear ho1 hb1)
          | (at_builtin; refine wpL_append_semi rfl rfl (semi_lit4 w1 w.heap.size 2 1 0 11 HB1.out.size) rfl (l2 := serL lun) (HR.out.below (bl_alloc _ _)) rfl HL.out 15 (idsL lun) rfl rfl (by omega) (by simp only [maxLen]; omega) (by omega) (by have := HB1.out.size; simp; omega) ?_; intro A2 c2 w2 hc2 ho2 ht2; have HR2 := Lib.hid (Rd.of_own ho2); have HB2 := Lib.hid (bl_tr (bl_chain HB1.out (bl_alloc _ _)) ht2 (fun x hx => hx)); clear ho2 ht2)
          | (at_builtin; refine wpL_append_semi rfl rfl (semi_lit4 w2 w.heap.size 0 131 0 15 HB2.out.size) rfl (l2 := idsL lun) (HR2.out.below (bl_alloc _ _)) rfl HL2.out 19 (idsP lun) rfl rfl (by omega) (by simp only [maxLen]; omega) (by omega) (by have := HB2.out.size; simp; omega) ?_; intro A3 c3 w3 hc3 ho3 ht3; have HO3 := Lib.hid ho3; have HB3 := Lib.hid (bl_tr (bl_chain HB2.out (bl_alloc _ _)) ht3 (fun x hx => hx)); clear ho3 ht3))
        go_ret2
        exact ⟨A3, c3, rfl, hc3, HO3.out, HB3.out⟩
      · have p2' : 131 ≠ page := fun h => p2 h.symm
        go_wp2_with fail
        go_roundw
        case rel => exact ⟨.inr (.inr (.inr ⟨rfl, p0, p1, p2⟩)), HB.out.alloc HB.out.size _⟩
        case measure => simp [intOf]
    · go_wp2_with fail
      go_ret2
      simp only [vN, vL, vE, p0, p1, p2, if_false]
      exact RetI.nil _ _ _ HB.out

end Go.Proofs.YtifhlkfdmnkhoaaDoor
