/- SenseInquiry: pages of vital data, by the program and by the reference. -/
import Derived.Test.YtifhlkfdmnkhoaaDoorInq2
namespace Go.Proofs.YtifhlkfdmnkhoaaDoor
set_option linter.unusedVariables false
open Go.RowKit

def pagesL : List Int := [0, 0, 0, 3, 0, 128, 131]
def serP (n : Int) : List Int := [0, 128, 0, 11] ++ serL n
def idsL (n : Int) : List Int := [2, 1, 0, 11] ++ serL n
def idsP (n : Int) : List Int := [0, 131, 0, 15] ++ idsL n

set_option maxHeartbeats 400000 in
theorem rinq_pages (lun : Int) (w : World) (h0 : 0 ≤ lun) (h1 : lun ≤ 255) : Calls Tryd.prog 5 #[.bool true, .int .i64 0, .int .i64 lun] w (RetI w 7 pagesL 0) := by
  have HR := Lib.hid (Rd.newN w 5 #[.int .u8 0, .int .u8 128, .int .u8 131])
  have HS := Lib.hid (semi_lit4 (w.alloc (.cells #[.int .u8 0, .int .u8 128, .int .u8 131] 5)) w.heap.size 0 0 0 3 (by simp))
  rw [show (w.alloc (.cells #[.int .u8 0, .int .u8 128, .int .u8 131] 5)).heap.size = w.heap.size + 1 from by simp] at HS
  go_enter Tryd.func5, Tryd.ntmps5
  go_wp2_with (first
    | (at_builtin; refine wpL_append_semi rfl rfl HS.out rfl (l2 := [0, 128, 131]) (HR.out.below (bl_alloc _ _)) rfl rfl 7 pagesL rfl rfl (by omega) (by simp only [maxLen]; omega) (by omega) (by simp; omega) ?_; intro A2 c2 w2 hc2 ho2 ht2; have HO2 := Lib.hid ho2; have HB2 := Lib.hid (bl_tr (bl_chain (bl_alloc w _) (bl_alloc _ _)) ht2 (fun x hx => hx)); clear ho2 ht2))
  go_ret2
  exact ⟨A2, c2, rfl, hc2, HO2.out, HB2.out⟩

set_option maxHeartbeats 400000 in
theorem rinq_none (page lun : Int) (w : World) (h0 : 0 ≤ lun) (h1 : lun ≤ 255) (p0 : page ≠ 0) (p1 : page ≠ 128) (p2 : page ≠ 131) : Calls Tryd.prog 5 #[.bool true, .int .i64 page, .int .i64 lun] w (RetI w 0 [] 11) := by
  go_enter Tryd.func5, Tryd.ntmps5
  go_wp2_with fail
  go_ret2
  exact RetI.nil _ _ _ (Below.refl _ _)

set_option maxHeartbeats 400000 in
theorem rinq_ser (lun : Int) (w : World) (h0 : 0 ≤ lun) (h1 : lun ≤ 255) : Calls Tryd.prog 5 #[.bool true, .int .i64 128, .int .i64 lun] w (RetI w 15 (serP lun) 0) := by
  go_enter Tryd.func5, Tryd.ntmps5
  go_wp2_with (first
    | (go_at_call 10; (with_reducible refine (rser_any lun _ h0 h1).mono ?_); rintro e w1 ⟨A1, c1, rfl, hc1, ho1, hb1⟩; have HR := Lib.hid (Rd.of_own ho1); have HB1 := Lib.hid hb1; have HL := Lib.hid (show (serL lun).length = 11 from rfl); clear ho1 hb1)
    | (at_builtin; refine wpL_append_semi rfl rfl (semi_lit4 w1 w.heap.size 0 128 0 11 HB1.out.size) rfl (l2 := serL lun) (HR.out.below (bl_alloc _ _)) rfl HL.out 15 (serP lun) rfl rfl (by omega) (by simp only [maxLen]; omega) (by omega) (by have := HB1.out.size; simp; omega) ?_; intro A2 c2 w2 hc2 ho2 ht2; have HO2 := Lib.hid ho2; have HB2 := Lib.hid (bl_tr (bl_chain HB1.out (bl_alloc _ _)) ht2 (fun x hx => hx)); clear ho2 ht2))
  go_ret2
  exact ⟨A2, c2, rfl, hc2, HO2.out, HB2.out⟩

set_option maxHeartbeats 400000 in
theorem rinq_ids (lun : Int) (w : World) (h0 : 0 ≤ lun) (h1 : lun ≤ 255) : Calls Tryd.prog 5 #[.bool true, .int .i64 131, .int .i64 lun] w (RetI w 19 (idsP lun) 0) := by
  go_enter Tryd.func5, Tryd.ntmps5
  go_wp2_with (first
    | (go_at_call 10; (with_reducible refine (rser_any lun _ h0 h1).mono ?_); rintro e w1 ⟨A1, c1, rfl, hc1, ho1, hb1⟩; have HR := Lib.hid (Rd.of_own ho1); have HB1 := Lib.hid hb1; have HL := Lib.hid (show (serL lun).length = 11 from rfl); have HL2 := Lib.hid (show (idsL lun).length = 15 from rfl); clear ho1 hb1)
    | (at_builtin; refine wpL_append_semi rfl rfl (semi_lit4 w1 w.heap.size 2 1 0 11 HB1.out.size) rfl (l2 := serL lun) (HR.out.below (bl_alloc _ _)) rfl HL.out 15 (idsL lun) rfl rfl (by omega) (by simp only [maxLen]; omega) (by omega) (by have := HB1.out.size; simp; omega) ?_; intro A2 c2 w2 hc2 ho2 ht2; have HR2 := Lib.hid (Rd.of_own ho2); have HB2 := Lib.hid (bl_tr (bl_chain HB1.out (bl_alloc _ _)) ht2 (fun x hx => hx)); clear ho2 ht2)
    | (at_builtin; refine wpL_append_semi rfl rfl (semi_lit4 w2 w.heap.size 0 131 0 15 HB2.out.size) rfl (l2 := idsL lun) (HR2.out.below (bl_alloc _ _)) rfl HL2.out 19 (idsP lun) rfl rfl (by omega) (by simp only [maxLen]; omega) (by omega) (by have := HB2.out.size; simp; omega) ?_; intro A3 c3 w3 hc3 ho3 ht3; have HO3 := Lib.hid ho3; have HB3 := Lib.hid (bl_tr (bl_chain HB2.out (bl_alloc _ _)) ht3 (fun x hx => hx)); clear ho3 ht3))
  go_ret2
  exact ⟨A3, c3, rfl, hc3, HO3.out, HB3.out⟩

theorem k0 (w : World) : (Instr.index 31 (.agg kindsV) (.int .i64 0)).run Tryd.prog w = .ok (.agg #[.int .i64 0, .int .i64 0]) w := by unfold kindsV; kernel_rfl
theorem k1 (w : World) : (Instr.index 31 (.agg kindsV) (.int .i64 1)).run Tryd.prog w = .ok (.agg #[.int .i64 128, .int .i64 1]) w := by unfold kindsV; kernel_rfl
theorem k2 (w : World) : (Instr.index 31 (.agg kindsV) (.int .i64 2)).run Tryd.prog w = .ok (.agg #[.int .i64 131, .int .i64 2]) w := by unfold kindsV; kernel_rfl
theorem loadKinds : (Tryd.prog.info? 31).map (·.size) = some kindsV.size := by kernel_rfl

def vN (page : Int) : Nat := if page = 0 then 7 else if page = 128 then 15 else if page = 131 then 19 else 0
def vL (page lun : Int) : List Int := if page = 0 then pagesL else if page = 128 then serP lun else if page = 131 then idsP lun else []
def vE (page : Int) : Int := if page = 0 then 0 else if page = 128 then 0 else if page = 131 then 0 else 11
theorem rinq_vital (page lun : Int) (w : World) (h0 : 0 ≤ lun) (h1 : lun ≤ 255) : Calls Tryd.prog 5 #[.bool true, .int .i64 page, .int .i64 lun] w (RetI w (vN page) (vL page lun) (vE page)) := by
  by_cases p0 : page = 0
  · subst p0; exact rinq_pages lun w h0 h1
  by_cases p1 : page = 128
  · subst p1; exact rinq_ser lun w h0 h1
  by_cases p2 : page = 131
  · subst p2; exact rinq_ids lun w h0 h1
  simp only [vN, vL, vE, p0, p1, p2, if_false]
  exact rinq_none page lun w h0 h1 p0 p1 p2

end Go.Proofs.YtifhlkfdmnkhoaaDoor
