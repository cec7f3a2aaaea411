/- Contracts of sense: Holder of both. -/
import Derived.Test.YtifhlkfdmnkhoaaSense7
namespace Go.Proofs.Ytifhlkfdmnkhoaa
set_option linter.unusedVariables false
open Go.RowKit

def okH (g k : Int) : Prop := (0 ≤ g ∧ g < 4294967296) ∧ 0 ≤ k ∧ k ≤ 8
instance (g k : Int) : Decidable (okH g k) := by unfold okH; infer_instance
def holdM (g x k : Int) : List Int := wds [g, 16] ++ be 8 x ++ [0, 0, 0, 0, 0, k, 0, 0]
def holdL (g x k : Int) : List Int := if okH g k then (if k = 0 then wds [g, 0] else holdM g x k) else []
def holdE (g k : Int) : Int := if okH g k then 0 else 1
theorem hold_wds (g x k : Int) (h0 : 0 ≤ x) (hk : 0 ≤ k) (hk8 : k ≤ 8) : wds [g, 16, x / 4294967296, x % 4294967296, 0, k * 65536] = holdM g x k := by
  have e := be8_split x h0
  simp only [wds, List.flatMap_cons, List.flatMap_nil, List.append_nil] at e
  have e3 : be 4 (k * 65536) = [0, k, 0, 0] := by simp [be]; omega
  have e4 : be 4 0 = [0, 0, 0, 0] := by rfl
  simp only [holdM, wds, List.flatMap_cons, List.flatMap_nil, List.append_nil, e3, e4, ← e, List.append_assoc]
  rfl

set_option maxHeartbeats 400000 in
theorem holder_ok (g x k : Int) (w : World) (hx0 : 0 ≤ x) (hx1 : x < 18446744073709551616) (h0 : 0 ≤ g) (h1 : g < 4294967296) (hk : 1 ≤ k) (hk8 : k ≤ 8) :
    Calls Try.prog 24 #[.int .i64 g, .int .u64 x, .int .i64 k] w (Ret8 w (holdM g x k) 0) := by
  have M1 : Hid (∀ m ∈ [g, 16, x / 4294967296, x % 4294967296, 0, k * 65536], 0 ≤ m ∧ m < 4294967296) := Lib.hid (by simp; omega)
  have M2 : Hid (([g, 16, x / 4294967296, x % 4294967296, 0, k * 65536]).length = 6) := Lib.hid (by rfl)
  have M3 : Hid ((holdM g x k).length = 24) := Lib.hid (by simp [holdM, be_length, wds_length])
  have M4 := Lib.hid (hold_wds g x k hx0 (by omega) hk8)
  have hmk := mask32 x hx0 hx1
  have hw1 : wrap64 (x % 4294967296) = x % 4294967296 := by unfold wrap64; omega
  go_enter Try.func24, Try.ntmps24
  go_wp2_with (first
    | (go_at_call 34; (with_reducible refine (in_yes k 8 _ (by omega)).mono ?_); rintro e w1 ⟨rfl, rfl⟩)
    | (go_at_call 32; (with_reducible refine (words_n _ _ 6 [g, 16, x / 4294967296, x % 4294967296, 0, k * 65536] _ (Rd.newN w _ #[.int .i64 g, .int .i64 16, .int .i64 (x / 4294967296), .int .i64 (x % 4294967296), .int .i64 0, .int .i64 (k * 65536)]) M2.out (by omega) M1.out 24 (by omega)).mono ?_); rintro e w3 ⟨A3, c3, rfl, hc3, ho3, hb3⟩; rw [M4.out] at ho3; have HR3 := Lib.hid ho3; have HB3 := Lib.hid (bl_chain (bl_alloc w _) hb3); clear ho3 hb3))
  go_ret2
  exact ⟨A3, c3, by rw [M3.out]; rfl, by rw [M3.out]; exact hc3, by rw [M3.out]; exact ownsRow_base HR3.out (by simp), HB3.out⟩

set_option maxHeartbeats 400000 in
theorem holder_zero (g x : Int) (w : World) (h0 : 0 ≤ g) (h1 : g < 4294967296) :
    Calls Try.prog 24 #[.int .i64 g, .int .u64 x, .int .i64 0] w (Ret8 w (wds [g, 0]) 0) := by
  have M1 : Hid (∀ m ∈ [g, 0], 0 ≤ m ∧ m < 4294967296) := Lib.hid (by simp; omega)
  have M2 : Hid (([g, 0]).length = 2) := Lib.hid (by rfl)
  have M3 : Hid ((wds [g, 0]).length = 8) := Lib.hid (by rfl)
  go_enter Try.func24, Try.ntmps24
  go_wp2_with (first
    | (go_at_call 34; (with_reducible refine (in_yes 0 8 _ (by omega)).mono ?_); rintro e w1 ⟨rfl, rfl⟩)
    | (go_at_call 32; (with_reducible refine (words_n _ _ 2 [g, 0] _ (Rd.newN w _ #[.int .i64 g, .int .i64 0]) M2.out (by omega) M1.out 8 (by omega)).mono ?_); rintro e w3 ⟨A3, c3, rfl, hc3, ho3, hb3⟩; have HR3 := Lib.hid ho3; have HB3 := Lib.hid (bl_chain (bl_alloc w _) hb3); clear ho3 hb3))
  go_ret2
  exact ⟨A3, c3, by rw [M3.out]; rfl, by rw [M3.out]; exact hc3, by rw [M3.out]; exact ownsRow_base HR3.out (by simp), HB3.out⟩

set_option maxHeartbeats 400000 in
theorem holder_any (g x k : Int) (w : World) (hx0 : 0 ≤ x) (hx1 : x < 18446744073709551616) :
    Calls Try.prog 24 #[.int .i64 g, .int .u64 x, .int .i64 k] w (Ret8 w (holdL g x k) (holdE g k)) := by
  by_cases h : okH g k
  · by_cases hk : k = 0
    · rw [show holdL g x k = _ from (if_pos h).trans (if_pos hk), show holdE g k = _ from if_pos h]
      subst hk
      exact holder_zero g x w h.1.1 h.1.2
    · rw [show holdL g x k = _ from (if_pos h).trans (if_neg hk), show holdE g k = _ from if_pos h]
      exact holder_ok g x k w hx0 hx1 h.1.1 h.1.2 (by have := h.2; omega) h.2.2
  · rw [show holdL g x k = _ from if_neg h, show holdE g k = _ from if_neg h]
    by_cases h1 : g < 0
    · clear h
      go_enter Try.func24, Try.ntmps24
      go_wp2_with fail
      go_ret2
      exact Ret8.nil _ _
    · by_cases h2 : 4294967295 < g
      · clear h
        go_enter Try.func24, Try.ntmps24
        go_wp2_with fail
        go_ret2
        exact Ret8.nil _ _
      · have hk : ¬ (0 ≤ k ∧ k ≤ 8) := fun hk => h ⟨⟨by omega, by omega⟩, hk⟩
        have HK := Lib.hid hk
        clear h hk
        go_enter Try.func24, Try.ntmps24
        go_wp2_with (first | (go_at_call 34; (with_reducible refine (in_no k 8 _ HK.out).mono ?_); rintro e w1 ⟨rfl, rfl⟩))
        go_ret2
        exact Ret8.nil _ _

set_option maxHeartbeats 400000 in
theorem rholder_zero (g x : Int) (w : World) (h0 : 0 ≤ g) (h1 : g < 4294967296) :
    Calls Try.prog 25 #[.int .i64 g, .int .u64 x, .int .i64 0] w (Ret8 w (wds [g, 0]) 0) := by
  have hmk8 := run_make8 8 8 rfl (by omega)
  have HRP := Lib.hid (Rd.zeros w 8 5)
  have E1 : Hid ((List.replicate 8 (0 : Int)).take 0 ++ be 4 g ++ (List.replicate 8 0).drop (0 + 4) = wds [g, 0]) := Lib.hid (by rfl)
  have L1 : Hid ((List.replicate 8 (0 : Int)).length = 8) := Lib.hid (by rfl)
  have M3 : Hid ((wds [g, 0]).length = 8) := Lib.hid (by rfl)
  go_enter Try.func25, Try.ntmps25
  go_wp2_with (first
    | (go_at_call 36; (with_reducible refine (gen_yes g _ h0 h1).mono ?_); rintro e w1 ⟨rfl, rfl⟩)
    | (go_at_call 33; (with_reducible refine (at_4 _ _ 0 0 8 (by omega) (List.replicate 8 0) g _ HRP.out L1.out (by omega) (by omega) (by omega) (by omega) _ E1.out).mono ?_); rintro e w1 ⟨A0, c0, rfl, hc0, ho0, hb0⟩; have HO0 := Lib.hid ho0; have HB0 := Lib.hid (bl_chain (bl_alloc w _) hb0); clear ho0 hb0))
  go_ret2
  exact ⟨A0, c0, by rw [M3.out]; rfl, by rw [M3.out]; exact hc0, by rw [M3.out]; exact ownsRow_base HO0.out (by simp), HB0.out⟩

theorem u64_round' (x : Int) (h0 : 0 ≤ x) (h1 : x < 18446744073709551616) : IntKind.u64.wrap (wrap64 x) = x := by
  have e : IntKind.u64.wrap (wrap64 x) = (wrap64 x) % 18446744073709551616 := by rfl
  rw [e]
  unfold wrap64
  omega

set_option maxHeartbeats 800000 in
theorem rholder_ok (g x k : Int) (w : World) (hx0 : 0 ≤ x) (hx1 : x < 18446744073709551616) (h0 : 0 ≤ g) (h1 : g < 4294967296) (hk : 1 ≤ k) (hk8 : k ≤ 8) :
    Calls Try.prog 25 #[.int .i64 g, .int .u64 x, .int .i64 k] w (Ret8 w (holdM g x k) 0) := by
  have hmk8 := run_make8 8 8 rfl (by omega)
  have HRP := Lib.hid (Rd.zeros w 8 5)
  have E1 : Hid ((List.replicate 8 (0 : Int)).take 0 ++ be 4 g ++ (List.replicate 8 0).drop (0 + 4) = be 4 g ++ [0, 0, 0, 0]) := Lib.hid (by rfl)
  have E2 : Hid ((be 4 g ++ [0, 0, 0, 0]).take 4 ++ be 4 16 ++ (be 4 g ++ [0, 0, 0, 0]).drop (4 + 4) = wds [g, 16]) := Lib.hid (by rfl)
  have E3 : Hid ((List.replicate 8 (0 : Int)).take 0 ++ be 8 x ++ (List.replicate 8 0).drop (0 + 8) = be 8 x) := Lib.hid (by simp)
  have L1 : Hid ((List.replicate 8 (0 : Int)).length = 8) := Lib.hid (by rfl)
  have L2 : Hid ((be 4 g ++ [0, 0, 0, 0]).length = 8) := Lib.hid (by rfl)
  have M3 : Hid ((holdM g x k).length = 24) := Lib.hid (by simp [holdM, be_length, wds_length])
  have M5 : Hid ((by8 (be 8 x)).length = 8 * 1) := Lib.hid (by rw [by8_length, be_length])
  have M6 : Hid (by8 (wds [g, 16]) ++ by8 (be 8 x) = by8 (wds [g, 16] ++ be 8 x)) := Lib.hid (by rw [by8_append])
  have M7 : Hid (by8 (wds [g, 16] ++ be 8 x) ++ by8 [0, 0, 0, 0, 0, k, 0, 0] = by8 (holdM g x k)) := Lib.hid (by rw [← by8_append]; rfl)
  have M8 : Hid ((by8 [0, 0, 0, 0, 0, k, 0, 0]).length = 8 * 1) := Lib.hid (by rfl)
  have U1 : Hid (IntKind.u64.wrap (IntKind.i64.wrap x) = x) := Lib.hid (u64_round x hx0 hx1)
  have U2 : Hid (IntKind.u64.wrap (wrap64 x) = x) := Lib.hid (u64_round' x hx0 hx1)
  go_enter Try.func25, Try.ntmps25
  go_wp2_with (first
    | (go_at_call 36; (with_reducible refine (gen_yes g _ h0 h1).mono ?_); rintro e w1 ⟨rfl, rfl⟩)
    | (go_at_call 33; (with_reducible refine (at_4 _ _ 0 0 8 (by omega) (List.replicate 8 0) g _ HRP.out L1.out (by omega) (by omega) (by omega) (by omega) _ E1.out).mono ?_); rintro e w1 ⟨A0, c0, rfl, hc0, ho0, hb0⟩; have HO0 := Lib.hid ho0; have HB0 := Lib.hid (bl_chain (bl_alloc w _) hb0); clear ho0 hb0)
    | (go_at_call 33; (with_reducible refine (at_4 A0 c0 4 4 8 (by omega) (be 4 g ++ [0, 0, 0, 0]) 16 _ (Rd.of_own HO0.out) L2.out (by omega) (by omega) (by omega) (by omega) _ E2.out).mono ?_); rintro e w2 ⟨A1, c1, rfl, hc1, ho1, hb1⟩; have HO1 := Lib.hid (ownsRow_base (base' := w.heap.size) ho1 HB0.out.size); have HB1 := Lib.hid (bl_chain HB0.out hb1); have HRQ := Lib.hid (Rd.zeros w2 8 5); clear ho1 hb1)
    | (go_at_call 33; (with_reducible refine (at_8 _ _ 0 0 8 (by omega) (List.replicate 8 0) _ x _ HRQ.out L1.out (by omega) (by omega) U2.out (by omega) (by omega) _ E3.out).mono ?_); rintro e w3 ⟨A3, c3, rfl, hc3, ho3, hb3⟩; have HR3 := Lib.hid (Rd.of_own ho3); have HB3 := Lib.hid (bl_chain (bl_alloc w2 _) hb3); clear ho3 hb3)
    | (at_builtin; refine wpL_append E8 rfl rfl (own_below (B := 0) HO1.out HB3.out) rfl HR3.out rfl M5.out (by8_one _) 16 _ (by omega) M6.out (by simp only [maxLen]; omega) (by omega) (by have := HB3.out.size; have := HB1.out.size; omega) ?_; intro A4 c4 w4 hc4 ho4 ht4 _; have HO4 := Lib.hid ho4; have HB4 := Lib.hid (bl_tr (bl_chain HB1.out HB3.out) ht4 (fun x hx => own_ge HO1.out x hx)); clear ho4 ht4)
    | (at_builtin; refine wpL_append E8 rfl rfl (HO4.out.alloc _) rfl (Rd.newAt w4 _ _ (by8 [0, 0, 0, 0, 0, k, 0, 0]) #[.int .u8 0, .int .u8 0, .int .u8 0, .int .u8 0, .int .u8 0, .int .u8 k, .int .u8 0, .int .u8 0] 0 rfl rfl) rfl M8.out (by8_one _) 24 _ (by omega) M7.out (by simp only [maxLen]; omega) (by omega) (by have := HB4.out.size; simp; omega) ?_; intro A5 c5 w5 hc5 ho5 ht5 _; have HO5 := Lib.hid ho5; have HB5 := Lib.hid (bl_tr (bl_chain HB4.out (bl_alloc w4 _)) ht5 (fun x hx => own_ge HO4.out x hx)); clear ho5 ht5))
  go_ret2
  exact ⟨A5, c5, by rw [M3.out]; rfl, by rw [M3.out]; exact hc5, by rw [M3.out]; exact HO5.out, HB5.out⟩

set_option maxHeartbeats 400000 in
theorem rholder_any (g x k : Int) (w : World) (hx0 : 0 ≤ x) (hx1 : x < 18446744073709551616) :
    Calls Try.prog 25 #[.int .i64 g, .int .u64 x, .int .i64 k] w (Ret8 w (holdL g x k) (holdE g k)) := by
  by_cases h : okH g k
  · by_cases hk : k = 0
    · rw [show holdL g x k = _ from (if_pos h).trans (if_pos hk), show holdE g k = _ from if_pos h]
      subst hk
      exact rholder_zero g x w h.1.1 h.1.2
    · rw [show holdL g x k = _ from (if_pos h).trans (if_neg hk), show holdE g k = _ from if_pos h]
      exact rholder_ok g x k w hx0 hx1 h.1.1 h.1.2 (by have := h.2; omega) h.2.2
  · rw [show holdL g x k = _ from if_neg h, show holdE g k = _ from if_neg h]
    by_cases h1 : 0 ≤ g ∧ g < 4294967296
    · have hk : k < 0 ∨ 8 < k := by
        have : ¬ (0 ≤ k ∧ k ≤ 8) := fun hk => h ⟨h1, hk⟩
        omega
      have H1 := Lib.hid h1
      clear h h1
      rcases hk with hk | hk
      all_goals
        go_enter Try.func25, Try.ntmps25
        go_wp2_with (first | (go_at_call 36; (with_reducible refine (gen_yes g _ H1.out.1 H1.out.2).mono ?_); rintro e w1 ⟨rfl, rfl⟩))
        go_ret2
        exact Ret8.nil _ _
    · have H1 := Lib.hid h1
      clear h h1
      go_enter Try.func25, Try.ntmps25
      go_wp2_with (first | (go_at_call 36; (with_reducible refine (gen_no g _ H1.out).mono ?_); rintro e w1 ⟨rfl, rfl⟩))
      go_ret2
      exact Ret8.nil _ _

end Go.Proofs.Ytifhlkfdmnkhoaa
