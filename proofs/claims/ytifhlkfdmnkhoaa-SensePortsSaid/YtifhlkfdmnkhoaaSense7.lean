/- Contracts of sense: Keys and Holder of both. -/
import Derived.Test.YtifhlkfdmnkhoaaSense6
namespace Go.Proofs.Ytifhlkfdmnkhoaa
set_option linter.unusedVariables false
open Go.RowKit

def u64s (l : List Int) : List Value := l.map (Value.int .u64)
def isU (l : List Int) : Prop := ∀ x ∈ l, 0 ≤ x ∧ x < 18446744073709551616
theorem be8_split (k : Int) (h0 : 0 ≤ k) : wds [k / 4294967296, k % 4294967296] = be 8 k := by
  have e : be 8 k = be 4 (k / 4294967296) ++ be 4 k := by simp [be]; omega
  have e2 : be 4 (k % 4294967296) = be 4 k := by simp [be]; omega
  simp only [wds, List.flatMap_cons, List.flatMap_nil, List.append_nil, e2, e]

theorem mask32 (x : Int) (h0 : 0 ≤ x) (h1 : x < 18446744073709551616) : bits .and .u64 x 4294967295 = x % 4294967296 := by
  rw [u64_and x 4294967295 h0 h1 (by decide) (by decide)]
  have e : x.toNat &&& 4294967295 = x.toNat % 4294967296 := Nat.and_two_pow_sub_one_eq_mod x.toNat 32
  show ((x.toNat &&& 4294967295 : Nat) : Int) = _
  rw [e]
  omega

def keysL (g : Int) (ks : List Int) : List Int := if 0 ≤ g ∧ g < 4294967296 then (if ks.length ≤ 16 then wds [g, 8 * (ks.length : Int)] ++ ks.flatMap (be 8) else []) else []
def keysE (g : Int) (ks : List Int) : Int := if 0 ≤ g ∧ g < 4294967296 then (if ks.length ≤ 16 then 0 else 3) else 1
theorem keys_length (ks : List Int) : (ks.flatMap (be 8)).length = 8 * ks.length := by
  induction ks with
  | nil => rfl
  | cons k ks ih => simp [be_length, ih]; omega
theorem keys_snoc (ks : List Int) (k : Nat) (h : k < ks.length) : (ks.take (k + 1)).flatMap (be 8) = (ks.take k).flatMap (be 8) ++ be 8 ks[k] := by
  rw [List.take_succ_eq_append_getElem h, List.flatMap_append]; simp
theorem keys_take_length (ks : List Int) (k : Nat) (h : k ≤ ks.length) : ((ks.take k).flatMap (be 8)).length = 8 * k := by
  rw [keys_length, List.length_take]; omega

set_option maxHeartbeats 400000 in
theorem keys_ok (A : Option Addr) (c : Nat) (g : Int) (ks : List Int) (w : World) (hr : Rd w A (u64s ks)) (hU : isU ks) (h0 : 0 ≤ g) (h1 : g < 4294967296) (hn : ks.length ≤ 16) :
    Calls Try.prog 22 #[.int .i64 g, .slice A ks.length c] w (Ret8 w (wds [g, 8 * (ks.length : Int)] ++ ks.flatMap (be 8)) 0) := by
  have HR := Lib.hid hr
  have HU := Lib.hid hU
  have L0 : Hid ((wds [g, 8 * (ks.length : Int)]).length = 8) := Lib.hid (by rfl)
  have L1 : Hid (∀ m ∈ [g, 8 * (ks.length : Int)], 0 ≤ m ∧ m < 4294967296) := Lib.hid (by simp; omega)
  have L2 : Hid (([g, 8 * (ks.length : Int)]).length = 2) := Lib.hid (by rfl)
  clear hr hU
  go_enter Try.func22, Try.ntmps22
  go_wp2_with (first | (go_at_call 32; (with_reducible refine (words_n _ _ 2 [g, 8 * (ks.length : Int)] _ (Rd.newN w _ #[.int .i64 g, .int .i64 (8 * (ks.length : Int))]) L2.out (by omega) L1.out 8 (by omega)).mono ?_); rintro e w1 ⟨A1, c1, rfl, hc1, ho1, hb1⟩; have HO1 := Lib.hid ho1; have HB1 := Lib.hid hb1; clear ho1 hb1))
  have hb01 : Below w.heap.size w w1 := bl_chain (bl_alloc w _) HB1.out
  have hz1 := HB1.out.size
  simp at hz1
  have HB01 := Lib.hid hb01
  clear hb01
  go_loopw [6, 8, 28] (fun u _ v w2 => ∃ (k : Nat) (A' : Option Addr) (c' : Nat), k ≤ ks.length ∧ v = .int .i64 k ∧ u = .slice A' (8 + 8 * k) c' ∧ 8 + 8 * k ≤ c' ∧ w2.ownsRow w.heap.size 5 1 (.slice A' (8 + 8 * k) c') (8 + 8 * k) (by8 (wds [g, 8 * (ks.length : Int)] ++ (ks.take k).flatMap (be 8))) ∧ Below w.heap.size w w2) (fun _ _ v _ => ks.length - (intOf v).toNat)
  case atStart => exact ⟨0, A1, c1, by omega, rfl, rfl, hc1, by simpa using ownsRow_base HO1.out (by simp), HB01.out⟩
  case round =>
    obtain ⟨k, A2, c2, hk, rfl, rfl, hc2, ho2, hb2⟩ := hrel
    have HO2 := Lib.hid ho2
    have HB2 := Lib.hid hb2
    clear ho2 hb2
    have hz := HB2.out.size
    by_cases hlt : k < ks.length
    · obtain ⟨ad, rfl, _, hcell⟩ := (HR.out.below HB2.out).at_ (k := k) (by simp [u64s]; exact hlt)
      simp only [u64s, List.getElem_map] at hcell
      obtain ⟨x, hx⟩ : ∃ x, ks[k] = x := ⟨_, rfl⟩
      have hxb : 0 ≤ x ∧ x < 18446744073709551616 := hx ▸ HU.out _ (List.getElem_mem hlt)
      rw [hx] at hcell
      have HX := Lib.hid hx
      clear hx
      have M1 : Hid (∀ m ∈ [x / 4294967296, x % 4294967296], 0 ≤ m ∧ m < 4294967296) := Lib.hid (by simp; omega)
      have M2 : Hid (([x / 4294967296, x % 4294967296]).length = 2) := Lib.hid (by rfl)
      have M3 : Hid ((by8 (be 8 x)).length = 8 * 1) := Lib.hid (by rw [by8_length, be_length])
      have M4 : Hid (by8 (wds [g, 8 * (ks.length : Int)] ++ (ks.take k).flatMap (be 8)) ++ by8 (be 8 x) = by8 (wds [g, 8 * (ks.length : Int)] ++ (ks.take (k + 1)).flatMap (be 8))) := Lib.hid (by rw [keys_snoc ks k hlt, HX.out, ← by8_append, List.append_assoc])
      have hmk := mask32 x hxb.1 hxb.2
      have hw1 : wrap64 (x % 4294967296) = x % 4294967296 := by unfold wrap64; omega
      go_wp2_with (first
        | (go_at_call 32; (with_reducible refine (words_n _ _ 2 [x / 4294967296, x % 4294967296] _ (Rd.newN wr _ #[.int .i64 (x / 4294967296), .int .i64 (x % 4294967296)]) M2.out (by omega) M1.out 8 (by omega)).mono ?_); rintro e w3 ⟨A3, c3, rfl, hc3, ho3, hb3⟩; rw [be8_split x hxb.1] at ho3; have HR3 := Lib.hid (Rd.of_own ho3); have HB3 := Lib.hid (bl_chain (bl_alloc wr _) hb3); clear ho3 hb3)
        | (at_builtin; refine wpL_append E8 rfl rfl (own_below (B := 0) HO2.out HB3.out) rfl HR3.out rfl M3.out (by8_one _) (8 + 8 * (k + 1)) _ (by omega) M4.out (by simp only [maxLen]; omega) (by omega) (by have := HB3.out.size; omega) ?_; intro A4 c4 w4 hc4 ho4 ht4 _; have HO4 := Lib.hid ho4; have HB4 := Lib.hid (bl_tr (bl_chain HB2.out HB3.out) ht4 (fun x hx => own_ge HO2.out x hx)); clear ho4 ht4))
      go_roundw
      case rel => exact ⟨k + 1, A4, c4, by omega, by go_num, rfl, hc4, HO4.out, HB4.out⟩
      case measure => simp [intOf]; omega
    · have hk' : k = ks.length := by omega
      subst hk'
      rw [List.take_length] at HO2
      go_wp2_with fail
      go_ret2
      have hlen : (wds [g, 8 * (ks.length : Int)] ++ ks.flatMap (be 8)).length = 8 + 8 * ks.length := by rw [List.length_append, keys_length]; rfl
      exact ⟨A2, c2, by rw [hlen]; rfl, by omega, by rw [hlen]; exact HO2.out, HB2.out⟩

set_option maxHeartbeats 400000 in
theorem keys_any (A : Option Addr) (c : Nat) (g : Int) (ks : List Int) (w : World) (hr : Rd w A (u64s ks)) (hU : isU ks) (hc : ks.length ≤ 17592186044416) :
    Calls Try.prog 22 #[.int .i64 g, .slice A ks.length c] w (Ret8 w (keysL g ks) (keysE g ks)) := by
  by_cases hg : 0 ≤ g ∧ g < 4294967296
  · by_cases hk : ks.length ≤ 16
    · rw [show keysL g ks = _ from (if_pos hg).trans (if_pos hk), show keysE g ks = _ from (if_pos hg).trans (if_pos hk)]
      exact keys_ok A c g ks w hr hU hg.1 hg.2 hk
    · rw [show keysL g ks = _ from (if_pos hg).trans (if_neg hk), show keysE g ks = _ from (if_pos hg).trans (if_neg hk)]
      have hk2 : (16 : Int) < ks.length := by omega
      obtain ⟨hg1, hg2⟩ := hg
      clear hr hU hk
      go_enter Try.func22, Try.ntmps22
      go_wp2_with fail
      go_ret2
      exact Ret8.nil _ _
  · rw [show keysL g ks = _ from if_neg hg, show keysE g ks = _ from if_neg hg]
    by_cases h1 : g < 0
    · clear hg hr hU
      go_enter Try.func22, Try.ntmps22
      go_wp2_with fail
      go_ret2
      exact Ret8.nil _ _
    · have h2 : 4294967295 < g := by omega
      clear hg hr hU
      go_enter Try.func22, Try.ntmps22
      go_wp2_with fail
      go_ret2
      exact Ret8.nil _ _

theorem at_8 (A : Option Addr) (c : Nat) (a : Int) (at_ n : Nat) (ha : a = at_) (l : List Int) (y x : Int) (w : World) (hr : Rd w A (by8 l)) (hln : l.length = n) (hl : n ≤ 140737488351232) (hat : at_ + 8 ≤ n) (hx : IntKind.u64.wrap y = x) (h0 : 0 ≤ x) (h1 : x < 18446744073709551616) (l' : List Int) (hl' : l.take at_ ++ be 8 x ++ l.drop (at_ + 8) = l') :
    Calls Try.prog 33 #[.slice A n c, .int .i64 a, .int .i64 8, .int .i64 y] w fun e w' => ∃ A' c', e = .returned (.slice A' n c') ∧ n ≤ c' ∧
      w'.ownsRow w.heap.size 5 1 (.slice A' n c') n (by8 l') ∧ Below w.heap.size w w' := by
  subst hl'
  subst hln
  subst ha
  have HR := Lib.hid hr
  clear hr
  go_enter Try.func33, Try.ntmps33
  go_wp2_with (first | (go_at_call 43; (with_reducible refine (put02_8 A c at_ l x _ HR.out hl hat h0 h1).mono ?_); rintro e w1 ⟨A1, c1, rfl, hc1, ho1, hb1⟩; have HO1 := Lib.hid ho1; have HB1 := Lib.hid hb1; clear ho1 hb1))
  go_ret
  exact ⟨A1, c1, rfl, hc1, HO1.out, HB1.out⟩

theorem gen_yes (g : Int) (w : World) (h0 : 0 ≤ g) (h1 : g < 4294967296) : Calls Try.prog 36 #[.int .i64 g] w fun e w' => e = .returned (.bool true) ∧ w = w' := by
  go_enter Try.func36, Try.ntmps36
  go_wp2_with fail
  go_ret
  exact ⟨rfl, rfl⟩
theorem gen_no (g : Int) (w : World) (h : ¬ (0 ≤ g ∧ g < 4294967296)) : Calls Try.prog 36 #[.int .i64 g] w fun e w' => e = .returned (.bool false) ∧ w = w' := by
  by_cases h1 : g < 0
  · have h2 : decide (0 ≤ g) = false := by simp; omega
    clear h
    go_enter Try.func36, Try.ntmps36
    go_wp2_with fail
    go_ret
    exact ⟨rfl, rfl⟩
  · have h2 : decide (g < 4294967296) = false := by simp; omega
    have h3 : 0 ≤ g := by omega
    clear h
    go_enter Try.func36, Try.ntmps36
    go_wp2_with fail
    go_ret
    exact ⟨rfl, rfl⟩

theorem u64_round (x : Int) (h0 : 0 ≤ x) (h1 : x < 18446744073709551616) : IntKind.u64.wrap (IntKind.i64.wrap x) = x := by
  have e : IntKind.u64.wrap (IntKind.i64.wrap x) = (IntKind.i64.wrap x) % 18446744073709551616 := by rfl
  rw [e, IntKind.wrap_i64]
  omega

set_option maxHeartbeats 400000 in
theorem rkeys_ok (A : Option Addr) (c : Nat) (g : Int) (ks : List Int) (w : World) (hr : Rd w A (u64s ks)) (hU : isU ks) (h0 : 0 ≤ g) (h1 : g < 4294967296) (hn : ks.length ≤ 16) :
    Calls Try.prog 23 #[.int .i64 g, .slice A ks.length c] w (Ret8 w (wds [g, 8 * (ks.length : Int)] ++ ks.flatMap (be 8)) 0) := by
  have HR := Lib.hid hr
  have HU := Lib.hid hU
  have hmk8 := run_make8 8 8 rfl (by omega)
  have HRP := Lib.hid (Rd.zeros w 8 5)
  have E1 : Hid ((List.replicate 8 (0 : Int)).take 0 ++ be 4 g ++ (List.replicate 8 0).drop (0 + 4) = be 4 g ++ [0, 0, 0, 0]) := Lib.hid (by rfl)
  have E2 : Hid ((be 4 g ++ [0, 0, 0, 0]).take 4 ++ be 4 (8 * (ks.length : Int)) ++ (be 4 g ++ [0, 0, 0, 0]).drop (4 + 4) = wds [g, 8 * (ks.length : Int)]) := Lib.hid (by rfl)
  have L1 : Hid ((List.replicate 8 (0 : Int)).length = 8) := Lib.hid (by rfl)
  have L2 : Hid ((be 4 g ++ [0, 0, 0, 0]).length = 8) := Lib.hid (by rfl)
  clear hr hU
  go_enter Try.func23, Try.ntmps23
  go_wp2_with (first
    | (go_at_call 36; (with_reducible refine (gen_yes g _ h0 h1).mono ?_); rintro e w1 ⟨rfl, rfl⟩)
    | (go_at_call 33; (with_reducible refine (at_4 _ _ 0 0 8 (by omega) (List.replicate 8 0) g _ HRP.out L1.out (by omega) (by omega) (by omega) (by omega) _ E1.out).mono ?_); rintro e w1 ⟨A0, c0, rfl, hc0, ho0, hb0⟩; have HO0 := Lib.hid ho0; have HB0 := Lib.hid hb0; clear ho0 hb0)
    | (go_at_call 33; (with_reducible refine (at_4 A0 c0 4 4 8 (by omega) (be 4 g ++ [0, 0, 0, 0]) (8 * (ks.length : Int)) _ (Rd.of_own HO0.out) L2.out (by omega) (by omega) (by omega) (by omega) _ E2.out).mono ?_); rintro e w1 ⟨A1, c1, rfl, hc1, ho1, hb1⟩; have HO1 := Lib.hid ho1; have HB1 := Lib.hid (bl_chain HB0.out hb1); clear ho1 hb1))
  have hb01 : Below w.heap.size w w1 := bl_chain (bl_alloc w _) HB1.out
  have hz1 := HB0.out.size
  simp at hz1
  have HB01 := Lib.hid hb01
  clear hb01
  go_loopw [6, 7] (fun u v w2 => ∃ (k : Nat) (A' : Option Addr) (c' : Nat), k ≤ ks.length ∧ v = .int .i64 k ∧ u = .slice A' (8 + 8 * k) c' ∧ 8 + 8 * k ≤ c' ∧ w2.ownsRow w.heap.size 5 1 (.slice A' (8 + 8 * k) c') (8 + 8 * k) (by8 (wds [g, 8 * (ks.length : Int)] ++ (ks.take k).flatMap (be 8))) ∧ Below w.heap.size w w2) (fun _ v _ => ks.length - (intOf v).toNat)
  case atStart => exact ⟨0, A1, c1, by omega, rfl, rfl, hc1, by simpa using ownsRow_base HO1.out (by omega), HB01.out⟩
  case round =>
    obtain ⟨k, A2, c2, hk, rfl, rfl, hc2, ho2, hb2⟩ := hrel
    have HO2 := Lib.hid ho2
    have HB2 := Lib.hid hb2
    clear ho2 hb2
    have hz := HB2.out.size
    by_cases hlt : k < ks.length
    · obtain ⟨ad, rfl, hblk, hcell0⟩ := HR.out.at_ (k := k) (by simp [u64s]; exact hlt)
      simp only [u64s, List.getElem_map] at hcell0
      have hcell := (HB2.out.cell (p := ad.add k) (by rw [block_of_add]; exact hblk)).trans hcell0
      obtain ⟨x, hx⟩ : ∃ x, ks[k] = x := ⟨_, rfl⟩
      have hxb : 0 ≤ x ∧ x < 18446744073709551616 := hx ▸ HU.out _ (List.getElem_mem hlt)
      rw [hx] at hcell hcell0
      have HC0 := Lib.hid hcell0
      clear hcell0
      have HX := Lib.hid hx
      clear hx
      have E3 : Hid ((List.replicate 8 (0 : Int)).take 0 ++ be 8 x ++ (List.replicate 8 0).drop (0 + 8) = be 8 x) := Lib.hid (by simp)
      have M3 : Hid ((by8 (be 8 x)).length = 8 * 1) := Lib.hid (by rw [by8_length, be_length])
      have M4 : Hid (by8 (wds [g, 8 * (ks.length : Int)] ++ (ks.take k).flatMap (be 8)) ++ by8 (be 8 x) = by8 (wds [g, 8 * (ks.length : Int)] ++ (ks.take (k + 1)).flatMap (be 8))) := Lib.hid (by rw [keys_snoc ks k hlt, HX.out, ← by8_append, List.append_assoc])
      have U1 : Hid (IntKind.u64.wrap (IntKind.i64.wrap x) = x) := Lib.hid (u64_round x hxb.1 hxb.2)
      have HRQ := Lib.hid (Rd.zeros wr 8 5).drew
      have hi1 : (0 : Int) ≤ k := by omega
      have hi2 : (k : Int) < ks.length := by omega
      go_wp2_with fail
      go_region_held3 (fun w' => w'.cell? (ad.add k) = some (.int .u64 x)) (go_keep)
        ((first
          | (refine stepR_append E8 rfl rfl (own_below (B := 0) HO2.out HB3.out) rfl HR3.out rfl M3.out (by8_one _) (8 + 8 * (k + 1)) _ (by omega) M4.out (by simp only [maxLen]; omega) (by omega) (by have := HB3.out.size; omega) ?_; intro A4 c4 w4 hc4 ho4 ht4 _; have HO4 := Lib.hid ho4; have hb4 := bl_tr (bl_chain HB2.out HB3.out) ht4 (fun x hx => own_ge HO2.out x hx); have hcr := (hb4.cell (p := ad.add k) (by rw [block_of_add]; exact hblk)).trans HC0.out; have HB4 := Lib.hid hb4; clear ho4 ht4 hb4)
          | (go_at_call 33; (with_reducible refine (at_8 _ _ 0 0 8 (by omega) (List.replicate 8 0) _ x _ HRQ.out L1.out (by omega) (by omega) U1.out (by omega) (by omega) _ E3.out).mono ?_); rintro e w3 ⟨A3, c3, rfl, hc3, ho3, hb3⟩; have HR3 := Lib.hid (Rd.of_own ho3); have hbb := bl_chain (bl_chain (bl_alloc wr _) (bl_drew _)) hb3; have hcq := ((HB2.out.trans (hbb.mono hz)).cell (p := ad.add k) (by rw [block_of_add]; exact hblk)).trans HC0.out; have HB3 := Lib.hid hbb; clear ho3 hb3 hbb)))
      go_wp2_with fail
      go_roundw
      case rel => exact ⟨k + 1, A4, c4, by omega, by go_num, rfl, hc4, HO4.out, HB4.out⟩
      case measure => simp [intOf]; omega
    · have hk' : k = ks.length := by omega
      subst hk'
      rw [List.take_length] at HO2
      go_wp2_with fail
      go_ret2
      have hlen : (wds [g, 8 * (ks.length : Int)] ++ ks.flatMap (be 8)).length = 8 + 8 * ks.length := by rw [List.length_append, keys_length]; rfl
      exact ⟨A2, c2, by rw [hlen]; rfl, by omega, by rw [hlen]; exact HO2.out, HB2.out⟩

set_option maxHeartbeats 400000 in
theorem rkeys_any (A : Option Addr) (c : Nat) (g : Int) (ks : List Int) (w : World) (hr : Rd w A (u64s ks)) (hU : isU ks) (hc : ks.length ≤ 17592186044416) :
    Calls Try.prog 23 #[.int .i64 g, .slice A ks.length c] w (Ret8 w (keysL g ks) (keysE g ks)) := by
  by_cases hg : 0 ≤ g ∧ g < 4294967296
  · by_cases hk : ks.length ≤ 16
    · rw [show keysL g ks = _ from (if_pos hg).trans (if_pos hk), show keysE g ks = _ from (if_pos hg).trans (if_pos hk)]
      exact rkeys_ok A c g ks w hr hU hg.1 hg.2 hk
    · rw [show keysL g ks = _ from (if_pos hg).trans (if_neg hk), show keysE g ks = _ from (if_pos hg).trans (if_neg hk)]
      have hk2 : (16 : Int) < ks.length := by omega
      obtain ⟨hg1, hg2⟩ := hg
      clear hr hU hk
      go_enter Try.func23, Try.ntmps23
      go_wp2_with (first | (go_at_call 36; (with_reducible refine (gen_yes g _ hg1 hg2).mono ?_); rintro e w1 ⟨rfl, rfl⟩))
      go_ret2
      exact Ret8.nil _ _
  · rw [show keysL g ks = _ from if_neg hg, show keysE g ks = _ from if_neg hg]
    have HG := Lib.hid hg
    clear hg hr hU
    go_enter Try.func23, Try.ntmps23
    go_wp2_with (first | (go_at_call 36; (with_reducible refine (gen_no g _ HG.out).mono ?_); rintro e w1 ⟨rfl, rfl⟩))
    go_ret2
    exact Ret8.nil _ _

end Go.Proofs.Ytifhlkfdmnkhoaa
