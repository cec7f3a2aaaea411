/- ExtentDiffs: the plain law and the walk. -/
import Derived.Test.YtdddbpnllhnfdaaPlayed
import Derived.Test.YtdddbpnllhnfdaaLoadP
import Derived.Test.YtdddbpnllhnfdaaLoadR
import Derived.Test.YtdddbpnllhnfdaaDiffX
namespace Go.Proofs.Ytdddbpnllhnfdaa
set_option linter.unusedVariables false
set_option linter.unusedSimpArgs false
set_option maxRecDepth 100000
open Go.RowKit Go.Shelf

def apl (L : List (List Int)) (ds : List (Int × List Int)) : List (List Int) := ds.foldl (fun L p => L.set p.1.toNat p.2) L
theorem chTo_apl (L : List (List Int)) (l : List ChS) : chTo L l = apl L (l.map ChS.kd) := by
  unfold chTo apl
  rw [List.foldl_map]
  rfl
theorem apl_length (ds : List (Int × List Int)) : ∀ L : List (List Int), (apl L ds).length = L.length := by
  induction ds with
  | nil => intro L; rfl
  | cons p ds ih => intro L; show (apl (L.set p.1.toNat p.2) ds).length = _; rw [ih, List.length_set]
theorem apl_diff (L1 L2 : List (List Int)) (i : Nat) : ∀ k, k ≤ L1.length → bk (apl L1 (dfTo L1 L2 k)) i = if i < k then bk L2 i else bk L1 i
  | 0, _ => by simp [dfTo, apl]
  | k + 1, h => by
    have ih := apl_diff L1 L2 i k (by omega)
    have hl : (apl L1 (dfTo L1 L2 k)).length = L1.length := apl_length _ _
    unfold dfTo
    by_cases he : bk L1 k = bk L2 k
    · rw [if_pos he, List.append_nil, ih]
      by_cases h1 : i < k
      · rw [if_pos h1, if_pos (by omega)]
      · rw [if_neg h1]
        by_cases h2 : i = k
        · subst h2; rw [if_pos (by omega), he]
        · rw [if_neg (by omega)]
    · rw [if_neg he]
      show bk (apl L1 (dfTo L1 L2 k ++ [((k : Int), bk L2 k)])) i = _
      unfold apl
      rw [List.foldl_append]
      show bk ((apl L1 (dfTo L1 L2 k)).set ((k : Int)).toNat (bk L2 k)) i = _
      rw [Int.toNat_natCast, bk_set _ k (by omega), ih]
      by_cases h2 : i = k
      · subst h2; rw [if_pos rfl, if_pos (by omega)]
      · rw [if_neg h2]
        by_cases h1 : i < k
        · rw [if_pos h1, if_pos (by omega)]
        · rw [if_neg h1, if_neg (by omega)]
theorem df_mem (L1 L2 : List (List Int)) (p : Int × List Int) : ∀ k, p ∈ dfTo L1 L2 k → ∃ j : Nat, j < k ∧ p = ((j : Int), bk L2 j)
  | 0, h => by cases h
  | k + 1, h => by
    unfold dfTo at h
    rcases List.mem_append.1 h with h | h
    · obtain ⟨j, h1, h2⟩ := df_mem L1 L2 p k h
      exact ⟨j, by omega, h2⟩
    · split at h
      · cases h
      · exact ⟨k, by omega, List.mem_singleton.1 h⟩
theorem diff_law {L1 L2 : List (List Int)} (h2 : ImgOk L2) (hl : L1.length = L2.length) {l : List ChS} (hk : l.map ChS.kd = diffL L1 L2) : changeE L1.length l = 0 ∧ changeL L1 l = L2 := by
  have hr : chRight L1.length l = true := by
    unfold chRight
    rw [List.all_eq_true]
    intro y hy
    have hm : y.kd ∈ diffL L1 L2 := hk ▸ List.mem_map_of_mem hy
    obtain ⟨j, h1, e⟩ := df_mem L1 L2 _ _ hm
    have e1 : y.lba = j := congrArg Prod.fst e
    have e2 : y.d = bk L2 j := congrArg Prod.snd e
    refine decide_eq_true ⟨by omega, by omega, ?_⟩
    rw [e2]
    rcases h2.at_ j with h | h
    · left; rw [h]; rfl
    · right; exact h.1
  refine ⟨if_pos hr, ?_⟩
  unfold changeL
  rw [if_pos hr, chTo_apl, hk]
  refine img_ext (by rw [apl_length]; exact hl) (fun i => ?_)
  unfold diffL
  rw [apl_diff L1 L2 i _ (Nat.le_refl _)]
  by_cases h : i < L1.length
  · rw [if_pos h]
  · rw [if_neg h, bk_out (by omega), bk_out (by omega)]
/-- Two images apart from each other, and from Z. -/
def PairZ (w W : World) (Z : Nat → Prop) (g1 g2 : Nat) (L1 L2 : List (List Int)) : Prop := ∃ B1 D1 M1 B2 D2 M2, IsImg W g1 L1 B1 D1 M1 ∧ IsImg W g2 L2 B2 D2 M2 ∧ (∀ b, M1 b → ¬ M2 b) ∧ (∀ b, M1 b → w.heap.size ≤ b) ∧ (∀ b, M2 b → w.heap.size ≤ b) ∧ Below w.heap.size w W ∧ (∀ b, Z b → b < W.heap.size ∧ ¬ M1 b ∧ ¬ M2 b)
section
variable {w W W' : World} {Z : Nat → Prop} {g1 g2 : Nat} {L1 L2 L' : List (List Int)}
theorem PairZ.below (h : PairZ w W Z g1 g2 L1 L2) (hb : Below W.heap.size W W') : PairZ w W' Z g1 g2 L1 L2 := by
  obtain ⟨B1, D1, M1, B2, D2, M2, h1, h2, h3, h4, h5, h6, h7⟩ := h
  exact ⟨B1, D1, M1, B2, D2, M2, h1.below hb, h2.below hb, h3, h4, h5, bl_chain h6 hb, fun b hz => ⟨Nat.lt_of_lt_of_le (h7 b hz).1 hb.size, (h7 b hz).2⟩⟩
theorem PairZ.bl (h : PairZ w W Z g1 g2 L1 L2) : Below w.heap.size w W := by
  obtain ⟨B1, D1, M1, B2, D2, M2, h1, h2, h3, h4, h5, h6, h7⟩ := h
  exact h6
theorem PairZ.img1 (h : PairZ w W Z g1 g2 L1 L2) : ∃ B D M, IsImg W g1 L1 B D M := by
  obtain ⟨B1, D1, M1, B2, D2, M2, h1, h2, h3, h4, h5, h6, h7⟩ := h
  exact ⟨_, _, _, h1⟩
theorem PairZ.img2 (h : PairZ w W Z g1 g2 L1 L2) : ∃ B D M, IsImg W g2 L2 B D M := by
  obtain ⟨B1, D1, M1, B2, D2, M2, h1, h2, h3, h4, h5, h6, h7⟩ := h
  exact ⟨_, _, _, h2⟩
theorem PairZ.avoid (h : PairZ w W Z g1 g2 L1 L2) (hb : Below W.heap.size W W') {Z' : Nat → Prop} (hZ : ∀ b, Z' b → W.heap.size ≤ b ∧ b < W'.heap.size) : PairZ w W' Z' g1 g2 L1 L2 := by
  obtain ⟨B1, D1, M1, B2, D2, M2, h1, h2, h3, h4, h5, h6, h7⟩ := h
  exact ⟨B1, D1, M1, B2, D2, M2, h1.below hb, h2.below hb, h3, h4, h5, bl_chain h6 hb, fun b hz => ⟨(hZ b hz).2, fun x => by have := h1.mlt b x; have := (hZ b hz).1; omega, fun x => by have := h2.mlt b x; have := (hZ b hz).1; omega⟩⟩
theorem PairZ.img (h : PairZ w W Z g1 g2 L1 L2) : ∃ B D M, IsImg W g1 L1 B D M ∧ NoCells W (fun b => b = B) ∧ ∀ (L' : List (List Int)) (err : Int) (e : Ending) (W' : World), RetS W g1 L' B M err e W' → e = .returned (.int .i64 err) ∧ PairZ w W' Z g1 g2 L' L2 ∧ Tr (fun b => b = B) W W' := by
  obtain ⟨B, D, M, B2, D2, M2, h1, h2, h3, h4, h5, h6, h7⟩ := h
  refine ⟨B, D, M, h1, NoCells.mapB h1, fun L' err e W' hr => ?_⟩
  obtain ⟨D', M', rfl, hI, hM, ht⟩ := hr
  refine ⟨rfl, ⟨B, D', M', B2, D2, M2, hI, h2.tr ht (fun b hb e => h3 B h1.mB (e ▸ hb)), fun b hb hb2 => ?_, fun b hb => ?_, h5, h6.trans (ht.to_below h6.size (fun b e => by rw [e]; exact h4 B h1.mB)), fun b hz => ⟨Nat.lt_of_lt_of_le (h7 b hz).1 ht.size, fun x => ?_, (h7 b hz).2.2⟩⟩, ht⟩
  · rcases hM b hb with h | h
    · exact h3 b h hb2
    · have := h2.mlt b hb2; omega
  · rcases hM b hb with h | h
    · exact h4 b h
    · exact Nat.le_trans h6.size h
  · rcases hM b x with h | h
    · exact (h7 b hz).2.1 h
    · have := (h7 b hz).1; omega
theorem PairZ.turn (h : PairZ w W Z g1 g2 L1 L2) {F : Nat → Prop} (ht : Tr F W W') (hF : ∀ b, F b → Z b) (hw : ∀ b, F b → w.heap.size ≤ b) : PairZ w W' Z g1 g2 L1 L2 := by
  obtain ⟨B, D, M, q, c, M2, h1, h2, h3, h4, h5, h6, h7⟩ := h
  exact ⟨B, D, M, q, c, M2, h1.tr ht (fun b hb hf => (h7 b (hF b hf)).2.1 hb), h2.tr ht (fun b hb hf => (h7 b (hF b hf)).2.2 hb), h3, h4, h5, h6.trans (ht.to_below h6.size hw), fun b hz => ⟨Nat.lt_of_lt_of_le (h7 b hz).1 ht.size, (h7 b hz).2⟩⟩
theorem PairZ.new {M1' : Nat → Prop} (h1 : Img W g1 L1 M1') (hM1 : ∀ b, M1' b → w.heap.size ≤ b) (hb : Below w.heap.size w W) {M2 : Nat → Prop} (h2 : Img W' g2 L2 M2) (hM2 : ∀ b, M2 b → W.heap.size ≤ b) (hb2 : Below W.heap.size W W') : PairZ w W' NoB g1 g2 L1 L2 := by
  obtain ⟨B1, D1, h1⟩ := h1
  obtain ⟨B2, D2, h2⟩ := h2
  exact ⟨B1, D1, M1', B2, D2, M2, h1.below hb2, h2, fun b x y => by have := h1.mlt b x; have := hM2 b y; omega, hM1, fun b x => Nat.le_trans hb.size (hM2 b x), bl_chain hb hb2, fun b hz => hz.elim⟩
end
theorem bytesL_isBd {L : List (List Int)} (h : ImgOk L) : isB (bytesL L) := by
  unfold bytesL
  refine ((be_isB _ _).append (be_isB _ _)).append (fun x hx => ?_)
  obtain ⟨z, hz, hx⟩ := List.mem_flatMap.1 hx
  obtain ⟨i, rfl, hi, hb⟩ := (numsTo_mem L z _).1 hz
  have := h.hi
  unfold e1 at hx
  rcases List.mem_cons.1 hx with rfl | hx
  · omega
  · rcases List.mem_cons.1 hx with rfl | hx
    · omega
    · rcases h.at_ ((i : Int)).toNat with h1 | h1
      · rw [h1] at hx; cases hx
      · exact h1.2 x hx
theorem bytesL_lend {L : List (List Int)} (h : ImgOk L) : (bytesL L).length ≤ 20000 := by
  have h1 := flat_length (e1 L) 66 (e1_length L h) (nums L)
  have h2 := nums_length L
  have h3 := used_le L
  have h4 := h.hi
  have : 66 * (nums L).length ≤ 66 * 256 := Nat.mul_le_mul_left _ (by omega)
  unfold bytesL
  rw [List.length_append, List.length_append, be_length, be_length]
  omega
set_option maxHeartbeats 16000000 in
theorem extentDiffs_walk (n : Int) (A : Option Addr) (c : Nat) (a : List OpA) (A' : Option Addr) (c' : Nat) (b : List OpA) (other : Int) (w : World) (hn : -9223372036854775808 ≤ n ∧ n ≤ 9223372036854775807) (hla : a.length ≤ 140737488351232) (ha : OpsAt w A a) (hlb : b.length ≤ 140737488351232) (hb : OpsAt w A' b) (ho : -9223372036854775808 ≤ other ∧ other ≤ 9223372036854775807) :
    Calls Try.prog 6 #[.int .i64 n, .slice A a.length c, .slice A' b.length c', .int .i64 other] w fun e w' => e = .returned (.bool true) ∧ Below w.heap.size w w' := by
  have HA := Lib.hid ha
  have HB := Lib.hid hb
  clear ha hb
  go_enter Try.func6, Try.ntmps6
  go_wp2_with (first
    | (go_at_call 11; (with_reducible refine (count256 n w hn).mono ?_); rintro e w1 ⟨⟨k, hk, rfl⟩, rfl⟩)
    | (go_at_call 10; (with_reducible refine (played_any _ (k + 1) (by omega) (by omega) (by omega) A c a w hla HA.out).mono ?_); rintro e w2 ⟨gx, L1, M1, rfl, hL1, hi1, hM1, hb2⟩; have I2 := Lib.hid hi1; have HL1 := Lib.hid hL1; have B2 := Lib.hid hb2; have HM1 := Lib.hid hM1; have HP2 := Lib.hid (played_any (1 + (k : Int)) (k + 1) (by omega) (by omega) (by omega) A' c' b w2 hlb (fun i h => by obtain ⟨h1, h2⟩ := HB.out i h; refine ⟨h1.below hb2, ?_⟩; obtain ⟨bb, oo, e, hc⟩ := h2; exact ⟨bb, oo, e, fun j u hj => (hb2.cell (cell_block_lt (hc j u hj))).trans (hc j u hj)⟩)); clear hi1 hL1 hb2 hM1)
    | (go_at_call 10; (with_reducible refine HP2.out.mono ?_); rintro e w3 ⟨gy, L2, M2, rfl, hL2, hi2, hM2, hb3⟩; have HL2 := Lib.hid hL2; have P3 := Lib.hid (show PairZ w w3 NoB gx gy L1 L2 from PairZ.new I2.out HM1.out B2.out hi2 hM2 hb3); have OK1 := Lib.hid I2.out.ok; have OK2 := Lib.hid hi2.ok; clear hi2 hL2 hb3 hM2))
  have hLL : L1.length = L2.length := by rw [HL1.out, HL2.out]
  have HLAW := Lib.hid (fun (l : List ChS) (hk : l.map ChS.kd = diffL L1 L2) => diff_law OK2.out hLL hk)
  have hdl : (diffL L1 L2).length ≤ 256 := by have := dfTo_len L1 L2 L1.length; have := OK1.out.hi; unfold diffL; omega
  have HBY1 := Lib.hid (show ∀ W Z, PairZ w W Z gx gy L1 L2 → Calls Try.prog 13 #[.pointer (some ⟨gx, 0, none⟩)] W fun e w' => ∃ A c, e = .returned (.slice A (bytesL L1).length c) ∧ w'.ownsRow W.heap.size 5 1 (.slice A (bytesL L1).length c) (bytesL L1).length (by8 (bytesL L1)) ∧ Below W.heap.size W w' from fun W Z h => by
    obtain ⟨B, D, M, hI⟩ := h.img1
    refine (bytes_any hI).mono ?_
    rintro e w' ⟨A, c, rfl, _, ho, hb⟩
    exact ⟨A, c, rfl, ho, hb⟩)
  have HBY2 := Lib.hid (show ∀ W Z, PairZ w W Z gx gy L1 L2 → Calls Try.prog 13 #[.pointer (some ⟨gy, 0, none⟩)] W fun e w' => ∃ A c, e = .returned (.slice A (bytesL L2).length c) ∧ w'.ownsRow W.heap.size 5 1 (.slice A (bytesL L2).length c) (bytesL L2).length (by8 (bytesL L2)) ∧ Below W.heap.size W w' from fun W Z h => by
    obtain ⟨B, D, M, hI⟩ := h.img2
    refine (bytes_any hI).mono ?_
    rintro e w' ⟨A, c, rfl, _, ho, hb⟩
    exact ⟨A, c, rfl, ho, hb⟩)
  have HRL1 := Lib.hid (show ∀ A c W, Rd W A (by8 (bytesL L1)) → Calls Try.prog 22 #[.slice A (bytesL L1).length c] W (RetRLoad W (0, L1)) from fun A c W h => by
    have := rload_any A c (bytesL L1) W h (bytesL_isBd OK1.out) (by have := bytesL_lend OK1.out; omega)
    rw [bytes_load OK1.out] at this
    exact this)
  have HRL2 := Lib.hid (show ∀ A c W, Rd W A (by8 (bytesL L2)) → Calls Try.prog 22 #[.slice A (bytesL L2).length c] W (RetRLoad W (0, L2)) from fun A c W h => by
    have := rload_any A c (bytesL L2) W h (bytesL_isBd OK2.out) (by have := bytesL_lend OK2.out; omega)
    rw [bytes_load OK2.out] at this
    exact this)
  have HSM := Lib.hid (show ∀ W Z, PairZ w W Z gx gy L2 L2 → Calls Try.prog 21 #[.pointer (some ⟨gx, 0, none⟩), .pointer (some ⟨gy, 0, none⟩)] W fun e w' => e = .returned (.bool true) ∧ Below W.heap.size W w' from fun W Z h => by
    obtain ⟨B, D, M, h1⟩ := h.img1
    obtain ⟨B', D', M', h2⟩ := h.img2
    have := same_any ⟨B, D, h1⟩ ⟨B', D', h2⟩
    rw [decide_eq_true rfl] at this
    exact this)
  have hk256 : k < 256 := hk
  go_wp2_with (first
    | (go_at_call 13; (with_reducible refine (HBY1.out _ _ P3.out).mono ?_); rintro e w4 ⟨A4, c4, rfl, ho4, hb⟩; have P4 := Lib.hid (P3.out.below hb); have HL4 := Lib.hid (HRL1.out A4 c4 w4 (Rd.of_own ho4)); clear ho4 hb)
    | (go_at_call 22; (with_reducible refine HL4.out.mono ?_); rintro e w5 hx; obtain ⟨rp, qp, cp, Mp, rfl, hi, _, hb⟩ := hx.1 rfl; have IP5 := Lib.hid hi; have P5 := Lib.hid (P4.out.below hb); clear hx hi hb)
    | (go_at_call 13; (with_reducible refine (HBY2.out _ _ P5.out).mono ?_); rintro e w6 ⟨A6, c6, rfl, ho6, hb⟩; have P6 := Lib.hid (P5.out.below hb); have IP6 := Lib.hid (IP5.out.below hb); have HL6 := Lib.hid (HRL2.out A6 c6 w6 (Rd.of_own ho6)); clear ho6 hb)
    | (go_at_call 22; (with_reducible refine HL6.out.mono ?_); rintro e w7 hx; obtain ⟨rq, qq, cq, Mq, rfl, hi, _, hb⟩ := hx.1 rfl; have IQ7 := Lib.hid hi; have P7 := Lib.hid (P6.out.below hb); have IP7 := Lib.hid (IP6.out.below hb); obtain ⟨B1, D1, N1, hx1⟩ := P7.out.img1; obtain ⟨B2', D2, N2, hx2⟩ := P7.out.img2; have HDF := Lib.hid (diff_any hx1 hx2 hLL); clear hx hi hb hx1 hx2)
    | (go_at_call 23; (with_reducible refine HDF.out.mono ?_); rintro e w8 ⟨A8, k8, l8, rfl, hk8, hL8, hb⟩; have P8 := Lib.hid (P7.out.avoid hb (Z' := fun x => w7.heap.size ≤ x ∧ x < w8.heap.size) (fun x hx => hx)); have IP8 := Lib.hid (IP7.out.below hb); have IQ8 := Lib.hid (IQ7.out.below hb); have L8 := Lib.hid hL8; have HK8 := Lib.hid hk8; have HRD := Lib.hid (rdiff_any IP8.out IQ8.out hLL); have hs78 := hb.size; clear hk8 hL8 hb)
    | (go_at_call 24; (with_reducible refine HRD.out.mono ?_); rintro e w9 ⟨A9, k9, l9, rfl, hk9, hL9, hb⟩; have P9 := Lib.hid (P8.out.below hb); have L89 := Lib.hid (L8.out.tr (Tr.of_below (F := NoB) hb) (fun _ _ _ h => h)); have hll8 : l8.length ≤ 256 := (by have := congrArg List.length HK8.out; rw [List.length_map] at this; omega); have HSC := Lib.hid (samech_true A8 k8 l8 A9 k9 l9 w9 (by omega) L89.out.chs hL9.chs (HK8.out.trans hk9.symm)); clear hk9 hL9 hb)
    | (go_at_call 25; (with_reducible refine HSC.out.mono ?_); rintro e w10 ⟨rfl, hb⟩; have P10 := Lib.hid (P9.out.below hb); have L10 := Lib.hid (L89.out.tr (Tr.of_below (F := NoB) hb) (fun _ _ _ h => h)); obtain ⟨Bx, Dx, Mx, hIx, hnc, hret⟩ := P10.out.img; have hch := change_any hIx A8 k8 l8 (by omega) L10.out.chs; rw [(HLAW.out l8 HK8.out).1, (HLAW.out l8 HK8.out).2] at hch; have HCH := Lib.hid hch; have HRET := Lib.hid hret; have HNC := Lib.hid hnc; clear hb hIx hnc hret hch)
    | (go_at_call 14; (with_reducible refine HCH.out.mono ?_); rintro e w11 hr; obtain ⟨rfl, hp, ht⟩ := HRET.out _ _ _ _ hr; have P11 := Lib.hid hp; have L11 := Lib.hid (L10.out.trc ht HNC.out); clear hr hp ht)
    | (go_at_call 21; (with_reducible refine (HSM.out _ _ P11.out).mono ?_); rintro e w12 ⟨rfl, hb⟩; have P12 := Lib.hid (P11.out.below hb); have L12 := Lib.hid (L11.out.tr (Tr.of_below (F := NoB) hb) (fun _ _ _ h => h)); clear hb))
  have hw7 := P7.out.bl.size
  have hll9 : l8.length ≤ 256 := by omega
  go_loopw [19] (fun v Wx => ∃ j : Nat, j ≤ l8.length ∧ v = .int .i64 (j : Int) ∧ PairZ w Wx (fun x => w7.heap.size ≤ x ∧ x < w8.heap.size) gx gy L2 L2 ∧ Wx.ownsRow w7.heap.size 33 2 (.slice A8 l8.length k8) l8.length (chCells l8) ∧ (∀ i (h : i < l8.length), j ≤ i → Wx.ownsRow w7.heap.size 5 1 (.slice l8[i].A l8[i].d.length l8[i].c) l8[i].d.length (by8 l8[i].d))) (fun v _ => l8.length - (RowKit.intOf v).toNat)
  case atStart => exact ⟨0, by omega, rfl, P12.out, L12.out.row, fun i h _ => L12.out.data _ (List.getElem_mem h)⟩
  case round =>
    obtain ⟨j, hj, rfl, hd, hrow, hdat⟩ := hrel
    by_cases hlt : j < l8.length
    · obtain ⟨g', hg', hc⟩ := chrow_cell hrow j hlt
      have x1 := hc 1 _ rfl
      have hdj := hdat j hlt (Nat.le_refl _)
      have h2j := L8.out.data _ (List.getElem_mem hlt)
      have hok := (L8.out.ok _ (List.getElem_mem hlt)).2.2
      have hap := L8.out.apart
      have HLT := Lib.hid hlt
      have HROW := Lib.hid hrow
      have HDAT := Lib.hid hdat
      have HDU := Lib.hid hd
      have HDJ := Lib.hid hdj
      have H2J := Lib.hid h2j
      have HAP := Lib.hid (fun i (h : i < l8.length) (hi : j + 1 ≤ i) => List.pairwise_iff_getElem.1 hap j i hlt h (by omega))
      subst hg'
      clear hrow hdat hd hdj h2j hap hc
      generalize l8[j] = yj at x1 hok HDJ H2J HAP
      rw [← Nat.add_assoc] at x1
      simp only [Nat.zero_add] at x1
      go_wp2_with (first
        | (go_at_call 26; (with_reducible refine (spoil_any yj.A yj.d.length yj.c (by8 yj.d) wr (ownsRow_base HDJ.out (Nat.zero_le _)) hok).mono ?_); rintro e w6 ⟨rfl, ht⟩; have HT6 := Lib.hid ht; clear ht))
      refine ⟨⟨j + 1, HLT.out, by go_num, HDU.out.turn HT6.out (fun b hb => ⟨own_ge H2J.out b hb, own_lt H2J.out b hb⟩) (fun b hb => by have := own_ge H2J.out b hb; omega), own_tr HROW.out HT6.out (fun b hb hb2 => own_two_ne HROW.out HDJ.out (by decide) hb hb2), fun i h hi => own_tr (HDAT.out i h (by omega)) HT6.out (fun b hb hb2 => HAP.out i h hi b hb2 hb)⟩, by simp [RowKit.intOf]; have := HLT.out; omega⟩
    · have P13 := Lib.hid hd
      clear hd hrow hdat
      have hl2 : L2.length = k + 1 := HL2.out
      by_cases hoz : 1 ≤ other ∧ other ≤ 256
      · obtain ⟨oz, rfl⟩ := Int.eq_ofNat_of_zero_le (show 0 ≤ other by omega)
        by_cases hez : oz = k + 1
        · have tE : ((oz : Int) == 1 + (k : Int)) = true := by simp; omega
          have HEZ := Lib.hid hez
          clear hez
          go_wp2_with (first
            | (go_at_call 21; (with_reducible refine (HSM.out _ _ P13.out).mono ?_); rintro e w14 ⟨rfl, hb⟩; have P14 := Lib.hid (P13.out.below hb); clear hb)
            | (go_at_call 20; (with_reducible refine (new_ok oz w14 (by omega) (by omega)).mono ?_); rintro e w15 ⟨gz, Mz, rfl, ⟨Bz, Dz, hz⟩, hMz, hb⟩; obtain ⟨Bx, Dx, Mx, hIx⟩ := (P14.out.below hb).img1; have P15 := Lib.hid (P14.out.below hb); have HDF2 := Lib.hid (diff_any hIx hz (by rw [show (emptyL oz).length = oz from by simp [emptyL]]; have := HEZ.out; omega)); clear hz hMz hb hIx)
            | (go_at_call 23; (with_reducible refine HDF2.out.mono ?_); rintro e w16 ⟨A16, k16, l16, rfl, hk16, hL16, hb⟩; have B17 := Lib.hid (bl_chain P15.out.bl hb); clear hk16 hL16 hb)
            | (go_at_call 12; (with_reducible refine (known_any _).mono ?_); rintro e w18 ⟨rfl, hb⟩; have B18 := Lib.hid (bl_chain B17.out hb); clear hb))
          go_ret
          exact ⟨rfl, B18.out⟩
        · have tE : ((oz : Int) == 1 + (k : Int)) = false := by simp; omega
          go_wp2_with (first
            | (go_at_call 21; (with_reducible refine (HSM.out _ _ P13.out).mono ?_); rintro e w14 ⟨rfl, hb⟩; have P14 := Lib.hid (P13.out.below hb); clear hb)
            | (go_at_call 20; (with_reducible refine (new_ok oz w14 (by omega) (by omega)).mono ?_); rintro e w15 ⟨gz, Mz, rfl, ⟨Bz, Dz, hz⟩, hMz, hb⟩; obtain ⟨Bx, Dx, Mx, hIx⟩ := (P14.out.below hb).img1; have P15 := Lib.hid (P14.out.below hb); have HDF2 := Lib.hid (diff_arg hIx hz (by rw [show (emptyL oz).length = oz from by simp [emptyL]]; omega)); clear hz hMz hb hIx)
            | (go_at_call 23; (with_reducible refine HDF2.out.mono ?_); rintro e w16 ⟨rfl, hb⟩; have B17 := Lib.hid (bl_chain P15.out.bl hb); clear hb)
            | (go_at_call 12; (with_reducible refine (known_any _).mono ?_); rintro e w18 ⟨rfl, hb⟩; have B18 := Lib.hid (bl_chain B17.out hb); clear hb))
          go_ret
          exact ⟨rfl, B18.out⟩
      · have hnb := fun W => new_bad other W hoz
        go_wp2_with (first
          | (go_at_call 21; (with_reducible refine (HSM.out _ _ P13.out).mono ?_); rintro e w14 ⟨rfl, hb⟩; have P14 := Lib.hid (P13.out.below hb); clear hb)
          | (go_at_call 20; (with_reducible refine (hnb _).mono ?_); rintro e w' ⟨rfl, rfl⟩; obtain ⟨Bx, Dx, Mx, hIx⟩ := P14.out.img1; have HDN := Lib.hid (diff_nil2 hIx); have B17 := Lib.hid P14.out.bl; clear hIx)
          | (go_at_call 23; (with_reducible refine HDN.out.mono ?_); rintro e w' ⟨rfl, rfl⟩)
          | (go_at_call 12; (with_reducible refine (known_any _).mono ?_); rintro e w18 ⟨rfl, hb⟩; have B18 := Lib.hid (bl_chain B17.out hb); clear hb))
        go_ret
        exact ⟨rfl, B18.out⟩
end Go.Proofs.Ytdddbpnllhnfdaa
