/- Load and Bytes: the plain laws. No program in sight. -/
import Derived.Test.YtdddbpnllhnfdaaLoadX
import Derived.Test.YtdddbpnllhnfdaaExtS
namespace Go.Proofs.Ytdddbpnllhnfdaa
set_option linter.unusedVariables false
set_option maxRecDepth 100000

theorem numsTo_congr {L L2 : List (List Int)} : ∀ k, (∀ i, i < k → (bk L i = [] ↔ bk L2 i = [])) → numsTo L k = numsTo L2 k
  | 0, _ => rfl
  | k + 1, h => by
    have ih := numsTo_congr k (fun i hi => h i (by omega))
    have hk := h k (by omega)
    unfold numsTo
    rw [ih]
    by_cases h1 : bk L k = []
    · rw [if_pos h1, if_pos (hk.1 h1)]
    · rw [if_neg h1, if_neg (fun e => h1 (hk.2 e))]
theorem numsTo_stop {L : List (List Int)} {z : Nat} (h : ∀ i, z ≤ i → bk L i = []) : ∀ d, numsTo L (z + d) = numsTo L z
  | 0 => rfl
  | d + 1 => by
    show numsTo L (z + d) ++ (if bk L (z + d) = [] then [] else [((z + d : Nat) : Int)]) = _
    rw [if_pos (h _ (by omega)), List.append_nil, numsTo_stop h d]
theorem numsTo_set {L : List (List Int)} {z : Nat} {x : List Int} (hz : z < L.length) (hx : x ≠ []) (h : ∀ i, z ≤ i → bk L i = []) : nums (L.set z x) = nums L ++ [(z : Int)] := by
  unfold nums
  rw [List.length_set]
  obtain ⟨d, hd⟩ : ∃ d, L.length = z + 1 + d := ⟨L.length - (z + 1), by omega⟩
  have e1 : numsTo L L.length = numsTo L z := by rw [hd, Nat.add_assoc]; exact numsTo_stop h _
  have e2 : numsTo (L.set z x) L.length = numsTo (L.set z x) (z + 1) := by
    rw [hd]
    exact numsTo_stop (fun i hi => by rw [bk_set L z hz, if_neg (by omega)]; exact h i (by omega)) d
  have e3 : numsTo (L.set z x) z = numsTo L z := numsTo_congr z (fun i hi => by rw [bk_set L z hz, if_neg (by omega)])
  rw [e1, e2]
  show numsTo (L.set z x) z ++ (if bk (L.set z x) z = [] then [] else [(z : Int)]) = _
  rw [e3, bk_set L z hz, if_pos rfl, if_neg hx]
theorem flat_set {L : List (List Int)} {z : Nat} {x : List Int} (hz : z < L.length) (hx : x ≠ []) (h : ∀ i, z ≤ i → bk L i = []) : (nums (L.set z x)).flatMap (e1 (L.set z x)) = (nums L).flatMap (e1 L) ++ (0 :: (z : Int) :: x) := by
  rw [numsTo_set hz hx h, List.flatMap_append]
  congr 1
  · have : ∀ l : List Int, (∀ y ∈ l, y.toNat ≠ z) → l.flatMap (e1 (L.set z x)) = l.flatMap (e1 L) := by
      intro l
      induction l with
      | nil => intro _; rfl
      | cons y l ih =>
        intro hl
        rw [List.flatMap_cons, List.flatMap_cons, ih (fun y hy => hl y (by simp [hy]))]
        congr 1
        unfold e1
        rw [bk_set L z hz, if_neg (hl y (by simp))]
    refine this _ (fun y hy e => ?_)
    obtain ⟨i, rfl, _, hi⟩ := (numsTo_mem L y _).1 hy
    simp at e
    subst e
    exact hi (h i (Nat.le_refl _))
  · simp only [List.flatMap_cons, List.flatMap_nil, List.append_nil]
    unfold e1
    rw [Int.toNat_natCast, bk_set L z hz, if_pos rfl]
theorem ld_bytes (n : Nat) (hn : n ≤ 256) : ∀ (k : Nat) (last : Int) (L : List (List Int)) (r : List Int) (L' : List (List Int)), ImgOk L → L.length = n → isB r → -1 ≤ last → (∀ i : Nat, last < i → bk L i = []) → ldK n k last L r = (0, L') →
    ImgOk L' ∧ L'.length = n ∧ used L' = used L + k ∧ (nums L').flatMap (e1 L') = (nums L).flatMap (e1 L) ++ r
  | 0, last, L, r, L', hok, hl, hr, hlast, he, h => by
    unfold ldK at h
    split at h
    · rename_i h0
      injection h with _ h
      subst h
      have : r = [] := List.eq_nil_of_length_eq_zero h0
      subst this
      exact ⟨hok, hl, by omega, by simp⟩
    · injection h with h _
      cases h
  | k + 1, last, L, r, L', hok, hl, hr, hlast, he, h => by
    unfold ldK at h
    split at h
    · injection h with h _; cases h
    · rename_i h66
      split at h
      · injection h with h _; cases h
      · rename_i hc
        obtain ⟨x, y, hx, hy, hx0, hx1, hy0, hy1, hlb⟩ := lba_at hr (by omega)
        obtain ⟨z, hz⟩ := Int.eq_ofNat_of_zero_le (show 0 ≤ lbaL r by omega)
        rw [hz, Int.toNat_natCast] at h
        rw [hz] at hc hlb
        have hx00 : x = 0 := by omega
        have hyz : y = z := by omega
        subst hx00 hyz
        have hblen : ((r.drop 2).take 64).length = 64 := by rw [List.length_take, List.length_drop]; omega
        have hbne : (r.drop 2).take 64 ≠ [] := fun e => by rw [e] at hblen; cases hblen
        have hzl : z < L.length := by omega
        have hemp : ∀ i, z ≤ i → bk L i = [] := fun i hi => he i (by omega)
        obtain ⟨r1, r2, r3, r4⟩ := ld_bytes n hn k z (L.set z ((r.drop 2).take 64)) (r.drop 66) L' (hok.set_ z (.inr ⟨hblen, (hr.drop 2).take 64⟩)) (by rw [List.length_set]; exact hl) (hr.drop 66) (by omega) (fun i hi => by rw [bk_set L z hzl, if_neg (by omega)]; exact hemp i (by omega)) h
        refine ⟨r1, r2, ?_, ?_⟩
        · have hu := used_set L z hzl ((r.drop 2).take 64)
          unfold one at hu
          rw [if_pos (hemp z (Nat.le_refl _)), if_neg hbne] at hu
          omega
        · rw [r4, flat_set hzl hbne hemp, List.append_assoc]
          congr 1
          match r, h66, hx, hy with
          | a :: b :: r', _, hx, hy =>
            simp at hx hy
            subst hx hy
            show 0 :: (z : Int) :: r'.take 64 ++ r'.drop 64 = _
            simp [List.take_append_drop]
theorem be2_unb {l : List Int} (hB : isB l) (h : l.length = 2) : be 2 (unb l) = l := by
  match l, h with
  | [a, b], _ =>
    have ha := hB a (by simp)
    have hb := hB b (by simp)
    simp [be, unb]
    omega
theorem load_bytes {b : List Int} {L : List (List Int)} (hB : isB b) (h : loadL b = (0, L)) : ImgOk L ∧ bytesL L = b := by
  unfold loadL at h
  split at h
  · injection h with h _; cases h
  · rename_i h4
    split at h
    · injection h with h _; cases h
    · rename_i hn
      have hn : 1 ≤ ldN b ∧ ldN b ≤ 256 := by omega
      obtain ⟨N, hN⟩ := Int.eq_ofNat_of_zero_le (ldN_range hB).1
      obtain ⟨U, hU⟩ := Int.eq_ofNat_of_zero_le (ldU_range hB).1
      rw [hN, hU, Int.toNat_natCast, Int.toNat_natCast] at h
      have hok := emptyL_ok (n := N) (by omega) (by omega)
      obtain ⟨r1, r2, r3, r4⟩ := ld_bytes N (by omega) U (-1) (emptyL N) (b.drop 4) L hok (by simp [emptyL]) (hB.drop 4) (by omega) (fun i _ => bk_empty N i) h
      refine ⟨r1, ?_⟩
      have hu0 : used (emptyL N) = 0 := usedTo_empty N _
      have hn0 : nums (emptyL N) = [] := List.eq_nil_of_length_eq_zero (by rw [show nums (emptyL N) = numsTo (emptyL N) (emptyL N).length from rfl, numsTo_length]; exact hu0)
      unfold bytesL
      rw [r4, r2, r3, hu0, hn0, Nat.zero_add, ← hN, ← hU]
      have e1 : be 2 (ldN b) = b.take 2 := be2_unb (hB.take 2) (by rw [List.length_take]; omega)
      have e2 : be 2 (ldU b) = (b.drop 2).take 2 := be2_unb ((hB.drop 2).take 2) (by rw [List.length_take, List.length_drop]; omega)
      rw [e1, e2]
      simp only [List.flatMap_nil, List.nil_append]
      rw [List.append_assoc, show b.drop 4 = (b.drop 2).drop 2 by rw [List.drop_drop], List.take_append_drop, List.take_append_drop]
def putAll (L : List (List Int)) (l : List Int) (L0 : List (List Int)) : List (List Int) := l.foldl (fun M z => M.set z.toNat (bk L z.toNat)) L0
theorem bytes_ld (n : Nat) (hn : n ≤ 256) (L : List (List Int)) : ∀ (l : List Int) (last : Int) (L0 : List (List Int)), L0.length = n → l.Pairwise (· < ·) → (∀ z ∈ l, last < z ∧ 0 ≤ z ∧ z < n ∧ isBl (bk L z.toNat)) →
    ldK n l.length last L0 (l.flatMap (e1 L)) = (0, putAll L l L0)
  | [], last, L0, _, _, _ => rfl
  | z :: l, last, L0, h0, hp, h => by
    obtain ⟨hz, hp'⟩ := List.pairwise_cons.1 hp
    obtain ⟨a1, a2, a3, a4⟩ := h z (by simp)
    have hb64 : (bk L z.toNat).length = 64 := a4.1
    rw [List.flatMap_cons]
    show ldK n (l.length + 1) last L0 (e1 L z ++ l.flatMap (e1 L)) = _
    unfold ldK
    have hlb : lbaL (e1 L z ++ l.flatMap (e1 L)) = z := by simp [lbaL, e1]
    rw [hlb, if_neg (by rw [List.length_append]; simp [e1, hb64] <;> omega), if_neg (by omega)]
    have hd : ((e1 L z ++ l.flatMap (e1 L)).drop 2).take 64 = bk L z.toNat := by
      show ((bk L z.toNat ++ l.flatMap (e1 L))).take 64 = _
      rw [List.take_append_of_le_length (by omega), List.take_of_length_le (by omega)]
    have hd2 : (e1 L z ++ l.flatMap (e1 L)).drop 66 = l.flatMap (e1 L) := by
      show ((bk L z.toNat ++ l.flatMap (e1 L))).drop 64 = _
      rw [List.drop_append_of_le_length (by omega), List.drop_eq_nil_of_le (by omega), List.nil_append]
    rw [hd, hd2]
    exact bytes_ld n hn L l z _ (by rw [List.length_set]; exact h0) hp' (fun y hy => ⟨hz y hy, (h y (by simp [hy])).2⟩)
theorem putAll_length (L : List (List Int)) : ∀ (l : List Int) (L0 : List (List Int)), (putAll L l L0).length = L0.length
  | [], _ => rfl
  | z :: l, L0 => by
    show (putAll L l (L0.set z.toNat (bk L z.toNat))).length = _
    rw [putAll_length L l, List.length_set]
theorem putAll_bk (L : List (List Int)) (i : Nat) : ∀ (l : List Int) (L0 : List (List Int)), (∀ z ∈ l, 0 ≤ z ∧ z.toNat < L0.length) → bk (putAll L l L0) i = if (i : Int) ∈ l then bk L i else bk L0 i
  | [], _, _ => by simp [putAll]
  | z :: l, L0, h => by
    show bk (putAll L l (L0.set z.toNat (bk L z.toNat))) i = _
    rw [putAll_bk L i l _ (fun y hy => by rw [List.length_set]; exact h y (by simp [hy])), bk_set L0 _ (h z (by simp)).2]
    have hz := (h z (by simp)).1
    by_cases h1 : (i : Int) ∈ l
    · rw [if_pos h1, if_pos (by simp [h1])]
    · rw [if_neg h1]
      by_cases h2 : i = z.toNat
      · rw [if_pos h2, if_pos (by simp; left; omega), h2]
      · rw [if_neg h2, if_neg (by simp; exact ⟨by omega, h1⟩)]
theorem be2_val {n : Nat} (h : n < 65536) : unb (be 2 (n : Int)) = n := by
  simp [be, unb]
  omega
theorem bytes_load {L : List (List Int)} (hok : ImgOk L) : loadL (bytesL L) = (0, L) := by
  have hl := hok.lo
  have hh := hok.hi
  have hu := used_le L
  have l1 : (be 2 (L.length : Int)).length = 2 := be_length _ _
  have l2 : (be 2 (used L : Int)).length = 2 := be_length _ _
  have hlen : 4 ≤ (bytesL L).length := by unfold bytesL; simp only [List.length_append]; omega
  have eN : ldN (bytesL L) = L.length := by
    unfold ldN bytesL
    rw [List.append_assoc, List.take_append_of_le_length (by omega), List.take_of_length_le (by omega)]
    exact be2_val (by omega)
  have eU : ldU (bytesL L) = used L := by
    unfold ldU bytesL
    rw [List.append_assoc, List.drop_append_of_le_length (by omega), List.drop_eq_nil_of_le (by omega), List.nil_append, List.take_append_of_le_length (by omega), List.take_of_length_le (by omega)]
    exact be2_val (by omega)
  have eD : (bytesL L).drop 4 = (nums L).flatMap (e1 L) := by
    unfold bytesL
    rw [List.drop_append_of_le_length (by rw [List.length_append]; omega), List.drop_eq_nil_of_le (by rw [List.length_append]; omega), List.nil_append]
  unfold loadL
  rw [if_neg (by omega), eN, if_neg (by omega), eU, eD, Int.toNat_natCast, Int.toNat_natCast]
  have hn : (nums L).length = used L := numsTo_length L _
  rw [← hn, bytes_ld L.length hh L (nums L) (-1) (emptyL L.length) (by simp [emptyL]) (numsTo_sorted L _) (fun z hz => by
    obtain ⟨i, rfl, hi, hb⟩ := (numsTo_mem L z _).1 hz
    exact ⟨by omega, by omega, by omega, by simpa using (hok.at_ i).resolve_left hb⟩)]
  congr 1
  refine img_ext (by rw [putAll_length]; simp [emptyL]) (fun i => ?_)
  rw [putAll_bk L i _ _ (fun z hz => by
    obtain ⟨i, rfl, hi, hb⟩ := (numsTo_mem L z _).1 hz
    exact ⟨by omega, by simpa [emptyL] using hi⟩), bk_empty]
  by_cases h : (i : Int) ∈ nums L
  · rw [if_pos h]
  · rw [if_neg h]
    apply Classical.byContradiction
    intro hb
    refine h ((numsTo_mem L _ _).2 ⟨i, rfl, ?_, fun e => hb e.symm⟩)
    apply Classical.byContradiction
    intro hn
    exact hb (bk_out (by omega)).symm
end Go.Proofs.Ytdddbpnllhnfdaa
