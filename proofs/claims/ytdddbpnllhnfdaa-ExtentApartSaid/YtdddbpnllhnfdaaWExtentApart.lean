/- ExtentApart: the plain law and the walk. -/
import Derived.Test.YtdddbpnllhnfdaaExtS
import Derived.Test.YtdddbpnllhnfdaaExtRow
namespace Go.Proofs.Ytdddbpnllhnfdaa
set_option linter.unusedVariables false
set_option linter.unusedSimpArgs false
set_option maxRecDepth 100000
open Go.RowKit Go.Shelf

theorem set_chTo (i : Nat) (x : List Int) : ∀ (l : List ChS) (L : List (List Int)), (∀ y ∈ l, y.lba.toNat ≠ i) → chTo (L.set i x) l = (chTo L l).set i x
  | [], _, _ => rfl
  | y :: l, L, h => by
    show chTo ((L.set i x).set y.lba.toNat y.d) l = (chTo (L.set y.lba.toNat y.d) l).set i x
    rw [List.set_comm _ _ (h y (by simp)).symm]
    exact set_chTo i x l _ (fun z hz => h z (by simp [hz]))
theorem chTo_comm (b : List ChS) : ∀ (a : List ChS) (L : List (List Int)), (∀ y ∈ a, ∀ z ∈ b, z.lba.toNat ≠ y.lba.toNat) → chTo (chTo L a) b = chTo (chTo L b) a
  | [], _, _ => rfl
  | y :: a, L, h => by
    show chTo (chTo (L.set y.lba.toNat y.d) a) b = chTo ((chTo L b).set y.lba.toNat y.d) a
    rw [chTo_comm b a _ (fun y' hy => h y' (by simp [hy])), set_chTo _ _ b L (h y (by simp))]
theorem changeL_length (L : List (List Int)) (l : List ChS) : (changeL L l).length = L.length := by
  unfold changeL; split
  · exact chTo_length l L
  · rfl
theorem changeL_comm (L : List (List Int)) (a b : List ChS) (h : ∀ y ∈ a, ∀ z ∈ b, y.lba ≠ z.lba) : changeL (changeL L a) b = changeL (changeL L b) a := by
  have lenA : ∀ l, (changeL L l).length = L.length := changeL_length L
  by_cases ha : chRight L.length a = true
  · by_cases hb : chRight L.length b = true
    · have h1 : changeL L a = chTo L a := if_pos ha
      have h2 : changeL L b = chTo L b := if_pos hb
      rw [h1, h2]
      unfold changeL
      rw [chTo_length, chTo_length, if_pos ha, if_pos hb]
      refine chTo_comm b a L (fun y hy z hz e => h y hy z hz ?_)
      have hy0 := (of_decide_eq_true (List.all_eq_true.1 ha y hy)).1
      have hz0 := (of_decide_eq_true (List.all_eq_true.1 hb z hz)).1
      omega
    · have h1 : ∀ L' : List (List Int), L'.length = L.length → changeL L' b = L' := fun L' e => if_neg (by rw [e]; exact hb)
      rw [h1 _ (lenA a), h1 L rfl]
  · have h1 : ∀ L' : List (List Int), L'.length = L.length → changeL L' a = L' := fun L' e => if_neg (by rw [e]; exact ha)
    rw [h1 L rfl, h1 _ (lenA b)]

/-- Two images apart from each other, both new. -/
def Pair (w W : World) (g1 g2 : Nat) (L1 L2 : List (List Int)) : Prop := ∃ B1 D1 M1 B2 D2 M2, IsImg W g1 L1 B1 D1 M1 ∧ IsImg W g2 L2 B2 D2 M2 ∧ (∀ b, M1 b → ¬ M2 b) ∧ (∀ b, M1 b → w.heap.size ≤ b) ∧ (∀ b, M2 b → w.heap.size ≤ b) ∧ Below w.heap.size w W
section
variable {w W W' : World} {g1 g2 : Nat} {L1 L2 : List (List Int)}
theorem Pair.swap (h : Pair w W g1 g2 L1 L2) : Pair w W g2 g1 L2 L1 := by
  obtain ⟨B1, D1, M1, B2, D2, M2, h1, h2, h3, h4, h5, h6⟩ := h
  exact ⟨B2, D2, M2, B1, D1, M1, h2, h1, fun b x y => h3 b y x, h5, h4, h6⟩
theorem Pair.below (h : Pair w W g1 g2 L1 L2) (hb : Below W.heap.size W W') : Pair w W' g1 g2 L1 L2 := by
  obtain ⟨B1, D1, M1, B2, D2, M2, h1, h2, h3, h4, h5, h6⟩ := h
  exact ⟨B1, D1, M1, B2, D2, M2, h1.below hb, h2.below hb, h3, h4, h5, bl_chain h6 hb⟩
theorem Pair.bl (h : Pair w W g1 g2 L1 L2) : Below w.heap.size w W := by
  obtain ⟨B1, D1, M1, B2, D2, M2, h1, h2, h3, h4, h5, h6⟩ := h
  exact h6
theorem Pair.img1 (h : Pair w W g1 g2 L1 L2) : ∃ B D M, IsImg W g1 L1 B D M := by
  obtain ⟨B1, D1, M1, B2, D2, M2, h1, h2, h3, h4, h5, h6⟩ := h
  exact ⟨_, _, _, h1⟩
theorem Pair.change (h : Pair w W g1 g2 L1 L2) {A : Option Addr} {c n : Nat} {l : List ChS} (hl : l.length ≤ 140737488351232) (hA : ChsAt w A l) (hn : L1.length = n) :
    Calls Try.prog 14 #[.pointer (some ⟨g1, 0, none⟩), .slice A l.length c] W fun e W' => e = .returned (.int .i64 (changeE n l)) ∧ Pair w W' g1 g2 (changeL L1 l) L2 := by
  obtain ⟨B1, D1, M1, B2, D2, M2, h1, h2, h3, h4, h5, h6⟩ := h
  subst hn
  refine (change_any h1 A c l hl (hA.below h6)).mono ?_
  rintro e W' ⟨D, M', rfl, hI, hM, ht⟩
  refine ⟨rfl, B1, D, M', B2, D2, M2, hI, h2.tr ht (fun b hb e => h3 B1 h1.mB (e ▸ hb)), fun b hb hb2 => ?_, fun b hb => ?_, h5, h6.trans (ht.to_below h6.size (fun b e => by rw [e]; exact h4 B1 h1.mB))⟩
  · rcases hM b hb with h | h
    · exact h3 b h hb2
    · have := h2.mlt b hb2; omega
  · rcases hM b hb with h | h
    · exact h4 b h
    · exact Nat.le_trans h6.size h
theorem Pair.new {M1' : Nat → Prop} (h1 : Img W g1 L1 M1') (hM1 : ∀ b, M1' b → w.heap.size ≤ b) (hb : Below w.heap.size w W) {M2 : Nat → Prop} (h2 : Img W' g2 L2 M2) (hM2 : ∀ b, M2 b → W.heap.size ≤ b) (hb2 : Below W.heap.size W W') : Pair w W' g1 g2 L1 L2 := by
  obtain ⟨B1, D1, h1⟩ := h1
  obtain ⟨B2, D2, h2⟩ := h2
  exact ⟨B1, D1, M1', B2, D2, M2, h1.below hb2, h2, fun b x y => by have := h1.mlt b x; have := hM2 b y; omega, hM1, fun b x => Nat.le_trans hb.size (hM2 b x), bl_chain hb hb2⟩
end
set_option maxHeartbeats 8000000 in
theorem extentApart_walk (n : Int) (A : Option Addr) (c : Nat) (a : List ChS) (A' : Option Addr) (c' : Nat) (b : List ChS) (w : World) (hn : -9223372036854775808 ≤ n ∧ n ≤ 9223372036854775807) (hla : a.length ≤ 140737488351232) (ha : ChsAt w A a) (hlb : b.length ≤ 140737488351232) (hb : ChsAt w A' b) :
    Calls Try.prog 5 #[.int .i64 n, .slice A a.length c, .slice A' b.length c'] w fun e w' => e = .returned (.bool true) ∧ Below w.heap.size w w' := by
  have HA := Lib.hid ha
  have HB := Lib.hid hb
  clear ha hb
  by_cases hok : 1 ≤ n ∧ n ≤ 256
  · obtain ⟨m, rfl⟩ := Int.eq_ofNat_of_zero_le (show 0 ≤ n by omega)
    have hm1 : 1 ≤ m := by omega
    have hm2 : m ≤ 256 := by omega
    clear hok hn
    go_enter Try.func5, Try.ntmps5
    go_wp2_with (first
      | (go_at_call 20; (with_reducible refine (new_ok m w hm1 hm2).mono ?_); rintro e w1 ⟨g1, M1, rfl, hi1, hM1, hb1⟩; have I1 := Lib.hid hi1; have M1h := Lib.hid hM1; have B1 := Lib.hid hb1; clear hi1 hM1 hb1)
      | (go_at_call 20; (with_reducible refine (new_ok m w1 hm1 hm2).mono ?_); rintro e w2 ⟨g2, M2, rfl, hi2, hM2, hb2⟩; have P2 := Lib.hid (show Pair w w2 g1 g2 (emptyL m) (emptyL m) from Pair.new I1.out M1h.out B1.out hi2 hM2 hb2); clear hi2 hM2 hb2))
    go_loopw [11] (fun v W => ∃ i : Nat, i ≤ a.length ∧ i ≤ 100 ∧ v = .int .i64 (i : Int) ∧ Pair w W g1 g2 (emptyL m) (emptyL m) ∧ (∀ x y : Nat, (hx : x < a.length) → (hy : y < b.length) → x < i → y < 100 → a[x].lba ≠ b[y].lba)) (fun v _ => 100 - (RowKit.intOf v).toNat)
    case atStart => exact ⟨0, by omega, by omega, rfl, P2.out, fun x y hx hy h => by omega⟩
    case round =>
      obtain ⟨i, hi1, hi2, rfl, hP, hD⟩ := hrel
      have P3 := Lib.hid hP
      have D3 := Lib.hid hD
      clear hP hD
      by_cases hla2 : i < a.length
      · by_cases hi3 : i < 100
        · obtain ⟨hin, ba, oa, rfl, hca⟩ := HA.out i hla2
          have xa := hca 0 _ rfl
          simp only [Nat.add_zero] at xa
          clear hca hin
          go_wp2_with fail
          go_loopw [12] (fun v W => ∃ k : Nat, k ≤ b.length ∧ k ≤ 100 ∧ v = .int .i64 (k : Int) ∧ Pair w W g1 g2 (emptyL m) (emptyL m) ∧ (∀ y : Nat, (hy : y < b.length) → y < k → a[i].lba ≠ b[y].lba)) (fun v _ => 100 - (RowKit.intOf v).toNat)
          case atStart => exact ⟨0, by omega, by omega, rfl, P3.out, fun y hy h => by omega⟩
          case round =>
            obtain ⟨k, hk1, hk2, rfl, hP, hE⟩ := hrel
            have P4 := Lib.hid hP
            have E4 := Lib.hid hE
            clear hP hE
            by_cases hlb2 : k < b.length
            · by_cases hk3 : k < 100
              · obtain ⟨hin, bb, ob, rfl, hcb⟩ := HB.out k hlb2
                have xb := hcb 0 _ rfl
                simp only [Nat.add_zero] at xb
                clear hcb hin
                have xa2 := (P4.out.bl.cell (cell_block_lt xa)).trans xa
                have xb2 := (P4.out.bl.cell (cell_block_lt xb)).trans xb
                by_cases hne : a[i].lba = b[k].lba
                · have t1 : (a[i].lba == b[k].lba) = true := by simpa using hne
                  clear hne
                  generalize a[i].lba = za at xa2 t1
                  generalize b[k].lba = zb at xb2 t1
                  go_wp2_with fail
                  go_quiet (fail)
                  go_wp2_with (first
                    | (go_at_call 12; (with_reducible refine (known_any _).mono ?_); rintro e w9 ⟨rfl, hb9⟩; have B9 := Lib.hid (bl_chain P4.out.bl (bl_chain (bl_drewN _ _) hb9)); clear hb9))
                  go_ret
                  exact ⟨rfl, B9.out⟩
                · have HNE := Lib.hid hne
                  have t1 : (a[i].lba == b[k].lba) = false := by simpa using hne
                  clear hne
                  generalize hza : a[i].lba = za at xa2 t1
                  generalize hzb : b[k].lba = zb at xb2 t1
                  have HZA := Lib.hid hza
                  clear hza hzb
                  go_wp2_with fail
                  go_quiet (fail)
                  go_wp2_with fail
                  refine ⟨⟨k + 1, by omega, by omega, by go_num, P4.out.below (bl_drewN _ _), fun y hy h => ?_⟩, by simp [RowKit.intOf]; omega⟩
                  rw [← HZA.out]
                  by_cases e : y = k
                  · subst e; exact HNE.out
                  · exact E4.out y hy (by omega)
              · go_wp2_with fail
                refine ⟨⟨i + 1, by omega, by omega, by go_num, P4.out, fun x y hx hy h1 h2 => ?_⟩, by simp [RowKit.intOf]; omega⟩
                by_cases e : x = i
                · subst e; exact E4.out y hy (by omega)
                · exact D3.out x y hx hy (by omega) h2
            · go_wp2_with fail
              refine ⟨⟨i + 1, by omega, by omega, by go_num, P4.out, fun x y hx hy h1 h2 => ?_⟩, by simp [RowKit.intOf]; omega⟩
              by_cases e : x = i
              · subst e; exact E4.out y hy (by omega)
              · exact D3.out x y hx hy (by omega) h2
        · have h100 : 100 < a.length := by omega
          have t9 : decide (100 < (a.length : Int)) = true := decide_eq_true (by omega)
          go_wp2_with (first
            | (go_at_call 12; (with_reducible refine (known_any _).mono ?_); rintro e w9 ⟨rfl, hb9⟩; have B9 := Lib.hid (bl_chain P3.out.bl hb9); clear hb9))
          go_ret
          exact ⟨rfl, B9.out⟩
      · by_cases hb100 : 100 < b.length
        · have t9 : decide (100 < (b.length : Int)) = true := decide_eq_true (by omega)
          go_wp2_with (first
            | (go_at_call 12; (with_reducible refine (known_any _).mono ?_); rintro e w9 ⟨rfl, hb9⟩; have B9 := Lib.hid (bl_chain P3.out.bl hb9); clear hb9))
          go_ret
          exact ⟨rfl, B9.out⟩
        · have HCM : Hid (changeL (changeL (emptyL m) a) b = changeL (changeL (emptyL m) b) a) := Lib.hid (changeL_comm _ a b (fun y hy z hz => by
            obtain ⟨x, hx, rfl⟩ := List.getElem_of_mem hy
            obtain ⟨x', hx', rfl⟩ := List.getElem_of_mem hz
            exact D3.out x x' hx hx' (by omega) (by omega)))
          have LE : Hid ((emptyL m).length = m ∧ ∀ l, (changeL (emptyL m) l).length = m) := Lib.hid ⟨by simp [emptyL], fun l => by rw [changeL_length]; simp [emptyL]⟩
          have t9 : decide (100 < (a.length : Int)) = false := decide_eq_false (by omega)
          have t8 : decide (100 < (b.length : Int)) = false := decide_eq_false (by omega)
          obtain ⟨ea, hea⟩ : ∃ e, changeE m a = e := ⟨_, rfl⟩
          obtain ⟨eb, heb⟩ : ∃ e, changeE m b = e := ⟨_, rfl⟩
          have C1 := Lib.hid (show ∀ W, Pair w W g1 g2 (emptyL m) (emptyL m) → Calls Try.prog 14 #[.pointer (some ⟨g1, 0, none⟩), .slice A a.length c] W fun e W' => e = .returned (.int .i64 ea) ∧ Pair w W' g1 g2 (changeL (emptyL m) a) (emptyL m) from fun W h => by rw [← hea]; exact h.change hla HA.out LE.out.1)
          have C2 := Lib.hid (show ∀ W, Pair w W g1 g2 (changeL (emptyL m) a) (emptyL m) → Calls Try.prog 14 #[.pointer (some ⟨g1, 0, none⟩), .slice A' b.length c'] W fun e W' => e = .returned (.int .i64 eb) ∧ Pair w W' g1 g2 (changeL (changeL (emptyL m) a) b) (emptyL m) from fun W h => by rw [← heb]; exact h.change hlb HB.out (LE.out.2 a))
          have C3 := Lib.hid (show ∀ W, Pair w W g1 g2 (changeL (changeL (emptyL m) a) b) (emptyL m) → Calls Try.prog 14 #[.pointer (some ⟨g2, 0, none⟩), .slice A' b.length c'] W fun e W' => e = .returned (.int .i64 eb) ∧ Pair w W' g1 g2 (changeL (changeL (emptyL m) a) b) (changeL (emptyL m) b) from fun W h => by rw [← heb]; exact (h.swap.change hlb HB.out LE.out.1).mono fun e W' h => ⟨h.1, h.2.swap⟩)
          have C4 := Lib.hid (show ∀ W, Pair w W g1 g2 (changeL (changeL (emptyL m) a) b) (changeL (emptyL m) b) → Calls Try.prog 14 #[.pointer (some ⟨g2, 0, none⟩), .slice A a.length c] W fun e W' => e = .returned (.int .i64 ea) ∧ Pair w W' g1 g2 (changeL (changeL (emptyL m) a) b) (changeL (changeL (emptyL m) a) b) from fun W h => by rw [← hea]; exact (h.swap.change hla HA.out (LE.out.2 b)).mono fun e W' h => ⟨h.1, by rw [HCM.out] at h ⊢; exact h.2.swap⟩)
          clear hea heb
          obtain ⟨L3, hL3⟩ : ∃ L3, changeL (changeL (emptyL m) a) b = L3 := ⟨_, rfl⟩
          rw [hL3] at C2 C3 C4
          clear hL3
          go_wp2_with (first
            | (go_at_call 14; (with_reducible refine (C1.out _ P3.out).mono ?_); rintro e w3 ⟨rfl, hp⟩; have P5 := Lib.hid hp; clear hp)
            | (go_at_call 14; (with_reducible refine (C2.out _ P5.out).mono ?_); rintro e w4 ⟨rfl, hp⟩; have P6 := Lib.hid hp; clear hp)
            | (go_at_call 14; (with_reducible refine (C3.out _ P6.out).mono ?_); rintro e w5 ⟨rfl, hp⟩; have P7 := Lib.hid hp; clear hp)
            | (go_at_call 14; (with_reducible refine (C4.out _ P7.out).mono ?_); rintro e w6 ⟨rfl, hp⟩; have P8 := Lib.hid hp; clear hp))
          obtain ⟨SB, hSB⟩ : ∃ SB, strOfNums (bytesL L3) = SB := ⟨_, rfl⟩
          have eB : (SB.toList == SB.toList) = true := by simp
          have HSB := Lib.hid hSB
          clear hSB
          have HSM := Lib.hid (show ∀ W, Pair w W g1 g2 L3 L3 → Calls Try.prog 21 #[.pointer (some ⟨g1, 0, none⟩), .pointer (some ⟨g2, 0, none⟩)] W fun e w' => e = .returned (.bool true) ∧ Below W.heap.size W w' from fun W h => by
            obtain ⟨B1, D1, M1, h1⟩ := h.img1
            obtain ⟨B2, D2, M2, h2⟩ := h.swap.img1
            have := same_any ⟨B1, D1, h1⟩ ⟨B2, D2, h2⟩
            rw [decide_eq_true rfl] at this
            exact this)
          have HBY := Lib.hid (show ∀ W g g', Pair w W g g' L3 L3 → Calls Try.prog 13 #[.pointer (some ⟨g, 0, none⟩)] W fun e w' => ∃ A c, e = .returned (.slice A (bytesL L3).length c) ∧ w'.ownsRow W.heap.size 5 1 (.slice A (bytesL L3).length c) (bytesL L3).length (by8 (bytesL L3)) ∧ Below W.heap.size W w' from fun W g g' h => by
            obtain ⟨B1, D1, M1, h1⟩ := h.img1
            refine (bytes_any h1).mono ?_
            rintro e w' ⟨A, c, rfl, _, ho, hb⟩
            exact ⟨A, c, rfl, ho, hb⟩)
          refine ext_start (by kernel_rfl) ?_
          refine ext_take (i := 0) (v := ?_) rfl (by kernel_rfl) (by kernel_rfl) (by kernel_rfl) (fun _ _ _ h => h) (Or.inl ⟨by rfl, ?_⟩) ?_
          rotate_left
          · (intro W hSw; go_simp; try with_reducible rfl)
          try simp only [Act.put, List.setIfInBounds_toArray, List.set_cons_zero, List.set_cons_succ]
          refine ext_take (i := 1) (v := ?_) rfl (by kernel_rfl) (by kernel_rfl) (by kernel_rfl) (fun _ _ _ h => h) (Or.inl ⟨by rfl, ?_⟩) ?_
          rotate_left
          · (intro W hSw; go_simp; try with_reducible rfl)
          try simp only [Act.put, List.setIfInBounds_toArray, List.set_cons_zero, List.set_cons_succ]
          refine ext_take (i := 2) (v := ?_) rfl (by kernel_rfl) (by kernel_rfl) (by kernel_rfl) (fun _ _ _ h => h) (Or.inl ⟨by rfl, ?_⟩) ?_
          rotate_left
          · (intro W hSw; go_simp; try with_reducible rfl)
          try simp only [Act.put, List.setIfInBounds_toArray, List.set_cons_zero, List.set_cons_succ]
          refine ext_take (i := 3) (v := ?_) rfl (by kernel_rfl) (by kernel_rfl) (by kernel_rfl) (fun _ _ _ h => h) (Or.inl ⟨by rfl, ?_⟩) ?_
          rotate_left
          · (intro W hSw; go_simp; try with_reducible rfl)
          try simp only [Act.put, List.setIfInBounds_toArray, List.set_cons_zero, List.set_cons_succ]
          refine ext_take (i := 4) (v := ?_) rfl (by kernel_rfl) (by kernel_rfl) (by kernel_rfl) (fun _ _ _ h => h) (Or.inl ⟨by rfl, ?_⟩) ?_
          rotate_left
          · (intro W hSw; go_simp; try with_reducible rfl)
          try simp only [Act.put, List.setIfInBounds_toArray, List.set_cons_zero, List.set_cons_succ]
          refine ext_take (i := 5) (v := ?_) rfl (by kernel_rfl) (by kernel_rfl) (by kernel_rfl) (fun _ _ _ h => h) (Or.inl ⟨by rfl, ?_⟩) ?_
          rotate_left
          · (intro W hSw; go_simp; try with_reducible rfl)
          try simp only [Act.put, List.setIfInBounds_toArray, List.set_cons_zero, List.set_cons_succ]
          refine ext_take (i := 6) (v := ?_) rfl (by kernel_rfl) (by kernel_rfl) (by kernel_rfl) (fun _ _ _ h => h) (Or.inl ⟨by rfl, ?_⟩) ?_
          rotate_left
          · (intro W hSw; go_simp; try with_reducible rfl)
          try simp only [Act.put, List.setIfInBounds_toArray, List.set_cons_zero, List.set_cons_succ]
          refine ext_take (i := 7) (v := ?_) rfl (by kernel_rfl) (by kernel_rfl) (by kernel_rfl) (fun _ _ _ h => h) (Or.inl ⟨by rfl, ?_⟩) ?_
          rotate_left
          · (intro W hSw; go_simp; try with_reducible rfl)
          try simp only [Act.put, List.setIfInBounds_toArray, List.set_cons_zero, List.set_cons_succ]
          refine ext_take (i := 8) (v := ?_) rfl (by kernel_rfl) (by kernel_rfl) (by kernel_rfl) (fun _ _ _ h => h) (Or.inl ⟨by rfl, ?_⟩) ?_
          rotate_left
          · (intro W hSw; go_simp; try with_reducible rfl)
          try simp only [Act.put, List.setIfInBounds_toArray, List.set_cons_zero, List.set_cons_succ]
          refine ext_take (i := 9) (v := ?_) rfl (by kernel_rfl) (by kernel_rfl) (by kernel_rfl) (fun _ _ _ h => h) (Or.inl ⟨by rfl, ?_⟩) ?_
          rotate_left
          · (intro W hSw; go_simp; try with_reducible rfl)
          try simp only [Act.put, List.setIfInBounds_toArray, List.set_cons_zero, List.set_cons_succ]
          refine ext_take (i := 10) (v := ?_) rfl (by kernel_rfl) (by kernel_rfl) (by kernel_rfl) (fun _ _ _ h => h) (Or.inl ⟨by rfl, ?_⟩) ?_
          rotate_left
          · (intro W hSw; go_simp; try with_reducible rfl)
          try simp only [Act.put, List.setIfInBounds_toArray, List.set_cons_zero, List.set_cons_succ]
          refine ext_call (i := 11) (by kernel_rfl) rfl (fun K hK => ?_)
          go_simp
          (go_at_call 21; (with_reducible refine (HSM.out _ (P8.out.below (bl_drew w6))).mono ?_); rintro e w7 ⟨rfl, hb⟩; have P9 := Lib.hid ((P8.out.below (bl_drew w6)).below hb); have X7 := Lib.hid hb; clear hb)
          refine hK.out _ _ (X7.out) ?_
          clear hK K
          try simp only [Act.put, List.setIfInBounds_toArray, List.set_cons_zero, List.set_cons_succ]
          refine ext_take (i := 12) (v := ?_) rfl (by kernel_rfl) (by kernel_rfl) (by kernel_rfl) (fun _ _ _ h => h) (Or.inl ⟨by rfl, ?_⟩) ?_
          rotate_left
          · (intro W hSw; go_simp; try with_reducible rfl)
          try simp only [Act.put, List.setIfInBounds_toArray, List.set_cons_zero, List.set_cons_succ]
          refine ext_take (i := 13) (v := ?_) rfl (by kernel_rfl) (by kernel_rfl) (by kernel_rfl) (fun _ _ _ h => h) (Or.inl ⟨by rfl, ?_⟩) ?_
          rotate_left
          · (intro W hSw; go_simp; try with_reducible rfl)
          try simp only [Act.put, List.setIfInBounds_toArray, List.set_cons_zero, List.set_cons_succ]
          refine ext_take (i := 14) (v := ?_) rfl (by kernel_rfl) (by kernel_rfl) (by kernel_rfl) (fun _ _ _ h => h) (Or.inl ⟨by rfl, ?_⟩) ?_
          rotate_left
          · (intro W hSw; go_simp; try with_reducible rfl)
          try simp only [Act.put, List.setIfInBounds_toArray, List.set_cons_zero, List.set_cons_succ]
          refine ext_take (i := 17) (v := ?_) rfl (by kernel_rfl) (by kernel_rfl) (by kernel_rfl) (fun _ _ _ h => h) (Or.inl ⟨by rfl, ?_⟩) ?_
          rotate_left
          · (intro W hSw; go_simp; try with_reducible rfl)
          try simp only [Act.put, List.setIfInBounds_toArray, List.set_cons_zero, List.set_cons_succ]
          refine ext_call (i := 15) (by kernel_rfl) rfl (fun K hK => ?_)
          go_simp
          (go_at_call 13; (with_reducible refine (HBY.out _ g1 g2 P9.out).mono ?_); rintro e w8 ⟨A8, c8, rfl, ho, hb⟩; have k8 := ext_conv (c := c8) (Rd.of_own ho) rfl; rw [HSB.out] at k8; have P10 := Lib.hid (P9.out.below hb); have X8 := Lib.hid hb; clear ho hb)
          refine hK.out _ _ (X8.out) ?_
          clear hK K
          try simp only [Act.put, List.setIfInBounds_toArray, List.set_cons_zero, List.set_cons_succ]
          refine ext_take (i := 16) (v := ?_) rfl (by kernel_rfl) (by kernel_rfl) (by kernel_rfl) (fun _ _ _ h => h) (Or.inl ⟨by rfl, ?_⟩) ?_
          rotate_left
          · (intro W hSw; go_simp; try with_reducible rfl)
          try simp only [Act.put, List.setIfInBounds_toArray, List.set_cons_zero, List.set_cons_succ]
          refine ext_call (i := 18) (by kernel_rfl) rfl (fun K hK => ?_)
          go_simp
          (go_at_call 13; (with_reducible refine (HBY.out _ g2 g1 P10.out.swap).mono ?_); rintro e w9 ⟨A9, c9, rfl, ho, hb⟩; have k9 := ext_conv (c := c9) (Rd.of_own ho) rfl; rw [HSB.out] at k9; replace k8 := ext_on k8 hb; have P11 := Lib.hid (P10.out.below hb); have X9 := Lib.hid hb; clear ho hb)
          refine hK.out _ _ (X9.out) ?_
          clear hK K
          try simp only [Act.put, List.setIfInBounds_toArray, List.set_cons_zero, List.set_cons_succ]
          refine ext_take (i := 19) (v := ?_) rfl (by kernel_rfl) (by kernel_rfl) (by kernel_rfl) (fun _ _ _ h => h) (Or.inl ⟨by rfl, ?_⟩) ?_
          rotate_left
          · (intro W hSw; go_simp; try with_reducible rfl)
          try simp only [Act.put, List.setIfInBounds_toArray, List.set_cons_zero, List.set_cons_succ]
          refine ext_take (i := 20) (v := ?_) rfl (by kernel_rfl) (by kernel_rfl) (by kernel_rfl) (fun _ _ _ h => h) (Or.inl ⟨by rfl, ?_⟩) ?_
          rotate_left
          · (intro W hSw; go_simp; try with_reducible rfl)
          try simp only [Act.put, List.setIfInBounds_toArray, List.set_cons_zero, List.set_cons_succ]
          refine ext_take (i := 21) (v := ?_) rfl (by kernel_rfl) (by kernel_rfl) (by kernel_rfl) (fun _ _ _ h => h) (Or.inl ⟨by rfl, ?_⟩) ?_
          rotate_left
          · (intro W hSw; go_simp; try with_reducible rfl)
          try simp only [Act.put, List.setIfInBounds_toArray, List.set_cons_zero, List.set_cons_succ]
          refine ext_take (i := 22) (v := ?_) rfl (by kernel_rfl) (by kernel_rfl) (by kernel_rfl) (fun _ _ _ h => h) (Or.inl ⟨by rfl, ?_⟩) ?_
          rotate_left
          · (intro W hSw; go_simp; try with_reducible rfl)
          try simp only [Act.put, List.setIfInBounds_toArray, List.set_cons_zero, List.set_cons_succ]
          refine ext_call (i := 23) (by kernel_rfl) rfl (fun K hK => ?_)
          go_simp
          (go_at_call 12; (with_reducible refine (known_any _).mono ?_); rintro e w10 ⟨rfl, hb⟩; have P12 := Lib.hid (P11.out.below hb); have X10 := Lib.hid hb; clear hb)
          refine hK.out _ _ (X10.out) ?_
          clear hK K
          try simp only [Act.put, List.setIfInBounds_toArray, List.set_cons_zero, List.set_cons_succ]
          refine ext_take (i := 24) (v := ?_) rfl (by kernel_rfl) (by kernel_rfl) (by kernel_rfl) (fun _ _ _ h => h) (Or.inl ⟨by rfl, ?_⟩) ?_
          rotate_left
          · (intro W hSw; go_simp; try with_reducible rfl)
          try simp only [Act.put, List.setIfInBounds_toArray, List.set_cons_zero, List.set_cons_succ]
          refine ext_take (i := 25) (v := ?_) rfl (by kernel_rfl) (by kernel_rfl) (by kernel_rfl) (fun _ _ _ h => h) (Or.inl ⟨by rfl, ?_⟩) ?_
          rotate_left
          · (intro W hSw; go_simp; try with_reducible rfl)
          try simp only [Act.put, List.setIfInBounds_toArray, List.set_cons_zero, List.set_cons_succ]
          refine wpAnyH_done (by kernel_rfl) ?_ _
          go_wp2_with fail
          go_ret
          exact ⟨rfl, P12.out.bl⟩
  · have hnb := fun W => new_bad n W hok
    go_enter Try.func5, Try.ntmps5
    go_wp2_with (first
      | (go_at_call 20; (with_reducible refine (hnb w).mono ?_); rintro e w1 ⟨rfl, rfl⟩)
      | (go_at_call 12; (with_reducible refine (known_any _).mono ?_); rintro e w9 ⟨rfl, hb9⟩; have B9 := Lib.hid hb9; clear hb9))
    go_ret
    exact ⟨rfl, B9.out⟩
end Go.Proofs.Ytdddbpnllhnfdaa
