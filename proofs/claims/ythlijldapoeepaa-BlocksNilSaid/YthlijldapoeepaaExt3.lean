/- Contracts of the package extent: Change. -/
import Derived.Test.YthlijldapoeepaaChDef
import Derived.Test.YthlijldapoeepaaMapR
namespace Go.Proofs.Ythlijldapoeepaa
set_option linter.unusedVariables false
set_option linter.unusedSimpArgs false
set_option maxRecDepth 100000
open Go.RowKit

section
variable {w : World} {g B : Nat} {L : List (List Int)} {D : DataW Unit} {M : Nat → Prop}
theorem change_nil (A : Option Addr) (n c : Nat) (w : World) : Calls Try.prog 26 #[.pointer none, .slice A n c] w fun e w' => e = .returned (.int .i64 2) ∧ w = w' := by
  go_enter Try.func26, Try.ntmps26
  go_wp2_with fail
  go_ret
  exact ⟨rfl, rfl⟩
theorem chRight_take {n : Nat} {l : List ChS} {j : Nat} (h : chRight n (l.take j) = true) (hj : j < l.length) (hk : chOk n l[j] = true) : chRight n (l.take (j + 1)) = true := by
  unfold chRight at *
  rw [List.take_succ_eq_append_getElem hj, List.all_append, h]
  simp [hk]
theorem chRight_at {n : Nat} {l : List ChS} (h : chRight n l = true) (j : Nat) (hj : j < l.length) : chOk n l[j] = true := by
  unfold chRight at h
  exact List.all_eq_true.1 h _ (List.getElem_mem hj)
theorem chRight_no {n : Nat} {l : List ChS} (j : Nat) (hj : j < l.length) (h : chOk n l[j] = false) : chRight n l = false := by
  unfold chRight
  rw [List.all_eq_false]
  exact ⟨_, List.getElem_mem hj, by rw [h]; simp⟩
theorem change_neg {w' : World} {l : List ChS} {e : Ending} (h : IsImg w g L B D M) (hr : chRight L.length l = false) (hb : Below w.heap.size w w') (he : e = .returned (.int .i64 1)) : RetS w g (changeL L l) B M (changeE L.length l) e w' := by
  have e1 : changeL L l = L := if_neg (by rw [hr]; simp)
  have e2 : changeE L.length l = 1 := if_neg (by rw [hr]; simp)
  rw [e1, e2]
  exact ⟨D, M, he, h.below hb, fun b hb => .inl hb, Tr.of_below hb⟩
theorem bl_drewN (w : World) (n : Nat) : Below w.heap.size w (w.drewN n) := ⟨rfl, rfl, rfl, Nat.le_refl _, fun _ _ => rfl⟩
theorem noCells_below {w w' : World} {F : Nat → Prop} (h : NoCells w F) (hb : Tr NoB w w') : NoCells w' F := fun b hf => by
  obtain ⟨o, ho, hc⟩ := h b hf
  exact ⟨o, (hb.block b (Array.getElem?_eq_some_iff.1 ho).1 id).trans ho, hc⟩
theorem own64 {w : World} {base c : Nat} {A : Option Addr} {xs : List Value} (h : w.ownsRow base 5 1 (.slice A 64 c) 64 xs) : ∃ b, A = some ⟨b, 0, none⟩ ∧ base ≤ b ∧ b < w.heap.size ∧ 64 ≤ c ∧ c ≤ maxLen := by
  have hlt := own_lt h
  rcases h.2 with ⟨_, h2⟩ | ⟨g, cap, cur, h1, h2, _, h3, h4, _⟩
  · cases h2
  · injection h1 with e1 e2 e3
    subst e1 e3
    exact ⟨g, rfl, h2, hlt g ((Blo.some_iff _ _).2 rfl), h3, h4⟩
set_option maxHeartbeats 3200000 in
theorem change_any (h : IsImg w g L B D M) (A : Option Addr) (c : Nat) (l : List ChS) (hl : l.length ≤ 140737488351232) (hA : ChsAt w A l) :
    Calls Try.prog 26 #[.pointer (some ⟨g, 0, none⟩), .slice A l.length c] w (RetS w g (changeL L l) B M (changeE L.length l)) := by
  have HH := Lib.hid h
  have HA := Lib.hid hA
  have h256 := h.ok.hi
  clear h hA
  go_enter Try.func26, Try.ntmps26
  go_wp2_with fail
  go_loopw [6, 13] (fun _ v w2 => ∃ j : Nat, j ≤ l.length ∧ v = .int .i64 j ∧ chRight L.length (l.take j) = true ∧ Below w.heap.size w w2) (fun _ v _ => l.length - (intOf v).toNat)
  case atStart => exact ⟨0, by omega, rfl, rfl, Below.refl _ _⟩
  case round =>
    obtain ⟨j, hj, rfl, hr, hb⟩ := hrel
    have HR := Lib.hid hr
    have HB := Lib.hid hb
    clear hr hb
    by_cases hlt : j < l.length
    · obtain ⟨hin, b, o, rfl, hc⟩ := HA.out j hlt
      have x0 := (HB.out.cell (cell_block_lt (hc 0 _ rfl))).trans (hc 0 _ rfl)
      have x1 := (HB.out.cell (cell_block_lt (hc 1 _ rfl))).trans (hc 1 _ rfl)
      have HN : ∀ hk : chOk L.length l[j] = false, chRight L.length l = false := fun hk => chRight_no j hlt hk
      have HY : ∀ hk : chOk L.length l[j] = true, chRight L.length (l.take (j + 1)) = true := fun hk => chRight_take HR.out hlt hk
      have HNH := Lib.hid HN
      have HYH := Lib.hid HY
      clear HN HY hc
      have hlb := hin.lb
      have hln := hin.len
      clear hin
      generalize l[j] = y at HNH HYH x0 x1 hlb hln
      have c0 := (HH.out.below HB.out).c0
      simp only [Nat.add_zero] at x0
      rw [← Nat.add_assoc] at x1
      have hcs : y.lba < 0 ∨ (0 ≤ y.lba ∧ (L.length : Int) ≤ y.lba) ∨ (0 ≤ y.lba ∧ y.lba < L.length ∧ y.d.length = 0) ∨ (0 ≤ y.lba ∧ y.lba < L.length ∧ y.d.length ≠ 0 ∧ y.d.length = 64) ∨ (0 ≤ y.lba ∧ y.lba < L.length ∧ y.d.length ≠ 0 ∧ y.d.length ≠ 64) := by omega
      have HG := Lib.hid ((HB.out.alloc (HB.out.size) (.cells #[.int .i64 y.lba, .slice y.A y.d.length y.c] 48)))
      have c0a := (HH.out.below HG.out).c0
      have HBK := Blk.new wr 48 #[.int .i64 y.lba, .slice y.A y.d.length y.c]
      have y0 : (wr.alloc (.cells #[.int .i64 y.lba, .slice y.A y.d.length y.c] 48)).cell? ⟨wr.heap.size, 0, none⟩ = some (.int .i64 y.lba) := HBK.cell 0
      have y1 : (wr.alloc (.cells #[.int .i64 y.lba, .slice y.A y.d.length y.c] 48)).cell? ⟨wr.heap.size, 1, none⟩ = some (.slice y.A y.d.length y.c) := HBK.cell 1
      clear HBK
      go_wp2_with fail
      generalize hW : wr.alloc (.cells #[.int .i64 y.lba, .slice y.A y.d.length y.c] 48) = W1 at c0a y0 y1 HG ⊢
      clear hW x0 x1 c0
      have HQ : ∀ a b : Int, ¬ a = b → (a != b) = true := fun a b h => by simpa using h
      have HQT : ∀ a b : Int, a = b → (a != b) = false := fun a b h => by simpa using h
      have HQ := Lib.hid HQ
      have HQT := Lib.hid HQT
      rcases hcs with h1 | ⟨h1, h2⟩ | ⟨h1, h2, h3⟩ | ⟨h1, h2, h3, h4⟩ | ⟨h1, h2, h3, h4⟩
      · have HE := Lib.hid (HNH.out (decide_eq_false (by omega)))
        go_quiet (fail)
        go_wp2_with fail
        go_ret
        exact change_neg HH.out HE.out (bl_chain HG.out (bl_drewN _ _)) rfl
      · have HE := Lib.hid (HNH.out (decide_eq_false (by omega)))
        have t1 : decide (y.lba < 0) = false := decide_eq_false (by omega)
        have t2 : decide ((L.length : Int) ≤ y.lba) = true := decide_eq_true (by omega)
        clear h1 h2
        go_quiet (fail)
        go_wp2_with fail
        go_ret
        exact change_neg HH.out HE.out (bl_chain HG.out (bl_drewN _ _)) rfl
      · have HE := Lib.hid (HYH.out (decide_eq_true (by omega)))
        have t1 : decide (y.lba < 0) = false := decide_eq_false (by omega)
        have t2 : decide ((L.length : Int) ≤ y.lba) = false := decide_eq_false (by omega)
        have t3 : ((y.d.length : Int) != 0) = false := HQT.out _ _ (by omega)
        clear h1 h2 h3
        go_quiet (fail)
        go_wp2_with fail
        go_roundw
        case rel => exact ⟨j + 1, by omega, by go_num, HE.out, bl_chain HG.out (bl_drewN _ _)⟩
        case measure => simp [intOf]; omega
      · have HE := Lib.hid (HYH.out (decide_eq_true (by omega)))
        have t1 : decide (y.lba < 0) = false := decide_eq_false (by omega)
        have t2 : decide ((L.length : Int) ≤ y.lba) = false := decide_eq_false (by omega)
        have t3 : ((y.d.length : Int) != 0) = true := HQ.out _ _ (by omega)
        have t4 : ((y.d.length : Int) != 64) = false := HQT.out _ _ (by omega)
        clear h1 h2 h3 h4
        go_quiet (fail)
        go_wp2_with fail
        go_roundw
        case rel => exact ⟨j + 1, by omega, by go_num, HE.out, bl_chain HG.out (bl_drewN _ _)⟩
        case measure => simp [intOf]; omega
      · have HE := Lib.hid (HNH.out (decide_eq_false (by omega)))
        have t1 : decide (y.lba < 0) = false := decide_eq_false (by omega)
        have t2 : decide ((L.length : Int) ≤ y.lba) = false := decide_eq_false (by omega)
        have t3 : ((y.d.length : Int) != 0) = true := HQ.out _ _ (by omega)
        have t4 : ((y.d.length : Int) != 64) = true := HQ.out _ _ (by omega)
        clear h1 h2 h3 h4
        go_quiet (fail)
        go_wp2_with fail
        go_ret
        exact change_neg HH.out HE.out (bl_chain HG.out (bl_drewN _ _)) rfl
    · have hall : chRight L.length l = true := by
        have := HR.out
        rwa [List.take_of_length_le (by omega)] at this
      have HALL := Lib.hid hall
      have e1 : Hid (changeL L l = chTo L l ∧ changeE L.length l = 0) := Lib.hid ⟨if_pos hall, if_pos hall⟩
      clear hall
      go_wp2_with fail
      go_loopw [8, 44] (fun _ v w2 => ∃ j : Nat, j ≤ l.length ∧ v = .int .i64 j ∧ (∃ D' M', IsImg w2 g (chTo L (l.take j)) B D' M' ∧ (∀ b, M' b → M b ∨ w.heap.size ≤ b)) ∧ Tr (fun b => b = B) w w2) (fun _ v _ => l.length - (intOf v).toNat)
      case atStart => exact ⟨0, by omega, rfl, ⟨D, M, HH.out.below HB.out, fun b hb => .inl hb⟩, Tr.of_below HB.out⟩
      case round =>
        obtain ⟨i, hi, rfl, ⟨D', M', ho, hM⟩, ht⟩ := hrel
        have HO := Lib.hid ho
        have HT := Lib.hid ht
        have HM := Lib.hid hM
        clear ho ht hM
        by_cases hlt2 : i < l.length
        · have HAT := Lib.hid (HA.out.trc HT.out (NoCells.mapB HH.out))
          obtain ⟨hin, b, o, rfl, hc⟩ := HAT.out i hlt2
          have x0 := hc 0 _ rfl
          have x1 := hc 1 _ rfl
          have hok := of_decide_eq_true (chRight_at HALL.out i hlt2)
          have HS := Lib.hid (chTo_snoc L l i hlt2)
          clear hc
          have hlb := hin.lb
          have HRD := Lib.hid hin.rd
          have HIB := Lib.hid hin.b
          clear hin
          generalize l[i] = y at HS x0 x1 hlb hok HRD HIB
          simp only [Nat.add_zero] at x0
          rw [← Nat.add_assoc] at x1
          have c1 := HO.out.c1
          obtain ⟨q, hq⟩ := Int.eq_ofNat_of_zero_le hok.1
          have HK : Hid (keyOf Try.prog 3 (.int .i64 y.lba) = some (lk (q : Int))) := Lib.hid (by rw [← hq]; exact keyOfI hlb)
          have HQ2 : Hid (y.lba.toNat = q ∧ q < (chTo L (l.take i)).length) := Lib.hid ⟨by omega, by rw [chTo_length]; omega⟩
          have hd : y.d.length = 0 ∨ y.d.length = 64 := hok.2.2
          clear hq hok hlb
          have HI1 := Lib.hid (HO.out.below (bl_alloc wr (.cells #[.int .i64 y.lba, .slice y.A y.d.length y.c] 48)))
          have HRD1 := Lib.hid (HRD.out.below (bl_alloc wr (.cells #[.int .i64 y.lba, .slice y.A y.d.length y.c] 48)))
          have HT1 := Lib.hid (HT.out.alloc (.cells #[.int .i64 y.lba, .slice y.A y.d.length y.c] 48))
          have c1a := HI1.out.c1
          have HBK := Blk.new wr 48 #[.int .i64 y.lba, .slice y.A y.d.length y.c]
          have y0 : (wr.alloc (.cells #[.int .i64 y.lba, .slice y.A y.d.length y.c] 48)).cell? ⟨wr.heap.size, 0, none⟩ = some (.int .i64 y.lba) := HBK.cell 0
          have y1 : (wr.alloc (.cells #[.int .i64 y.lba, .slice y.A y.d.length y.c] 48)).cell? ⟨wr.heap.size, 1, none⟩ = some (.slice y.A y.d.length y.c) := HBK.cell 1
          have HQ : ∀ a b : Int, ¬ a = b → (a == b) = false := fun a b h => by simpa using h
          have HQT : ∀ a b : Int, a = b → (a == b) = true := fun a b h => by simpa using h
          have HQ := Lib.hid HQ
          have HQT := Lib.hid HQT
          rcases hd with h0 | h64
          · have t3 : ((y.d.length : Int) == 0) = true := HQT.out _ _ (by omega)
            have HE0 := Lib.hid h0
            clear h0
            go_wp2_with fail
            generalize hW : wr.alloc (.cells #[.int .i64 y.lba, .slice y.A y.d.length y.c] 48) = W1 at c1a y0 y1 HI1 HRD1 HT1 ⊢
            clear hW x0 x1 c1
            have HID := Lib.hid (HI1.out.below (bl_drew W1))
            go_region_law (refine stepR_delete rfl _ _ 76 3 rfl _ keyI Try.underlying76 rfl HID.out.own _ (lk (q : Int)) rfl HK.out ?_; intro w3 ho3 hg3; have HO3 := Lib.hid ho3; have HG3 := Lib.hid hg3; clear ho3 hg3)
            go_wp2_with fail
            all_goals
              go_roundw
              case rel =>
                have hI := HID.out.del q HQ2.out.2 HG3.out HO3.out
                have hII : IsImg w3 g (chTo L (List.take (i + 1) l)) B (D'.del (lk (q : Int))) M' := by
                  rw [HS.out, HQ2.out.1, List.eq_nil_of_length_eq_zero HE0.out]
                  exact hI
                have htt : Tr (fun b => b = B) w w3 := (HT1.out.drew).trans (tr_map HG3.out) (fun b _ hb => hb)
                exact ⟨i + 1, by omega, by go_num, ⟨D'.del (lk (q : Int)), M', hII, HM.out⟩, htt⟩
              case measure => simp [intOf]; omega
          · have t3 : ((y.d.length : Int) == 0) = false := HQ.out _ _ (by omega)
            have HE0 := Lib.hid h64
            clear h64
            go_wp2_with fail
            generalize hW : wr.alloc (.cells #[.int .i64 y.lba, .slice y.A y.d.length y.c] 48) = W1 at c1a y0 y1 HI1 HRD1 HT1 ⊢
            clear hW x0 x1 c1
            rw [HE0.out] at y1
            go_region_held3 (fun w' => w'.cell? ⟨g, 1, none⟩ = some (.map (some B)) ∧ w'.cell? ⟨wr.heap.size, 0, none⟩ = some (.int .i64 y.lba) ∧ w'.cell? ⟨wr.heap.size, 1, none⟩ = some (.slice y.A 64 y.c)) (go_keep) ((first
              | (go_at_call 38; (with_reducible refine (clone_n _ _ 64 _ _ HRD1.out.drew HE0.out (by omega)).mono ?_); rintro e w4 ⟨A4, c4, rfl, hc4, ho4, hb4⟩; have HO4 := Lib.hid ho4; have HB4 := Lib.hid hb4; have HI4 := Lib.hid ((HI1.out.below (bl_drew W1)).below hb4); obtain ⟨b4, rfl, hb40, hb41, hc40, hc41⟩ := own64 ho4; have z1 := (hb4.cell (cell_block_lt c1a)).trans c1a; have z2 := (hb4.cell (cell_block_lt y0)).trans y0; have z3 := (hb4.cell (cell_block_lt y1)).trans y1; obtain ⟨w5, hrun5, ho5, hg5⟩ := HI4.out.own.update keyI Try.underlying76 (by simp only [maxLen]; omega) HK.out (rSl_mk (b := b4) hc40 hc41); have HO5 := Lib.hid ho5; have HG5 := Lib.hid hg5; have u1 := cell_trc z1 (tr_map hg5) (NoCells.mapB HI4.out); have u2 := cell_trc z2 (tr_map hg5) (NoCells.mapB HI4.out); have u3 := cell_trc z3 (tr_map hg5) (NoCells.mapB HI4.out); clear ho5 hg5 ho4 hb4)))
            go_wp2_with fail
            have hlt1 := HT1.out.size
            have hlt4 := HB4.out.size
            have hI := (HI4.out.mono (M' := fun b => M' b ∨ b = b4) (fun b h => .inl h) (fun b h => by
              rcases h with h | rfl
              · exact HI4.out.mlt b h
              · exact hb41)).put q HQ2.out.2 ⟨HE0.out, HIB.out⟩ (Rd.of_own HO4.out) (.inr rfl) HG5.out HO5.out
            have hII : IsImg w5 g (chTo L (List.take (i + 1) l)) B (D'.put (lk (q : Int)) (.lit (lk (b4 : Int)))) (fun b => M' b ∨ b = b4) := by
              rw [HS.out, HQ2.out.1]
              exact hI
            have hMM : ∀ b, (M' b ∨ b = b4) → M b ∨ w.heap.size ≤ b := fun b h => by
              rcases h with h | rfl
              · exact HM.out b h
              · exact .inr (Nat.le_trans hlt1 hb40)
            have htt : Tr (fun b => b = B) w w5 := ((HT1.out.drew).then_below HB4.out).trans (tr_map HG5.out) (fun b _ hb => hb)
            go_roundw
            case rel => exact ⟨i + 1, by omega, by go_num, ⟨_, _, hII, hMM⟩, htt⟩
            case measure => simp [intOf]; omega
        · go_wp2_with fail
          go_ret
          have := HO.out
          rw [List.take_of_length_le (by omega)] at this
          rw [e1.out.1, e1.out.2]
          exact ⟨D', M', rfl, this, HM.out, HT.out⟩
end
end Go.Proofs.Ythlijldapoeepaa
