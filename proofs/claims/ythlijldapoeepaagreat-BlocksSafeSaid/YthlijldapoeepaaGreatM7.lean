/- Contracts of the package extent: Change. -/
import Derived.Test.YthlijldapoeepaaGreatM6
import Derived.Test.YthlijldapoeepaaGreatM4
import Derived.Test.YthlijldapoeepaaGreatM5
import Derived.RangeFuncWrites
namespace Go.Proofs.YthlijldapoeepaaGreat
set_option linter.unusedVariables false
set_option linter.unusedSimpArgs false
set_option maxRecDepth 100000
open Go.RowKit

section
variable {w : World} {g B : Nat} {L : List (List Int)} {D : DataW Unit} {M : Nat → Prop}
theorem change_nil (A : Option Addr) (n c : Nat) (w : World) : Calls Tryz.prog 32 #[.pointer none, .slice A n c] w fun e w' => e = .returned (.int .i64 2) ∧ w = w' := by
  go_enter Tryz.func32, Tryz.ntmps32
  go_wp2_with fail
  go_ret
  exact ⟨rfl, rfl⟩
theorem chRight_take {n : Nat} {l : List ChS} {j : Nat} (h : chRight n (l.take j) = true) (hj : j < l.length) (hk : chOk n l[j] = true) : chRight n (l.take (j + 1)) = true := by
  unfold chRight at *
  rw [List.take_succ_eq_append_getElem hj, List.all_append, h]
  simp [hk]
theorem chRight_at {n : Nat} {l : List ChS} (h : chRight n l = true) (j : Nat) (hj : j < l.length) : chOk n l[j] = true := by
  unfold chRight at h
  exact List.all_eq_true.1 h _ (List.getElem_mem hj)
theorem chRight_no {n : Nat} {l : List ChS} (j : Nat) (hj : j < l.length) (h : chOk n l[j] = false) : chRight n l = false := by
  unfold chRight
  rw [List.all_eq_false]
  exact ⟨_, List.getElem_mem hj, by rw [h]; simp⟩
theorem change_neg {w' : World} {l : List ChS} {e : Ending} (h : IsImg w g L B D M) (hr : chRight L.length l = false) (hb : Below w.heap.size w w') (he : e = .returned (.int .i64 1)) : RetS w g (changeL L l) B M (changeE L.length l) e w' := by
  have e1 : changeL L l = L := if_neg (by rw [hr]; simp)
  have e2 : changeE L.length l = 1 := if_neg (by rw [hr]; simp)
  rw [e1, e2]
  exact ⟨D, M, he, h.below hb, fun b hb => .inl hb, Tr.of_below hb⟩
theorem bl_drewN (w : World) (n : Nat) : Below w.heap.size w (w.drewN n) := ⟨rfl, rfl, rfl, Nat.le_refl _, fun _ _ => rfl⟩
theorem noCells_below {w w' : World} {F : Nat → Prop} (h : NoCells w F) (hb : Tr NoB w w') : NoCells w' F := fun b hf => by
  obtain ⟨o, ho, hc⟩ := h b hf
  exact ⟨o, (hb.block b (Array.getElem?_eq_some_iff.1 ho).1 id).trans ho, hc⟩
theorem own64 {w : World} {base c : Nat} {A : Option Addr} {xs : List Value} (h : w.ownsRow base 5 1 (.slice A 64 c) 64 xs) : ∃ b, A = some ⟨b, 0, none⟩ ∧ base ≤ b ∧ b < w.heap.size ∧ 64 ≤ c ∧ c ≤ maxLen := by
  have hlt := own_lt h
  rcases h.2 with ⟨_, h2⟩ | ⟨g, cap, cur, h1, h2, _, h3, h4, _⟩
  · cases h2
  · injection h1 with e1 e2 e3
    subst e1 e3
    exact ⟨g, rfl, h2, hlt g ((Blo.some_iff _ _).2 rfl), h3, h4⟩
set_option maxHeartbeats 3200000 in
theorem change_any (h : IsImg w g L B D M) (A : Option Addr) (c : Nat) (l : List ChS) (hl : l.length ≤ 140737488351232) (hA : ChsAt w A l) :
    Calls Tryz.prog 32 #[.pointer (some ⟨g, 0, none⟩), .slice A l.length c] w (RetS w g (changeL L l) B M (changeE L.length l)) := by
  have HH := Lib.hid h
  have HA := Lib.hid hA
  have h256 := h.ok.hi
  clear h hA
  go_enter Tryz.func32, Tryz.ntmps32
  go_wp2_with fail
  go_loopw [6, 13] (fun _ v w2 => ∃ j : Nat, j ≤ l.length ∧ v = .int .i64 j ∧ chRight L.length (l.take j) = true ∧ Below w.heap.size w w2) (fun _ v _ => l.length - (intOf v).toNat)
  case atStart => exact ⟨0, by omega, rfl, rfl, Below.refl _ _⟩
  case round =>
    obtain ⟨j, hj, rfl, hr, hb⟩ := hrel
    have HR := Lib.hid hr
    have HB := Lib.hid hb
    clear hr hb
    by_cases hlt : j < l.length
    · obtain ⟨hin, b, o, rfl, hc⟩ := HA.out j hlt
      have x0 := (HB.out.cell (cell_block_lt (hc 0 _ rfl))).trans (hc 0 _ rfl)
      have x1 := (HB.out.cell (cell_block_lt (hc 1 _ rfl))).trans (hc 1 _ rfl)
      have HN : ∀ hk : chOk L.length l[j] = false, chRight L.length l = false := fun hk => chRight_no j hlt hk
      have HY : ∀ hk : chOk L.length l[j] = true, chRight L.length (l.take (j + 1)) = true := fun hk => chRight_take HR.out hlt hk
      have HNH := Lib.hid HN
      have HYH := Lib.hid HY
      clear HN HY hc
      have hlb := hin.lb
      have hln := hin.len
      clear hin
      generalize l[j] = y at HNH HYH x0 x1 hlb hln
      have c0 := (HH.out.below HB.out).c0
      simp only [Nat.add_zero] at x0
      rw [← Nat.add_assoc] at x1
      have hcs : y.lba < 0 ∨ (0 ≤ y.lba ∧ (L.length : Int) ≤ y.lba) ∨ (0 ≤ y.lba ∧ y.lba < L.length ∧ y.d.length = 0) ∨ (0 ≤ y.lba ∧ y.lba < L.length ∧ y.d.length ≠ 0 ∧ y.d.length = 64) ∨ (0 ≤ y.lba ∧ y.lba < L.length ∧ y.d.length ≠ 0 ∧ y.d.length ≠ 64) := by omega
      have HG := Lib.hid ((HB.out.alloc (HB.out.size) (.cells #[.int .i64 y.lba, .slice y.A y.d.length y.c] 54)))
      have c0a := (HH.out.below HG.out).c0
      have HBK := Blk.new wr 54 #[.int .i64 y.lba, .slice y.A y.d.length y.c]
      have y0 : (wr.alloc (.cells #[.int .i64 y.lba, .slice y.A y.d.length y.c] 54)).cell? ⟨wr.heap.size, 0, none⟩ = some (.int .i64 y.lba) := HBK.cell 0
      have y1 : (wr.alloc (.cells #[.int .i64 y.lba, .slice y.A y.d.length y.c] 54)).cell? ⟨wr.heap.size, 1, none⟩ = some (.slice y.A y.d.length y.c) := HBK.cell 1
      clear HBK
      go_wp2_with fail
      generalize hW : wr.alloc (.cells #[.int .i64 y.lba, .slice y.A y.d.length y.c] 54) = W1 at c0a y0 y1 HG ⊢
      clear hW x0 x1 c0
      have HQ : ∀ a b : Int, ¬ a = b → (a != b) = true := fun a b h => by simpa using h
      have HQT : ∀ a b : Int, a = b → (a != b) = false := fun a b h => by simpa using h
      have HQ := Lib.hid HQ
      have HQT := Lib.hid HQT
      rcases hcs with h1 | ⟨h1, h2⟩ | ⟨h1, h2, h3⟩ | ⟨h1, h2, h3, h4⟩ | ⟨h1, h2, h3, h4⟩
      · have HE := Lib.hid (HNH.out (decide_eq_false (by omega)))
        go_quiet (fail)
        go_wp2_with fail
        go_ret
        exact change_neg HH.out HE.out (bl_chain HG.out (bl_drewN _ _)) rfl
      · have HE := Lib.hid (HNH.out (decide_eq_false (by omega)))
        have t1 : decide (y.lba < 0) = false := decide_eq_false (by omega)
        have t2 : decide ((L.length : Int) ≤ y.lba) = true := decide_eq_true (by omega)
        clear h1 h2
        go_quiet (fail)
        go_wp2_with fail
        go_ret
        exact change_neg HH.out HE.out (bl_chain HG.out (bl_drewN _ _)) rfl
      · have HE := Lib.hid (HYH.out (decide_eq_true (by omega)))
        have t1 : decide (y.lba < 0) = false := decide_eq_false (by omega)
        have t2 : decide ((L.length : Int) ≤ y.lba) = false := decide_eq_false (by omega)
        have t3 : ((y.d.length : Int) != 0) = false := HQT.out _ _ (by omega)
        clear h1 h2 h3
        go_quiet (fail)
        go_wp2_with fail
        go_roundw
        case rel => exact ⟨j + 1, by omega, by go_num, HE.out, bl_chain HG.out (bl_drewN _ _)⟩
        case measure => simp [intOf]; omega
      · have HE := Lib.hid (HYH.out (decide_eq_true (by omega)))
        have t1 : decide (y.lba < 0) = false := decide_eq_false (by omega)
        have t2 : decide ((L.length : Int) ≤ y.lba) = false := decide_eq_false (by omega)
        have t3 : ((y.d.length : Int) != 0) = true := HQ.out _ _ (by omega)
        have t4 : ((y.d.length : Int) != 64) = false := HQT.out _ _ (by omega)
        clear h1 h2 h3 h4
        go_quiet (fail)
        go_wp2_with fail
        go_roundw
        case rel => exact ⟨j + 1, by omega, by go_num, HE.out, bl_chain HG.out (bl_drewN _ _)⟩
        case measure => simp [intOf]; omega
      · have HE := Lib.hid (HNH.out (decide_eq_false (by omega)))
        have t1 : decide (y.lba < 0) = false := decide_eq_false (by omega)
        have t2 : decide ((L.length : Int) ≤ y.lba) = false := decide_eq_false (by omega)
        have t3 : ((y.d.length : Int) != 0) = true := HQ.out _ _ (by omega)
        have t4 : ((y.d.length : Int) != 64) = true := HQ.out _ _ (by omega)
        clear h1 h2 h3 h4
        go_quiet (fail)
        go_wp2_with fail
        go_ret
        exact change_neg HH.out HE.out (bl_chain HG.out (bl_drewN _ _)) rfl
    · have hall : chRight L.length l = true := by
        have := HR.out
        rwa [List.take_of_length_le (by omega)] at this
      have HALL := Lib.hid hall
      have e1 : Hid (changeL L l = chTo L l ∧ changeE L.length l = 0) := Lib.hid ⟨if_pos hall, if_pos hall⟩
      clear hall
      go_wp2_with fail
      go_loopw [8, 44] (fun _ v w2 => ∃ j : Nat, j ≤ l.length ∧ v = .int .i64 j ∧ (∃ D' M', IsImg w2 g (chTo L (l.take j)) B D' M' ∧ (∀ b, M' b → M b ∨ w.heap.size ≤ b)) ∧ Tr (fun b => b = B) w w2) (fun _ v _ => l.length - (intOf v).toNat)
      case atStart => exact ⟨0, by omega, rfl, ⟨D, M, HH.out.below HB.out, fun b hb => .inl hb⟩, Tr.of_below HB.out⟩
      case round =>
        obtain ⟨i, hi, rfl, ⟨D', M', ho, hM⟩, ht⟩ := hrel
        have HO := Lib.hid ho
        have HT := Lib.hid ht
        have HM := Lib.hid hM
        clear ho ht hM
        by_cases hlt2 : i < l.length
        · have HAT := Lib.hid (HA.out.trc HT.out (NoCells.mapB HH.out))
          obtain ⟨hin, b, o, rfl, hc⟩ := HAT.out i hlt2
          have x0 := hc 0 _ rfl
          have x1 := hc 1 _ rfl
          have hok := of_decide_eq_true (chRight_at HALL.out i hlt2)
          have HS := Lib.hid (chTo_snoc L l i hlt2)
          clear hc
          have hlb := hin.lb
          have HRD := Lib.hid hin.rd
          have HIB := Lib.hid hin.b
          clear hin
          generalize l[i] = y at HS x0 x1 hlb hok HRD HIB
          simp only [Nat.add_zero] at x0
          rw [← Nat.add_assoc] at x1
          have c1 := HO.out.c1
          obtain ⟨q, hq⟩ := Int.eq_ofNat_of_zero_le hok.1
          have HK : Hid (keyOf Tryz.prog 3 (.int .i64 y.lba) = some (lk (q : Int))) := Lib.hid (by rw [← hq]; exact keyOfI hlb)
          have HQ2 : Hid (y.lba.toNat = q ∧ q < (chTo L (l.take i)).length) := Lib.hid ⟨by omega, by rw [chTo_length]; omega⟩
          have hd : y.d.length = 0 ∨ y.d.length = 64 := hok.2.2
          clear hq hok hlb
          have HI1 := Lib.hid (HO.out.below (bl_alloc wr (.cells #[.int .i64 y.lba, .slice y.A y.d.length y.c] 54)))
          have HRD1 := Lib.hid (HRD.out.below (bl_alloc wr (.cells #[.int .i64 y.lba, .slice y.A y.d.length y.c] 54)))
          have HT1 := Lib.hid (HT.out.alloc (.cells #[.int .i64 y.lba, .slice y.A y.d.length y.c] 54))
          have c1a := HI1.out.c1
          have HBK := Blk.new wr 54 #[.int .i64 y.lba, .slice y.A y.d.length y.c]
          have y0 : (wr.alloc (.cells #[.int .i64 y.lba, .slice y.A y.d.length y.c] 54)).cell? ⟨wr.heap.size, 0, none⟩ = some (.int .i64 y.lba) := HBK.cell 0
          have y1 : (wr.alloc (.cells #[.int .i64 y.lba, .slice y.A y.d.length y.c] 54)).cell? ⟨wr.heap.size, 1, none⟩ = some (.slice y.A y.d.length y.c) := HBK.cell 1
          have HQ : ∀ a b : Int, ¬ a = b → (a == b) = false := fun a b h => by simpa using h
          have HQT : ∀ a b : Int, a = b → (a == b) = true := fun a b h => by simpa using h
          have HQ := Lib.hid HQ
          have HQT := Lib.hid HQT
          rcases hd with h0 | h64
          · have t3 : ((y.d.length : Int) == 0) = true := HQT.out _ _ (by omega)
            have HE0 := Lib.hid h0
            clear h0
            go_wp2_with fail
            generalize hW : wr.alloc (.cells #[.int .i64 y.lba, .slice y.A y.d.length y.c] 54) = W1 at c1a y0 y1 HI1 HRD1 HT1 ⊢
            clear hW x0 x1 c1
            have HID := Lib.hid (HI1.out.below (bl_drew W1))
            go_region_law (refine stepR_delete rfl _ _ 100 3 rfl _ keyI Tryz.underlying100 rfl HID.out.own _ (lk (q : Int)) rfl HK.out ?_; intro w3 ho3 hg3; have HO3 := Lib.hid ho3; have HG3 := Lib.hid hg3; clear ho3 hg3)
            go_wp2_with fail
            all_goals
              go_roundw
              case rel =>
                have hI := HID.out.del q HQ2.out.2 HG3.out HO3.out
                have hII : IsImg w3 g (chTo L (List.take (i + 1) l)) B (D'.del (lk (q : Int))) M' := by
                  rw [HS.out, HQ2.out.1, List.eq_nil_of_length_eq_zero HE0.out]
                  exact hI
                have htt : Tr (fun b => b = B) w w3 := (HT1.out.drew).trans (tr_map HG3.out) (fun b _ hb => hb)
                exact ⟨i + 1, by omega, by go_num, ⟨D'.del (lk (q : Int)), M', hII, HM.out⟩, htt⟩
              case measure => simp [intOf]; omega
          · have t3 : ((y.d.length : Int) == 0) = false := HQ.out _ _ (by omega)
            have HE0 := Lib.hid h64
            clear h64
            go_wp2_with fail
            generalize hW : wr.alloc (.cells #[.int .i64 y.lba, .slice y.A y.d.length y.c] 54) = W1 at c1a y0 y1 HI1 HRD1 HT1 ⊢
            clear hW x0 x1 c1
            rw [HE0.out] at y1
            go_region_held3 (fun w' => w'.cell? ⟨g, 1, none⟩ = some (.map (some B)) ∧ w'.cell? ⟨wr.heap.size, 0, none⟩ = some (.int .i64 y.lba) ∧ w'.cell? ⟨wr.heap.size, 1, none⟩ = some (.slice y.A 64 y.c)) (go_keep) ((first
              | (go_at_call 47; (with_reducible refine (clone_n _ _ 64 _ _ HRD1.out.drew HE0.out (by omega)).mono ?_); rintro e w4 ⟨A4, c4, rfl, hc4, ho4, hb4⟩; have HO4 := Lib.hid ho4; have HB4 := Lib.hid hb4; have HI4 := Lib.hid ((HI1.out.below (bl_drew W1)).below hb4); obtain ⟨b4, rfl, hb40, hb41, hc40, hc41⟩ := own64 ho4; have z1 := (hb4.cell (cell_block_lt c1a)).trans c1a; have z2 := (hb4.cell (cell_block_lt y0)).trans y0; have z3 := (hb4.cell (cell_block_lt y1)).trans y1; obtain ⟨w5, hrun5, ho5, hg5⟩ := HI4.out.own.update keyI Tryz.underlying100 (by simp only [maxLen]; omega) HK.out (rSl_mk (b := b4) hc40 hc41); have HO5 := Lib.hid ho5; have HG5 := Lib.hid hg5; have u1 := cell_trc z1 (tr_map hg5) (NoCells.mapB HI4.out); have u2 := cell_trc z2 (tr_map hg5) (NoCells.mapB HI4.out); have u3 := cell_trc z3 (tr_map hg5) (NoCells.mapB HI4.out); clear ho5 hg5 ho4 hb4)))
            go_wp2_with fail
            have hlt1 := HT1.out.size
            have hlt4 := HB4.out.size
            have hI := (HI4.out.mono (M' := fun b => M' b ∨ b = b4) (fun b h => .inl h) (fun b h => by
              rcases h with h | rfl
              · exact HI4.out.mlt b h
              · exact hb41)).put q HQ2.out.2 ⟨HE0.out, HIB.out⟩ (Rd.of_own HO4.out) (.inr rfl) HG5.out HO5.out
            have hII : IsImg w5 g (chTo L (List.take (i + 1) l)) B (D'.put (lk (q : Int)) (.lit (lk (b4 : Int)))) (fun b => M' b ∨ b = b4) := by
              rw [HS.out, HQ2.out.1]
              exact hI
            have hMM : ∀ b, (M' b ∨ b = b4) → M b ∨ w.heap.size ≤ b := fun b h => by
              rcases h with h | rfl
              · exact HM.out b h
              · exact .inr (Nat.le_trans hlt1 hb40)
            have htt : Tr (fun b => b = B) w w5 := ((HT1.out.drew).then_below HB4.out).trans (tr_map HG5.out) (fun b _ hb => hb)
            go_roundw
            case rel => exact ⟨i + 1, by omega, by go_num, ⟨_, _, hII, hMM⟩, htt⟩
            case measure => simp [intOf]; omega
        · go_wp2_with fail
          go_ret
          have := HO.out
          rw [List.take_of_length_le (by omega)] at this
          rw [e1.out.1, e1.out.2]
          exact ⟨D', M', rfl, this, HM.out, HT.out⟩
end
end Go.Proofs.YthlijldapoeepaaGreat

/- A range over a function whose body writes a map that was made ahead of it; a drawn region under what is held of the worlds. -/

namespace Go.Proofs.YthlijldapoeepaaGreat
set_option linter.unusedVariables false
set_option maxRecDepth 100000
open Go.RowKit Go.Shelf

theorem range_ownG1 {α : Type} {P : Program} {g : Operand} {p : Tmp} {assign body : Code} {Q : Exit → Act → World → Prop} {a : Act} {w : World} {gf : Nat} {lb : Array Value} {v : α → Value} {Kp : World → World → Prop} {S Sp : List α → Prop} {N : Nat}
    (hg : a.eval g = .func (.func gf) #[] lb) (eg : ∀ args w, (callFunc gf args).run P w = .ok (.enter gf args) w) (hseq : SeqStopsK Fence.wide 9 P gf lb (fun x => #[v x]) Kp S Sp N w)
    (hKt : ∀ {A B C : World}, Kp A B → Kp B C → Kp A C) (hKb : ∀ (W : World) (l : Nat) (o o' : Obj), w.heap.size ≤ l → W.heap[l]? = some o → o.isCells = false → o.isWalk = false → Kp W (W.putObj l o'))
    (I : List α → World → Prop) (hI : OwnFrom w.heap.size I) (h0 : I [] w) (f : Array Value → α → Array Value)
    (hassign : ∀ (l : Nat) (x : α) (W : World) (K : Act → World → Prop), K { tmps := f a.tmps x, defers := [] } W →
      assign.wpIn (Fence.wide.inRound l) 8 P (Exit.then K (fun _ _ _ => False)) { tmps := a.tmps.setIfInBounds p (v x), defers := [] } W)
    (hbody : ∀ (l : Nat) (pre : List α) (x : α) (W : World), I pre W → pre.length < N → body.wpIn (Fence.wide.inRound l) 8 P (ownPostG w.heap.size Kp I (fun _ _ _ => False) (pre ++ [x]) W) { tmps := f a.tmps x, defers := [] } W)
    (hdone : ∀ (D : Nat) (xs : List α) (W : World), w.heap.size ≤ D → S xs → I xs W → W.heap[D]? = some (.deferred (some [])) → Q .normal { a with defers := { target := .collected D, args := #[] } :: a.defers } W) :
    (Code.rangeFunc g #[p] assign body).wp P Q a w :=
  wpIn_wide.1 (wpIn_rangeFunc_ownG (n := 10) rfl (by omega) hg trivial eg hseq hKt hKb (Below.refl _ _) (fun _ => rfl) I (fun _ _ _ => False) hI (fun _ _ _ _ _ hs _ _ => hs) h0 _ (fun l x W K hK => by
    rw [show (#[p].zip #[v x]).foldl (fun t (p, v) => t.setIfInBounds p v) a.tmps = a.tmps.setIfInBounds p (v x) from by simp]
    exact hassign l x W K hK) hbody hdone (fun _ _ _ _ _ _ h _ => h.elim))

theorem range_ownG2 {α : Type} {P : Program} {g : Operand} {p q : Tmp} {assign body : Code} {Q : Exit → Act → World → Prop} {a : Act} {w : World} {gf : Nat} {lb : Array Value} {v u : α → Value} {Kp : World → World → Prop} {S Sp : List α → Prop} {N : Nat}
    (hg : a.eval g = .func (.func gf) #[] lb) (eg : ∀ args w, (callFunc gf args).run P w = .ok (.enter gf args) w) (hseq : SeqStopsK Fence.wide 9 P gf lb (fun x => #[v x, u x]) Kp S Sp N w)
    (hKt : ∀ {A B C : World}, Kp A B → Kp B C → Kp A C) (hKb : ∀ (W : World) (l : Nat) (o o' : Obj), w.heap.size ≤ l → W.heap[l]? = some o → o.isCells = false → o.isWalk = false → Kp W (W.putObj l o'))
    (I : List α → World → Prop) (hI : OwnFrom w.heap.size I) (h0 : I [] w) (f : Array Value → α → Array Value)
    (hassign : ∀ (l : Nat) (x : α) (W : World) (K : Act → World → Prop), K { tmps := f a.tmps x, defers := [] } W →
      assign.wpIn (Fence.wide.inRound l) 8 P (Exit.then K (fun _ _ _ => False)) { tmps := (a.tmps.setIfInBounds p (v x)).setIfInBounds q (u x), defers := [] } W)
    (hbody : ∀ (l : Nat) (pre : List α) (x : α) (W : World), I pre W → pre.length < N → body.wpIn (Fence.wide.inRound l) 8 P (ownPostG w.heap.size Kp I (fun _ _ _ => False) (pre ++ [x]) W) { tmps := f a.tmps x, defers := [] } W)
    (hdone : ∀ (D : Nat) (xs : List α) (W : World), w.heap.size ≤ D → S xs → I xs W → W.heap[D]? = some (.deferred (some [])) → Q .normal { a with defers := { target := .collected D, args := #[] } :: a.defers } W) :
    (Code.rangeFunc g #[p, q] assign body).wp P Q a w :=
  wpIn_wide.1 (wpIn_rangeFunc_ownG (n := 10) rfl (by omega) hg trivial eg hseq hKt hKb (Below.refl _ _) (fun _ => rfl) I (fun _ _ _ => False) hI (fun _ _ _ _ _ hs _ _ => hs) h0 _ (fun l x W K hK => by
    rw [show (#[p, q].zip #[v x, u x]).foldl (fun t (p, v) => t.setIfInBounds p v) a.tmps = (a.tmps.setIfInBounds p (v x)).setIfInBounds q (u x) from by simp]
    exact hassign l x W K hK) hbody hdone (fun _ _ _ _ _ _ h _ => h.elim))

theorem keepsFrom_below {n B : Nat} {w w' : World} (h : Below w.heap.size w w') : KeepsFrom B w w' := ⟨h.size, fun k o _ hk _ => (h.block k (Array.getElem?_eq_some_iff.1 hk).1).trans hk⟩

section
variable {P : Program} {ops : Array Oper} {Q : Exit → Act → World → Prop} {md : Region.Mode} {S : World → Prop}
theorem held_take {i : Nat} {rs : List Oper} {oi : Oper} {v : Value} {fuel : Nat} {listed : Array Bool} {a : Act} {w : World} (hw : S w) (hi : ops.toList.drop i = oi :: rs)
    (hs : Region.noSelect ops = true) (hf : Region.free md ops listed i = true) (hr : (Region.ready md ops listed).contains i = true)
    (hQ : ∀ c a w, Q (.panic c) (a.put oi.dst v) w → Q (.panic c) a w) (hy : YieldsIf P ops S oi v a)
    (h : wpAnyH P md ops Q S fuel (listed.setIfInBounds i true) (a.put oi.dst v) w) : wpAnyH P md ops Q S (fuel + 1) listed a w :=
  wpAnyH_take (drop_at hi) hs hf hr hQ hy hw h
theorem held_call {i : Nat} {rs : List Oper} {oi : Oper} {fuel : Nat} {listed : Array Bool} {a : Act} {w : World} (hr : Region.ready md ops listed = [i]) (hi : ops.toList.drop i = oi :: rs)
    (h : ∀ K' : Act → World → Prop, Shut (∀ a w', S w' → wpAnyH P md ops Q S fuel (listed.setIfInBounds i true) a w' → K' a w') →
      if Region.wanted oi (yielded ops a.tmps) = true then Oper.wp P oi a w K' Q else K' (a.put oi.dst undef) w) : wpAnyH P md ops Q S (fuel + 1) listed a w := by
  refine wpAnyH_ready (rs := [i]) hr (by simp) ?_
  refine AllReadyH.cons (drop_at hi) (fun K hK => ?_) AllReadyH.nil
  exact h K (fun a w' hb hW => hK a w' hb (fun _ => hW))
end
end Go.Proofs.YthlijldapoeepaaGreat

/- Contracts of the package extent: Write. -/

namespace Go.Proofs.YthlijldapoeepaaGreat
set_option linter.unusedVariables false
set_option linter.unusedSimpArgs false
set_option maxRecDepth 100000
open Go.RowKit Go.Shelf

attribute [local go_sem] Oper.semAt_some

/-- A piece of 64 bytes. -/
def pc (b : List Int) (i : Nat) : List Int := (b.drop (64 * i)).take 64
def wrF (b : List Int) (s : List (List Int) × Nat) (x : Nat) : List (List Int) × Nat := (s.1.set s.2 (pc b (idx (many64 b.length) x)), s.2 + 1)
def wrP (L : List (List Int)) (a : Nat) (b : List Int) (pre : List Nat) : List (List Int) × Nat := pre.foldl (wrF b) (L, a)
theorem wrP_snoc (L : List (List Int)) (a : Nat) (b : List Int) (pre : List Nat) (x : Nat) : wrP L a b (pre ++ [x]) = wrF b (wrP L a b pre) x := by
  unfold wrP; rw [List.foldl_append]; rfl
theorem wrP_at (L : List (List Int)) (a : Nat) (b : List Int) (pre : List Nat) : (wrP L a b pre).2 = a + pre.length ∧ (wrP L a b pre).1.length = L.length := by
  unfold wrP
  induction pre generalizing L a with
  | nil => exact ⟨rfl, rfl⟩
  | cons x pre ih =>
    have h := ih (L.set a (pc b (idx (many64 b.length) x))) (a + 1)
    refine ⟨?_, ?_⟩
    · refine h.1.trans ?_; simp; omega
    · refine h.2.trans ?_; simp
/-- k blocks set from number a on. -/
def wrTo (L : List (List Int)) (a : Nat) (b : List Int) : Nat → List (List Int)
  | 0 => L
  | k + 1 => (wrTo L a b k).set (a + k) (pc b k)
theorem wrP_range (L : List (List Int)) (a : Nat) (b : List Int) : ∀ k, k ≤ many64 b.length → (wrP L a b (List.range k)).1 = wrTo L a b k
  | 0, _ => rfl
  | k + 1, h => by
    rw [List.range_succ, wrP_snoc]
    unfold wrF
    show (wrP L a b (List.range k)).1.set _ _ = _
    rw [wrP_range L a b k (by omega), (wrP_at L a b _).1, List.length_range, idx_of (by omega)]
    rfl
theorem wrTo_length (L : List (List Int)) (a : Nat) (b : List Int) : ∀ k, (wrTo L a b k).length = L.length
  | 0 => rfl
  | k + 1 => by rw [wrTo, List.length_set, wrTo_length L a b k]
def wrOk (n : Nat) (lba : Int) (b : List Int) : Bool := inB n lba (b.length / 64 : Nat) && decide (b.length % 64 = 0)
def writeL (L : List (List Int)) (lba : Int) (b : List Int) : List (List Int) := if wrOk L.length lba b = true then wrTo L lba.toNat b (b.length / 64) else L
def writeE (n : Nat) (lba : Int) (b : List Int) : Int := if wrOk n lba b = true then 0 else 1
theorem pc_bl {b : List Int} (hB : isB b) (h0 : b.length % 64 = 0) {i : Nat} (hi : i < b.length / 64) : isBl (pc b i) := by
  refine ⟨?_, fun x hx => hB x (List.mem_of_mem_drop (List.mem_of_mem_take hx))⟩
  unfold pc
  rw [List.length_take, List.length_drop]
  omega
theorem rd_spot {w : World} {A : Option Addr} {l : List Int} (h : Rd w A (by8 l)) (hl : 0 < l.length) : ∃ b o, A = some ⟨b, o, none⟩ := by
  obtain ⟨ad, rfl, hb, hc⟩ := h.at_ (k := 0) (by rw [by8_length]; exact hl)
  have hs := World.cell?_spot hc
  obtain ⟨b, o, sp⟩ := ad
  simp [Addr.add] at hs
  subst hs
  exact ⟨b, o, rfl⟩
theorem rd_pc {w : World} {b o : Nat} {l : List Int} (h : Rd w (some ⟨b, o, none⟩) (by8 l)) (i : Nat) : Rd w (some ⟨b, o + 64 * i, none⟩) (by8 (pc l i)) := fun j u hj => by
  unfold pc at hj
  rw [← by8_take, ← by8_drop] at hj
  rw [List.getElem?_take] at hj
  split at hj
  · rw [List.getElem?_drop] at hj
    obtain ⟨ad, e, hc⟩ := h _ u hj
    injection e with e
    subst e
    refine ⟨_, rfl, ?_⟩
    rw [add_lit] at hc ⊢
    rw [← hc, Nat.add_assoc]
  · cases hj

section
variable {w : World} {g B : Nat} {L : List (List Int)} {D : DataW Unit} {M : Nat → Prop}
theorem IsImg.trc (h : IsImg w g L B D M) {w' : World} {row : Option Nat} {n : Nat} (hn : B < n) (hg : w.grownBy w' row) (hr : ∀ r, row = some r → n ≤ r ∧ ∃ o : Obj, w.heap[r]? = some o ∧ o.isCells = false) : IsImg w' g L B D M :=
  ⟨h.ok, h.blk.turn (turn_of hg hr), owns_tr h.own (Tr.of_grown (F := fun b => n ≤ b) hg (fun b e _ => (hr b e).1)) (by omega), h.has, fun i hi => by
    obtain ⟨b, h1, h2, h3⟩ := h.at_ i hi
    exact ⟨b, h1, h2, h3.trc (F := fun b => ∃ o : Obj, w.heap[b]? = some o ∧ o.isCells = false) (turn_of hg hr) (fun b hb => hb)⟩, h.sz, h.mg, h.mB, fun b hb => Nat.lt_of_lt_of_le (h.mlt b hb) hg.size⟩
theorem write_nil (lba : Int) (A : Option Addr) (n c : Nat) (hn : n ≤ 140737488351232) (w : World) : Calls Tryz.prog 61 #[.pointer none, .int .i64 lba, .slice A n c] w fun e w' => e = .returned (.int .i64 2) ∧ Below w.heap.size w w' := by
  go_enter Tryz.func61, Tryz.ntmps61
  go_wp2_with (first
    | (go_at_call 69; (with_reducible refine (wrong_nil lba _ _).mono ?_); rintro e w' ⟨rfl, rfl⟩))
  go_ret
  exact ⟨rfl, bl_chain (bl_alloc w _) (bl_alloc _ _)⟩
set_option maxHeartbeats 3200000 in
theorem write_any (h : IsImg w g L B D M) (lba : Int) (hlb : -9223372036854775808 ≤ lba ∧ lba ≤ 9223372036854775807) (A : Option Addr) (c : Nat) (b : List Int) (hr : Rd w A (by8 b)) (hB : isB b) (hc : b.length ≤ c) (hl : b.length ≤ 140737488351232) :
    Calls Tryz.prog 61 #[.pointer (some ⟨g, 0, none⟩), .int .i64 lba, .slice A b.length c] w (RetS w g (writeL L lba b) B M (writeE L.length lba b)) := by
  have hq : ((b.length : Int) / 64) = ((b.length / 64 : Nat) : Int) := by omega
  have hw : ∀ W, Below w.heap.size w W → Calls Tryz.prog 69 #[.pointer (some ⟨g, 0, none⟩), .int .i64 lba, .int .i64 ((b.length : Int) / 64)] W fun e w' => e = .returned (.int .i64 (wrongE L.length lba ((b.length / 64 : Nat) : Int))) ∧ W = w' := fun W hW => by rw [hq]; exact wrong_any ⟨B, D, h.below hW⟩ lba (b.length / 64 : Nat) (by omega)
  by_cases hok : wrOk L.length lba b = true
  · have HE : Hid (writeL L lba b = wrTo L lba.toNat b (b.length / 64) ∧ writeE L.length lba b = 0) := Lib.hid ⟨if_pos hok, if_pos hok⟩
    rw [HE.out.1, HE.out.2]
    have hok2 := hok
    unfold wrOk at hok2
    simp only [Bool.and_eq_true, decide_eq_true_eq] at hok2
    obtain ⟨hin, h0⟩ := hok2
    have hr4 := of_decide_eq_true hin
    rw [show wrongE L.length lba (b.length / 64 : Nat) = 0 from if_pos hin] at hw
    have HW := Lib.hid hw
    obtain ⟨a, rfl⟩ := Int.eq_ofNat_of_zero_le hr4.1
    have HN : many64 b.length = b.length / 64 := by unfold many64; omega
    have haN : a + many64 b.length ≤ L.length := by rw [HN]; omega
    have h256 := h.ok.hi
    have HBL : ∀ i, i < many64 b.length → isBl (pc b i) := fun i hi => pc_bl hB h0 (by omega)
    obtain ⟨bb, off, hA⟩ : ∃ bb off, 0 < b.length → A = some ⟨bb, off, none⟩ := by
      by_cases hb0 : 0 < b.length
      · obtain ⟨x, y, e⟩ := rd_spot hr hb0; exact ⟨x, y, fun _ => e⟩
      · exact ⟨0, 0, fun h => absurd h hb0⟩
    have t1 : (((b.length : Int) % 64) != 0) = false := by simpa using (by omega : (b.length : Int) % 64 = 0)
    have HH := Lib.hid h
    have HR := Lib.hid hr
    have HA := Lib.hid hA
    have HBLH := Lib.hid HBL
    have H0 := Lib.hid h0
    have HNH := Lib.hid HN
    rw [Int.toNat_natCast, ← HN]
    have hlenN := Lib.hid (show b.length = 64 * many64 b.length by rw [HN]; omega)
    clear hw hq hin hok h hA HBL h0 hr hr4 HN
    refine (callsIn_wide (n := 10)).1 (callsIn_of_wp_marks Tryz.func61 rfl trivial ?_ rfl)
    refine wpIn_wide.2 ?_
    simp only [Tryz.ntmps61, List.size_toArray, List.length_cons, List.length_nil, Nat.reduceAdd, Nat.reduceSub, Array.replicate_succ, Array.replicate_zero, List.push_toArray, List.append_toArray, List.nil_append, List.cons_append]
    go_wp2_with (first
      | (go_at_call 69; (with_reducible refine (HW.out _ (bl_chain (bl_alloc w _) (bl_alloc _ _))).mono ?_); rintro e w' ⟨rfl, rfl⟩)
      | (go_at_call 63; (with_reducible refine (chunk64_any _ _ _ _).mono ?_); rintro e w2 ⟨rfl, hb1, hb2, hbl⟩; have K1 := Lib.hid hb1; have K2 := Lib.hid hb2; have BX := Lib.hid (((Blk.new w 55 #[.pointer (some ⟨g, 0, none⟩)]).alloc (.cells #[.int .i64 (a : Int)] 3)).keep hbl); have BY := Lib.hid ((Blk.new (w.alloc (.cells #[.pointer (some ⟨g, 0, none⟩)] 55)) 3 #[.int .i64 (a : Int)]).keep hbl); have B2 := Lib.hid (bl_chain (bl_chain (bl_alloc w _) (bl_alloc _ _)) hbl); clear hb1 hb2 hbl))
    simp only [World.size_alloc] at K1 K2 BY ⊢
    have hz2 : w.heap.size + 4 ≤ w2.heap.size := by have := K2.out.lt; omega
    refine range_ownG1 (Kp := Two (w.heap.size + 1 + 1) (w.heap.size + 1 + 1 + 1)) (v := fun x => piece64 bb off b.length (idx (many64 b.length) x)) (gf := 85) (lb := #[.pointer (some ⟨w.heap.size + 1 + 1, 0, none⟩), .pointer (some ⟨w.heap.size + 1 + 1 + 1, 0, none⟩)]) rfl (enters_of Tryz.func85 (by kernel_rfl) rfl)
      (chunk64_stops _ _ bb off b.length c A HA.out hc (by omega) w2 K1.out K2.out) two_t (two_b (by omega) (by omega))
      (fun pre W => (∃ D' M', IsImg W g (wrP L a b pre).1 B D' M' ∧ ∀ q, M' q → M q ∨ w2.heap.size ≤ q) ∧ Blk W w.heap.size 55 #[.pointer (some ⟨g, 0, none⟩)] ∧ Blk W (w.heap.size + 1) 3 #[.int .i64 ((a + pre.length : Nat) : Int)] ∧ Tr (fun q => q = B) w W ∧ w2.heap.size ≤ W.heap.size)
      (fun pre X Y row ⟨⟨D', M', h1, h1'⟩, h2, h3, h4, h5⟩ hg hr => ⟨⟨D', M', h1.trc (n := w2.heap.size) (by have := HH.out.own.lt; omega) hg hr, h1'⟩, h2.turn (turn_of hg hr), h3.turn (turn_of hg hr), h4.trans (Tr.of_grown (F := fun q => w2.heap.size ≤ q) hg (fun q e _ => (hr q e).1)) (fun q hq hq2 => absurd hq (by omega)), Nat.le_trans h5 hg.size⟩)
      ⟨⟨D, M, HH.out.below B2.out, fun q h => .inl h⟩, BX.out, BY.out, Tr.of_below B2.out, Nat.le_refl _⟩
      (fun T x => (T.setIfInBounds 24 (piece64 bb off b.length (idx (many64 b.length) x))).setIfInBounds 8 (piece64 bb off b.length (idx (many64 b.length) x))) ?assign ?body ?done
    case assign =>
      intro l x W K hK
      simp only [List.setIfInBounds_toArray, List.set_cons_zero, List.set_cons_succ] at hK ⊢
      gi_wp2
      exact hK
    case body =>
      rintro lr pre x W ⟨⟨D', M', h1, h1'⟩, h2, h3, h4, h5⟩ hN
      have hi := idx_lt (x := x) (show 0 < many64 b.length by omega)
      obtain ⟨i, hix⟩ : ∃ i, idx (many64 b.length) x = i := ⟨_, rfl⟩
      rw [hix] at hi ⊢
      have hpc : piece64 bb off b.length i = .slice (some ⟨bb, off + 64 * i, none⟩) 64 64 := by
        unfold piece64
        rw [show min 64 (b.length - 64 * i) = 64 by have := hlenN.out; omega]
      rw [hpc]
      have hAs := HA.out (by have := hlenN.out; omega)
      have HRP := Lib.hid (rd_pc (by have := HR.out.trc h4 (NoCells.mapB HH.out); rw [hAs] at this; exact this) i)
      have hbl := HBLH.out i hi
      have HBI := Lib.hid hbl
      have HBI1 := Lib.hid hbl.1
      have hlt3 := h3.lt
      have c1 := h1.c1
      have c2 := h2.cell 0
      have c3 : W.cell? ⟨w.heap.size + 1, 0, none⟩ = some (.int .i64 ((a + pre.length : Nat) : Int)) := h3.cell 0
      simp at c2
      have H1 := Lib.hid h1
      have H1' := Lib.hid h1'
      have H2 := Lib.hid h2
      have H3 := Lib.hid h3
      have H4 := Lib.hid h4
      have HIX := Lib.hid hix
      have hap : a + pre.length < L.length := by omega
      have HK : Hid (keyOf Tryz.prog 3 (.int .i64 ((a + pre.length : Nat) : Int)) = some (lk ((a + pre.length : Nat) : Int))) := Lib.hid (keyOfI (by omega))
      have HPL := Lib.hid (wrP_at L a b pre)
      clear h1 h1' h2 h3 h4 hix hbl hpc hAs
      obtain ⟨q, hq⟩ : ∃ q, a + pre.length = q := ⟨_, rfl⟩
      have HQ := Lib.hid hq
      rw [hq] at c3 HK H3 hap
      clear hq
      simp only [List.setIfInBounds_toArray, List.set_cons_zero, List.set_cons_succ]
      gi_wp2
      have HSS : Hid (W.drew.cell? ⟨g, 1, none⟩ = some (.map (some B)) ∧ W.drew.cell? ⟨w.heap.size, 0, none⟩ = some (.pointer (some ⟨g, 0, none⟩)) ∧ W.drew.cell? ⟨w.heap.size + 1, 0, none⟩ = some (.int .i64 (q : Int))) := Lib.hid ⟨c1, c2, c3⟩
      refine in_ext_start (S := fun W => W.cell? ⟨g, 1, none⟩ = some (.map (some B)) ∧ W.cell? ⟨w.heap.size, 0, none⟩ = some (.pointer (some ⟨g, 0, none⟩)) ∧ W.cell? ⟨w.heap.size + 1, 0, none⟩ = some (.int .i64 (q : Int))) (by kernel_rfl) (by decide) (by rintro ⟨a, w, h⟩; exact h) ?_
      refine held_take HSS.out (i := 0) (v := ?_) rfl (by kernel_rfl) (by kernel_rfl) (by kernel_rfl) (fun _ _ _ h => h) (Or.inl ⟨by rfl, ?_⟩) ?_
      rotate_left
      · (intro W3 hSw; obtain ⟨s1, s2, s3⟩ := hSw; go_simp; try with_reducible rfl)
      try simp only [Act.put, List.setIfInBounds_toArray, List.set_cons_zero, List.set_cons_succ]
      refine held_take HSS.out (i := 1) (v := ?_) rfl (by kernel_rfl) (by kernel_rfl) (by kernel_rfl) (fun _ _ _ h => h) (Or.inl ⟨by rfl, ?_⟩) ?_
      rotate_left
      · (intro W3 hSw; obtain ⟨s1, s2, s3⟩ := hSw; go_simp; try with_reducible rfl)
      try simp only [Act.put, List.setIfInBounds_toArray, List.set_cons_zero, List.set_cons_succ]
      refine held_take HSS.out (i := 2) (v := ?_) rfl (by kernel_rfl) (by kernel_rfl) (by kernel_rfl) (fun _ _ _ h => h) (Or.inl ⟨by rfl, ?_⟩) ?_
      rotate_left
      · (intro W3 hSw; obtain ⟨s1, s2, s3⟩ := hSw; go_simp; try with_reducible rfl)
      try simp only [Act.put, List.setIfInBounds_toArray, List.set_cons_zero, List.set_cons_succ]
      refine held_take HSS.out (i := 3) (v := ?_) rfl (by kernel_rfl) (by kernel_rfl) (by kernel_rfl) (fun _ _ _ h => h) (Or.inl ⟨by rfl, ?_⟩) ?_
      rotate_left
      · (intro W3 hSw; obtain ⟨s1, s2, s3⟩ := hSw; go_simp; try with_reducible rfl)
      try simp only [Act.put, List.setIfInBounds_toArray, List.set_cons_zero, List.set_cons_succ]
      refine held_take HSS.out (i := 4) (v := ?_) rfl (by kernel_rfl) (by kernel_rfl) (by kernel_rfl) (fun _ _ _ h => h) (Or.inl ⟨by rfl, ?_⟩) ?_
      rotate_left
      · (intro W3 hSw; obtain ⟨s1, s2, s3⟩ := hSw; go_simp; try with_reducible rfl)
      try simp only [Act.put, List.setIfInBounds_toArray, List.set_cons_zero, List.set_cons_succ]
      refine held_take HSS.out (i := 5) (v := ?_) rfl (by kernel_rfl) (by kernel_rfl) (by kernel_rfl) (fun _ _ _ h => h) (Or.inl ⟨by rfl, ?_⟩) ?_
      rotate_left
      · (intro W3 hSw; obtain ⟨s1, s2, s3⟩ := hSw; go_simp; try with_reducible rfl)
      try simp only [Act.put, List.setIfInBounds_toArray, List.set_cons_zero, List.set_cons_succ]
      refine held_call (i := 6) (by kernel_rfl) rfl (fun K hK => ?_)
      go_simp
      (go_at_call 47; (with_reducible refine (clone_n _ _ 64 _ _ HRP.out.drew HBI1.out (by omega)).mono ?_); rintro e w4 ⟨A4, c4, rfl, hc4, ho4, hb4⟩; have HO4 := Lib.hid ho4; have HB4 := Lib.hid hb4; have HI4 := Lib.hid ((H1.out.below (bl_drew W)).below hb4); obtain ⟨b4, rfl, hb40, hb41, hc40, hc41⟩ := own64 ho4; have z1 := (hb4.cell (cell_block_lt c1)).trans c1; have z2 := (hb4.cell (cell_block_lt c2)).trans c2; have z3 := (hb4.cell (cell_block_lt c3)).trans c3; clear ho4 hb4)
      refine hK.out _ _ ⟨z1, z2, z3⟩ ?_
      clear hK K
      try simp only [Act.put, List.setIfInBounds_toArray, List.set_cons_zero, List.set_cons_succ]
      refine held_call (i := 7) (by kernel_rfl) rfl (fun K hK => ?_)
      obtain ⟨w5, hrun5, ho5, hg5⟩ := HI4.out.own.update keyI Tryz.underlying100 (by simp only [maxLen]; omega) HK.out (rSl_mk (b := b4) hc40 hc41)
      have HO5 := Lib.hid ho5
      have HG5 := Lib.hid hg5
      have u1 := cell_trc z1 (tr_map hg5) (NoCells.mapB HI4.out)
      have u2 := cell_trc z2 (tr_map hg5) (NoCells.mapB HI4.out)
      have u3 := cell_trc z3 (tr_map hg5) (NoCells.mapB HI4.out)
      have HBK5 := Lib.hid (((H3.out.drew).keep HB4.out).trc (tr_map hg5) (NoCells.mapB HI4.out))
      have f5 := HBK5.out.frozen 0
      clear ho5 hg5
      go_simp
      refine hK.out _ _ ⟨u1, u2, u3⟩ ?_
      clear hK K
      refine wpAnyH_done (by kernel_rfl) ?_ _
      try simp only [Act.put, List.setIfInBounds_toArray, List.set_cons_zero, List.set_cons_succ]
      gi_wp2
      have hlB := HH.out.own.lt
      have hsz := HB4.out.size
      have hneB : w.heap.size + 1 ≠ B := by omega
      have t5 : Tr (fun b => b = B) W w5 := ((Tr.of_below (bl_drew W)).then_below HB4.out).trans (tr_map HG5.out) (fun b _ hb => hb)
      have hMlt := HH.out.mlt
      have hI5 := (HI4.out.mono (M' := fun b => M' b ∨ b = b4) (fun b h => .inl h) (fun b h => by
        rcases h with h | rfl
        · exact HI4.out.mlt b h
        · exact hb41)).put q (by rw [HPL.out.2]; exact hap) HBI.out (Rd.of_own HO4.out) (.inr rfl) HG5.out HO5.out
      have hMM : ∀ r, (M' r ∨ r = b4) → M r ∨ w2.heap.size ≤ r := fun r h => by
        rcases h with h | rfl
        · exact H1'.out r h
        · exact .inr (Nat.le_trans h5 hb40)
      have t6 : Tr (fun b => b = w.heap.size + 1) w5 (w5.setCell ⟨w.heap.size + 1, 0, none⟩ (.int .i64 ((q : Int) + 1))) := (Tr.refl (fun b => b = w.heap.size + 1) w5).setCell (p := ⟨w.heap.size + 1, 0, none⟩) (fun _ => rfl) _
      have hI6 := hI5.tr t6 (fun r h e => by
        rcases hMM r h with h | h
        · have := hMlt r h; omega
        · omega)
      have hkf : KeepsFrom w2.heap.size W (w5.setCell ⟨w.heap.size + 1, 0, none⟩ (.int .i64 ((q : Int) + 1))) :=
        ((keepsFrom_below (n := 0) (bl_chain (bl_drew W) HB4.out)).trans (KeepsFrom.of_grownBy HG5.out (fun j e => by injection e with e; omega))).trans ((KeepsOthers.setCell _ _ _).from _)
      have hk : ∀ r, r < W.heap.size → r ≠ B → r ≠ w.heap.size + 1 → (w5.setCell ⟨w.heap.size + 1, 0, none⟩ (.int .i64 ((q : Int) + 1))).heap[r]? = W.heap[r]? := fun r h1 h2 h3 =>
        (Below.heap_setCell _ _ _ _ h3).trans (t5.block r h1 h2)
      have e5 : wrP L a b (pre ++ [x]) = ((wrP L a b pre).1.set q (pc b i), q + 1) := by
        rw [wrP_snoc]
        unfold wrF
        rw [HPL.out.1, HQ.out, HIX.out]
      refine ⟨hkf, ⟨hk _ (by omega) (by omega) (by omega), hk _ (by omega) (by omega) (by omega)⟩, ⟨_, _, by rw [e5]; exact hI6, hMM⟩, (hk _ (by omega) (by omega) (by omega)).trans H2.out, ?_, (H4.out.trans t5 (fun b _ hb => hb)).setCell (fun h => absurd h (by simp)) _, ?_⟩
      · have h6 := HBK5.out.set_ 0 (.int .i64 ((q : Int) + 1))
        have e6 : ((a + (pre ++ [x]).length : Nat) : Int) = (q : Int) + 1 := by rw [List.length_append, ← HQ.out]; simp; omega
        rw [e6]
        exact h6
      · have := t5.size
        simp [World.setCell]
        omega
    case done =>
      rintro D7 xs W7 hD rfl ⟨⟨D', M', h1, h1'⟩, h2, h3, h4, h5⟩ hK
      rw [wrP_range L a b _ (Nat.le_refl _)] at h1
      have HD7 := Lib.hid hK
      go_wp2_with fail
      refine ⟨by simp, .inl ⟨D7, _, rfl, run_takeDeferred HD7.out, ?_⟩⟩
      refine ⟨_, results_tmp rfl _ _ _, ?_⟩
      have hg7 := grownBy_putObj' W7 D7 (.deferred none)
      have hlB := HH.out.own.lt
      exact ⟨D', M', rfl, h1.trc (n := w2.heap.size) (by omega) hg7 (fun r e => by cases e; exact ⟨hD, _, HD7.out, rfl⟩), fun q h => (h1' q h).imp id (fun h => by omega), h4.trans (Tr.of_grown (F := fun q => w2.heap.size ≤ q) hg7 (fun q e _ => by cases e; exact hD)) (fun q hq hq2 => absurd hq (by omega))⟩
  · have HE : Hid (writeL L lba b = L ∧ writeE L.length lba b = 1) := Lib.hid ⟨if_neg hok, if_neg hok⟩
    rw [HE.out.1, HE.out.2]
    have HH := Lib.hid h
    by_cases hin : inB L.length lba (b.length / 64 : Nat) = true
    · have hm : ¬ (b.length % 64 = 0) := fun e => hok (by unfold wrOk; rw [hin]; simp [e])
      have t1 : (((b.length : Int) % 64) != 0) = true := by simpa using (by omega : ¬ (b.length : Int) % 64 = 0)
      rw [show wrongE L.length lba (b.length / 64 : Nat) = 0 from if_pos hin] at hw
      have HW := Lib.hid hw
      clear hw hq hin hok hm h
      go_enter Tryz.func61, Tryz.ntmps61
      go_wp2_with (first
        | (go_at_call 69; (with_reducible refine (HW.out _ (bl_chain (bl_alloc w _) (bl_alloc _ _))).mono ?_); rintro e w' ⟨rfl, rfl⟩))
      go_ret
      exact ⟨D, M, rfl, HH.out.below (bl_chain (bl_alloc w _) (bl_alloc _ _)), fun b hb => .inl hb, Tr.of_below (bl_chain (bl_alloc w _) (bl_alloc _ _))⟩
    · rw [show wrongE L.length lba (b.length / 64 : Nat) = 1 from if_neg hin] at hw
      have HW := Lib.hid hw
      clear hw hq hin hok h
      go_enter Tryz.func61, Tryz.ntmps61
      go_wp2_with (first
        | (go_at_call 69; (with_reducible refine (HW.out _ (bl_chain (bl_alloc w _) (bl_alloc _ _))).mono ?_); rintro e w' ⟨rfl, rfl⟩))
      go_ret
      exact ⟨D, M, rfl, HH.out.below (bl_chain (bl_alloc w _) (bl_alloc _ _)), fun b hb => .inl hb, Tr.of_below (bl_chain (bl_alloc w _) (bl_alloc _ _))⟩
end
end Go.Proofs.YthlijldapoeepaaGreat
