/- Diff: the program's and the reference's. -/
import Derived.Test.YtdddbpnllhnfdaaDuoX
namespace Go.Proofs.Ytdddbpnllhnfdaa
set_option linter.unusedVariables false
set_option linter.unusedSimpArgs false
set_option maxRecDepth 100000
open Go.RowKit Go.Shelf

def dfTo (L1 L2 : List (List Int)) : Nat → List (Int × List Int)
  | 0 => []
  | k + 1 => dfTo L1 L2 k ++ (if bk L1 k = bk L2 k then [] else [((k : Int), bk L2 k)])
def diffL (L1 L2 : List (List Int)) : List (Int × List Int) := dfTo L1 L2 L1.length
theorem dfTo_len (L1 L2 : List (List Int)) : ∀ k, (dfTo L1 L2 k).length ≤ k
  | 0 => Nat.le_refl 0
  | k + 1 => by
    have := dfTo_len L1 L2 k
    unfold dfTo
    rw [List.length_append]
    split <;> simp <;> omega
theorem held_start' {P : Program} {ops : Array Oper} {Q : Exit → Act → World → Prop} {S : World → Prop} {id : Nat} {a : Act} {w : World} (hm : P.follows .mixedOrders = true)
    (h : wpAnyH P .any ops Q S ops.size (Array.replicate ops.size false) a w.drew) : (Code.region id ops true).wp P Q a w := wp_region_held hm h
/-- A change more, its bytes new. -/
theorem LentAt.add {W W1 W3 : World} {B0 : Nat} {A A3 A5 : Option Addr} {k c3 c5 : Nat} {l : List ChS} {lba : Int} {d : List Int} (h : LentAt W B0 A k l) (hB0 : B0 ≤ W.heap.size) (hb1 : Below W.heap.size W W1)
    (ho : W1.ownsRow W.heap.size 5 1 (.slice A3 d.length c3) d.length (by8 d)) (hok : (-9223372036854775808 ≤ lba ∧ lba ≤ 9223372036854775807) ∧ isB d ∧ d.length ≤ 140737488351232)
    (ho5 : W3.ownsRow B0 33 2 (.slice A5 (l.length + 1) c5) (l.length + 1) (chCells (l ++ [⟨A3, c3, lba, d⟩]))) (ht5 : Tr (Blo A) (W1.alloc (.cells #[.int .i64 lba, .slice A3 d.length c3] 33)) W3) :
    LentAt W3 B0 A5 c5 (l ++ [⟨A3, c3, lba, d⟩]) := by
  have hL1 := h.tr (Tr.of_below (F := NoB) hb1) (fun _ _ _ h => h)
  have hrow := hL1.row.alloc (.cells #[.int .i64 lba, .slice A3 d.length c3] 33)
  have hfar : ∀ (y' : ChS) B1, (W1.alloc (.cells #[.int .i64 lba, .slice A3 d.length c3] 33)).ownsRow B1 5 1 (.slice y'.A y'.d.length y'.c) y'.d.length (by8 y'.d) → W3.ownsRow B1 5 1 (.slice y'.A y'.d.length y'.c) y'.d.length (by8 y'.d) := fun y' B1 h => own_tr h ht5 (fun b hx hq => own_two_ne hrow h (by decide) hq hx)
  refine ⟨by rw [List.length_append]; exact ho5, ?_, ?_, ?_⟩
  · intro y' hy'
    rcases List.mem_append.1 hy' with hy' | hy'
    · exact hfar y' _ ((hL1.data y' hy').alloc _)
    · obtain rfl := List.mem_singleton.1 hy'
      exact hfar _ _ (World.ownsRow.alloc (ownsRow_base ho hB0) _)
  · rw [List.pairwise_append]
    refine ⟨h.apart, List.pairwise_singleton _ _, fun a' ha' b' hb' x hx hx2 => ?_⟩
    obtain rfl := List.mem_singleton.1 hb'
    have e1 := own_lt (h.data a' ha') x hx
    have e2 := own_ge ho x hx2
    omega
  · intro y' hy'
    rcases List.mem_append.1 hy' with hy' | hy'
    · exact h.ok y' hy'
    · obtain rfl := List.mem_singleton.1 hy'
      exact hok
theorem LentAt.nil (w : World) (B0 : Nat) : LentAt w B0 none 0 [] := ⟨ownsRow_emp _ _ _ _, fun y hy => (by cases hy), List.Pairwise.nil, fun y hy => (by cases hy)⟩
def RetDiff (w : World) (ds : List (Int × List Int)) (e : Ending) (w' : World) : Prop := ∃ A k l', e = .returned (.tuple #[.slice A l'.length k, .int .i64 0]) ∧ l'.map ChS.kd = ds ∧ LentAt w' w.heap.size A k l' ∧ Below w.heap.size w w'
section
variable {w : World} {g B g2 B2 : Nat} {L L2 : List (List Int)} {D D2 : DataW Unit} {M M2 : Nat → Prop}
theorem diff_nil2 (h : IsImg w g L B D M) : Calls Try.prog 23 #[.pointer (some ⟨g, 0, none⟩), .pointer none] w fun e w' => e = .returned (.tuple #[.slice none 0 0, .int .i64 2]) ∧ w = w' := by
  clear h
  go_enter Try.func23, Try.ntmps23
  go_wp2_with fail
  go_ret2
  exact ⟨rfl, rfl⟩
theorem diff_arg (h : IsImg w g L B D M) (h2 : IsImg w g2 L2 B2 D2 M2) (hl : L.length ≠ L2.length) : Calls Try.prog 23 #[.pointer (some ⟨g, 0, none⟩), .pointer (some ⟨g2, 0, none⟩)] w fun e w' => e = .returned (.tuple #[.slice none 0 0, .int .i64 1]) ∧ Below w.heap.size w w' := by
  have c0 := h.c0
  have d0 := h2.c0
  have t0 : ((L.length : Int) != (L2.length : Int)) = true := by simp; omega
  clear h h2 hl
  go_enter Try.func23, Try.ntmps23
  go_wp2_with fail
  go_quiet (fail)
  go_wp2_with fail
  go_ret2
  exact ⟨rfl, bl_drewN _ _⟩
set_option maxHeartbeats 3200000 in
theorem diff_any (h : IsImg w g L B D M) (h2 : IsImg w g2 L2 B2 D2 M2) (hl : L.length = L2.length) : Calls Try.prog 23 #[.pointer (some ⟨g, 0, none⟩), .pointer (some ⟨g2, 0, none⟩)] w (RetDiff w (diffL L L2)) := by
  have c0 := h.c0
  have d0 := h2.c0
  rw [← hl] at d0
  have t0 : ((L.length : Int) != (L.length : Int)) = false := by simp
  have h256 := h.ok.hi
  have HH := Lib.hid h
  have HH2 := Lib.hid h2
  clear h h2
  go_enter Try.func23, Try.ntmps23
  go_wp2_with fail
  go_quiet (fail)
  go_wp2_with fail
  go_loopw [6, 29] (fun v6 v W => ∃ (i : Nat) (A : Option Addr) (k n1 : Nat) (l' : List ChS), i ≤ L.length ∧ v = .int .i64 (i : Int) ∧ n1 = l'.length ∧ v6 = .slice A n1 k ∧ l'.map ChS.kd = dfTo L L2 i ∧ LentAt W w.heap.size A k l' ∧ Below w.heap.size w W) (fun _ v _ => L.length - (RowKit.intOf v).toNat)
  case atStart => exact ⟨0, none, 0, 0, [], by omega, rfl, rfl, rfl, rfl, LentAt.nil _ _, bl_drewN _ _⟩
  case round =>
    obtain ⟨i, A, k, n1, l', hi, rfl, hn1, rfl, hkd, hL, hb⟩ := hrel
    have hll2 : l'.length ≤ 256 := by have := congrArg List.length hkd; simp at this; have := dfTo_len L L2 i; omega
    have hll : n1 ≤ 256 := by have := congrArg List.length hkd; simp at this; have := dfTo_len L L2 i; omega
    have HKD := Lib.hid hkd
    have HN1 := Lib.hid hn1
    have HL := Lib.hid hL
    have HB := Lib.hid hb
    have hs := hb.size
    have HI := Lib.hid (HH.out.below (bl_chain hb (bl_drew wr)))
    have HI2 := Lib.hid (HH2.out.below (bl_chain hb (bl_drew wr)))
    clear hkd hL hb hn1
    by_cases hlt : i < L.length
    · obtain ⟨A1, c1, hlk1, hc1, hm1, hr1, _, _⟩ := HI.out.look i hlt
      obtain ⟨A2, c2, hlk2, hc2, hm2, hr2, _, _⟩ := HI2.out.look i (by omega)
      have x1 := HI.out.c1
      have x2 := HI2.out.c1
      have hk1 := HH.out.ok.at_ i
      have hk2 := HH2.out.ok.at_ i
      have hB1 : isB (bk L i) := by rcases hk1 with h | h; rw [h]; exact isB.nil; exact h.2
      have hB2 : isB (bk L2 i) := by rcases hk2 with h | h; rw [h]; exact isB.nil; exact h.2
      have hl2 : (bk L2 i).length ≤ 64 := by rcases hk2 with h | h; rw [h]; simp; exact Nat.le_of_eq h.1
      have HEQ := Lib.hid (bytesEqual_any A1 A2 _ c1 _ c2 (bk L i) (bk L2 i) _ hr1 hr2 rfl rfl hB1 hB2)
      have HR2 := Lib.hid hr2
      have HB2' := Lib.hid hB2
      have HS : Hid (dfTo L L2 (i + 1) = dfTo L L2 i ++ (if bk L i = bk L2 i then [] else [((i : Int), bk L2 i)])) := Lib.hid rfl
      clear hr1 hr2 hk1 hk2 hB1 hB2
      obtain ⟨b2, hb2⟩ : ∃ b2, bk L2 i = b2 := ⟨_, rfl⟩
      rw [hb2] at hlk2 hl2 hc2 HEQ HR2 HB2' HS
      clear hb2
      by_cases he : bk L i = b2
      · rw [decide_eq_true he] at HEQ
        rw [if_pos he, List.append_nil] at HS
        clear he
        go_wp2_with fail
        refine held_start' (S := fun W => W = wr.drew) (by kernel_rfl) ?_
        refine held_take (rfl) (i := 0) (v := ?_) rfl (by kernel_rfl) (by kernel_rfl) (by kernel_rfl) (fun _ _ _ h => h) (Or.inl ⟨by rfl, ?_⟩) ?_
        rotate_left
        · (intro W hSw; subst hSw; go_simp; try with_reducible rfl)
        try simp only [Act.put, List.setIfInBounds_toArray, List.set_cons_zero, List.set_cons_succ]
        refine held_take (rfl) (i := 1) (v := ?_) rfl (by kernel_rfl) (by kernel_rfl) (by kernel_rfl) (fun _ _ _ h => h) (Or.inl ⟨by rfl, ?_⟩) ?_
        rotate_left
        · (intro W hSw; subst hSw; go_simp; try with_reducible rfl)
        try simp only [Act.put, List.setIfInBounds_toArray, List.set_cons_zero, List.set_cons_succ]
        refine held_take (rfl) (i := 2) (v := ?_) rfl (by kernel_rfl) (by kernel_rfl) (by kernel_rfl) (fun _ _ _ h => h) (Or.inl ⟨by rfl, ?_⟩) ?_
        rotate_left
        · (intro W hSw; subst hSw; go_simp; try with_reducible rfl)
        try simp only [Act.put, List.setIfInBounds_toArray, List.set_cons_zero, List.set_cons_succ]
        refine held_take (rfl) (i := 3) (v := ?_) rfl (by kernel_rfl) (by kernel_rfl) (by kernel_rfl) (fun _ _ _ h => h) (Or.inl ⟨by rfl, ?_⟩) ?_
        rotate_left
        · (intro W hSw; subst hSw; go_simp; try with_reducible rfl)
        try simp only [Act.put, List.setIfInBounds_toArray, List.set_cons_zero, List.set_cons_succ]
        refine held_take (rfl) (i := 4) (v := ?_) rfl (by kernel_rfl) (by kernel_rfl) (by kernel_rfl) (fun _ _ _ h => h) (Or.inl ⟨by rfl, ?_⟩) ?_
        rotate_left
        · (intro W hSw; subst hSw; go_simp; try with_reducible rfl)
        try simp only [Act.put, List.setIfInBounds_toArray, List.set_cons_zero, List.set_cons_succ]
        refine held_take (rfl) (i := 5) (v := ?_) rfl (by kernel_rfl) (by kernel_rfl) (by kernel_rfl) (fun _ _ _ h => h) (Or.inl ⟨by rfl, ?_⟩) ?_
        rotate_left
        · (intro W hSw; subst hSw; go_simp; try with_reducible rfl)
        try simp only [Act.put, List.setIfInBounds_toArray, List.set_cons_zero, List.set_cons_succ]
        refine held_take (rfl) (i := 6) (v := ?_) rfl (by kernel_rfl) (by kernel_rfl) (by kernel_rfl) (fun _ _ _ h => h) (Or.inl ⟨by rfl, ?_⟩) ?_
        rotate_left
        · (intro W hSw; subst hSw; go_simp; try with_reducible rfl)
        try simp only [Act.put, List.setIfInBounds_toArray, List.set_cons_zero, List.set_cons_succ]
        refine held_take (rfl) (i := 7) (v := ?_) rfl (by kernel_rfl) (by kernel_rfl) (by kernel_rfl) (fun _ _ _ h => h) (Or.inl ⟨by rfl, ?_⟩) ?_
        rotate_left
        · (intro W hSw; subst hSw; go_simp; try with_reducible rfl)
        try simp only [Act.put, List.setIfInBounds_toArray, List.set_cons_zero, List.set_cons_succ]
        refine held_take (rfl) (i := 8) (v := ?_) rfl (by kernel_rfl) (by kernel_rfl) (by kernel_rfl) (fun _ _ _ h => h) (Or.inl ⟨by rfl, ?_⟩) ?_
        rotate_left
        · (intro W hSw; subst hSw; go_simp; try with_reducible rfl)
        try simp only [Act.put, List.setIfInBounds_toArray, List.set_cons_zero, List.set_cons_succ]
        refine held_take (rfl) (i := 9) (v := ?_) rfl (by kernel_rfl) (by kernel_rfl) (by kernel_rfl) (fun _ _ _ h => h) (Or.inl ⟨by rfl, ?_⟩) ?_
        rotate_left
        · (intro W hSw; subst hSw; go_simp; try with_reducible rfl)
        try simp only [Act.put, List.setIfInBounds_toArray, List.set_cons_zero, List.set_cons_succ]
        refine held_take (rfl) (i := 10) (v := ?_) rfl (by kernel_rfl) (by kernel_rfl) (by kernel_rfl) (fun _ _ _ h => h) (Or.inl ⟨by rfl, ?_⟩) ?_
        rotate_left
        · (intro W hSw; subst hSw; go_simp; try with_reducible rfl)
        try simp only [Act.put, List.setIfInBounds_toArray, List.set_cons_zero, List.set_cons_succ]
        refine held_take (rfl) (i := 11) (v := ?_) rfl (by kernel_rfl) (by kernel_rfl) (by kernel_rfl) (fun _ _ _ h => h) (Or.inl ⟨by rfl, ?_⟩) ?_
        rotate_left
        · (intro W hSw; subst hSw; go_simp; try with_reducible rfl)
        try simp only [Act.put, List.setIfInBounds_toArray, List.set_cons_zero, List.set_cons_succ]
        refine held_call (i := 12) (by kernel_rfl) rfl (fun K hK => ?_)
        go_simp
        (go_at_call 44; (with_reducible refine HEQ.out.mono ?_); rintro e w' ⟨rfl, rfl⟩)
        refine hK.out _ _ (rfl) ?_
        clear hK K
        try simp only [Act.put, List.setIfInBounds_toArray, List.set_cons_zero, List.set_cons_succ]
        refine held_take (rfl) (i := 13) (v := ?_) rfl (by kernel_rfl) (by kernel_rfl) (by kernel_rfl) (fun _ _ _ h => h) (Or.inl ⟨by rfl, ?_⟩) ?_
        rotate_left
        · (intro W hSw; subst hSw; go_simp; try with_reducible rfl)
        try simp only [Act.put, List.setIfInBounds_toArray, List.set_cons_zero, List.set_cons_succ]
        refine wpAnyH_done (by kernel_rfl) ?_ _
        · go_wp2_with fail
          exact ⟨⟨i + 1, A, k, n1, l', by omega, by go_num, HN1.out, rfl, by rw [HS.out]; exact HKD.out, HL.out.tr (Tr.of_below (F := NoB) (bl_drew wr)) (fun _ _ _ h => h), bl_chain HB.out (bl_drew wr)⟩, by simp [RowKit.intOf]; omega⟩
      · rw [decide_eq_false he] at HEQ
        rw [if_neg he] at HS
        clear he
        have HROW := Lib.hid (show ∀ w3, Below wr.drew.heap.size wr.drew w3 → w3.ownsRow w.heap.size 33 2 (.slice A l'.length k) l'.length (chCells l') from fun w3 hb => (HL.out.tr (Tr.of_below (F := NoB) (bl_chain (bl_drew wr) hb)) (fun _ _ _ h => h)).row)
        go_wp2_with fail
        refine held_start' (S := fun W => W = wr.drew) (by kernel_rfl) ?_
        refine held_take (rfl) (i := 0) (v := ?_) rfl (by kernel_rfl) (by kernel_rfl) (by kernel_rfl) (fun _ _ _ h => h) (Or.inl ⟨by rfl, ?_⟩) ?_
        rotate_left
        · (intro W hSw; subst hSw; go_simp; try with_reducible rfl)
        try simp only [Act.put, List.setIfInBounds_toArray, List.set_cons_zero, List.set_cons_succ]
        refine held_take (rfl) (i := 1) (v := ?_) rfl (by kernel_rfl) (by kernel_rfl) (by kernel_rfl) (fun _ _ _ h => h) (Or.inl ⟨by rfl, ?_⟩) ?_
        rotate_left
        · (intro W hSw; subst hSw; go_simp; try with_reducible rfl)
        try simp only [Act.put, List.setIfInBounds_toArray, List.set_cons_zero, List.set_cons_succ]
        refine held_take (rfl) (i := 2) (v := ?_) rfl (by kernel_rfl) (by kernel_rfl) (by kernel_rfl) (fun _ _ _ h => h) (Or.inl ⟨by rfl, ?_⟩) ?_
        rotate_left
        · (intro W hSw; subst hSw; go_simp; try with_reducible rfl)
        try simp only [Act.put, List.setIfInBounds_toArray, List.set_cons_zero, List.set_cons_succ]
        refine held_take (rfl) (i := 3) (v := ?_) rfl (by kernel_rfl) (by kernel_rfl) (by kernel_rfl) (fun _ _ _ h => h) (Or.inl ⟨by rfl, ?_⟩) ?_
        rotate_left
        · (intro W hSw; subst hSw; go_simp; try with_reducible rfl)
        try simp only [Act.put, List.setIfInBounds_toArray, List.set_cons_zero, List.set_cons_succ]
        refine held_take (rfl) (i := 4) (v := ?_) rfl (by kernel_rfl) (by kernel_rfl) (by kernel_rfl) (fun _ _ _ h => h) (Or.inl ⟨by rfl, ?_⟩) ?_
        rotate_left
        · (intro W hSw; subst hSw; go_simp; try with_reducible rfl)
        try simp only [Act.put, List.setIfInBounds_toArray, List.set_cons_zero, List.set_cons_succ]
        refine held_take (rfl) (i := 5) (v := ?_) rfl (by kernel_rfl) (by kernel_rfl) (by kernel_rfl) (fun _ _ _ h => h) (Or.inl ⟨by rfl, ?_⟩) ?_
        rotate_left
        · (intro W hSw; subst hSw; go_simp; try with_reducible rfl)
        try simp only [Act.put, List.setIfInBounds_toArray, List.set_cons_zero, List.set_cons_succ]
        refine held_take (rfl) (i := 6) (v := ?_) rfl (by kernel_rfl) (by kernel_rfl) (by kernel_rfl) (fun _ _ _ h => h) (Or.inl ⟨by rfl, ?_⟩) ?_
        rotate_left
        · (intro W hSw; subst hSw; go_simp; try with_reducible rfl)
        try simp only [Act.put, List.setIfInBounds_toArray, List.set_cons_zero, List.set_cons_succ]
        refine held_take (rfl) (i := 7) (v := ?_) rfl (by kernel_rfl) (by kernel_rfl) (by kernel_rfl) (fun _ _ _ h => h) (Or.inl ⟨by rfl, ?_⟩) ?_
        rotate_left
        · (intro W hSw; subst hSw; go_simp; try with_reducible rfl)
        try simp only [Act.put, List.setIfInBounds_toArray, List.set_cons_zero, List.set_cons_succ]
        refine held_take (rfl) (i := 8) (v := ?_) rfl (by kernel_rfl) (by kernel_rfl) (by kernel_rfl) (fun _ _ _ h => h) (Or.inl ⟨by rfl, ?_⟩) ?_
        rotate_left
        · (intro W hSw; subst hSw; go_simp; try with_reducible rfl)
        try simp only [Act.put, List.setIfInBounds_toArray, List.set_cons_zero, List.set_cons_succ]
        refine held_take (rfl) (i := 9) (v := ?_) rfl (by kernel_rfl) (by kernel_rfl) (by kernel_rfl) (fun _ _ _ h => h) (Or.inl ⟨by rfl, ?_⟩) ?_
        rotate_left
        · (intro W hSw; subst hSw; go_simp; try with_reducible rfl)
        try simp only [Act.put, List.setIfInBounds_toArray, List.set_cons_zero, List.set_cons_succ]
        refine held_take (rfl) (i := 10) (v := ?_) rfl (by kernel_rfl) (by kernel_rfl) (by kernel_rfl) (fun _ _ _ h => h) (Or.inl ⟨by rfl, ?_⟩) ?_
        rotate_left
        · (intro W hSw; subst hSw; go_simp; try with_reducible rfl)
        try simp only [Act.put, List.setIfInBounds_toArray, List.set_cons_zero, List.set_cons_succ]
        refine held_take (rfl) (i := 11) (v := ?_) rfl (by kernel_rfl) (by kernel_rfl) (by kernel_rfl) (fun _ _ _ h => h) (Or.inl ⟨by rfl, ?_⟩) ?_
        rotate_left
        · (intro W hSw; subst hSw; go_simp; try with_reducible rfl)
        try simp only [Act.put, List.setIfInBounds_toArray, List.set_cons_zero, List.set_cons_succ]
        refine held_call (i := 12) (by kernel_rfl) rfl (fun K hK => ?_)
        go_simp
        (go_at_call 44; (with_reducible refine HEQ.out.mono ?_); rintro e w' ⟨rfl, rfl⟩)
        refine hK.out _ _ (rfl) ?_
        clear hK K
        try simp only [Act.put, List.setIfInBounds_toArray, List.set_cons_zero, List.set_cons_succ]
        refine held_take (rfl) (i := 13) (v := ?_) rfl (by kernel_rfl) (by kernel_rfl) (by kernel_rfl) (fun _ _ _ h => h) (Or.inl ⟨by rfl, ?_⟩) ?_
        rotate_left
        · (intro W hSw; subst hSw; go_simp; try with_reducible rfl)
        try simp only [Act.put, List.setIfInBounds_toArray, List.set_cons_zero, List.set_cons_succ]
        refine wpAnyH_done (by kernel_rfl) ?_ _
        · go_wp2_with (first
            | (go_at_call 41; (with_reducible refine (clone_any A2 c2 b2 _ HR2.out (by omega)).mono ?_); rintro e w3 ⟨A3, c3, rfl, hc3, ho, hb⟩; have HO3 := Lib.hid ho; have HB3 := Lib.hid hb; have HR3 := Lib.hid (HROW.out w3 hb); have hs3 := hb.size; have hs3d : wr.heap.size ≤ w3.heap.size := hs3; clear ho hb)
            | (at_builtin; (refine wpL_append ECh rfl rfl (HR3.out.alloc _) (by rw [← HN1.out]; rfl) (Rd.newN w3 33 #[.int .i64 (i : Int), .slice A3 b2.length c3]) rfl (by rfl) (by simp [Value.oneCell']) (l'.length + 1) (chCells (l' ++ [(⟨A3, c3, (i : Int), b2⟩ : ChS)])) rfl (by rw [chCells, chCells, List.flatMap_append]; simp [ChS.cells]) (by simp only [maxLen]; omega) (by omega) (by simp; omega) ?_; intro A5 c5 w5 hc5 ho5 ht5 _; have HO5 := Lib.hid ho5; have HT5 := Lib.hid ht5; clear ho5 ht5)))
          have hadd := HL.out.add hs (bl_chain (bl_drew wr) HB3.out) HO3.out ⟨by omega, HB2'.out, by omega⟩ HO5.out HT5.out
          exact ⟨⟨i + 1, A5, c5, l'.length + 1, l' ++ [⟨A3, c3, (i : Int), b2⟩], by omega, by go_num, by rw [List.length_append]; rfl, rfl, by rw [HS.out, List.map_append, HKD.out]; rfl, hadd, bl_tr (bl_chain (bl_chain HB.out (bl_chain (bl_drew wr) HB3.out)) (bl_alloc w3 _)) HT5.out (fun x hx => own_ge HL.out.row x hx)⟩, by simp [RowKit.intOf]; omega⟩
    · obtain rfl : i = L.length := by omega
      go_wp2_with fail
      go_ret2
      exact ⟨A, k, l', by rw [← HN1.out]; rfl, HKD.out, HL.out, HB.out⟩
end
section
variable {w : World} {r q c r2 q2 c2 : Nat} {L L2 : List (List Int)} {M M2 : Nat → Prop}
set_option maxHeartbeats 3200000 in
theorem rdiff_any (h : IsRef w r L q c M) (h2 : IsRef w r2 L2 q2 c2 M2) (hl : L.length = L2.length) : Calls Try.prog 24 #[.pointer (some ⟨r, 0, none⟩), .pointer (some ⟨r2, 0, none⟩)] w (RetDiff w (diffL L L2)) := by
  have c0 : w.cell? ⟨r, 0, none⟩ = some (.slice (some ⟨q, 0, none⟩) L.length c) := h.blk.cell 0
  have d0 : w.cell? ⟨r2, 0, none⟩ = some (.slice (some ⟨q2, 0, none⟩) L2.length c2) := h2.blk.cell 0
  rw [← hl] at d0
  have t0 : ((L.length : Int) != (L.length : Int)) = false := by simp
  have h256 := h.ok.hi
  have HH := Lib.hid h
  have HH2 := Lib.hid h2
  clear h h2
  go_enter Try.func24, Try.ntmps24
  go_wp2_with fail
  go_quiet (fail)
  go_wp2_with fail
  go_loopw [6, 7] (fun v6 v W => ∃ (i : Nat) (A : Option Addr) (k n1 : Nat) (l' : List ChS), i ≤ L.length ∧ v = .int .i64 (i : Int) ∧ n1 = l'.length ∧ v6 = .slice A n1 k ∧ l'.map ChS.kd = dfTo L L2 i ∧ LentAt W w.heap.size A k l' ∧ Below w.heap.size w W) (fun _ v _ => L.length - (RowKit.intOf v).toNat)
  case atStart => exact ⟨0, none, 0, 0, [], by omega, rfl, rfl, rfl, rfl, LentAt.nil _ _, bl_drewN _ _⟩
  case round =>
    obtain ⟨i, A, k, n1, l', hi, rfl, hn1, rfl, hkd, hL, hb⟩ := hrel
    have hll2 : l'.length ≤ 256 := by have := congrArg List.length hkd; simp at this; have := dfTo_len L L2 i; omega
    have hll : n1 ≤ 256 := by omega
    have HKD := Lib.hid hkd
    have HN1 := Lib.hid hn1
    have HL := Lib.hid hL
    have HB := Lib.hid hb
    have hs := hb.size
    have HI := Lib.hid (HH.out.below (bl_chain hb (bl_drew wr)))
    have HI2 := Lib.hid (HH2.out.below (bl_chain hb (bl_drew wr)))
    have c0w : wr.cell? ⟨r, 0, none⟩ = some (.slice (some ⟨q, 0, none⟩) L.length c) := (hb.cell (cell_block_lt c0)).trans c0
    clear hkd hL hb hn1
    by_cases hlt : i < L.length
    · obtain ⟨A1, k1, hc1, hr1⟩ := HI.out.cell i hlt
      obtain ⟨A2, k2, hc2, hr2⟩ := HI2.out.cell i (by omega)
      have x1 : wr.drew.cell? ⟨r, 0, none⟩ = some (.slice (some ⟨q, 0, none⟩) L.length c) := HI.out.blk.cell 0
      have x2 : wr.drew.cell? ⟨r2, 0, none⟩ = some (.slice (some ⟨q2, 0, none⟩) L2.length c2) := HI2.out.blk.cell 0
      rw [← hl] at x2
      have kk1 := ext_conv (c := k1) hr1 rfl wr.drew (Below.refl _ _)
      have kk2 := ext_conv (c := k2) hr2 rfl wr.drew (Below.refl _ _)
      have hk1 := HH.out.ok.at_ i
      have hk2 := HH2.out.ok.at_ i
      have hB1 : isB (bk L i) := by rcases hk1 with h | h; rw [h]; exact isB.nil; exact h.2
      have hB2 : isB (bk L2 i) := by rcases hk2 with h | h; rw [h]; exact isB.nil; exact h.2
      have hl2 : (bk L2 i).length ≤ 64 := by rcases hk2 with h | h; rw [h]; simp; exact Nat.le_of_eq h.1
      have heq := beqs hB1 hB2
      have HR2 := Lib.hid hr2
      have HB2' := Lib.hid hB2
      have HS : Hid (dfTo L L2 (i + 1) = dfTo L L2 i ++ (if bk L i = bk L2 i then [] else [((i : Int), bk L2 i)])) := Lib.hid rfl
      clear hr1 hr2 hk1 hk2 hB1 hB2
      obtain ⟨b2, hb2⟩ : ∃ b2, bk L2 i = b2 := ⟨_, rfl⟩
      rw [hb2] at hc2 kk2 hl2 heq HR2 HB2' HS
      clear hb2
      obtain ⟨S1, hS1⟩ : ∃ S1, strOfNums (bk L i) = S1 := ⟨_, rfl⟩
      obtain ⟨S2, hS2⟩ : ∃ S2, strOfNums b2 = S2 := ⟨_, rfl⟩
      rw [hS1] at kk1 heq
      rw [hS2] at kk2 heq
      clear hS1 hS2
      by_cases he : bk L i = b2
      · rw [decide_eq_true he] at heq
        have hne : (S1.toList != S2.toList) = false := by rw [bne, heq]; rfl
        rw [if_pos he, List.append_nil] at HS
        clear he
        go_wp2_with fail
        refine held_start' (S := fun W => W = wr.drew) (by kernel_rfl) ?_
        refine held_take (rfl) (i := 0) (v := ?_) rfl (by kernel_rfl) (by kernel_rfl) (by kernel_rfl) (fun _ _ _ h => h) (Or.inl ⟨by rfl, ?_⟩) ?_
        rotate_left
        · (intro W hSw; subst hSw; go_simp; try with_reducible rfl)
        try simp only [Act.put, List.setIfInBounds_toArray, List.set_cons_zero, List.set_cons_succ]
        refine held_take (rfl) (i := 1) (v := ?_) rfl (by kernel_rfl) (by kernel_rfl) (by kernel_rfl) (fun _ _ _ h => h) (Or.inl ⟨by rfl, ?_⟩) ?_
        rotate_left
        · (intro W hSw; subst hSw; go_simp; try with_reducible rfl)
        try simp only [Act.put, List.setIfInBounds_toArray, List.set_cons_zero, List.set_cons_succ]
        refine held_take (rfl) (i := 2) (v := ?_) rfl (by kernel_rfl) (by kernel_rfl) (by kernel_rfl) (fun _ _ _ h => h) (Or.inl ⟨by rfl, ?_⟩) ?_
        rotate_left
        · (intro W hSw; subst hSw; go_simp; try with_reducible rfl)
        try simp only [Act.put, List.setIfInBounds_toArray, List.set_cons_zero, List.set_cons_succ]
        refine held_take (rfl) (i := 3) (v := ?_) rfl (by kernel_rfl) (by kernel_rfl) (by kernel_rfl) (fun _ _ _ h => h) (Or.inl ⟨by rfl, ?_⟩) ?_
        rotate_left
        · (intro W hSw; subst hSw; go_simp; try with_reducible rfl)
        try simp only [Act.put, List.setIfInBounds_toArray, List.set_cons_zero, List.set_cons_succ]
        refine held_take (rfl) (i := 4) (v := ?_) rfl (by kernel_rfl) (by kernel_rfl) (by kernel_rfl) (fun _ _ _ h => h) (Or.inl ⟨by rfl, ?_⟩) ?_
        rotate_left
        · (intro W hSw; subst hSw; go_simp; try with_reducible rfl)
        try simp only [Act.put, List.setIfInBounds_toArray, List.set_cons_zero, List.set_cons_succ]
        refine held_take (rfl) (i := 5) (v := ?_) rfl (by kernel_rfl) (by kernel_rfl) (by kernel_rfl) (fun _ _ _ h => h) (Or.inl ⟨by rfl, ?_⟩) ?_
        rotate_left
        · (intro W hSw; subst hSw; go_simp; try with_reducible rfl)
        try simp only [Act.put, List.setIfInBounds_toArray, List.set_cons_zero, List.set_cons_succ]
        refine held_take (rfl) (i := 6) (v := ?_) rfl (by kernel_rfl) (by kernel_rfl) (by kernel_rfl) (fun _ _ _ h => h) (Or.inl ⟨by rfl, ?_⟩) ?_
        rotate_left
        · (intro W hSw; subst hSw; go_simp; try with_reducible rfl)
        try simp only [Act.put, List.setIfInBounds_toArray, List.set_cons_zero, List.set_cons_succ]
        refine held_take (rfl) (i := 7) (v := ?_) rfl (by kernel_rfl) (by kernel_rfl) (by kernel_rfl) (fun _ _ _ h => h) (Or.inl ⟨by rfl, ?_⟩) ?_
        rotate_left
        · (intro W hSw; subst hSw; go_simp; try with_reducible rfl)
        try simp only [Act.put, List.setIfInBounds_toArray, List.set_cons_zero, List.set_cons_succ]
        refine held_take (rfl) (i := 8) (v := ?_) rfl (by kernel_rfl) (by kernel_rfl) (by kernel_rfl) (fun _ _ _ h => h) (Or.inl ⟨by rfl, ?_⟩) ?_
        rotate_left
        · (intro W hSw; subst hSw; go_simp; try with_reducible rfl)
        try simp only [Act.put, List.setIfInBounds_toArray, List.set_cons_zero, List.set_cons_succ]
        refine held_take (rfl) (i := 9) (v := ?_) rfl (by kernel_rfl) (by kernel_rfl) (by kernel_rfl) (fun _ _ _ h => h) (Or.inl ⟨by rfl, ?_⟩) ?_
        rotate_left
        · (intro W hSw; subst hSw; go_simp; try with_reducible rfl)
        try simp only [Act.put, List.setIfInBounds_toArray, List.set_cons_zero, List.set_cons_succ]
        refine held_take (rfl) (i := 10) (v := ?_) rfl (by kernel_rfl) (by kernel_rfl) (by kernel_rfl) (fun _ _ _ h => h) (Or.inl ⟨by rfl, ?_⟩) ?_
        rotate_left
        · (intro W hSw; subst hSw; go_simp; try with_reducible rfl)
        try simp only [Act.put, List.setIfInBounds_toArray, List.set_cons_zero, List.set_cons_succ]
        refine held_take (rfl) (i := 11) (v := ?_) rfl (by kernel_rfl) (by kernel_rfl) (by kernel_rfl) (fun _ _ _ h => h) (Or.inl ⟨by rfl, ?_⟩) ?_
        rotate_left
        · (intro W hSw; subst hSw; go_simp; try with_reducible rfl)
        try simp only [Act.put, List.setIfInBounds_toArray, List.set_cons_zero, List.set_cons_succ]
        refine held_take (rfl) (i := 12) (v := ?_) rfl (by kernel_rfl) (by kernel_rfl) (by kernel_rfl) (fun _ _ _ h => h) (Or.inl ⟨by rfl, ?_⟩) ?_
        rotate_left
        · (intro W hSw; subst hSw; go_simp; try with_reducible rfl)
        try simp only [Act.put, List.setIfInBounds_toArray, List.set_cons_zero, List.set_cons_succ]
        refine held_take (rfl) (i := 13) (v := ?_) rfl (by kernel_rfl) (by kernel_rfl) (by kernel_rfl) (fun _ _ _ h => h) (Or.inl ⟨by rfl, ?_⟩) ?_
        rotate_left
        · (intro W hSw; subst hSw; go_simp; try with_reducible rfl)
        try simp only [Act.put, List.setIfInBounds_toArray, List.set_cons_zero, List.set_cons_succ]
        refine held_take (rfl) (i := 14) (v := ?_) rfl (by kernel_rfl) (by kernel_rfl) (by kernel_rfl) (fun _ _ _ h => h) (Or.inl ⟨by rfl, ?_⟩) ?_
        rotate_left
        · (intro W hSw; subst hSw; go_simp; try with_reducible rfl)
        try simp only [Act.put, List.setIfInBounds_toArray, List.set_cons_zero, List.set_cons_succ]
        refine held_take (rfl) (i := 15) (v := ?_) rfl (by kernel_rfl) (by kernel_rfl) (by kernel_rfl) (fun _ _ _ h => h) (Or.inl ⟨by rfl, ?_⟩) ?_
        rotate_left
        · (intro W hSw; subst hSw; go_simp; try with_reducible rfl)
        try simp only [Act.put, List.setIfInBounds_toArray, List.set_cons_zero, List.set_cons_succ]
        refine held_take (rfl) (i := 16) (v := ?_) rfl (by kernel_rfl) (by kernel_rfl) (by kernel_rfl) (fun _ _ _ h => h) (Or.inl ⟨by rfl, ?_⟩) ?_
        rotate_left
        · (intro W hSw; subst hSw; go_simp; try with_reducible rfl)
        try simp only [Act.put, List.setIfInBounds_toArray, List.set_cons_zero, List.set_cons_succ]
        refine wpAnyH_done (by kernel_rfl) ?_ _
        · go_wp2_with fail
          exact ⟨⟨i + 1, A, k, n1, l', by omega, by go_num, HN1.out, rfl, by rw [HS.out]; exact HKD.out, HL.out.tr (Tr.of_below (F := NoB) (bl_drew wr)) (fun _ _ _ h => h), bl_chain HB.out (bl_drew wr)⟩, by simp [RowKit.intOf]; omega⟩
      · rw [decide_eq_false he] at heq
        have hne : (S1.toList != S2.toList) = true := by rw [bne, heq]; rfl
        rw [if_neg he] at HS
        clear he
        have HROW := Lib.hid (show ∀ w3, Below wr.drew.heap.size wr.drew w3 → w3.ownsRow w.heap.size 33 2 (.slice A l'.length k) l'.length (chCells l') from fun w3 hb => (HL.out.tr (Tr.of_below (F := NoB) (bl_chain (bl_drew wr) hb)) (fun _ _ _ h => h)).row)
        go_wp2_with fail
        refine held_start' (S := fun W => W = wr.drew) (by kernel_rfl) ?_
        refine held_take (rfl) (i := 0) (v := ?_) rfl (by kernel_rfl) (by kernel_rfl) (by kernel_rfl) (fun _ _ _ h => h) (Or.inl ⟨by rfl, ?_⟩) ?_
        rotate_left
        · (intro W hSw; subst hSw; go_simp; try with_reducible rfl)
        try simp only [Act.put, List.setIfInBounds_toArray, List.set_cons_zero, List.set_cons_succ]
        refine held_take (rfl) (i := 1) (v := ?_) rfl (by kernel_rfl) (by kernel_rfl) (by kernel_rfl) (fun _ _ _ h => h) (Or.inl ⟨by rfl, ?_⟩) ?_
        rotate_left
        · (intro W hSw; subst hSw; go_simp; try with_reducible rfl)
        try simp only [Act.put, List.setIfInBounds_toArray, List.set_cons_zero, List.set_cons_succ]
        refine held_take (rfl) (i := 2) (v := ?_) rfl (by kernel_rfl) (by kernel_rfl) (by kernel_rfl) (fun _ _ _ h => h) (Or.inl ⟨by rfl, ?_⟩) ?_
        rotate_left
        · (intro W hSw; subst hSw; go_simp; try with_reducible rfl)
        try simp only [Act.put, List.setIfInBounds_toArray, List.set_cons_zero, List.set_cons_succ]
        refine held_take (rfl) (i := 3) (v := ?_) rfl (by kernel_rfl) (by kernel_rfl) (by kernel_rfl) (fun _ _ _ h => h) (Or.inl ⟨by rfl, ?_⟩) ?_
        rotate_left
        · (intro W hSw; subst hSw; go_simp; try with_reducible rfl)
        try simp only [Act.put, List.setIfInBounds_toArray, List.set_cons_zero, List.set_cons_succ]
        refine held_take (rfl) (i := 4) (v := ?_) rfl (by kernel_rfl) (by kernel_rfl) (by kernel_rfl) (fun _ _ _ h => h) (Or.inl ⟨by rfl, ?_⟩) ?_
        rotate_left
        · (intro W hSw; subst hSw; go_simp; try with_reducible rfl)
        try simp only [Act.put, List.setIfInBounds_toArray, List.set_cons_zero, List.set_cons_succ]
        refine held_take (rfl) (i := 5) (v := ?_) rfl (by kernel_rfl) (by kernel_rfl) (by kernel_rfl) (fun _ _ _ h => h) (Or.inl ⟨by rfl, ?_⟩) ?_
        rotate_left
        · (intro W hSw; subst hSw; go_simp; try with_reducible rfl)
        try simp only [Act.put, List.setIfInBounds_toArray, List.set_cons_zero, List.set_cons_succ]
        refine held_take (rfl) (i := 6) (v := ?_) rfl (by kernel_rfl) (by kernel_rfl) (by kernel_rfl) (fun _ _ _ h => h) (Or.inl ⟨by rfl, ?_⟩) ?_
        rotate_left
        · (intro W hSw; subst hSw; go_simp; try with_reducible rfl)
        try simp only [Act.put, List.setIfInBounds_toArray, List.set_cons_zero, List.set_cons_succ]
        refine held_take (rfl) (i := 7) (v := ?_) rfl (by kernel_rfl) (by kernel_rfl) (by kernel_rfl) (fun _ _ _ h => h) (Or.inl ⟨by rfl, ?_⟩) ?_
        rotate_left
        · (intro W hSw; subst hSw; go_simp; try with_reducible rfl)
        try simp only [Act.put, List.setIfInBounds_toArray, List.set_cons_zero, List.set_cons_succ]
        refine held_take (rfl) (i := 8) (v := ?_) rfl (by kernel_rfl) (by kernel_rfl) (by kernel_rfl) (fun _ _ _ h => h) (Or.inl ⟨by rfl, ?_⟩) ?_
        rotate_left
        · (intro W hSw; subst hSw; go_simp; try with_reducible rfl)
        try simp only [Act.put, List.setIfInBounds_toArray, List.set_cons_zero, List.set_cons_succ]
        refine held_take (rfl) (i := 9) (v := ?_) rfl (by kernel_rfl) (by kernel_rfl) (by kernel_rfl) (fun _ _ _ h => h) (Or.inl ⟨by rfl, ?_⟩) ?_
        rotate_left
        · (intro W hSw; subst hSw; go_simp; try with_reducible rfl)
        try simp only [Act.put, List.setIfInBounds_toArray, List.set_cons_zero, List.set_cons_succ]
        refine held_take (rfl) (i := 10) (v := ?_) rfl (by kernel_rfl) (by kernel_rfl) (by kernel_rfl) (fun _ _ _ h => h) (Or.inl ⟨by rfl, ?_⟩) ?_
        rotate_left
        · (intro W hSw; subst hSw; go_simp; try with_reducible rfl)
        try simp only [Act.put, List.setIfInBounds_toArray, List.set_cons_zero, List.set_cons_succ]
        refine held_take (rfl) (i := 11) (v := ?_) rfl (by kernel_rfl) (by kernel_rfl) (by kernel_rfl) (fun _ _ _ h => h) (Or.inl ⟨by rfl, ?_⟩) ?_
        rotate_left
        · (intro W hSw; subst hSw; go_simp; try with_reducible rfl)
        try simp only [Act.put, List.setIfInBounds_toArray, List.set_cons_zero, List.set_cons_succ]
        refine held_take (rfl) (i := 12) (v := ?_) rfl (by kernel_rfl) (by kernel_rfl) (by kernel_rfl) (fun _ _ _ h => h) (Or.inl ⟨by rfl, ?_⟩) ?_
        rotate_left
        · (intro W hSw; subst hSw; go_simp; try with_reducible rfl)
        try simp only [Act.put, List.setIfInBounds_toArray, List.set_cons_zero, List.set_cons_succ]
        refine held_take (rfl) (i := 13) (v := ?_) rfl (by kernel_rfl) (by kernel_rfl) (by kernel_rfl) (fun _ _ _ h => h) (Or.inl ⟨by rfl, ?_⟩) ?_
        rotate_left
        · (intro W hSw; subst hSw; go_simp; try with_reducible rfl)
        try simp only [Act.put, List.setIfInBounds_toArray, List.set_cons_zero, List.set_cons_succ]
        refine held_take (rfl) (i := 14) (v := ?_) rfl (by kernel_rfl) (by kernel_rfl) (by kernel_rfl) (fun _ _ _ h => h) (Or.inl ⟨by rfl, ?_⟩) ?_
        rotate_left
        · (intro W hSw; subst hSw; go_simp; try with_reducible rfl)
        try simp only [Act.put, List.setIfInBounds_toArray, List.set_cons_zero, List.set_cons_succ]
        refine held_take (rfl) (i := 15) (v := ?_) rfl (by kernel_rfl) (by kernel_rfl) (by kernel_rfl) (fun _ _ _ h => h) (Or.inl ⟨by rfl, ?_⟩) ?_
        rotate_left
        · (intro W hSw; subst hSw; go_simp; try with_reducible rfl)
        try simp only [Act.put, List.setIfInBounds_toArray, List.set_cons_zero, List.set_cons_succ]
        refine held_take (rfl) (i := 16) (v := ?_) rfl (by kernel_rfl) (by kernel_rfl) (by kernel_rfl) (fun _ _ _ h => h) (Or.inl ⟨by rfl, ?_⟩) ?_
        rotate_left
        · (intro W hSw; subst hSw; go_simp; try with_reducible rfl)
        try simp only [Act.put, List.setIfInBounds_toArray, List.set_cons_zero, List.set_cons_succ]
        refine wpAnyH_done (by kernel_rfl) ?_ _
        · go_wp2_with (first
            | (at_builtin; refine wpL_append E8 rfl rfl (ownsRow_emp wr.drew wr.drew.heap.size _ _) rfl HR2.out rfl (by rw [by8_length]; simp) (by8_one _) b2.length (by8 b2) (by simp) (by simp) (by simp only [maxLen]; omega) (by omega) (Nat.le_refl _) ?_; intro A3 c3 w3 hc3 ho3 ht3 _; have hb3 : Below wr.drew.heap.size wr.drew w3 := ht3.below (fun b _ h => Blo.none b h); have HO3 := Lib.hid ho3; have HB3 := Lib.hid hb3; have HR3 := Lib.hid (HROW.out w3 hb3); have hs3 := hb3.size; have hs3d : wr.heap.size ≤ w3.heap.size := hs3; clear ho3 ht3 hb3)
            | (at_builtin; refine wpL_append ECh rfl rfl (HR3.out.alloc _) (by rw [← HN1.out]; rfl) (Rd.newN w3 33 #[.int .i64 (i : Int), .slice A3 b2.length c3]) rfl (by rfl) (by simp [Value.oneCell']) (l'.length + 1) (chCells (l' ++ [(⟨A3, c3, (i : Int), b2⟩ : ChS)])) rfl (by rw [chCells, chCells, List.flatMap_append]; simp [ChS.cells]) (by simp only [maxLen]; omega) (by omega) (by simp; omega) ?_; intro A5 c5 w5 hc5 ho5 ht5 _; have HO5 := Lib.hid ho5; have HT5 := Lib.hid ht5; clear ho5 ht5))
          have hadd := HL.out.add hs (bl_chain (bl_drew wr) HB3.out) HO3.out ⟨by omega, HB2'.out, by omega⟩ HO5.out HT5.out
          exact ⟨⟨i + 1, A5, c5, l'.length + 1, l' ++ [⟨A3, c3, (i : Int), b2⟩], by omega, by go_num, by rw [List.length_append]; rfl, rfl, by rw [HS.out, List.map_append, HKD.out]; rfl, hadd, bl_tr (bl_chain (bl_chain HB.out (bl_chain (bl_drew wr) HB3.out)) (bl_alloc w3 _)) HT5.out (fun x hx => own_ge HL.out.row x hx)⟩, by simp [RowKit.intOf]; omega⟩
    · obtain rfl : i = L.length := by omega
      go_wp2_with fail
      go_ret2
      exact ⟨A, k, l', by rw [← HN1.out]; rfl, HKD.out, HL.out, HB.out⟩
end
end Go.Proofs.Ytdddbpnllhnfdaa
