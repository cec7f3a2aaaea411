/- extent.Load: its contract. -/
import Derived.Test.YtdddbpnllhnfdaaExtB
import Derived.Test.YtdddbpnllhnfdaaRdr
namespace Go.Proofs.Ytdddbpnllhnfdaa
set_option linter.unusedVariables false
set_option linter.unusedSimpArgs false
set_option maxRecDepth 100000
open Go.RowKit Go.Shelf

def lbaL (r : List Int) : Int := (r[0]?.getD 0) * 256 + (r[1]?.getD 0)
def ldK (n : Nat) : Nat → Int → List (List Int) → List Int → Int × List (List Int)
  | 0, _, L, r => if r.length = 0 then (0, L) else (11, L)
  | k + 1, last, L, r => if r.length < 66 then (10, L) else if lbaL r ≤ last ∨ (n : Int) ≤ lbaL r then (11, L) else ldK n k (lbaL r) (L.set (lbaL r).toNat ((r.drop 2).take 64)) (r.drop 66)
def ldN (b : List Int) : Int := unb (b.take 2)
def ldU (b : List Int) : Int := unb ((b.drop 2).take 2)
def loadL (b : List Int) : Int × List (List Int) := if b.length < 4 then (10, []) else if ¬ (1 ≤ ldN b ∧ ldN b ≤ 256) then (1, []) else ldK (ldN b).toNat (ldU b).toNat (-1) (emptyL (ldN b).toNat) (b.drop 4)
theorem unb2 {l : List Int} (hB : isB l) : 0 ≤ unb (l.take 2) ∧ unb (l.take 2) < 65536 := by
  by_cases h : 2 ≤ l.length
  · have := unb_range hB 2 h
    exact ⟨this.1, by have := this.2; simpa using this⟩
  · rw [List.take_of_length_le (by omega)]
    have := unb_range hB l.length (Nat.le_refl _)
    rw [List.take_length] at this
    have h2 : l.length = 0 ∨ l.length = 1 := by omega
    rcases h2 with h2 | h2 <;> rw [h2] at this <;> simp at this <;> omega
theorem ldN_range {b : List Int} (hB : isB b) : 0 ≤ ldN b ∧ ldN b < 65536 := unb2 hB
theorem ldU_range {b : List Int} (hB : isB b) : 0 ≤ ldU b ∧ ldU b < 65536 := unb2 (hB.drop 2)
theorem or_low_i (n x : Int) (h0 : 0 ≤ n) (h1 : n < 256) (hx0 : 0 ≤ x) (hx1 : x < 256) : bits .or .i64 (n * 256) x = n * 256 + x := by
  obtain ⟨N, rfl⟩ := Int.eq_ofNat_of_zero_le h0
  obtain ⟨X, rfl⟩ := Int.eq_ofNat_of_zero_le hx0
  have hor : N * 256 ||| X = N * 256 + X := by
    have := Nat.two_pow_add_eq_or_of_lt (i := 8) (b := X) (by omega) N
    rw [show (2 : Nat) ^ 8 = 256 from rfl, Nat.mul_comm] at this
    exact this.symm
  have e1 : (BitVec.ofInt 64 ((N * 256 : Nat) : Int)).toNat = N * 256 := by
    rw [BitVec.toNat_ofInt]; omega
  have e2 : (BitVec.ofInt 64 (X : Int)).toNat = X := by
    rw [BitVec.toNat_ofInt]; omega
  rw [show (N : Int) * 256 = ((N * 256 : Nat) : Int) by omega]
  show IntKind.i64.wrap ((BitVec.ofInt 64 ((N * 256 : Nat) : Int) ||| BitVec.ofInt 64 (X : Int)).toNat : Int) = _
  rw [BitVec.toNat_or, e1, e2, hor, wrapE rfl (by omega)]
  omega
theorem lba_at {b : List Int} (hB : isB b) (h : 2 ≤ b.length) : ∃ x y, b[0]? = some x ∧ b[1]? = some y ∧ 0 ≤ x ∧ x < 256 ∧ 0 ≤ y ∧ y < 256 ∧ lbaL b = x * 256 + y := by
  have h0 := hB.get 0 (by omega)
  have h1 := hB.get 1 (by omega)
  refine ⟨b[0], b[1], List.getElem?_eq_getElem (by omega), List.getElem?_eq_getElem (by omega), h0.1, h0.2, h1.1, h1.2, ?_⟩
  unfold lbaL
  rw [List.getElem?_eq_getElem (by omega), List.getElem?_eq_getElem (by omega)]
  rfl
def RetLoad (w : World) (r : Int × List (List Int)) (e : Ending) (w' : World) : Prop := (r.1 = 0 → RetNew w r.2 e w') ∧ (r.1 ≠ 0 → e = .returned (.tuple #[.pointer none, .int .i64 r.1]) ∧ Below w.heap.size w w')
theorem rdr2 (g : Nat) (l : List Int) (why : Int) (w : World) {F : Nat → Prop} (h : IsRdr w 110 g l why F) (hl : l.length ≤ 140737488351232) :
    Calls Try.prog 50 #[.pointer (some ⟨g, 0, none⟩), .int .i64 2] w fun e w' => e = .returned (.int .i64 (rdV 2 l why)) ∧ IsRdr w' 110 g (rdL 2 l why) (rdE 2 l why) F ∧ Tr (fun b => b = g) w w' := rdrNum g l why 2 w (by omega) (by omega) h hl
theorem rd_cut2 {w : World} {A : Option Addr} {l : List Int} {c k : Nat} (h : Rd w A (by8 l)) (hk : k ≤ l.length) (hc : l.length ≤ c) : ∃ A', Rd w A' (by8 (l.drop k)) ∧ (c = k → A' = A ∧ l.drop k = []) ∧ (¬ c = k → A' = A.map (·.add k)) := by
  have := h.cut (k := k) (cap := c) (by rw [by8_length]; exact hk) (by rw [by8_length]; exact hc)
  rw [by8_drop] at this
  refine ⟨_, this, fun e => ⟨if_pos e, List.drop_eq_nil_of_le (by omega)⟩, fun e => if_neg e⟩
set_option maxHeartbeats 4000000 in
theorem load_any (A : Option Addr) (c : Nat) (b : List Int) (w : World) (hr : Rd w A (by8 b)) (hB : isB b) (hc : b.length ≤ c) (hcm : c ≤ maxLen) (hl : b.length ≤ 140737488351232) :
    Calls Try.prog 28 #[.slice A b.length c] w (RetLoad w (loadL b)) := by
  have HR := Lib.hid hr
  have HB := Lib.hid hB
  have HCM := Lib.hid hcm
  by_cases h4 : b.length < 4
  · have hres : loadL b = (10, []) := if_pos h4
    rw [hres]
    have HN1 := Lib.hid (show ∀ g w (F : Nat → Prop), IsRdr w 110 g b 0 F → Calls Try.prog 50 #[.pointer (some ⟨g, 0, none⟩), .int .i64 2] w fun e w' => ∃ v l' e', e = .returned (.int .i64 v) ∧ IsRdr w' 110 g l' e' F ∧ ((e' = 10) ∨ (e' = 0 ∧ l'.length < 2)) ∧ l'.length ≤ b.length ∧ Tr (fun b => b = g) w w' from fun g w F h => by
      refine (rdr2 g b 0 w h hl).mono ?_
      rintro e w' ⟨he, h2, ht⟩
      by_cases h3 : 2 ≤ b.length
      · refine ⟨_, _, _, he, h2, .inr ⟨by unfold rdE; rw [if_pos rfl, if_pos h3], ?_⟩, ?_, ht⟩
        · unfold rdL; rw [if_pos ⟨rfl, h3⟩, List.length_drop]; omega
        · unfold rdL; rw [if_pos ⟨rfl, h3⟩, List.length_drop]; omega
      · refine ⟨_, _, _, he, h2, .inl (by unfold rdE; rw [if_pos rfl, if_neg h3]), ?_, ht⟩
        unfold rdL; rw [if_neg (by omega)]; exact Nat.le_refl _)
    have HN2 := Lib.hid (show ∀ g w (F : Nat → Prop) l' e', IsRdr w 110 g l' e' F → ((e' = 10) ∨ (e' = 0 ∧ l'.length < 2)) → l'.length ≤ b.length → Calls Try.prog 50 #[.pointer (some ⟨g, 0, none⟩), .int .i64 2] w fun e w' => ∃ v l', e = .returned (.int .i64 v) ∧ IsRdr w' 110 g l' 10 F ∧ Tr (fun b => b = g) w w' from fun g w F l' e' h hc hle => by
      refine (rdr2 g l' e' w h (by omega)).mono ?_
      rintro e w' ⟨he, h2, ht⟩
      have : rdE 2 l' e' = 10 := by
        unfold rdE
        rcases hc with h | ⟨h, h'⟩
        · rw [if_neg (by omega), h]
        · rw [if_pos h, if_neg (by omega)]
      rw [this] at h2
      exact ⟨_, _, he, h2, ht⟩)
    go_enter Try.func28, Try.ntmps28
    go_wp2_with (first
      | (go_at_call 49; (with_reducible refine (newReader_any A c b w HR.out HB.out hl).mono ?_); rintro e w1 ⟨gr, rfl, hr1, hg1, hb1⟩; have R1 := Lib.hid hr1; have B1 := Lib.hid hb1; clear hr1 hb1)
      | (go_at_call 50; (with_reducible refine (HN1.out gr w1 _ R1.out).mono ?_); rintro e w2 ⟨v2, l2, e2, rfl, hr2, hc2, hl2, ht2⟩; have R2 := Lib.hid hr2; have C2 := Lib.hid hc2; have B2 := Lib.hid (bl_tr B1.out ht2 (fun x e => by omega)); clear hr2 ht2 hc2)
      | (go_at_call 50; (with_reducible refine (HN2.out gr w2 _ l2 e2 R2.out C2.out hl2).mono ?_); rintro e w3 ⟨v3, l3, rfl, hr3, ht3⟩; have e3 := rdrEnd gr l3 10 w3 hr3; rw [show endE l3 10 = 10 from if_neg (by omega)] at e3; have E3 := Lib.hid e3; clear e3; have B3 := Lib.hid (bl_tr B2.out ht3 (fun x e => by omega)); clear hr3 ht3)
      | (go_at_call 51; (with_reducible refine E3.out.mono ?_); rintro e w' ⟨rfl, rfl⟩))
    go_ret2
    exact ⟨fun h => absurd h (by decide), fun _ => ⟨rfl, B3.out⟩⟩
  · obtain ⟨hN0, hN1⟩ := ldN_range hB
    obtain ⟨hU0, hU1⟩ := ldU_range hB
    obtain ⟨N, hN⟩ := Int.eq_ofNat_of_zero_le hN0
    obtain ⟨U, hU⟩ := Int.eq_ofNat_of_zero_le hU0
    have hd4 : (b.drop 2).drop 2 = b.drop 4 := by rw [List.drop_drop]
    have HN1 := Lib.hid (show ∀ g w (F : Nat → Prop), IsRdr w 110 g b 0 F → Calls Try.prog 50 #[.pointer (some ⟨g, 0, none⟩), .int .i64 2] w fun e w' => e = .returned (.int .i64 (N : Int)) ∧ IsRdr w' 110 g (b.drop 2) 0 F ∧ Tr (fun b => b = g) w w' from fun g w F h => by
      have := rdr2 g b 0 w h hl
      rw [show rdV 2 b 0 = (N : Int) from (if_pos ⟨rfl, by omega⟩).trans (by rw [← hN]; unfold wrap64; unfold ldN at hN0 hN1 hN ⊢; omega), show rdL 2 b 0 = b.drop 2 from if_pos ⟨rfl, by omega⟩, show rdE 2 b 0 = 0 from by unfold rdE; rw [if_pos rfl, if_pos (by omega)]] at this
      exact this)
    have HN2 := Lib.hid (show ∀ g w (F : Nat → Prop), IsRdr w 110 g (b.drop 2) 0 F → Calls Try.prog 50 #[.pointer (some ⟨g, 0, none⟩), .int .i64 2] w fun e w' => e = .returned (.int .i64 (U : Int)) ∧ IsRdr w' 110 g (b.drop 4) 0 F ∧ Tr (fun b => b = g) w w' from fun g w F h => by
      have hl2 : 2 ≤ (b.drop 2).length := by rw [List.length_drop]; omega
      have := rdr2 g (b.drop 2) 0 w h (by rw [List.length_drop]; omega)
      rw [show rdV 2 (b.drop 2) 0 = (U : Int) from (if_pos ⟨rfl, hl2⟩).trans (by rw [← hU]; unfold wrap64; unfold ldU at hU0 hU1 hU ⊢; omega), show rdL 2 (b.drop 2) 0 = b.drop 4 from (if_pos ⟨rfl, hl2⟩).trans hd4, show rdE 2 (b.drop 2) 0 = 0 from by unfold rdE; rw [if_pos rfl, if_pos hl2]] at this
      exact this)
    obtain ⟨ef, hef⟩ : ∃ ef, endE (b.drop 4) 0 = ef := ⟨_, rfl⟩
    have hef2 : (ef = 0 ∧ (ef != 0) = false) ∨ (ef = 11 ∧ (ef != 0) = true ∧ (ef != 11) = false) := by
      rw [← hef]; unfold endE
      split
      · right; decide
      · left; decide
    have hres : loadL b = if ¬ (1 ≤ (N : Int) ∧ (N : Int) ≤ 256) then (1, []) else ldK N U (-1) (emptyL N) (b.drop 4) := by
      unfold loadL
      rw [if_neg h4, hN, hU]
      rfl
    rw [hres]
    have hU65 : U < 65536 := by omega
    clear hres hN0 hN1 hU0 hN hU hd4
    have c4 : (4 : Int) ≤ (b.length : Int) := by omega
    by_cases hn : 1 ≤ (N : Int) ∧ (N : Int) ≤ 256
    · rw [if_neg (by omega)]
      obtain ⟨R, hR⟩ : ∃ R, ldK N U (-1) (emptyL N) (b.drop 4) = R := ⟨_, rfl⟩
      rw [hR]
      obtain ⟨A0, hA0, ha1, ha2⟩ := rd_cut2 (k := 4) HR.out (by omega) hc
      have HA0 := Lib.hid hA0
      have hrest : (b.drop 4).length = b.length - 4 := List.length_drop ..
      obtain ⟨r0, hr0⟩ : ∃ r0, b.drop 4 = r0 := ⟨_, rfl⟩
      rw [hr0] at hR HA0 hrest HN2
      have HB0 : Hid (isB r0) := Lib.hid (hr0 ▸ hB.drop 4)
      have hend : ∀ k last L r, ldK N k last L r = R → True := fun _ _ _ _ _ => trivial
      clear hend hA0
      have HC4 := Lib.hid (show (c = 4 → A0 = A ∧ r0 = []) ∧ (¬ c = 4 → A0 = A.map (·.add 4)) from ⟨fun e => by have := ha1 e; rw [hr0] at this; exact this, ha2⟩)
      clear ha1 ha2
      rw [hr0] at hef
      clear hr0
      have HRR := Lib.hid hR
      clear hR
      have hcase : (c = 4 ∧ r0 = []) ∨ (¬ c = 4 ∧ A0 = A.map (·.add 4)) := by
        by_cases hcc : c = 4
        · exact .inl ⟨hcc, (HC4.out.1 hcc).2⟩
        · exact .inr ⟨hcc, HC4.out.2 hcc⟩
      rcases hef2 with ⟨rfl, t1⟩ | ⟨rfl, t1, t2⟩ <;> rcases hcase with ⟨rfl, rfl⟩ | ⟨hcc, rfl⟩
      all_goals try (exfalso; exact absurd hef (by decide))
      all_goals
        go_enter Try.func28, Try.ntmps28
        go_wp2_with (first
          | (go_at_call 49; (with_reducible refine (newReader_any A _ b w HR.out HB.out hl).mono ?_); rintro e w1 ⟨gr, rfl, hr1, hg1, hb1⟩; have R1 := Lib.hid hr1; have B1 := Lib.hid hb1; clear hr1 hb1)
          | (go_at_call 50; (with_reducible refine (HN1.out gr w1 _ R1.out).mono ?_); rintro e w2 ⟨rfl, hr2, ht2⟩; have R2 := Lib.hid hr2; have B2 := Lib.hid (bl_tr B1.out ht2 (fun x e => by omega)); clear hr2 ht2)
          | (go_at_call 50; (with_reducible refine (HN2.out gr w2 _ R2.out).mono ?_); rintro e w3 ⟨rfl, hr3, ht3⟩; have e3 := rdrEnd gr _ 0 w3 hr3; rw [hef] at e3; have E3 := Lib.hid e3; have B3 := Lib.hid (bl_tr B2.out ht3 (fun x e => by omega)); clear hr3 ht3 e3)
          | (go_at_call 51; (with_reducible refine E3.out.mono ?_); rintro e w' ⟨rfl, rfl⟩)
          | (go_at_call 20; (with_reducible refine (new_ok N w3 (by omega) (by omega)).mono ?_); rintro e w4 ⟨g, M, rfl, ⟨B, D, hI⟩, hM, hb⟩; have I4 := Lib.hid hI; have M4 := Lib.hid (show ∀ x, M x → w.heap.size ≤ x from fun x hx => Nat.le_trans B3.out.size (hM x hx)); have B4 := Lib.hid (bl_chain B3.out hb); clear hI hM hb))
        go_loopw [10, 11, 39] (fun v10 v11 v39 W => ∃ (j : Nat) (r : List Int) (last : Int) (L : List (List Int)) (Ar : Option Addr) (cr : Nat), j ≤ U ∧ v39 = .int .i64 (j : Int) ∧ v10 = .slice Ar r.length cr ∧ v11 = .int .i64 last ∧ r.length ≤ cr ∧ cr ≤ maxLen ∧ Rd w Ar (by8 r) ∧ isB r ∧ -1 ≤ last ∧ last < 256 ∧ L.length = N ∧ ldK N (U - j) last L r = R ∧ (∃ D' M', IsImg W g L B D' M' ∧ ∀ x, M' x → w.heap.size ≤ x) ∧ Below w.heap.size w W ∧ r.length ≤ b.length) (fun _ _ v _ => U - (RowKit.intOf v).toNat)
        case atStart =>
          have hm0 : ∀ x, M x → w.heap.size ≤ x := M4.out
          first
            | exact ⟨0, [], -1, emptyL N, A, 0, by omega, rfl, rfl, rfl, by simp, by simp [maxLen], Rd.nil, isB.nil, by omega, by omega, by simp [emptyL], HRR.out, ⟨D, M, I4.out, hm0⟩, B4.out, by simp⟩
            | exact ⟨0, r0, -1, emptyL N, _, c - 4, by omega, rfl, by rw [hrest]; rfl, rfl, by omega, by have := HCM.out; omega, HA0.out, HB0.out, by omega, by omega, by simp [emptyL], HRR.out, ⟨D, M, I4.out, hm0⟩, B4.out, by omega⟩
        case round =>
          obtain ⟨j, r, last, L, Ar, cr, hj, rfl, rfl, rfl, h1, h2, h3, h5, h6, h7, h8, h9, ⟨D', M', h10, h11⟩, h12, h13⟩ := hrel
          have H3 := Lib.hid h3
          have H5 := Lib.hid h5
          have H9 := Lib.hid h9
          have HI := Lib.hid h10
          have HM := Lib.hid h11
          have HBL := Lib.hid h12
          have HL := Lib.hid h8
          have c0 := h10.c0
          rw [h8] at c0
          clear h3 h5 h9 h10 h11 h12 h8
          by_cases hju : j < U
          · obtain ⟨k, hk⟩ : ∃ k, U - j = k + 1 := ⟨U - j - 1, by omega⟩
            have hR := H9.out
            rw [hk] at hR
            unfold ldK at hR
            by_cases h66 : r.length < 66
            · rw [if_pos h66] at hR
              have HR10 := Lib.hid hR
              clear hR
              go_wp2_with fail
              go_ret2
              rw [← HR10.out]
              exact ⟨fun h => by simp at h, fun _ => ⟨rfl, HBL.out⟩⟩
            · rw [if_neg h66] at hR
              try (exfalso; omega)
              all_goals
                have HR11 := Lib.hid hR
                clear hR
                obtain ⟨x, y, hx, hy, hx0, hx1, hy0, hy1, hlb⟩ := lba_at H5.out (by omega)
                obtain ⟨ab, ao, rfl⟩ := rd_spot H3.out (by omega)
                obtain ⟨ad, e', q0⟩ := H3.out 0 (.int .u8 x) (by simp [by8, hx])
                injection e' with e'
                subst e'
                obtain ⟨ad', e', q1⟩ := H3.out 1 (.int .u8 y) (by simp [by8, hy])
                injection e' with e'
                subst e'
                rw [add_lit] at q0 q1
                rw [Nat.add_zero] at q0
                have x0 := (HBL.out.cell (cell_block_lt q0)).trans q0
                have x1 := (HBL.out.cell (cell_block_lt q1)).trans q1
                have hor := or_low_i x y hx0 hx1 hy0 hy1
                obtain ⟨z, hz⟩ : ∃ z, lbaL r = z := ⟨_, rfl⟩
                rw [hz] at HR11
                have hzr : z = x * 256 + y := by rw [← hz, hlb]
                have hl0 : 0 < r.length := by omega
                have hl1 : 1 < r.length := by omega
                have hl0i : (0 : Int) < (r.length : Int) := by omega
                have hl1i : (1 : Int) < (r.length : Int) := by omega
                clear hlb hx hy q0 q1
                have hcs : z ≤ last ∨ (¬ z ≤ last ∧ (N : Int) ≤ z) ∨ (¬ z ≤ last ∧ ¬ (N : Int) ≤ z) := by omega
                rcases hcs with g1 | ⟨g1, g2⟩ | ⟨g1, g2⟩
                · rw [if_pos (.inl g1)] at HR11
                  have f1 : decide (x * 256 + y ≤ last) = true := decide_eq_true (by omega)
                  go_wp2_with fail
                  go_quiet (fail)
                  go_wp2_with fail
                  go_ret2
                  rw [← HR11.out]
                  exact ⟨fun h => by simp at h, fun _ => ⟨rfl, bl_chain HBL.out (bl_drewN _ _)⟩⟩
                · rw [if_pos (.inr g2)] at HR11
                  have f1 : decide (x * 256 + y ≤ last) = false := decide_eq_false (by omega)
                  have f2 : decide ((N : Int) ≤ x * 256 + y) = true := decide_eq_true (by omega)
                  go_wp2_with fail
                  go_quiet (fail)
                  go_wp2_with fail
                  go_ret2
                  rw [← HR11.out]
                  exact ⟨fun h => by simp at h, fun _ => ⟨rfl, bl_chain HBL.out (bl_drewN _ _)⟩⟩
                · rw [if_neg (by omega)] at HR11
                  have f1 : decide (x * 256 + y ≤ last) = false := decide_eq_false (by omega)
                  have f2 : decide ((N : Int) ≤ x * 256 + y) = false := decide_eq_false (by omega)
                  have HZ := Lib.hid hzr
                  have HG := Lib.hid (show last < z ∧ z < N from ⟨by omega, by omega⟩)
                  have HK : Hid (keyOf Try.prog 3 (.int .i64 (x * 256 + y)) = some (lk (z.toNat : Int))) := Lib.hid (by rw [← hzr, show (z.toNat : Int) = z by omega]; exact keyOfI (by omega))
                  have HRD := Lib.hid (show Rd w (some ⟨ab, ao + 2, none⟩) (by8 ((r.drop 2).take 64)) from by
                    obtain ⟨A', h1', h2', h3'⟩ := rd_cut2 (k := 2) H3.out (by omega) h1
                    have e := h3' (by omega)
                    subst e
                    rw [Option.map_some, add_lit] at h1'
                    rw [← by8_take]
                    exact h1'.take 64)
                  have hl64 : ((r.drop 2).take 64).length = 64 := by rw [List.length_take, List.length_drop]; omega
                  have HB64 := Lib.hid (show isBl ((r.drop 2).take 64) from ⟨hl64, (H5.out.drop 2).take 64⟩)
                  clear hzr g1 g2
                  go_wp2_with fail
                  go_quiet (fail)
                  rename_i nq
                  go_wp2_with fail
                  have HI1 := Lib.hid (HI.out.below (bl_drewN wr nq))
                  have HB1 := Lib.hid (bl_chain HBL.out (bl_drewN wr nq))
                  have c1a := HI1.out.c1
                  have q66 : 66 ≤ cr := by omega
                  have q2 : ¬ cr = 2 := by omega
                  have q66i : (66 : Int) ≤ (cr : Int) := by omega
                  generalize hW1 : wr.drewN nq = W1 at HI1 HB1 c1a ⊢
                  clear hW1
                  go_region_held3 (fun w' => w'.cell? ⟨g, 1, none⟩ = some (.map (some B))) (go_keep) ((first
                    | (go_at_call 41; (with_reducible refine (clone_n _ _ 64 _ _ (HRD.out.below (bl_chain HB1.out (bl_drew W1))) hl64 (by omega)).mono ?_); rintro e w4 ⟨A4, c4, rfl, hc4, ho4, hb4⟩; have HO4 := Lib.hid ho4; have HB4 := Lib.hid hb4; have HI4 := Lib.hid ((HI1.out.below (bl_drew W1)).below hb4); obtain ⟨b4, rfl, hb40, hb41, hc40, hc41⟩ := own64 ho4; have z1 := (hb4.cell (cell_block_lt c1a)).trans c1a; obtain ⟨w5, hrun5, ho5, hg5⟩ := HI4.out.own.update keyI Try.underlying73 (by simp only [maxLen]; omega) HK.out (rSl_mk (b := b4) hc40 hc41); have HO5 := Lib.hid ho5; have HG5 := Lib.hid hg5; have u1 := cell_trc z1 (tr_map hg5) (NoCells.mapB HI4.out); clear ho5 hg5 ho4 hb4)))
                  have HI5 := Lib.hid ((HI4.out.mono (M' := fun b => M' b ∨ b = b4) (fun b h => .inl h) (fun b h => by
                    rcases h with h | rfl
                    · exact HI4.out.mlt b h
                    · exact hb41)).put z.toNat (by rw [HL.out]; have := HG.out; omega) HB64.out (Rd.of_own HO4.out) (.inr rfl) HG5.out HO5.out)
                  have hs1 := HB1.out.size
                  have HMM := Lib.hid (show ∀ x, (M' x ∨ x = b4) → w.heap.size ≤ x from fun x h => by
                    rcases h with h | rfl
                    · exact HM.out x h
                    · exact Nat.le_trans hs1 hb40)
                  have hbl4 := bl_chain (bl_chain HB1.out (bl_drew W1)) HB4.out
                  have HBL5 := Lib.hid (hbl4.trans ((tr_map HG5.out).to_below hbl4.size (fun x e => by rw [e]; exact HM.out B HI.out.mB)))
                  have HR5 : Hid (ldK N (U - (j + 1)) z (L.set z.toNat ((r.drop 2).take 64)) (r.drop 66) = R) := Lib.hid (by rw [show U - (j + 1) = k by omega]; exact HR11.out)
                  obtain ⟨A6, h61, h62, h63⟩ := rd_cut2 (k := 66) H3.out (by omega) h1
                  have H61 := Lib.hid h61
                  have H62 := Lib.hid h62
                  have H63 := Lib.hid h63
                  clear h61 h62 h63 hbl4
                  by_cases h66c : cr = 66
                  · obtain ⟨rfl, hnil⟩ := H62.out h66c
                    have HN6 := Lib.hid hnil
                    subst h66c
                    clear hnil
                    go_wp2_with fail
                    go_roundw
                    case rel => exact ⟨j + 1, r.drop 66, z, _, _, 0, by omega, by go_num, by rw [HN6.out]; rfl, by rw [HZ.out], by rw [HN6.out]; simp, by simp [maxLen], H61.out, H5.out.drop 66, by have := HG.out; omega, by have := HG.out; omega, by rw [List.length_set, HL.out], HR5.out, ⟨_, _, HI5.out, HMM.out⟩, HBL5.out, by rw [HN6.out]; simp⟩
                    case measure => simp [RowKit.intOf]; omega
                  · obtain rfl := H63.out h66c
                    go_wp2_with fail
                    go_roundw
                    case rel => exact ⟨j + 1, r.drop 66, z, _, _, cr - 66, by omega, by go_num, by rw [List.length_drop, Option.map_some, add_lit], by rw [HZ.out], by rw [List.length_drop]; omega, by omega, H61.out, H5.out.drop 66, by have := HG.out; omega, by have := HG.out; omega, by rw [List.length_set, HL.out], HR5.out, ⟨_, _, HI5.out, HMM.out⟩, HBL5.out, by rw [List.length_drop]; omega⟩
                    case measure => simp [RowKit.intOf]; omega
          · have hju : j = U := by omega
            have hR := H9.out
            rw [show U - j = 0 by omega] at hR
            unfold ldK at hR
            by_cases h0 : r.length = 0
            · rw [if_pos h0] at hR
              have HR10 := Lib.hid hR
              have f0 : decide (0 < (r.length : Int)) = false := decide_eq_false (by omega)
              clear hR
              go_wp2_with fail
              go_ret2
              rw [← HR10.out]
              exact ⟨fun _ => ⟨g, M', rfl, ⟨B, D', HI.out⟩, HM.out, HBL.out⟩, fun h => absurd rfl h⟩
            · rw [if_neg h0] at hR
              have HR10 := Lib.hid hR
              have f0 : decide (0 < (r.length : Int)) = true := decide_eq_true (by omega)
              clear hR
              go_wp2_with fail
              go_ret2
              rw [← HR10.out]
              exact ⟨fun h => by simp at h, fun _ => ⟨rfl, HBL.out⟩⟩
    · rw [if_pos hn]
      have hnb := fun W => new_bad (N : Int) W hn
      have HNB := Lib.hid hnb
      clear hnb
      rcases hef2 with ⟨rfl, t1⟩ | ⟨rfl, t1, t2⟩
      all_goals
        go_enter Try.func28, Try.ntmps28
        go_wp2_with (first
          | (go_at_call 49; (with_reducible refine (newReader_any A c b w HR.out HB.out hl).mono ?_); rintro e w1 ⟨gr, rfl, hr1, hg1, hb1⟩; have R1 := Lib.hid hr1; have B1 := Lib.hid hb1; clear hr1 hb1)
          | (go_at_call 50; (with_reducible refine (HN1.out gr w1 _ R1.out).mono ?_); rintro e w2 ⟨rfl, hr2, ht2⟩; have R2 := Lib.hid hr2; have B2 := Lib.hid (bl_tr B1.out ht2 (fun x e => by omega)); clear hr2 ht2)
          | (go_at_call 50; (with_reducible refine (HN2.out gr w2 _ R2.out).mono ?_); rintro e w3 ⟨rfl, hr3, ht3⟩; have e3 := rdrEnd gr _ 0 w3 hr3; rw [hef] at e3; have E3 := Lib.hid e3; have B3 := Lib.hid (bl_tr B2.out ht3 (fun x e => by omega)); clear hr3 ht3 e3)
          | (go_at_call 51; (with_reducible refine E3.out.mono ?_); rintro e w' ⟨rfl, rfl⟩)
          | (go_at_call 20; (with_reducible refine (HNB.out _).mono ?_); rintro e w' ⟨rfl, rfl⟩))
        go_ret2
        exact ⟨fun h => absurd h (by decide), fun _ => ⟨rfl, B3.out⟩⟩
end Go.Proofs.Ytdddbpnllhnfdaa
