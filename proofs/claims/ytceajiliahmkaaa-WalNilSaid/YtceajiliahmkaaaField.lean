/- Contracts of the program's package field and of the reference's, over bytes. -/
import Derived.Test.YtceajiliahmkaaaSums
namespace Go.Proofs.Ytceajiliahmkaaa
set_option linter.unusedVariables false
set_option maxRecDepth 100000
open Go.RowKit

/-- Byte i of eight, the highest first. -/
def beB (n : Int) (i : Nat) : Int := n / 2 ^ (8 * (7 - i)) % 256

set_option maxHeartbeats 400000 in
theorem number_any (n : Int) (w : World) (h0 : 0 ≤ n) (h1 : n < 18446744073709551616) :
    Calls Try.prog 55 #[.int .u64 n] w fun e w' => e = .returned (.agg #[.int .u8 (beB n 0), .int .u8 (beB n 1), .int .u8 (beB n 2), .int .u8 (beB n 3), .int .u8 (beB n 4), .int .u8 (beB n 5), .int .u8 (beB n 6), .int .u8 (beB n 7)]) ∧ Below w.heap.size w w' := by
  go_enter Try.func55, Try.ntmps55
  go_wp2_with fail
  go_loopw [4, 5] (fun v u w1 => ∃ (k : Nat) (cs cr : Array Value), k ≤ 8 ∧ u = .int .i64 k ∧ Blk w1 (w.heap.size + 1) 105 cs ∧ cs.size = 8 ∧ (∀ i, i < 8 → 8 - k ≤ i → cs[i]? = some (.int .u8 (beB n i))) ∧ Blk w1 w.heap.size 105 cr ∧ cr.size = 8 ∧ Below w.heap.size w w1) (fun _ v _ => 8 - (intOf v).toNat)
  case atStart =>
    refine ⟨0, _, _, by omega, rfl, Blk.newAt _ _ _ _ (by simp), by rfl, fun i hi hj => by omega, (Blk.new _ _ _).alloc _, by rfl, ?_⟩
    exact ((Below.refl _ _).alloc (Nat.le_refl _) _).alloc (by simp) _
  case round =>
    obtain ⟨k, cs, cr, hk, rfl, hb, hcs, hat, hr, hcr, ht1⟩ := hrel
    by_cases hlt : k < 8
    · obtain ⟨u, hc⟩ : ∃ u, wr.cell? ⟨w.heap.size + 1, 7 - k, none⟩ = some u := ⟨_, by rw [hb.cell]; exact Array.getElem?_eq_getElem (by omega)⟩
      have hf : wr.frozen? ⟨w.heap.size + 1, 7 - k, none⟩ = false := hb.frozen _
      have HAT := Lib.hid hat
      have HCS := Lib.hid hcs
      have HCR := Lib.hid hcr
      clear hat hcs hcr
      go_wp2_with fail
      go_roundw
      case rel =>
        refine ⟨k + 1, _, cr, by omega, by go_num, hb.set_ _ _, by simpa using HCS.out, fun i hi hj => ?_, hr.far (p := ⟨w.heap.size + 1, 7 - k, none⟩) (by simp) _, HCR.out, ht1.setCell (by simp) _⟩
        rw [Array.getElem?_setIfInBounds]
        by_cases e : 7 - k = i
        · subst e
          rw [if_pos rfl, if_pos (by rw [HCS.out]; omega)]
          unfold beB
          rw [show 7 - (7 - k) = k from by omega]
        · rw [if_neg e]
          exact HAT.out i hi (by omega)
      case measure => simp [intOf]; omega
    · have hk8 : k = 8 := by omega
      subst hk8
      have c : ∀ i, i < 8 → wr.cell? ⟨w.heap.size + 1, i, none⟩ = some (.int .u8 (beB n i)) := fun i hi => by rw [hb.cell]; exact hat i hi (by omega)
      have c0 := c 0 (by omega)
      have c1 := c 1 (by omega)
      have c2 := c 2 (by omega)
      have c3 := c 3 (by omega)
      have c4 := c 4 (by omega)
      have c5 := c 5 (by omega)
      have c6 := c 6 (by omega)
      have c7 := c 7 (by omega)
      have d : ∀ i, i < 8 → ∃ u, wr.cell? ⟨w.heap.size, i, none⟩ = some u := fun i hi => ⟨_, by rw [hr.cell]; exact Array.getElem?_eq_getElem (by omega)⟩
      obtain ⟨x0, d0⟩ := d 0 (by omega)
      obtain ⟨x1, d1⟩ := d 1 (by omega)
      obtain ⟨x2, d2⟩ := d 2 (by omega)
      obtain ⟨x3, d3⟩ := d 3 (by omega)
      obtain ⟨x4, d4⟩ := d 4 (by omega)
      obtain ⟨x5, d5⟩ := d 5 (by omega)
      obtain ⟨x6, d6⟩ := d 6 (by omega)
      obtain ⟨x7, d7⟩ := d 7 (by omega)
      have f0 := hr.frozen 0
      have f1 := hr.frozen 1
      have f2 := hr.frozen 2
      have f3 := hr.frozen 3
      have f4 := hr.frozen 4
      have f5 := hr.frozen 5
      have f6 := hr.frozen 6
      have f7 := hr.frozen 7
      clear c d hat hcs hcr
      go_wp2_with fail
      refine bodyPost_ret (v := .agg #[.int .u8 (beB n 0), .int .u8 (beB n 1), .int .u8 (beB n 2), .int .u8 (beB n 3), .int .u8 (beB n 4), .int .u8 (beB n 5), .int .u8 (beB n 6), .int .u8 (beB n 7)]) (by simp [results, Try.results55, go_sem, d0, d1, d2, d3, d4, d5, d6, d7]) rfl ⟨rfl, ?_⟩
      iterate 8 (refine Below.setCell ?_ (by exact Nat.le_refl _) _)
      exact ht1
/-- The bytes of a number, the highest first. -/
def be : Nat → Int → List Int
  | 0, _ => []
  | k + 1, n => be k (n / 256) ++ [n % 256]

/-- A writer at block g, all of its memory from B on. -/
def WriterAt (w : World) (B g : Nat) (A : Option Addr) (c : Nat) (l : List Int) (why : Int) : Prop :=
  Blk w g 104 #[.slice A l.length c, .int .i64 why] ∧ w.ownsRow B 5 1 (.slice A l.length c) l.length (by8 l) ∧ B ≤ g ∧ l.length ≤ c
def IsWriter (w : World) (B g : Nat) (l : List Int) (why : Int) : Prop := ∃ A c, WriterAt w B g A c l why

theorem newWriter_any (w : World) : Calls Try.prog 36 #[] w fun e w' => e = .returned (.pointer (some ⟨w.heap.size, 0, none⟩)) ∧ IsWriter w' w.heap.size w.heap.size [] 0 ∧ Below w.heap.size w w' := by
  go_enter Try.func36, Try.ntmps36
  go_wp2_with fail
  go_ret
  exact ⟨rfl, ⟨none, 0, Blk.new _ _ _, ownsRow_emp _ _ _ _, Nat.le_refl _, by simp⟩, (Below.refl _ _).alloc (Nat.le_refl _) _⟩

theorem be_length (k : Nat) (n : Int) : (be k n).length = k := by
  induction k generalizing n with
  | zero => rfl
  | succ k ih => simp [be, ih]
theorem be_isB (k : Nat) (n : Int) : isB (be k n) := by
  induction k generalizing n with
  | zero => exact isB.nil
  | succ k ih =>
    refine (ih _).append fun x hx => ?_
    simp at hx
    subst hx
    omega
theorem be1 (n : Int) : be 1 n = [beB n 7] := by simp [be, beB]
theorem be2 (n : Int) : be 2 n = [beB n 6, beB n 7] := by simp [be, beB]
theorem be4 (n : Int) : be 4 n = [beB n 4, beB n 5, beB n 6, beB n 7] := by simp [be, beB]; omega
theorem be8 (n : Int) : be 8 n = [beB n 0, beB n 1, beB n 2, beB n 3, beB n 4, beB n 5, beB n 6, beB n 7] := by simp [be, beB]; omega

set_option maxHeartbeats 400000 in
theorem num1 (B g : Nat) (l : List Int) (n : Int) (w : World) (hB : B ≤ w.heap.size) (hw : IsWriter w B g l 0) (hl : l.length ≤ 140737488351232) (h0 : 0 ≤ n) (h1 : n < 256) :
    Calls Try.prog 37 #[.pointer (some ⟨g, 0, none⟩), .int .i64 1, .int .i64 n] w fun e w' => e = .returned (.tuple #[]) ∧ IsWriter w' B g (l ++ be 1 n) 0 ∧ Below B w w' := by
  obtain ⟨A, c, hb, ho, hg, hc⟩ := hw
  have c0 := hb.cell 0
  have c1 := hb.cell 1
  have f0 := hb.frozen 0
  have f1 := hb.frozen 1
  simp at c0 c1
  have HO := Lib.hid ho
  clear ho
  go_enter Try.func37, Try.ntmps37
  go_wp2_with (first | (go_at_call 55; refine (number_any n _ (by omega) (by omega)).mono ?_; rintro e w1 ⟨rfl, hb1⟩))
  have hz1 := hb1.size
  have hglt := hb.lt
  have hbk1 := hb.keep hb1
  have c01 := hbk1.cell 0
  have c11 := hbk1.cell 1
  have f01 := hbk1.frozen 0
  simp at c01 c11
  have HO1 := Lib.hid (own_below HO.out hb1 (B := 0))
  have hg1 : g < w1.heap.size := by omega
  have k4 : IntKind.i64.wrap 7 = 7 := by rfl
  go_region_law (refine stepR_append E8 rfl rfl ((HO1.out.alloc _)) rfl (Rd.newAt w1 w1.heap.size _ (by8 [beB n 7]) _ 7 rfl rfl) rfl (by rfl) (by8_one _) (l.length + 1) _ rfl rfl (by simp only [maxLen]; omega) (by omega) (by simp; omega) ?_; intro A2 c2 w2 hc2 ho2 ht2 ha2; have hb2 := ht2.blk (Blk.drew (hbk1.alloc _)) (own_blk HO1.out hbk1 (by decide)); have c02 := hb2.cell 0; have f02 := hb2.frozen 0; simp at c02; have HO2 := Lib.hid ho2; have HT2 := Lib.hid ht2; have HA2 := Lib.hid ha2; have HB2 := Lib.hid hb2; clear ho2 ht2 ha2 hb2)
  all_goals
    go_wp2_with fail
    go_end0
    refine ⟨rfl, ⟨A2, c2, ?_, ?_, hg, ?_⟩, ?_⟩
    · have := HB2.out.set_ 0 (.slice A2 (l.length + 1) c2)
      rw [List.length_append, be_length]
      exact this
    · rw [List.length_append, be_length, be1, by8_append]
      exact own_tr HO2.out ((Tr.refl (fun b => b = g) _).setCell (fun _ => rfl) _) (fun b hx hq => own_blk HO2.out HB2.out (by decide) (hq ▸ hx))
    · rw [List.length_append, be_length]; exact hc2
    · have t1 : Tr (fun b => B ≤ b) w w1 := Tr.of_below hb1
      have t2 := (t1.alloc (.cells #[.int .u8 (beB n 0), .int .u8 (beB n 1), .int .u8 (beB n 2), .int .u8 (beB n 3), .int .u8 (beB n 4), .int .u8 (beB n 5), .int .u8 (beB n 6), .int .u8 (beB n 7)] 105)).drew
      have t3 := (t2.trans HT2.out (fun b _ h => own_ge HO1.out b h)).setCell (p := ⟨g, 0, none⟩) (fun _ => hg) (.slice A2 (l.length + 1) c2)
      exact t3.to_below hB (fun _ h => h)
set_option maxHeartbeats 400000 in
theorem num2 (B g : Nat) (l : List Int) (n : Int) (w : World) (hB : B ≤ w.heap.size) (hw : IsWriter w B g l 0) (hl : l.length ≤ 140737488351232) (h0 : 0 ≤ n) (h1 : n < 65536) :
    Calls Try.prog 37 #[.pointer (some ⟨g, 0, none⟩), .int .i64 2, .int .i64 n] w fun e w' => e = .returned (.tuple #[]) ∧ IsWriter w' B g (l ++ be 2 n) 0 ∧ Below B w w' := by
  obtain ⟨A, c, hb, ho, hg, hc⟩ := hw
  have c0 := hb.cell 0
  have c1 := hb.cell 1
  have f0 := hb.frozen 0
  have f1 := hb.frozen 1
  simp at c0 c1
  have HO := Lib.hid ho
  clear ho
  go_enter Try.func37, Try.ntmps37
  go_wp2_with (first | (go_at_call 55; refine (number_any n _ (by omega) (by omega)).mono ?_; rintro e w1 ⟨rfl, hb1⟩))
  have hz1 := hb1.size
  have hglt := hb.lt
  have hbk1 := hb.keep hb1
  have c01 := hbk1.cell 0
  have c11 := hbk1.cell 1
  have f01 := hbk1.frozen 0
  simp at c01 c11
  have HO1 := Lib.hid (own_below HO.out hb1 (B := 0))
  have hg1 : g < w1.heap.size := by omega
  have k4 : IntKind.i64.wrap 6 = 6 := by rfl
  go_region_law (refine stepR_append E8 rfl rfl ((HO1.out.alloc _)) rfl (Rd.newAt w1 w1.heap.size _ (by8 [beB n 6, beB n 7]) _ 6 rfl rfl) rfl (by rfl) (by8_one _) (l.length + 2) _ rfl rfl (by simp only [maxLen]; omega) (by omega) (by simp; omega) ?_; intro A2 c2 w2 hc2 ho2 ht2 ha2; have hb2 := ht2.blk (Blk.drew (hbk1.alloc _)) (own_blk HO1.out hbk1 (by decide)); have c02 := hb2.cell 0; have f02 := hb2.frozen 0; simp at c02; have HO2 := Lib.hid ho2; have HT2 := Lib.hid ht2; have HA2 := Lib.hid ha2; have HB2 := Lib.hid hb2; clear ho2 ht2 ha2 hb2)
  all_goals
    go_wp2_with fail
    go_end0
    refine ⟨rfl, ⟨A2, c2, ?_, ?_, hg, ?_⟩, ?_⟩
    · have := HB2.out.set_ 0 (.slice A2 (l.length + 2) c2)
      rw [List.length_append, be_length]
      exact this
    · rw [List.length_append, be_length, be2, by8_append]
      exact own_tr HO2.out ((Tr.refl (fun b => b = g) _).setCell (fun _ => rfl) _) (fun b hx hq => own_blk HO2.out HB2.out (by decide) (hq ▸ hx))
    · rw [List.length_append, be_length]; exact hc2
    · have t1 : Tr (fun b => B ≤ b) w w1 := Tr.of_below hb1
      have t2 := (t1.alloc (.cells #[.int .u8 (beB n 0), .int .u8 (beB n 1), .int .u8 (beB n 2), .int .u8 (beB n 3), .int .u8 (beB n 4), .int .u8 (beB n 5), .int .u8 (beB n 6), .int .u8 (beB n 7)] 105)).drew
      have t3 := (t2.trans HT2.out (fun b _ h => own_ge HO1.out b h)).setCell (p := ⟨g, 0, none⟩) (fun _ => hg) (.slice A2 (l.length + 2) c2)
      exact t3.to_below hB (fun _ h => h)
set_option maxHeartbeats 400000 in
theorem num4 (B g : Nat) (l : List Int) (n : Int) (w : World) (hB : B ≤ w.heap.size) (hw : IsWriter w B g l 0) (hl : l.length ≤ 140737488351232) (h0 : 0 ≤ n) (h1 : n < 4294967296) :
    Calls Try.prog 37 #[.pointer (some ⟨g, 0, none⟩), .int .i64 4, .int .i64 n] w fun e w' => e = .returned (.tuple #[]) ∧ IsWriter w' B g (l ++ be 4 n) 0 ∧ Below B w w' := by
  obtain ⟨A, c, hb, ho, hg, hc⟩ := hw
  have c0 := hb.cell 0
  have c1 := hb.cell 1
  have f0 := hb.frozen 0
  have f1 := hb.frozen 1
  simp at c0 c1
  have HO := Lib.hid ho
  clear ho
  go_enter Try.func37, Try.ntmps37
  go_wp2_with (first | (go_at_call 55; refine (number_any n _ (by omega) (by omega)).mono ?_; rintro e w1 ⟨rfl, hb1⟩))
  have hz1 := hb1.size
  have hglt := hb.lt
  have hbk1 := hb.keep hb1
  have c01 := hbk1.cell 0
  have c11 := hbk1.cell 1
  have f01 := hbk1.frozen 0
  simp at c01 c11
  have HO1 := Lib.hid (own_below HO.out hb1 (B := 0))
  have hg1 : g < w1.heap.size := by omega
  have k4 : IntKind.i64.wrap 4 = 4 := by rfl
  go_region_law (refine stepR_append E8 rfl rfl ((HO1.out.alloc _)) rfl (Rd.newAt w1 w1.heap.size _ (by8 [beB n 4, beB n 5, beB n 6, beB n 7]) _ 4 rfl rfl) rfl (by rfl) (by8_one _) (l.length + 4) _ rfl rfl (by simp only [maxLen]; omega) (by omega) (by simp; omega) ?_; intro A2 c2 w2 hc2 ho2 ht2 ha2; have hb2 := ht2.blk (Blk.drew (hbk1.alloc _)) (own_blk HO1.out hbk1 (by decide)); have c02 := hb2.cell 0; have f02 := hb2.frozen 0; simp at c02; have HO2 := Lib.hid ho2; have HT2 := Lib.hid ht2; have HA2 := Lib.hid ha2; have HB2 := Lib.hid hb2; clear ho2 ht2 ha2 hb2)
  all_goals
    go_wp2_with fail
    go_end0
    refine ⟨rfl, ⟨A2, c2, ?_, ?_, hg, ?_⟩, ?_⟩
    · have := HB2.out.set_ 0 (.slice A2 (l.length + 4) c2)
      rw [List.length_append, be_length]
      exact this
    · rw [List.length_append, be_length, be4, by8_append]
      exact own_tr HO2.out ((Tr.refl (fun b => b = g) _).setCell (fun _ => rfl) _) (fun b hx hq => own_blk HO2.out HB2.out (by decide) (hq ▸ hx))
    · rw [List.length_append, be_length]; exact hc2
    · have t1 : Tr (fun b => B ≤ b) w w1 := Tr.of_below hb1
      have t2 := (t1.alloc (.cells #[.int .u8 (beB n 0), .int .u8 (beB n 1), .int .u8 (beB n 2), .int .u8 (beB n 3), .int .u8 (beB n 4), .int .u8 (beB n 5), .int .u8 (beB n 6), .int .u8 (beB n 7)] 105)).drew
      have t3 := (t2.trans HT2.out (fun b _ h => own_ge HO1.out b h)).setCell (p := ⟨g, 0, none⟩) (fun _ => hg) (.slice A2 (l.length + 4) c2)
      exact t3.to_below hB (fun _ h => h)

end Go.Proofs.Ytceajiliahmkaaa
