/- The writer's numbers of eight bytes. -/
import Derived.Test.YtceajiliahmkaaaWords
namespace Go.Proofs.Ytceajiliahmkaaa
set_option linter.unusedVariables false
set_option linter.unusedSimpArgs false
set_option maxRecDepth 100000
open Go.RowKit

set_option maxHeartbeats 400000 in
theorem num8 (B g : Nat) (l : List Int) (n : Int) (w : World) (hB : B ≤ w.heap.size) (hw : IsWriter w B g l 0) (hl : l.length ≤ 140737488351232) (h0 : 0 ≤ n) (h1 : n < 9223372036854775808) :
    Calls Try.prog 37 #[.pointer (some ⟨g, 0, none⟩), .int .i64 8, .int .i64 n] w fun e w' => e = .returned (.tuple #[]) ∧ IsWriter w' B g (l ++ be 8 n) 0 ∧ Below B w w' := by
  obtain ⟨A, c, hb, ho, hg, hc⟩ := hw
  have c0 := hb.cell 0
  have c1 := hb.cell 1
  have f0 := hb.frozen 0
  have f1 := hb.frozen 1
  simp at c0 c1
  have HO := Lib.hid ho
  clear ho
  go_enter Try.func37, Try.ntmps37
  go_wp2_with (first | (go_at_call 55; refine (number_any n _ (by omega) (by omega)).mono ?_; rintro e w1 ⟨rfl, hb1⟩))
  have hz1 := hb1.size
  have hglt := hb.lt
  have hbk1 := hb.keep hb1
  have c01 := hbk1.cell 0
  have c11 := hbk1.cell 1
  have f01 := hbk1.frozen 0
  simp at c01 c11
  have HO1 := Lib.hid (own_below HO.out hb1 (B := 0))
  have hg1 : g < w1.heap.size := by omega
  have k4 : IntKind.i64.wrap 0 = 0 := by rfl
  go_region_law (refine stepR_append E8 rfl rfl ((HO1.out.alloc _)) rfl (Rd.newAt w1 w1.heap.size _ (by8 [beB n 0, beB n 1, beB n 2, beB n 3, beB n 4, beB n 5, beB n 6, beB n 7]) _ 0 rfl rfl) rfl (by rfl) (by8_one _) (l.length + 8) _ rfl rfl (by simp only [maxLen]; omega) (by omega) (by simp; omega) ?_; intro A2 c2 w2 hc2 ho2 ht2 ha2; have hb2 := ht2.blk (Blk.drew (hbk1.alloc _)) (own_blk HO1.out hbk1 (by decide)); have c02 := hb2.cell 0; have f02 := hb2.frozen 0; simp at c02; have HO2 := Lib.hid ho2; have HT2 := Lib.hid ht2; have HA2 := Lib.hid ha2; have HB2 := Lib.hid hb2; clear ho2 ht2 ha2 hb2)
  all_goals
    go_wp2_with fail
    go_end0
    refine ⟨rfl, ⟨A2, c2, ?_, ?_, hg, ?_⟩, ?_⟩
    · have := HB2.out.set_ 0 (.slice A2 (l.length + 8) c2)
      rw [List.length_append, be_length]
      exact this
    · rw [List.length_append, be_length, be8, by8_append]
      exact own_tr HO2.out ((Tr.refl (fun b => b = g) _).setCell (fun _ => rfl) _) (fun b hx hq => own_blk HO2.out HB2.out (by decide) (hq ▸ hx))
    · rw [List.length_append, be_length]; exact hc2
    · have t1 : Tr (fun b => B ≤ b) w w1 := Tr.of_below hb1
      have t2 := (t1.alloc (.cells #[.int .u8 (beB n 0), .int .u8 (beB n 1), .int .u8 (beB n 2), .int .u8 (beB n 3), .int .u8 (beB n 4), .int .u8 (beB n 5), .int .u8 (beB n 6), .int .u8 (beB n 7)] 105)).drew
      have t3 := (t2.trans HT2.out (fun b _ h => own_ge HO1.out b h)).setCell (p := ⟨g, 0, none⟩) (fun _ => hg) (.slice A2 (l.length + 8) c2)
      exact t3.to_below hB (fun _ h => h)

end Go.Proofs.Ytceajiliahmkaaa
