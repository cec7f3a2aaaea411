/- Num of a writer, said with what it keeps: whatever is no cells lies as it lay. -/
import Derived.Test.YtlkdglhbncnkhaaField
import Derived.RangeFuncNested
import Derived.RangeFuncBound
import Derived.RangeFuncCalls
import Derived.RangeFuncLeaves
import Derived.RangeFuncFrom
namespace Go.Proofs.Ytlkdglhbncnkhaa
set_option linter.unusedVariables false
open Go.RowKit

theorem trueI (p : Prop) : (True → p) = p := by simp
theorem falseI (p : Prop) : (False → p) = True := by simp
/-- What a writer's call may turn: the writer, and rows of bytes. -/
def WF (w : World) (g : Nat) : Nat → Prop := fun b => b = g ∨ ∃ cs, w.heap[b]? = some (.cells cs 5 (0, 0))
theorem keeps_of_tr {F : Nat → Prop} {w w' : World} (ht : Tr F w w') (hF : ∀ b, F b → ∀ o, w.heap[b]? = some o → o.isCells = true) : KeepsOthers w w' :=
  ⟨ht.size, fun k o hk ho => by
    refine (ht.block k (Array.getElem?_eq_some_iff.1 hk).1 (fun h => ?_)).trans hk
    rw [hF k h o hk] at ho
    cases ho⟩
theorem own_u8 {w : World} {base : Nat} {size n m c : Nat} {A : Option Addr} {xs : List Value} (h : w.ownsRow base 5 size (.slice A n c) m xs) {b : Nat} (hb : Blo A b) : ∃ cs, w.heap[b]? = some (.cells cs 5 (0, 0)) := by
  rcases h.2 with ⟨h1, h2⟩ | ⟨g, cap, cur, h1, _, hg, _⟩
  · injection h1 with h1
    subst h1
    exact (Blo.none b hb).elim
  · injection h1 with h1
    subst h1
    have e := (Blo.some_iff _ _).1 hb
    simp at e
    subst e
    exact ⟨cur, hg⟩
theorem own_cells {w : World} {base : Nat} {e : TypeId} {size n m c : Nat} {A : Option Addr} {xs : List Value} (h : w.ownsRow base e size (.slice A n c) m xs) {b : Nat} (hb : Blo A b) {o : Obj} (ho : w.heap[b]? = some o) : o.isCells = true := by
  rcases h.2 with ⟨h1, h2⟩ | ⟨g, cap, cur, h1, _, hg, _⟩
  · injection h1 with h1
    subst h1
    exact (Blo.none b hb).elim
  · injection h1 with h1
    subst h1
    have e := (Blo.some_iff _ _).1 hb
    simp at e
    subst e
    have := hg.symm.trans ho
    injection this with this
    subst this
    rfl

set_option maxHeartbeats 400000 in
theorem numK1 (B g : Nat) (l : List Int) (n x : Int) (w : World) (hB : B ≤ w.heap.size) (hw : IsWriter w B g l 0) (hl : l.length ≤ 140737488351232) (h0 : 0 ≤ x) (h1 : x < 256) (hn : 1 < 8 → 0 ≤ n ∧ n < 256) (hx : IntKind.u64.wrap n = x) :
    Calls Try.prog 29 #[.pointer (some ⟨g, 0, none⟩), .int .i64 1, .int .i64 n] w fun e w' => e = .returned (.tuple #[]) ∧ IsWriter w' B g (l ++ be 1 x) 0 ∧ Below B w w' ∧ KeepsOthers w w' ∧ Tr (WF w g) w w' := by
  obtain ⟨A, c, hb, ho, hg, hc⟩ := hw
  have c0 := hb.cell 0
  have c1 := hb.cell 1
  have f0 := hb.frozen 0
  have f1 := hb.frozen 1
  simp at c0 c1
  have HO := Lib.hid ho
  clear ho
  have hn0 : 1 < 8 → 0 ≤ n := fun h => (hn h).1
  have hn1 : 1 < 8 → n < 256 := fun h => (hn h).2
  simp only [show (1 < 8) = True from by simp, trueI] at hn0 hn1
  clear hn
  go_enter Try.func29, Try.ntmps29
  go_wp2_with (first | (go_at_call 39; refine (number_any x _ (by omega) (by omega)).mono ?_; rintro e w1 ⟨rfl, hb1⟩))
  have hz1 := hb1.size
  have hglt := hb.lt
  have hbk1 := hb.keep hb1
  have c01 := hbk1.cell 0
  have c11 := hbk1.cell 1
  have f01 := hbk1.frozen 0
  simp at c01 c11
  have HO1 := Lib.hid (own_below HO.out hb1 (B := 0))
  have hg1 : g < w1.heap.size := by omega
  have k4 : IntKind.i64.wrap 7 = 7 := by rfl
  go_region_law (refine stepR_append E8 rfl rfl ((HO1.out.alloc _)) rfl (Rd.newAt w1 w1.heap.size _ (by8 [beB x 7]) _ 7 rfl rfl) rfl (by rfl) (by8_one _) (l.length + 1) _ rfl rfl (by simp only [maxLen]; omega) (by omega) (by simp; omega) ?_; intro A2 c2 w2 hc2 ho2 ht2 ha2; have hb2 := ht2.blk (Blk.drew (hbk1.alloc _)) (own_blk HO1.out hbk1 (by decide)); have c02 := hb2.cell 0; have f02 := hb2.frozen 0; simp at c02; have HO2 := Lib.hid ho2; have HT2 := Lib.hid ht2; have HA2 := Lib.hid ha2; have HB2 := Lib.hid hb2; clear ho2 ht2 ha2 hb2)
  all_goals
    go_wp2_with fail
    go_end0
    refine ⟨rfl, ⟨A2, c2, ?_, ?_, hg, ?_⟩, ?_, ?_, ?_⟩
    · have := HB2.out.set_ 0 (.slice A2 (l.length + 1) c2)
      rw [List.length_append, be_length]
      exact this
    · rw [List.length_append, be_length, be1, by8_append]
      exact own_tr HO2.out ((Tr.refl (fun b => b = g) _).setCell (fun _ => rfl) _) (fun b hx hq => own_blk HO2.out HB2.out (by decide) (hq ▸ hx))
    · rw [List.length_append, be_length]; exact hc2
    · have t1 : Tr (fun b => B ≤ b) w w1 := Tr.of_below hb1
      have t2 := (t1.alloc (.cells #[.int .u8 (beB x 0), .int .u8 (beB x 1), .int .u8 (beB x 2), .int .u8 (beB x 3), .int .u8 (beB x 4), .int .u8 (beB x 5), .int .u8 (beB x 6), .int .u8 (beB x 7)] 81)).drew
      have t3 := (t2.trans HT2.out (fun b _ h => own_ge HO1.out b h)).setCell (p := ⟨g, 0, none⟩) (fun _ => hg) (.slice A2 (l.length + 1) c2)
      exact t3.to_below hB (fun _ h => h)
    · have t1 : Tr (fun b => b = g ∨ Blo A b) w w1 := Tr.of_below hb1
      have t2 := (t1.alloc (.cells #[.int .u8 (beB x 0), .int .u8 (beB x 1), .int .u8 (beB x 2), .int .u8 (beB x 3), .int .u8 (beB x 4), .int .u8 (beB x 5), .int .u8 (beB x 6), .int .u8 (beB x 7)] 81)).drew
      have t3 := (t2.trans HT2.out (fun b _ h => .inr h)).setCell (p := ⟨g, 0, none⟩) (fun _ => .inl rfl) (.slice A2 (l.length + 1) c2)
      exact keeps_of_tr t3 (fun b hF o ho => by
        rcases hF with rfl | hF
        · have := hb.symm.trans ho
          injection this with this
          subst this
          rfl
        · exact own_cells HO.out hF ho)
    · have t1 : Tr (fun b => b = g ∨ Blo A b) w w1 := Tr.of_below hb1
      have t2 := (t1.alloc (.cells #[.int .u8 (beB x 0), .int .u8 (beB x 1), .int .u8 (beB x 2), .int .u8 (beB x 3), .int .u8 (beB x 4), .int .u8 (beB x 5), .int .u8 (beB x 6), .int .u8 (beB x 7)] 81)).drew
      have t3 := (t2.trans HT2.out (fun b _ h => .inr h)).setCell (p := ⟨g, 0, none⟩) (fun _ => .inl rfl) (.slice A2 (l.length + 1) c2)
      exact t3.mono (fun b _ hF => hF.imp id (fun h => own_u8 HO.out h))
set_option maxHeartbeats 400000 in
theorem numK2 (B g : Nat) (l : List Int) (n x : Int) (w : World) (hB : B ≤ w.heap.size) (hw : IsWriter w B g l 0) (hl : l.length ≤ 140737488351232) (h0 : 0 ≤ x) (h1 : x < 65536) (hn : 2 < 8 → 0 ≤ n ∧ n < 65536) (hx : IntKind.u64.wrap n = x) :
    Calls Try.prog 29 #[.pointer (some ⟨g, 0, none⟩), .int .i64 2, .int .i64 n] w fun e w' => e = .returned (.tuple #[]) ∧ IsWriter w' B g (l ++ be 2 x) 0 ∧ Below B w w' ∧ KeepsOthers w w' ∧ Tr (WF w g) w w' := by
  obtain ⟨A, c, hb, ho, hg, hc⟩ := hw
  have c0 := hb.cell 0
  have c1 := hb.cell 1
  have f0 := hb.frozen 0
  have f1 := hb.frozen 1
  simp at c0 c1
  have HO := Lib.hid ho
  clear ho
  have hn0 : 2 < 8 → 0 ≤ n := fun h => (hn h).1
  have hn1 : 2 < 8 → n < 65536 := fun h => (hn h).2
  simp only [show (2 < 8) = True from by simp, trueI] at hn0 hn1
  clear hn
  go_enter Try.func29, Try.ntmps29
  go_wp2_with (first | (go_at_call 39; refine (number_any x _ (by omega) (by omega)).mono ?_; rintro e w1 ⟨rfl, hb1⟩))
  have hz1 := hb1.size
  have hglt := hb.lt
  have hbk1 := hb.keep hb1
  have c01 := hbk1.cell 0
  have c11 := hbk1.cell 1
  have f01 := hbk1.frozen 0
  simp at c01 c11
  have HO1 := Lib.hid (own_below HO.out hb1 (B := 0))
  have hg1 : g < w1.heap.size := by omega
  have k4 : IntKind.i64.wrap 6 = 6 := by rfl
  go_region_law (refine stepR_append E8 rfl rfl ((HO1.out.alloc _)) rfl (Rd.newAt w1 w1.heap.size _ (by8 [beB x 6, beB x 7]) _ 6 rfl rfl) rfl (by rfl) (by8_one _) (l.length + 2) _ rfl rfl (by simp only [maxLen]; omega) (by omega) (by simp; omega) ?_; intro A2 c2 w2 hc2 ho2 ht2 ha2; have hb2 := ht2.blk (Blk.drew (hbk1.alloc _)) (own_blk HO1.out hbk1 (by decide)); have c02 := hb2.cell 0; have f02 := hb2.frozen 0; simp at c02; have HO2 := Lib.hid ho2; have HT2 := Lib.hid ht2; have HA2 := Lib.hid ha2; have HB2 := Lib.hid hb2; clear ho2 ht2 ha2 hb2)
  all_goals
    go_wp2_with fail
    go_end0
    refine ⟨rfl, ⟨A2, c2, ?_, ?_, hg, ?_⟩, ?_, ?_, ?_⟩
    · have := HB2.out.set_ 0 (.slice A2 (l.length + 2) c2)
      rw [List.length_append, be_length]
      exact this
    · rw [List.length_append, be_length, be2, by8_append]
      exact own_tr HO2.out ((Tr.refl (fun b => b = g) _).setCell (fun _ => rfl) _) (fun b hx hq => own_blk HO2.out HB2.out (by decide) (hq ▸ hx))
    · rw [List.length_append, be_length]; exact hc2
    · have t1 : Tr (fun b => B ≤ b) w w1 := Tr.of_below hb1
      have t2 := (t1.alloc (.cells #[.int .u8 (beB x 0), .int .u8 (beB x 1), .int .u8 (beB x 2), .int .u8 (beB x 3), .int .u8 (beB x 4), .int .u8 (beB x 5), .int .u8 (beB x 6), .int .u8 (beB x 7)] 81)).drew
      have t3 := (t2.trans HT2.out (fun b _ h => own_ge HO1.out b h)).setCell (p := ⟨g, 0, none⟩) (fun _ => hg) (.slice A2 (l.length + 2) c2)
      exact t3.to_below hB (fun _ h => h)
    · have t1 : Tr (fun b => b = g ∨ Blo A b) w w1 := Tr.of_below hb1
      have t2 := (t1.alloc (.cells #[.int .u8 (beB x 0), .int .u8 (beB x 1), .int .u8 (beB x 2), .int .u8 (beB x 3), .int .u8 (beB x 4), .int .u8 (beB x 5), .int .u8 (beB x 6), .int .u8 (beB x 7)] 81)).drew
      have t3 := (t2.trans HT2.out (fun b _ h => .inr h)).setCell (p := ⟨g, 0, none⟩) (fun _ => .inl rfl) (.slice A2 (l.length + 2) c2)
      exact keeps_of_tr t3 (fun b hF o ho => by
        rcases hF with rfl | hF
        · have := hb.symm.trans ho
          injection this with this
          subst this
          rfl
        · exact own_cells HO.out hF ho)
    · have t1 : Tr (fun b => b = g ∨ Blo A b) w w1 := Tr.of_below hb1
      have t2 := (t1.alloc (.cells #[.int .u8 (beB x 0), .int .u8 (beB x 1), .int .u8 (beB x 2), .int .u8 (beB x 3), .int .u8 (beB x 4), .int .u8 (beB x 5), .int .u8 (beB x 6), .int .u8 (beB x 7)] 81)).drew
      have t3 := (t2.trans HT2.out (fun b _ h => .inr h)).setCell (p := ⟨g, 0, none⟩) (fun _ => .inl rfl) (.slice A2 (l.length + 2) c2)
      exact t3.mono (fun b _ hF => hF.imp id (fun h => own_u8 HO.out h))
set_option maxHeartbeats 400000 in
theorem numK4 (B g : Nat) (l : List Int) (n x : Int) (w : World) (hB : B ≤ w.heap.size) (hw : IsWriter w B g l 0) (hl : l.length ≤ 140737488351232) (h0 : 0 ≤ x) (h1 : x < 4294967296) (hn : 4 < 8 → 0 ≤ n ∧ n < 4294967296) (hx : IntKind.u64.wrap n = x) :
    Calls Try.prog 29 #[.pointer (some ⟨g, 0, none⟩), .int .i64 4, .int .i64 n] w fun e w' => e = .returned (.tuple #[]) ∧ IsWriter w' B g (l ++ be 4 x) 0 ∧ Below B w w' ∧ KeepsOthers w w' ∧ Tr (WF w g) w w' := by
  obtain ⟨A, c, hb, ho, hg, hc⟩ := hw
  have c0 := hb.cell 0
  have c1 := hb.cell 1
  have f0 := hb.frozen 0
  have f1 := hb.frozen 1
  simp at c0 c1
  have HO := Lib.hid ho
  clear ho
  have hn0 : 4 < 8 → 0 ≤ n := fun h => (hn h).1
  have hn1 : 4 < 8 → n < 4294967296 := fun h => (hn h).2
  simp only [show (4 < 8) = True from by simp, trueI] at hn0 hn1
  clear hn
  go_enter Try.func29, Try.ntmps29
  go_wp2_with (first | (go_at_call 39; refine (number_any x _ (by omega) (by omega)).mono ?_; rintro e w1 ⟨rfl, hb1⟩))
  have hz1 := hb1.size
  have hglt := hb.lt
  have hbk1 := hb.keep hb1
  have c01 := hbk1.cell 0
  have c11 := hbk1.cell 1
  have f01 := hbk1.frozen 0
  simp at c01 c11
  have HO1 := Lib.hid (own_below HO.out hb1 (B := 0))
  have hg1 : g < w1.heap.size := by omega
  have k4 : IntKind.i64.wrap 4 = 4 := by rfl
  go_region_law (refine stepR_append E8 rfl rfl ((HO1.out.alloc _)) rfl (Rd.newAt w1 w1.heap.size _ (by8 [beB x 4, beB x 5, beB x 6, beB x 7]) _ 4 rfl rfl) rfl (by rfl) (by8_one _) (l.length + 4) _ rfl rfl (by simp only [maxLen]; omega) (by omega) (by simp; omega) ?_; intro A2 c2 w2 hc2 ho2 ht2 ha2; have hb2 := ht2.blk (Blk.drew (hbk1.alloc _)) (own_blk HO1.out hbk1 (by decide)); have c02 := hb2.cell 0; have f02 := hb2.frozen 0; simp at c02; have HO2 := Lib.hid ho2; have HT2 := Lib.hid ht2; have HA2 := Lib.hid ha2; have HB2 := Lib.hid hb2; clear ho2 ht2 ha2 hb2)
  all_goals
    go_wp2_with fail
    go_end0
    refine ⟨rfl, ⟨A2, c2, ?_, ?_, hg, ?_⟩, ?_, ?_, ?_⟩
    · have := HB2.out.set_ 0 (.slice A2 (l.length + 4) c2)
      rw [List.length_append, be_length]
      exact this
    · rw [List.length_append, be_length, be4, by8_append]
      exact own_tr HO2.out ((Tr.refl (fun b => b = g) _).setCell (fun _ => rfl) _) (fun b hx hq => own_blk HO2.out HB2.out (by decide) (hq ▸ hx))
    · rw [List.length_append, be_length]; exact hc2
    · have t1 : Tr (fun b => B ≤ b) w w1 := Tr.of_below hb1
      have t2 := (t1.alloc (.cells #[.int .u8 (beB x 0), .int .u8 (beB x 1), .int .u8 (beB x 2), .int .u8 (beB x 3), .int .u8 (beB x 4), .int .u8 (beB x 5), .int .u8 (beB x 6), .int .u8 (beB x 7)] 81)).drew
      have t3 := (t2.trans HT2.out (fun b _ h => own_ge HO1.out b h)).setCell (p := ⟨g, 0, none⟩) (fun _ => hg) (.slice A2 (l.length + 4) c2)
      exact t3.to_below hB (fun _ h => h)
    · have t1 : Tr (fun b => b = g ∨ Blo A b) w w1 := Tr.of_below hb1
      have t2 := (t1.alloc (.cells #[.int .u8 (beB x 0), .int .u8 (beB x 1), .int .u8 (beB x 2), .int .u8 (beB x 3), .int .u8 (beB x 4), .int .u8 (beB x 5), .int .u8 (beB x 6), .int .u8 (beB x 7)] 81)).drew
      have t3 := (t2.trans HT2.out (fun b _ h => .inr h)).setCell (p := ⟨g, 0, none⟩) (fun _ => .inl rfl) (.slice A2 (l.length + 4) c2)
      exact keeps_of_tr t3 (fun b hF o ho => by
        rcases hF with rfl | hF
        · have := hb.symm.trans ho
          injection this with this
          subst this
          rfl
        · exact own_cells HO.out hF ho)
    · have t1 : Tr (fun b => b = g ∨ Blo A b) w w1 := Tr.of_below hb1
      have t2 := (t1.alloc (.cells #[.int .u8 (beB x 0), .int .u8 (beB x 1), .int .u8 (beB x 2), .int .u8 (beB x 3), .int .u8 (beB x 4), .int .u8 (beB x 5), .int .u8 (beB x 6), .int .u8 (beB x 7)] 81)).drew
      have t3 := (t2.trans HT2.out (fun b _ h => .inr h)).setCell (p := ⟨g, 0, none⟩) (fun _ => .inl rfl) (.slice A2 (l.length + 4) c2)
      exact t3.mono (fun b _ hF => hF.imp id (fun h => own_u8 HO.out h))
set_option maxHeartbeats 400000 in
theorem numK8 (B g : Nat) (l : List Int) (n x : Int) (w : World) (hB : B ≤ w.heap.size) (hw : IsWriter w B g l 0) (hl : l.length ≤ 140737488351232) (h0 : 0 ≤ x) (h1 : x < 18446744073709551616) (hn : 8 < 8 → 0 ≤ n ∧ n < 18446744073709551616) (hx : IntKind.u64.wrap n = x) :
    Calls Try.prog 29 #[.pointer (some ⟨g, 0, none⟩), .int .i64 8, .int .i64 n] w fun e w' => e = .returned (.tuple #[]) ∧ IsWriter w' B g (l ++ be 8 x) 0 ∧ Below B w w' ∧ KeepsOthers w w' ∧ Tr (WF w g) w w' := by
  obtain ⟨A, c, hb, ho, hg, hc⟩ := hw
  have c0 := hb.cell 0
  have c1 := hb.cell 1
  have f0 := hb.frozen 0
  have f1 := hb.frozen 1
  simp at c0 c1
  have HO := Lib.hid ho
  clear ho
  have hn0 : 8 < 8 → 0 ≤ n := fun h => (hn h).1
  have hn1 : 8 < 8 → n < 18446744073709551616 := fun h => (hn h).2
  simp only [show (8 < 8) = False from by simp, falseI] at hn0 hn1
  clear hn
  go_enter Try.func29, Try.ntmps29
  go_wp2_with (first | (go_at_call 39; refine (number_any x _ (by omega) (by omega)).mono ?_; rintro e w1 ⟨rfl, hb1⟩))
  have hz1 := hb1.size
  have hglt := hb.lt
  have hbk1 := hb.keep hb1
  have c01 := hbk1.cell 0
  have c11 := hbk1.cell 1
  have f01 := hbk1.frozen 0
  simp at c01 c11
  have HO1 := Lib.hid (own_below HO.out hb1 (B := 0))
  have hg1 : g < w1.heap.size := by omega
  have k4 : IntKind.i64.wrap 0 = 0 := by rfl
  go_region_law (refine stepR_append E8 rfl rfl ((HO1.out.alloc _)) rfl (Rd.newAt w1 w1.heap.size _ (by8 [beB x 0, beB x 1, beB x 2, beB x 3, beB x 4, beB x 5, beB x 6, beB x 7]) _ 0 rfl rfl) rfl (by rfl) (by8_one _) (l.length + 8) _ rfl rfl (by simp only [maxLen]; omega) (by omega) (by simp; omega) ?_; intro A2 c2 w2 hc2 ho2 ht2 ha2; have hb2 := ht2.blk (Blk.drew (hbk1.alloc _)) (own_blk HO1.out hbk1 (by decide)); have c02 := hb2.cell 0; have f02 := hb2.frozen 0; simp at c02; have HO2 := Lib.hid ho2; have HT2 := Lib.hid ht2; have HA2 := Lib.hid ha2; have HB2 := Lib.hid hb2; clear ho2 ht2 ha2 hb2)
  all_goals
    go_wp2_with fail
    go_end0
    refine ⟨rfl, ⟨A2, c2, ?_, ?_, hg, ?_⟩, ?_, ?_, ?_⟩
    · have := HB2.out.set_ 0 (.slice A2 (l.length + 8) c2)
      rw [List.length_append, be_length]
      exact this
    · rw [List.length_append, be_length, be8, by8_append]
      exact own_tr HO2.out ((Tr.refl (fun b => b = g) _).setCell (fun _ => rfl) _) (fun b hx hq => own_blk HO2.out HB2.out (by decide) (hq ▸ hx))
    · rw [List.length_append, be_length]; exact hc2
    · have t1 : Tr (fun b => B ≤ b) w w1 := Tr.of_below hb1
      have t2 := (t1.alloc (.cells #[.int .u8 (beB x 0), .int .u8 (beB x 1), .int .u8 (beB x 2), .int .u8 (beB x 3), .int .u8 (beB x 4), .int .u8 (beB x 5), .int .u8 (beB x 6), .int .u8 (beB x 7)] 81)).drew
      have t3 := (t2.trans HT2.out (fun b _ h => own_ge HO1.out b h)).setCell (p := ⟨g, 0, none⟩) (fun _ => hg) (.slice A2 (l.length + 8) c2)
      exact t3.to_below hB (fun _ h => h)
    · have t1 : Tr (fun b => b = g ∨ Blo A b) w w1 := Tr.of_below hb1
      have t2 := (t1.alloc (.cells #[.int .u8 (beB x 0), .int .u8 (beB x 1), .int .u8 (beB x 2), .int .u8 (beB x 3), .int .u8 (beB x 4), .int .u8 (beB x 5), .int .u8 (beB x 6), .int .u8 (beB x 7)] 81)).drew
      have t3 := (t2.trans HT2.out (fun b _ h => .inr h)).setCell (p := ⟨g, 0, none⟩) (fun _ => .inl rfl) (.slice A2 (l.length + 8) c2)
      exact keeps_of_tr t3 (fun b hF o ho => by
        rcases hF with rfl | hF
        · have := hb.symm.trans ho
          injection this with this
          subst this
          rfl
        · exact own_cells HO.out hF ho)
    · have t1 : Tr (fun b => b = g ∨ Blo A b) w w1 := Tr.of_below hb1
      have t2 := (t1.alloc (.cells #[.int .u8 (beB x 0), .int .u8 (beB x 1), .int .u8 (beB x 2), .int .u8 (beB x 3), .int .u8 (beB x 4), .int .u8 (beB x 5), .int .u8 (beB x 6), .int .u8 (beB x 7)] 81)).drew
      have t3 := (t2.trans HT2.out (fun b _ h => .inr h)).setCell (p := ⟨g, 0, none⟩) (fun _ => .inl rfl) (.slice A2 (l.length + 8) c2)
      exact t3.mono (fun b _ hF => hF.imp id (fun h => own_u8 HO.out h))

end Go.Proofs.Ytlkdglhbncnkhaa
