/- The reference's writer. -/
import Derived.Test.YtdddbpnllhnfdaaRdr
import Derived.Test.YtdddbpnllhnfdaaWords
namespace Go.Proofs.Ytdddbpnllhnfdaa
set_option linter.unusedVariables false
set_option linter.unusedSimpArgs false
set_option maxRecDepth 100000
open Go.RowKit

/-- A reference's writer at block g, all of its memory from B on. -/
def IsRWr (w : World) (B g : Nat) (l : List Int) : Prop := ∃ A c, Blk w g 111 #[.slice A l.length c, .int .i64 0] ∧ w.ownsRow B 5 1 (.slice A l.length c) l.length (by8 l) ∧ B ≤ g ∧ l.length ≤ c
theorem IsRWr.new (w : World) : IsRWr (w.alloc (.cells #[.slice none 0 0, .int .i64 0] 111)) w.heap.size w.heap.size [] :=
  ⟨none, 0, Blk.new _ _ _, ownsRow_emp _ _ _ _, Nat.le_refl _, Nat.le_refl _⟩
set_option maxHeartbeats 3200000 in
theorem rwr2 (B g : Nat) (l : List Int) (n : Int) (w : World) (hB : B ≤ w.heap.size) (hw : IsRWr w B g l) (hl : l.length ≤ 140737488351232) (h0 : 0 ≤ n) (h1 : n < 65536) :
    Calls Try.prog 71 #[.pointer (some ⟨g, 0, none⟩), .int .i64 2, .int .i64 n] w fun e w' => e = .returned (.tuple #[]) ∧ IsRWr w' B g (l ++ be 2 n) ∧ Below B w w' := by
  have HW := Lib.hid hw
  obtain ⟨A, c, hb, ho, hg, hc⟩ := hw
  have c0 := hb.cell 0
  have c1 := hb.cell 1
  have f0 := hb.frozen 0
  have f1 := hb.frozen 1
  simp at c0 c1
  clear ho hb
  go_enter Try.func71, Try.ntmps71
  go_wp2_with fail
  go_loopw [8] (fun v W => (∃ i k : Nat, i + k + 1 = 2 ∧ v = .int .i64 (i : Int) ∧ IsRWr W B g (l ++ (be 2 n).take k) ∧ Below B w W) ∨ (v = .int .i64 (-1) ∧ IsRWr W B g (l ++ be 2 n) ∧ Below B w W)) (fun v _ => (RowKit.intOf v + 1).toNat)
  case atStart => exact .inl ⟨2 - 1, 0, by omega, rfl, by simpa using HW.out, Below.refl _ _⟩
  case round =>
    rcases hrel with ⟨i, k, hik, rfl, ⟨A2, c2, hb2, ho2, hg2, hc2⟩, hbl⟩ | ⟨rfl, hw2, hbl⟩
    · have hll : (l ++ (be 2 n).take k).length = l.length + k := by rw [List.length_append, List.length_take, be_length]; omega
      rw [hll] at hb2 ho2 hc2
      have d0 := hb2.cell 0
      have d1 := hb2.cell 1
      have e0 := hb2.frozen 0
      simp at d0 d1
      have HO := Lib.hid ho2
      have HBK := Lib.hid hb2
      have HBL := Lib.hid hbl
      have hs := hbl.size
      have HT := Lib.hid (be_take_succ 2 k n (by omega))
      have hi : 2 - 1 - k = i := by omega
      rw [hi] at HT
      clear ho2 hb2 hbl
      go_wp2_with (first
        | (at_builtin; refine wpL_append E8 rfl rfl (HO.out.alloc _) rfl (Rd.newAt wr wr.heap.size _ [.int .u8 (n / 2 ^ (8 * i) % 256)] _ 0 rfl rfl) rfl (by rfl) (by simp [Value.oneCell']) (l.length + k + 1) (by8 (l ++ (be 2 n).take (k + 1))) rfl (by rw [HT.out]; simp [by8]) (by simp only [maxLen]; omega) (by omega) (by simp; omega) ?_; intro A3 c3 W3 hc3 ho3 ht3 ha3; have HO3 := Lib.hid ho3; have HT3 := Lib.hid ht3; have HB3 := Lib.hid (ht3.blk (HBK.out.alloc _) (own_blk HO.out HBK.out (by decide))); have g0 := HB3.out.cell 0; have g1 := HB3.out.frozen 0; simp at g0; clear ho3 ht3))
      have hW : IsRWr (W3.setCell ⟨g, 0, none⟩ (.slice A3 (l.length + k + 1) c3)) B g (l ++ (be 2 n).take (k + 1)) := by
        have hll2 : (l ++ (be 2 n).take (k + 1)).length = l.length + k + 1 := by rw [List.length_append, List.length_take, be_length]; omega
        refine ⟨A3, c3, ?_, ?_, hg, by rw [hll2]; exact hc3⟩
        · rw [hll2]; exact HB3.out.set_ 0 _
        · rw [hll2]; exact own_tr HO3.out ((Tr.refl (fun b => b = g) _).setCell (p := ⟨g, 0, none⟩) (fun _ => rfl) _) (fun b hx hq => own_blk HO3.out HB3.out (by decide) (hq ▸ hx))
      have hBl : Below B w (W3.setCell ⟨g, 0, none⟩ (.slice A3 (l.length + k + 1) c3)) := by
        have t1 : Tr (fun b => B ≤ b) w wr := ⟨HBL.out.os, HBL.out.tape, HBL.out.output, HBL.out.size, fun x hx hn => HBL.out.block x (by omega)⟩
        have t2 := (t1.alloc (.cells #[.int .u8 (n / 2 ^ (8 * i) % 256)] 5)).trans HT3.out (fun b _ h => own_ge HO.out b h)
        exact (t2.setCell (p := ⟨g, 0, none⟩) (fun _ => hg) _).to_below hB (fun _ h => h)
      refine ⟨?_, by simp [RowKit.intOf] <;> omega⟩
      by_cases h0 : i = 0
      · right
        rw [List.take_of_length_le (by rw [be_length]; omega)] at hW
        exact ⟨by subst h0; rfl, hW, hBl⟩
      · left
        exact ⟨i - 1, k + 1, by omega, by go_num, hW, hBl⟩
    · go_wp2_with fail
      go_end0
      exact ⟨rfl, hw2, hbl⟩
set_option maxHeartbeats 3200000 in
theorem rwr4 (B g : Nat) (l : List Int) (n : Int) (w : World) (hB : B ≤ w.heap.size) (hw : IsRWr w B g l) (hl : l.length ≤ 140737488351232) (h0 : 0 ≤ n) (h1 : n < 4294967296) :
    Calls Try.prog 71 #[.pointer (some ⟨g, 0, none⟩), .int .i64 4, .int .i64 n] w fun e w' => e = .returned (.tuple #[]) ∧ IsRWr w' B g (l ++ be 4 n) ∧ Below B w w' := by
  have HW := Lib.hid hw
  obtain ⟨A, c, hb, ho, hg, hc⟩ := hw
  have c0 := hb.cell 0
  have c1 := hb.cell 1
  have f0 := hb.frozen 0
  have f1 := hb.frozen 1
  simp at c0 c1
  clear ho hb
  go_enter Try.func71, Try.ntmps71
  go_wp2_with fail
  go_loopw [8] (fun v W => (∃ i k : Nat, i + k + 1 = 4 ∧ v = .int .i64 (i : Int) ∧ IsRWr W B g (l ++ (be 4 n).take k) ∧ Below B w W) ∨ (v = .int .i64 (-1) ∧ IsRWr W B g (l ++ be 4 n) ∧ Below B w W)) (fun v _ => (RowKit.intOf v + 1).toNat)
  case atStart => exact .inl ⟨4 - 1, 0, by omega, rfl, by simpa using HW.out, Below.refl _ _⟩
  case round =>
    rcases hrel with ⟨i, k, hik, rfl, ⟨A2, c2, hb2, ho2, hg2, hc2⟩, hbl⟩ | ⟨rfl, hw2, hbl⟩
    · have hll : (l ++ (be 4 n).take k).length = l.length + k := by rw [List.length_append, List.length_take, be_length]; omega
      rw [hll] at hb2 ho2 hc2
      have d0 := hb2.cell 0
      have d1 := hb2.cell 1
      have e0 := hb2.frozen 0
      simp at d0 d1
      have HO := Lib.hid ho2
      have HBK := Lib.hid hb2
      have HBL := Lib.hid hbl
      have hs := hbl.size
      have HT := Lib.hid (be_take_succ 4 k n (by omega))
      have hi : 4 - 1 - k = i := by omega
      rw [hi] at HT
      clear ho2 hb2 hbl
      go_wp2_with (first
        | (at_builtin; refine wpL_append E8 rfl rfl (HO.out.alloc _) rfl (Rd.newAt wr wr.heap.size _ [.int .u8 (n / 2 ^ (8 * i) % 256)] _ 0 rfl rfl) rfl (by rfl) (by simp [Value.oneCell']) (l.length + k + 1) (by8 (l ++ (be 4 n).take (k + 1))) rfl (by rw [HT.out]; simp [by8]) (by simp only [maxLen]; omega) (by omega) (by simp; omega) ?_; intro A3 c3 W3 hc3 ho3 ht3 ha3; have HO3 := Lib.hid ho3; have HT3 := Lib.hid ht3; have HB3 := Lib.hid (ht3.blk (HBK.out.alloc _) (own_blk HO.out HBK.out (by decide))); have g0 := HB3.out.cell 0; have g1 := HB3.out.frozen 0; simp at g0; clear ho3 ht3))
      have hW : IsRWr (W3.setCell ⟨g, 0, none⟩ (.slice A3 (l.length + k + 1) c3)) B g (l ++ (be 4 n).take (k + 1)) := by
        have hll2 : (l ++ (be 4 n).take (k + 1)).length = l.length + k + 1 := by rw [List.length_append, List.length_take, be_length]; omega
        refine ⟨A3, c3, ?_, ?_, hg, by rw [hll2]; exact hc3⟩
        · rw [hll2]; exact HB3.out.set_ 0 _
        · rw [hll2]; exact own_tr HO3.out ((Tr.refl (fun b => b = g) _).setCell (p := ⟨g, 0, none⟩) (fun _ => rfl) _) (fun b hx hq => own_blk HO3.out HB3.out (by decide) (hq ▸ hx))
      have hBl : Below B w (W3.setCell ⟨g, 0, none⟩ (.slice A3 (l.length + k + 1) c3)) := by
        have t1 : Tr (fun b => B ≤ b) w wr := ⟨HBL.out.os, HBL.out.tape, HBL.out.output, HBL.out.size, fun x hx hn => HBL.out.block x (by omega)⟩
        have t2 := (t1.alloc (.cells #[.int .u8 (n / 2 ^ (8 * i) % 256)] 5)).trans HT3.out (fun b _ h => own_ge HO.out b h)
        exact (t2.setCell (p := ⟨g, 0, none⟩) (fun _ => hg) _).to_below hB (fun _ h => h)
      refine ⟨?_, by simp [RowKit.intOf] <;> omega⟩
      by_cases h0 : i = 0
      · right
        rw [List.take_of_length_le (by rw [be_length]; omega)] at hW
        exact ⟨by subst h0; rfl, hW, hBl⟩
      · left
        exact ⟨i - 1, k + 1, by omega, by go_num, hW, hBl⟩
    · go_wp2_with fail
      go_end0
      exact ⟨rfl, hw2, hbl⟩
set_option maxHeartbeats 3200000 in
theorem rwr8 (B g : Nat) (l : List Int) (n : Int) (w : World) (hB : B ≤ w.heap.size) (hw : IsRWr w B g l) (hl : l.length ≤ 140737488351232) (h0 : 0 ≤ n) (h1 : n < 9223372036854775808) :
    Calls Try.prog 71 #[.pointer (some ⟨g, 0, none⟩), .int .i64 8, .int .i64 n] w fun e w' => e = .returned (.tuple #[]) ∧ IsRWr w' B g (l ++ be 8 n) ∧ Below B w w' := by
  have HW := Lib.hid hw
  obtain ⟨A, c, hb, ho, hg, hc⟩ := hw
  have c0 := hb.cell 0
  have c1 := hb.cell 1
  have f0 := hb.frozen 0
  have f1 := hb.frozen 1
  simp at c0 c1
  clear ho hb
  go_enter Try.func71, Try.ntmps71
  go_wp2_with fail
  go_loopw [8] (fun v W => (∃ i k : Nat, i + k + 1 = 8 ∧ v = .int .i64 (i : Int) ∧ IsRWr W B g (l ++ (be 8 n).take k) ∧ Below B w W) ∨ (v = .int .i64 (-1) ∧ IsRWr W B g (l ++ be 8 n) ∧ Below B w W)) (fun v _ => (RowKit.intOf v + 1).toNat)
  case atStart => exact .inl ⟨8 - 1, 0, by omega, rfl, by simpa using HW.out, Below.refl _ _⟩
  case round =>
    rcases hrel with ⟨i, k, hik, rfl, ⟨A2, c2, hb2, ho2, hg2, hc2⟩, hbl⟩ | ⟨rfl, hw2, hbl⟩
    · have hll : (l ++ (be 8 n).take k).length = l.length + k := by rw [List.length_append, List.length_take, be_length]; omega
      rw [hll] at hb2 ho2 hc2
      have d0 := hb2.cell 0
      have d1 := hb2.cell 1
      have e0 := hb2.frozen 0
      simp at d0 d1
      have HO := Lib.hid ho2
      have HBK := Lib.hid hb2
      have HBL := Lib.hid hbl
      have hs := hbl.size
      have HT := Lib.hid (be_take_succ 8 k n (by omega))
      have hi : 8 - 1 - k = i := by omega
      rw [hi] at HT
      clear ho2 hb2 hbl
      go_wp2_with (first
        | (at_builtin; refine wpL_append E8 rfl rfl (HO.out.alloc _) rfl (Rd.newAt wr wr.heap.size _ [.int .u8 (n / 2 ^ (8 * i) % 256)] _ 0 rfl rfl) rfl (by rfl) (by simp [Value.oneCell']) (l.length + k + 1) (by8 (l ++ (be 8 n).take (k + 1))) rfl (by rw [HT.out]; simp [by8]) (by simp only [maxLen]; omega) (by omega) (by simp; omega) ?_; intro A3 c3 W3 hc3 ho3 ht3 ha3; have HO3 := Lib.hid ho3; have HT3 := Lib.hid ht3; have HB3 := Lib.hid (ht3.blk (HBK.out.alloc _) (own_blk HO.out HBK.out (by decide))); have g0 := HB3.out.cell 0; have g1 := HB3.out.frozen 0; simp at g0; clear ho3 ht3))
      have hW : IsRWr (W3.setCell ⟨g, 0, none⟩ (.slice A3 (l.length + k + 1) c3)) B g (l ++ (be 8 n).take (k + 1)) := by
        have hll2 : (l ++ (be 8 n).take (k + 1)).length = l.length + k + 1 := by rw [List.length_append, List.length_take, be_length]; omega
        refine ⟨A3, c3, ?_, ?_, hg, by rw [hll2]; exact hc3⟩
        · rw [hll2]; exact HB3.out.set_ 0 _
        · rw [hll2]; exact own_tr HO3.out ((Tr.refl (fun b => b = g) _).setCell (p := ⟨g, 0, none⟩) (fun _ => rfl) _) (fun b hx hq => own_blk HO3.out HB3.out (by decide) (hq ▸ hx))
      have hBl : Below B w (W3.setCell ⟨g, 0, none⟩ (.slice A3 (l.length + k + 1) c3)) := by
        have t1 : Tr (fun b => B ≤ b) w wr := ⟨HBL.out.os, HBL.out.tape, HBL.out.output, HBL.out.size, fun x hx hn => HBL.out.block x (by omega)⟩
        have t2 := (t1.alloc (.cells #[.int .u8 (n / 2 ^ (8 * i) % 256)] 5)).trans HT3.out (fun b _ h => own_ge HO.out b h)
        exact (t2.setCell (p := ⟨g, 0, none⟩) (fun _ => hg) _).to_below hB (fun _ h => h)
      refine ⟨?_, by simp [RowKit.intOf] <;> omega⟩
      by_cases h0 : i = 0
      · right
        rw [List.take_of_length_le (by rw [be_length]; omega)] at hW
        exact ⟨by subst h0; rfl, hW, hBl⟩
      · left
        exact ⟨i - 1, k + 1, by omega, by go_num, hW, hBl⟩
    · go_wp2_with fail
      go_end0
      exact ⟨rfl, hw2, hbl⟩
set_option maxHeartbeats 400000 in
theorem rwEnd (B g : Nat) (l : List Int) (w : World) (hw : IsRWr w B g l) (hl : l.length ≤ 140737488351232) :
    Calls Try.prog 72 #[.pointer (some ⟨g, 0, none⟩)] w fun e w' => ∃ A' c', e = .returned (.tuple #[.slice A' l.length c', .int .i64 0]) ∧ l.length ≤ c' ∧
      w'.ownsRow w.heap.size 5 1 (.slice A' l.length c') l.length (by8 l) ∧ Below w.heap.size w w' := by
  obtain ⟨A, c, hb, ho, hg, hc⟩ := hw
  have c0 := hb.cell 0
  have c1 := hb.cell 1
  simp at c0 c1
  have HR := Lib.hid (Rd.of_own ho)
  clear ho hb
  go_enter Try.func72, Try.ntmps72
  go_wp2_with (first
    | (at_builtin; refine wpL_append E8 rfl rfl (ownsRow_emp w w.heap.size _ _) rfl HR.out rfl (by simp [by8]) (by8_one l) l.length (by8 l) (by simp) (by simp) (by simp only [maxLen]; omega) (by omega) (Nat.le_refl _) ?_; intro A1 c1 w1 hc1 ho1 ht1 _; have HO1 := Lib.hid ho1; have HT1 := Lib.hid ht1; clear ho1 ht1))
  go_ret2
  exact ⟨_, _, rfl, hc1, HO1.out, HT1.out.below (fun b _ => Blo.none b)⟩
end Go.Proofs.Ytdddbpnllhnfdaa
