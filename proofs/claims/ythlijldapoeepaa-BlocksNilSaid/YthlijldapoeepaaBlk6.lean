/- Layer 6: the journal's entry. -/
import Derived.Test.YthlijldapoeepaaBlk5
import Derived.Test.YthlijldapoeepaaExt3
namespace Go.Proofs.Ythlijldapoeepaa
set_option linter.unusedVariables false
set_option linter.unusedSimpArgs false
set_option maxRecDepth 100000
open Go.RowKit

/-- A change in the journal. -/
def lineL (lba : Int) (d : List Int) : List Int := [lba / 256 % 256, lba % 256, if d = [] then 0 else 1] ++ (if d = [] then List.replicate 64 0 else d)
def linesL (l : List (Int × List Int)) : List Int := l.flatMap fun y => lineL y.1 y.2
def ChS.two (y : ChS) : Int × List Int := (y.lba, y.d)
def entryB (gen n : Int) (l : List (Int × List Int)) : List Int := n8 [gen, n] ++ be 2 l.length ++ linesL l
def entryL (gen n : Int) (l : List (Int × List Int)) : List Int := sealL (entryB gen n l)
/-- As changes stand in the journal: of 64 bytes or none. -/
def lineOk (y : Int × List Int) : Prop := (0 ≤ y.1 ∧ y.1 < 256) ∧ (y.2 = [] ∨ isBl y.2)
theorem lineL_length {y : Int × List Int} (h : lineOk y) : (lineL y.1 y.2).length = 67 := by
  unfold lineL
  rcases h.2 with e | e
  · simp [e]
  · have : y.2 ≠ [] := by intro e'; have := e.1; simp [e'] at this
    simp [this, e.1]
theorem lineL_isB {y : Int × List Int} (h : lineOk y) : isB (lineL y.1 y.2) := by
  unfold lineL
  refine isB.append ?_ ?_
  · intro x hx
    simp at hx
    rcases hx with rfl | rfl | rfl
    · omega
    · omega
    · split <;> omega
  · rcases h.2 with e | e
    · rw [if_pos e]; exact rep0_isB 64
    · have : y.2 ≠ [] := by intro e'; have := e.1; simp [e'] at this
      rw [if_neg this]; exact e.2
theorem linesL_length : ∀ {l : List (Int × List Int)}, (∀ y ∈ l, lineOk y) → (linesL l).length = 67 * l.length
  | [], _ => rfl
  | y :: l, h => by
    have ih := linesL_length (l := l) (fun z hz => h z (List.mem_cons_of_mem _ hz))
    have e := lineL_length (h y List.mem_cons_self)
    simp only [linesL, List.flatMap_cons, List.length_append, List.length_cons] at ih ⊢
    omega
theorem linesL_isB {l : List (Int × List Int)} (h : ∀ y ∈ l, lineOk y) : isB (linesL l) := by
  intro x hx
  obtain ⟨y, hy, hx⟩ := List.mem_flatMap.1 hx
  exact lineL_isB (h y hy) x hx
theorem linesL_snoc (l : List (Int × List Int)) (k : Nat) (h : k < l.length) : linesL (l.take (k + 1)) = linesL (l.take k) ++ lineL l[k].1 l[k].2 := by
  simp only [linesL]
  rw [List.take_succ_eq_append_getElem h, List.flatMap_append]
  simp
theorem entryB_length {gen n : Int} {l : List (Int × List Int)} (h : ∀ y ∈ l, lineOk y) : (entryB gen n l).length = 18 + 67 * l.length := by
  simp only [entryB, List.length_append, n8_length, be_length, linesL_length h, List.length_cons, List.length_nil]
theorem entryB_isB {gen n : Int} {l : List (Int × List Int)} (h : ∀ y ∈ l, lineOk y) : isB (entryB gen n l) := ((n8_isB _).append (be_isB 2 _)).append (linesL_isB h)

theorem numbers2 (A : Option Addr) (c : Nat) (a b : Int) (ha : 0 ≤ a ∧ a < 9223372036854775808) (hb : 0 ≤ b ∧ b < 9223372036854775808) (w : World) (hr : Rd w A [.int .i64 a, .int .i64 b]) :
    Calls Try.prog 52 #[.slice A 2 c] w fun e w' => ∃ A' c', e = .returned (.slice A' 16 c') ∧ 16 ≤ c' ∧
      w'.ownsRow w.heap.size 5 1 (.slice A' 16 c') 16 (by8 (n8 [a, b])) ∧ Below w.heap.size w w' :=
  numbers_any A c [a, b] w hr (by simp) (by intro n hn; simp at hn; rcases hn with rfl | rfl <;> omega)

theorem sealed_n (A : Option Addr) (c n : Nat) (l : List Int) (w : World) (hr : Rd w A (by8 l)) (hB : isB l) (hl : l.length = n) (hn : n ≤ 100000) :
    Calls Try.prog 53 #[.slice A n c] w fun e w' => ∃ A' c', e = .returned (.slice A' (n + 4) c') ∧ n + 4 ≤ c' ∧
      w'.ownsRow w.heap.size 5 1 (.slice A' (n + 4) c') (n + 4) (by8 (sealL l)) ∧ Below w.heap.size w w' := by
  subst hl
  have h := sealed_any A c l w hr hB hn
  rw [sealL_length] at h
  exact h
theorem end2 (B g : Nat) (n : Int) (w : World) (hw : IsWriter w B g ([] ++ be 2 n) 0) :
    Calls Try.prog 51 #[.pointer (some ⟨g, 0, none⟩)] w fun e w' => ∃ A' c', e = .returned (.tuple #[.slice A' 2 c', .int .i64 0]) ∧ 2 ≤ c' ∧
      w'.ownsRow w.heap.size 5 1 (.slice A' 2 c') 2 (by8 (be 2 n)) ∧ Below w.heap.size w w' := by
  have h := end_any B g ([] ++ be 2 n) w hw (by simp [be_length])
  rw [List.nil_append, be_length] at h
  exact h
theorem by8_app3 (a b c : List Int) : by8 (a ++ b) ++ by8 c = by8 (a ++ (b ++ c)) := by rw [← by8_append, List.append_assoc]
theorem splice_tail {l d : List Int} {n : Nat} (h : d.length = n) : splice (by8 (l ++ List.replicate n 0)) l.length (by8 d) = by8 (l ++ d) := by
  subst h
  rw [Dk.by8_splice]
  congr 1
  simp [splice]
set_option maxHeartbeats 3200000 in
theorem entry_any (A : Option Addr) (c : Nat) (l : List ChS) (gen n : Int) (hg : 0 ≤ gen ∧ gen < 9223372036854775808) (hn : 0 ≤ n ∧ n < 9223372036854775808) (w : World) (hl : ChsAt w A l) (h64 : l.length ≤ 64) (hok : ∀ y ∈ l.map ChS.two, lineOk y) :
    Calls Try.prog 31 #[.int .i64 gen, .int .i64 n, .slice A l.length c] w fun e w' => ∃ A' c' m, m = 22 + 67 * l.length ∧ e = .returned (.slice A' m c') ∧ m ≤ c' ∧ w'.ownsRow w.heap.size 5 1 (.slice A' m c') m (by8 (entryL gen n (l.map ChS.two))) ∧ Below w.heap.size w w' := by
  have HL := Lib.hid hl
  have HOK := Lib.hid hok
  clear hl hok
  have h2 : (0 : Int) ≤ l.length ∧ (l.length : Int) < 65536 := by omega
  go_enter Try.func31, Try.ntmps31
  go_wp2_with (first
    | (go_at_call 49; refine (newWriter_any _).mono ?_; rintro e w1 ⟨rfl, hw1, hb1⟩; have HW1 := Lib.hid hw1; have HB1 := Lib.hid hb1; have hz1 := hb1.size; clear hw1 hb1)
    | (go_at_call 50; refine (num2 w.heap.size w.heap.size [] l.length _ hz1 HW1.out (by simp) h2.1 h2.2).mono ?_; rintro e w2 ⟨rfl, hw2, hb2⟩; have HW2 := Lib.hid hw2; have HB2 := Lib.hid hb2; have hz2 := hb2.size; clear hw2 hb2)
    | (go_at_call 51; refine (end2 w.heap.size w.heap.size l.length _ HW2.out).mono ?_; rintro e w3 ⟨A3, c3, rfl, hc3, ho3, hb3⟩; have HO3 := Lib.hid ho3; have HB3 := Lib.hid hb3; have hz3 := hb3.size; clear ho3 hb3)
    | (go_at_call 52; with_reducible refine (numbers2 _ _ gen n hg hn _ (by exact Rd.newAt _ _ _ [.int .i64 gen, .int .i64 n] _ 0 (by simp) rfl)).mono ?_; rintro e w4 ⟨A4, c4, rfl, hc4, ho4, hb4⟩; have HO4 := Lib.hid ho4; have HB4 := Lib.hid hb4; have hz4 := hb4.size; simp at hz4; have HR3 := Lib.hid (((Rd.of_own HO3.out).below (bl_alloc _ _)).below hb4); clear ho4 hb4)
    | (at_builtin; refine wpL_append E8 rfl rfl HO4.out rfl HR3.out rfl (by simp [by8_length, be_length]) (by8_one _) 18 (by8 (n8 [gen, n] ++ be 2 l.length)) (by simp) (by simp [by8]) (by simp [maxLen]) (by omega) (by simp; omega) ?_; intro A5 c5 w5 hc5 ho5 ht5 ha5; have HO5 := Lib.hid ho5; have HT5 := Lib.hid ht5; clear ho5 ht5 ha5))
  have t4 : Below w.heap.size w w4 := HB1.out.trans (HB2.out.trans ((HB3.out.mono (by omega)).trans (((bl_alloc w3 _).mono (by omega)).trans (HB4.out.mono (by simp; omega)))))
  have t5 : Below w.heap.size w w5 := bl_tr t4 HT5.out (fun b hb => Nat.le_trans (by simp; omega) (own_ge HO4.out b hb))
  have HT := Lib.hid t5
  have HO := Lib.hid (ownsRow_base (base' := w.heap.size) HO5.out (by simp; omega))
  clear t4 t5 HO5 HT5 HR3 HB4 HO4 HB3 HO3 HB2 HW2 HB1 HW1
  go_loopw [10, 12, 13, 32] (fun v10 _ _ v W => ∃ (k : Nat) (A6 : Option Addr) (c6 n6 : Nat), k ≤ l.length ∧ v = .int .i64 (k : Int) ∧ n6 = 18 + 67 * k ∧ v10 = .slice A6 n6 c6 ∧ n6 ≤ c6 ∧ W.ownsRow w.heap.size 5 1 (.slice A6 n6 c6) n6 (by8 (n8 [gen, n] ++ be 2 l.length ++ linesL ((l.map ChS.two).take k))) ∧ Below w.heap.size w W) (fun _ _ _ v _ => l.length - (intOf v).toNat)
  case atStart => exact ⟨0, _, _, 18, by omega, rfl, rfl, rfl, hc5, by simpa [linesL] using HO.out, HT.out⟩
  case round =>
    obtain ⟨k, A6, c6, n6, hk, rfl, hn6, rfl, hc6, ho6, hb6⟩ := hrel
    have HO6 := Lib.hid ho6
    have HB6 := Lib.hid hb6
    have HN6 := Lib.hid hn6
    have hz6 := hb6.size
    clear ho6 hb6 hn6
    by_cases hlt : k < l.length
    · obtain ⟨hin, b, o, rfl, hc⟩ := HL.out k hlt
      have x0 := (HB6.out.cell (cell_block_lt (hc 0 _ rfl))).trans (hc 0 _ rfl)
      have x1 := (HB6.out.cell (cell_block_lt (hc 1 _ rfl))).trans (hc 1 _ rfl)
      have hlo := HOK.out l[k].two (List.mem_map_of_mem (List.getElem_mem hlt))
      have HSN := Lib.hid (linesL_snoc (l.map ChS.two) k (by simpa using hlt))
      rw [List.getElem_map] at HSN
      have hrd := hin.rd.below HB6.out
      clear hc hin
      generalize l[k] = y at x0 x1 hlo HSN hrd
      simp only [Nat.add_zero] at x0
      rw [← Nat.add_assoc] at x1
      have HRD := Lib.hid hrd
      have HLO := Lib.hid hlo
      clear hrd hlo
      have hmk := fun w => run_make8 67 67 rfl (by omega) w
      obtain ⟨p, hp⟩ := Int.eq_ofNat_of_zero_le HLO.out.1.1
      simp only [ChS.two] at hp
      have hp2 : p < 256 := by have := HLO.out.1.2; simp only [ChS.two] at this; omega
      rw [hp] at x0
      by_cases hd : y.d = []
      · have hd0 : y.d.length = 0 := by rw [hd]; rfl
        rw [hd0] at x1
        have HLE : Hid (lineL y.two.1 y.two.2 = [0, (p : Int), 0] ++ List.replicate 64 0) := Lib.hid (by
          simp only [ChS.two, lineL, hp, hd, if_true]
          congr 1
          congr 1
          · omega
          · congr 1; omega)
        clear hd hd0
        go_wp2_with fail
        clear hmk
        have HCH : Hid (Blk ((wr.alloc (.cells #[.int .i64 (p : Int), .slice y.A 0 y.c] 48)).alloc (.cells (Array.replicate 67 (.int .u8 0)) 5)) wr.heap.size 48 #[.int .i64 (p : Int), .slice y.A 0 y.c]) := Lib.hid ((Blk.new wr _ _).alloc _)
        have HLN : Hid (((wr.alloc (.cells #[.int .i64 (p : Int), .slice y.A 0 y.c] 48)).alloc (.cells (Array.replicate 67 (.int .u8 0)) 5)).ownsRow (wr.heap.size + 1) 5 1 (.slice (some ⟨wr.heap.size + 1, 0, none⟩) 67 67) 67 (by8 (List.replicate 67 0))) := Lib.hid (by
          have h := own_zeros (wr.alloc (.cells #[.int .i64 (p : Int), .slice y.A 0 y.c] 48)) 67 (by simp [maxLen])
          simpa using h)
        have HBW : Hid (Below wr.heap.size wr ((wr.alloc (.cells #[.int .i64 (p : Int), .slice y.A 0 y.c] 48)).alloc (.cells (Array.replicate 67 (.int .u8 0)) 5))) := Lib.hid (((Below.refl _ _).alloc (Nat.le_refl _) _).alloc (by simp) _)
        have HZW : Hid (((wr.alloc (.cells #[.int .i64 (p : Int), .slice y.A 0 y.c] 48)).alloc (.cells (Array.replicate 67 (.int .u8 0)) 5)).heap.size = wr.heap.size + 2) := Lib.hid (by simp)
        generalize (wr.alloc (.cells #[.int .i64 (p : Int), .slice y.A 0 y.c] 48)).alloc (.cells (Array.replicate 67 (.int .u8 0)) 5) = W2 at HCH HLN HBW HZW ⊢
        have d0 := HCH.out.cell 0
        have d1 := HCH.out.cell 1
        have l0 := HLN.out.cellAt 0 (by omega)
        have l1 := HLN.out.cellAt 1 (by omega)
        have g0 := HLN.out.frozenAt 0
        have g1 := HLN.out.frozenAt 1
        have hne : (⟨wr.heap.size + 1, 0, none⟩ : Addr) ≠ ⟨wr.heap.size + 1, 1, none⟩ := by intro e; injection e; omega
        have e1 : IntKind.u8.wrap (p : Int) = p := by rw [IntKind.wrap_u8]; omega
        have e2 : (p : Int) / 256 = 0 := by omega
        simp at d0 d1
        simp [by8] at l0 l1
        go_region
        have s1 := own_stored HLN.out 0 (.int .u8 0)
        have s2 := own_stored s1.1 1 (.int .u8 (p : Int))
        have HL3 := Lib.hid (show (((W2.setCell ⟨wr.heap.size + 1, 0, none⟩ (.int .u8 0)).setCell ⟨wr.heap.size + 1, 1, none⟩ (.int .u8 (p : Int))).drew).ownsRow (wr.heap.size + 1) 5 1 (.slice (some ⟨wr.heap.size + 1, 0, none⟩) 67 67) 67 (by8 ([0, (p : Int), 0] ++ List.replicate 64 0)) from s2.1)
        have HT3 := Lib.hid (show Tr (Blo (some ⟨wr.heap.size + 1, 0, none⟩)) W2 (((W2.setCell ⟨wr.heap.size + 1, 0, none⟩ (.int .u8 0)).setCell ⟨wr.heap.size + 1, 1, none⟩ (.int .u8 (p : Int))).drew) from (s1.2.trans s2.2 (fun _ _ h => h)).drew)
        have hz3 : W2.heap.size = (((W2.setCell ⟨wr.heap.size + 1, 0, none⟩ (.int .u8 0)).setCell ⟨wr.heap.size + 1, 1, none⟩ (.int .u8 (p : Int))).drew).heap.size := by simp
        rw [HZW.out] at hz3
        generalize ((W2.setCell ⟨wr.heap.size + 1, 0, none⟩ (.int .u8 0)).setCell ⟨wr.heap.size + 1, 1, none⟩ (.int .u8 (p : Int))).drew = W3 at HL3 HT3 hz3 ⊢
        have HB3 := Lib.hid (bl_tr HBW.out HT3.out (fun b hb => by have := (Blo.some_iff _ _).1 hb; simp at this; omega))
        have HCH3 := Lib.hid (HT3.out.blk HCH.out (fun hb => by have := (Blo.some_iff _ _).1 hb; simp at this))
        clear s1 s2 d0 d1 l0 l1 g0 g1 hne HLN HT3 HCH HBW
        have d1 := HCH3.out.cell 1
        simp at d1
        go_wp2_with (first
          | (at_builtin; go_loud (with_reducible refine wpL_append E8 rfl rfl (own_below HO6.out HB3.out (B := w.heap.size)) rfl (by exact Rd.of_own HL3.out) rfl (by simp [by8]) (by8_one _) (n6 + 67) (by8 (n8 [gen, n] ++ be 2 l.length ++ linesL ((l.map ChS.two).take (k + 1)))) rfl (by rw [HSN.out, HLE.out, by8_app3]) (by simp only [maxLen]; have := HN6.out; omega) (by have := HN6.out; omega) (by omega) ?_); intro A7 c7 w7 hc7 ho7 ht7 ha7; have HO7 := Lib.hid ho7; have HT7 := Lib.hid ht7; clear ho7 ht7 ha7))
        go_roundw
        case measure => simp [intOf]; omega
        case rel =>
          exact ⟨k + 1, A7, c7, n6 + 67, by omega, by go_num, by have := HN6.out; omega, rfl, hc7, HO7.out, bl_tr (HB6.out.trans (HB3.out.mono hz6)) HT7.out (fun b hb => own_ge HO6.out b hb)⟩
      · have hd1 : isBl y.d := HLO.out.2.resolve_left hd
        obtain ⟨q, hq⟩ : ∃ q, y.d.length = q := ⟨_, rfl⟩
        have HQ : Hid (q = 64) := Lib.hid (by have := hd1.1; omega)
        rw [hq] at x1
        have HLE : Hid (lineL y.two.1 y.two.2 = [0, (p : Int), 1] ++ y.d) := Lib.hid (by
          simp only [ChS.two, lineL, hp, hd, if_false]
          congr 1
          congr 1
          · omega
          · congr 1; omega)
        have hq0 : 0 < q := by have := HQ.out; omega
        clear hd hd1
        go_wp2_with fail
        clear hmk
        have HCH : Hid (Blk ((wr.alloc (.cells #[.int .i64 (p : Int), .slice y.A q y.c] 48)).alloc (.cells (Array.replicate 67 (.int .u8 0)) 5)) wr.heap.size 48 #[.int .i64 (p : Int), .slice y.A q y.c]) := Lib.hid ((Blk.new wr _ _).alloc _)
        have HLN : Hid (((wr.alloc (.cells #[.int .i64 (p : Int), .slice y.A q y.c] 48)).alloc (.cells (Array.replicate 67 (.int .u8 0)) 5)).ownsRow (wr.heap.size + 1) 5 1 (.slice (some ⟨wr.heap.size + 1, 0, none⟩) 67 67) 67 (by8 (List.replicate 67 0))) := Lib.hid (by
          have h := own_zeros (wr.alloc (.cells #[.int .i64 (p : Int), .slice y.A q y.c] 48)) 67 (by simp [maxLen])
          simpa using h)
        have HBW : Hid (Below wr.heap.size wr ((wr.alloc (.cells #[.int .i64 (p : Int), .slice y.A q y.c] 48)).alloc (.cells (Array.replicate 67 (.int .u8 0)) 5))) := Lib.hid (((Below.refl _ _).alloc (Nat.le_refl _) _).alloc (by simp) _)
        have HZW : Hid (((wr.alloc (.cells #[.int .i64 (p : Int), .slice y.A q y.c] 48)).alloc (.cells (Array.replicate 67 (.int .u8 0)) 5)).heap.size = wr.heap.size + 2) := Lib.hid (by simp)
        generalize (wr.alloc (.cells #[.int .i64 (p : Int), .slice y.A q y.c] 48)).alloc (.cells (Array.replicate 67 (.int .u8 0)) 5) = W2 at HCH HLN HBW HZW ⊢
        have d0 := HCH.out.cell 0
        have d1 := HCH.out.cell 1
        have l0 := HLN.out.cellAt 0 (by omega)
        have l1 := HLN.out.cellAt 1 (by omega)
        have g0 := HLN.out.frozenAt 0
        have g1 := HLN.out.frozenAt 1
        have hne : (⟨wr.heap.size + 1, 0, none⟩ : Addr) ≠ ⟨wr.heap.size + 1, 1, none⟩ := by intro e; injection e; omega
        have e1 : IntKind.u8.wrap (p : Int) = p := by rw [IntKind.wrap_u8]; omega
        have e2 : (p : Int) / 256 = 0 := by omega
        simp at d0 d1
        simp [by8] at l0 l1
        go_region
        have s1 := own_stored HLN.out 0 (.int .u8 0)
        have s2 := own_stored s1.1 1 (.int .u8 (p : Int))
        have HL3 := Lib.hid (show (((W2.setCell ⟨wr.heap.size + 1, 0, none⟩ (.int .u8 0)).setCell ⟨wr.heap.size + 1, 1, none⟩ (.int .u8 (p : Int))).drew).ownsRow (wr.heap.size + 1) 5 1 (.slice (some ⟨wr.heap.size + 1, 0, none⟩) 67 67) 67 (by8 ([0, (p : Int), 0] ++ List.replicate 64 0)) from s2.1)
        have HT3 := Lib.hid (show Tr (Blo (some ⟨wr.heap.size + 1, 0, none⟩)) W2 (((W2.setCell ⟨wr.heap.size + 1, 0, none⟩ (.int .u8 0)).setCell ⟨wr.heap.size + 1, 1, none⟩ (.int .u8 (p : Int))).drew) from (s1.2.trans s2.2 (fun _ _ h => h)).drew)
        have hz3 : W2.heap.size = (((W2.setCell ⟨wr.heap.size + 1, 0, none⟩ (.int .u8 0)).setCell ⟨wr.heap.size + 1, 1, none⟩ (.int .u8 (p : Int))).drew).heap.size := by simp
        rw [HZW.out] at hz3
        generalize ((W2.setCell ⟨wr.heap.size + 1, 0, none⟩ (.int .u8 0)).setCell ⟨wr.heap.size + 1, 1, none⟩ (.int .u8 (p : Int))).drew = W3 at HL3 HT3 hz3 ⊢
        have HB3 := Lib.hid (bl_tr HBW.out HT3.out (fun b hb => by have := (Blo.some_iff _ _).1 hb; simp at this; omega))
        have HCH3 := Lib.hid (HT3.out.blk HCH.out (fun hb => by have := (Blo.some_iff _ _).1 hb; simp at this))
        clear s1 s2 d0 d1 l0 l1 g0 g1 hne HLN HT3 HCH HBW
        have d1 := HCH3.out.cell 1
        simp at d1
        have l2 := HL3.out.cellAt 2 (by omega)
        have g2 := HL3.out.frozenAt 2
        simp [by8] at l2
        go_wp2_with fail
        have s1 := own_stored HL3.out 2 (.int .u8 1)
        have HL4 := Lib.hid (show (W3.setCell ⟨wr.heap.size + 1, 2, none⟩ (.int .u8 1)).ownsRow (wr.heap.size + 1) 5 1 (.slice (some ⟨wr.heap.size + 1, 0, none⟩) 67 67) 67 (by8 ([0, (p : Int), 1] ++ List.replicate 64 0)) from s1.1)
        have HB4 := Lib.hid (bl_tr HB3.out s1.2 (fun b hb => by have := (Blo.some_iff _ _).1 hb; simp at this; omega))
        have HCH4 := Lib.hid (s1.2.blk HCH3.out (fun hb => by have := (Blo.some_iff _ _).1 hb; simp at this))
        have hz4 : W3.heap.size = (W3.setCell ⟨wr.heap.size + 1, 2, none⟩ (.int .u8 1)).heap.size := by simp
        rw [← hz3] at hz4
        generalize W3.setCell ⟨wr.heap.size + 1, 2, none⟩ (.int .u8 1) = W4 at HL4 HB4 HCH4 hz4 ⊢
        have HRD4 := Lib.hid (HRD.out.below HB4.out)
        have LC : Hid ((by8 y.d).length = Nat.min q 64) := Lib.hid (by rw [by8_length, hq, HQ.out]; rfl)
        have FC : Hid (3 + (by8 y.d).length ≤ 67) := Lib.hid (by rw [by8_length, hq, HQ.out]; omega)
        have d1 := HCH4.out.cell 1
        simp at d1
        go_region_law (refine stepR_copy (off := 3) (cs := by8 y.d) Try.underlying44 sizes1 rfl rfl (by exact HL4.out.drew) rfl rfl (fun _ => rfl) (by exact HRD4.out) LC.out FC.out (by8_one _) ?_; intro w5 ho5 ht5; have HL5 := Lib.hid ho5; have HB5 := Lib.hid (bl_tr (bl_chain HB4.out (bl_drew _)) ht5 (fun b hb => by have := (Blo.some_iff _ _).1 hb; simp at this; omega)); clear ho5 ht5)
        have HL6 : Hid (w5.ownsRow (wr.heap.size + 1) 5 1 (.slice (some ⟨wr.heap.size + 1, 0, none⟩) 67 67) 67 (by8 ([0, (p : Int), 1] ++ y.d))) := Lib.hid (by
          have h := HL5.out
          rw [show (3 : Nat) = [0, (p : Int), 1].length from rfl, splice_tail (by rw [hq, HQ.out])] at h
          exact h)
        clear HL5
        have hz7 := HB5.out.size
        go_wp2_with (first
          | (at_builtin; go_loud (with_reducible refine wpL_append E8 rfl rfl (own_below HO6.out HB5.out (B := w.heap.size)) rfl (by exact Rd.of_own HL6.out) rfl (by simp [by8, hq, HQ.out]) (by8_one _) (n6 + 67) (by8 (n8 [gen, n] ++ be 2 l.length ++ linesL ((l.map ChS.two).take (k + 1)))) rfl (by rw [HSN.out, HLE.out, by8_app3]) (by simp only [maxLen]; have := HN6.out; omega) (by have := HN6.out; omega) (by omega) ?_); intro A7 c7 w7 hc7 ho7 ht7 ha7; have HO7 := Lib.hid ho7; have HT7 := Lib.hid ht7; clear ho7 ht7 ha7))
        go_roundw
        case measure => simp [intOf]; omega
        case rel =>
          exact ⟨k + 1, A7, c7, n6 + 67, by omega, by go_num, by have := HN6.out; omega, rfl, hc7, HO7.out, bl_tr (HB6.out.trans (HB5.out.mono hz6)) HT7.out (fun b hb => own_ge HO6.out b hb)⟩
    · have hk' : k = l.length := by omega
      have hll : (l.map ChS.two).take k = l.map ChS.two := List.take_of_length_le (by simp; omega)
      rw [hll] at HO6
      have HLN : Hid ((entryB gen n (l.map ChS.two)).length = n6) := Lib.hid (by have := entryB_length (gen := gen) (n := n) HOK.out; rw [List.length_map] at this; have := HN6.out; omega)
      have HO7 : Hid (wr.ownsRow w.heap.size 5 1 (.slice A6 n6 c6) n6 (by8 (entryB gen n (l.map ChS.two)))) := Lib.hid (by have h := HO6.out; unfold entryB; rw [List.length_map]; exact h)
      clear hll
      go_wp2_with (first
        | (go_at_call 53; with_reducible refine (sealed_n _ _ _ (entryB gen n (l.map ChS.two)) _ (Rd.of_own HO7.out) (entryB_isB HOK.out) HLN.out (by have := HN6.out; omega)).mono ?_; rintro e w7 ⟨A8, c8, rfl, hc8, ho8, hb8⟩; have HO8 := Lib.hid ho8; have HB8 := Lib.hid hb8; clear ho8 hb8))
      go_ret
      exact ⟨A8, c8, n6 + 4, by have := HN6.out; omega, rfl, hc8, ownsRow_base HO8.out hz6, HB6.out.trans (HB8.out.mono hz6)⟩

end Go.Proofs.Ythlijldapoeepaa
