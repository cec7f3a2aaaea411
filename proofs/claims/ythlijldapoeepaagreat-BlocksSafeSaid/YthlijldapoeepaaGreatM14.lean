/- Layer 6: the journal's entry. -/
import Derived.Test.YthlijldapoeepaaGreatM13
import Derived.Test.YthlijldapoeepaaGreatM7
import Derived.Test.YthlijldapoeepaaGreatM8
import Derived.Test.YthlijldapoeepaaGreatM4
import Derived.Lib.SlKeysI
import Derived.Maps.OwnIn
namespace Go.Proofs.YthlijldapoeepaaGreat
set_option linter.unusedVariables false
set_option linter.unusedSimpArgs false
set_option maxRecDepth 100000
open Go.RowKit

/-- A change in the journal. -/
def lineL (lba : Int) (d : List Int) : List Int := [lba / 256 % 256, lba % 256, if d = [] then 0 else 1] ++ (if d = [] then List.replicate 64 0 else d)
def linesL (l : List (Int × List Int)) : List Int := l.flatMap fun y => lineL y.1 y.2
def ChS.two (y : ChS) : Int × List Int := (y.lba, y.d)
def entryB (gen n : Int) (l : List (Int × List Int)) : List Int := n8 [gen, n] ++ be 2 l.length ++ linesL l
def entryL (gen n : Int) (l : List (Int × List Int)) : List Int := sealL (entryB gen n l)
/-- As changes stand in the journal: of 64 bytes or none. -/
def lineOk (y : Int × List Int) : Prop := (0 ≤ y.1 ∧ y.1 < 256) ∧ (y.2 = [] ∨ isBl y.2)
theorem lineL_length {y : Int × List Int} (h : lineOk y) : (lineL y.1 y.2).length = 67 := by
  unfold lineL
  rcases h.2 with e | e
  · simp [e]
  · have : y.2 ≠ [] := by intro e'; have := e.1; simp [e'] at this
    simp [this, e.1]
theorem lineL_isB {y : Int × List Int} (h : lineOk y) : isB (lineL y.1 y.2) := by
  unfold lineL
  refine isB.append ?_ ?_
  · intro x hx
    simp at hx
    rcases hx with rfl | rfl | rfl
    · omega
    · omega
    · split <;> omega
  · rcases h.2 with e | e
    · rw [if_pos e]; exact rep0_isB 64
    · have : y.2 ≠ [] := by intro e'; have := e.1; simp [e'] at this
      rw [if_neg this]; exact e.2
theorem linesL_length : ∀ {l : List (Int × List Int)}, (∀ y ∈ l, lineOk y) → (linesL l).length = 67 * l.length
  | [], _ => rfl
  | y :: l, h => by
    have ih := linesL_length (l := l) (fun z hz => h z (List.mem_cons_of_mem _ hz))
    have e := lineL_length (h y List.mem_cons_self)
    simp only [linesL, List.flatMap_cons, List.length_append, List.length_cons] at ih ⊢
    omega
theorem linesL_isB {l : List (Int × List Int)} (h : ∀ y ∈ l, lineOk y) : isB (linesL l) := by
  intro x hx
  obtain ⟨y, hy, hx⟩ := List.mem_flatMap.1 hx
  exact lineL_isB (h y hy) x hx
theorem linesL_snoc (l : List (Int × List Int)) (k : Nat) (h : k < l.length) : linesL (l.take (k + 1)) = linesL (l.take k) ++ lineL l[k].1 l[k].2 := by
  simp only [linesL]
  rw [List.take_succ_eq_append_getElem h, List.flatMap_append]
  simp
theorem entryB_length {gen n : Int} {l : List (Int × List Int)} (h : ∀ y ∈ l, lineOk y) : (entryB gen n l).length = 18 + 67 * l.length := by
  simp only [entryB, List.length_append, n8_length, be_length, linesL_length h, List.length_cons, List.length_nil]
theorem entryB_isB {gen n : Int} {l : List (Int × List Int)} (h : ∀ y ∈ l, lineOk y) : isB (entryB gen n l) := ((n8_isB _).append (be_isB 2 _)).append (linesL_isB h)

theorem numbers2 (A : Option Addr) (c : Nat) (a b : Int) (ha : 0 ≤ a ∧ a < 9223372036854775808) (hb : 0 ≤ b ∧ b < 9223372036854775808) (w : World) (hr : Rd w A [.int .i64 a, .int .i64 b]) :
    Calls Tryz.prog 79 #[.slice A 2 c] w fun e w' => ∃ A' c', e = .returned (.slice A' 16 c') ∧ 16 ≤ c' ∧
      w'.ownsRow w.heap.size 5 1 (.slice A' 16 c') 16 (by8 (n8 [a, b])) ∧ Below w.heap.size w w' :=
  numbers_any A c [a, b] w hr (by simp) (by intro n hn; simp at hn; rcases hn with rfl | rfl <;> omega)

theorem sealed_n (A : Option Addr) (c n : Nat) (l : List Int) (w : World) (hr : Rd w A (by8 l)) (hB : isB l) (hl : l.length = n) (hn : n ≤ 100000) :
    Calls Tryz.prog 80 #[.slice A n c] w fun e w' => ∃ A' c', e = .returned (.slice A' (n + 4) c') ∧ n + 4 ≤ c' ∧
      w'.ownsRow w.heap.size 5 1 (.slice A' (n + 4) c') (n + 4) (by8 (sealL l)) ∧ Below w.heap.size w w' := by
  subst hl
  have h := sealed_any A c l w hr hB hn
  rw [sealL_length] at h
  exact h
theorem end2 (B g : Nat) (n : Int) (w : World) (hw : IsWriter w B g ([] ++ be 2 n) 0) :
    Calls Tryz.prog 72 #[.pointer (some ⟨g, 0, none⟩)] w fun e w' => ∃ A' c', e = .returned (.tuple #[.slice A' 2 c', .int .i64 0]) ∧ 2 ≤ c' ∧
      w'.ownsRow w.heap.size 5 1 (.slice A' 2 c') 2 (by8 (be 2 n)) ∧ Below w.heap.size w w' := by
  have h := end_any B g ([] ++ be 2 n) w hw (by simp [be_length])
  rw [List.nil_append, be_length] at h
  exact h
theorem by8_app3 (a b c : List Int) : by8 (a ++ b) ++ by8 c = by8 (a ++ (b ++ c)) := by rw [← by8_append, List.append_assoc]
theorem splice_tail {l d : List Int} {n : Nat} (h : d.length = n) : splice (by8 (l ++ List.replicate n 0)) l.length (by8 d) = by8 (l ++ d) := by
  subst h
  rw [Dk.by8_splice]
  congr 1
  simp [splice]
set_option maxHeartbeats 3200000 in
theorem entry_any (A : Option Addr) (c : Nat) (l : List ChS) (gen n : Int) (hg : 0 ≤ gen ∧ gen < 9223372036854775808) (hn : 0 ≤ n ∧ n < 9223372036854775808) (w : World) (hl : ChsAt w A l) (h64 : l.length ≤ 64) (hok : ∀ y ∈ l.map ChS.two, lineOk y) :
    Calls Tryz.prog 51 #[.int .i64 gen, .int .i64 n, .slice A l.length c] w fun e w' => ∃ A' c' m, m = 22 + 67 * l.length ∧ e = .returned (.slice A' m c') ∧ m ≤ c' ∧ w'.ownsRow w.heap.size 5 1 (.slice A' m c') m (by8 (entryL gen n (l.map ChS.two))) ∧ Below w.heap.size w w' := by
  have HL := Lib.hid hl
  have HOK := Lib.hid hok
  clear hl hok
  have h2 : (0 : Int) ≤ l.length ∧ (l.length : Int) < 65536 := by omega
  go_enter Tryz.func51, Tryz.ntmps51
  go_wp2_with (first
    | (go_at_call 70; refine (newWriter_any _).mono ?_; rintro e w1 ⟨rfl, hw1, hb1⟩; have HW1 := Lib.hid hw1; have HB1 := Lib.hid hb1; have hz1 := hb1.size; clear hw1 hb1)
    | (go_at_call 71; refine (num2 w.heap.size w.heap.size [] l.length _ hz1 HW1.out (by simp) h2.1 h2.2).mono ?_; rintro e w2 ⟨rfl, hw2, hb2⟩; have HW2 := Lib.hid hw2; have HB2 := Lib.hid hb2; have hz2 := hb2.size; clear hw2 hb2)
    | (go_at_call 72; refine (end2 w.heap.size w.heap.size l.length _ HW2.out).mono ?_; rintro e w3 ⟨A3, c3, rfl, hc3, ho3, hb3⟩; have HO3 := Lib.hid ho3; have HB3 := Lib.hid hb3; have hz3 := hb3.size; clear ho3 hb3)
    | (go_at_call 79; with_reducible refine (numbers2 _ _ gen n hg hn _ (by exact Rd.newAt _ _ _ [.int .i64 gen, .int .i64 n] _ 0 (by simp) rfl)).mono ?_; rintro e w4 ⟨A4, c4, rfl, hc4, ho4, hb4⟩; have HO4 := Lib.hid ho4; have HB4 := Lib.hid hb4; have hz4 := hb4.size; simp at hz4; have HR3 := Lib.hid (((Rd.of_own HO3.out).below (bl_alloc _ _)).below hb4); clear ho4 hb4)
    | (at_builtin; refine wpL_append E8 rfl rfl HO4.out rfl HR3.out rfl (by simp [by8_length, be_length]) (by8_one _) 18 (by8 (n8 [gen, n] ++ be 2 l.length)) (by simp) (by simp [by8]) (by simp [maxLen]) (by omega) (by simp; omega) ?_; intro A5 c5 w5 hc5 ho5 ht5 ha5; have HO5 := Lib.hid ho5; have HT5 := Lib.hid ht5; clear ho5 ht5 ha5))
  have t4 : Below w.heap.size w w4 := HB1.out.trans (HB2.out.trans ((HB3.out.mono (by omega)).trans (((bl_alloc w3 _).mono (by omega)).trans (HB4.out.mono (by simp; omega)))))
  have t5 : Below w.heap.size w w5 := bl_tr t4 HT5.out (fun b hb => Nat.le_trans (by simp; omega) (own_ge HO4.out b hb))
  have HT := Lib.hid t5
  have HO := Lib.hid (ownsRow_base (base' := w.heap.size) HO5.out (by simp; omega))
  clear t4 t5 HO5 HT5 HR3 HB4 HO4 HB3 HO3 HB2 HW2 HB1 HW1
  go_loopw [10, 12, 13, 32] (fun v10 _ _ v W => ∃ (k : Nat) (A6 : Option Addr) (c6 n6 : Nat), k ≤ l.length ∧ v = .int .i64 (k : Int) ∧ n6 = 18 + 67 * k ∧ v10 = .slice A6 n6 c6 ∧ n6 ≤ c6 ∧ W.ownsRow w.heap.size 5 1 (.slice A6 n6 c6) n6 (by8 (n8 [gen, n] ++ be 2 l.length ++ linesL ((l.map ChS.two).take k))) ∧ Below w.heap.size w W) (fun _ _ _ v _ => l.length - (intOf v).toNat)
  case atStart => exact ⟨0, _, _, 18, by omega, rfl, rfl, rfl, hc5, by simpa [linesL] using HO.out, HT.out⟩
  case round =>
    obtain ⟨k, A6, c6, n6, hk, rfl, hn6, rfl, hc6, ho6, hb6⟩ := hrel
    have HO6 := Lib.hid ho6
    have HB6 := Lib.hid hb6
    have HN6 := Lib.hid hn6
    have hz6 := hb6.size
    clear ho6 hb6 hn6
    by_cases hlt : k < l.length
    · obtain ⟨hin, b, o, rfl, hc⟩ := HL.out k hlt
      have x0 := (HB6.out.cell (cell_block_lt (hc 0 _ rfl))).trans (hc 0 _ rfl)
      have x1 := (HB6.out.cell (cell_block_lt (hc 1 _ rfl))).trans (hc 1 _ rfl)
      have hlo := HOK.out l[k].two (List.mem_map_of_mem (List.getElem_mem hlt))
      have HSN := Lib.hid (linesL_snoc (l.map ChS.two) k (by simpa using hlt))
      rw [List.getElem_map] at HSN
      have hrd := hin.rd.below HB6.out
      clear hc hin
      generalize l[k] = y at x0 x1 hlo HSN hrd
      simp only [Nat.add_zero] at x0
      rw [← Nat.add_assoc] at x1
      have HRD := Lib.hid hrd
      have HLO := Lib.hid hlo
      clear hrd hlo
      have hmk := fun w => run_make8 67 67 rfl (by omega) w
      obtain ⟨p, hp⟩ := Int.eq_ofNat_of_zero_le HLO.out.1.1
      simp only [ChS.two] at hp
      have hp2 : p < 256 := by have := HLO.out.1.2; simp only [ChS.two] at this; omega
      rw [hp] at x0
      by_cases hd : y.d = []
      · have hd0 : y.d.length = 0 := by rw [hd]; rfl
        rw [hd0] at x1
        have HLE : Hid (lineL y.two.1 y.two.2 = [0, (p : Int), 0] ++ List.replicate 64 0) := Lib.hid (by
          simp only [ChS.two, lineL, hp, hd, if_true]
          congr 1
          congr 1
          · omega
          · congr 1; omega)
        clear hd hd0
        go_wp2_with fail
        clear hmk
        have HCH : Hid (Blk ((wr.alloc (.cells #[.int .i64 (p : Int), .slice y.A 0 y.c] 54)).alloc (.cells (Array.replicate 67 (.int .u8 0)) 5)) wr.heap.size 54 #[.int .i64 (p : Int), .slice y.A 0 y.c]) := Lib.hid ((Blk.new wr _ _).alloc _)
        have HLN : Hid (((wr.alloc (.cells #[.int .i64 (p : Int), .slice y.A 0 y.c] 54)).alloc (.cells (Array.replicate 67 (.int .u8 0)) 5)).ownsRow (wr.heap.size + 1) 5 1 (.slice (some ⟨wr.heap.size + 1, 0, none⟩) 67 67) 67 (by8 (List.replicate 67 0))) := Lib.hid (by
          have h := own_zeros (wr.alloc (.cells #[.int .i64 (p : Int), .slice y.A 0 y.c] 54)) 67 (by simp [maxLen])
          simpa using h)
        have HBW : Hid (Below wr.heap.size wr ((wr.alloc (.cells #[.int .i64 (p : Int), .slice y.A 0 y.c] 54)).alloc (.cells (Array.replicate 67 (.int .u8 0)) 5))) := Lib.hid (((Below.refl _ _).alloc (Nat.le_refl _) _).alloc (by simp) _)
        have HZW : Hid (((wr.alloc (.cells #[.int .i64 (p : Int), .slice y.A 0 y.c] 54)).alloc (.cells (Array.replicate 67 (.int .u8 0)) 5)).heap.size = wr.heap.size + 2) := Lib.hid (by simp)
        generalize (wr.alloc (.cells #[.int .i64 (p : Int), .slice y.A 0 y.c] 54)).alloc (.cells (Array.replicate 67 (.int .u8 0)) 5) = W2 at HCH HLN HBW HZW ⊢
        have d0 := HCH.out.cell 0
        have d1 := HCH.out.cell 1
        have l0 := HLN.out.cellAt 0 (by omega)
        have l1 := HLN.out.cellAt 1 (by omega)
        have g0 := HLN.out.frozenAt 0
        have g1 := HLN.out.frozenAt 1
        have hne : (⟨wr.heap.size + 1, 0, none⟩ : Addr) ≠ ⟨wr.heap.size + 1, 1, none⟩ := by intro e; injection e; omega
        have e1 : IntKind.u8.wrap (p : Int) = p := by rw [IntKind.wrap_u8]; omega
        have e2 : (p : Int) / 256 = 0 := by omega
        simp at d0 d1
        simp [by8] at l0 l1
        go_region
        have s1 := own_stored HLN.out 0 (.int .u8 0)
        have s2 := own_stored s1.1 1 (.int .u8 (p : Int))
        have HL3 := Lib.hid (show (((W2.setCell ⟨wr.heap.size + 1, 0, none⟩ (.int .u8 0)).setCell ⟨wr.heap.size + 1, 1, none⟩ (.int .u8 (p : Int))).drew).ownsRow (wr.heap.size + 1) 5 1 (.slice (some ⟨wr.heap.size + 1, 0, none⟩) 67 67) 67 (by8 ([0, (p : Int), 0] ++ List.replicate 64 0)) from s2.1)
        have HT3 := Lib.hid (show Tr (Blo (some ⟨wr.heap.size + 1, 0, none⟩)) W2 (((W2.setCell ⟨wr.heap.size + 1, 0, none⟩ (.int .u8 0)).setCell ⟨wr.heap.size + 1, 1, none⟩ (.int .u8 (p : Int))).drew) from (s1.2.trans s2.2 (fun _ _ h => h)).drew)
        have hz3 : W2.heap.size = (((W2.setCell ⟨wr.heap.size + 1, 0, none⟩ (.int .u8 0)).setCell ⟨wr.heap.size + 1, 1, none⟩ (.int .u8 (p : Int))).drew).heap.size := by simp
        rw [HZW.out] at hz3
        generalize ((W2.setCell ⟨wr.heap.size + 1, 0, none⟩ (.int .u8 0)).setCell ⟨wr.heap.size + 1, 1, none⟩ (.int .u8 (p : Int))).drew = W3 at HL3 HT3 hz3 ⊢
        have HB3 := Lib.hid (bl_tr HBW.out HT3.out (fun b hb => by have := (Blo.some_iff _ _).1 hb; simp at this; omega))
        have HCH3 := Lib.hid (HT3.out.blk HCH.out (fun hb => by have := (Blo.some_iff _ _).1 hb; simp at this))
        clear s1 s2 d0 d1 l0 l1 g0 g1 hne HLN HT3 HCH HBW
        have d1 := HCH3.out.cell 1
        simp at d1
        go_wp2_with (first
          | (at_builtin; go_loud (with_reducible refine wpL_append E8 rfl rfl (own_below HO6.out HB3.out (B := w.heap.size)) rfl (by exact Rd.of_own HL3.out) rfl (by simp [by8]) (by8_one _) (n6 + 67) (by8 (n8 [gen, n] ++ be 2 l.length ++ linesL ((l.map ChS.two).take (k + 1)))) rfl (by rw [HSN.out, HLE.out, by8_app3]) (by simp only [maxLen]; have := HN6.out; omega) (by have := HN6.out; omega) (by omega) ?_); intro A7 c7 w7 hc7 ho7 ht7 ha7; have HO7 := Lib.hid ho7; have HT7 := Lib.hid ht7; clear ho7 ht7 ha7))
        go_roundw
        case measure => simp [intOf]; omega
        case rel =>
          exact ⟨k + 1, A7, c7, n6 + 67, by omega, by go_num, by have := HN6.out; omega, rfl, hc7, HO7.out, bl_tr (HB6.out.trans (HB3.out.mono hz6)) HT7.out (fun b hb => own_ge HO6.out b hb)⟩
      · have hd1 : isBl y.d := HLO.out.2.resolve_left hd
        obtain ⟨q, hq⟩ : ∃ q, y.d.length = q := ⟨_, rfl⟩
        have HQ : Hid (q = 64) := Lib.hid (by have := hd1.1; omega)
        rw [hq] at x1
        have HLE : Hid (lineL y.two.1 y.two.2 = [0, (p : Int), 1] ++ y.d) := Lib.hid (by
          simp only [ChS.two, lineL, hp, hd, if_false]
          congr 1
          congr 1
          · omega
          · congr 1; omega)
        have hq0 : 0 < q := by have := HQ.out; omega
        clear hd hd1
        go_wp2_with fail
        clear hmk
        have HCH : Hid (Blk ((wr.alloc (.cells #[.int .i64 (p : Int), .slice y.A q y.c] 54)).alloc (.cells (Array.replicate 67 (.int .u8 0)) 5)) wr.heap.size 54 #[.int .i64 (p : Int), .slice y.A q y.c]) := Lib.hid ((Blk.new wr _ _).alloc _)
        have HLN : Hid (((wr.alloc (.cells #[.int .i64 (p : Int), .slice y.A q y.c] 54)).alloc (.cells (Array.replicate 67 (.int .u8 0)) 5)).ownsRow (wr.heap.size + 1) 5 1 (.slice (some ⟨wr.heap.size + 1, 0, none⟩) 67 67) 67 (by8 (List.replicate 67 0))) := Lib.hid (by
          have h := own_zeros (wr.alloc (.cells #[.int .i64 (p : Int), .slice y.A q y.c] 54)) 67 (by simp [maxLen])
          simpa using h)
        have HBW : Hid (Below wr.heap.size wr ((wr.alloc (.cells #[.int .i64 (p : Int), .slice y.A q y.c] 54)).alloc (.cells (Array.replicate 67 (.int .u8 0)) 5))) := Lib.hid (((Below.refl _ _).alloc (Nat.le_refl _) _).alloc (by simp) _)
        have HZW : Hid (((wr.alloc (.cells #[.int .i64 (p : Int), .slice y.A q y.c] 54)).alloc (.cells (Array.replicate 67 (.int .u8 0)) 5)).heap.size = wr.heap.size + 2) := Lib.hid (by simp)
        generalize (wr.alloc (.cells #[.int .i64 (p : Int), .slice y.A q y.c] 54)).alloc (.cells (Array.replicate 67 (.int .u8 0)) 5) = W2 at HCH HLN HBW HZW ⊢
        have d0 := HCH.out.cell 0
        have d1 := HCH.out.cell 1
        have l0 := HLN.out.cellAt 0 (by omega)
        have l1 := HLN.out.cellAt 1 (by omega)
        have g0 := HLN.out.frozenAt 0
        have g1 := HLN.out.frozenAt 1
        have hne : (⟨wr.heap.size + 1, 0, none⟩ : Addr) ≠ ⟨wr.heap.size + 1, 1, none⟩ := by intro e; injection e; omega
        have e1 : IntKind.u8.wrap (p : Int) = p := by rw [IntKind.wrap_u8]; omega
        have e2 : (p : Int) / 256 = 0 := by omega
        simp at d0 d1
        simp [by8] at l0 l1
        go_region
        have s1 := own_stored HLN.out 0 (.int .u8 0)
        have s2 := own_stored s1.1 1 (.int .u8 (p : Int))
        have HL3 := Lib.hid (show (((W2.setCell ⟨wr.heap.size + 1, 0, none⟩ (.int .u8 0)).setCell ⟨wr.heap.size + 1, 1, none⟩ (.int .u8 (p : Int))).drew).ownsRow (wr.heap.size + 1) 5 1 (.slice (some ⟨wr.heap.size + 1, 0, none⟩) 67 67) 67 (by8 ([0, (p : Int), 0] ++ List.replicate 64 0)) from s2.1)
        have HT3 := Lib.hid (show Tr (Blo (some ⟨wr.heap.size + 1, 0, none⟩)) W2 (((W2.setCell ⟨wr.heap.size + 1, 0, none⟩ (.int .u8 0)).setCell ⟨wr.heap.size + 1, 1, none⟩ (.int .u8 (p : Int))).drew) from (s1.2.trans s2.2 (fun _ _ h => h)).drew)
        have hz3 : W2.heap.size = (((W2.setCell ⟨wr.heap.size + 1, 0, none⟩ (.int .u8 0)).setCell ⟨wr.heap.size + 1, 1, none⟩ (.int .u8 (p : Int))).drew).heap.size := by simp
        rw [HZW.out] at hz3
        generalize ((W2.setCell ⟨wr.heap.size + 1, 0, none⟩ (.int .u8 0)).setCell ⟨wr.heap.size + 1, 1, none⟩ (.int .u8 (p : Int))).drew = W3 at HL3 HT3 hz3 ⊢
        have HB3 := Lib.hid (bl_tr HBW.out HT3.out (fun b hb => by have := (Blo.some_iff _ _).1 hb; simp at this; omega))
        have HCH3 := Lib.hid (HT3.out.blk HCH.out (fun hb => by have := (Blo.some_iff _ _).1 hb; simp at this))
        clear s1 s2 d0 d1 l0 l1 g0 g1 hne HLN HT3 HCH HBW
        have d1 := HCH3.out.cell 1
        simp at d1
        have l2 := HL3.out.cellAt 2 (by omega)
        have g2 := HL3.out.frozenAt 2
        simp [by8] at l2
        go_wp2_with fail
        have s1 := own_stored HL3.out 2 (.int .u8 1)
        have HL4 := Lib.hid (show (W3.setCell ⟨wr.heap.size + 1, 2, none⟩ (.int .u8 1)).ownsRow (wr.heap.size + 1) 5 1 (.slice (some ⟨wr.heap.size + 1, 0, none⟩) 67 67) 67 (by8 ([0, (p : Int), 1] ++ List.replicate 64 0)) from s1.1)
        have HB4 := Lib.hid (bl_tr HB3.out s1.2 (fun b hb => by have := (Blo.some_iff _ _).1 hb; simp at this; omega))
        have HCH4 := Lib.hid (s1.2.blk HCH3.out (fun hb => by have := (Blo.some_iff _ _).1 hb; simp at this))
        have hz4 : W3.heap.size = (W3.setCell ⟨wr.heap.size + 1, 2, none⟩ (.int .u8 1)).heap.size := by simp
        rw [← hz3] at hz4
        generalize W3.setCell ⟨wr.heap.size + 1, 2, none⟩ (.int .u8 1) = W4 at HL4 HB4 HCH4 hz4 ⊢
        have HRD4 := Lib.hid (HRD.out.below HB4.out)
        have LC : Hid ((by8 y.d).length = Nat.min q 64) := Lib.hid (by rw [by8_length, hq, HQ.out]; rfl)
        have FC : Hid (3 + (by8 y.d).length ≤ 67) := Lib.hid (by rw [by8_length, hq, HQ.out]; omega)
        have d1 := HCH4.out.cell 1
        simp at d1
        go_region_law (refine stepR_copy (off := 3) (cs := by8 y.d) Tryz.underlying52 sizes1 rfl rfl (by exact HL4.out.drew) rfl rfl (fun _ => rfl) (by exact HRD4.out) LC.out FC.out (by8_one _) ?_; intro w5 ho5 ht5; have HL5 := Lib.hid ho5; have HB5 := Lib.hid (bl_tr (bl_chain HB4.out (bl_drew _)) ht5 (fun b hb => by have := (Blo.some_iff _ _).1 hb; simp at this; omega)); clear ho5 ht5)
        have HL6 : Hid (w5.ownsRow (wr.heap.size + 1) 5 1 (.slice (some ⟨wr.heap.size + 1, 0, none⟩) 67 67) 67 (by8 ([0, (p : Int), 1] ++ y.d))) := Lib.hid (by
          have h := HL5.out
          rw [show (3 : Nat) = [0, (p : Int), 1].length from rfl, splice_tail (by rw [hq, HQ.out])] at h
          exact h)
        clear HL5
        have hz7 := HB5.out.size
        go_wp2_with (first
          | (at_builtin; go_loud (with_reducible refine wpL_append E8 rfl rfl (own_below HO6.out HB5.out (B := w.heap.size)) rfl (by exact Rd.of_own HL6.out) rfl (by simp [by8, hq, HQ.out]) (by8_one _) (n6 + 67) (by8 (n8 [gen, n] ++ be 2 l.length ++ linesL ((l.map ChS.two).take (k + 1)))) rfl (by rw [HSN.out, HLE.out, by8_app3]) (by simp only [maxLen]; have := HN6.out; omega) (by have := HN6.out; omega) (by omega) ?_); intro A7 c7 w7 hc7 ho7 ht7 ha7; have HO7 := Lib.hid ho7; have HT7 := Lib.hid ht7; clear ho7 ht7 ha7))
        go_roundw
        case measure => simp [intOf]; omega
        case rel =>
          exact ⟨k + 1, A7, c7, n6 + 67, by omega, by go_num, by have := HN6.out; omega, rfl, hc7, HO7.out, bl_tr (HB6.out.trans (HB5.out.mono hz6)) HT7.out (fun b hb => own_ge HO6.out b hb)⟩
    · have hk' : k = l.length := by omega
      have hll : (l.map ChS.two).take k = l.map ChS.two := List.take_of_length_le (by simp; omega)
      rw [hll] at HO6
      have HLN : Hid ((entryB gen n (l.map ChS.two)).length = n6) := Lib.hid (by have := entryB_length (gen := gen) (n := n) HOK.out; rw [List.length_map] at this; have := HN6.out; omega)
      have HO7 : Hid (wr.ownsRow w.heap.size 5 1 (.slice A6 n6 c6) n6 (by8 (entryB gen n (l.map ChS.two)))) := Lib.hid (by have h := HO6.out; unfold entryB; rw [List.length_map]; exact h)
      clear hll
      go_wp2_with (first
        | (go_at_call 80; with_reducible refine (sealed_n _ _ _ (entryB gen n (l.map ChS.two)) _ (Rd.of_own HO7.out) (entryB_isB HOK.out) HLN.out (by have := HN6.out; omega)).mono ?_; rintro e w7 ⟨A8, c8, rfl, hc8, ho8, hb8⟩; have HO8 := Lib.hid ho8; have HB8 := Lib.hid hb8; clear ho8 hb8))
      go_ret
      exact ⟨A8, c8, n6 + 4, by have := HN6.out; omega, rfl, hc8, ownsRow_base HO8.out hz6, HB6.out.trans (HB8.out.mono hz6)⟩

end Go.Proofs.YthlijldapoeepaaGreat

/- Layer 6: the rows that changes touch, as an iterator's value. -/

namespace Go.Proofs.YthlijldapoeepaaGreat
set_option linter.unusedVariables false
set_option linter.unusedSimpArgs false
set_option maxRecDepth 100000
open Go.RowKit Go.Shelf

def touches (l : List ChS) (k : Nat) : Bool := l.any (fun y => decide (y.lba / 3 = (k : Int)))
/-- The rows that changes touch, rising. -/
def rowsT (l : List ChS) : List Nat := (List.range 86).filter (touches l)
def iz (l : List Nat) : List Value := l.map (fun (k : Nat) => Value.int .i64 (k : Int))
def izs (l : List Nat) : List Int := l.map (fun (k : Nat) => (k : Int))
theorem rowsT_sorted (l : List ChS) : (rowsT l).Pairwise (· < ·) := List.pairwise_lt_range.filter _
theorem rowsT_lt {l : List ChS} {k : Nat} (h : k ∈ rowsT l) : k < 86 := by
  have := (List.mem_filter.1 h).1
  simpa using this
theorem rowsT_mem {l : List ChS} {k : Nat} : k ∈ rowsT l ↔ k < 86 ∧ ∃ y ∈ l, y.lba / 3 = (k : Int) := by
  unfold rowsT touches
  rw [List.mem_filter, List.mem_range, List.any_eq_true]
  simp
theorem rowsT_length (l : List ChS) : (rowsT l).length ≤ 86 := by
  have := List.length_filter_le (touches l) (List.range 86)
  simpa [rowsT] using this
theorem izs_sorted (l : List ChS) : (izs (rowsT l)).Pairwise (· < ·) := by
  unfold izs
  rw [List.pairwise_map]
  exact (rowsT_sorted l).imp (fun h => by omega)
theorem iz_izs (l : List Nat) : (izs l).map (Value.int .i64) = iz l := by simp [izs, iz]

/-- How a bool reads in a map. -/
def rB : Value → Option (DataW Unit × List MemPlace)
  | .bool b => some (.lit (.bool b), [])
  | _ => none

/-- Which rows the first changes touch, as a map. -/
def TouchD (l : List ChS) (D : DataW Unit) : Prop := ∀ z : Int, Maps.has D (lk z) = decide (∃ y ∈ l, y.lba / 3 = z)
theorem TouchD.put {w : World} {b n : Nat} {l : List ChS} {D : DataW Unit} (h : TouchD l D) (ho : w.ownsMap Tryz.prog 3 rB b n D) (y : ChS) (hy : -9223372036854775808 ≤ y.lba / 3 ∧ y.lba / 3 ≤ 9223372036854775807) (d : DataW Unit) :
    TouchD (l ++ [y]) (D.put (lk (y.lba / 3)) d) := by
  intro z
  by_cases e : z = y.lba / 3
  · subst e
    rw [Maps.has_put_same ho.isMap (isKey _ hy)]
    symm
    exact decide_eq_true ⟨y, by simp, rfl⟩
  · rw [Maps.has_put_other (lk_ne e), h]
    apply decide_eq_decide.2
    constructor
    · rintro ⟨x, hx, e2⟩; exact ⟨x, by simp [hx], e2⟩
    · rintro ⟨x, hx, e2⟩
      rcases List.mem_append.1 hx with hx | hx
      · exact ⟨x, hx, e2⟩
      · simp at hx; subst hx; exact absurd e2.symm e
theorem TouchD.perm {w : World} {b n : Nat} {l : List ChS} {D : DataW Unit} (h : TouchD l D) (ho : w.ownsMap Tryz.prog 3 rB b n D) (hin : ∀ y ∈ l, 0 ≤ y.lba ∧ y.lba < 256) : (izs (rowsT l)).Perm (Go.intKeys D) := by
  refine Go.CollectedI.perm (left := fun _ => false) ⟨(izs_sorted l).imp (fun h e => by omega), fun x => ?_⟩ ho keyI Tryz.underlying3 (fun _ => rfl)
  show x ∈ izs (rowsT l) ↔ Maps.has D (lk x) = true ∧ _
  rw [h, decide_eq_true_iff]
  unfold izs
  rw [List.mem_map]
  constructor
  · rintro ⟨k, hk, rfl⟩
    obtain ⟨_, y, hy, e⟩ := rowsT_mem.1 hk
    exact ⟨⟨y, hy, e⟩, rfl⟩
  · rintro ⟨⟨y, hy, e⟩, _⟩
    have := hin y hy
    exact ⟨x.toNat, rowsT_mem.2 ⟨by omega, y, hy, by omega⟩, by omega⟩

theorem Try.sortsB (m : Nat) : AnyZI.SortsIn Tryz.prog Tryz.sortedL_ren Fence.wide m :=
  ⟨fun blk off cap ss W hH hblk hsz => callsIn_wide.2 (calls_of_every_depth fun D => AnyS.slices_Sort_int_in Tryz.sortL D blk off cap ss W hH hblk hsz),
   fun p cap W => callsIn_wide.2 (Any.slices_Sort_int_none Tryz.sortL p cap W)⟩
theorem keysB_call (B : Nat) (W : World) : Calls Tryz.prog 88 #[.map (some B)] W fun e w' => e = .returned (.func (.func 99) #[] #[.pointer (some ⟨W.heap.size, 0, none⟩)]) ∧ w' = W.alloc (.cells #[.map (some B)] 138) :=
  callsIn_wide.1 (AnyZI.keys_in Tryz.keysBL Fence.wide 5 trivial rfl (some B) W)
theorem sortedB_call {w : World} {B n : Nat} {l : List ChS} {D : DataW Unit} (ho : w.ownsMap Tryz.prog 3 rB B n D) (h : TouchD l D) (hin : ∀ y ∈ l, 0 ≤ y.lba ∧ y.lba < 256) :
    Calls Tryz.prog 87 #[.func (.func 99) #[] #[.pointer (some ⟨w.heap.size, 0, none⟩)]] (w.alloc (.cells #[.map (some B)] 138)) fun e w' => ∃ A c m, e = .returned (.slice A m c) ∧ m = (rowsT l).length ∧ w'.ownsRow w.heap.size 3 1 (.slice A m c) m (iz (rowsT l)) ∧ Below w.heap.size w w' := by
  have hp := h.perm ho hin
  have hbl := ho.lt
  have hsz : Maps.size D ≤ 86 := by
    have e := hp.length_eq
    have h1 : (izs (rowsT l)).length ≤ 86 := by unfold izs; rw [List.length_map]; exact rowsT_length l
    have h2 : (Go.intKeys D).length = Maps.size D := by
      obtain ⟨es, rfl⟩ := ho.isMap
      simp [Go.intKeys, Maps.size]
    omega
  have hseq : SeqGives Fence.wide 2 Tryz.prog 99 #[.pointer (some ⟨w.heap.size, 0, none⟩)] encZ (fun ss => ss.Perm (Go.intKeys D)) (Maps.size D) (w.alloc (.cells #[.map (some B)] 138)) :=
    AnyZI.keys_gives (ρ := Tryz.keysBL_ren) { Tryz.keysBL with } Fence.wide _ trivial rfl (by omega) w.heap.size B n D _ (by simp) (by simp) (ho.alloc _)
  have hs := callsIn_wide.1 (AnyZI.sorted_in Tryz.sortedL Fence.wide 5 trivial trivial trivial trivial rfl (by omega) (Try.sortsB _) (enters_of Tryz.func98 (by kernel_rfl) rfl) 99 #[.pointer (some ⟨w.heap.size, 0, none⟩)] trivial (enters_of Tryz.func99 (by kernel_rfl) rfl) _ (Maps.size D) (by simp only [maxLen]; omega) (by omega) _ hseq)
  refine hs.mono ?_
  rintro e w' ⟨v, ss, rfl, hpp, hrow, _, hb⟩
  have hp2 : ss.Perm (izs (rowsT l)) := hpp.trans hp.symm
  have hsort : ss.mergeSort (fun x y => decide (x ≤ y)) = izs (rowsT l) := by
    have h1 := Go.mergeSort_of_perm_i hp2
    have h2 : (izs (rowsT l)).mergeSort Go.leI = izs (rowsT l) := List.mergeSort_of_pairwise ((izs_sorted l).imp (fun h => by simp only [Go.leI, decide_eq_true_eq]; omega))
    exact h1.trans h2
  have hlen : ss.length = (rowsT l).length := by rw [hp2.length_eq]; simp [izs]
  rw [hsort, hlen, iz_izs] at hrow
  obtain ⟨m, hm⟩ : ∃ m, (rowsT l).length = m := ⟨_, rfl⟩
  rw [hm] at hrow
  obtain ⟨A, c, rfl, _, _⟩ := ownsRow_slice hrow
  exact ⟨A, c, m, rfl, hm.symm, ownsRow_base hrow (by simp), bl_chain (bl_alloc w _) hb⟩
theorem values_call (A : Option Addr) (n c : Nat) (w : World) : Calls Tryz.prog 86 #[.slice A n c] w fun e w' =>
    e = .returned (.func (.func 96) #[] #[.pointer (some ⟨w.heap.size, 0, none⟩)]) ∧ w' = w.alloc (.cells #[.slice A n c] 39) := by
  go_enter Tryz.func86, Tryz.ntmps86
  go_wp2_with fail
  go_ret
  exact ⟨rfl, rfl⟩
/-- What changed hands back: the iterator's box, its row. -/
structure RowsAt (w0 w : World) (bx : Nat) (ks : List Nat) (A : Option Addr) (c : Nat) : Prop where
  box : Blk w bx 39 #[.slice A ks.length c]
  row : w.ownsRow w0.heap.size 3 1 (.slice A ks.length c) ks.length (iz ks)
  new : w0.heap.size ≤ bx
set_option maxHeartbeats 1600000 in
theorem changed_any (A : Option Addr) (c : Nat) (l : List ChS) (w : World) (hl : ChsAt w A l) (h64 : l.length ≤ 64) (hin : ∀ y ∈ l, 0 ≤ y.lba ∧ y.lba < 256) :
    Calls Tryz.prog 64 #[.slice A l.length c] w fun e w' => ∃ A' c' box, e = .returned (.func (.func 96) #[] #[.pointer (some ⟨box, 0, none⟩)]) ∧ RowsAt w w' box (rowsT l) A' c' ∧ Below w.heap.size w w' := by
  have HL := Lib.hid hl
  have HIN := Lib.hid hin
  clear hl hin
  have hmm := @run_makeMap Tryz.prog
  go_enter Tryz.func64, Tryz.ntmps64
  go_wp2_with fail
  go_loopw [5, 9] (fun _ v W => ∃ k : Nat, k ≤ l.length ∧ v = .int .i64 (k : Int) ∧ (∃ D, W.ownsMap Tryz.prog 3 rB w.heap.size k D ∧ TouchD (l.take k) D) ∧ Below w.heap.size w W) (fun _ v _ => l.length - (intOf v).toNat)
  case atStart => exact ⟨0, by omega, rfl, ⟨.map [], World.ownsMap_made w _ _ _, fun z => by simp [Maps.has]⟩, bl_alloc _ _⟩
  case round =>
    obtain ⟨k, hk, rfl, ⟨D, ho, ht⟩, hb⟩ := hrel
    have HO := Lib.hid ho
    have HT := Lib.hid ht
    have HB := Lib.hid hb
    clear ho ht hb
    by_cases hlt : k < l.length
    · obtain ⟨hy, b, o, rfl, hc⟩ := HL.out k hlt
      have x0 := (HB.out.cell (cell_block_lt (hc 0 _ rfl))).trans (hc 0 _ rfl)
      have x1 := (HB.out.cell (cell_block_lt (hc 1 _ rfl))).trans (hc 1 _ rfl)
      have hyy := HIN.out _ (List.getElem_mem hlt)
      have HS := Lib.hid (List.take_succ_eq_append_getElem hlt)
      clear hc hy
      generalize l[k] = y at x0 x1 hyy HS
      simp only [Nat.add_zero] at x0
      rw [← Nat.add_assoc] at x1
      obtain ⟨p, hp⟩ := Int.eq_ofNat_of_zero_le hyy.1
      have HP := Lib.hid hp
      rw [hp] at x0
      have hp2 : p < 256 := by omega
      have hdv : Int.tdiv (p : Int) 3 = (p : Int) / 3 := Int.tdiv_eq_ediv_of_nonneg (by omega)
      have HK : Hid (keyOf Tryz.prog 3 (.int .i64 ((p : Int) / 3)) = some (lk ((p : Int) / 3))) := Lib.hid (keyOfI (by omega))
      clear hp hyy
      go_wp2_with (at_mapUpdate; go_loud (refine wpList_mapUpdate_own _ rfl _ _ _ 138 rfl 3 4 keyI Tryz.underlying138 _ w.heap.size k _ rfl (by exact HO.out.alloc _) (by unfold maxLen; omega) _ _ (lk ((p : Int) / 3)) rfl rfl HK.out (.lit (.bool true)) [] rfl ?_); intro w1 ho1 hg1; have HO1 := Lib.hid ho1; have HG1 := Lib.hid hg1; clear ho1 hg1)
      go_roundw
      case measure => simp [intOf]; omega
      case rel =>
        refine ⟨k + 1, by omega, by go_num, ⟨_, HO1.out, ?_⟩, ?_⟩
        · rw [HS.out]
          have h := HT.out.put HO.out y (by rw [HP.out]; omega) (.lit (.bool true))
          rw [HP.out] at h
          exact h
        · exact bl_tr (HB.out.trans ((bl_alloc wr _).mono HB.out.size)) (tr_map HG1.out) (fun b hb => by omega)
    · obtain rfl : k = l.length := by omega
      have HTT : Hid (TouchD l D) := Lib.hid (by have := HT.out; rwa [List.take_length] at this)
      go_wp2_with (first
        | (go_at_call 88; (with_reducible refine (keysB_call w.heap.size wr).mono ?_); rintro e w' ⟨rfl, rfl⟩)
        | (go_at_call 87; (with_reducible refine (sortedB_call HO.out HTT.out HIN.out).mono ?_); rintro e w2 ⟨A2, c2, m2, rfl, hm2, ho2, hb2⟩; have HO2 := Lib.hid ho2; have HB2 := Lib.hid hb2; have HM2 := Lib.hid hm2; clear ho2 hb2 hm2)
        | (go_at_call 86; (with_reducible refine (values_call _ _ _ _).mono ?_); rintro e w3 ⟨rfl, rfl⟩))
      go_ret
      have hz := HB.out.size
      have hz2 := HB2.out.size
      have hm := HM2.out
      subst hm
      refine ⟨A2, c2, w2.heap.size, rfl, ⟨Blk.new w2 _ _, ownsRow_base (HO2.out.alloc _) hz, by omega⟩, HB.out.trans ((HB2.out.mono hz).trans ((bl_alloc w2 _).mono (by omega)))⟩

theorem Two.rd {a b : Nat} {A B : World} (h : Two a b A B) {Ad : Option Addr} {xs : List Value} (hA : xs ≠ [] → Ad = some ⟨b, 0, none⟩) (k : Rd A Ad xs) : Rd B Ad xs := fun j u hj => by
  obtain ⟨ad, e, hc⟩ := k j u hj
  refine ⟨ad, e, ?_⟩
  have hx : xs ≠ [] := by rintro rfl; simp at hj
  rw [hA hx] at e
  injection e with e
  subst e
  exact (World.cell?_of_block (a := (⟨b, 0, none⟩ : Addr).add j) (by rw [block_of_add]; exact h.2)).trans hc
attribute [local go_sem] Oper.semAt_some
set_option maxHeartbeats 2000000 in
theorem values_in (n lp Bs b len c : Nat) (A : Option Addr) (ks : List Nat) (hlen : ks.length = len) (hA : iz ks ≠ [] → A = some ⟨b, 0, none⟩) (hc : len ≤ c) (hl : len ≤ 140737488355328) (J Jx : List Nat → World → Prop) (hab : ∀ pre W, J pre W → J pre W.drew)
    (hY : ∀ pre x W, J pre W → pre.length < len → YieldAt Fence.wide (n - 1) Tryz.prog lp #[.int .i64 ((ks[idx len x]?.getD 0 : Nat) : Int)] W fun e W' =>
      (e = .returned (.bool true) ∧ J (pre ++ [x]) W' ∧ Two Bs b W W') ∨ (e = .returned (.bool false) ∧ Jx (pre ++ [x]) W'))
    (W : World) (hs : Blk W Bs 39 #[.slice A len c]) (hn : Rd W A (iz ks)) (h0 : J [] W) :
    CallsIn Fence.wide n Tryz.prog 96 #[.func (.yield lp) #[] #[], .pointer (some ⟨Bs, 0, none⟩)] W fun e W' => (∃ v, e = .returned v) ∧
      ((∃ ys, ys = List.range len ∧ J ys W') ∨ (∃ pre, True ∧ Jx pre W')) := by
  refine callsIn_of_wp Tryz.func96 rfl trivial ?_ rfl
  simp only [Tryz.ntmps96, List.size_toArray, List.length_cons, List.length_nil, Nat.reduceAdd, Nat.reduceSub, Array.replicate_succ, Array.replicate_zero, List.push_toArray, List.append_toArray, List.nil_append, List.cons_append]
  have cs := hs.cell 0
  simp at cs
  have HS := Lib.hid hs
  have HN := Lib.hid hn
  have HLN := Lib.hid hlen
  clear hs hn
  gi_wp2
  clear cs
  gi_loopw [4, 7] (fun _ i wr => ∃ k : Nat, k ≤ len ∧ i = .int .i64 (k : Int) ∧ J (List.range k) wr ∧ Rd wr A (iz ks))
    (fun _ i _ => len - (intOf i).toNat)
  case atStart => exact ⟨0, by omega, rfl, h0, HN.out⟩
  case round =>
    obtain ⟨k, hk, rfl, hJ, h1⟩ := hrel
    have H1 := Lib.hid h1
    clear h1
    by_cases hlt : k < len
    · obtain ⟨fn, tmps, assign, body, hy, hR⟩ := hY (List.range k) k wr hJ (by simpa using hlt)
      rw [idx_of hlt] at hy
      have hkl : k < (iz ks).length := by unfold iz; rw [List.length_map, HLN.out]; exact hlt
      obtain ⟨ad, e, hc1⟩ := H1.out k _ (List.getElem?_eq_getElem hkl)
      have hAe := hA (by intro e2; rw [e2] at hkl; simp at hkl)
      rw [hAe] at e
      injection e with e
      subst e
      rw [add_lit, Nat.zero_add] at hc1
      have hval : (iz ks)[k]'hkl = .int .i64 ((ks[k]?.getD 0 : Nat) : Int) := by
        have hk2 : k < ks.length := by rw [HLN.out]; exact hlt
        simp [iz, List.getElem?_eq_getElem hk2]
      rw [hval] at hc1
      clear hval
      obtain ⟨q, hq⟩ : ∃ q, ks[k]?.getD 0 = q := ⟨_, rfl⟩
      rw [hq] at hc1 hy
      clear hq
      subst hAe
      gi_wp2
      refine ⟨fun h => (by cases h), ?_⟩
      refine hR.mono ?_
      rintro e W3 (⟨rfl, hJ3, hk3⟩ | ⟨rfl, hJx3⟩)
      · have G1 := Lib.hid (hk3.rd (fun _ => rfl) H1.out)
        have HJ3 := Lib.hid hJ3
        clear hJ3 hk3
        gi_wp2
        exact ⟨⟨k + 1, by omega, by go_num, by rw [List.range_succ]; exact HJ3.out, G1.out⟩, by simp [intOf]; omega⟩
      · gi_wp2
        refine bodyPost_ret (results_none rfl _ _ _) rfl ?_
        exact ⟨⟨_, rfl⟩, .inr ⟨_, trivial, hJx3⟩⟩
    · obtain rfl : k = len := by omega
      gi_wp2
      go_end0
      exact ⟨⟨_, rfl⟩, .inl ⟨_, rfl, hJ⟩⟩
theorem values_stops (Bs b len c : Nat) (A : Option Addr) (ks : List Nat) (hlen : ks.length = len) (hA : iz ks ≠ [] → A = some ⟨b, 0, none⟩) (hc : len ≤ c) (hl : len ≤ 140737488355328) (w : World) (hs : Blk w Bs 39 #[.slice A len c]) (hn : Rd w A (iz ks)) :
    SeqStopsK Fence.wide 9 Tryz.prog 96 #[.pointer (some ⟨Bs, 0, none⟩)] (fun x => #[.int .i64 ((ks[idx len x]?.getD 0 : Nat) : Int)]) (Two Bs b) (fun ys => ys = List.range len) (fun _ => True) len w := fun l J Jx W hW hab _ hY h0 =>
  values_in 9 l Bs b len c A ks hlen hA hc hl J Jx (fun pre W1 h => hab pre W1 W1.drew none h ⟨rfl, rfl, rfl, Nat.le_refl _, fun _ _ _ => rfl⟩ (fun r e => by cases e)) hY W (hs.keep hW) (hn.below hW) h0
end Go.Proofs.YthlijldapoeepaaGreat

/- The disk's blocks, tight: all of them are cells; what abides the turn of other blocks. Writing rows: what it computes. -/

namespace Go.Proofs.YthlijldapoeepaaGreat
set_option linter.unusedVariables false
set_option linter.unusedSimpArgs false
set_option maxRecDepth 100000
open Go.RowKit

def CellB (w : World) (b : Nat) : Prop := ∃ o : Obj, w.heap[b]? = some o ∧ o.isCells = true
theorem CellB.blk {w : World} {g : Nat} {t : TypeId} {cs : Array Value} (h : Blk w g t cs) : CellB w g := ⟨_, h, rfl⟩
theorem CellB.rd {w : World} {b : Nat} {o : Nat} {xs : List Value} (h : Rd w (some ⟨b, o, none⟩) xs) (hx : xs ≠ []) : CellB w b := by
  obtain ⟨ad, e, hb, hc⟩ := h.at_ (k := 0) (by cases xs with | nil => exact absurd rfl hx | cons _ _ => simp)
  injection e with e
  subst e
  rw [add_lit] at hc
  unfold World.cell? at hc
  simp only at hc
  split at hc
  · rename_i o h1 h2
    exact ⟨_, h2, rfl⟩
  · cases hc
theorem CellB.own {w : World} {base : Nat} {e : TypeId} {size n m c : Nat} {A : Option Addr} {xs : List Value} (h : w.ownsRow base e size (.slice A n c) m xs) {b : Nat} (hb : Blo A b) : CellB w b := by
  rcases h.2 with ⟨h1, h2⟩ | ⟨g, cap, cur, h1, _, hg, _⟩
  · injection h1 with h1
    subst h1
    exact (Blo.none b hb).elim
  · injection h1 with h1
    subst h1
    have e := (Blo.some_iff _ _).1 hb
    simp at e
    subst e
    exact ⟨_, hg, rfl⟩
theorem CellB.turn {w w' : World} {b : Nat} (h : CellB w b) (ht : Turn w w') : CellB w' b := by
  obtain ⟨o, ho, hc⟩ := h
  refine ⟨o, (ht.block b (Array.getElem?_eq_some_iff.1 ho).1 ?_).trans ho, hc⟩
  rintro ⟨o', ho', hc'⟩
  rw [ho] at ho'
  injection ho' with e
  subst e
  rw [hc] at hc'
  cases hc'
theorem GAt.tight {w : World} {R : Nat → Prop} : ∀ {gs : List (Nat × List Int)} {vs : List Value}, Dk.GAt w R gs vs → (∀ x ∈ gs, x.2 ≠ []) → Dk.GAt w (fun b => R b ∧ CellB w b) gs vs
  | [], _, h, _ => h
  | g :: gs, _, ⟨b, r, e, hr, hb, h⟩, hn => ⟨b, r, e, hr, ⟨hb, CellB.rd hr (by8_ne (hn g List.mem_cons_self))⟩, GAt.tight h (fun x hx => hn x (List.mem_cons_of_mem _ hx))⟩

/-- A disk, all its blocks cells. -/
structure TDisk (w : World) (d : Nat) (D : Dk.DS) (M R : Nat → Prop) : Prop where
  dsk : Dk.IsDisk w d D M R
  cm : ∀ b, M b → CellB w b
  cr : ∀ b, R b → CellB w b
theorem IsDisk.tight {w : World} {d : Nat} {D : Dk.DS} {M R : Nat → Prop} (h : Dk.IsDisk w d D M R) : ∃ M0 R0, TDisk w d D M0 R0 ∧ (∀ b, M0 b → M b) ∧ ∀ b, R0 b → R b := by
  obtain ⟨bs, cs, bn, cn, Al, cl, cells, h⟩ := h
  refine ⟨fun b => M b ∧ CellB w b, fun b => R b ∧ CellB w b, ⟨⟨bs, cs, bn, cn, Al, cl, cells, ?_⟩, fun b h => h.2, fun b h => h.2⟩, fun b h => h.1, fun b h => h.1⟩
  exact ⟨h.ok, h.blk, h.safe, h.now, h.row, GAt.tight h.gat (fun x hx => by
      obtain ⟨_, k, h1, h2, _⟩ := h.ok.gs x hx
      intro e
      rw [e] at h2
      simp at h2
      omega), h.ne, ⟨h.mg, CellB.blk h.blk⟩, ⟨h.ms, CellB.own h.safe rfl⟩, ⟨h.mn, CellB.own h.now rfl⟩, fun b hb => ⟨h.ml b hb, CellB.own h.row hb⟩, fun b hb hm => h.rm b hb.1 hm.1, h.few, fun b hb => h.mlt b hb.1, fun b hb => h.rlt b hb.1⟩
theorem CellB.no {w : World} {b : Nat} (h : CellB w b) {o : Obj} (ho : w.heap[b]? = some o) (hc : o.isCells = false) : False := by
  obtain ⟨o', ho', hc'⟩ := h
  rw [ho] at ho'
  injection ho' with e
  subst e
  rw [hc] at hc'
  cases hc'
theorem TDisk.turn {w w' : World} {d : Nat} {D : Dk.DS} {M R : Nat → Prop} (h : TDisk w d D M R) (ht : Turn w w') : TDisk w' d D M R :=
  ⟨h.dsk.tr ht (fun b hb ⟨o, ho, hc⟩ => (h.cm b hb).no ho hc) (fun b hb ⟨o, ho, hc⟩ => (h.cr b hb).no ho hc), fun b hb => (h.cm b hb).turn ht, fun b hb => (h.cr b hb).turn ht⟩
theorem TDisk.keeps {w w' : World} {d : Nat} {D : Dk.DS} {M R : Nat → Prop} (h : TDisk w d D M R) (ht : Tr M w w') : KeepsOthers w w' :=
  keeps_tr ht (fun b hb o ho => by
    cases hc : o.isCells with
    | true => rfl
    | false => exact ((h.cm b hb).no ho hc).elim)

/-! ### writing -/
theorem writeD_n (D : Dk.DS) (a : Int) (l : List Int) : (Dk.writeD D a l).n = D.n := by unfold Dk.writeD; split; rfl; split <;> rfl
theorem writeD_dead (D : Dk.DS) (a : Int) (l : List Int) : (Dk.writeD D a l).dead = D.dead := by unfold Dk.writeD; split; rfl; split <;> rfl
theorem writeD_failing (D : Dk.DS) (a : Int) (l : List Int) : (Dk.writeD D a l).failing = D.failing := by unfold Dk.writeD; split; rfl; split <;> rfl
theorem writeD_safe (D : Dk.DS) (a : Int) (l : List Int) : (Dk.writeD D a l).safe = D.safe := by unfold Dk.writeD; split; rfl; split <;> rfl
theorem writeD_few (D : Dk.DS) (a : Int) (l : List Int) : (Dk.writeD D a l).gs.length ≤ D.gs.length + 1 := by
  unfold Dk.writeD; split; omega; split; omega; simp [Dk.DS.put]
/-- Where a row lies. -/
def rowAt (F n a k : Nat) : Nat := F + 19 + a * rowsN n + k
/-- Rows written, one behind the other. -/
def rowsD (D : Dk.DS) (F a : Nat) (L : List (List Int)) (ks : List Nat) : Dk.DS := ks.foldl (fun D k => Dk.writeD D (rowAt F L.length a k : Nat) (rowL L k)) D
theorem rowsD_snoc (D : Dk.DS) (F a : Nat) (L : List (List Int)) (ks : List Nat) (k : Nat) : rowsD D F a L (ks ++ [k]) = Dk.writeD (rowsD D F a L ks) (rowAt F L.length a k : Nat) (rowL L k) := by unfold rowsD; rw [List.foldl_append]; rfl
theorem snocInd {α : Type} {P : List α → Prop} (h0 : P []) (hs : ∀ l x, P l → P (l ++ [x])) (l : List α) : P l := by
  rw [← l.reverse_reverse]
  induction l.reverse with
  | nil => exact h0
  | cons x l ih => rw [List.reverse_cons]; exact hs _ _ ih
theorem rowsD_keeps (D : Dk.DS) (F a : Nat) (L : List (List Int)) (ks : List Nat) : (rowsD D F a L ks).n = D.n ∧ (rowsD D F a L ks).dead = D.dead ∧ (rowsD D F a L ks).failing = D.failing ∧ (rowsD D F a L ks).safe = D.safe ∧ (rowsD D F a L ks).gs.length ≤ D.gs.length + ks.length := by
  induction ks using snocInd with
  | h0 => exact ⟨rfl, rfl, rfl, rfl, Nat.le_refl _⟩
  | hs ks k ih =>
    rw [rowsD_snoc]
    obtain ⟨h1, h2, h3, h4, h5⟩ := ih
    refine ⟨(writeD_n _ _ _).trans h1, (writeD_dead _ _ _).trans h2, (writeD_failing _ _ _).trans h3, (writeD_safe _ _ _).trans h4, ?_⟩
    have := writeD_few (rowsD D F a L ks) (rowAt F L.length a k : Nat) (rowL L k)
    rw [List.length_append, List.length_singleton]
    omega
theorem rowL_length {L : List (List Int)} (h : ImgOk L) (k : Nat) : (rowL L k).length = 195 := rowTo_length h k 3
theorem rowL_isB {L : List (List Int)} (h : ImgOk L) (k : Nat) : isB (rowL L k) := rowTo_isB h k 3
theorem writeE_row {D : Dk.DS} {L : List (List Int)} (h : ImgOk L) (hd : D.dead = false) {F a k : Nat} (ha : a ≤ 1) (hk : k < rowsN L.length) (hn : F + 19 + 2 * rowsN L.length ≤ D.n) : Dk.writeE D (rowAt F L.length a k : Nat) (rowL L k) = 0 := by
  unfold Dk.writeE
  rw [hd, if_neg (by simp), if_neg]
  unfold Dk.wrongD
  rw [decide_eq_true_iff]
  have hs : Dk.secs (rowL L k) = 1 := by unfold Dk.secs; rw [rowL_length h]
  rw [hs]
  unfold rowAt
  have : a * rowsN L.length ≤ rowsN L.length := by
    rcases (by omega : a = 0 ∨ a = 1) with rfl | rfl <;> omega
  omega
end Go.Proofs.YthlijldapoeepaaGreat
