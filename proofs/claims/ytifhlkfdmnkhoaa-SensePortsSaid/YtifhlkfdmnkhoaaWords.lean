/- Contracts: End of a writer; sense.words; the reference's Put and at. -/
import Derived.Test.YtifhlkfdmnkhoaaField
namespace Go.Proofs.Ytifhlkfdmnkhoaa
set_option linter.unusedVariables false
open Go.RowKit

set_option maxHeartbeats 400000 in
theorem end_any (B g : Nat) (l : List Int) (w : World) (hw : IsWriter w B g l 0) (hl : l.length ≤ 140737488351232) :
    Calls Try.prog 42 #[.pointer (some ⟨g, 0, none⟩)] w fun e w' => ∃ A' c', e = .returned (.tuple #[.slice A' l.length c', .int .i64 0]) ∧ l.length ≤ c' ∧
      w'.ownsRow w.heap.size 5 1 (.slice A' l.length c') l.length (by8 l) ∧ Below w.heap.size w w' := by
  obtain ⟨A, c, hb, ho, hg, hc⟩ := hw
  have c0 := hb.cell 0
  have c1 := hb.cell 1
  simp at c0 c1
  have HO := Lib.hid ho
  clear ho
  go_enter Try.func42, Try.ntmps42
  go_wp2_with (first | (go_at_call 31; refine (clone_any A c l _ (Rd.of_own HO.out) hl).mono ?_; rintro e w1 ⟨A', c', rfl, hc', ho', hb'⟩; have HO' := Lib.hid ho'; have HB' := Lib.hid hb'; clear ho' hb'))
  go_ret2
  exact ⟨A', c', rfl, hc', HO'.out, HB'.out⟩

def wds (ns : List Int) : List Int := ns.flatMap (be 4)
theorem wds_length (ns : List Int) : (wds ns).length = 4 * ns.length := by
  induction ns with
  | nil => rfl
  | cons n ns ih => simp [wds, be_length] at ih ⊢; omega
theorem wds_isB (ns : List Int) : isB (wds ns) := by
  intro x hx
  simp only [wds, List.mem_flatMap] at hx
  obtain ⟨n, _, hx⟩ := hx
  exact be_isB 4 n x hx
theorem wds_snoc (ns : List Int) (k : Nat) (h : k < ns.length) : wds (ns.take (k + 1)) = wds (ns.take k) ++ be 4 ns[k] := by
  simp only [wds]
  rw [List.take_succ_eq_append_getElem h, List.flatMap_append]
  simp

def i64s (l : List Int) : List Value := l.map (Value.int .i64)

set_option maxHeartbeats 400000 in
theorem words_any (A : Option Addr) (c : Nat) (ns : List Int) (w : World) (hr : Rd w A (i64s ns)) (hn : ns.length ≤ 1000) (h01 : ∀ n ∈ ns, 0 ≤ n ∧ n < 4294967296) :
    Calls Try.prog 32 #[.slice A ns.length c] w fun e w' => ∃ A' c', e = .returned (.slice A' (4 * ns.length) c') ∧ 4 * ns.length ≤ c' ∧
      w'.ownsRow w.heap.size 5 1 (.slice A' (4 * ns.length) c') (4 * ns.length) (by8 (wds ns)) ∧ Below w.heap.size w w' := by
  have HR := Lib.hid hr
  have H01 := Lib.hid h01
  clear hr h01
  go_enter Try.func32, Try.ntmps32
  go_wp2_with (first | (go_at_call 40; refine (newWriter_any _).mono ?_; rintro e w1 ⟨rfl, hw1, hb1⟩; have HW1 := Lib.hid hw1; have HB1 := Lib.hid hb1; clear hw1 hb1))
  go_loopw [5, 11] (fun _ v w2 => ∃ (k : Nat), k ≤ ns.length ∧ v = .int .i64 k ∧ IsWriter w2 w.heap.size w.heap.size (wds (ns.take k)) 0 ∧ Below w.heap.size w w2) (fun _ v _ => ns.length - (intOf v).toNat)
  case atStart => exact ⟨0, by omega, rfl, HW1.out, HB1.out⟩
  case round =>
    obtain ⟨k, hk, rfl, hw, hb⟩ := hrel
    have HW := Lib.hid hw
    have HB := Lib.hid hb
    clear hw hb
    have hz := HB.out.size
    have hlen : (wds (ns.take k)).length ≤ 4000 := by rw [wds_length, List.length_take]; omega
    by_cases hlt : k < ns.length
    · obtain ⟨ad, rfl, hblk, hcell⟩ := (HR.out.below HB.out).at_ (k := k) (by simp [i64s]; exact hlt)
      simp only [i64s, List.getElem_map] at hcell
      have hb0 := H01.out ns[k] (List.getElem_mem hlt)
      go_wp2_with (first | (go_at_call 41; refine (num4 w.heap.size w.heap.size (wds (ns.take k)) ns[k] _ hz HW.out (by omega) (by omega) (by omega)).mono ?_; rintro e w3 ⟨rfl, hw3, hb3⟩; have HW3 := Lib.hid hw3; have HB3 := Lib.hid hb3; clear hw3 hb3))
      go_roundw
      case rel => exact ⟨k + 1, by omega, by go_num, by rw [wds_snoc ns k hlt]; exact HW3.out, HB.out.trans HB3.out⟩
      case measure => simp [intOf]; omega
    · have hk' : k = ns.length := by omega
      subst hk'
      rw [List.take_length] at HW hlen
      go_wp2_with (first | (go_at_call 42; refine (end_any w.heap.size w.heap.size (wds ns) _ HW.out (by omega)).mono ?_; rintro e w3 ⟨A', c', rfl, hc', ho', hb'⟩; have HC' := Lib.hid hc'; have HO' := Lib.hid ho'; have HB' := Lib.hid hb'; clear ho' hb' hc'))
      go_ret
      have e := wds_length ns
      refine ⟨A', c', by rw [e]; rfl, by have := HC'.out; omega, ?_, HB.out.trans (HB'.out.mono hz)⟩
      rw [← e]
      exact ownsRow_base HO'.out hz
theorem be_get (s k : Nat) (n : Int) (h : k < s) : (be s n)[k]? = some (n / 2 ^ (8 * (s - 1 - k)) % 256) := by
  induction s generalizing n with
  | zero => omega
  | succ s ih =>
    simp only [be]
    by_cases hk : k < s
    · rw [List.getElem?_append_left (by rw [be_length]; exact hk), ih _ hk]
      congr 2
      rw [show (8 * (s + 1 - 1 - k) : Nat) = 8 + 8 * (s - 1 - k) from by omega, Int.pow_add, Int.ediv_ediv_of_nonneg (by decide)]
      rfl
    · have : k = s := by omega
      subst this
      rw [List.getElem?_append_right (by rw [be_length]; omega), be_length]
      simp
theorem be_take_succ (s k : Nat) (n : Int) (h : k < s) : (be s n).take (k + 1) = (be s n).take k ++ [n / 2 ^ (8 * (s - 1 - k)) % 256] := by
  have hg := be_get s k n h
  have hl : k < (be s n).length := by rw [be_length]; exact h
  rw [List.take_succ_eq_append_getElem hl]
  rw [List.getElem?_eq_getElem hl] at hg
  injection hg with hg
  rw [hg]

set_option maxHeartbeats 400000 in
theorem fits02_4 (n : Int) (w : World) (h0 : 0 ≤ n) (h1 : n < 4294967296) :
    Calls Try.prog 47 #[.int .u64 n, .int .i64 4] w fun e w' => e = .returned (.bool true) ∧ w = w' := by
  go_enter Try.func47, Try.ntmps47
  go_wp2_with fail
  go_ret
  exact ⟨by first | rfl | (simp; done) | (simp; exact h1), rfl⟩

/-- A list with some bytes put over it. -/
theorem put_step4 (l : List Int) (at_ k : Nat) (n x : Int) (hk : k < 4) (ha : at_ + 4 ≤ l.length) (hx : x = n / 2 ^ (8 * (4 - 1 - k)) % 256) :
    (by8 (l.take at_ ++ (be 4 n).take k ++ l.drop (at_ + k))).set (at_ + k) (.int .u8 x) = by8 (l.take at_ ++ (be 4 n).take (k + 1) ++ l.drop (at_ + (k + 1))) := by
  subst hx
  obtain ⟨y, hd⟩ : ∃ y, l.drop (at_ + k) = y :: l.drop (at_ + (k + 1)) := ⟨_, List.drop_eq_getElem_cons (by omega)⟩
  rw [hd, be_take_succ _ _ _ hk]
  have hp : (by8 (l.take at_ ++ (be 4 n).take k)).length = at_ + k := by simp [by8, be_length]; omega
  have e : ∀ (p q : List Int) (x : Int), by8 (p ++ x :: q) = by8 p ++ .int .u8 x :: by8 q := fun p q x => by simp [by8]
  rw [e, ← hp, List.set_append_right _ _ (Nat.le_refl _), Nat.sub_self, List.set_cons_zero, ← e]
  congr 1
  rw [List.append_assoc, List.append_assoc, List.append_assoc]
  simp

set_option maxHeartbeats 400000 in
theorem put02_4 (A : Option Addr) (c at_ : Nat) (l : List Int) (n : Int) (w : World) (hr : Rd w A (by8 l)) (hl : l.length ≤ 140737488351232) (hat : at_ + 4 ≤ l.length) (h0 : 0 ≤ n) (h1 : n < 4294967296) :
    Calls Try.prog 43 #[.slice A l.length c, .int .i64 at_, .int .i64 4, .int .u64 n] w fun e w' => ∃ A' c', e = .returned (.tuple #[.slice A' l.length c', .int .i64 0]) ∧ l.length ≤ c' ∧
      w'.ownsRow w.heap.size 5 1 (.slice A' l.length c') l.length (by8 (l.take at_ ++ be 4 n ++ l.drop (at_ + 4))) ∧ Below w.heap.size w w' := by
  have HR := Lib.hid hr
  clear hr
  go_enter Try.func43, Try.ntmps43
  go_wp2_with (first
    | (go_at_call 47; refine (fits02_4 n _ (by omega) (by omega)).mono ?_; rintro e w1 ⟨rfl, rfl⟩)
    | (at_builtin; refine wpL_append E8 rfl rfl (ownsRow_emp w w.heap.size _ _) rfl HR.out rfl (by simp [by8]) (by8_one l) l.length (by8 l) (by simp) (by simp) (by simp only [maxLen]; omega) (by omega) (Nat.le_refl _) ?_; intro A1 c1 w1 hc1 ho1 ht1 _; have HO1 := Lib.hid ho1; have HT1 := Lib.hid ht1; clear ho1 ht1))
  (obtain ⟨g, rfl⟩ := ownsRow_addr HO1.out (by omega))
  go_loopw [11] (fun v w2 => ∃ (k : Nat), k ≤ 4 ∧ v = .int .i64 k ∧ w2.ownsRow w.heap.size 5 1 (.slice (some ⟨g, 0, none⟩) l.length c1) l.length (by8 (l.take at_ ++ (be 4 n).take k ++ l.drop (at_ + k))) ∧ Below w.heap.size w w2) (fun v _ => 4 - (intOf v).toNat)
  case atStart => exact ⟨0, by omega, rfl, by simpa using HO1.out, (HT1.out.mono (fun b _ h => (Blo.none b h).elim)).below (fun _ _ => id)⟩
  case round =>
    obtain ⟨k, hk, rfl, ho, hb⟩ := hrel
    have HO := Lib.hid ho
    have HB := Lib.hid hb
    clear ho hb
    by_cases hlt : k < 4
    · have hc : ∃ u, wr.cell? ⟨g, at_ + k, none⟩ = some u := by
        rw [HO.out.cellAt (at_ + k) (by omega)]
        exact ⟨_, List.getElem?_eq_getElem (by have := HO.out.1; omega)⟩
      obtain ⟨u, hc⟩ := hc
      have hf := HO.out.frozenAt (at_ + k)
      go_wp2_with fail
      go_roundw
      case rel =>
        obtain ⟨s1, s2⟩ := own_stored HO.out (at_ + k) (.int .u8 (n / 2 ^ (8 * (4 - 1 - k)) % 256))
        refine ⟨k + 1, by omega, by go_num, ?_, HB.out.setCell (own_ge HO.out g rfl) _⟩
        rw [put_step4 l at_ k n _ hlt hat rfl] at s1
        exact s1
      case measure => simp [intOf]; omega
    · have hk' : k = 4 := by omega
      subst hk'
      go_wp2_with fail
      go_ret2
      refine ⟨_, c1, rfl, hc1, ?_, HB.out⟩
      have := HO.out
      rwa [List.take_of_length_le (l := be 4 n) (by rw [be_length]; exact Nat.le_refl _)] at this
set_option maxHeartbeats 400000 in
theorem fits02_8 (n : Int) (w : World) (h0 : 0 ≤ n) (h1 : n < 18446744073709551616) :
    Calls Try.prog 47 #[.int .u64 n, .int .i64 8] w fun e w' => e = .returned (.bool true) ∧ w = w' := by
  go_enter Try.func47, Try.ntmps47
  go_wp2_with fail
  go_ret
  exact ⟨by first | rfl | (simp; done) | (simp; exact h1), rfl⟩

/-- A list with some bytes put over it. -/
theorem put_step8 (l : List Int) (at_ k : Nat) (n x : Int) (hk : k < 8) (ha : at_ + 8 ≤ l.length) (hx : x = n / 2 ^ (8 * (8 - 1 - k)) % 256) :
    (by8 (l.take at_ ++ (be 8 n).take k ++ l.drop (at_ + k))).set (at_ + k) (.int .u8 x) = by8 (l.take at_ ++ (be 8 n).take (k + 1) ++ l.drop (at_ + (k + 1))) := by
  subst hx
  obtain ⟨y, hd⟩ : ∃ y, l.drop (at_ + k) = y :: l.drop (at_ + (k + 1)) := ⟨_, List.drop_eq_getElem_cons (by omega)⟩
  rw [hd, be_take_succ _ _ _ hk]
  have hp : (by8 (l.take at_ ++ (be 8 n).take k)).length = at_ + k := by simp [by8, be_length]; omega
  have e : ∀ (p q : List Int) (x : Int), by8 (p ++ x :: q) = by8 p ++ .int .u8 x :: by8 q := fun p q x => by simp [by8]
  rw [e, ← hp, List.set_append_right _ _ (Nat.le_refl _), Nat.sub_self, List.set_cons_zero, ← e]
  congr 1
  rw [List.append_assoc, List.append_assoc, List.append_assoc]
  simp

set_option maxHeartbeats 400000 in
theorem put02_8 (A : Option Addr) (c at_ : Nat) (l : List Int) (n : Int) (w : World) (hr : Rd w A (by8 l)) (hl : l.length ≤ 140737488351232) (hat : at_ + 8 ≤ l.length) (h0 : 0 ≤ n) (h1 : n < 18446744073709551616) :
    Calls Try.prog 43 #[.slice A l.length c, .int .i64 at_, .int .i64 8, .int .u64 n] w fun e w' => ∃ A' c', e = .returned (.tuple #[.slice A' l.length c', .int .i64 0]) ∧ l.length ≤ c' ∧
      w'.ownsRow w.heap.size 5 1 (.slice A' l.length c') l.length (by8 (l.take at_ ++ be 8 n ++ l.drop (at_ + 8))) ∧ Below w.heap.size w w' := by
  have HR := Lib.hid hr
  clear hr
  go_enter Try.func43, Try.ntmps43
  go_wp2_with (first
    | (go_at_call 47; refine (fits02_8 n _ (by omega) (by omega)).mono ?_; rintro e w1 ⟨rfl, rfl⟩)
    | (at_builtin; refine wpL_append E8 rfl rfl (ownsRow_emp w w.heap.size _ _) rfl HR.out rfl (by simp [by8]) (by8_one l) l.length (by8 l) (by simp) (by simp) (by simp only [maxLen]; omega) (by omega) (Nat.le_refl _) ?_; intro A1 c1 w1 hc1 ho1 ht1 _; have HO1 := Lib.hid ho1; have HT1 := Lib.hid ht1; clear ho1 ht1))
  (obtain ⟨g, rfl⟩ := ownsRow_addr HO1.out (by omega))
  go_loopw [11] (fun v w2 => ∃ (k : Nat), k ≤ 8 ∧ v = .int .i64 k ∧ w2.ownsRow w.heap.size 5 1 (.slice (some ⟨g, 0, none⟩) l.length c1) l.length (by8 (l.take at_ ++ (be 8 n).take k ++ l.drop (at_ + k))) ∧ Below w.heap.size w w2) (fun v _ => 8 - (intOf v).toNat)
  case atStart => exact ⟨0, by omega, rfl, by simpa using HO1.out, (HT1.out.mono (fun b _ h => (Blo.none b h).elim)).below (fun _ _ => id)⟩
  case round =>
    obtain ⟨k, hk, rfl, ho, hb⟩ := hrel
    have HO := Lib.hid ho
    have HB := Lib.hid hb
    clear ho hb
    by_cases hlt : k < 8
    · have hc : ∃ u, wr.cell? ⟨g, at_ + k, none⟩ = some u := by
        rw [HO.out.cellAt (at_ + k) (by omega)]
        exact ⟨_, List.getElem?_eq_getElem (by have := HO.out.1; omega)⟩
      obtain ⟨u, hc⟩ := hc
      have hf := HO.out.frozenAt (at_ + k)
      go_wp2_with fail
      go_roundw
      case rel =>
        obtain ⟨s1, s2⟩ := own_stored HO.out (at_ + k) (.int .u8 (n / 2 ^ (8 * (8 - 1 - k)) % 256))
        refine ⟨k + 1, by omega, by go_num, ?_, HB.out.setCell (own_ge HO.out g rfl) _⟩
        rw [put_step8 l at_ k n _ hlt hat rfl] at s1
        exact s1
      case measure => simp [intOf]; omega
    · have hk' : k = 8 := by omega
      subst hk'
      go_wp2_with fail
      go_ret2
      refine ⟨_, c1, rfl, hc1, ?_, HB.out⟩
      have := HO.out
      rwa [List.take_of_length_le (l := be 8 n) (by rw [be_length]; exact Nat.le_refl _)] at this

end Go.Proofs.Ytifhlkfdmnkhoaa
