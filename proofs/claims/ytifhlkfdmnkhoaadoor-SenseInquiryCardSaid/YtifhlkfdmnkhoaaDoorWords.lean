/- Contracts: End of a writer; sense.words; the reference's Put and at. -/
import Derived.Test.YtifhlkfdmnkhoaaDoorField
namespace Go.Proofs.YtifhlkfdmnkhoaaDoor
set_option linter.unusedVariables false
open Go.RowKit

set_option maxHeartbeats 400000 in
theorem end_any (B g : Nat) (l : List Int) (w : World) (hw : IsWriter w B g l 0) (hl : l.length ≤ 140737488351232) :
    Calls Tryd.prog 16 #[.pointer (some ⟨g, 0, none⟩)] w fun e w' => ∃ A' c', e = .returned (.tuple #[.slice A' l.length c', .int .i64 0]) ∧ l.length ≤ c' ∧
      w'.ownsRow w.heap.size 5 1 (.slice A' l.length c') l.length (by8 l) ∧ Below w.heap.size w w' := by
  obtain ⟨A, c, hb, ho, hg, hc⟩ := hw
  have c0 := hb.cell 0
  have c1 := hb.cell 1
  simp at c0 c1
  have HO := Lib.hid ho
  clear ho
  go_enter Tryd.func16, Tryd.ntmps16
  go_wp2_with (first | (go_at_call 18; refine (clone_any A c l _ (Rd.of_own HO.out) hl).mono ?_; rintro e w1 ⟨A', c', rfl, hc', ho', hb'⟩; have HO' := Lib.hid ho'; have HB' := Lib.hid hb'; clear ho' hb'))
  go_ret2
  exact ⟨A', c', rfl, hc', HO'.out, HB'.out⟩

def wds (ns : List Int) : List Int := ns.flatMap (be 4)
theorem wds_length (ns : List Int) : (wds ns).length = 4 * ns.length := by
  induction ns with
  | nil => rfl
  | cons n ns ih => simp [wds, be_length] at ih ⊢; omega
theorem wds_isB (ns : List Int) : isB (wds ns) := by
  intro x hx
  simp only [wds, List.mem_flatMap] at hx
  obtain ⟨n, _, hx⟩ := hx
  exact be_isB 4 n x hx
theorem wds_snoc (ns : List Int) (k : Nat) (h : k < ns.length) : wds (ns.take (k + 1)) = wds (ns.take k) ++ be 4 ns[k] := by
  simp only [wds]
  rw [List.take_succ_eq_append_getElem h, List.flatMap_append]
  simp

def i64s (l : List Int) : List Value := l.map (Value.int .i64)

set_option maxHeartbeats 400000 in
theorem words_any (A : Option Addr) (c : Nat) (ns : List Int) (w : World) (hr : Rd w A (i64s ns)) (hn : ns.length ≤ 1000) (h01 : ∀ n ∈ ns, 0 ≤ n ∧ n < 4294967296) :
    Calls Tryd.prog 13 #[.slice A ns.length c] w fun e w' => ∃ A' c', e = .returned (.slice A' (4 * ns.length) c') ∧ 4 * ns.length ≤ c' ∧
      w'.ownsRow w.heap.size 5 1 (.slice A' (4 * ns.length) c') (4 * ns.length) (by8 (wds ns)) ∧ Below w.heap.size w w' := by
  have HR := Lib.hid hr
  have H01 := Lib.hid h01
  clear hr h01
  go_enter Tryd.func13, Tryd.ntmps13
  go_wp2_with (first | (go_at_call 14; refine (newWriter_any _).mono ?_; rintro e w1 ⟨rfl, hw1, hb1⟩; have HW1 := Lib.hid hw1; have HB1 := Lib.hid hb1; clear hw1 hb1))
  go_loopw [5, 11] (fun _ v w2 => ∃ (k : Nat), k ≤ ns.length ∧ v = .int .i64 k ∧ IsWriter w2 w.heap.size w.heap.size (wds (ns.take k)) 0 ∧ Below w.heap.size w w2) (fun _ v _ => ns.length - (intOf v).toNat)
  case atStart => exact ⟨0, by omega, rfl, HW1.out, HB1.out⟩
  case round =>
    obtain ⟨k, hk, rfl, hw, hb⟩ := hrel
    have HW := Lib.hid hw
    have HB := Lib.hid hb
    clear hw hb
    have hz := HB.out.size
    have hlen : (wds (ns.take k)).length ≤ 4000 := by rw [wds_length, List.length_take]; omega
    by_cases hlt : k < ns.length
    · obtain ⟨ad, rfl, hblk, hcell⟩ := (HR.out.below HB.out).at_ (k := k) (by simp [i64s]; exact hlt)
      simp only [i64s, List.getElem_map] at hcell
      have hb0 := H01.out ns[k] (List.getElem_mem hlt)
      go_wp2_with (first | (go_at_call 15; refine (num4 w.heap.size w.heap.size (wds (ns.take k)) ns[k] _ hz HW.out (by omega) (by omega) (by omega)).mono ?_; rintro e w3 ⟨rfl, hw3, hb3⟩; have HW3 := Lib.hid hw3; have HB3 := Lib.hid hb3; clear hw3 hb3))
      go_roundw
      case rel => exact ⟨k + 1, by omega, by go_num, by rw [wds_snoc ns k hlt]; exact HW3.out, HB.out.trans HB3.out⟩
      case measure => simp [intOf]; omega
    · have hk' : k = ns.length := by omega
      subst hk'
      rw [List.take_length] at HW hlen
      go_wp2_with (first | (go_at_call 16; refine (end_any w.heap.size w.heap.size (wds ns) _ HW.out (by omega)).mono ?_; rintro e w3 ⟨A', c', rfl, hc', ho', hb'⟩; have HC' := Lib.hid hc'; have HO' := Lib.hid ho'; have HB' := Lib.hid hb'; clear ho' hb' hc'))
      go_ret
      have e := wds_length ns
      refine ⟨A', c', by rw [e]; rfl, by have := HC'.out; omega, ?_, HB.out.trans (HB'.out.mono hz)⟩
      rw [← e]
      exact ownsRow_base HO'.out hz

theorem be_get (s k : Nat) (n : Int) (h : k < s) : (be s n)[k]? = some (n / 2 ^ (8 * (s - 1 - k)) % 256) := by
  induction s generalizing n with
  | zero => omega
  | succ s ih =>
    simp only [be]
    by_cases hk : k < s
    · rw [List.getElem?_append_left (by rw [be_length]; exact hk), ih _ hk]
      congr 2
      rw [show (8 * (s + 1 - 1 - k) : Nat) = 8 + 8 * (s - 1 - k) from by omega, Int.pow_add, Int.ediv_ediv_of_nonneg (by decide)]
      rfl
    · have : k = s := by omega
      subst this
      rw [List.getElem?_append_right (by rw [be_length]; omega), be_length]
      simp
theorem be_take_succ (s k : Nat) (n : Int) (h : k < s) : (be s n).take (k + 1) = (be s n).take k ++ [n / 2 ^ (8 * (s - 1 - k)) % 256] := by
  have hg := be_get s k n h
  have hl : k < (be s n).length := by rw [be_length]; exact h
  rw [List.take_succ_eq_append_getElem hl]
  rw [List.getElem?_eq_getElem hl] at hg
  injection hg with hg
  rw [hg]


end Go.Proofs.YtifhlkfdmnkhoaaDoor
