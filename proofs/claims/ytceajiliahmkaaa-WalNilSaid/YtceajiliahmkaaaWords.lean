/- Contracts: End of a writer; sense.words; the reference's Put and at. -/
import Derived.Test.YtceajiliahmkaaaField
namespace Go.Proofs.Ytceajiliahmkaaa
set_option linter.unusedVariables false
set_option maxRecDepth 100000
open Go.RowKit

set_option maxHeartbeats 400000 in
theorem end_any (B g : Nat) (l : List Int) (w : World) (hw : IsWriter w B g l 0) (hl : l.length ≤ 140737488351232) :
    Calls Try.prog 38 #[.pointer (some ⟨g, 0, none⟩)] w fun e w' => ∃ A' c', e = .returned (.tuple #[.slice A' l.length c', .int .i64 0]) ∧ l.length ≤ c' ∧
      w'.ownsRow w.heap.size 5 1 (.slice A' l.length c') l.length (by8 l) ∧ Below w.heap.size w w' := by
  obtain ⟨A, c, hb, ho, hg, hc⟩ := hw
  have c0 := hb.cell 0
  have c1 := hb.cell 1
  simp at c0 c1
  have HO := Lib.hid ho
  clear ho
  go_enter Try.func38, Try.ntmps38
  go_wp2_with (first | (go_at_call 46; refine (clone_any A c l _ (Rd.of_own HO.out) hl).mono ?_; rintro e w1 ⟨A', c', rfl, hc', ho', hb'⟩; have HO' := Lib.hid ho'; have HB' := Lib.hid hb'; clear ho' hb'))
  go_ret2
  exact ⟨A', c', rfl, hc', HO'.out, HB'.out⟩

def wds (ns : List Int) : List Int := ns.flatMap (be 4)
theorem wds_length (ns : List Int) : (wds ns).length = 4 * ns.length := by
  induction ns with
  | nil => rfl
  | cons n ns ih => simp [wds, be_length] at ih ⊢; omega
theorem wds_isB (ns : List Int) : isB (wds ns) := by
  intro x hx
  simp only [wds, List.mem_flatMap] at hx
  obtain ⟨n, _, hx⟩ := hx
  exact be_isB 4 n x hx
theorem wds_snoc (ns : List Int) (k : Nat) (h : k < ns.length) : wds (ns.take (k + 1)) = wds (ns.take k) ++ be 4 ns[k] := by
  simp only [wds]
  rw [List.take_succ_eq_append_getElem h, List.flatMap_append]
  simp

def i64s (l : List Int) : List Value := l.map (Value.int .i64)

theorem be_get (s k : Nat) (n : Int) (h : k < s) : (be s n)[k]? = some (n / 2 ^ (8 * (s - 1 - k)) % 256) := by
  induction s generalizing n with
  | zero => omega
  | succ s ih =>
    simp only [be]
    by_cases hk : k < s
    · rw [List.getElem?_append_left (by rw [be_length]; exact hk), ih _ hk]
      congr 2
      rw [show (8 * (s + 1 - 1 - k) : Nat) = 8 + 8 * (s - 1 - k) from by omega, Int.pow_add, Int.ediv_ediv_of_nonneg (by decide)]
      rfl
    · have : k = s := by omega
      subst this
      rw [List.getElem?_append_right (by rw [be_length]; omega), be_length]
      simp
theorem be_take_succ (s k : Nat) (n : Int) (h : k < s) : (be s n).take (k + 1) = (be s n).take k ++ [n / 2 ^ (8 * (s - 1 - k)) % 256] := by
  have hg := be_get s k n h
  have hl : k < (be s n).length := by rw [be_length]; exact h
  rw [List.take_succ_eq_append_getElem hl]
  rw [List.getElem?_eq_getElem hl] at hg
  injection hg with hg
  rw [hg]


end Go.Proofs.Ytceajiliahmkaaa
