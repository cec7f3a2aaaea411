/- Contracts of the small helpers of the statements (Lent, Kept, Spoil) and of slices.Clone at bytes. -/
import Derived.Test.YtceajiliahmkaaaBase
import Derived.Test.YtceajiliahmkaaaProg
namespace Go.Proofs.Ytceajiliahmkaaa
set_option linter.unusedVariables false
set_option maxRecDepth 100000
open Go.RowKit

theorem infoU8 : (Try.prog.info? 5).map (fun i => (i.zero, i.size, i.bytes)) = some (some (.int .u8 0), 1, 1) := by kernel_rfl
theorem E8 : AppTy Try.prog 33 5 1 1 := AppTy.mk' Try.underlying33 infoU8 rfl (by omega)

set_option maxHeartbeats 400000 in
theorem clone_any (A : Option Addr) (c : Nat) (l : List Int) (w : World) (hr : Rd w A (by8 l)) (hn : l.length ≤ 140737488351232) :
    Calls Try.prog 46 #[.slice A l.length c] w fun e w' => ∃ A' c', e = .returned (.slice A' l.length c') ∧ l.length ≤ c' ∧
      w'.ownsRow w.heap.size 5 1 (.slice A' l.length c') l.length (by8 l) ∧ Below w.heap.size w w' := by
  have HR := Lib.hid hr
  clear hr
  have kn := fun w => Lib.run_eql_slice_nil (P := Try.prog) w 33 5 A l.length c 0 0 Try.underlying33
  cases A with
  | none =>
    have hl : l = [] := by
      cases l with
      | nil => rfl
      | cons x l => obtain ⟨ad, h, _⟩ := HR.out 0 _ rfl; cases h
    subst hl
    simp only [Option.isNone_none, List.length_nil] at kn ⊢
    go_enter Try.func46, Try.ntmps46
    go_wp2_with fail
    go_ret
    exact ⟨none, 0, rfl, by simp, ownsRow_emp _ _ _ _, Below.refl _ _⟩
  | some ad =>
    simp only [Option.isNone_some] at kn
    go_enter Try.func46, Try.ntmps46
    go_wp2_with (first
      | (at_builtin; refine wpL_append E8 rfl rfl (World.ownsRow_lit w #[] 0 (Nat.le_refl _) (by simp [maxLen]) rfl) rfl (HR.out.below ((Below.refl _ _).alloc (Nat.le_refl _) _)) rfl (by simp [by8]) (by8_one l) l.length (by8 l) (by simp) (by simp) (by simp only [maxLen]; omega) (by omega) (by simp) ?_; intro A1 c1 w1 hc1 ho1 ht1 _; have HO1 := Lib.hid ho1; have HT1 := Lib.hid ht1; clear ho1 ht1))
    go_ret
    refine ⟨A1, c1, rfl, hc1, HO1.out, ((((Tr.refl NoB w).alloc _).trans HT1.out (fun b hb h => ?_)).below (fun _ _ => id))⟩
    have h := (Blo.some_iff _ _).1 h
    simp at h
    omega

theorem clone_n (A : Option Addr) (c n : Nat) (l : List Int) (w : World) (hr : Rd w A (by8 l)) (hn : l.length = n) (hb : n ≤ 140737488351232) :
    Calls Try.prog 46 #[.slice A n c] w fun e w' => ∃ A' c', e = .returned (.slice A' n c') ∧ n ≤ c' ∧
      w'.ownsRow w.heap.size 5 1 (.slice A' n c') n (by8 l) ∧ Below w.heap.size w w' := by
  subst hn
  exact clone_any A c l w hr hb

theorem own_pre1 {w : World} {base : Nat} {e : TypeId} {g n cap : Nat} {l : List Int} {x : Int} (h : w.ownsRow base e 1 (.slice (some ⟨g, 0, none⟩) (n + 1) cap) (n + 1) (by8 (l ++ [x]))) (hn : l.length = n) : n + 1 ≤ cap := by
  obtain ⟨A, c, hv, hc, _⟩ := ownsRow_slice h
  injection hv with _ _ hv
  omega

theorem own_pre8 {w : World} {base : Nat} {e : TypeId} {g cap : Nat} {l m : List Int} (h : w.ownsRow base e 1 (.slice (some ⟨g, 0, none⟩) (l.length + m.length) cap) (l.length + m.length) (by8 (l ++ m))) :
    w.ownsRow base e 1 (.slice (some ⟨g, 0, none⟩) l.length cap) l.length (by8 l) := by
  have h2 := ownsRow_pre h (m := l.length) (by omega)
  rw [by8_take, List.take_left] at h2
  exact h2

/-- string(b) at bytes of this program. -/
theorem conv8 {w : World} {A : Option Addr} {l : List Int} (n c : Nat) (h : Rd w A (by8 l)) (hn : l.length = n) :
    (convert 33 9 (.slice A n c)).run Try.prog w = .ok (.string (strOfNums l)) w :=
  run_conv8 h n c hn Try.underlying33 Try.underlying5 Try.underlying9

end Go.Proofs.Ytceajiliahmkaaa
