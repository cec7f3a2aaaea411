/- Runs of rising numbers. Plain; no program in sight. -/
import Derived.Test.YtdddbpnllhnfdaaExtDef
namespace Go.Proofs.Ytdddbpnllhnfdaa
set_option linter.unusedVariables false
set_option maxRecDepth 100000

/-- The runs of a list: where each begins, and how many in a row. -/
def runsG : List Int → List (Int × Nat)
  | [] => []
  | z :: l => match runsG l with
    | [] => [(z, 1)]
    | (a, n) :: r => if z + 1 = a then (z, n + 1) :: r else (z, 1) :: (a, n) :: r
theorem runsG_cons (z : Int) (l : List Int) : runsG (z :: l) = match runsG l with
    | [] => [(z, 1)]
    | (a, n) :: r => if z + 1 = a then (z, n + 1) :: r else (z, 1) :: (a, n) :: r := rfl
theorem runsG_head {l : List Int} {a : Int} {n : Nat} {r : List (Int × Nat)} (h : runsG l = (a, n) :: r) : l[0]? = some a ∧ 1 ≤ n := by
  cases l with
  | nil => cases h
  | cons z l =>
    unfold runsG at h
    split at h
    · injection h with h1 h2; injection h1 with h1 h3; subst h1 h3; exact ⟨rfl, by omega⟩
    · split at h
      · injection h with h1 h2; injection h1 with h1 h3; subst h1 h3; exact ⟨rfl, by omega⟩
      · injection h with h1 h2; injection h1 with h1 h3; subst h1 h3; exact ⟨rfl, by omega⟩
theorem runsG_nil {l : List Int} (h : runsG l = []) : l = [] := by
  cases l with
  | nil => rfl
  | cons z l =>
    unfold runsG at h
    split at h
    · cases h
    · split at h <;> cases h
/-- The first run: as far as they rise by one. -/
theorem runsG_run : ∀ (n : Nat) (m : List Int) (z : Int), m[0]? = some z → 1 ≤ n → n ≤ m.length → (∀ j, j < n → m[j]? = some (z + j)) → (n = m.length ∨ m[n]? ≠ some (z + n)) → runsG m = (z, n) :: runsG (m.drop n)
  | 0, _, _, _, h, _, _, _ => by omega
  | n + 1, [], _, h, _, _, _, _ => by cases h
  | 0 + 1, x :: m, z, h0, _, _, _, hs => by
    simp at h0
    subst h0
    show runsG (x :: m) = (x, 1) :: runsG m
    rw [runsG_cons]
    split
    · rename_i he; rw [he]
    · rename_i a n r he
      obtain ⟨h1, h2⟩ := runsG_head he
      rw [if_neg ?_, he]
      intro e
      rcases hs with hs | hs
      · have : m = [] := List.eq_nil_of_length_eq_zero (by simpa using hs.symm)
        subst this
        cases h1
      · apply hs
        show m[0]? = _
        rw [h1]
        simp [e]
  | n + 1 + 1, x :: m, z, h0, _, hl, hj, hs => by
    simp at h0
    subst h0
    have h1 : m[0]? = some (x + 1) := by have := hj 1 (by omega); simpa using this
    have ih := runsG_run (n + 1) m (x + 1) h1 (by omega) (by simpa using hl) (fun j hj2 => by
      have := hj (j + 1) (by omega)
      rw [List.getElem?_cons_succ] at this
      rw [this]
      congr 1
      omega) (by
      rcases hs with hs | hs
      · left; simpa using hs
      · right
        rw [List.getElem?_cons_succ] at hs
        intro e
        apply hs
        rw [e]
        congr 1
        omega)
    show runsG (x :: m) = (x, n + 1 + 1) :: runsG (m.drop (n + 1))
    rw [runsG_cons, ih]
    simp only [if_pos]
/-- All of a run. -/
def run1 (p : Int × Nat) : List Int := (List.range p.2).map (fun (i : Nat) => p.1 + (i : Int))
theorem run1_succ (z : Int) (n : Nat) : run1 (z, n + 1) = z :: run1 (z + 1, n) := by
  unfold run1
  simp only [List.range_succ_eq_map, List.map_cons, List.map_map]
  congr 1
  · simp
  · apply List.map_congr_left
    intro i _
    simp [Function.comp]
    omega
theorem runsG_all : ∀ l : List Int, (runsG l).flatMap run1 = l
  | [] => rfl
  | z :: l => by
    have ih := runsG_all l
    unfold runsG
    split
    · rename_i he
      rw [he] at ih
      rw [← ih]
      simp [run1]
    · rename_i a n r he
      rw [he] at ih
      split
      · rename_i e
        subst e
        rw [List.flatMap_cons] at ih ⊢
        rw [run1_succ, List.cons_append, ih]
      · rw [List.flatMap_cons, ih]
        simp [run1]
theorem runsG_length_le : ∀ l : List Int, (runsG l).length ≤ l.length
  | [] => Nat.le_refl 0
  | z :: l => by
    have ih := runsG_length_le l
    unfold runsG
    split
    · simp
    · rename_i a n r he
      rw [he] at ih
      split
      · simp at ih ⊢; omega
      · simp at ih ⊢; omega
def rnAt (l : List Int) (k : Nat) : Int × Nat := (runsG l)[k]?.getD (0, 1)
end Go.Proofs.Ytdddbpnllhnfdaa
