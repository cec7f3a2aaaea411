/- Plain laws of reservations: what is refused changes nothing; to whom notes go. -/
import Derived.Test.YtlkdglhbncnkhaaResvPlain2
namespace Go.Proofs.Ytlkdglhbncnkhaa
set_option linter.unusedVariables false
open Go.RowKit

theorem notesTo_get (l : List Int) : ∀ k, ∀ x ∈ notesTo l k, x.1 < k ∧ l[x.1]?.getD 0 ≠ 0
  | 0, x, h => by simp [notesTo] at h
  | k + 1, x, h => by
    unfold notesTo at h
    split at h
    · rename_i hz
      rcases List.mem_append.1 h with h1 | h1
      · have := notesTo_get l k x h1
        exact ⟨by omega, this.2⟩
      · simp at h1
        subst h1
        exact ⟨by simp, hz⟩
    · have := notesTo_get l k x h
      exact ⟨by omega, this.2⟩
theorem notesTo_sorted (l : List Int) : ∀ k, (notesTo l k).Pairwise (fun a b => a.1 < b.1)
  | 0 => by simp [notesTo]
  | k + 1 => by
    have ih := notesTo_sorted l k
    unfold notesTo
    split
    · rw [List.pairwise_append]
      refine ⟨ih, by simp, fun a ha b hb => ?_⟩
      simp at hb
      subst hb
      exact (notesTo_get l k a ha).1
    · exact ih
theorem zeros_none : notesTo zeros16 16 = [] := by decide
section
variable {s : RS} {n : Nat} {c : RC} {l : List Int}
theorem rest_own (code : Int) (hl : l[n]?.getD 0 = 0) : ∀ k, (restTo s n code l k)[n]?.getD 0 = 0
  | 0 => hl
  | k + 1 => by
    have ih := rest_own code hl k
    unfold restTo
    split
    · rename_i h
      rw [List.getElem?_set_ne h.1]
      exact ih
    · exact ih
theorem pre_own (hl : l[n]?.getD 0 = 0) : ∀ k, (preTo s n c l k).l[n]?.getD 0 = 0
  | 0 => hl
  | k + 1 => by
    have ih := pre_own hl k
    unfold preTo
    split
    · exact ih
    · split
      · exact ih
      · rename_i h
        show ((preTo s n c l k).l.set k 5)[n]?.getD 0 = 0
        rw [List.getElem?_set_ne h]
        exact ih
theorem register_own (hl : l[n]?.getD 0 = 0) : (registerO s n c l).l[n]?.getD 0 = 0 := by
  unfold registerO
  split
  · exact hl
  · split
    · exact hl
    · split
      · exact hl
      · split
        · split
          · exact rest_own _ hl 16
          · exact hl
        · exact hl
theorem reserve_own (hl : l[n]?.getD 0 = 0) : (reserveO s n c l).l[n]?.getD 0 = 0 := by
  unfold reserveO
  split
  · exact hl
  · split
    · exact hl
    · split <;> exact hl
theorem release_own (hl : l[n]?.getD 0 = 0) : (releaseO s n c l).l[n]?.getD 0 = 0 := by
  unfold releaseO
  split
  · exact hl
  · split
    · exact hl
    · split
      · exact rest_own _ hl 16
      · exact hl
theorem preempt_own (hl : l[n]?.getD 0 = 0) : (preemptO s n c l).l[n]?.getD 0 = 0 := by
  unfold preemptO
  split
  · exact hl
  · split
    · exact hl
    · split
      · split
        · exact rest_own _ (pre_own hl 16) 16
        · exact pre_own hl 16
      · split
        · exact pre_own hl 16
        · exact pre_own hl 16
theorem register_ref (h : (registerO s n c l).r.st ≠ 0) : (registerO s n c l).s = s ∧ (registerO s n c l).l = l := by
  unfold registerO at h ⊢
  split
  · exact ⟨rfl, rfl⟩
  · rename_i h1
    rw [if_neg h1] at h
    split at h
    · exact absurd rfl h
    · split at h
      · exact absurd rfl h
      · split at h <;> exact absurd rfl h
theorem reserve_ref (h : (reserveO s n c l).r.st ≠ 0) : (reserveO s n c l).s = s ∧ (reserveO s n c l).l = l := by
  unfold reserveO at h ⊢
  split
  · exact ⟨rfl, rfl⟩
  · rename_i h1
    rw [if_neg h1] at h
    split at h
    · exact absurd rfl h
    · rename_i h2
      rw [if_neg h2]
      split <;> exact ⟨rfl, rfl⟩
theorem release_ref (h : (releaseO s n c l).r.st ≠ 0) : (releaseO s n c l).s = s ∧ (releaseO s n c l).l = l := by
  unfold releaseO at h ⊢
  split
  · exact ⟨rfl, rfl⟩
  · rename_i h1
    rw [if_neg h1] at h
    split at h
    · rename_i h2
      rw [if_pos h2]
      exact ⟨rfl, rfl⟩
    · exact absurd rfl h
theorem preempt_ref (h : (preemptO s n c l).r.st ≠ 0) : (preemptO s n c l).s = s ∧ (preemptO s n c l).l = l := by
  unfold preemptO at h ⊢
  split
  · exact ⟨rfl, rfl⟩
  · rename_i h1
    rw [if_neg h1] at h
    split
    · exact ⟨rfl, rfl⟩
    · rename_i h2
      rw [if_neg h2] at h
      split at h
      · exact absurd rfl h
      · rename_i h3
        rw [if_neg h3]
        split at h
        · rename_i h4
          rw [if_pos h4]
          exact preTo_any n c l 16 h4
        · exact absurd rfl h
end
theorem ran_ref {s : RS} {o : Out} (h : o.r.st ≠ 0 → o.s = s ∧ o.l = zeros16) (h0 : (ran o).r.st ≠ 0) : (ran o).s = s ∧ (ran o).ns = [] := by
  obtain ⟨h1, h2⟩ := h h0
  exact ⟨h1, by show notesTo o.l 16 = []; rw [h2]; exact zeros_none⟩
/-- What is refused changes nothing, and nobody is told. -/
theorem do_ref {s : RS} {nx : Int} {c : RC} (h : (doO s nx c).r.st ≠ 0) : (doO s nx c).s = s ∧ (doO s nx c).ns = [] := by
  unfold doO at h ⊢
  split
  · exact ⟨rfl, rfl⟩
  · rename_i h1
    rw [if_neg h1] at h
    split
    · rename_i h2
      rw [if_pos h2] at h
      exact ran_ref register_ref h
    · rename_i h2
      rw [if_neg h2] at h
      split
      · rename_i h3
        rw [if_pos h3] at h
        split
        · exact ⟨rfl, rfl⟩
        · rename_i h4
          rw [if_neg h4] at h
          split
          · rename_i h5; rw [if_pos h5] at h; exact ran_ref reserve_ref h
          · rename_i h5
            rw [if_neg h5] at h
            split
            · rename_i h6; rw [if_pos h6] at h; exact ran_ref release_ref h
            · rename_i h6
              rw [if_neg h6] at h
              split
              · rename_i h7; rw [if_pos h7] at h; exact absurd rfl h
              · rename_i h7; rw [if_neg h7] at h; exact ran_ref preempt_ref h
      · exact ⟨rfl, rfl⟩
theorem ran_ns {o : Out} {n : Nat} (h : o.l[n]?.getD 0 = 0) : (ran o).ns.Pairwise (fun a b => a.1 < b.1) ∧ ∀ x ∈ (ran o).ns, x.1 < 16 ∧ x.1 ≠ n :=
  ⟨notesTo_sorted _ _, fun x hx => ⟨(notesTo_get _ _ x hx).1, fun e => (notesTo_get _ _ x hx).2 (e ▸ h)⟩⟩
theorem zeros_get (n : Nat) : zeros16[n]?.getD 0 = 0 := by
  unfold zeros16
  rw [List.getElem?_replicate]
  split <;> rfl
/-- Notes rise, and go to others. -/
theorem do_ns (s : RS) (nx : Int) (c : RC) : (doO s nx c).ns.Pairwise (fun a b => a.1 < b.1) ∧ ∀ x ∈ (doO s nx c).ns, x.1 < 16 ∧ (x.1 : Int) ≠ nx := by
  have nil : ([] : List (Nat × Int)).Pairwise (fun a b => a.1 < b.1) ∧ ∀ x ∈ ([] : List (Nat × Int)), x.1 < 16 ∧ (x.1 : Int) ≠ nx := ⟨List.Pairwise.nil, fun x h => by cases h⟩
  unfold doO
  split
  · exact nil
  · rename_i h1
    have fix : ∀ {ns : List (Nat × Int)}, (ns.Pairwise (fun a b => a.1 < b.1) ∧ ∀ x ∈ ns, x.1 < 16 ∧ x.1 ≠ nx.toNat) → ns.Pairwise (fun a b => a.1 < b.1) ∧ ∀ x ∈ ns, x.1 < 16 ∧ (x.1 : Int) ≠ nx := fun h => ⟨h.1, fun x hx => ⟨(h.2 x hx).1, by have := (h.2 x hx).2; omega⟩⟩
    have hz := zeros_get nx.toNat
    split
    · exact fix (ran_ns (register_own hz))
    · split
      · split
        · exact nil
        · split
          · exact fix (ran_ns (reserve_own hz))
          · split
            · exact fix (ran_ns (release_own hz))
            · split
              · exact fix (ran_ns (rest_own _ hz 16))
              · exact fix (ran_ns (preempt_own hz))
      · exact nil

end Go.Proofs.Ytlkdglhbncnkhaa
