/- Plain laws of reservations: who holds has a key. -/
import Derived.Test.YtlkdglhbncnkhaaResvPlain
namespace Go.Proofs.Ytlkdglhbncnkhaa
set_option linter.unusedVariables false
open Go.RowKit

/-- Who holds a reservation has a key; where there is one, somebody has. -/
structure HInv (s : RS) : Prop where
  own : s.kind ≠ 0 → s.kind < 7 → s.key s.holder.toNat ≠ 0
  any : s.kind ≠ 0 → ∃ n, n < 16 ∧ s.key n ≠ 0
theorem hinv_new : HInv newRS := ⟨fun h => absurd rfl h, fun h => absurd rfl h⟩
theorem hinv_free (s : RS) : HInv s.free := ⟨fun h => absurd rfl h, fun h => absurd rfl h⟩
theorem hinv_bump {s : RS} (h : HInv s) : HInv s.bump := ⟨h.own, h.any⟩
theorem hinv_hold {s : RS} {n : Nat} (hn : n < 16) (hk : s.key n ≠ 0) (k : Int) : HInv (s.hold n k) :=
  ⟨fun _ _ => by show s.key (n : Int).toNat ≠ 0; rw [Int.toNat_natCast]; exact hk, fun _ => ⟨n, hn, hk⟩⟩
theorem hinv_register {s : RS} (h : HInv s) (ok : s.Ok) {m : Nat} (hm : m < 16) (c : RC) (l : List Int) : HInv (registerO s m c l).s := by
  unfold registerO
  split
  · exact h
  · split
    · rename_i hz
      refine ⟨fun h1 h2 => ?_, fun h1 => ⟨m, hm, by show (s.take m c.new).key m ≠ 0; rw [take_key ok hm, if_pos rfl]; exact hz⟩⟩
      show (s.take m c.new).key s.holder.toNat ≠ 0
      rw [take_key ok hm]
      split
      · exact hz
      · exact h.own h1 h2
    · split
      · exact h
      · split
        · exact hinv_bump (hinv_free _)
        · rename_i hz hP
          refine ⟨fun h1 h2 => ?_, fun h1 => ?_⟩
          · have h1 : s.kind ≠ 0 := h1
            have h2 : s.kind < 7 := h2
            show (s.lose m).key s.holder.toNat ≠ 0
            rw [lose_key ok hm]
            rw [if_neg]
            · exact h.own h1 h2
            · intro e
              apply hP
              refine ⟨h1, .inl ⟨?_, ?_⟩⟩
              · rcases ok.hk with ⟨h3, _⟩ | ⟨_, h3, _⟩
                · exact absurd h3 h1
                · omega
              · unfold RS.each
                exact decide_eq_false (by omega)
          · have h1 : s.kind ≠ 0 := h1
            have he : (s.lose m).empty = false := by
              cases hx : (s.lose m).empty
              · rfl
              · exact absurd ⟨h1, .inr hx⟩ hP
            obtain ⟨n, h3, h4⟩ := empty_no (lose_ok ok m) he
            exact ⟨n, h3, h4⟩
theorem hinv_reserve {s : RS} (h : HInv s) {m : Nat} (hm : m < 16) (hk : s.key m ≠ 0) (c : RC) (l : List Int) : HInv (reserveO s m c l).s := by
  unfold reserveO
  split
  · exact h
  · split
    · exact hinv_hold hm hk _
    · split <;> exact h
theorem hinv_release {s : RS} (h : HInv s) (m : Nat) (c : RC) (l : List Int) : HInv (releaseO s m c l).s := by
  unfold releaseO
  split
  · exact h
  · split
    · exact h
    · exact hinv_free _
theorem preTo_any {s : RS} (m : Nat) (c : RC) (l : List Int) : ∀ k, (preTo s m c l k).any = false → (preTo s m c l k).s = s ∧ (preTo s m c l k).l = l
  | 0, _ => ⟨rfl, rfl⟩
  | k + 1, h => by
    unfold preTo at h ⊢
    by_cases hm : metB s c k = false
    · rw [if_pos hm] at h ⊢
      exact preTo_any m c l k h
    · rw [if_neg hm] at h
      by_cases hk : k = m
      · rw [if_pos hk] at h; cases h
      · rw [if_neg hk] at h; cases h
theorem hinv_preempt {s : RS} (h : HInv s) (ok : s.Ok) {m : Nat} (hm : m < 16) (hk : s.key m ≠ 0) (c : RC) (l : List Int) : HInv (preemptO s m c l).s := by
  have hpk := fun n => (preTo_key ok m c l n 16 (Nat.le_refl _)).1
  have hps := preTo_same (s := s) m c l 16
  have hpo := preTo_ok ok m c (l := l) 16
  have hpa := preTo_any (s := s) m c l 16
  unfold preemptO
  by_cases h1 : rightK c.kind = false
  · rw [if_pos h1]; exact h
  · rw [if_neg h1]
    by_cases h2 : takesB s c = false ∧ c.new = 0
    · rw [if_pos h2]; exact h
    · rw [if_neg h2]
      generalize preTo s m c l 16 = p at hpk hps hpo hpa ⊢
      by_cases h3 : takesB s c = true
      · rw [if_pos h3]
        refine hinv_bump (hinv_hold hm ?_ _)
        rw [hpk m, if_neg (fun x => x.2.1 rfl)]
        exact hk
      · rw [if_neg h3]
        by_cases h4 : p.any = false
        · rw [if_pos h4, (hpa h4).1]; exact h
        · rw [if_neg h4]
          refine hinv_bump ?_
          by_cases h5 : p.s.empty = true
          · rw [if_pos h5]; exact hinv_free _
          · rw [if_neg h5]
            have h5' : p.s.empty = false := by simpa using h5
            refine ⟨fun k1 k2 => ?_, fun _ => empty_no hpo h5'⟩
            rw [hps.2.1] at k1 k2
            rw [hps.1, hpk]
            rw [if_neg]
            · exact h.own k1 k2
            · rintro ⟨_, _, hmet⟩
              have hnew : c.new ≠ 0 := fun e => h2 ⟨by simpa using h3, e⟩
              have hm2 := (met_key hmet).2.resolve_left hnew
              apply h3
              unfold takesB
              have he : s.each = false := by unfold RS.each; exact decide_eq_false (by omega)
              rw [he, hm2]
              simp [k1]
theorem hinv_do {s : RS} (h : HInv s) (ok : s.Ok) (nx : Int) (c : RC) : HInv (doO s nx c).s := by
  unfold doO
  split
  · exact h
  · rename_i hnx
    have hm : nx.toNat < 16 := by omega
    split
    · exact hinv_register h ok hm c _
    · split
      · split
        · exact h
        · rename_i hreg
          have hk : s.key nx.toNat ≠ 0 := by
            intro e
            apply hreg
            unfold regB
            rw [e]
            rfl
          split
          · exact hinv_reserve h hm hk c _
          · split
            · exact hinv_release h _ c _
            · split
              · exact hinv_bump (hinv_free _)
              · exact hinv_preempt h ok hm hk c _
      · exact h
/-- What ResvHolds asks of a nexus. -/
theorem holds_law {s : RS} (h : HInv s) (hf : Fenc s) (ok : s.Ok) (hk : s.kind ≠ 0) {n : Nat} (hn : n < 16) :
    ((s.kind = 3 ∨ s.kind = 6 ∨ s.kind = 8) → mayR s n = true → mayW s n = true) ∧ (mayW s n = true → mayR s n = true) ∧ ((n : Int) = s.holder → s.kind < 7 → mayR s n = true ∧ mayW s n = true ∧ s.key n ≠ 0) := by
  have hfen : s.key n ≠ 0 → s.fen n = false := hf n hn
  have hks := kinds ok
  have hhold : s.holds n = true → s.key n ≠ 0 := by
    intro hh
    unfold RS.holds at hh
    split at hh
    · simpa using hh
    · rename_i he
      have hlt : s.kind < 7 := by
        apply Classical.byContradiction
        intro hge
        apply he
        unfold RS.each
        exact decide_eq_true (by omega)
      simp only [Bool.and_eq_true, beq_iff_eq] at hh
      have := h.own hk hlt
      rw [hh.2, Int.toNat_natCast] at this
      exact this
  refine ⟨fun h368 hr => ?_, fun hw => ?_, fun hh hlt => ?_⟩
  · unfold mayR at hr
    unfold mayW
    have e0 : (s.kind == 0) = false := by simp [hk]
    have e1 : (s.kind == 1) = false := by simp; omega
    have e5 : (s.kind == 5) = false := by simp; omega
    have e7 : (s.kind == 7) = false := by simp; omega
    rw [e0, e1, e5, e7] at hr
    simp only [Bool.false_or] at hr
    rw [e0]
    simp only [Bool.false_or]
    cases hb : s.holds n
    · rw [hb] at hr
      simp only [Bool.false_or] at hr
      rw [hr]
      have : s.key n ≠ 0 := by
        simp only [Bool.and_eq_true] at hr
        simpa using hr.2
      rw [hfen this]
      rfl
    · rw [hfen (hhold hb)]
      rfl
  · unfold mayW at hw
    unfold mayR
    simp only [Bool.and_eq_true] at hw
    have h2 := hw.2
    cases h0 : (s.kind == 0) <;> cases hb : s.holds n <;> rw [h0, hb] at h2 <;> simp at h2 ⊢
    right; right; right
    exact h2
  · have hk2 : s.key n ≠ 0 := by
      have := h.own hk hlt
      rw [← hh, Int.toNat_natCast] at this
      exact this
    have hb : s.holds n = true := by
      unfold RS.holds
      rw [if_neg (by unfold RS.each; simp; omega), ← hh]
      simp [hk]
    refine ⟨by unfold mayR; rw [hb]; simp, by unfold mayW; rw [hb, hfen hk2]; simp, hk2⟩
end Go.Proofs.Ytlkdglhbncnkhaa
