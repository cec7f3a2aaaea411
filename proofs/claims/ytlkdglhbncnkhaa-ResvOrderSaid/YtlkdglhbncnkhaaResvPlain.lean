/- Plain laws of reservations: who is fenced, who holds; what is refused changes nothing. -/
import Derived.Test.YtlkdglhbncnkhaaResv6
namespace Go.Proofs.Ytlkdglhbncnkhaa
set_option linter.unusedVariables false
open Go.RowKit

section
variable {s : RS}
theorem key_set (h : s.keys.length = 16) {m : Nat} (hm : m < 16) (v : Int) (f : List Bool) (a b c : Int) (n : Nat) : (⟨s.keys.set m v, f, a, b, c⟩ : RS).key n = if m = n then v else s.key n := by
  unfold RS.key
  rw [List.getElem?_set]
  split
  · rw [if_pos (by omega)]; rfl
  · rfl
theorem fen_set (h : s.fenced.length = 16) {m : Nat} (hm : m < 16) (v : Bool) (k : List Int) (a b c : Int) (n : Nat) : (⟨k, s.fenced.set m v, a, b, c⟩ : RS).fen n = if m = n then v else s.fen n := by
  unfold RS.fen
  rw [List.getElem?_set]
  split
  · rw [if_pos (by omega)]; rfl
  · rfl
theorem lose_key (h : s.Ok) {m : Nat} (hm : m < 16) (n : Nat) : (s.lose m).key n = if m = n then 0 else s.key n := key_set h.lk hm _ _ _ _ _ n
theorem lose_fen (h : s.Ok) {m : Nat} (hm : m < 16) (n : Nat) : (s.lose m).fen n = if m = n then true else s.fen n := fen_set h.lf hm _ _ _ _ _ n
theorem take_key (h : s.Ok) {m : Nat} (hm : m < 16) (v : Int) (n : Nat) : (s.take m v).key n = if m = n then v else s.key n := key_set h.lk hm _ _ _ _ _ n
theorem take_fen (h : s.Ok) {m : Nat} (hm : m < 16) (v : Int) (n : Nat) : (s.take m v).fen n = if m = n then false else s.fen n := fen_set h.lf hm _ _ _ _ _ n
theorem empty_no (h : s.Ok) (he : s.empty = false) : ∃ n, n < 16 ∧ s.key n ≠ 0 := by
  unfold RS.empty at he
  have : ∃ x ∈ s.keys, x ≠ 0 := by
    apply Classical.byContradiction
    intro hno
    have : s.keys.all (· == 0) = true := List.all_eq_true.2 fun x hx => by
      have : x = 0 := Classical.byContradiction fun h => hno ⟨x, hx, h⟩
      simp [this]
    rw [this] at he
    cases he
  obtain ⟨x, hx, h0⟩ := this
  obtain ⟨n, hn, rfl⟩ := List.mem_iff_getElem.1 hx
  refine ⟨n, by rw [← h.lk]; exact hn, ?_⟩
  unfold RS.key
  rw [List.getElem?_eq_getElem hn]
  exact h0
/-- One nexus' key and fence behind one command. -/
def Chg (s s' : RS) (n : Nat) : Prop := (s'.key n = s.key n ∧ s'.fen n = s.fen n) ∨ (s.key n ≠ 0 ∧ s'.key n = 0 ∧ s'.fen n = true) ∨ (s'.key n ≠ 0 ∧ s'.fen n = false)
theorem Chg.refl (s : RS) (n : Nat) : Chg s s n := .inl ⟨rfl, rfl⟩
theorem lose_chg (h : s.Ok) {m : Nat} (hm : m < 16) (hz : s.key m ≠ 0) (n : Nat) : Chg s (s.lose m) n := by
  by_cases e : m = n
  · subst e
    right; left
    exact ⟨hz, by rw [lose_key h hm, if_pos rfl], by rw [lose_fen h hm, if_pos rfl]⟩
  · left
    exact ⟨by rw [lose_key h hm, if_neg e], by rw [lose_fen h hm, if_neg e]⟩
theorem take_chg (h : s.Ok) {m : Nat} (hm : m < 16) {v : Int} (hz : v ≠ 0) (n : Nat) : Chg s (s.take m v) n := by
  by_cases e : m = n
  · subst e
    right; right
    exact ⟨by rw [take_key h hm, if_pos rfl]; exact hz, by rw [take_fen h hm, if_pos rfl]⟩
  · left
    exact ⟨by rw [take_key h hm, if_neg e], by rw [take_fen h hm, if_neg e]⟩
theorem register_chg (h : s.Ok) {m : Nat} (hm : m < 16) (c : RC) (l : List Int) (n : Nat) : Chg s (registerO s m c l).s n := by
  unfold registerO
  split
  · exact Chg.refl _ _
  · split
    · rename_i hz
      exact take_chg h hm hz n
    · split
      · exact Chg.refl _ _
      · rename_i hz
        split
        · exact lose_chg h hm hz n
        · exact lose_chg h hm hz n
theorem reserve_chg (m : Nat) (c : RC) (l : List Int) (n : Nat) : Chg s (reserveO s m c l).s n := by
  unfold reserveO
  split
  · exact Chg.refl _ _
  · split
    · exact Chg.refl _ _
    · split <;> exact Chg.refl _ _
theorem release_chg (m : Nat) (c : RC) (l : List Int) (n : Nat) : Chg s (releaseO s m c l).s n := by
  unfold releaseO
  split
  · exact Chg.refl _ _
  · split <;> exact Chg.refl _ _
theorem loseTo_key (h : s.Ok) (n : Nat) : ∀ k, k ≤ 16 → (loseTo s k).key n = (if n < k then 0 else s.key n) ∧ (n < 16 → (loseTo s k).fen n = if n < k ∧ s.key n ≠ 0 then true else s.fen n)
  | 0, _ => ⟨by rw [if_neg (by omega)]; rfl, fun _ => by rw [if_neg (by omega)]; rfl⟩
  | k + 1, hk => by
    obtain ⟨h1, h2⟩ := loseTo_key h n k (by omega)
    by_cases hz : s.key k ≠ 0
    · rw [loseTo, if_pos hz, lose_key (loseTo_ok h k) (by omega), lose_fen (loseTo_ok h k) (by omega)]
      by_cases e : k = n
      · subst e
        exact ⟨by rw [if_pos rfl, if_pos (by omega)], fun _ => by rw [if_pos rfl, if_pos ⟨by omega, hz⟩]⟩
      · refine ⟨?_, fun hn => ?_⟩
        · rw [if_neg e, h1]
          by_cases c : n < k
          · rw [if_pos c, if_pos (by omega)]
          · rw [if_neg c, if_neg (by omega)]
        · rw [if_neg e, h2 hn]
          by_cases c : n < k ∧ s.key n ≠ 0
          · rw [if_pos c, if_pos ⟨by omega, c.2⟩]
          · rw [if_neg c, if_neg (fun x => c ⟨by omega, x.2⟩)]
    · have hz' : s.key k = 0 := Classical.byContradiction hz
      rw [loseTo, if_neg hz]
      refine ⟨?_, fun hn => ?_⟩
      · rw [h1]
        by_cases c : n < k
        · rw [if_pos c, if_pos (by omega)]
        · by_cases e : n = k
          · subst e; rw [if_neg c, if_pos (by omega), hz']
          · rw [if_neg c, if_neg (by omega)]
      · rw [h2 hn]
        by_cases c : n < k ∧ s.key n ≠ 0
        · rw [if_pos c, if_pos ⟨by omega, c.2⟩]
        · rw [if_neg c, if_neg]
          intro x
          by_cases e : n = k
          · subst e; exact x.2 hz'
          · exact c ⟨by omega, x.2⟩
theorem clear_chg (h : s.Ok) (m : Nat) (c : RC) (l : List Int) {n : Nat} (hn : n < 16) : Chg s (clearO s m c l).s n := by
  obtain ⟨h1, h2⟩ := loseTo_key h n 16 (by omega)
  have e1 : (clearO s m c l).s.key n = (loseTo s 16).key n := rfl
  have e2 : (clearO s m c l).s.fen n = (loseTo s 16).fen n := rfl
  unfold Chg
  rw [e1, e2, h1, h2 hn]
  by_cases hz : s.key n ≠ 0
  · right; left
    exact ⟨hz, by rw [if_pos hn], by rw [if_pos ⟨hn, hz⟩]⟩
  · left
    have hz' : s.key n = 0 := Classical.byContradiction hz
    exact ⟨by rw [if_pos hn, hz'], by rw [if_neg (fun x => hz x.2)]⟩
theorem met_key {c : RC} {k : Nat} (h : metB s c k = true) : s.key k ≠ 0 ∧ (c.new = 0 ∨ s.key k = c.new) := by
  unfold metB at h
  simp only [Bool.not_eq_true', Bool.or_eq_false_iff, Bool.and_eq_false_iff] at h
  obtain ⟨h1, h2⟩ := h
  refine ⟨by simpa using h1, ?_⟩
  rcases h2 with h2 | h2
  · left; simpa using h2
  · right; simpa using h2
theorem preTo_same (m : Nat) (c : RC) (l : List Int) : ∀ k, (preTo s m c l k).s.holder = s.holder ∧ (preTo s m c l k).s.kind = s.kind ∧ (preTo s m c l k).s.gen = s.gen
  | 0 => ⟨rfl, rfl, rfl⟩
  | k + 1 => by
    have ih := preTo_same m c l k
    unfold preTo
    split
    · exact ih
    · split
      · exact ih
      · exact ih
theorem preTo_key (h : s.Ok) (m : Nat) (c : RC) (l : List Int) (n : Nat) : ∀ k, k ≤ 16 → (preTo s m c l k).s.key n = (if n < k ∧ n ≠ m ∧ metB s c n = true then 0 else s.key n) ∧ (preTo s m c l k).s.fen n = (if n < k ∧ n ≠ m ∧ metB s c n = true then true else s.fen n)
  | 0, _ => by simp [preTo]
  | k + 1, hk => by
    obtain ⟨h1, h2⟩ := preTo_key h m c l n k (by omega)
    by_cases hm : metB s c k = false
    · rw [preTo, if_pos hm, h1, h2]
      by_cases e : n = k
      · subst e
        simp [hm]
      · by_cases q : n < k ∧ n ≠ m ∧ metB s c n = true
        · rw [if_pos q, if_pos q, if_pos ⟨by omega, q.2⟩, if_pos ⟨by omega, q.2⟩]; exact ⟨rfl, rfl⟩
        · rw [if_neg q, if_neg q, if_neg (fun x => q ⟨by omega, x.2⟩), if_neg (fun x => q ⟨by omega, x.2⟩)]; exact ⟨rfl, rfl⟩
    · have hm' : metB s c k = true := by simpa using hm
      by_cases hkm : k = m
      · rw [preTo, if_neg hm, if_pos hkm]
        show (preTo s m c l k).s.key n = _ ∧ (preTo s m c l k).s.fen n = _
        rw [h1, h2]
        by_cases q : n < k ∧ n ≠ m ∧ metB s c n = true
        · rw [if_pos q, if_pos q, if_pos ⟨by omega, q.2⟩, if_pos ⟨by omega, q.2⟩]; exact ⟨rfl, rfl⟩
        · rw [if_neg q, if_neg q, if_neg (fun x => q ⟨by omega, x.2⟩), if_neg (fun x => q ⟨by omega, x.2⟩)]; exact ⟨rfl, rfl⟩
      · rw [preTo, if_neg hm, if_neg hkm]
        show ((preTo s m c l k).s.lose k).key n = _ ∧ ((preTo s m c l k).s.lose k).fen n = _
        rw [lose_key (preTo_ok h m c k) (by omega), lose_fen (preTo_ok h m c k) (by omega), h1, h2]
        by_cases e : k = n
        · subst e
          rw [if_pos rfl, if_pos rfl, if_pos ⟨by omega, hkm, hm'⟩, if_pos ⟨by omega, hkm, hm'⟩]
          exact ⟨rfl, rfl⟩
        · rw [if_neg e, if_neg e]
          by_cases q : n < k ∧ n ≠ m ∧ metB s c n = true
          · rw [if_pos q, if_pos q, if_pos ⟨by omega, q.2⟩, if_pos ⟨by omega, q.2⟩]; exact ⟨rfl, rfl⟩
          · rw [if_neg q, if_neg q, if_neg (fun x => q ⟨by omega, x.2⟩), if_neg (fun x => q ⟨by omega, x.2⟩)]; exact ⟨rfl, rfl⟩
theorem preTo_chg (h : s.Ok) (m : Nat) (c : RC) (l : List Int) (n : Nat) : Chg s (preTo s m c l 16).s n := by
  obtain ⟨h1, h2⟩ := preTo_key h m c l n 16 (Nat.le_refl _)
  unfold Chg
  rw [h1, h2]
  by_cases q : n < 16 ∧ n ≠ m ∧ metB s c n = true
  · rw [if_pos q, if_pos q]
    exact .inr (.inl ⟨(met_key q.2.2).1, rfl, rfl⟩)
  · rw [if_neg q, if_neg q]
    exact .inl ⟨rfl, rfl⟩
theorem preempt_chg (h : s.Ok) (m : Nat) (c : RC) (l : List Int) (n : Nat) : Chg s (preemptO s m c l).s n := by
  have hp := preTo_chg h m c l n
  unfold preemptO
  split
  · exact Chg.refl _ _
  · split
    · exact Chg.refl _ _
    · split
      · exact hp
      · split
        · exact hp
        · show Chg s (RS.bump _) n
          split <;> exact hp
theorem do_chg (h : s.Ok) (nx : Int) (c : RC) {n : Nat} (hn : n < 16) : Chg s (doO s nx c).s n := by
  unfold doO
  split
  · exact Chg.refl _ _
  · rename_i hnx
    have hm : nx.toNat < 16 := by omega
    split
    · exact register_chg h hm c _ n
    · split
      · split
        · exact Chg.refl _ _
        · split
          · exact reserve_chg _ c _ n
          · split
            · exact release_chg _ c _ n
            · split
              · exact clear_chg h nx.toNat c zeros16 hn
              · exact preempt_chg h _ c _ n
      · exact Chg.refl _ _
end
/-- Who has a key is not fenced. -/
def Fenc (s : RS) : Prop := ∀ n, n < 16 → s.key n ≠ 0 → s.fen n = false
theorem fenc_new : Fenc newRS := by
  intro n hn h
  unfold newRS RS.fen
  rw [List.getElem?_replicate]
  split <;> rfl
theorem fenc_step {s s' : RS} (h : Fenc s) (hc : ∀ n, n < 16 → Chg s s' n) : Fenc s' := by
  intro n hn hk
  rcases hc n hn with ⟨e1, e2⟩ | ⟨_, e, _⟩ | ⟨_, e⟩
  · rw [e2]; exact h n hn (by rw [← e1]; exact hk)
  · exact absurd e hk
  · exact e
end Go.Proofs.Ytlkdglhbncnkhaa
