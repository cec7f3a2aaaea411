/- Plain law of DiskSafe: behind a crash each sector is as it was in one of the states. -/
import Derived.Test.YtadoclcabkcmeaaDiskPlain
namespace Go.Proofs.Ytadoclcabkcmeaa
set_option linter.unusedVariables false
open Go.RowKit

def sect (n : Nat) (s : List Int) : List Int := (s.drop (256 * n)).take 256
theorem sect_get (n : Nat) (s : List Int) (i : Nat) : (sect n s)[i]? = if i < 256 then s[256 * n + i]? else none := by
  unfold sect
  rw [List.getElem?_take]
  by_cases h : i < 256
  · rw [if_pos h, if_pos h, List.getElem?_drop]
  · rw [if_neg h, if_neg h]
theorem splice_get {s d : List Int} {o : Nat} (h : o + d.length ≤ s.length) (i : Nat) : (splice s o d)[i]? = if i < o then s[i]? else if i < o + d.length then d[i - o]? else s[i]? := by
  unfold splice
  have h1 : (s.take o).length = o := by rw [List.length_take]; omega
  by_cases c1 : i < o
  · rw [if_pos c1, List.getElem?_append_left (by omega), List.getElem?_take, if_pos c1]
  · rw [if_neg c1, List.getElem?_append_right (by omega), h1]
    by_cases c2 : i < o + d.length
    · rw [if_pos c2, List.getElem?_append_left (by omega)]
    · rw [if_neg c2, List.getElem?_append_right (by omega), List.getElem?_drop]
      congr 1
      omega
theorem sect_at {s d : List Int} {a n : Nat} (h : 256 * a + d.length ≤ s.length) (h1 : a ≤ n) (h2 : 256 * (n + 1) ≤ 256 * a + d.length) : sect n (splice s (256 * a) d) = (d.drop (256 * (n - a))).take 256 := by
  apply List.ext_getElem?
  intro i
  rw [sect_get, splice_get h, List.getElem?_take]
  by_cases c : i < 256
  · rw [if_pos c, if_pos c, if_neg (by omega), if_pos (by omega), List.getElem?_drop]
    congr 1
    omega
  · rw [if_neg c, if_neg c]
theorem sect_off {s d : List Int} {a n : Nat} (h : 256 * a + d.length ≤ s.length) (h1 : n < a ∨ 256 * a + d.length ≤ 256 * n) : sect n (splice s (256 * a) d) = sect n s := by
  apply List.ext_getElem?
  intro i
  rw [sect_get, sect_get]
  by_cases c : i < 256
  · rw [if_pos c, if_pos c, splice_get h]
    rcases h1 with h1 | h1
    · rw [if_pos (by omega)]
    · rw [if_neg (by omega), if_neg (by omega)]
  · rw [if_neg c, if_neg c]

theorem crashG_sect {x : Int} {a m : Nat} {d s : List Int} (hs : s.length = 256 * m) {q : Nat} (hd : d.length = 256 * q) (hf : a + q ≤ m) (n : Nat) : ∀ k, k ≤ q → sect n (crashG x a d k s) = sect n s ∨ (a ≤ n ∧ n < a + q ∧ sect n (crashG x a d k s) = (d.drop (256 * (n - a))).take 256)
  | 0, _ => .inl rfl
  | k + 1, hk => by
    have ih := crashG_sect (x := x) hs hd hf n k (by omega)
    by_cases hb : keptBit x k = true
    · rw [crashG_yes hb]
      have hl : (crashG x a d k s).length = 256 * m := crashG_length hs (by omega) (by omega)
      have h2 : ((d.drop (256 * k)).take 256).length = 256 := by rw [List.length_take, List.length_drop]; omega
      by_cases hn : n = a + k
      · right
        refine ⟨by omega, by omega, ?_⟩
        rw [sect_at (by rw [h2, hl]; omega) (by omega) (by rw [h2]; omega), hn]
        rw [show a + k - (a + k) = 0 from by omega, show a + k - a = k from by omega, Nat.mul_zero, List.drop_zero, List.take_of_length_le (by omega)]
      · rw [sect_off (by rw [h2, hl]; omega) (by rw [h2]; omega)]
        exact ih
    · rw [crashG_no (by simpa using hb)]
      exact ih
/-- Each group was read in one of the states. -/
def Seen (D : DS) (sts : List (List Int)) : Prop := ∀ g ∈ D.gs, ∃ t : List Int, t.length = 256 * D.n ∧ splice t (256 * g.1) g.2 ∈ sts
theorem crash_seen {D : DS} (ho : D.Ok) {sts : List (List Int)} (h0 : D.safe ∈ sts) (hg : Seen D sts) (kept : List Int) (n : Nat) : ∀ i, i ≤ D.gs.length → ∃ st, st ∈ sts ∧ sect n (crashL kept D.gs i D.safe) = sect n st
  | 0, _ => ⟨_, h0, rfl⟩
  | i + 1, hi => by
    have ih := crash_seen ho h0 hg kept n i (by omega)
    by_cases hk : i < kept.length
    · rw [crashL_at (by omega) hk]
      have hl := crashL_length ho kept (i := i) (by omega)
      obtain ⟨_, q, h1, h2, h3⟩ := ho.gs _ (List.getElem_mem (show i < D.gs.length by omega))
      rw [show D.gs[i].2.length / 256 = q from by omega]
      rcases crashG_sect (x := kept[i]) hl h2 h3 n q (Nat.le_refl _) with e | ⟨e1, e2, e3⟩
      · rw [e]; exact ih
      · obtain ⟨t, ht, hm⟩ := hg _ (List.getElem_mem (show i < D.gs.length by omega))
        refine ⟨_, hm, ?_⟩
        rw [e3, sect_at (by rw [ht]; omega) e1 (by rw [h2]; omega)]
    · rw [crashL_past (by omega)]
      exact ih
theorem safe_write {D : DS} (a : Int) (b : List Int) : (writeD D a b).safe = D.safe := by
  unfold writeD
  split
  · rfl
  · split
    · rfl
    · rfl
theorem seen_write {D : DS} (ho : D.Ok) {sts : List (List Int)} (hg : Seen D sts) (a : Int) (b : List Int) : Seen (writeD D a b) (sts ++ [(writeD D a b).now]) := by
  intro g hgm
  rw [n_write]
  unfold writeD at hgm ⊢
  by_cases h1 : D.dead = true
  · rw [if_pos h1] at hgm ⊢
    obtain ⟨t, ht, hm⟩ := hg g hgm
    exact ⟨t, ht, List.mem_append_left _ hm⟩
  · rw [if_neg h1] at hgm ⊢
    by_cases h2 : wrongD D.n a ↑(secs b) = true
    · rw [if_pos h2] at hgm ⊢
      obtain ⟨t, ht, hm⟩ := hg g hgm
      exact ⟨t, ht, List.mem_append_left _ hm⟩
    · rw [if_neg h2] at hgm ⊢
      rcases List.mem_append.1 hgm with hgm | hgm
      · obtain ⟨t, ht, hm⟩ := hg g hgm
        exact ⟨t, ht, List.mem_append_left _ hm⟩
      · simp at hgm
        subst hgm
        exact ⟨D.now, ho.lnow, List.mem_append_right _ (by show splice _ _ _ ∈ [splice _ _ _]; simp)⟩
theorem n_of {D : DS} {m : Nat} (h : D.safe.length = 256 * m) : D.n = m := by unfold DS.n; omega

/-- The states, in memory. -/
def StsAt (w : World) (N : Nat → Prop) (m : Nat) : List (List Int) → List Value → Prop
  | [], vs => vs = []
  | s :: ss, vs => ∃ (b c : Nat) (r : List Value), vs = .slice (some ⟨b, 0, none⟩) m c :: r ∧ s.length = m ∧ isB s ∧ m ≤ c ∧ c ≤ maxLen ∧ Rd w (some ⟨b, 0, none⟩) (by8 s) ∧ N b ∧ StsAt w N m ss r
section
variable {w w' : World} {N N' : Nat → Prop} {m : Nat}
theorem StsAt.length : ∀ {ss : List (List Int)} {vs : List Value}, StsAt w N m ss vs → vs.length = ss.length
  | [], _, h => by cases h; rfl
  | s :: ss, _, ⟨b, c, r, e, _, _, _, _, _, _, h⟩ => by subst e; simp [h.length]
theorem StsAt.tr {F : Nat → Prop} (ht : Tr F w w') (hF : ∀ b, N b → ¬ F b) (hN : ∀ b, N b → N' b) : ∀ {ss : List (List Int)} {vs : List Value}, StsAt w N m ss vs → StsAt w' N' m ss vs
  | [], _, h => h
  | s :: ss, _, ⟨b, c, r, e, h1, h2, h3, h4, hr, hb, h⟩ => ⟨b, c, r, e, h1, h2, h3, h4, hr.tr ht (fun ad e => by injection e with e; subst e; exact hF _ hb), hN b hb, h.tr ht hF hN⟩
theorem StsAt.one : ∀ {ss : List (List Int)} {vs : List Value}, StsAt w N m ss vs → ∀ u ∈ vs, u.oneCell' = true
  | [], _, h => by cases h; intro u hu; cases hu
  | s :: ss, _, ⟨b, c, r, e, _, _, _, _, _, _, h⟩ => by
    subst e
    intro u hu
    rcases List.mem_cons.1 hu with rfl | hu
    · rfl
    · exact h.one u hu
theorem StsAt.snoc {b c : Nat} {s : List Int} (h1 : s.length = m) (h2 : isB s) (h3 : m ≤ c) (h4 : c ≤ maxLen) (hr : Rd w (some ⟨b, 0, none⟩) (by8 s)) (hb : N b) :
    ∀ {ss : List (List Int)} {vs : List Value}, StsAt w N m ss vs → StsAt w N m (ss ++ [s]) (vs ++ [.slice (some ⟨b, 0, none⟩) m c])
  | [], _, h => by cases h; exact ⟨b, c, [], rfl, h1, h2, h3, h4, hr, hb, rfl⟩
  | _ :: _, _, ⟨b', c', r, e, k1, k2, k3, k4, hr', hb', h⟩ => by subst e; exact ⟨b', c', _, rfl, k1, k2, k3, k4, hr', hb', h.snoc h1 h2 h3 h4 hr hb⟩
theorem StsAt.get : ∀ {ss : List (List Int)} {vs : List Value}, StsAt w N m ss vs → ∀ i (hi : i < ss.length),
    ∃ b c, vs[i]? = some (.slice (some ⟨b, 0, none⟩) m c) ∧ ss[i].length = m ∧ isB ss[i] ∧ m ≤ c ∧ c ≤ maxLen ∧ Rd w (some ⟨b, 0, none⟩) (by8 ss[i]) ∧ N b
  | [], _, _, i, hi => by cases hi
  | s :: ss, _, ⟨b, c, r, e, h1, h2, h3, h4, hr, hb, h⟩, 0, _ => by subst e; exact ⟨b, c, rfl, h1, h2, h3, h4, hr, hb⟩
  | s :: ss, _, ⟨b, c, r, e, _, _, _, _, _, _, h⟩, i + 1, hi => by
    subst e
    obtain ⟨b', c', k1, k2⟩ := h.get i (by simpa using hi)
    exact ⟨b', c', by rw [List.getElem?_cons_succ]; exact k1, k2⟩
end
/-- Is sector n of 'is' one of the first k states'? -/
def okSt (is : List Int) (n : Nat) (sts : List (List Int)) (k : Nat) : Bool := (sts.take k).any fun s => sect n is == sect n s
theorem okSt_zero (is : List Int) (n : Nat) (sts : List (List Int)) : okSt is n sts 0 = false := rfl
theorem okSt_succ {is : List Int} {n k : Nat} {sts : List (List Int)} (h : k < sts.length) : okSt is n sts (k + 1) = (okSt is n sts k || sect n is == sect n sts[k]) := by
  unfold okSt
  rw [List.take_succ_eq_append_getElem h, List.any_append]
  simp
theorem okSt_all {is : List Int} {n : Nat} {sts : List (List Int)} (h : ∃ st, st ∈ sts ∧ sect n is = sect n st) : okSt is n sts sts.length = true := by
  unfold okSt
  rw [List.take_length]
  obtain ⟨st, h1, h2⟩ := h
  exact List.any_eq_true.2 ⟨st, h1, by simp [h2]⟩
theorem str_eqB {l m : List Int} (hl : isB l) (hm : isB m) : ((strOfNums l).toList == (strOfNums m).toList) = (l == m) := by
  rw [strN_list, strN_list]
  by_cases h : l = m
  · subst h; simp
  · rw [beq_eq_false_iff_ne.2 h]
    exact beq_eq_false_iff_ne.2 fun e => h (bytes_inj hl hm e)
end Go.Proofs.Ytadoclcabkcmeaa
