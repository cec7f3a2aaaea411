/- Plain laws of the disk. -/
import Derived.Test.YtadoclcabkcmeaaDisk8
namespace Go.Proofs.Ytadoclcabkcmeaa
set_option linter.unusedVariables false
open Go.RowKit

/-- All the groups laid over bytes. -/
def overD (gs : List (Nat × List Int)) (s : List Int) : List Int := gs.foldl (fun s x => splice s (256 * x.1) x.2) s
theorem overD_snoc (gs : List (Nat × List Int)) (x : Nat × List Int) (s : List Int) : overD (gs ++ [x]) s = splice (overD gs s) (256 * x.1) x.2 := by
  unfold overD
  rw [List.foldl_append]
  rfl
/-- What is read is what is safe, under the groups. -/
def DS.Good (D : DS) : Prop := D.now = overD D.gs D.safe
theorem good_new (l : List Int) : (newD l).Good := rfl
theorem good_put {D : DS} (h : D.Good) (a : Nat) (b : List Int) : (D.put a b).Good := by
  show splice D.now (256 * a) b = overD (D.gs ++ [(a, b)]) D.safe
  rw [overD_snoc, ← h]
theorem good_write {D : DS} (h : D.Good) (a : Int) (b : List Int) : (writeD D a b).Good := by
  unfold writeD
  split
  · exact h
  · split
    · exact h
    · exact good_put h _ _
theorem good_flush {D : DS} (h : D.Good) : (flushD D).Good := by
  unfold flushD
  split
  · exact h
  · split
    · exact h
    · rfl
theorem good_do {D : DS} (h : D.Good) (o : OpS) : (doD D o).Good := by
  unfold doD
  split
  · exact good_write h _ _
  · split
    · exact good_flush h
    · split
      · exact h
      · split
        · rfl
        · exact h
theorem few_write {D : DS} {k : Nat} (h : D.gs.length ≤ k) (a : Int) (b : List Int) : (writeD D a b).gs.length ≤ k + 1 := by
  unfold writeD
  split
  · omega
  · split
    · omega
    · simp [DS.put]; omega
theorem few_do {D : DS} {k : Nat} (h : D.gs.length ≤ k) (o : OpS) : (doD D o).gs.length ≤ k + 1 := by
  unfold doD
  split
  · exact few_write h _ _
  · split
    · unfold flushD
      split
      · omega
      · split
        · show D.gs.length ≤ _; omega
        · simp
    · split
      · show D.gs.length ≤ _; omega
      · split
        · show ([] : List (Nat × List Int)).length ≤ _; simp
        · omega
theorem n_write {D : DS} (a : Int) (b : List Int) : (writeD D a b).n = D.n := by
  unfold writeD
  split
  · rfl
  · split
    · rfl
    · rfl
theorem n_do {D : DS} (ho : D.Ok) (o : OpS) : (doD D o).n = D.n := by
  unfold doD
  split
  · exact n_write _ _
  · split
    · unfold flushD
      split
      · rfl
      · split
        · rfl
        · show D.now.length / 256 = D.safe.length / 256
          rw [ho.lnow, ho.len]
    · split
      · rfl
      · split
        · show (crashL o.l D.gs D.gs.length D.safe).length / 256 = D.safe.length / 256
          rw [crashL_length ho o.l (Nat.le_refl _), ho.len]
        · rfl

theorem splice_splice {s d : List Int} {o m k : Nat} (h : o + (m + k) ≤ s.length) (hd : m + k ≤ d.length) : splice (splice s o (d.take m)) (o + m) ((d.drop m).take k) = splice s o (d.take (m + k)) := by
  unfold splice
  have h1 : (d.take m).length = m := by rw [List.length_take]; omega
  have h2 : ((d.drop m).take k).length = k := by rw [List.length_take, List.length_drop]; omega
  have h3 : (s.take o).length = o := by rw [List.length_take]; omega
  have h4 : (d.take (m + k)).length = m + k := by rw [List.length_take]; omega
  rw [h1, h2, h4]
  have e1 : (s.take o ++ (d.take m ++ s.drop (o + m))).take (o + m) = s.take o ++ d.take m := by
    rw [← List.append_assoc, List.take_append_of_le_length (by rw [List.length_append, h3, h1]; omega), List.take_of_length_le (by rw [List.length_append, h3, h1]; omega)]
  have e2 : (s.take o ++ (d.take m ++ s.drop (o + m))).drop (o + m + k) = s.drop (o + (m + k)) := by
    rw [← List.append_assoc, List.drop_append, List.drop_of_length_le (by rw [List.length_append, h3, h1]; omega), List.nil_append, List.length_append, h3, h1, List.drop_drop]
    congr 1
    omega
  have e3 : d.take (m + k) = d.take m ++ (d.drop m).take k := by rw [List.take_add]
  rw [e1, e2, e3]
  simp [List.append_assoc]

theorem splice_step {s d : List Int} {o m k t : Nat} (ht : m + k = t) (h : o + t ≤ s.length) (hd : t ≤ d.length) : splice (splice s o (d.take m)) (o + m) ((d.drop m).take k) = splice s o (d.take t) := by
  subst ht
  exact splice_splice h hd
theorem kept_all (k : Nat) : keptBit (-1) k = true := by
  unfold keptBit
  have h : (-1 : Int) / 2 ^ (k % 16) = -1 := by
    have h2 : (0 : Int) < 2 ^ (k % 16) := Int.pow_pos (by omega)
    have := Int.negSucc_ediv 0 h2
    rw [show (Int.negSucc 0) = -1 from rfl] at this
    rw [this, show Int.ediv ((0 : Nat) : Int) (2 ^ (k % 16)) = 0 from Int.zero_ediv _]
    rfl
  rw [h]
  rfl
theorem crashG_all {at_ : Nat} {d s : List Int} : ∀ k, 256 * k ≤ d.length → 256 * (at_ + k) ≤ s.length → crashG (-1) at_ d k s = splice s (256 * at_) (d.take (256 * k))
  | 0, _, h => by
    show s = splice s (256 * at_) (d.take 0)
    unfold splice
    simp
  | k + 1, h1, h2 => by
    have e1 : 256 * (at_ + k) = 256 * at_ + 256 * k := Nat.mul_add ..
    have e0 : 256 * k + 256 = 256 * (k + 1) := (Nat.mul_succ 256 k).symm
    have e2 := splice_step (s := s) (d := d) (o := 256 * at_) e0 (by rw [← Nat.mul_add]; exact h2) h1
    rw [crashG_yes (kept_all k), crashG_all k (by omega) (by omega), e1, e2]
theorem crashL_all {D : DS} (ho : D.Ok) (m : Nat) (hm : D.gs.length ≤ m) : ∀ i, i ≤ D.gs.length → crashL (List.replicate m (-1)) D.gs i D.safe = overD (D.gs.take i) D.safe
  | 0, _ => rfl
  | i + 1, h => by
    rw [crashL_at (by omega) (by rw [List.length_replicate]; omega), List.getElem_replicate, crashL_all ho m hm i (by omega), List.take_succ_eq_append_getElem (by omega), overD_snoc]
    obtain ⟨_, q, h3, h4, h5⟩ := ho.gs _ (List.getElem_mem (show i < D.gs.length by omega))
    have hl := crashL_length ho (List.replicate m (-1)) (i := i) (by omega)
    rw [crashL_all ho m hm i (by omega)] at hl
    have h6 := crashG_all (at_ := D.gs[i].1) (d := D.gs[i].2) (s := overD (D.gs.take i) D.safe) (D.gs[i].2.length / 256) (by omega) (by rw [hl]; omega)
    rw [h6, List.take_of_length_le (l := D.gs[i].2) (by omega)]
theorem crash_all {D : DS} (ho : D.Ok) (hg : D.Good) (m : Nat) (hm : D.gs.length ≤ m) : crashD D (List.replicate m (-1)) = newD D.now := by
  unfold crashD
  rw [crashL_all ho m hm _ (Nat.le_refl _), List.take_length, ← hg]
theorem crashL_none {gs : List (Nat × List Int)} {s : List Int} : ∀ i, crashL [] gs i s = s
  | 0 => rfl
  | i + 1 => by rw [crashL_past (by simp), crashL_none i]
theorem crash_none (D : DS) : crashD D [] = newD D.safe := by
  unfold crashD
  rw [crashL_none]
end Go.Proofs.Ytadoclcabkcmeaa
