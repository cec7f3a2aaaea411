/- Plain laws of reservations: who registers first plays no part; a key with two holders is preempted of both. -/
import Derived.Test.YtlkdglhbncnkhaaResvPlain3
namespace Go.Proofs.Ytlkdglhbncnkhaa
set_option linter.unusedVariables false
open Go.RowKit

def regC (v : Int) : RC := ⟨0, 0, v, 0⟩
theorem reg_do {s : RS} {n : Nat} (hn : n < 16) {v : Int} (hv : v ≠ 0) (hk : s.key n = 0) : (doO s n (regC v)).s = (s.take n v).bump := by
  unfold doO
  rw [if_neg (by omega), if_pos (.inl rfl), Int.toNat_natCast]
  show (registerO s n (regC v) zeros16).s = _
  unfold registerO
  rw [if_neg (by rw [hk]; simp [regC]), if_pos (show (regC v).new ≠ 0 from hv)]
  rfl
/-- The state where a has key, b has key, c has own. -/
def s3 (a b c : Nat) (key own : Int) : RS := ⟨(((List.replicate 16 0).set a key).set b key).set c own, List.replicate 16 false, -1, 0, 3⟩
def s1 (a : Nat) (v : Int) : RS := ⟨(List.replicate 16 0).set a v, List.replicate 16 false, -1, 0, 1⟩
def s2 (a b : Nat) (v u : Int) : RS := ⟨((List.replicate 16 0).set a v).set b u, List.replicate 16 false, -1, 0, 2⟩
theorem set_false (n : Nat) : (List.replicate 16 false).set n false = List.replicate 16 false := by
  apply List.ext_getElem?
  intro i
  rw [List.getElem?_set]
  split
  · rename_i h; subst h
    split
    · rename_i h; rw [List.getElem?_replicate, if_pos (by simpa using h)]
    · rename_i h; rw [List.getElem?_replicate, if_neg (by simpa using h)]
  · rfl
theorem get0 (n : Nat) : ((List.replicate 16 (0 : Int))[n]?).getD 0 = 0 := by
  rw [List.getElem?_replicate]; split <;> rfl
theorem do1 {a : Nat} (ha : a < 16) {v : Int} (hv : v ≠ 0) : (doO newRS a (regC v)).s = s1 a v := by
  rw [reg_do ha hv (show newRS.key a = 0 from get0 a)]
  unfold RS.take RS.bump newRS s1
  rw [set_false]
  rfl
theorem do2 {a b : Nat} (hb : b < 16) (hab : a ≠ b) {v u : Int} (hu : u ≠ 0) : (doO (s1 a v) b (regC u)).s = s2 a b v u := by
  rw [reg_do hb hu (by show (((List.replicate 16 (0 : Int)).set a v)[b]?).getD 0 = 0; rw [List.getElem?_set_ne hab]; exact get0 b)]
  unfold RS.take RS.bump s1 s2
  rw [set_false]
  rfl
theorem do3 {a b c : Nat} (hc : c < 16) (hac : a ≠ c) (hbc : b ≠ c) {v u x : Int} (hx : x ≠ 0) : (doO (s2 a b v u) c (regC x)).s = ⟨(((List.replicate 16 0).set a v).set b u).set c x, List.replicate 16 false, -1, 0, 3⟩ := by
  rw [reg_do hc hx (by show ((((List.replicate 16 (0 : Int)).set a v).set b u)[c]?).getD 0 = 0; rw [List.getElem?_set_ne hbc, List.getElem?_set_ne hac]; exact get0 c)]
  unfold RS.take RS.bump s2
  rw [set_false]
  rfl
theorem do3b {a b c : Nat} (ha : a < 16) (hac : a ≠ c) (hab : a ≠ b) (hbc : b ≠ c) {key own : Int} (hx : key ≠ 0) : (doO (s2 c b own key) a (regC key)).s = s3 a b c key own := by
  rw [do3 ha (Ne.symm hac) (Ne.symm hab) hx]
  unfold s3
  congr 1
  rw [List.set_comm key key (Ne.symm hab), List.set_comm own key (Ne.symm hac), List.set_comm own key (Ne.symm hbc)]
theorem s3_key (a b c : Nat) (key own : Int) (ha : a < 16) (hb : b < 16) (hc : c < 16) (n : Nat) : (s3 a b c key own).key n = if n = c then own else if n = b then key else if n = a then key else 0 := by
  show ((((List.replicate 16 (0 : Int)).set a key).set b key).set c own)[n]?.getD 0 = _
  rw [List.getElem?_set, List.getElem?_set, List.getElem?_set]
  simp only [List.length_set, List.length_replicate]
  by_cases h1 : n = c
  · subst h1; simp [hc]
  · rw [if_neg (Ne.symm h1), if_neg h1]
    by_cases h2 : n = b
    · subst h2; simp [hb]
    · rw [if_neg (Ne.symm h2), if_neg h2]
      by_cases h3 : n = a
      · subst h3; simp [ha]
      · rw [if_neg (Ne.symm h3), if_neg h3]; exact get0 n
theorem s3_ok (a b c : Nat) {key own : Int} (hk : 0 ≤ key ∧ key < 18446744073709551616) (ho : 0 ≤ own ∧ own < 18446744073709551616) : (s3 a b c key own).Ok :=
  ⟨by simp [s3], by simp [s3], mem_set_u (mem_set_u (mem_set_u (fun x hx => by rw [List.eq_of_mem_replicate hx]; omega) hk) hk) ho, by show (0 : Int) ≤ 3 ∧ (3 : Int) < 4294967296; omega, .inl ⟨rfl, rfl⟩⟩
def preC (key own : Int) : RC := ⟨4, own, key, 1⟩
section
variable {a b c : Nat} {key own : Int}
theorem met_iff (ha : a < 16) (hb : b < 16) (hc : c < 16) (hab : a ≠ b) (hac : a ≠ c) (hbc : b ≠ c) (hk : key ≠ 0) (hne : key ≠ own) (n : Nat) :
    metB (s3 a b c key own) (preC key own) n = decide (n = a ∨ n = b) := by
  unfold metB
  rw [s3_key a b c key own ha hb hc n]
  show _ = _
  by_cases h1 : n = c
  · subst h1
    have e1 : ¬ (n = a ∨ n = b) := by omega
    rw [decide_eq_false e1]
    have e2 : own ≠ key := Ne.symm hne
    simp [preC, hk, e2]
  · by_cases h2 : n = b
    · subst h2
      simp [h1, preC, hk]
    · by_cases h3 : n = a
      · subst h3
        simp [h1, h2, preC, hk]
      · simp [h1, h2, h3, preC]
theorem pre_l (s : RS) (m : Nat) (p : RC) (l : List Int) (n : Nat) (hn : n < l.length) : ∀ k, (preTo s m p l k).l.length = l.length ∧ (preTo s m p l k).l[n]? = if n < k ∧ n ≠ m ∧ metB s p n = true then some 5 else l[n]?
  | 0 => by simp [preTo]
  | k + 1 => by
    obtain ⟨h0, h1⟩ := pre_l s m p l n hn k
    by_cases hm : metB s p k = false
    · rw [preTo, if_pos hm, h1]
      refine ⟨h0, ?_⟩
      by_cases e : n = k
      · subst e
        rw [if_neg (by omega), if_neg (by rw [hm]; simp)]
      · have : (n < k ∧ n ≠ m ∧ metB s p n = true) ↔ (n < k + 1 ∧ n ≠ m ∧ metB s p n = true) := by constructor <;> (rintro ⟨x, y, z⟩; exact ⟨by omega, y, z⟩)
        simp only [this]
    · rw [preTo, if_neg hm]
      by_cases hkm : k = m
      · rw [if_pos hkm]
        refine ⟨h0, ?_⟩
        rw [h1]
        by_cases e : n = k
        · rw [if_neg (by omega), if_neg (by omega)]
        · have : (n < k ∧ n ≠ m ∧ metB s p n = true) ↔ (n < k + 1 ∧ n ≠ m ∧ metB s p n = true) := by constructor <;> (rintro ⟨x, y, z⟩; exact ⟨by omega, y, z⟩)
          simp only [this]
      · rw [if_neg hkm]
        refine ⟨by simp [h0], ?_⟩
        show ((preTo s m p l k).l.set k 5)[n]? = _
        rw [List.getElem?_set]
        by_cases e : k = n
        · subst e
          rw [if_pos rfl, if_pos (by omega), if_pos ⟨by omega, hkm, by simpa using hm⟩]
        · rw [if_neg e, h1]
          have : (n < k ∧ n ≠ m ∧ metB s p n = true) ↔ (n < k + 1 ∧ n ≠ m ∧ metB s p n = true) := by constructor <;> (rintro ⟨x, y, z⟩; exact ⟨by omega, y, z⟩)
          simp only [this]
theorem pre_any (s : RS) (m : Nat) (p : RC) (l : List Int) {n : Nat} (hm : metB s p n = true) : ∀ k, n < k → (preTo s m p l k).any = true
  | 0, h => by omega
  | k + 1, h => by
    rw [preTo]
    by_cases e : n = k
    · subst e
      rw [if_neg (by rw [hm]; simp)]
      split <;> rfl
    · have ih := pre_any s m p l hm k (by omega)
      split
      · exact ih
      · split <;> rfl
theorem pre_kind (s : RS) (m : Nat) (p : RC) (l : List Int) : ∀ k, (preTo s m p l k).s.kind = s.kind
  | 0 => rfl
  | k + 1 => by
    have ih := pre_kind s m p l k
    rw [preTo]
    split
    · exact ih
    · split
      · exact ih
      · exact ih
theorem two_notes : ∀ a b : Fin 16, a ≠ b → (notesTo ((zeros16.set a 5).set b 5) 16).length = 2 := by decide +kernel
/-- What comes of the preempting. -/
structure Pre3 (a b c : Nat) (key own : Int) (o : DoOut) : Prop where
  r : o.r = goodR
  n : o.ns.length = 2
  ka : o.s.key a = 0
  kb : o.s.key b = 0
  kc : o.s.key c = own
  wa : mayW o.s a = false
  wb : mayW o.s b = false
  wc : mayW o.s c = true
  ra : mayR o.s a = true
theorem pre3 (ha : a < 16) (hb : b < 16) (hc : c < 16) (hab : a ≠ b) (hac : a ≠ c) (hbc : b ≠ c) (hk : key ≠ 0) (ho : own ≠ 0) (hne : key ≠ own)
    (hk' : 0 ≤ key ∧ key < 18446744073709551616) (ho' : 0 ≤ own ∧ own < 18446744073709551616) : Pre3 a b c key own (doO (s3 a b c key own) c (preC key own)) := by
  have hok := s3_ok a b c hk' ho'
  have hkc : (s3 a b c key own).key c = own := by rw [s3_key _ _ _ _ _ ha hb hc, if_pos rfl]
  have hmet := met_iff ha hb hc hab hac hbc hk hne
  have hany : (preTo (s3 a b c key own) c (preC key own) zeros16 16).any = true := pre_any _ _ _ _ (n := a) (by rw [hmet]; simp) 16 ha
  have hkey := fun n => preTo_key hok c (preC key own) zeros16 n 16 (by omega)
  have kc : (preTo (s3 a b c key own) c (preC key own) zeros16 16).s.key c = own := by rw [(hkey c).1, if_neg (by simp), hkc]
  have ka : (preTo (s3 a b c key own) c (preC key own) zeros16 16).s.key a = 0 := by rw [(hkey a).1, if_pos ⟨ha, hac, by rw [hmet]; simp⟩]
  have kb : (preTo (s3 a b c key own) c (preC key own) zeros16 16).s.key b = 0 := by rw [(hkey b).1, if_pos ⟨hb, hbc, by rw [hmet]; simp⟩]
  have fa : (preTo (s3 a b c key own) c (preC key own) zeros16 16).s.fen a = true := by rw [(hkey a).2, if_pos ⟨ha, hac, by rw [hmet]; simp⟩]
  have fb : (preTo (s3 a b c key own) c (preC key own) zeros16 16).s.fen b = true := by rw [(hkey b).2, if_pos ⟨hb, hbc, by rw [hmet]; simp⟩]
  have fc : (preTo (s3 a b c key own) c (preC key own) zeros16 16).s.fen c = false := by
    rw [(hkey c).2, if_neg (by simp)]
    show ((List.replicate 16 false)[c]?).getD false = false
    rw [List.getElem?_replicate, if_pos hc]; rfl
  have hkd : (preTo (s3 a b c key own) c (preC key own) zeros16 16).s.kind = 0 := pre_kind _ _ _ _ 16
  have hem : (preTo (s3 a b c key own) c (preC key own) zeros16 16).s.empty ≠ true := by
    intro h
    have h2 := List.all_eq_true.1 h
    unfold RS.key at kc
    rcases hx : (preTo (s3 a b c key own) c (preC key own) zeros16 16).s.keys[c]? with _ | x
    · rw [hx] at kc; exact ho kc.symm
    · rw [hx] at kc
      have := h2 x (List.mem_of_getElem? hx)
      simp at this kc
      omega
  have hl : (preTo (s3 a b c key own) c (preC key own) zeros16 16).l = (zeros16.set a 5).set b 5 := by
    apply List.ext_getElem?
    intro n
    by_cases hn : n < 16
    · rw [(pre_l _ c _ zeros16 n (by simpa [zeros16] using hn) 16).2, hmet, List.getElem?_set, List.getElem?_set]
      simp only [List.length_set]
      have hz : zeros16.length = 16 := rfl
      by_cases h2 : b = n
      · subst h2
        rw [if_pos ⟨hn, hbc, by simp⟩, if_pos rfl, if_pos (by omega)]
      · rw [if_neg h2]
        by_cases h3 : a = n
        · subst h3
          rw [if_pos ⟨hn, hac, by simp⟩, if_pos rfl, if_pos (by omega)]
        · rw [if_neg h3, if_neg (by simp; omega)]
    · have l1 := (pre_l (s3 a b c key own) c (preC key own) zeros16 0 (by decide) 16).1
      have hz : zeros16.length = 16 := rfl
      rw [List.getElem?_eq_none (by omega), List.getElem?_eq_none (by simp; omega)]
  have hreg : regB (s3 a b c key own) c (preC key own) = true := by
    unfold regB
    rw [hkc]
    show (own != 0 && own == own) = true
    simp [ho]
  have htk : takesB (s3 a b c key own) (preC key own) = false := by
    unfold takesB
    simp [s3, preC, RS.each]
  have hO : doO (s3 a b c key own) c (preC key own) = ran ⟨(preTo (s3 a b c key own) c (preC key own) zeros16 16).s.bump, (preTo (s3 a b c key own) c (preC key own) zeros16 16).l, goodR⟩ := by
    unfold doO
    rw [if_neg (by omega), if_neg (by simp [preC]), if_pos (.inr (.inr (.inr rfl))), Int.toNat_natCast, hreg, if_neg (by simp), if_neg (by simp [preC]), if_neg (by simp [preC]), if_neg (by simp [preC])]
    unfold preemptO
    rw [if_neg (show ¬ rightK (preC key own).kind = false from by show ¬ rightK 1 = false; decide), if_neg (by intro h; exact hk h.2), if_neg (by rw [htk]; simp), hany, if_neg (by simp), if_neg hem]
  rw [hO]
  refine ⟨rfl, ?_, ka, kb, kc, ?_, ?_, ?_, ?_⟩
  · show (notesTo (preTo (s3 a b c key own) c (preC key own) zeros16 16).l 16).length = 2
    rw [hl]
    exact two_notes ⟨a, ha⟩ ⟨b, hb⟩ (by intro h; injection h with h; exact hab h)
  · show mayW (preTo (s3 a b c key own) c (preC key own) zeros16 16).s.bump a = false
    unfold mayW
    show (!(preTo (s3 a b c key own) c (preC key own) zeros16 16).s.fen a && _) = false
    rw [fa]; rfl
  · show mayW (preTo (s3 a b c key own) c (preC key own) zeros16 16).s.bump b = false
    unfold mayW
    show (!(preTo (s3 a b c key own) c (preC key own) zeros16 16).s.fen b && _) = false
    rw [fb]; rfl
  · show mayW (preTo (s3 a b c key own) c (preC key own) zeros16 16).s.bump c = true
    unfold mayW
    show (!(preTo (s3 a b c key own) c (preC key own) zeros16 16).s.fen c && ((preTo (s3 a b c key own) c (preC key own) zeros16 16).s.kind == 0 || _)) = true
    rw [fc, hkd]; rfl
  · show mayR (preTo (s3 a b c key own) c (preC key own) zeros16 16).s.bump a = true
    unfold mayR
    show ((preTo (s3 a b c key own) c (preC key own) zeros16 16).s.kind == 0 || _) = true
    rw [hkd]; rfl
end
end Go.Proofs.Ytlkdglhbncnkhaa
