/- Layer 6, plainly: what stands on a disk; what a call leaves standing. -/
import Derived.Test.YthlijldapoeepaaGreatM4
import Derived.Test.YthlijldapoeepaaGreatM20
namespace Go.Proofs.YthlijldapoeepaaGreat
set_option linter.unusedVariables false
set_option linter.unusedSimpArgs false
set_option maxRecDepth 100000
open Go.RowKit
open Dk (sect)

/-! ### a state's sector, read back -/
theorem unb_be : ∀ (k : Nat) (n : Int), 0 ≤ n → n < 256 ^ k → unb (be k n) = n
  | 0, n, h0, h1 => by
    have : n = 0 := by simp at h1; omega
    subst this
    rfl
  | k + 1, n, h0, h1 => by
    have hp : (256 : Int) ^ (k + 1) = 256 ^ k * 256 := Int.pow_succ ..
    rw [hp] at h1
    have ih := unb_be k (n / 256) (by omega) (by omega)
    show unb (be k (n / 256) ++ [n % 256]) = n
    rw [unb_snoc, ih]
    omega
theorem okL_seal {l : List Int} : okL (sealL l) = true := by
  unfold okL sealL
  have hl : (be 4 (crc l)).length = 4 := be_length 4 _
  have h := crc_u l
  unfold isU at h
  rw [List.take_left' hl, List.drop_left' hl, unb_be 4 _ h.1 (by rw [show (256 : Int) ^ 4 = 4294967296 from rfl]; omega)]
  exact decide_eq_true rfl
theorem be8_at (a : Int) (r : List Int) (h : 0 ≤ a ∧ a < 9223372036854775808) : wrap64 (unb ((be 8 a ++ r).take 8)) = a := by
  have hl : (be 8 a).length = 8 := be_length 8 _
  rw [List.take_left' hl, unb_be 8 a h.1 (by rw [show (256 : Int) ^ 8 = 18446744073709551616 from rfl]; omega)]
  unfold wrap64
  omega
theorem be8_drop (a : Int) (r : List Int) (k : Nat) : (be 8 a ++ r).drop (8 + k) = r.drop k := by
  have hl : (be 8 a).length = 8 := be_length 8 _
  rw [← List.drop_drop, List.drop_left' hl]
theorem rawST_list {x : ST} (h : x.pos) : rawST x.list = x := by
  have e : x.list = be 8 x.gen ++ (be 8 x.n ++ (be 8 x.area ++ (be 8 x.op ++ List.replicate 220 0))) := by simp [ST.list, n8]
  unfold rawST
  rw [e]
  obtain ⟨h1, h2, h3, h4⟩ := h
  have d8 : (be 8 x.gen ++ (be 8 x.n ++ (be 8 x.area ++ (be 8 x.op ++ List.replicate 220 0)))).drop 8 = be 8 x.n ++ (be 8 x.area ++ (be 8 x.op ++ List.replicate 220 0)) := be8_drop _ _ 0
  have d16 : (be 8 x.gen ++ (be 8 x.n ++ (be 8 x.area ++ (be 8 x.op ++ List.replicate 220 0)))).drop 16 = be 8 x.area ++ (be 8 x.op ++ List.replicate 220 0) := by rw [show 16 = 8 + 8 from rfl, be8_drop]; exact be8_drop _ _ 0
  have d24 : (be 8 x.gen ++ (be 8 x.n ++ (be 8 x.area ++ (be 8 x.op ++ List.replicate 220 0)))).drop 24 = be 8 x.op ++ List.replicate 220 0 := by rw [show 24 = 8 + 16 from rfl, be8_drop, show 16 = 8 + 8 from rfl, be8_drop]; exact be8_drop _ _ 0
  rw [d8, d16, d24, be8_at _ _ h1, be8_at _ _ h2, be8_at _ _ h3, be8_at _ _ h4]
theorem readST_sector {x : ST} (h : x.pos) (hg : x.good) : readST x.sector = x := by
  have hd : x.sector.drop 4 = x.list := by
    unfold ST.sector sealL
    exact List.drop_left' (be_length 4 _)
  unfold readST
  rw [hd, rawST_list h]
  exact if_pos ⟨okL_seal, hg⟩

/-! ### what a write leaves in a sector -/
theorem pad_256 {l : List Int} (h : l.length = 256) : Dk.pad l = l := by unfold Dk.pad Dk.secs; rw [h]; simp
theorem now_write {D : Dk.DS} (ho : D.Ok) {a : Nat} {l : List Int} (hE : Dk.writeE D (a : Nat) l = 0) (z : Nat) :
    sect z (Dk.writeD D (a : Nat) l).now = if a ≤ z ∧ z < a + Dk.secs l then ((Dk.pad l).drop (256 * (z - a))).take 256 else sect z D.now := by
  have hd : D.dead = false := by
    unfold Dk.writeE at hE
    cases h : D.dead with
    | false => rfl
    | true => rw [h] at hE; simp at hE
  have hw : Dk.wrongD D.n (a : Nat) (Dk.secs l) = false := by
    unfold Dk.writeE at hE
    rw [hd] at hE
    cases h : Dk.wrongD D.n (a : Nat) (Dk.secs l) with
    | false => rfl
    | true => rw [h] at hE; simp at hE
  obtain ⟨q1, q2, q3, q4⟩ := Dk.wrongD_no hw
  have e : (Dk.writeD D (a : Nat) l).now = splice D.now (256 * a) (Dk.pad l) := by
    unfold Dk.writeD
    rw [hd, hw]
    simp [Dk.DS.put]
  have hp := Dk.pad_length l
  have hn := ho.lnow
  rw [e]
  by_cases h : a ≤ z ∧ z < a + Dk.secs l
  · rw [if_pos h]
    exact Dk.sect_at (by rw [hp, hn]; omega) h.1 (by rw [hp]; omega)
  · rw [if_neg h]
    exact Dk.sect_off (by rw [hp, hn]; omega) (by rw [hp]; omega)
theorem flush_now (D : Dk.DS) : (Dk.flushD D).now = D.now := by unfold Dk.flushD; split; rfl; split <;> rfl
theorem mark_now {D : Dk.DS} (h : Calm D) {F : Nat} {x : ST} (hF : F + 2 ≤ D.n) (z : Nat) : sect z (markD D F x).now = if z = markAt F x then x.sector else sect z D.now := by
  have hs : Dk.secs x.sector = 1 := by unfold Dk.secs; rw [x.sector_length]
  have h1 : Dk.writeE D (markAt F x : Nat) x.sector = 0 := h.writeE (by omega) (by unfold markAt; omega)
  unfold markD
  rw [if_pos h1, flush_now, now_write h.ok h1, hs, pad_256 x.sector_length]
  by_cases e : z = markAt F x
  · subst e
    rw [if_pos (by omega), if_pos rfl, Nat.sub_self, Nat.mul_zero, List.drop_zero, List.take_of_length_le (by rw [x.sector_length]; omega)]
  · rw [if_neg (by omega), if_neg e]
theorem rows_now {D : Dk.DS} (h : Calm D) {F a : Nat} {L : List (List Int)} (hL : ImgOk L) (ha : a ≤ 1) (hF : F + 19 + 2 * rowsN L.length ≤ D.n) (z : Nat) : ∀ (ks : List Nat), (∀ k ∈ ks, k < rowsN L.length) →
    (∀ k ∈ ks, z = rowAt F L.length a k → ∃ t, sect z (rowsD D F a L ks).now = rowL L k ++ t) ∧ ((∀ k ∈ ks, z ≠ rowAt F L.length a k) → sect z (rowsD D F a L ks).now = sect z D.now) := by
  intro ks
  induction ks using snocInd with
  | h0 => exact fun _ => ⟨(fun k hk => by cases hk), fun _ => rfl⟩
  | hs ks k ih =>
    intro hk
    obtain ⟨i1, i2⟩ := ih (fun j hj => hk j (by simp [hj]))
    have hkk := hk k (by simp)
    have hc := h.rowsD (F := F) (a := a) hL ks
    obtain ⟨e1, e2, e3, e4, _⟩ := rowsD_keeps D F a L ks
    have hE := writeE_row hL hc.dead (F := F) (a := a) (k := k) ha hkk (by rw [e1]; exact hF)
    have hs : Dk.secs (rowL L k) = 1 := by unfold Dk.secs; rw [rowL_length hL]
    have hnw := now_write hc.ok hE z
    rw [← rowsD_snoc, hs] at hnw
    have hpd : ∃ t, ((Dk.pad (rowL L k)).drop (256 * 0)).take 256 = rowL L k ++ t := by
      refine ⟨List.replicate (256 * Dk.secs (rowL L k) - (rowL L k).length) 0, ?_⟩
      rw [Nat.mul_zero, List.drop_zero]
      have := Dk.pad_length (rowL L k)
      rw [hs] at this
      rw [List.take_of_length_le (by omega)]
      rfl
    constructor
    · intro j hj hz
      by_cases e : z = rowAt F L.length a k
      · have : j = k := by unfold rowAt at hz e; omega
        subst this
        rw [hnw, if_pos (by omega)]
        rw [show z - rowAt F L.length a j = 0 by omega]
        exact hpd
      · rw [hnw, if_neg (by omega)]
        rcases List.mem_append.1 hj with hj | hj
        · exact i1 j hj hz
        · simp at hj; subst hj; exact absurd hz e
    · intro hz
      rw [hnw, if_neg (by have := hz k (by simp); omega)]
      exact i2 (fun j hj => hz j (by simp [hj]))

/-! ### what stands -/
def Slots (c : List Int) (F : Nat) (x : ST) : Prop :=
  (x = ST.zero ∧ readST (sect F c) = ST.zero ∧ readST (sect (F + 1) c) = ST.zero) ∨
  (1 ≤ x.gen ∧ readST (sect (F + x.gen.toNat % 2) c) = x ∧ (readST (sect (F + (x.gen.toNat + 1) % 2) c)).gen < x.gen)
def RowsC (c : List Int) (F n a : Nat) (L : List (List Int)) : Prop := ∀ k, k < rowsN n → ∃ t, sect (rowAt F n a k) c = rowL L k ++ t
theorem Slots.gen {c : List Int} {F : Nat} {x : ST} (h : Slots c F x) : 0 ≤ x.gen := by
  rcases h with ⟨rfl, _⟩ | ⟨h, _⟩
  · decide
  · omega
theorem readD_sect {D : Dk.DS} {z : Nat} (h : z < D.n) : Dk.readD D (z : Nat) 1 = sect z D.now := by
  unfold Dk.readD
  have hw : Dk.wrongD D.n (z : Nat) 1 = false := by unfold Dk.wrongD; rw [decide_eq_false_iff_not]; omega
  rw [hw]
  simp [sect]
theorem slots_top {D : Dk.DS} {F : Nat} {x : ST} (h : Slots D.now F x) (hF : F + 2 ≤ D.n) : top D F = x := by
  have b0 := readST_bounds (sect F D.now)
  have b1 := readST_bounds (sect (F + 1) D.now)
  have e : top D F = if (readST (sect (F + 1) D.now)).gen > (if (readST (sect F D.now)).gen > 0 then readST (sect F D.now) else ST.zero).gen then readST (sect (F + 1) D.now) else if (readST (sect F D.now)).gen > 0 then readST (sect F D.now) else ST.zero := by
    unfold top
    rw [topTo, topTo, topTo, readD_sect (z := F + 0) (by omega), readD_sect (z := F + 1) (by omega)]
    rfl
  rw [e]
  rcases h with ⟨rfl, h0, h1⟩ | ⟨hg, h0, h1⟩
  · rw [h0, h1]; rfl
  · rcases (by omega : x.gen.toNat % 2 = 0 ∨ x.gen.toNat % 2 = 1) with hm | hm
    · rw [hm, Nat.add_zero] at h0
      rw [show (x.gen.toNat + 1) % 2 = 1 by omega] at h1
      have e2 : (if x.gen > 0 then x else ST.zero) = x := if_pos (by omega)
      rw [h0, e2]
      exact if_neg (by omega)
    · rw [hm] at h0
      rw [show (x.gen.toNat + 1) % 2 = 0 by omega, Nat.add_zero] at h1
      rw [h0]
      apply if_pos
      split
      · exact h1
      · show x.gen > 0
        omega
theorem Slots.mark {c c' : List Int} {F : Nat} {x x' : ST} (h : Slots c F x) (hg : x'.gen = x.gen + 1) (hp : x'.pos) (hgd : x'.good) (hc : ∀ z, F ≤ z → z < F + 2 → sect z c' = if z = markAt F x' then x'.sector else sect z c) : Slots c' F x' := by
  have hx := h.gen
  have hr := readST_sector hp hgd
  refine .inr ⟨by omega, ?_, ?_⟩
  · rw [hc _ (by omega) (by omega), if_pos (show F + x'.gen.toNat % 2 = markAt F x' from rfl), hr]
  · rw [hc _ (by omega) (by omega), if_neg (by unfold markAt; omega)]
    rcases h with ⟨rfl, h0, h1⟩ | ⟨hgg, h0, h1⟩
    · have e : x'.gen = 1 := hg
      rw [e]
      show (readST (sect (F + 0) c)).gen < 1
      rw [Nat.add_zero, h0]
      decide
    · rw [show (x'.gen.toNat + 1) % 2 = x.gen.toNat % 2 by omega, h0]
      omega
theorem Slots.same {c c' : List Int} {F : Nat} {x : ST} (h : Slots c F x) (hc : ∀ z, F ≤ z → z < F + 2 → sect z c' = sect z c) : Slots c' F x := by
  rcases h with ⟨h, h0, h1⟩ | ⟨hg, h0, h1⟩
  · exact .inl ⟨h, by rw [hc _ (by omega) (by omega)]; exact h0, by rw [hc _ (by omega) (by omega)]; exact h1⟩
  · exact .inr ⟨hg, by rw [hc _ (by omega) (by omega)]; exact h0, by rw [hc _ (by omega) (by omega)]; exact h1⟩
theorem bk_chTo (j : Nat) : ∀ (l : List ChS) (L : List (List Int)), (∀ y ∈ l, y.lba.toNat ≠ j) → bk (chTo L l) j = bk L j
  | [], _, _ => rfl
  | y :: l, L, h => by
    show bk (chTo (L.set y.lba.toNat y.d) l) j = _
    rw [bk_chTo j l _ (fun z hz => h z (by simp [hz]))]
    have := h y (by simp)
    unfold bk
    rw [List.getElem?_set_ne this]
theorem rowL_congr {L M : List (List Int)} {k : Nat} (h : ∀ i, i < 3 → bk L (3 * k + i) = bk M (3 * k + i)) : rowL L k = rowL M k := by
  have hc : ∀ i, i < 3 → cellL L (3 * k + i) = cellL M (3 * k + i) := fun i hi => by unfold cellL bv; rw [h i hi]
  unfold rowL
  simp only [rowTo]
  rw [hc 0 (by omega), hc 1 (by omega), hc 2 (by omega)]
theorem rowL_off {L : List (List Int)} {l : List ChS} {k : Nat} (hk : k < 86) (hl : ∀ y ∈ l, 0 ≤ y.lba) (h : k ∉ rowsT l) : rowL (chTo L l) k = rowL L k := rowL_congr (fun i hi => bk_chTo _ l L (fun y hy e => h (rowsT_mem.2 ⟨hk, y, hy, by have := hl y hy; omega⟩)))
theorem RowsC.load {D : Dk.DS} {F a : Nat} {L : List (List Int)} (h : RowsC D.now F L.length a L) (hL : ImgOk L) (ha : a ≤ 1) (hF : F + 19 + 2 * rowsN L.length ≤ D.n) : LoadOk D F a L :=
  ⟨hL, fun k hk => by
    rw [readD_sect (by unfold rowAt; rcases (by omega : a = 0 ∨ a = 1) with rfl | rfl <;> omega)]
    exact h k hk, hF⟩

/-! ### calls where no disk fails -/
structure PInv (D : Dk.DS) (F : Nat) (x : ST) (L : List (List Int)) (b : Nat) : Prop where
  calm : Calm D
  fit : F + 19 + 2 * rowsN L.length ≤ D.n
  few : D.gs.length < 800000
  gen : x.gen ≤ b
  pos : x.pos
  nn : x.n ≤ 1152921504606846976
  area : x.area ≤ 1
  op : x.op = 0
  hF : F ≤ 100000
  slots : Slots D.now F x
  rows : RowsC D.now F L.length x.area.toNat L
  ok : ImgOk L
theorem PInv.ready {D : Dk.DS} {F : Nat} {x : ST} {L : List (List Int)} {b : Nat} (h : PInv D F x L b) (hb : b < 900000) : Ready D F x L.length :=
  ⟨h.calm.dead, h.fit, h.few, ⟨x.gen.toNat, by have := h.slots.gen; omega, by have := h.gen; have := h.slots.gen; omega⟩, h.pos, ⟨x.area.toNat, by have := h.pos.2.2.1.1; omega, by have := h.area; omega⟩, h.hF⟩
theorem next_good {x : ST} {n a o : Int} (h1 : 0 ≤ x.gen ∧ x.gen < 900000) (h2 : 0 ≤ n ∧ n ≤ 1152921504606846976) (h3 : 0 ≤ a ∧ a ≤ 1) (h4 : 0 ≤ o ∧ o ≤ 1) : (x.next n a o).good ∧ (x.next n a o).pos := by
  unfold ST.good ST.pos ST.next
  simp only
  omega
theorem PInv.apply {D : Dk.DS} {F : Nat} {x : ST} {L : List (List Int)} {b : Nat} (h : PInv D F x L b) (hb : b < 800000) (n : Int) (l : List ChS) {w : World} {A : Option Addr} (hA : ChsAt w A l) :
    PInv (papR D F x false L n l).D F (papR D F x false L n l).x (papR D F x false L n l).L (b + 2) ∧ (papR D F x false L n l).L.length = L.length := by
  have hR := h.ready (by omega)
  unfold papR
  by_cases h0 : apRef x false L.length n l = 0
  · rw [if_neg (fun e => e h0)]
    have hw : wrongS x false n = 0 ∧ chRight L.length l = true := by
      unfold apRef at h0
      split at h0
      · rename_i hw; exact absurd h0 hw
      · rename_i hw
        split at h0
        · cases h0
        · rename_i hc
          exact ⟨by simpa using hw, by simpa using hc⟩
    have hn : 0 ≤ n ∧ n ≤ 1152921504606846976 := by
      have hw1 := hw.1
      unfold wrongS at hw1
      simp only [Bool.false_eq_true, if_false] at hw1
      split at hw1
      · cases hw1
      · have := h.pos.2.1.1; omega
    have hl := lines_ok h.ok.hi hw.2 hA
    have hin := chRight_in hw.2
    obtain ⟨q1, q2, q3, q4⟩ := applyR_ok (n := n) h.calm hR h.ok hl
    have hg0 := h.slots.gen
    have hgb := h.gen
    have ha0 := h.pos.2.2.1.1
    have ha1 := h.area
    have hfit := h.fit
    -- the disk, step by step
    have hj : Calm (jourD D F x n l) := h.calm.writeD (sealL_isB (entryB_isB hl))
    have hjn : (jourD D F x n l).n = D.n := writeD_n _ _ _
    have hfj := hj.flushD
    have hfjn : (Dk.flushD (jourD D F x n l)).n = D.n := (flushD_n hj.ok).trans hjn
    have hm := hfj.mark (F := F) (x := x.next n x.area 1) (by simp only [ST.next]; omega) (by rw [hfjn]; omega)
    have hmn : (markD (Dk.flushD (jourD D F x n l)) F (x.next n x.area 1)).n = D.n := (markD_n hfj.ok _ _).trans hfjn
    have hlen : (chTo L l).length = L.length := chTo_length l L
    have hokc := chTo_ok h.ok hl
    have hrw := hm.2.rowsD (F := F) (a := x.area.toNat) hokc (rowsT l)
    have hrn : (rowsD (markD (Dk.flushD (jourD D F x n l)) F (x.next n x.area 1)) F x.area.toNat (chTo L l) (rowsT l)).n = D.n := (rowsD_keeps _ _ _ _ _).1.trans hmn
    have hD : (applyR D F x L n l).D = markD (Dk.flushD (rowsD (markD (Dk.flushD (jourD D F x n l)) F (x.next n x.area 1)) F x.area.toNat (chTo L l) (rowsT l))) F ((x.next n x.area 1).next n x.area 0) := by
      unfold applyR
      rw [if_neg (by rw [hj.flushE]; simp), if_neg (by rw [hm.1]; simp)]
      show rowsF _ F (x.next n x.area 1) (chTo L l) (rowsT l) = _
      unfold rowsF
      rw [show (x.next n x.area 1).area = x.area from rfl, hrw.flushE, if_pos rfl]
      rfl
    have e1 := next_good (x := x) (n := n) (a := x.area) (o := 1) (by omega) hn (by omega) (by omega)
    have e2 := next_good (x := x.next n x.area 1) (n := n) (a := x.area) (o := 0) (by simp only [ST.next]; omega) hn (by omega) (by omega)
    have hx2 : (x.next n x.area 1).next n x.area 0 = ⟨x.gen + 2, n, x.area, 0⟩ := by simp only [ST.next, Int.add_assoc]; rfl
    rw [hx2] at e2
    have hD' := hD
    rw [hx2] at hD'
    have hjE := jour_E hR (x.gen + 1) n hl (by
      have : l.length ≤ 64 := by
        unfold apRef at h0
        rw [if_neg (by rw [hw.1]; simp), if_neg (by rw [hw.2]; simp)] at h0
        split at h0
        · cases h0
        · omega
      rwa [List.length_map])
    have hjs : Dk.secs (entryL (x.gen + 1) n (l.map ChS.two)) ≤ 17 := by
      have h1 : l.length ≤ 64 := by
        unfold apRef at h0
        rw [if_neg (by rw [hw.1]; simp), if_neg (by rw [hw.2]; simp)] at h0
        split at h0
        · cases h0
        · omega
      have h2 := entryL_length (gen := x.gen + 1) (n := n) hl
      rw [List.length_map] at h2
      unfold Dk.secs
      omega
    have s1 : ∀ z, z < F + 2 ∨ F + 19 ≤ z → sect z (Dk.flushD (jourD D F x n l)).now = sect z D.now := fun z hz => by
      rw [flush_now]
      unfold jourD
      rw [now_write h.calm.ok hjE, if_neg (by omega)]
    have s2 := fun z => mark_now hfj (F := F) (x := x.next n x.area 1) (by rw [hfjn]; omega) z
    have s3 := fun z => rows_now hm.2 (F := F) (a := x.area.toNat) hokc (by omega) (by rw [hlen, hmn]; omega) z (rowsT l) (fun k hk => by
      obtain ⟨_, y, hy, e⟩ := rowsT_mem.1 hk
      have := hin y hy
      rw [hlen]
      unfold rowsN
      omega)
    have hc3 := hrw.flushD
    have s4 := fun z => mark_now hc3 (F := F) (x := (x.next n x.area 1).next n x.area 0) (by rw [flushD_n hrw.ok, hrn]; omega) z
    rw [hx2] at s4
    have hmk := hc3.mark (F := F) (x := (x.next n x.area 1).next n x.area 0) (by simp only [ST.next]; omega) (by rw [flushD_n hrw.ok, hrn]; omega)
    rw [hx2] at hmk
    have ra : ∀ k, F + 19 ≤ rowAt F L.length x.area.toNat k := fun k => by unfold rowAt; omega
    have sl1 : Slots (Dk.flushD (jourD D F x n l)).now F x := h.slots.same (fun z h1 h2 => s1 z (.inl h2))
    have sl2 := sl1.mark (x' := x.next n x.area 1) rfl e1.2 e1.1 (fun z _ _ => s2 z)
    have sl3 : Slots (Dk.flushD (rowsD (markD (Dk.flushD (jourD D F x n l)) F (x.next n x.area 1)) F x.area.toNat (chTo L l) (rowsT l))).now F (x.next n x.area 1) := sl2.same (fun z h1 h2 => by
      rw [flush_now]
      exact (s3 z).2 (fun k _ e => by rw [hlen] at e; have := ra k; omega))
    have sl4 := sl3.mark (x' := ⟨x.gen + 2, n, x.area, 0⟩) (show x.gen + 2 = x.gen + 1 + 1 by omega) e2.2 e2.1 (fun z _ _ => s4 z)
    rw [q2, q4, hD', hlen]
    refine ⟨⟨hmk.2, ?_, ?_, ?_, e2.2, hn.2, h.area, rfl, h.hF, sl4, ?_, hokc⟩, rfl⟩
    · rw [hlen, markD_n hc3.ok, flushD_n hrw.ok, hrn]; exact hfit
    · obtain ⟨z1, z2, z3⟩ := markE_zero hmk.1
      rw [z1, (flushE_dead z3).2.1]
      simp
    · show x.gen + 2 ≤ ((b + 2 : Nat) : Int)
      omega
    · intro k hk
      rw [hlen] at hk ⊢
      show ∃ t, sect (rowAt F L.length x.area.toNat k) _ = _
      have hne : rowAt F L.length x.area.toNat k ≠ markAt F ⟨x.gen + 2, n, x.area, 0⟩ := by have := ra k; unfold markAt; omega
      rw [s4, if_neg hne, flush_now]
      have h86 : k < 86 := by have := h.ok.hi; unfold rowsN at hk; omega
      by_cases hmem : k ∈ rowsT l
      · exact (s3 _).1 k hmem (by rw [hlen])
      · rw [(s3 _).2 (fun j hj e => by
          rw [hlen] at e
          have : k = j := by unfold rowAt at e; omega
          exact hmem (this ▸ hj)), s2, if_neg (by have := ra k; unfold markAt; omega), s1 _ (.inr (ra k)), rowL_off h86 (fun y hy => (hin y hy).1) hmem]
        exact h.rows k hk
  · rw [if_pos h0]
    exact ⟨⟨h.calm, h.fit, h.few, by have := h.gen; show x.gen ≤ ((b + 2 : Nat) : Int); omega, h.pos, h.nn, h.area, h.op, h.hF, h.slots, h.rows, h.ok⟩, rfl⟩
theorem PInv.replace {D : Dk.DS} {F : Nat} {x : ST} {L L2 : List (List Int)} {b : Nat} (h : PInv D F x L b) (hb : b < 800000) (n : Int) (hL : ImgOk L2) (hl : L2.length = L.length) :
    PInv (prepR D F x L n L2).D F (prepR D F x L n L2).x (prepR D F x L n L2).L (b + 2) ∧ (prepR D F x L n L2).L.length = L.length := by
  have hR := h.ready (by omega)
  unfold prepR
  by_cases h0 : wrongS x false n = 0
  · rw [if_neg (fun e => e h0)]
    have hn : 0 ≤ n ∧ n ≤ 1152921504606846976 := by
      unfold wrongS at h0
      simp only [Bool.false_eq_true, if_false] at h0
      split at h0
      · cases h0
      · have := h.pos.2.1.1; omega
    obtain ⟨q1, q2⟩ := replR_ok (n := n) h.calm hR hL hl
    rw [q1]
    have hg0 := h.slots.gen
    have hgb := h.gen
    have ha0 := h.pos.2.2.1.1
    have ha1 := h.area
    have hfit := h.fit
    have hrw : Calm (replD D F x L2) := h.calm.rowsD hL _
    have hrn : (replD D F x L2).n = D.n := (rowsD_keeps _ _ _ _ _).1
    have e1 := next_good (x := x) (n := n) (a := 1 - x.area) (o := 0) (by omega) hn (by omega) (by omega)
    have s3 := fun z => rows_now h.calm (F := F) (a := (1 - x.area).toNat) hL (by omega) (by rw [hl]; omega) z (List.range (rowsN L2.length)) (fun k hk => by simpa using hk)
    have hc3 := hrw.flushD
    have s4 := fun z => mark_now hc3 (F := F) (x := x.next n (1 - x.area) 0) (by rw [flushD_n hrw.ok, hrn]; omega) z
    have hmk := hc3.mark (F := F) (x := x.next n (1 - x.area) 0) (by simp only [ST.next]; omega) (by rw [flushD_n hrw.ok, hrn]; omega)
    have ra : ∀ a k, F + 19 ≤ rowAt F L2.length a k := fun a k => by unfold rowAt; omega
    have sl3 : Slots (Dk.flushD (replD D F x L2)).now F x := h.slots.same (fun z h1 h2 => by
      rw [flush_now]
      exact (s3 z).2 (fun k _ e => by have := ra (1 - x.area).toNat k; omega))
    have sl4 := sl3.mark (x' := x.next n (1 - x.area) 0) rfl e1.2 e1.1 (fun z _ _ => s4 z)
    refine ⟨⟨hmk.2, ?_, ?_, ?_, e1.2, hn.2, by show 1 - x.area ≤ 1; omega, rfl, h.hF, sl4, ?_, hL⟩, hl⟩
    · rw [hl, markD_n hc3.ok, flushD_n hrw.ok, hrn]; exact hfit
    · obtain ⟨z1, z2, z3⟩ := markE_zero hmk.1
      rw [z1, (flushE_dead z3).2.1]
      simp
    · show x.gen + 1 ≤ ((b + 2 : Nat) : Int)
      omega
    · intro k hk
      have hne : rowAt F L2.length (1 - x.area).toNat k ≠ markAt F (x.next n (1 - x.area) 0) := by have := ra (1 - x.area).toNat k; unfold markAt; omega
      show ∃ t, sect (rowAt F L2.length (1 - x.area).toNat k) _ = _
      rw [s4, if_neg hne, flush_now]
      exact (s3 _).1 k (by simpa using hk) rfl
  · rw [if_pos h0]
    exact ⟨⟨h.calm, h.fit, h.few, by have := h.gen; show x.gen ≤ ((b + 2 : Nat) : Int); omega, h.pos, h.nn, h.area, h.op, h.hF, h.slots, h.rows, h.ok⟩, rfl⟩
theorem sect_fresh {N z : Nat} (h : z < N) : sect z (freshD N).now = List.replicate 256 0 := by rw [← readD_sect (by rw [freshD_n]; exact h)]; exact fresh_read N z h
theorem PInv.fresh {N F n : Nat} (h1 : 1 ≤ n) (h2 : n ≤ 256) (hF : F + 19 + 2 * rowsN n ≤ N) (hN : N ≤ 4096) (hF2 : F ≤ 100000) : PInv (freshD N) F ST.zero (emptyL n) 0 := by
  have hl : (emptyL n).length = n := by simp [emptyL]
  refine ⟨fresh_calm (by omega) hN, by rw [hl, freshD_n]; exact hF, by show ([] : List (Nat × List Int)).length < _; simp, by decide, ⟨by decide, by decide, by decide, by decide⟩, by decide, by decide, rfl, hF2, .inl ⟨rfl, by rw [sect_fresh (by omega)]; exact readST_zeros, by rw [sect_fresh (by omega)]; exact readST_zeros⟩, fun k hk => ⟨List.replicate 61 0, ?_⟩, emptyL_ok h1 h2⟩
  rw [hl] at hk ⊢
  show sect (rowAt F n 0 k) _ = _
  rw [sect_fresh (by unfold rowAt; omega), rowL_empty, List.replicate_append_replicate]
theorem PInv.top {D : Dk.DS} {F : Nat} {x : ST} {L : List (List Int)} {b : Nat} (h : PInv D F x L b) : Go.Proofs.YthlijldapoeepaaGreat.top D F = x ∧ LoadOk D F x.area.toNat L :=
  ⟨slots_top h.slots (by have := h.fit; omega), h.rows.load h.ok (by have := h.area; omega) h.fit⟩
end Go.Proofs.YthlijldapoeepaaGreat

/- The laws of 06: step, where it is a call of Apply. -/

namespace Go.Proofs.YthlijldapoeepaaGreat
set_option linter.unusedVariables false
set_option linter.unusedSimpArgs false
set_option maxRecDepth 100000
open Go.RowKit Go.Shelf

theorem calm_pap {D : Dk.DS} (h : Calm D) {F : Nat} {x : ST} {L : List (List Int)} {n : Int} {l : List ChS} (hR : Ready D F x L.length) (hL : ImgOk L) {w : World} {A : Option Addr} (hA : ChsAt w A l) :
    (papR D F x false L n l).e = rapE x.n L.length n l ∧ papDead D F x false L n l = false ∧ (papR D F x false L n l).L = (if rapE x.n L.length n l = 0 then chTo L l else L) ∧ (papR D F x false L n l).x.n = (if rapE x.n L.length n l = 0 then n else x.n) := by
  have he := rap_eq (x := x) (N := x.n) (n := n) rfl L.length l
  unfold papR papDead
  rw [he]
  by_cases h0 : rapE x.n L.length n l = 0
  · rw [if_neg (fun h => h h0), if_neg (fun h => h h0), if_pos h0, if_pos h0]
    have hc : chRight L.length l = true := by
      unfold rapE at h0
      split at h0
      · rename_i h1; exact h1.2
      · cases h0
    obtain ⟨q1, q2, q3, q4⟩ := applyR_ok (n := n) h hR hL (lines_ok hL.hi hc hA)
    exact ⟨q1.trans h0.symm, by rw [q1]; rfl, q4, by rw [q2]⟩
  · rw [if_pos h0, if_pos h0, if_neg h0, if_neg h0]
    exact ⟨rfl, rfl, rfl, rfl⟩
theorem chrow_cell {w : World} {B0 : Nat} {A : Option Addr} {k : Nat} {l : List ChS} (h : w.ownsRow B0 54 2 (.slice A l.length k) l.length (chCells l)) (i : Nat) (hi : i < l.length) : ∃ g, A = some ⟨g, 0, none⟩ ∧ ∀ j u, l[i].cells[j]? = some u → w.cell? ⟨g, 0 + (i * 2 + j), none⟩ = some u := by
  rcases h.2 with ⟨_, e⟩ | ⟨g, cap, cur, hv, hb, hh, _, _, _, ht⟩
  · omega
  · injection hv with e1 e2 e3
    subst e1
    refine ⟨g, rfl, fun j u hu => ?_⟩
    have hc := chCells_at l i j hi u hu
    rw [Nat.zero_add, cell_of_row w g (i * 2 + j) cur 54 (0, 0) hh]
    rw [← ht] at hc
    rw [List.getElem?_take] at hc
    split at hc
    · simpa using hc
    · cases hc
section
variable {w W : World} {s d p F : Nat} {x : ST} {D : Dk.DS} {L : List (List Int)}
set_option maxHeartbeats 6400000 in
theorem step_apply (h : Pl w W NoB s d p F x false D L L x.n) (hR : Ready D F x L.length) (hC : Calm D) (hL : ImgOk L) (hN : 0 ≤ x.n ∧ x.n ≤ 1152921504606846976) (y : OpB) (hy : y.In w) (kd : Int) (hk : kd = 0 ∨ kd = 1 ∨ kd = 2 ∨ kd = 3) :
    Calls Tryz.prog 10 #[.pointer (some ⟨s, 0, none⟩), .pointer (some ⟨p, 0, none⟩), .agg #[.int .i64 kd, .int .i64 y.n, .slice y.A y.l.length y.c, .slice y.B y.ks.length y.d]] W fun e W' => e = .returned (.bool true) ∧
      Pl w W' NoB s d p F (papR D F x false L (numberN x.n y.n) y.l).x false (papR D F x false L (numberN x.n y.n) y.l).D (papR D F x false L (numberN x.n y.n) y.l).L (papR D F x false L (numberN x.n y.n) y.l).L (papR D F x false L (numberN x.n y.n) y.l).x.n := by
  have HY := Lib.hid hy
  have hll := hy.ll
  clear hy
  have hbk : Blk (W.alloc (.cells #[.int .i64 kd, .int .i64 y.n, .slice y.A y.l.length y.c, .slice y.B y.ks.length y.d] 41)) W.heap.size 41 #[.int .i64 kd, .int .i64 y.n, .slice y.A y.l.length y.c, .slice y.B y.ks.length y.d] := Blk.new _ _ _
  have HBK := Lib.hid hbk
  have HD := Lib.hid h
  have HB1 := Lib.hid (bl_alloc W (.cells #[.int .i64 kd, .int .i64 y.n, .slice y.A y.l.length y.c, .slice y.B y.ks.length y.d] 41))
  have HNUM : Hid (Calls Tryz.prog 34 #[.pointer (some ⟨p, 0, none⟩), .int .i64 y.n] (W.alloc (.cells #[.int .i64 kd, .int .i64 y.n, .slice y.A y.l.length y.c, .slice y.B y.ks.length y.d] 41)) fun e w' => e = .returned (.int .i64 (numberN x.n y.n)) ∧ (W.alloc (.cells #[.int .i64 kd, .int .i64 y.n, .slice y.A y.l.length y.c, .slice y.B y.ks.length y.d] 41)) = w') := Lib.hid (by
    obtain ⟨g, Md, Rr, Mi, r, q, c, M, h⟩ := h
    exact lnumber_any (h.rf.blk.keep (bl_alloc W _)) hN y.n)
  have HLENT := Lib.hid (lentch_any y.A y.c y.l (W.alloc (.cells #[.int .i64 kd, .int .i64 y.n, .slice y.A y.l.length y.c, .slice y.B y.ks.length y.d] 41)) hll (HY.out.rl.below (bl_chain HD.out.bl HB1.out)))
  obtain ⟨n, hn⟩ : ∃ n, numberN x.n y.n = n := ⟨_, rfl⟩
  rw [hn] at HNUM ⊢
  obtain ⟨q1, q2, q3, q4⟩ := calm_pap (n := n) (l := y.l) hC hR hL HY.out.rl
  obtain ⟨er, her⟩ : ∃ er, rapE x.n L.length n y.l = er := ⟨_, rfl⟩
  have HER := Lib.hid her
  rw [her] at q1 q3 q4
  have HQ1 := Lib.hid q1
  have HQ2 := Lib.hid q2
  have HQ3 := Lib.hid q3
  have HQ4 := Lib.hid q4
  have HRR := Lib.hid hR
  have eE : (er == er) = true := by simp
  have p0 := hbk.cell 0
  have p1 := hbk.cell 1
  have p2 := hbk.cell 2
  simp at p0 p1 p2
  clear hbk h q1 q2 q3 q4 hn her hR hC
  rcases hk with rfl | rfl | rfl | rfl
  all_goals
    go_enter Tryz.func10, Tryz.ntmps10
    go_wp2_with (first
      | (go_at_call 34; (with_reducible refine HNUM.out.mono ?_); rintro e w' ⟨rfl, rfl⟩)
      | (go_at_call 35; (with_reducible refine HLENT.out.mono ?_); rintro e w2 ⟨A', k', l', rfl, hkd, ho, hb⟩; rw [World.size_alloc] at ho; have O2 := Lib.hid ho; have HKD := Lib.hid hkd; have HB2 := Lib.hid (bl_chain HB1.out hb); have HP2 := Lib.hid (HD.out.avoid (bl_chain HB1.out hb) (Z' := fun x => W.heap.size ≤ x ∧ x < w2.heap.size) (fun x e => e)); have HK2 := Lib.hid (HBK.out.keep hb); have q4 := HK2.out.cell 2; simp at q4; have HL' := Lib.hid (show l'.length = y.l.length from by have := congrArg List.length hkd; simpa using this); clear ho hb hkd))
    have HS := Lib.hid (show w2.drew.cell? ⟨W.heap.size, 2, none⟩ = some (.slice y.A y.l.length y.c) ∧ w2.drew.cell? ⟨W.heap.size, 2, none⟩ = some (.slice y.A y.l.length y.c) from ⟨q4, q4⟩)
    clear q4 p0 p1 p2
    obtain ⟨g, Md, Rr, Mi, r, q, c, M, hpl⟩ := HP2.out.below (bl_drew w2)
    have HPL := Lib.hid hpl
    have hz2 : W.heap.size < w2.heap.size := HK2.out.lt
    have HFA := Lib.hid (show ∀ b, (Md b ∨ Rr b ∨ Mi b ∨ M b ∨ b = s ∨ b = p) → b < W.heap.size from fun b hb => by
      have h1 : b < w2.heap.size := HPL.out.lt b hb
      have h2 := (HPL.out.lo b hb).2
      apply Classical.byContradiction
      intro h3
      exact h2 ⟨by omega, h1⟩)
    have hqM := HPL.out.rf.ref.mq
    have O2d := Lib.hid (show LentAt w2.drew (W.heap.size + 1) A' k' l' from O2.out.tr (Tr.of_below (F := NoB) (bl_drew w2)) (fun _ _ _ h => h))
    have hap := papply_any hpl n A' k' l' O2d.out.chs (by have := HL'.out; omega) HRR.out (fun w' ht => (O2d.out.tr ht (fun b h1 h2 hf => by have := HFA.out b (by rcases hf with hf | hf | hf <;> simp [hf]); omega)).chs)
    rw [(papR_kd HKD.out D F x false L n).1, (papR_kd HKD.out D F x false L n).2, HQ1.out, HQ2.out] at hap
    have HAP := Lib.hid hap
    clear hap hpl
    refine held_startB (S := fun W' => W'.cell? ⟨W.heap.size, 2, none⟩ = some (.slice y.A y.l.length y.c) ∧ W'.cell? ⟨W.heap.size, 2, none⟩ = some (.slice y.A y.l.length y.c)) (by kernel_rfl) ?_
    refine held_take (HS.out) (i := 0) (v := ?_) rfl (by kernel_rfl) (by kernel_rfl) (by kernel_rfl) (fun _ _ _ h => h) (Or.inl ⟨by rfl, ?_⟩) ?_
    rotate_left
    · (intro W hSw; obtain ⟨s1, s2⟩ := hSw; go_simp; try with_reducible rfl)
    try simp only [Act.put, List.setIfInBounds_toArray, List.set_cons_zero, List.set_cons_succ]
    refine held_take (HS.out) (i := 1) (v := ?_) rfl (by kernel_rfl) (by kernel_rfl) (by kernel_rfl) (fun _ _ _ h => h) (Or.inl ⟨by rfl, ?_⟩) ?_
    rotate_left
    · (intro W hSw; obtain ⟨s1, s2⟩ := hSw; go_simp; try with_reducible rfl)
    try simp only [Act.put, List.setIfInBounds_toArray, List.set_cons_zero, List.set_cons_succ]
    refine held_take (HS.out) (i := 2) (v := ?_) rfl (by kernel_rfl) (by kernel_rfl) (by kernel_rfl) (fun _ _ _ h => h) (Or.inl ⟨by rfl, ?_⟩) ?_
    rotate_left
    · (intro W hSw; obtain ⟨s1, s2⟩ := hSw; go_simp; try with_reducible rfl)
    try simp only [Act.put, List.setIfInBounds_toArray, List.set_cons_zero, List.set_cons_succ]
    refine held_take (HS.out) (i := 4) (v := ?_) rfl (by kernel_rfl) (by kernel_rfl) (by kernel_rfl) (fun _ _ _ h => h) (Or.inl ⟨by rfl, ?_⟩) ?_
    rotate_left
    · (intro W hSw; obtain ⟨s1, s2⟩ := hSw; go_simp; try with_reducible rfl)
    try simp only [Act.put, List.setIfInBounds_toArray, List.set_cons_zero, List.set_cons_succ]
    refine held_take (HS.out) (i := 5) (v := ?_) rfl (by kernel_rfl) (by kernel_rfl) (by kernel_rfl) (fun _ _ _ h => h) (Or.inl ⟨by rfl, ?_⟩) ?_
    rotate_left
    · (intro W hSw; obtain ⟨s1, s2⟩ := hSw; go_simp; try with_reducible rfl)
    try simp only [Act.put, List.setIfInBounds_toArray, List.set_cons_zero, List.set_cons_succ]
    refine held_take (HS.out) (i := 6) (v := ?_) rfl (by kernel_rfl) (by kernel_rfl) (by kernel_rfl) (fun _ _ _ h => h) (Or.inl ⟨by rfl, ?_⟩) ?_
    rotate_left
    · (intro W hSw; obtain ⟨s1, s2⟩ := hSw; go_simp; try with_reducible rfl)
    try simp only [Act.put, List.setIfInBounds_toArray, List.set_cons_zero, List.set_cons_succ]
    refine held_take (HS.out) (i := 7) (v := ?_) rfl (by kernel_rfl) (by kernel_rfl) (by kernel_rfl) (fun _ _ _ h => h) (Or.inl ⟨by rfl, ?_⟩) ?_
    rotate_left
    · (intro W hSw; obtain ⟨s1, s2⟩ := hSw; go_simp; try with_reducible rfl)
    try simp only [Act.put, List.setIfInBounds_toArray, List.set_cons_zero, List.set_cons_succ]
    refine held_call (i := 3) (by kernel_rfl) rfl (fun K hK => ?_)
    go_simp
    (go_at_call 20; (with_reducible refine HAP.out.mono ?_); rintro e w3 ⟨rfl, Md3, Rr3, Mi3, hpl3, ht3⟩; have HF3 := Lib.hid (show ∀ b, (Md b ∨ Mi b ∨ b = s) → b < W.heap.size from fun b hf => HFA.out b (by rcases hf with hf | hf | hf <;> simp [hf])); have HK3 := Lib.hid (ht3.blk (HK2.out.drew) (fun hf => by have := HF3.out _ hf; omega)); have HS3 := Lib.hid (show w3.cell? ⟨W.heap.size, 2, none⟩ = some (.slice y.A y.l.length y.c) ∧ w3.cell? ⟨W.heap.size, 2, none⟩ = some (.slice y.A y.l.length y.c) from ⟨HK3.out.cell 2, HK3.out.cell 2⟩); have O3 := Lib.hid (O2d.out.tr ht3 (fun b h1 h2 hf => by have := HF3.out b hf; omega)); have HPL3 := Lib.hid hpl3; clear hpl3 ht3)
    refine hK.out _ _ (HS3.out) ?_
    clear hK K
    try simp only [Act.put, List.setIfInBounds_toArray, List.set_cons_zero, List.set_cons_succ]
    refine held_call (i := 8) (by kernel_rfl) rfl (fun K hK => ?_)
    go_simp
    (have hra := rsapply_any (w0 := w) HPL3.out.rf n y.A y.c y.l (by omega) HY.out.rl HPL3.out.bl (HPL3.out.lo q (by simp [HPL3.out.rf.ref.mq])).1; rw [HER.out] at hra; go_at_call 36; (with_reducible refine hra.mono ?_); rintro e w4 ⟨M4, rfl, hs4, hm4, ht4⟩; have HF4 := Lib.hid (show ∀ b, (b = q ∨ b = p) → b < W.heap.size from fun b hf => HFA.out b (by rcases hf with hf | hf; (· subst hf; simp [hqM]); (· simp [hf]))); have HK4 := Lib.hid (ht4.blk HK3.out (fun hf => by have := HF4.out _ hf; omega)); have HS4 := Lib.hid (show w4.cell? ⟨W.heap.size, 2, none⟩ = some (.slice y.A y.l.length y.c) ∧ w4.cell? ⟨W.heap.size, 2, none⟩ = some (.slice y.A y.l.length y.c) from ⟨HK4.out.cell 2, HK4.out.cell 2⟩); have O4 := Lib.hid (O3.out.tr ht4 (fun b h1 h2 hf => by have := HF4.out b hf; omega)); have HPL4 := Lib.hid (HPL3.out.refs (Mx := NoB) hs4 (fun b hb => (hm4 b hb).imp .inl id) ht4 (fun b hb => hb.elim)); clear hs4 hm4 ht4 hra)
    refine hK.out _ _ (HS4.out) ?_
    clear hK K
    try simp only [Act.put, List.setIfInBounds_toArray, List.set_cons_zero, List.set_cons_succ]
    refine held_take (HS4.out) (i := 9) (v := ?_) rfl (by kernel_rfl) (by kernel_rfl) (by kernel_rfl) (fun _ _ _ h => h) (Or.inl ⟨by rfl, ?_⟩) ?_
    rotate_left
    · (intro W hSw; obtain ⟨s1, s2⟩ := hSw; go_simp; try with_reducible rfl)
    try simp only [Act.put, List.setIfInBounds_toArray, List.set_cons_zero, List.set_cons_succ]
    refine held_take (HS4.out) (i := 10) (v := ?_) rfl (by kernel_rfl) (by kernel_rfl) (by kernel_rfl) (fun _ _ _ h => h) (Or.inl ⟨by rfl, ?_⟩) ?_
    rotate_left
    · (intro W hSw; obtain ⟨s1, s2⟩ := hSw; go_simp; try with_reducible rfl)
    try simp only [Act.put, List.setIfInBounds_toArray, List.set_cons_zero, List.set_cons_succ]
    refine held_take (HS4.out) (i := 11) (v := ?_) rfl (by kernel_rfl) (by kernel_rfl) (by kernel_rfl) (fun _ _ _ h => h) (Or.inl ⟨by rfl, ?_⟩) ?_
    rotate_left
    · (intro W hSw; obtain ⟨s1, s2⟩ := hSw; go_simp; try with_reducible rfl)
    try simp only [Act.put, List.setIfInBounds_toArray, List.set_cons_zero, List.set_cons_succ]
    refine held_take (HS4.out) (i := 12) (v := ?_) rfl (by kernel_rfl) (by kernel_rfl) (by kernel_rfl) (fun _ _ _ h => h) (Or.inl ⟨by rfl, ?_⟩) ?_
    rotate_left
    · (intro W hSw; obtain ⟨s1, s2⟩ := hSw; go_simp; try with_reducible rfl)
    try simp only [Act.put, List.setIfInBounds_toArray, List.set_cons_zero, List.set_cons_succ]
    refine held_take (HS4.out) (i := 13) (v := ?_) rfl (by kernel_rfl) (by kernel_rfl) (by kernel_rfl) (fun _ _ _ h => h) (Or.inl ⟨by rfl, ?_⟩) ?_
    rotate_left
    · (intro W hSw; obtain ⟨s1, s2⟩ := hSw; go_simp; try with_reducible rfl)
    try simp only [Act.put, List.setIfInBounds_toArray, List.set_cons_zero, List.set_cons_succ]
    refine held_call (i := 14) (by kernel_rfl) rfl (fun K hK => ?_)
    go_simp
    (go_at_call 37; (with_reducible refine (samech_true A' k' l' y.A y.c y.l w4 (by have := HL'.out; omega) O4.out.chs (HY.out.rl.below HPL4.out.bl) HKD.out).mono ?_); rintro e w5 ⟨rfl, hb⟩; have HS5 := Lib.hid (show w5.cell? ⟨W.heap.size, 2, none⟩ = some (.slice y.A y.l.length y.c) ∧ w5.cell? ⟨W.heap.size, 2, none⟩ = some (.slice y.A y.l.length y.c) from ⟨(hb.cell (cell_block_lt HS4.out.1)).trans HS4.out.1, (hb.cell (cell_block_lt HS4.out.1)).trans HS4.out.1⟩); have O5 := Lib.hid (O4.out.tr (Tr.of_below (F := NoB) hb) (fun _ _ _ h => h)); have HP5 := Lib.hid (Pl.below ⟨_, _, _, _, _, _, _, _, HPL4.out⟩ hb); clear hb)
    refine hK.out _ _ (HS5.out) ?_
    clear hK K
    try simp only [Act.put, List.setIfInBounds_toArray, List.set_cons_zero, List.set_cons_succ]
    refine held_take (HS5.out) (i := 15) (v := ?_) rfl (by kernel_rfl) (by kernel_rfl) (by kernel_rfl) (fun _ _ _ h => h) (Or.inl ⟨by rfl, ?_⟩) ?_
    rotate_left
    · (intro W hSw; obtain ⟨s1, s2⟩ := hSw; go_simp; try with_reducible rfl)
    try simp only [Act.put, List.setIfInBounds_toArray, List.set_cons_zero, List.set_cons_succ]
    refine held_take (HS5.out) (i := 16) (v := ?_) rfl (by kernel_rfl) (by kernel_rfl) (by kernel_rfl) (fun _ _ _ h => h) (Or.inl ⟨by rfl, ?_⟩) ?_
    rotate_left
    · (intro W hSw; obtain ⟨s1, s2⟩ := hSw; go_simp; try with_reducible rfl)
    try simp only [Act.put, List.setIfInBounds_toArray, List.set_cons_zero, List.set_cons_succ]
    refine wpAnyH_done (by kernel_rfl) ?_ _
    go_wp2_with fail
    have hp5 := HP5.out
    rw [← HQ3.out, ← HQ4.out] at hp5
    obtain ⟨R, hre⟩ : ∃ R, papR D F x false L n y.l = R := ⟨_, rfl⟩
    rw [hre] at hp5
    have HRE := Lib.hid hre
    have HP6 := Lib.hid hp5
    have hlb' : l'.length ≤ 4398046510976 := by have := HL'.out; omega
    have hwW : w.heap.size ≤ W.heap.size := HD.out.bl.size
    clear hp5 hre
    go_loopw [10] (fun v Wx => ∃ j : Nat, j ≤ l'.length ∧ v = .int .i64 (j : Int) ∧ Pl w Wx (fun x => W.heap.size ≤ x ∧ x < w2.heap.size) s d p F R.x false R.D R.L R.L R.x.n ∧ Wx.ownsRow (W.heap.size + 1) 54 2 (.slice A' l'.length k') l'.length (chCells l') ∧ (∀ i (h : i < l'.length), j ≤ i → Wx.ownsRow (W.heap.size + 1) 5 1 (.slice l'[i].A l'[i].d.length l'[i].c) l'[i].d.length (by8 l'[i].d))) (fun v _ => l'.length - (RowKit.intOf v).toNat)
    case atStart => exact ⟨0, by omega, rfl, HP6.out, O5.out.row, fun i h _ => O5.out.data _ (List.getElem_mem h)⟩
    case round =>
      obtain ⟨j, hj, rfl, hd, hrow, hdat⟩ := hrel
      by_cases hlt : j < l'.length
      · obtain ⟨g', hg', hc⟩ := chrow_cell hrow j hlt
        have x1 := hc 1 _ rfl
        have hdj := hdat j hlt (Nat.le_refl _)
        have h2j := O2.out.data _ (List.getElem_mem hlt)
        have hok := (O2.out.ok _ (List.getElem_mem hlt)).2.2
        have hap := O2.out.apart
        have HLT := Lib.hid hlt
        have HROW := Lib.hid hrow
        have HDAT := Lib.hid hdat
        have HDU := Lib.hid hd
        have HDJ := Lib.hid hdj
        have H2J := Lib.hid h2j
        have HAPT := Lib.hid (fun i (h : i < l'.length) (hi : j + 1 ≤ i) => List.pairwise_iff_getElem.1 hap j i hlt h (by omega))
        subst hg'
        clear hrow hdat hd hdj h2j hap hc
        generalize l'[j] = yj at x1 hok HDJ H2J HAPT
        rw [← Nat.add_assoc] at x1
        simp only [Nat.zero_add] at x1
        go_wp2_with (first
          | (go_at_call 38; (with_reducible refine (spoil_any yj.A yj.d.length yj.c (by8 yj.d) wr (ownsRow_base HDJ.out (Nat.zero_le _)) hok).mono ?_); rintro e w6 ⟨rfl, ht⟩; have HT6 := Lib.hid ht; clear ht))
        refine ⟨⟨j + 1, HLT.out, by go_num, HDU.out.turn HT6.out (fun b hb => ⟨by have := own_ge H2J.out b hb; omega, own_lt H2J.out b hb⟩) (fun b hb => by have := own_ge H2J.out b hb; omega), own_tr HROW.out HT6.out (fun b hb hb2 => own_two_ne HROW.out HDJ.out (by decide) hb hb2), fun i h hi => own_tr (HDAT.out i h (by omega)) HT6.out (fun b hb hb2 => HAPT.out i h hi b hb2 hb)⟩, by simp [RowKit.intOf]; have := HLT.out; omega⟩
      · have HDU := Lib.hid hd
        clear hd hrow hdat
        go_wp2_with fail
        go_ret
        exact ⟨rfl, by rw [HRE.out]; exact HDU.out.forget⟩
end
end Go.Proofs.YthlijldapoeepaaGreat
