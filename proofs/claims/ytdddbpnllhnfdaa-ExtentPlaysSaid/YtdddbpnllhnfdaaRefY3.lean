/- The reference's Image: Runs. -/
import Derived.Test.YtdddbpnllhnfdaaRefY2
import Derived.Test.YtdddbpnllhnfdaaRunsL
namespace Go.Proofs.Ytdddbpnllhnfdaa
set_option linter.unusedVariables false
set_option linter.unusedSimpArgs false
set_option maxRecDepth 100000
open Go.RowKit Go.Shelf

theorem runsG_oneq : ∀ (l : List Int) (p : Int × Nat), p ∈ runsG l → 1 ≤ p.2
  | [], _, h => by cases h
  | z :: l, p, h => by
    have ih := runsG_oneq l
    rw [runsG_cons] at h
    split at h
    · simp at h; subst h; exact Nat.le_refl 1
    · rename_i a n r he
      rw [he] at ih
      split at h
      · rcases List.mem_cons.1 h with rfl | h
        · show 1 ≤ n + 1; omega
        · exact ih p (by simp [h])
      · rcases List.mem_cons.1 h with rfl | h
        · exact Nat.le_refl 1
        · exact ih p h
theorem runsG_memq {l : List Int} {p : Int × Nat} (h : p ∈ runsG l) (j : Nat) (hj : j < p.2) : p.1 + (j : Int) ∈ l := by
  rw [← runsG_all l]
  exact List.mem_flatMap.2 ⟨p, h, List.mem_map.2 ⟨j, List.mem_range.2 hj, rfl⟩⟩
theorem runsG_sepq : ∀ (l : List Int), l.Pairwise (· < ·) → (runsG l).Pairwise (fun p q => p.1 + (p.2 : Int) < q.1)
  | [], _ => List.Pairwise.nil
  | z :: l, h => by
    obtain ⟨hz, hl⟩ := List.pairwise_cons.1 h
    have ih := runsG_sepq l hl
    rw [runsG_cons]
    split
    · simp
    · rename_i a n r he
      rw [he] at ih
      obtain ⟨i1, i2⟩ := List.pairwise_cons.1 ih
      split
      · rename_i e
        refine List.pairwise_cons.2 ⟨fun q hq => ?_, i2⟩
        have := i1 q hq
        simp at this ⊢
        omega
      · rename_i e
        have ha : a ∈ l := by
          have := runsG_memq (l := l) (p := (a, n)) (by rw [he]; simp) 0 (by have := runsG_oneq l (a, n) (by rw [he]; simp); exact this)
          simpa using this
        have := hz a ha
        refine List.pairwise_cons.2 ⟨fun q hq => ?_, ih⟩
        rcases List.mem_cons.1 hq with rfl | hq
        · simp; omega
        · have := i1 q hq
          simp at this ⊢
          omega
def consR (x : Int) : List (Int × Nat) → List (Int × Nat)
  | [] => [(x, 1)]
  | (a, n) :: r => if x + 1 = a then (x, n + 1) :: r else (x, 1) :: (a, n) :: r
def snocR : List (Int × Nat) → Int → List (Int × Nat)
  | [], z => [(z, 1)]
  | [(a, n)], z => if a + (n : Int) = z then [(a, n + 1)] else [(a, n), (z, 1)]
  | p :: q :: r, z => p :: snocR (q :: r) z
theorem runsG_consR (z : Int) (l : List Int) : runsG (z :: l) = consR z (runsG l) := by
  rw [runsG_cons]
  unfold consR
  rcases h : runsG l with _ | ⟨⟨a, n⟩, r⟩
  · rfl
  · rfl
theorem consR_snocR (x z : Int) : ∀ rs : List (Int × Nat), rs ≠ [] → consR x (snocR rs z) = snocR (consR x rs) z
  | [(a, n)], _ => by
    simp only [snocR, consR]
    by_cases h1 : a + (n : Int) = z
    · rw [if_pos h1]
      by_cases h2 : x + 1 = a
      · simp only [consR, if_pos h2, snocR]
        rw [if_pos (by omega)]
      · simp only [consR, if_neg h2, snocR, if_pos h1]
    · rw [if_neg h1]
      by_cases h2 : x + 1 = a
      · simp only [consR, if_pos h2, snocR]
        rw [if_neg (by omega)]
      · simp only [consR, if_neg h2, snocR, if_neg h1]
  | (a, n) :: q :: r, _ => by
    simp only [snocR, consR]
    by_cases h2 : x + 1 = a
    · simp only [if_pos h2, snocR]
    · simp only [if_neg h2, snocR]
theorem runsG_snoc (z : Int) : ∀ l : List Int, runsG (l ++ [z]) = snocR (runsG l) z
  | [] => rfl
  | x :: l => by
    rw [List.cons_append, runsG_consR, runsG_consR, runsG_snoc z l]
    by_cases h : runsG l = []
    · rw [h]
      simp only [snocR, consR]
      by_cases h2 : x + 1 = z
      · rw [if_pos h2, if_pos (by omega)]
      · rw [if_neg h2, if_neg (by omega)]
    · exact consR_snocR x z _ h
/-- snocR by the last one. -/
theorem snocR_last (z : Int) : ∀ (rs : List (Int × Nat)) (a : Int) (n : Nat), rs[rs.length - 1]? = some (a, n) → snocR rs z = if a + (n : Int) = z then rs.set (rs.length - 1) (a, n + 1) else rs ++ [(z, 1)]
  | [], _, _, h => by cases h
  | [(b, m)], a, n, h => by
    simp at h
    obtain ⟨rfl, rfl⟩ := h
    simp [snocR]
  | p :: q :: r, a, n, h => by
    have ih := snocR_last z (q :: r) a n (by simpa using h)
    simp only [snocR]
    rw [ih]
    split <;> simp
theorem run_end (L : List (List Int)) (i : Nat) (a : Int) (n : Nat) (h : (runsG (numsTo L i))[(runsG (numsTo L i)).length - 1]? = some (a, n)) : a + (n : Int) = i ↔ (0 < i ∧ bk L (i - 1) ≠ []) := by
  have hm := List.mem_of_getElem? h
  have h1 := runsG_oneq _ _ hm
  have hs := numsTo_sorted L i
  have hmem : ∀ z, z ∈ numsTo L i ↔ ∃ k : Nat, z = k ∧ k < i ∧ bk L k ≠ [] := fun z => numsTo_mem L z i
  have hlast : a + ((n - 1 : Nat) : Int) ∈ numsTo L i := runsG_memq hm (n - 1) (by simp only at h1 ⊢; omega)
  constructor
  · intro e
    obtain ⟨k, hk1, hk2, hk3⟩ := (hmem _).1 hlast
    simp only at h1
    have : k = i - 1 := by omega
    subst this
    exact ⟨by omega, hk3⟩
  · rintro ⟨h0, hb⟩
    have hin : ((i - 1 : Nat) : Int) ∈ numsTo L i := (hmem _).2 ⟨i - 1, rfl, by omega, hb⟩
    rw [← runsG_all (numsTo L i)] at hin
    obtain ⟨p, hp, hx⟩ := List.mem_flatMap.1 hin
    obtain ⟨j, hj, e⟩ := List.mem_map.1 hx
    have hj := List.mem_range.1 hj
    obtain ⟨k, hk, rfl⟩ := List.getElem_of_mem hp
    obtain ⟨hl, el⟩ := List.getElem?_eq_some_iff.1 h
    have hsep := List.pairwise_iff_getElem.1 (runsG_sepq _ hs)
    rcases Nat.lt_or_ge k ((runsG (numsTo L i)).length - 1) with hlt | hge
    · exfalso
      have := hsep k _ hk hl hlt
      rw [el] at this
      obtain ⟨k2, hk21, hk22, _⟩ := (hmem _).1 hlast
      simp only at this h1
      omega
    · have hk2 : k = (runsG (numsTo L i)).length - 1 := by omega
      subst hk2
      rw [el] at e hj
      obtain ⟨k2, hk21, hk22, _⟩ := (hmem _).1 hlast
      simp only at e hj h1
      omega
theorem runs_step (L : List (List Int)) (i : Nat) (h : bk L i ≠ []) : (0 < i ∧ bk L (i - 1) ≠ [] → ∃ a n, (runsG (numsTo L i))[(runsG (numsTo L i)).length - 1]? = some (a, n) ∧ 0 < (runsG (numsTo L i)).length ∧ runsG (numsTo L (i + 1)) = (runsG (numsTo L i)).set ((runsG (numsTo L i)).length - 1) (a, n + 1)) ∧
    (¬ (0 < i ∧ bk L (i - 1) ≠ []) → runsG (numsTo L (i + 1)) = runsG (numsTo L i) ++ [((i : Int), 1)]) := by
  have e : runsG (numsTo L (i + 1)) = snocR (runsG (numsTo L i)) i := by rw [numsTo, if_neg h, runsG_snoc]
  rw [e]
  rcases hr : runsG (numsTo L i) with _ | ⟨p, r⟩
  · refine ⟨fun ⟨h0, hb⟩ => ?_, fun _ => rfl⟩
    exfalso
    have hin : ((i - 1 : Nat) : Int) ∈ numsTo L i := (numsTo_mem L _ i).2 ⟨i - 1, rfl, by omega, hb⟩
    rw [runsG_nil hr] at hin
    cases hin
  · rw [← hr]
    have hl : 0 < (runsG (numsTo L i)).length := by rw [hr]; simp
    obtain ⟨⟨a, n⟩, hp⟩ : ∃ p, (runsG (numsTo L i))[(runsG (numsTo L i)).length - 1]? = some p := ⟨_, List.getElem?_eq_getElem (by omega)⟩
    have he := run_end L i a n hp
    rw [snocR_last i _ a n hp]
    refine ⟨fun h => ⟨a, n, hp, hl, if_pos (he.2 h)⟩, fun h => if_neg (fun hh => h (he.1 hh))⟩
/-- Pairs that are written, each in a block of its own. -/
structure RSt (w : World) (A : Option Addr) (c : Nat) (l : List (Int × Nat)) (bs : List Nat) (W : World) : Prop where
  len : bs.length = l.length
  row : W.ownsRow w.heap.size 40 1 (.slice A l.length c) l.length (bs.map fun b => .slice (some ⟨b, 0, none⟩) 2 2)
  cap : l.length ≤ c
  pw : bs.Pairwise (· < ·)
  lo : ∀ b ∈ bs, w.heap.size ≤ b
  blk : ∀ (i b : Nat) (p : Int × Nat), bs[i]? = some b → l[i]? = some p → Blk W b 3 #[.int .i64 p.1, .int .i64 (p.2 : Nat)]
  bl : Below w.heap.size w W
section
variable {w W : World} {A : Option Addr} {c : Nat} {l : List (Int × Nat)} {bs : List Nat}
theorem RSt.lt (h : RSt w A c l bs W) : ∀ b ∈ bs, b < W.heap.size := fun b hb => by
  obtain ⟨i, hi, rfl⟩ := List.getElem_of_mem hb
  have hl : i < l.length := by have := h.len; omega
  exact (h.blk i _ l[i] (List.getElem?_eq_getElem hi) (List.getElem?_eq_getElem hl)).lt
theorem RSt.add (h : RSt w A c l bs W) {p : Int × Nat} {A' : Option Addr} {c' : Nat} {W2 : World}
    (ho : W2.ownsRow w.heap.size 40 1 (.slice A' (l.length + 1) c') (l.length + 1) ((bs.map fun b => .slice (some ⟨b, 0, none⟩) 2 2) ++ [.slice (some ⟨W.heap.size, 0, none⟩) 2 2])) (hc : l.length + 1 ≤ c')
    (ht : Tr (Blo A) ((W.alloc (.cells #[.int .i64 p.1, .int .i64 (p.2 : Nat)] 3)).alloc (.cells #[.slice (some ⟨W.heap.size, 0, none⟩) 2 2] 40)) W2) : RSt w A' c' (l ++ [p]) (bs ++ [W.heap.size]) W2 := by
  have hlt := h.lt
  have hge := own_ge h.row
  have hAlt := own_lt h.row
  have t0 : Below W.heap.size W ((W.alloc (.cells #[.int .i64 p.1, .int .i64 (p.2 : Nat)] 3)).alloc (.cells #[.slice (some ⟨W.heap.size, 0, none⟩) 2 2] 40)) := bl_chain (bl_alloc W _) (bl_alloc _ _)
  have hbn : Blk ((W.alloc (.cells #[.int .i64 p.1, .int .i64 (p.2 : Nat)] 3)).alloc (.cells #[.slice (some ⟨W.heap.size, 0, none⟩) 2 2] 40)) W.heap.size 3 #[.int .i64 p.1, .int .i64 (p.2 : Nat)] := (Blk.new W _ _).alloc _
  refine ⟨by simp [h.len], by rw [List.length_append, List.map_append]; exact ho, by simpa using hc, ?_, ?_, ?_, bl_tr (bl_chain h.bl t0) ht hge⟩
  · rw [List.pairwise_append]
    refine ⟨h.pw, by simp, fun a ha b hb => ?_⟩
    simp at hb
    subst hb
    exact hlt a ha
  · intro b hb
    rcases List.mem_append.1 hb with hb | hb
    · exact h.lo b hb
    · simp at hb; subst hb; exact h.bl.size
  · intro i b q h1 h2
    rw [List.getElem?_append] at h1 h2
    split at h1
    · rename_i hi
      rw [if_pos (by have := h.len; omega)] at h2
      have hb := h.blk i b q h1 h2
      exact ht.blk (hb.keep t0) (fun hx => own_blk h.row hb (by decide) hx)
    · rename_i hi
      rw [if_neg (by have := h.len; omega)] at h2
      have e1 : i - bs.length = 0 := by have := (List.getElem?_eq_some_iff.1 h1).1; simp at this; omega
      have e2 : i - l.length = 0 := by have := h.len; omega
      rw [e1] at h1
      rw [e2] at h2
      simp at h1 h2
      subst h1 h2
      exact ht.blk hbn (fun hx => by have := hAlt _ hx; omega)
theorem RSt.inc (h : RSt w A c l bs W) {a : Int} {n b : Nat} (h0 : 0 < l.length) (hb : bs[l.length - 1]? = some b) (hl : l[l.length - 1]? = some (a, n)) : RSt w A c (l.set (l.length - 1) (a, n + 1)) bs (W.setCell ⟨b, 1, none⟩ (.int .i64 ((n + 1 : Nat) : Int))) := by
  have hbk := h.blk _ _ _ hb hl
  have hmem := List.mem_of_getElem? hb
  have ht : Tr (fun x => x = b) W (W.setCell ⟨b, 1, none⟩ (.int .i64 ((n + 1 : Nat) : Int))) := (Tr.refl (fun x => x = b) W).setCell (p := ⟨b, 1, none⟩) (fun _ => rfl) _
  refine ⟨by simp [h.len], ?_, by simpa using h.cap, h.pw, h.lo, ?_, bl_tr h.bl ht (fun x e => by rw [e]; exact h.lo b hmem)⟩
  · rw [List.length_set]
    exact own_tr h.row ht (fun x hx e => own_blk h.row hbk (by decide) (e ▸ hx))
  · intro i b' q h1 h2
    by_cases hi : i = l.length - 1
    · subst hi
      rw [hb] at h1
      injection h1 with h1
      subst h1
      rw [List.getElem?_set_self (by omega)] at h2
      injection h2 with h2
      subst h2
      have := hbk.set_ 1 (.int .i64 ((n + 1 : Nat) : Int))
      exact this
    · rw [List.getElem?_set_ne (by omega)] at h2
      have hb' := h.blk i b' q h1 h2
      refine ht.blk hb' (fun e => hi ?_)
      subst e
      obtain ⟨l1, e1⟩ := List.getElem?_eq_some_iff.1 h1
      obtain ⟨l2, e2⟩ := List.getElem?_eq_some_iff.1 hb
      rcases Nat.lt_trichotomy i (l.length - 1) with hx | hx | hx
      · have := List.pairwise_iff_getElem.1 h.pw _ _ l1 l2 hx; omega
      · exact hx
      · have := List.pairwise_iff_getElem.1 h.pw _ _ l2 l1 hx; omega
theorem RSt.pairs (h : RSt w A c l bs W) : PairsAt W w.heap.size (bs.map fun b => .slice (some ⟨b, 0, none⟩) 2 2) l := fun i p hp => by
  obtain ⟨hl, _⟩ := List.getElem?_eq_some_iff.1 hp
  have hbl : i < bs.length := by have := h.len; omega
  have hbi : bs[i]? = some bs[i] := List.getElem?_eq_getElem hbl
  exact ⟨bs[i], by rw [List.getElem?_map, hbi]; rfl, h.lo _ (List.mem_of_getElem? hbi), h.blk i _ p hbi hp⟩
end
section
variable {w : World} {r q c : Nat} {L : List (List Int)} {M : Nat → Prop}
set_option maxHeartbeats 3200000 in
theorem rruns_any (h : IsRef w r L q c M) : Calls Try.prog 57 #[.pointer (some ⟨r, 0, none⟩)] w fun e w' => ∃ A c vs, e = .returned (.slice A (runsG (nums L)).length c) ∧ (runsG (nums L)).length ≤ c ∧ w'.ownsRow w.heap.size 40 1 (.slice A (runsG (nums L)).length c) (runsG (nums L)).length vs ∧ PairsAt w' w.heap.size vs (runsG (nums L)) ∧ Below w.heap.size w w' := by
  have h256 := h.ok.hi
  have HH := Lib.hid h
  have c0 : w.cell? ⟨r, 0, none⟩ = some (.slice (some ⟨q, 0, none⟩) L.length c) := h.blk.cell 0
  clear h
  go_enter Try.func57, Try.ntmps57
  go_wp2_with fail
  go_loopw [3, 4] (fun v3 v4 W => ∃ (i : Nat) (A1 : Option Addr) (c1 n1 : Nat) (bs : List Nat), i ≤ L.length ∧ v4 = .int .i64 (i : Int) ∧ n1 = (runsG (numsTo L i)).length ∧ v3 = .slice A1 n1 c1 ∧ RSt w A1 c1 (runsG (numsTo L i)) bs W) (fun _ v _ => L.length - (RowKit.intOf v).toNat)
  case atStart => exact ⟨0, none, 0, 0, [], by omega, rfl, rfl, rfl, ⟨rfl, ownsRow_emp _ _ _ _, Nat.le_refl _, List.Pairwise.nil, (fun b hb => by cases hb), (fun i b p hb => by simp at hb), Below.refl _ _⟩⟩
  case round =>
    obtain ⟨i, A1, c1, n1, bs, hi, rfl, hn1, rfl, hR⟩ := hrel
    have HR := Lib.hid hR
    have HI := Lib.hid (HH.out.below hR.bl)
    have hs := hR.bl.size
    clear hR
    have c0 : wr.cell? ⟨r, 0, none⟩ = some (.slice (some ⟨q, 0, none⟩) L.length c) := HI.out.blk.cell 0
    have hnl : n1 ≤ 256 := by
      have h1 := runsG_length_le (numsTo L i)
      have h2 := numsTo_length L i
      have h3 := usedTo_le L i
      omega
    by_cases hlt : i < L.length
    · have HS := Lib.hid (rhas_any HI.out (i : Int) (by omega))
      by_cases h0 : bk L i = []
      · have hh : hasB L (i : Int) = false := decide_eq_false (by simp [h0])
        rw [hh] at HS
        have HN : Hid (numsTo L (i + 1) = numsTo L i) := Lib.hid (by rw [numsTo, if_pos h0, List.append_nil])
        have HN1 := Lib.hid hn1
        clear hh h0 hn1
        go_wp2_with (first
          | (go_at_call 54; (with_reducible refine HS.out.mono ?_); rintro e w' ⟨rfl, rfl⟩))
        exact ⟨⟨i + 1, A1, c1, n1, bs, by omega, by go_num, by rw [HN.out]; exact HN1.out, rfl, by rw [HN.out]; exact HR.out⟩, by simp [RowKit.intOf]; omega⟩
      · have hh : hasB L (i : Int) = true := decide_eq_true ⟨by omega, by simpa using h0⟩
        rw [hh] at HS
        obtain ⟨hs1, hs2⟩ := runs_step L i h0
        by_cases hp : 0 < i ∧ bk L (i - 1) ≠ []
        · obtain ⟨a, n, hl, hlen, hst⟩ := hs1 hp
          have hi0 := hp.1
          have HS2 := Lib.hid (show Calls Try.prog 54 #[.pointer (some ⟨r, 0, none⟩), .int .i64 ((i : Int) - 1)] wr fun e w' => e = .returned (.bool true) ∧ wr = w' from by
            have := rhas_any HI.out ((i : Int) - 1) (by omega)
            rw [show hasB L ((i : Int) - 1) = true from decide_eq_true ⟨by omega, by rw [show ((i : Int) - 1).toNat = i - 1 by omega]; exact hp.2⟩] at this
            exact this)
          obtain ⟨b, hb⟩ : ∃ b, bs[(runsG (numsTo L i)).length - 1]? = some b := ⟨_, List.getElem?_eq_getElem (by have := HR.out.len; omega)⟩
          have HINC := Lib.hid (HR.out.inc hlen hb hl)
          have HST := Lib.hid hst
          have hbk := HR.out.blk _ _ _ hb hl
          have y0 := hbk.cell 0
          have y1 := hbk.cell 1
          have yf := hbk.frozen 1
          simp at y0 y1
          obtain ⟨ga, rfl⟩ := ownsRow_addr HR.out.row hlen
          have x0 : wr.cell? ⟨ga, n1 - 1, none⟩ = some (.slice (some ⟨b, 0, none⟩) 2 2) := by
            obtain ⟨ad, e4, hc⟩ := Rd.of_own HR.out.row ((runsG (numsTo L i)).length - 1) (.slice (some ⟨b, 0, none⟩) 2 2) (by rw [List.getElem?_map, hb]; rfl)
            injection e4 with e4
            subst e4
            rw [add_lit, Nat.zero_add, ← hn1] at hc
            exact hc
          have hn0 : 0 < n1 := by omega
          have hn256 : n ≤ 256 := by
            have hm := List.mem_of_getElem? hl
            have := mem_len run1 _ _ hm
            rw [runsG_all, numsTo_length] at this
            have := usedTo_le L i
            simp [run1] at *
            omega
          have HN1 := Lib.hid hn1
          clear hs1 hs2 hp h0 hh hl hlen hst hb hbk hn1
          have e1 : ((n1 : Int) - 1).toNat = n1 - 1 := by omega
          have e2 : (n1 : Int) - 1 < (n1 : Int) := by omega
          have e3 : 0 ≤ (n1 : Int) - 1 := by omega
          go_wp2_with (first
            | (go_at_call 54; (with_reducible refine HS.out.mono ?_); rintro e w' ⟨rfl, rfl⟩)
            | (go_at_call 54; (with_reducible refine HS2.out.mono ?_); rintro e w' ⟨rfl, rfl⟩))
          exact ⟨⟨i + 1, some ⟨ga, 0, none⟩, c1, n1, bs, by omega, by go_num, by rw [HST.out, List.length_set]; exact HN1.out, rfl, by rw [HST.out]; exact HINC.out⟩, by simp [RowKit.intOf]; omega⟩
        · have HST := Lib.hid (hs2 hp)
          have HN1 := Lib.hid hn1
          by_cases hi0 : 0 < i
          · have HS2 := Lib.hid (show Calls Try.prog 54 #[.pointer (some ⟨r, 0, none⟩), .int .i64 ((i : Int) - 1)] wr fun e w' => e = .returned (.bool false) ∧ wr = w' from by
              have := rhas_any HI.out ((i : Int) - 1) (by omega)
              rw [show hasB L ((i : Int) - 1) = false from decide_eq_false (by rintro ⟨_, h⟩; rw [show ((i : Int) - 1).toNat = i - 1 by omega] at h; exact hp ⟨hi0, h⟩)] at this
              exact this)
            clear hs1 hs2 hp h0 hh
            go_wp2_with (first
              | (go_at_call 54; (with_reducible refine HS.out.mono ?_); rintro e w' ⟨rfl, rfl⟩)
              | (go_at_call 54; (with_reducible refine HS2.out.mono ?_); rintro e w' ⟨rfl, rfl⟩)
              | (at_builtin; refine wpL_append ESI rfl rfl ((HR.out.row.alloc _).alloc _) (by rw [← HN1.out]; rfl) (Rd.newAt _ (wr.heap.size + 1) _ [.slice (some ⟨wr.heap.size, 0, none⟩) 2 2] _ 0 (by simp) rfl) rfl (by rfl) (by simp [Value.oneCell']) ((runsG (numsTo L i)).length + 1) _ rfl rfl (by simp only [maxLen]; omega) (by omega) (by simp; omega) ?_; intro A3 c3 W3 hc3 ho3 ht3 ha3; have HA := Lib.hid (HR.out.add (p := ((i : Int), 1)) ho3 hc3 ht3); have HC3 := Lib.hid hc3; clear ho3 ht3 ha3))
            exact ⟨⟨i + 1, A3, c3, (runsG (numsTo L i)).length + 1, bs ++ [wr.heap.size], by omega, by go_num, by rw [HST.out, List.length_append]; rfl, rfl, by rw [HST.out]; exact HA.out⟩, by simp [RowKit.intOf]; omega⟩
          · have f1 : decide ((0 : Int) < (i : Int)) = false := decide_eq_false (by omega)
            clear hs1 hs2 hp h0 hh
            go_wp2_with (first
              | (go_at_call 54; (with_reducible refine HS.out.mono ?_); rintro e w' ⟨rfl, rfl⟩)
              | (at_builtin; refine wpL_append ESI rfl rfl ((HR.out.row.alloc _).alloc _) (by rw [← HN1.out]; rfl) (Rd.newAt _ (wr.heap.size + 1) _ [.slice (some ⟨wr.heap.size, 0, none⟩) 2 2] _ 0 (by simp) rfl) rfl (by rfl) (by simp [Value.oneCell']) ((runsG (numsTo L i)).length + 1) _ rfl rfl (by simp only [maxLen]; omega) (by omega) (by simp; omega) ?_; intro A3 c3 W3 hc3 ho3 ht3 ha3; have HA := Lib.hid (HR.out.add (p := ((i : Int), 1)) ho3 hc3 ht3); have HC3 := Lib.hid hc3; clear ho3 ht3 ha3))
            exact ⟨⟨i + 1, A3, c3, (runsG (numsTo L i)).length + 1, bs ++ [wr.heap.size], by omega, by go_num, by rw [HST.out, List.length_append]; rfl, rfl, by rw [HST.out]; exact HA.out⟩, by simp [RowKit.intOf]; omega⟩
    · obtain rfl : i = L.length := by omega
      have HN1 := Lib.hid hn1
      clear hn1
      go_wp2_with fail
      go_ret
      refine ⟨A1, c1, _, by rw [← show _ = (runsG (nums L)).length from HN1.out]; rfl, HR.out.cap, HR.out.row, HR.out.pairs, HR.out.bl⟩
end
end Go.Proofs.Ytdddbpnllhnfdaa
