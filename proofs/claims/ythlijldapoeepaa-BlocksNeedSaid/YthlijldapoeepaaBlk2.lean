/- Layer 6: opened, sector, readState. -/
import Derived.Test.YthlijldapoeepaaBlk1
namespace Go.Proofs.Ythlijldapoeepaa
set_option linter.unusedVariables false
set_option linter.unusedSimpArgs false
set_option maxRecDepth 100000
open Go.RowKit

def okL (l : List Int) : Bool := decide (unb (l.take 4) = crc (l.drop 4))

set_option maxHeartbeats 800000 in
theorem opened_any (A : Option Addr) (c : Nat) (l : List Int) (w : World) (hr : Rd w A (by8 l)) (hB : isB l) (hl : l.length ≤ 100000) (h4 : 4 < l.length) (hc : l.length ≤ c) (hm : c ≤ maxLen) :
    Calls Try.prog 42 #[.slice A l.length c] w fun e w' => (if okL l then ∃ A1 n1 c1, e = .returned (.slice A1 n1 c1) ∧ n1 + 4 = l.length ∧ Rd w A1 (by8 (l.drop 4)) ∧ n1 ≤ c1 ∧ c1 ≤ maxLen ∧ (∀ b, Blo A1 b → Blo A b) ∧ A1.isSome = true else e = .returned (.slice none 0 0)) ∧ w = w' := by
  have hU := crc_u (l.drop 4)
  have hU0 := hU.1
  have hU1 := hU.2
  have hV := unb_range hB 4 (by omega)
  have hV0 := hV.1
  have hV1 : unb (l.take 4) < 4294967296 := by simpa using hV.2
  have hg : getV 4 l = unb (l.take 4) := by unfold getV; rw [if_neg (by omega)]
  have he : getE 4 l = 0 := by unfold getE; rw [if_neg (by omega)]
  have HR := Lib.hid hr
  have hOk : okL l = decide (unb (l.take 4) = crc (l.drop 4)) := rfl
  clear hr hV hU
  obtain ⟨m, hm4⟩ : ∃ m, l.length = m + 4 := ⟨l.length - 4, by omega⟩
  obtain ⟨k, rfl⟩ : ∃ k, c = k + 4 := ⟨c - 4, by omega⟩
  have hA : ∃ ad, A = some ad := by
    obtain ⟨ad, h, _⟩ := HR.out.at_ (k := 0) (by rw [by8_length]; omega)
    exact ⟨ad, h⟩
  obtain ⟨ad, rfl⟩ := hA
  have HR4 := Lib.hid (HR.out.cut (k := 4) (cap := k + 4) (by rw [by8_length]; omega) (by rw [by8_length]; omega))
  have HG := Lib.hid (get4_any (some ad) (k + 4) l w HR.out hB (by omega) hc)
  rw [hg, he, hm4] at HG
  have hk0 : ¬ (k + 4 = 4) := by omega
  have HD : Hid ((l.drop 4).length = m) := Lib.hid (by rw [List.length_drop]; omega)
  have HRD : Hid (Rd w (some (ad.add 4)) (by8 (l.drop 4))) := Lib.hid (by
    have h := HR4.out
    rw [if_neg hk0, by8_drop] at h
    exact h)
  have HB4 := Lib.hid (hB.drop 4)
  have HM4 := Lib.hid hm4
  have HE : Hid (okL l = decide (unb (l.take 4) = crc (l.drop 4))) := Lib.hid hOk
  rw [hm4]
  have HS := Lib.hid (sum_any (some (ad.add 4)) k (l.drop 4) w HRD.out HB4.out (by rw [HD.out]; omega))
  rw [HD.out] at HS
  clear hOk hg he
  generalize unb (l.take 4) = u at hV0 hV1 HE HG
  generalize crc (l.drop 4) = r at hU0 hU1 HE HS
  by_cases hur : u = r
  · have hok : okL l = true := by rw [HE.out]; exact decide_eq_true hur
    subst hur
    rw [hok]
    clear hok HE
    go_enter Try.func42, Try.ntmps42
    go_wp2_with (first
      | (go_at_call 45; refine HG.out.mono ?_; rintro e w1 ⟨rfl, rfl⟩)
      | (go_at_call 56; refine HS.out.mono ?_; rintro e w1 ⟨rfl, rfl⟩))
    go_ret
    exact ⟨⟨some (ad.add 4), m, k, by first | rfl | simp [Addr.add], by first | rfl | omega, HRD.out, by omega, by omega, fun b hb => by simpa [Blo, block_of_add] using hb, rfl⟩, rfl⟩
  · have hok : okL l = false := by rw [HE.out]; exact decide_eq_false hur
    rw [hok]
    clear hok HE
    go_enter Try.func42, Try.ntmps42
    go_wp2_with (first
      | (go_at_call 45; refine HG.out.mono ?_; rintro e w1 ⟨rfl, rfl⟩)
      | (go_at_call 56; refine HS.out.mono ?_; rintro e w1 ⟨rfl, rfl⟩))
    go_ret
    exact ⟨by simp, rfl⟩


/-- A state: gen, n, area, open. -/
structure ST where
  gen : Int
  n : Int
  area : Int
  op : Int
def ST.cells (x : ST) : Array Value := #[.int .i64 x.gen, .int .i64 x.n, .int .i64 x.area, .int .i64 x.op]
def ST.list (x : ST) : List Int := n8 [x.gen, x.n, x.area, x.op] ++ List.replicate 220 0
def ST.sector (x : ST) : List Int := sealL x.list
theorem ST.list_length (x : ST) : x.list.length = 252 := by simp [ST.list, n8_length]
theorem ST.sector_length (x : ST) : x.sector.length = 256 := by rw [ST.sector, sealL_length, ST.list_length]
theorem rep0_isB (k : Nat) : isB (List.replicate k 0) := fun x hx => by rw [(List.mem_replicate.1 hx).2]; omega
theorem ST.list_isB (x : ST) : isB x.list := (n8_isB _).append (rep0_isB _)
theorem ST.sector_isB (x : ST) : isB x.sector := sealL_isB x.list_isB
def ST.pos (x : ST) : Prop := (0 ≤ x.gen ∧ x.gen < 9223372036854775808) ∧ (0 ≤ x.n ∧ x.n < 9223372036854775808) ∧ (0 ≤ x.area ∧ x.area < 9223372036854775808) ∧ (0 ≤ x.op ∧ x.op < 9223372036854775808)

theorem by8_rep (l : List Int) (k : Nat) : by8 l ++ List.replicate k (.int .u8 0) = by8 (l ++ List.replicate k 0) := by simp [by8]

theorem numbers4 (A : Option Addr) (c : Nat) (x : ST) (hx : x.pos) (w : World) (hr : Rd w A [.int .i64 x.gen, .int .i64 x.n, .int .i64 x.area, .int .i64 x.op]) :
    Calls Try.prog 52 #[.slice A 4 c] w fun e w' => ∃ A' c', e = .returned (.slice A' 32 c') ∧ 32 ≤ c' ∧
      w'.ownsRow w.heap.size 5 1 (.slice A' 32 c') 32 (by8 (n8 [x.gen, x.n, x.area, x.op])) ∧ Below w.heap.size w w' :=
  numbers_any A c [x.gen, x.n, x.area, x.op] w hr (by simp) (by simp only [ST.pos] at hx; intro n hn; simp at hn; rcases hn with rfl | rfl | rfl | rfl <;> omega)
theorem ST.app (x : ST) : by8 (n8 [x.gen, x.n, x.area, x.op]) ++ List.replicate 220 (.int .u8 0) = by8 x.list := by rw [ST.list, ← by8_rep]

theorem sector_seal (A : Option Addr) (c : Nat) (x : ST) (w : World) (hr : Rd w A (by8 x.list)) :
    Calls Try.prog 53 #[.slice A 252 c] w fun e w' => ∃ A' c', e = .returned (.slice A' 256 c') ∧ 256 ≤ c' ∧
      w'.ownsRow w.heap.size 5 1 (.slice A' 256 c') 256 (by8 x.sector) ∧ Below w.heap.size w w' := by
  have h := sealed_any A c x.list w hr x.list_isB (by rw [x.list_length]; omega)
  rw [show sealL x.list = x.sector from rfl, x.list_length, x.sector_length] at h
  exact h
set_option maxHeartbeats 800000 in
theorem sector_any (x : ST) (hx : x.pos) (w : World) :
    Calls Try.prog 54 #[.agg x.cells] w fun e w' => ∃ A' c', e = .returned (.slice A' 256 c') ∧ 256 ≤ c' ∧
      w'.ownsRow w.heap.size 5 1 (.slice A' 256 c') 256 (by8 x.sector) ∧ Below w.heap.size w w' := by
  have HX := Lib.hid hx
  have HL := Lib.hid x.list_length
  have HSL := Lib.hid x.sector_length
  clear hx
  unfold ST.cells
  go_enter Try.func54, Try.ntmps54
  go_wp2_with (first
    | (go_at_call 52; with_reducible refine (numbers4 _ _ x HX.out _ (by exact Rd.newAt (w.alloc _) (w.heap.size + 1) _ [.int .i64 x.gen, .int .i64 x.n, .int .i64 x.area, .int .i64 x.op] _ 0 (by simp) rfl)).mono ?_; rintro e w1 ⟨A1, c1, rfl, hc1, ho1, hb1⟩; have HO1 := Lib.hid ho1; have HB1 := Lib.hid hb1; have hz1 := hb1.size; clear ho1 hb1)
    | (at_builtin; refine wpL_append0 _ Try.underlying44 Try.underlying3 infoU8 rfl rfl rfl rfl HO1.out rfl 220 rfl (by omega) 252 (by8 x.list) rfl x.app (by simp only [maxLen]; omega) (by omega) (by simp at hz1 ⊢; omega) ?_; intro A2 c2 w2 hc2 ho2 ht2 ha2; have HO2 := Lib.hid ho2; have HT2 := Lib.hid ht2; clear ho2 ht2)
    | (go_at_call 53; have hsz := HT2.out.size; refine (sector_seal A2 c2 x _ (Rd.of_own HO2.out)).mono ?_; rintro e w3 ⟨A3, c3, rfl, hc3, ho3, hb3⟩; have HO3 := Lib.hid ho3; have HB3 := Lib.hid hb3; clear ho3 hb3))
  go_ret
  have hsz := HT2.out.size
  simp at hz1
  refine ⟨A3, c3, rfl, hc3, ownsRow_base HO3.out (by omega), ?_⟩
  have t1 : Below w.heap.size w w1 := ((bl_alloc w _).trans ((bl_alloc _ _).mono (by simp))).trans (HB1.out.mono (by simp; omega))
  have t2 : Below w.heap.size w w2 := bl_tr t1 HT2.out (fun b hb => Nat.le_trans (by simp; omega) (own_ge HO1.out b hb))
  exact t2.trans (HB3.out.mono (by omega))


theorem rdr8 (g : Nat) (l : List Int) (w : World) {F : Nat → Prop} (h : IsRdr w 104 g l 0 F) (h8 : 8 ≤ l.length) (hl : l.length ≤ 100000) :
    Calls Try.prog 43 #[.pointer (some ⟨g, 0, none⟩), .int .i64 8] w fun e w' => e = .returned (.int .i64 (wrap64 (unb (l.take 8)))) ∧ IsRdr w' 104 g (l.drop 8) 0 F ∧ Tr (fun b => b = g) w w' := by
  refine (rdrNum g l 0 8 w (by omega) (by omega) h (by omega)).mono ?_
  rintro e w' ⟨rfl, h1, h2⟩
  simp only [rdV, rdL, rdE, h8, and_self, if_true] at h1 ⊢
  exact ⟨trivial, h1, h2⟩
theorem rdr8n (g : Nat) (why : Int) (w : World) {F : Nat → Prop} (h : IsRdr w 104 g [] why F) :
    Calls Try.prog 43 #[.pointer (some ⟨g, 0, none⟩), .int .i64 8] w fun e w' => e = .returned (.int .i64 0) ∧ (∃ why', IsRdr w' 104 g [] why' F) ∧ Tr (fun b => b = g) w w' := by
  refine (rdrNum g [] why 8 w (by omega) (by omega) h (by simp)).mono ?_
  rintro e w' ⟨rfl, h1, h2⟩
  have e1 : rdV 8 [] why = 0 := by simp [rdV]
  have e2 : rdL 8 [] why = [] := by simp [rdL]
  rw [e1]
  rw [e2] at h1
  exact ⟨rfl, ⟨_, h1⟩, h2⟩
theorem newReader_252 (A : Option Addr) (c : Nat) (l : List Int) (w : World) (hr : Rd w A (by8 l)) (hB : isB l) (hl : l.length = 252) :
    Calls Try.prog 41 #[.slice A 252 c] w fun e w' => ∃ g, e = .returned (.pointer (some ⟨g, 0, none⟩)) ∧ IsRdr w' 104 g l 0 (fun b => w.heap.size ≤ b ∧ b < w'.heap.size) ∧ w.heap.size ≤ g ∧ Below w.heap.size w w' := by
  have h := newReader_any A c l w hr hB (by omega)
  rw [hl] at h
  exact h
theorem newReader_nil (w : World) : Calls Try.prog 41 #[.slice none 0 0] w fun e w' => ∃ g, e = .returned (.pointer (some ⟨g, 0, none⟩)) ∧ IsRdr w' 104 g [] 0 (fun b => w.heap.size ≤ b ∧ b < w'.heap.size) ∧ w.heap.size ≤ g ∧ Below w.heap.size w w' :=
  newReader_any none 0 [] w Rd.nil isB.nil (by simp)

def rawST (p : List Int) : ST := ⟨wrap64 (unb (p.take 8)), wrap64 (unb ((p.drop 8).take 8)), wrap64 (unb ((p.drop 16).take 8)), wrap64 (unb ((p.drop 24).take 8))⟩
def ST.good (x : ST) : Prop := ¬ (x.gen < 1) ∧ ¬ (1152921504606846976 < x.gen) ∧ ¬ (x.n < 0) ∧ ¬ (1152921504606846976 < x.n) ∧ ¬ (x.area < 0) ∧ ¬ (1 < x.area) ∧ ¬ (x.op < 0) ∧ ¬ (1 < x.op)
instance (x : ST) : Decidable x.good := by unfold ST.good; infer_instance
def ST.zero : ST := ⟨0, 0, 0, 0⟩
def readST (l : List Int) : ST := if okL l = true ∧ (rawST (l.drop 4)).good then rawST (l.drop 4) else ST.zero

theorem ST.bad_cases {a b c d : Int} (h : ¬ (ST.mk a b c d).good) : a < 1 ∨ (¬ a < 1 ∧ 1152921504606846976 < a) ∨ (¬ a < 1 ∧ ¬ 1152921504606846976 < a ∧ b < 0) ∨ (¬ a < 1 ∧ ¬ 1152921504606846976 < a ∧ ¬ b < 0 ∧ 1152921504606846976 < b) ∨
    (¬ a < 1 ∧ ¬ 1152921504606846976 < a ∧ ¬ b < 0 ∧ ¬ 1152921504606846976 < b ∧ c < 0) ∨ (¬ a < 1 ∧ ¬ 1152921504606846976 < a ∧ ¬ b < 0 ∧ ¬ 1152921504606846976 < b ∧ ¬ c < 0 ∧ 1 < c) ∨
    (¬ a < 1 ∧ ¬ 1152921504606846976 < a ∧ ¬ b < 0 ∧ ¬ 1152921504606846976 < b ∧ ¬ c < 0 ∧ ¬ 1 < c ∧ d < 0) ∨ (¬ a < 1 ∧ ¬ 1152921504606846976 < a ∧ ¬ b < 0 ∧ ¬ 1152921504606846976 < b ∧ ¬ c < 0 ∧ ¬ 1 < c ∧ ¬ d < 0 ∧ 1 < d) := by
  simp only [ST.good] at h
  omega

theorem opened_256 (A : Option Addr) (c : Nat) (l : List Int) (w : World) (hr : Rd w A (by8 l)) (hB : isB l) (hl : l.length = 256) (hc : 256 ≤ c) (hm : c ≤ maxLen) (hok : okL l = true) :
    Calls Try.prog 42 #[.slice A 256 c] w fun e w' => (∃ A1 c1, e = .returned (.slice A1 252 c1) ∧ Rd w A1 (by8 (l.drop 4)) ∧ 252 ≤ c1 ∧ c1 ≤ maxLen) ∧ w = w' := by
  have h := opened_any A c l w hr hB (by omega) (by omega) (by omega) hm
  rw [hl, hok] at h
  refine h.mono ?_
  rintro e w' ⟨h, rfl⟩
  rw [if_pos rfl] at h
  obtain ⟨A1, n1, c1, rfl, hn, h1, h2, h3, _⟩ := h
  have hn : n1 = 252 := by omega
  subst hn
  exact ⟨⟨A1, c1, rfl, h1, h2, h3⟩, rfl⟩
theorem opened_256n (A : Option Addr) (c : Nat) (l : List Int) (w : World) (hr : Rd w A (by8 l)) (hB : isB l) (hl : l.length = 256) (hc : 256 ≤ c) (hm : c ≤ maxLen) (hok : okL l = false) :
    Calls Try.prog 42 #[.slice A 256 c] w fun e w' => e = .returned (.slice none 0 0) ∧ w = w' := by
  have h := opened_any A c l w hr hB (by omega) (by omega) (by omega) hm
  rw [hl, hok] at h
  refine h.mono ?_
  rintro e w' ⟨h, rfl⟩
  exact ⟨by simpa using h, rfl⟩
set_option maxHeartbeats 1600000 in
theorem readState_any (A : Option Addr) (c : Nat) (l : List Int) (w : World) (hr : Rd w A (by8 l)) (hB : isB l) (hl : l.length = 256) (hc : 256 ≤ c) (hm : c ≤ maxLen) :
    Calls Try.prog 23 #[.slice A 256 c] w fun e w' => e = .returned (.agg (readST l).cells) ∧ Below w.heap.size w w' := by
  by_cases hok : okL l = true
  · have HO := Lib.hid (fun W h => opened_256 A c l W h hB hl hc hm hok)
    have HB := Lib.hid hB
    have HR := Lib.hid hr
    clear hr hB
    have HL : Hid ((l.drop 4).length = 252) := Lib.hid (by rw [List.length_drop]; omega)
    have hBd := Lib.hid (HB.out.drop 4)
    have hre : readST l = if (rawST (l.drop 4)).good then rawST (l.drop 4) else ST.zero := by
      unfold readST
      simp only [hok, true_and]
    generalize l.drop 4 = p at HO HL hBd hre
    have HRE := Lib.hid hre
    clear hre hl HB hok
    have H1 : Hid ((p.drop 8).length = 244) := Lib.hid (by rw [List.length_drop]; have := HL.out; omega)
    have H2 : Hid (((p.drop 8).drop 8).length = 236) := Lib.hid (by rw [List.length_drop]; have := H1.out; omega)
    have H3 : Hid ((((p.drop 8).drop 8).drop 8).length = 228) := Lib.hid (by rw [List.length_drop]; have := H2.out; omega)
    have HW : Hid (rawST p = ⟨wrap64 (unb (p.take 8)), wrap64 (unb ((p.drop 8).take 8)), wrap64 (unb (((p.drop 8).drop 8).take 8)), wrap64 (unb ((((p.drop 8).drop 8).drop 8).take 8))⟩) := Lib.hid (by simp [rawST, List.drop_drop])
    obtain ⟨a, ha⟩ : ∃ a, wrap64 (unb (p.take 8)) = a := ⟨_, rfl⟩
    obtain ⟨b, hb⟩ : ∃ b, wrap64 (unb ((p.drop 8).take 8)) = b := ⟨_, rfl⟩
    obtain ⟨c', hcc⟩ : ∃ c, wrap64 (unb (((p.drop 8).drop 8).take 8)) = c := ⟨_, rfl⟩
    obtain ⟨d, hd⟩ : ∃ d, wrap64 (unb ((((p.drop 8).drop 8).drop 8).take 8)) = d := ⟨_, rfl⟩
    have HA := Lib.hid ha
    have HB := Lib.hid hb
    have HC := Lib.hid hcc
    have HD := Lib.hid hd
    rw [ha, hb, hcc, hd] at HW
    have HZ : Hid (readST l = if (ST.mk a b c' d).good then ⟨a, b, c', d⟩ else ST.zero) := Lib.hid (by rw [HRE.out, HW.out])
    clear ha hb hcc hd HRE HW
    by_cases hgood : (ST.mk a b c' d).good
    · have HZ : Hid (readST l = ⟨a, b, c', d⟩) := Lib.hid (HZ.out.trans (if_pos hgood))
      obtain ⟨g1, g2, g3, g4, g5, g6, g7, g8⟩ := hgood
      simp only at g1 g2 g3 g4 g5 g6 g7 g8
      go_enter Try.func23, Try.ntmps23
      go_wp2_with (first
      | (go_at_call 42; refine (HO.out _ (HR.out.below (bl_alloc _ _))).mono ?_; rintro e w1 ⟨⟨A1, c1, rfl, hr1, hc1, hm1⟩, rfl⟩; have HR1 := Lib.hid hr1; clear hr1)
      | (go_at_call 41; refine (newReader_252 A1 c1 p _ HR1.out hBd.out HL.out).mono ?_; rintro e w2 ⟨g, rfl, hq, hg, hb2⟩; have HQ := Lib.hid hq; have HG := Lib.hid hg; have HBL := Lib.hid hb2; simp at hg; clear hq hb2)
      | (go_at_call 43; refine (rdr8 g _ _ HQ.out (by have := HL.out; have := H1.out; have := H2.out; have := H3.out; omega) (by have := HL.out; have := H1.out; have := H2.out; have := H3.out; omega)).mono ?_; rintro e w3 ⟨rfl, hq, ht⟩; (first | rw [HA.out] | rw [HB.out] | rw [HC.out] | rw [HD.out]); have hbl := bl_tr HBL.out ht (fun b hb => hb ▸ HG.out); clear HQ HBL; have HQ := Lib.hid hq; have HBL := Lib.hid hbl; have hbk := (Blk.new w 54 #[.int .i64 0, .int .i64 0, .int .i64 0, .int .i64 0]).keep hbl; have hlt := hbk.lt; have d0 := hbk.cell 0; have d1 := hbk.cell 1; have d2 := hbk.cell 2; have d3 := hbk.cell 3; have f0 := hbk.frozen 0; have f1 := hbk.frozen 1; have f2 := hbk.frozen 2; have f3 := hbk.frozen 3; simp at d0 d1 d2 d3; have HBK := Lib.hid hbk; clear hq hbl ht hbk))
      have hf := ((((HBK.out.set_ 0 (.int .i64 a)).set_ 1 (.int .i64 b)).set_ 2 (.int .i64 c')).set_ 3 (.int .i64 d)).alloc (.cells #[.int .i64 a, .int .i64 b, .int .i64 c', .int .i64 d] 54)
      have e0 := (hf.cell 0).trans (show _ = some (Value.int .i64 a) from rfl)
      have e1 := (hf.cell 1).trans (show _ = some (Value.int .i64 b) from rfl)
      have e2 := (hf.cell 2).trans (show _ = some (Value.int .i64 c') from rfl)
      have e3 := (hf.cell 3).trans (show _ = some (Value.int .i64 d) from rfl)
      refine bodyPost_ret (v := .agg (ST.mk a b c' d).cells) (by simp [results, Try.results23, go_sem, ST.cells, ST.zero, e0, e1, e2, e3]) rfl ?_
      refine ⟨by rw [HZ.out], ?_⟩
      have hbw := ((Below.refl w.heap.size w).alloc (Nat.le_refl _) (.cells #[.int .i64 0, .int .i64 0, .int .i64 0, .int .i64 0] 54)).trans (HBL.out.mono (by simp))
      exact ((((hbw.setCell (Nat.le_refl _) _).setCell (Nat.le_refl _) _).setCell (Nat.le_refl _) _).setCell (Nat.le_refl _) _).alloc (by have := hbw.size; simpa using this) _
    · have HZ : Hid (readST l = ST.zero) := Lib.hid (HZ.out.trans (if_neg hgood))
      have hbc := ST.bad_cases hgood
      clear hgood
      rcases hbc with g1 | ⟨g1, g2⟩ | ⟨g1, g2, g3⟩ | ⟨g1, g2, g3, g4⟩ | ⟨g1, g2, g3, g4, g5⟩ | ⟨g1, g2, g3, g4, g5, g6⟩ | ⟨g1, g2, g3, g4, g5, g6, g7⟩ | ⟨g1, g2, g3, g4, g5, g6, g7, g8⟩
      all_goals
        go_enter Try.func23, Try.ntmps23
        go_wp2_with (first
        | (go_at_call 42; refine (HO.out _ (HR.out.below (bl_alloc _ _))).mono ?_; rintro e w1 ⟨⟨A1, c1, rfl, hr1, hc1, hm1⟩, rfl⟩; have HR1 := Lib.hid hr1; clear hr1)
        | (go_at_call 41; refine (newReader_252 A1 c1 p _ HR1.out hBd.out HL.out).mono ?_; rintro e w2 ⟨g, rfl, hq, hg, hb2⟩; have HQ := Lib.hid hq; have HG := Lib.hid hg; have HBL := Lib.hid hb2; simp at hg; clear hq hb2)
        | (go_at_call 43; refine (rdr8 g _ _ HQ.out (by have := HL.out; have := H1.out; have := H2.out; have := H3.out; omega) (by have := HL.out; have := H1.out; have := H2.out; have := H3.out; omega)).mono ?_; rintro e w3 ⟨rfl, hq, ht⟩; (first | rw [HA.out] | rw [HB.out] | rw [HC.out] | rw [HD.out]); have hbl := bl_tr HBL.out ht (fun b hb => hb ▸ HG.out); clear HQ HBL; have HQ := Lib.hid hq; have HBL := Lib.hid hbl; have hbk := (Blk.new w 54 #[.int .i64 0, .int .i64 0, .int .i64 0, .int .i64 0]).keep hbl; have hlt := hbk.lt; have d0 := hbk.cell 0; have d1 := hbk.cell 1; have d2 := hbk.cell 2; have d3 := hbk.cell 3; have f0 := hbk.frozen 0; have f1 := hbk.frozen 1; have f2 := hbk.frozen 2; have f3 := hbk.frozen 3; simp at d0 d1 d2 d3; have HBK := Lib.hid hbk; clear hq hbl ht hbk))
        have hf := ((((HBK.out.set_ 0 (.int .i64 0)).set_ 1 (.int .i64 0)).set_ 2 (.int .i64 0)).set_ 3 (.int .i64 0)).alloc (.cells #[.int .i64 a, .int .i64 b, .int .i64 c', .int .i64 d] 54)
        have e0 := (hf.cell 0).trans (show _ = some (Value.int .i64 0) from rfl)
        have e1 := (hf.cell 1).trans (show _ = some (Value.int .i64 0) from rfl)
        have e2 := (hf.cell 2).trans (show _ = some (Value.int .i64 0) from rfl)
        have e3 := (hf.cell 3).trans (show _ = some (Value.int .i64 0) from rfl)
        refine bodyPost_ret (v := .agg (ST.zero).cells) (by simp [results, Try.results23, go_sem, ST.cells, ST.zero, e0, e1, e2, e3]) rfl ?_
        refine ⟨by rw [HZ.out], ?_⟩
        have hbw := ((Below.refl w.heap.size w).alloc (Nat.le_refl _) (.cells #[.int .i64 0, .int .i64 0, .int .i64 0, .int .i64 0] 54)).trans (HBL.out.mono (by simp))
        exact ((((hbw.setCell (Nat.le_refl _) _).setCell (Nat.le_refl _) _).setCell (Nat.le_refl _) _).setCell (Nat.le_refl _) _).alloc (by have := hbw.size; simpa using this) _
  · have hok : okL l = false := by simpa using hok
    have HO := Lib.hid (fun W h => opened_256n A c l W h hB hl hc hm hok)
    have HR := Lib.hid hr
    have HZ : Hid (readST l = ST.zero) := Lib.hid (if_neg (by simp [hok]))
    clear hr hB hok hl
    go_enter Try.func23, Try.ntmps23
    go_wp2_with (first
      | (go_at_call 42; refine (HO.out _ (HR.out.below (bl_alloc _ _))).mono ?_; rintro e w1 ⟨rfl, rfl⟩)
      | (go_at_call 41; refine (newReader_nil _).mono ?_; rintro e w2 ⟨g, rfl, hq, hg, hb2⟩; have HQ := Lib.hid (show ∃ why, IsRdr w2 104 g [] why _ from ⟨0, hq⟩); have HG := Lib.hid hg; have HBL := Lib.hid hb2; simp at hg; clear hq hb2)
      | (go_at_call 43; obtain ⟨why, hqq⟩ := HQ.out; refine (rdr8n g why _ hqq).mono ?_; rintro e w3 ⟨rfl, hq, ht⟩; have hbl := bl_tr HBL.out ht (fun b hb => hb ▸ HG.out); clear HQ HBL hqq why; have HQ := Lib.hid hq; have HBL := Lib.hid hbl; have hbk := (Blk.new w 54 #[.int .i64 0, .int .i64 0, .int .i64 0, .int .i64 0]).keep hbl; have hlt := hbk.lt; have d0 := hbk.cell 0; have d1 := hbk.cell 1; have d2 := hbk.cell 2; have d3 := hbk.cell 3; have f0 := hbk.frozen 0; have f1 := hbk.frozen 1; have f2 := hbk.frozen 2; have f3 := hbk.frozen 3; simp at d0 d1 d2 d3; have HBK := Lib.hid hbk; clear hq hbl ht hbk))
    have hf := ((((HBK.out.set_ 0 (.int .i64 0)).set_ 1 (.int .i64 0)).set_ 2 (.int .i64 0)).set_ 3 (.int .i64 0)).alloc (.cells #[.int .i64 0, .int .i64 0, .int .i64 0, .int .i64 0] 54)
    have e0 := (hf.cell 0).trans (show _ = some (Value.int .i64 0) from rfl)
    have e1 := (hf.cell 1).trans (show _ = some (Value.int .i64 0) from rfl)
    have e2 := (hf.cell 2).trans (show _ = some (Value.int .i64 0) from rfl)
    have e3 := (hf.cell 3).trans (show _ = some (Value.int .i64 0) from rfl)
    refine bodyPost_ret (v := .agg (ST.zero).cells) (by simp [results, Try.results23, go_sem, ST.cells, ST.zero, e0, e1, e2, e3]) rfl ?_
    refine ⟨by rw [HZ.out], ?_⟩
    have hbw := ((Below.refl w.heap.size w).alloc (Nat.le_refl _) (.cells #[.int .i64 0, .int .i64 0, .int .i64 0, .int .i64 0] 54)).trans (HBL.out.mono (by simp))
    exact ((((hbw.setCell (Nat.le_refl _) _).setCell (Nat.le_refl _) _).setCell (Nat.le_refl _) _).setCell (Nat.le_refl _) _).alloc (by have := hbw.size; simpa using this) _

end Go.Proofs.Ythlijldapoeepaa
