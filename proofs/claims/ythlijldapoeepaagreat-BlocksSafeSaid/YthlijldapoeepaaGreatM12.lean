/- Layer 6: opened, sector, readState. -/
import Derived.Test.YthlijldapoeepaaGreatM11
import Derived.Test.YthlijldapoeepaaGreatM7
import Derived.Test.YthlijldapoeepaaGreatM4
namespace Go.Proofs.YthlijldapoeepaaGreat
set_option linter.unusedVariables false
set_option linter.unusedSimpArgs false
set_option maxRecDepth 100000
open Go.RowKit

def okL (l : List Int) : Bool := decide (unb (l.take 4) = crc (l.drop 4))

set_option maxHeartbeats 800000 in
theorem opened_any (A : Option Addr) (c : Nat) (l : List Int) (w : World) (hr : Rd w A (by8 l)) (hB : isB l) (hl : l.length ≤ 100000) (h4 : 4 < l.length) (hc : l.length ≤ c) (hm : c ≤ maxLen) :
    Calls Tryz.prog 57 #[.slice A l.length c] w fun e w' => (if okL l then ∃ A1 n1 c1, e = .returned (.slice A1 n1 c1) ∧ n1 + 4 = l.length ∧ Rd w A1 (by8 (l.drop 4)) ∧ n1 ≤ c1 ∧ c1 ≤ maxLen ∧ (∀ b, Blo A1 b → Blo A b) ∧ A1.isSome = true else e = .returned (.slice none 0 0)) ∧ w = w' := by
  have hU := crc_u (l.drop 4)
  have hU0 := hU.1
  have hU1 := hU.2
  have hV := unb_range hB 4 (by omega)
  have hV0 := hV.1
  have hV1 : unb (l.take 4) < 4294967296 := by simpa using hV.2
  have hg : getV 4 l = unb (l.take 4) := by unfold getV; rw [if_neg (by omega)]
  have he : getE 4 l = 0 := by unfold getE; rw [if_neg (by omega)]
  have HR := Lib.hid hr
  have hOk : okL l = decide (unb (l.take 4) = crc (l.drop 4)) := rfl
  clear hr hV hU
  obtain ⟨m, hm4⟩ : ∃ m, l.length = m + 4 := ⟨l.length - 4, by omega⟩
  obtain ⟨k, rfl⟩ : ∃ k, c = k + 4 := ⟨c - 4, by omega⟩
  have hA : ∃ ad, A = some ad := by
    obtain ⟨ad, h, _⟩ := HR.out.at_ (k := 0) (by rw [by8_length]; omega)
    exact ⟨ad, h⟩
  obtain ⟨ad, rfl⟩ := hA
  have HR4 := Lib.hid (HR.out.cut (k := 4) (cap := k + 4) (by rw [by8_length]; omega) (by rw [by8_length]; omega))
  have HG := Lib.hid (get4_any (some ad) (k + 4) l w HR.out hB (by omega) hc)
  rw [hg, he, hm4] at HG
  have hk0 : ¬ (k + 4 = 4) := by omega
  have HD : Hid ((l.drop 4).length = m) := Lib.hid (by rw [List.length_drop]; omega)
  have HRD : Hid (Rd w (some (ad.add 4)) (by8 (l.drop 4))) := Lib.hid (by
    have h := HR4.out
    rw [if_neg hk0, by8_drop] at h
    exact h)
  have HB4 := Lib.hid (hB.drop 4)
  have HM4 := Lib.hid hm4
  have HE : Hid (okL l = decide (unb (l.take 4) = crc (l.drop 4))) := Lib.hid hOk
  rw [hm4]
  have HS := Lib.hid (sum_any (some (ad.add 4)) k (l.drop 4) w HRD.out HB4.out (by rw [HD.out]; omega))
  rw [HD.out] at HS
  clear hOk hg he
  generalize unb (l.take 4) = u at hV0 hV1 HE HG
  generalize crc (l.drop 4) = r at hU0 hU1 HE HS
  by_cases hur : u = r
  · have hok : okL l = true := by rw [HE.out]; exact decide_eq_true hur
    subst hur
    rw [hok]
    clear hok HE
    go_enter Tryz.func57, Tryz.ntmps57
    go_wp2_with (first
      | (go_at_call 62; refine HG.out.mono ?_; rintro e w1 ⟨rfl, rfl⟩)
      | (go_at_call 82; refine HS.out.mono ?_; rintro e w1 ⟨rfl, rfl⟩))
    go_ret
    exact ⟨⟨some (ad.add 4), m, k, by first | rfl | simp [Addr.add], by first | rfl | omega, HRD.out, by omega, by omega, fun b hb => by simpa [Blo, block_of_add] using hb, rfl⟩, rfl⟩
  · have hok : okL l = false := by rw [HE.out]; exact decide_eq_false hur
    rw [hok]
    clear hok HE
    go_enter Tryz.func57, Tryz.ntmps57
    go_wp2_with (first
      | (go_at_call 62; refine HG.out.mono ?_; rintro e w1 ⟨rfl, rfl⟩)
      | (go_at_call 82; refine HS.out.mono ?_; rintro e w1 ⟨rfl, rfl⟩))
    go_ret
    exact ⟨by simp, rfl⟩


/-- A state: gen, n, area, open. -/
structure ST where
  gen : Int
  n : Int
  area : Int
  op : Int
def ST.cells (x : ST) : Array Value := #[.int .i64 x.gen, .int .i64 x.n, .int .i64 x.area, .int .i64 x.op]
def ST.list (x : ST) : List Int := n8 [x.gen, x.n, x.area, x.op] ++ List.replicate 220 0
def ST.sector (x : ST) : List Int := sealL x.list
theorem ST.list_length (x : ST) : x.list.length = 252 := by simp [ST.list, n8_length]
theorem ST.sector_length (x : ST) : x.sector.length = 256 := by rw [ST.sector, sealL_length, ST.list_length]
theorem rep0_isB (k : Nat) : isB (List.replicate k 0) := fun x hx => by rw [(List.mem_replicate.1 hx).2]; omega
theorem ST.list_isB (x : ST) : isB x.list := (n8_isB _).append (rep0_isB _)
theorem ST.sector_isB (x : ST) : isB x.sector := sealL_isB x.list_isB
def ST.pos (x : ST) : Prop := (0 ≤ x.gen ∧ x.gen < 9223372036854775808) ∧ (0 ≤ x.n ∧ x.n < 9223372036854775808) ∧ (0 ≤ x.area ∧ x.area < 9223372036854775808) ∧ (0 ≤ x.op ∧ x.op < 9223372036854775808)

theorem by8_rep (l : List Int) (k : Nat) : by8 l ++ List.replicate k (.int .u8 0) = by8 (l ++ List.replicate k 0) := by simp [by8]

theorem numbers4 (A : Option Addr) (c : Nat) (x : ST) (hx : x.pos) (w : World) (hr : Rd w A [.int .i64 x.gen, .int .i64 x.n, .int .i64 x.area, .int .i64 x.op]) :
    Calls Tryz.prog 79 #[.slice A 4 c] w fun e w' => ∃ A' c', e = .returned (.slice A' 32 c') ∧ 32 ≤ c' ∧
      w'.ownsRow w.heap.size 5 1 (.slice A' 32 c') 32 (by8 (n8 [x.gen, x.n, x.area, x.op])) ∧ Below w.heap.size w w' :=
  numbers_any A c [x.gen, x.n, x.area, x.op] w hr (by simp) (by simp only [ST.pos] at hx; intro n hn; simp at hn; rcases hn with rfl | rfl | rfl | rfl <;> omega)
theorem ST.app (x : ST) : by8 (n8 [x.gen, x.n, x.area, x.op]) ++ List.replicate 220 (.int .u8 0) = by8 x.list := by rw [ST.list, ← by8_rep]

theorem sector_seal (A : Option Addr) (c : Nat) (x : ST) (w : World) (hr : Rd w A (by8 x.list)) :
    Calls Tryz.prog 80 #[.slice A 252 c] w fun e w' => ∃ A' c', e = .returned (.slice A' 256 c') ∧ 256 ≤ c' ∧
      w'.ownsRow w.heap.size 5 1 (.slice A' 256 c') 256 (by8 x.sector) ∧ Below w.heap.size w w' := by
  have h := sealed_any A c x.list w hr x.list_isB (by rw [x.list_length]; omega)
  rw [show sealL x.list = x.sector from rfl, x.list_length, x.sector_length] at h
  exact h
set_option maxHeartbeats 800000 in
theorem sector_any (x : ST) (hx : x.pos) (w : World) :
    Calls Tryz.prog 81 #[.agg x.cells] w fun e w' => ∃ A' c', e = .returned (.slice A' 256 c') ∧ 256 ≤ c' ∧
      w'.ownsRow w.heap.size 5 1 (.slice A' 256 c') 256 (by8 x.sector) ∧ Below w.heap.size w w' := by
  have HX := Lib.hid hx
  have HL := Lib.hid x.list_length
  have HSL := Lib.hid x.sector_length
  clear hx
  unfold ST.cells
  go_enter Tryz.func81, Tryz.ntmps81
  go_wp2_with (first
    | (go_at_call 79; with_reducible refine (numbers4 _ _ x HX.out _ (by exact Rd.newAt (w.alloc _) (w.heap.size + 1) _ [.int .i64 x.gen, .int .i64 x.n, .int .i64 x.area, .int .i64 x.op] _ 0 (by simp) rfl)).mono ?_; rintro e w1 ⟨A1, c1, rfl, hc1, ho1, hb1⟩; have HO1 := Lib.hid ho1; have HB1 := Lib.hid hb1; have hz1 := hb1.size; clear ho1 hb1)
    | (at_builtin; refine wpL_append0 _ Tryz.underlying52 Tryz.underlying3 infoU8 rfl rfl rfl rfl HO1.out rfl 220 rfl (by omega) 252 (by8 x.list) rfl x.app (by simp only [maxLen]; omega) (by omega) (by simp at hz1 ⊢; omega) ?_; intro A2 c2 w2 hc2 ho2 ht2 ha2; have HO2 := Lib.hid ho2; have HT2 := Lib.hid ht2; clear ho2 ht2)
    | (go_at_call 80; have hsz := HT2.out.size; refine (sector_seal A2 c2 x _ (Rd.of_own HO2.out)).mono ?_; rintro e w3 ⟨A3, c3, rfl, hc3, ho3, hb3⟩; have HO3 := Lib.hid ho3; have HB3 := Lib.hid hb3; clear ho3 hb3))
  go_ret
  have hsz := HT2.out.size
  simp at hz1
  refine ⟨A3, c3, rfl, hc3, ownsRow_base HO3.out (by omega), ?_⟩
  have t1 : Below w.heap.size w w1 := ((bl_alloc w _).trans ((bl_alloc _ _).mono (by simp))).trans (HB1.out.mono (by simp; omega))
  have t2 : Below w.heap.size w w2 := bl_tr t1 HT2.out (fun b hb => Nat.le_trans (by simp; omega) (own_ge HO1.out b hb))
  exact t2.trans (HB3.out.mono (by omega))


theorem rdr8 (g : Nat) (l : List Int) (w : World) {F : Nat → Prop} (h : IsRdr w 133 g l 0 F) (h8 : 8 ≤ l.length) (hl : l.length ≤ 100000) :
    Calls Tryz.prog 58 #[.pointer (some ⟨g, 0, none⟩), .int .i64 8] w fun e w' => e = .returned (.int .i64 (wrap64 (unb (l.take 8)))) ∧ IsRdr w' 133 g (l.drop 8) 0 F ∧ Tr (fun b => b = g) w w' := by
  refine (rdrNum g l 0 8 w (by omega) (by omega) h (by omega)).mono ?_
  rintro e w' ⟨rfl, h1, h2⟩
  simp only [rdV, rdL, rdE, h8, and_self, if_true] at h1 ⊢
  exact ⟨trivial, h1, h2⟩
theorem rdr8n (g : Nat) (why : Int) (w : World) {F : Nat → Prop} (h : IsRdr w 133 g [] why F) :
    Calls Tryz.prog 58 #[.pointer (some ⟨g, 0, none⟩), .int .i64 8] w fun e w' => e = .returned (.int .i64 0) ∧ (∃ why', IsRdr w' 133 g [] why' F) ∧ Tr (fun b => b = g) w w' := by
  refine (rdrNum g [] why 8 w (by omega) (by omega) h (by simp)).mono ?_
  rintro e w' ⟨rfl, h1, h2⟩
  have e1 : rdV 8 [] why = 0 := by simp [rdV]
  have e2 : rdL 8 [] why = [] := by simp [rdL]
  rw [e1]
  rw [e2] at h1
  exact ⟨rfl, ⟨_, h1⟩, h2⟩
theorem newReader_252 (A : Option Addr) (c : Nat) (l : List Int) (w : World) (hr : Rd w A (by8 l)) (hB : isB l) (hl : l.length = 252) :
    Calls Tryz.prog 56 #[.slice A 252 c] w fun e w' => ∃ g, e = .returned (.pointer (some ⟨g, 0, none⟩)) ∧ IsRdr w' 133 g l 0 (fun b => w.heap.size ≤ b ∧ b < w'.heap.size) ∧ w.heap.size ≤ g ∧ Below w.heap.size w w' := by
  have h := newReader_any A c l w hr hB (by omega)
  rw [hl] at h
  exact h
theorem newReader_nil (w : World) : Calls Tryz.prog 56 #[.slice none 0 0] w fun e w' => ∃ g, e = .returned (.pointer (some ⟨g, 0, none⟩)) ∧ IsRdr w' 133 g [] 0 (fun b => w.heap.size ≤ b ∧ b < w'.heap.size) ∧ w.heap.size ≤ g ∧ Below w.heap.size w w' :=
  newReader_any none 0 [] w Rd.nil isB.nil (by simp)

def rawST (p : List Int) : ST := ⟨wrap64 (unb (p.take 8)), wrap64 (unb ((p.drop 8).take 8)), wrap64 (unb ((p.drop 16).take 8)), wrap64 (unb ((p.drop 24).take 8))⟩
def ST.good (x : ST) : Prop := ¬ (x.gen < 1) ∧ ¬ (1152921504606846976 < x.gen) ∧ ¬ (x.n < 0) ∧ ¬ (1152921504606846976 < x.n) ∧ ¬ (x.area < 0) ∧ ¬ (1 < x.area) ∧ ¬ (x.op < 0) ∧ ¬ (1 < x.op)
instance (x : ST) : Decidable x.good := by unfold ST.good; infer_instance
def ST.zero : ST := ⟨0, 0, 0, 0⟩
def readST (l : List Int) : ST := if okL l = true ∧ (rawST (l.drop 4)).good then rawST (l.drop 4) else ST.zero

theorem ST.bad_cases {a b c d : Int} (h : ¬ (ST.mk a b c d).good) : a < 1 ∨ (¬ a < 1 ∧ 1152921504606846976 < a) ∨ (¬ a < 1 ∧ ¬ 1152921504606846976 < a ∧ b < 0) ∨ (¬ a < 1 ∧ ¬ 1152921504606846976 < a ∧ ¬ b < 0 ∧ 1152921504606846976 < b) ∨
    (¬ a < 1 ∧ ¬ 1152921504606846976 < a ∧ ¬ b < 0 ∧ ¬ 1152921504606846976 < b ∧ c < 0) ∨ (¬ a < 1 ∧ ¬ 1152921504606846976 < a ∧ ¬ b < 0 ∧ ¬ 1152921504606846976 < b ∧ ¬ c < 0 ∧ 1 < c) ∨
    (¬ a < 1 ∧ ¬ 1152921504606846976 < a ∧ ¬ b < 0 ∧ ¬ 1152921504606846976 < b ∧ ¬ c < 0 ∧ ¬ 1 < c ∧ d < 0) ∨ (¬ a < 1 ∧ ¬ 1152921504606846976 < a ∧ ¬ b < 0 ∧ ¬ 1152921504606846976 < b ∧ ¬ c < 0 ∧ ¬ 1 < c ∧ ¬ d < 0 ∧ 1 < d) := by
  simp only [ST.good] at h
  omega

theorem opened_256 (A : Option Addr) (c : Nat) (l : List Int) (w : World) (hr : Rd w A (by8 l)) (hB : isB l) (hl : l.length = 256) (hc : 256 ≤ c) (hm : c ≤ maxLen) (hok : okL l = true) :
    Calls Tryz.prog 57 #[.slice A 256 c] w fun e w' => (∃ A1 c1, e = .returned (.slice A1 252 c1) ∧ Rd w A1 (by8 (l.drop 4)) ∧ 252 ≤ c1 ∧ c1 ≤ maxLen) ∧ w = w' := by
  have h := opened_any A c l w hr hB (by omega) (by omega) (by omega) hm
  rw [hl, hok] at h
  refine h.mono ?_
  rintro e w' ⟨h, rfl⟩
  rw [if_pos rfl] at h
  obtain ⟨A1, n1, c1, rfl, hn, h1, h2, h3, _⟩ := h
  have hn : n1 = 252 := by omega
  subst hn
  exact ⟨⟨A1, c1, rfl, h1, h2, h3⟩, rfl⟩
theorem opened_256n (A : Option Addr) (c : Nat) (l : List Int) (w : World) (hr : Rd w A (by8 l)) (hB : isB l) (hl : l.length = 256) (hc : 256 ≤ c) (hm : c ≤ maxLen) (hok : okL l = false) :
    Calls Tryz.prog 57 #[.slice A 256 c] w fun e w' => e = .returned (.slice none 0 0) ∧ w = w' := by
  have h := opened_any A c l w hr hB (by omega) (by omega) (by omega) hm
  rw [hl, hok] at h
  refine h.mono ?_
  rintro e w' ⟨h, rfl⟩
  exact ⟨by simpa using h, rfl⟩
set_option maxHeartbeats 1600000 in
theorem readState_any (A : Option Addr) (c : Nat) (l : List Int) (w : World) (hr : Rd w A (by8 l)) (hB : isB l) (hl : l.length = 256) (hc : 256 ≤ c) (hm : c ≤ maxLen) :
    Calls Tryz.prog 29 #[.slice A 256 c] w fun e w' => e = .returned (.agg (readST l).cells) ∧ Below w.heap.size w w' := by
  by_cases hok : okL l = true
  · have HO := Lib.hid (fun W h => opened_256 A c l W h hB hl hc hm hok)
    have HB := Lib.hid hB
    have HR := Lib.hid hr
    clear hr hB
    have HL : Hid ((l.drop 4).length = 252) := Lib.hid (by rw [List.length_drop]; omega)
    have hBd := Lib.hid (HB.out.drop 4)
    have hre : readST l = if (rawST (l.drop 4)).good then rawST (l.drop 4) else ST.zero := by
      unfold readST
      simp only [hok, true_and]
    generalize l.drop 4 = p at HO HL hBd hre
    have HRE := Lib.hid hre
    clear hre hl HB hok
    have H1 : Hid ((p.drop 8).length = 244) := Lib.hid (by rw [List.length_drop]; have := HL.out; omega)
    have H2 : Hid (((p.drop 8).drop 8).length = 236) := Lib.hid (by rw [List.length_drop]; have := H1.out; omega)
    have H3 : Hid ((((p.drop 8).drop 8).drop 8).length = 228) := Lib.hid (by rw [List.length_drop]; have := H2.out; omega)
    have HW : Hid (rawST p = ⟨wrap64 (unb (p.take 8)), wrap64 (unb ((p.drop 8).take 8)), wrap64 (unb (((p.drop 8).drop 8).take 8)), wrap64 (unb ((((p.drop 8).drop 8).drop 8).take 8))⟩) := Lib.hid (by simp [rawST, List.drop_drop])
    obtain ⟨a, ha⟩ : ∃ a, wrap64 (unb (p.take 8)) = a := ⟨_, rfl⟩
    obtain ⟨b, hb⟩ : ∃ b, wrap64 (unb ((p.drop 8).take 8)) = b := ⟨_, rfl⟩
    obtain ⟨c', hcc⟩ : ∃ c, wrap64 (unb (((p.drop 8).drop 8).take 8)) = c := ⟨_, rfl⟩
    obtain ⟨d, hd⟩ : ∃ d, wrap64 (unb ((((p.drop 8).drop 8).drop 8).take 8)) = d := ⟨_, rfl⟩
    have HA := Lib.hid ha
    have HB := Lib.hid hb
    have HC := Lib.hid hcc
    have HD := Lib.hid hd
    rw [ha, hb, hcc, hd] at HW
    have HZ : Hid (readST l = if (ST.mk a b c' d).good then ⟨a, b, c', d⟩ else ST.zero) := Lib.hid (by rw [HRE.out, HW.out])
    clear ha hb hcc hd HRE HW
    by_cases hgood : (ST.mk a b c' d).good
    · have HZ : Hid (readST l = ⟨a, b, c', d⟩) := Lib.hid (HZ.out.trans (if_pos hgood))
      obtain ⟨g1, g2, g3, g4, g5, g6, g7, g8⟩ := hgood
      simp only at g1 g2 g3 g4 g5 g6 g7 g8
      go_enter Tryz.func29, Tryz.ntmps29
      go_wp2_with (first
      | (go_at_call 57; refine (HO.out _ (HR.out.below (bl_alloc _ _))).mono ?_; rintro e w1 ⟨⟨A1, c1, rfl, hr1, hc1, hm1⟩, rfl⟩; have HR1 := Lib.hid hr1; clear hr1)
      | (go_at_call 56; refine (newReader_252 A1 c1 p _ HR1.out hBd.out HL.out).mono ?_; rintro e w2 ⟨g, rfl, hq, hg, hb2⟩; have HQ := Lib.hid hq; have HG := Lib.hid hg; have HBL := Lib.hid hb2; simp at hg; clear hq hb2)
      | (go_at_call 58; refine (rdr8 g _ _ HQ.out (by have := HL.out; have := H1.out; have := H2.out; have := H3.out; omega) (by have := HL.out; have := H1.out; have := H2.out; have := H3.out; omega)).mono ?_; rintro e w3 ⟨rfl, hq, ht⟩; (first | rw [HA.out] | rw [HB.out] | rw [HC.out] | rw [HD.out]); have hbl := bl_tr HBL.out ht (fun b hb => hb ▸ HG.out); clear HQ HBL; have HQ := Lib.hid hq; have HBL := Lib.hid hbl; have hbk := (Blk.new w 64 #[.int .i64 0, .int .i64 0, .int .i64 0, .int .i64 0]).keep hbl; have hlt := hbk.lt; have d0 := hbk.cell 0; have d1 := hbk.cell 1; have d2 := hbk.cell 2; have d3 := hbk.cell 3; have f0 := hbk.frozen 0; have f1 := hbk.frozen 1; have f2 := hbk.frozen 2; have f3 := hbk.frozen 3; simp at d0 d1 d2 d3; have HBK := Lib.hid hbk; clear hq hbl ht hbk))
      have hf := ((((HBK.out.set_ 0 (.int .i64 a)).set_ 1 (.int .i64 b)).set_ 2 (.int .i64 c')).set_ 3 (.int .i64 d)).alloc (.cells #[.int .i64 a, .int .i64 b, .int .i64 c', .int .i64 d] 64)
      have e0 := (hf.cell 0).trans (show _ = some (Value.int .i64 a) from rfl)
      have e1 := (hf.cell 1).trans (show _ = some (Value.int .i64 b) from rfl)
      have e2 := (hf.cell 2).trans (show _ = some (Value.int .i64 c') from rfl)
      have e3 := (hf.cell 3).trans (show _ = some (Value.int .i64 d) from rfl)
      refine bodyPost_ret (v := .agg (ST.mk a b c' d).cells) (by simp [results, Tryz.results29, go_sem, ST.cells, ST.zero, e0, e1, e2, e3]) rfl ?_
      refine ⟨by rw [HZ.out], ?_⟩
      have hbw := ((Below.refl w.heap.size w).alloc (Nat.le_refl _) (.cells #[.int .i64 0, .int .i64 0, .int .i64 0, .int .i64 0] 64)).trans (HBL.out.mono (by simp))
      exact ((((hbw.setCell (Nat.le_refl _) _).setCell (Nat.le_refl _) _).setCell (Nat.le_refl _) _).setCell (Nat.le_refl _) _).alloc (by have := hbw.size; simpa using this) _
    · have HZ : Hid (readST l = ST.zero) := Lib.hid (HZ.out.trans (if_neg hgood))
      have hbc := ST.bad_cases hgood
      clear hgood
      rcases hbc with g1 | ⟨g1, g2⟩ | ⟨g1, g2, g3⟩ | ⟨g1, g2, g3, g4⟩ | ⟨g1, g2, g3, g4, g5⟩ | ⟨g1, g2, g3, g4, g5, g6⟩ | ⟨g1, g2, g3, g4, g5, g6, g7⟩ | ⟨g1, g2, g3, g4, g5, g6, g7, g8⟩
      all_goals
        go_enter Tryz.func29, Tryz.ntmps29
        go_wp2_with (first
        | (go_at_call 57; refine (HO.out _ (HR.out.below (bl_alloc _ _))).mono ?_; rintro e w1 ⟨⟨A1, c1, rfl, hr1, hc1, hm1⟩, rfl⟩; have HR1 := Lib.hid hr1; clear hr1)
        | (go_at_call 56; refine (newReader_252 A1 c1 p _ HR1.out hBd.out HL.out).mono ?_; rintro e w2 ⟨g, rfl, hq, hg, hb2⟩; have HQ := Lib.hid hq; have HG := Lib.hid hg; have HBL := Lib.hid hb2; simp at hg; clear hq hb2)
        | (go_at_call 58; refine (rdr8 g _ _ HQ.out (by have := HL.out; have := H1.out; have := H2.out; have := H3.out; omega) (by have := HL.out; have := H1.out; have := H2.out; have := H3.out; omega)).mono ?_; rintro e w3 ⟨rfl, hq, ht⟩; (first | rw [HA.out] | rw [HB.out] | rw [HC.out] | rw [HD.out]); have hbl := bl_tr HBL.out ht (fun b hb => hb ▸ HG.out); clear HQ HBL; have HQ := Lib.hid hq; have HBL := Lib.hid hbl; have hbk := (Blk.new w 64 #[.int .i64 0, .int .i64 0, .int .i64 0, .int .i64 0]).keep hbl; have hlt := hbk.lt; have d0 := hbk.cell 0; have d1 := hbk.cell 1; have d2 := hbk.cell 2; have d3 := hbk.cell 3; have f0 := hbk.frozen 0; have f1 := hbk.frozen 1; have f2 := hbk.frozen 2; have f3 := hbk.frozen 3; simp at d0 d1 d2 d3; have HBK := Lib.hid hbk; clear hq hbl ht hbk))
        have hf := ((((HBK.out.set_ 0 (.int .i64 0)).set_ 1 (.int .i64 0)).set_ 2 (.int .i64 0)).set_ 3 (.int .i64 0)).alloc (.cells #[.int .i64 a, .int .i64 b, .int .i64 c', .int .i64 d] 64)
        have e0 := (hf.cell 0).trans (show _ = some (Value.int .i64 0) from rfl)
        have e1 := (hf.cell 1).trans (show _ = some (Value.int .i64 0) from rfl)
        have e2 := (hf.cell 2).trans (show _ = some (Value.int .i64 0) from rfl)
        have e3 := (hf.cell 3).trans (show _ = some (Value.int .i64 0) from rfl)
        refine bodyPost_ret (v := .agg (ST.zero).cells) (by simp [results, Tryz.results29, go_sem, ST.cells, ST.zero, e0, e1, e2, e3]) rfl ?_
        refine ⟨by rw [HZ.out], ?_⟩
        have hbw := ((Below.refl w.heap.size w).alloc (Nat.le_refl _) (.cells #[.int .i64 0, .int .i64 0, .int .i64 0, .int .i64 0] 64)).trans (HBL.out.mono (by simp))
        exact ((((hbw.setCell (Nat.le_refl _) _).setCell (Nat.le_refl _) _).setCell (Nat.le_refl _) _).setCell (Nat.le_refl _) _).alloc (by have := hbw.size; simpa using this) _
  · have hok : okL l = false := by simpa using hok
    have HO := Lib.hid (fun W h => opened_256n A c l W h hB hl hc hm hok)
    have HR := Lib.hid hr
    have HZ : Hid (readST l = ST.zero) := Lib.hid (if_neg (by simp [hok]))
    clear hr hB hok hl
    go_enter Tryz.func29, Tryz.ntmps29
    go_wp2_with (first
      | (go_at_call 57; refine (HO.out _ (HR.out.below (bl_alloc _ _))).mono ?_; rintro e w1 ⟨rfl, rfl⟩)
      | (go_at_call 56; refine (newReader_nil _).mono ?_; rintro e w2 ⟨g, rfl, hq, hg, hb2⟩; have HQ := Lib.hid (show ∃ why, IsRdr w2 133 g [] why _ from ⟨0, hq⟩); have HG := Lib.hid hg; have HBL := Lib.hid hb2; simp at hg; clear hq hb2)
      | (go_at_call 58; obtain ⟨why, hqq⟩ := HQ.out; refine (rdr8n g why _ hqq).mono ?_; rintro e w3 ⟨rfl, hq, ht⟩; have hbl := bl_tr HBL.out ht (fun b hb => hb ▸ HG.out); clear HQ HBL hqq why; have HQ := Lib.hid hq; have HBL := Lib.hid hbl; have hbk := (Blk.new w 64 #[.int .i64 0, .int .i64 0, .int .i64 0, .int .i64 0]).keep hbl; have hlt := hbk.lt; have d0 := hbk.cell 0; have d1 := hbk.cell 1; have d2 := hbk.cell 2; have d3 := hbk.cell 3; have f0 := hbk.frozen 0; have f1 := hbk.frozen 1; have f2 := hbk.frozen 2; have f3 := hbk.frozen 3; simp at d0 d1 d2 d3; have HBK := Lib.hid hbk; clear hq hbl ht hbk))
    have hf := ((((HBK.out.set_ 0 (.int .i64 0)).set_ 1 (.int .i64 0)).set_ 2 (.int .i64 0)).set_ 3 (.int .i64 0)).alloc (.cells #[.int .i64 0, .int .i64 0, .int .i64 0, .int .i64 0] 64)
    have e0 := (hf.cell 0).trans (show _ = some (Value.int .i64 0) from rfl)
    have e1 := (hf.cell 1).trans (show _ = some (Value.int .i64 0) from rfl)
    have e2 := (hf.cell 2).trans (show _ = some (Value.int .i64 0) from rfl)
    have e3 := (hf.cell 3).trans (show _ = some (Value.int .i64 0) from rfl)
    refine bodyPost_ret (v := .agg (ST.zero).cells) (by simp [results, Tryz.results29, go_sem, ST.cells, ST.zero, e0, e1, e2, e3]) rfl ?_
    refine ⟨by rw [HZ.out], ?_⟩
    have hbw := ((Below.refl w.heap.size w).alloc (Nat.le_refl _) (.cells #[.int .i64 0, .int .i64 0, .int .i64 0, .int .i64 0] 64)).trans (HBL.out.mono (by simp))
    exact ((((hbw.setCell (Nat.le_refl _) _).setCell (Nat.le_refl _) _).setCell (Nat.le_refl _) _).setCell (Nat.le_refl _) _).alloc (by have := hbw.size; simpa using this) _

end Go.Proofs.YthlijldapoeepaaGreat

/- Layer 6: a row of blocks. -/

namespace Go.Proofs.YthlijldapoeepaaGreat
set_option linter.unusedVariables false
set_option linter.unusedSimpArgs false
set_option maxRecDepth 100000
open Go.RowKit

def cellL (L : List (List Int)) (i : Nat) : List Int := (if bk L i = [] then 0 else 1) :: bv L i
def rowTo (L : List (List Int)) (k : Nat) : Nat → List Int
  | 0 => []
  | i + 1 => rowTo L k i ++ cellL L (3 * k + i)
def rowL (L : List (List Int)) (k : Nat) : List Int := rowTo L k 3
theorem cellL_length {L : List (List Int)} (h : ImgOk L) (i : Nat) : (cellL L i).length = 65 := by simp [cellL, bv_length h]
theorem rowTo_length {L : List (List Int)} (h : ImgOk L) (k : Nat) : ∀ i, (rowTo L k i).length = 65 * i
  | 0 => rfl
  | i + 1 => by rw [rowTo, List.length_append, rowTo_length h k i, cellL_length h]; omega
theorem bv_isB {L : List (List Int)} (h : ImgOk L) (i : Nat) : isB (bv L i) := by
  unfold bv
  split
  · exact rep0_isB 64
  · next hb => exact ((h.at_ i).resolve_left hb).2
theorem cellL_isB {L : List (List Int)} (h : ImgOk L) (i : Nat) : isB (cellL L i) := by
  intro x hx
  rcases List.mem_cons.1 hx with rfl | hx
  · split <;> omega
  · exact bv_isB h i x hx
theorem rowTo_isB {L : List (List Int)} (h : ImgOk L) (k : Nat) : ∀ i, isB (rowTo L k i)
  | 0 => isB.nil
  | i + 1 => (rowTo_isB h k i).append (cellL_isB h _)

section
variable {w : World} {g : Nat} {L : List (List Int)} {M : Nat → Prop}
theorem read1_in (h : Img w g L M) (i : Nat) (z : Int) (hz : z = (i : Int)) (hi : i < L.length) : Calls Tryz.prog 89 #[.pointer (some ⟨g, 0, none⟩), .int .i64 z, .int .i64 1] w fun e w' =>
    ∃ A c, e = .returned (.tuple #[.slice A 64 c, .int .i64 0]) ∧ 64 ≤ c ∧ w'.ownsRow w.heap.size 5 1 (.slice A 64 c) 64 (by8 (bv L i)) ∧ Below w.heap.size w w' := by
  subst hz
  have h256 := h.ok.hi
  have hb : inB L.length (i : Int) 1 = true := by unfold inB; exact decide_eq_true (by omega)
  refine (read_any h i 1 (by omega)).mono ?_
  have e1 : readL L (i : Int) 1 = bv L i := by unfold readL; rw [if_pos hb]; simp [rdTo]
  have e2 : wrongE L.length (i : Int) 1 = 0 := by unfold wrongE; rw [if_pos hb]
  rw [e1, e2]
  rintro e w' ⟨A, c, rfl, hc, ho, hbl⟩
  rw [bv_length h.ok] at hc ho
  exact ⟨A, c, by rw [bv_length h.ok], hc, ho, hbl⟩
theorem read1_out (h : Img w g L M) (i : Nat) (z : Int) (hz : z = (i : Int)) (hi : ¬ i < L.length) (h300 : i ≤ 300) : Calls Tryz.prog 89 #[.pointer (some ⟨g, 0, none⟩), .int .i64 z, .int .i64 1] w fun e w' =>
    ∃ A c, e = .returned (.tuple #[.slice A 0 c, .int .i64 1]) ∧ Below w.heap.size w w' := by
  subst hz
  have hb : inB L.length (i : Int) 1 = false := by unfold inB; exact decide_eq_false (by omega)
  refine (read_any h i 1 (by omega)).mono ?_
  have e1 : readL L (i : Int) 1 = [] := by unfold readL; rw [hb]; rfl
  have e2 : wrongE L.length (i : Int) 1 = 1 := by unfold wrongE; rw [hb]; rfl
  rw [e1, e2]
  rintro e w' ⟨A, c, rfl, hc, ho, hbl⟩
  exact ⟨A, c, rfl, hbl⟩
theorem has1 (h : Img w g L M) (i : Nat) (z : Int) (hz : z = (i : Int)) (h300 : i ≤ 300) : Calls Tryz.prog 23 #[.pointer (some ⟨g, 0, none⟩), .int .i64 z] w fun e w' => e = .returned (.bool (decide (bk L i ≠ []))) ∧ w = w' := by
  subst hz
  have e : hasB L (i : Int) = decide (bk L i ≠ []) := by unfold hasB; congr 1; simp
  have := has_any h (i : Int) (by omega)
  rw [e] at this
  exact this
theorem run_make0_256 (w : World) : (Instr.makeSlice 52 (.int .i64 0) (.int .i64 256)).run Tryz.prog w = .ok (.slice (some ⟨w.heap.size, 0, none⟩) 0 256) (w.alloc (.cells (Array.replicate 256 (.int .u8 0)) 5)) := by
  obtain ⟨i0, hi, hz0, hz1, hz2⟩ := info_parts infoU8
  have hr := run_make (P := Tryz.prog) w 52 5 i0 _ Tryz.underlying52 hi hz0 .i64 .i64 0 256 (by omega) (by omega) (by rw [hz2]; omega) (by omega)
  refine Eq.trans hr ?_
  rw [hz1, Nat.mul_one]
  congr 4
  apply Array.ext'
  rw [show (Value.int IntKind.u8 0).cells = #[.int .u8 0] from rfl, toList_madeCells_one]
  simp
theorem own_made0 (w : World) : (w.alloc (.cells (Array.replicate 256 (.int .u8 0)) 5)).ownsRow w.heap.size 5 1 (.slice (some ⟨w.heap.size, 0, none⟩) 0 256) 0 [] :=
  World.ownsRow_made w _ 256 (Nat.le_refl _) (by simp [maxLen]) (by simp)

set_option maxHeartbeats 1600000 in
theorem row_any (sv : Value) (h : Img w g L M) (k : Nat) (hk : k ≤ 90) : Calls Tryz.prog 65 #[sv, .pointer (some ⟨g, 0, none⟩), .int .i64 k] w fun e w' =>
    ∃ A c, e = .returned (.slice A 195 c) ∧ 195 ≤ c ∧ w'.ownsRow w.heap.size 5 1 (.slice A 195 c) 195 (by8 (rowL L k)) ∧ Below w.heap.size w w' := by
  have HH := Lib.hid h
  have hmk0 := run_make0_256
  have HO0 := Lib.hid (own_made0 w)
  have hok := Lib.hid h.ok
  clear h
  go_enter Tryz.func65, Tryz.ntmps65
  go_wp2_with fail
  clear hmk0
  go_loopw [7, 8, 9, 10, 11, 12, 14] (fun v7 _ _ _ _ _ v W => ∃ (i : Nat) (A : Option Addr) (c n : Nat), i ≤ 3 ∧ v = .int .i64 (i : Int) ∧ n = 65 * i ∧ v7 = .slice A n c ∧ n ≤ c ∧ W.ownsRow w.heap.size 5 1 (.slice A n c) n (by8 (rowTo L k i)) ∧ Below w.heap.size w W) (fun _ _ _ _ _ _ v _ => 3 - (intOf v).toNat)
  case atStart => exact ⟨0, _, _, 0, by omega, rfl, rfl, rfl, by omega, HO0.out, bl_alloc _ _⟩
  case round =>
    obtain ⟨i, A, c, n, hi, rfl, hn, rfl, hnc, ho, hb⟩ := hrel
    have HO := Lib.hid ho
    have HB := Lib.hid hb
    have HN := Lib.hid hn
    have hz := hb.size
    clear ho hb hn
    by_cases hlt : i < 3
    · have hI := Lib.hid (HH.out.below HB.out)
      by_cases hin : 3 * k + i < L.length
      · have HC := Lib.hid (read1_in hI.out (3 * k + i) ((k : Int) * 3 + (i : Int)) (by omega) hin)
        by_cases hbk : bk L (3 * k + i) = []
        · have HE : Hid (decide (bk L (3 * k + i) ≠ []) = false) := Lib.hid (by simp [hbk])
          have HF : Hid ((if bk L (3 * k + i) = [] then (0 : Int) else 1) = 0) := Lib.hid (if_pos hbk)
          clear hbk
          go_wp2_with (first
            | (go_at_call 23; with_reducible refine (has1 hI.out (3 * k + i) _ (by omega) (by omega)).mono ?_; rintro e w1 ⟨rfl, rfl⟩; rw [HE.out])
            | (go_at_call 89; with_reducible refine HC.out.mono ?_; rintro e w2 ⟨A2, c2, rfl, hc2, ho2, hb2⟩; have HO2 := Lib.hid ho2; have HB2 := Lib.hid hb2; have HOw := Lib.hid (own_below HO.out hb2 (B := 0)); have hz2 := hb2.size; clear ho2 hb2)
            | (at_builtin; go_loud (with_reducible refine wpL_append E8 rfl rfl (HOw.out.alloc _) rfl (by exact Rd.new1 w2 _ (.int .u8 0)) rfl (by simp) (by simp [Value.oneCell']) (n + 1) (by8 (rowTo L k i ++ [0])) rfl (by simp [by8]) (by simp only [maxLen]; have := HN.out; omega) (by have := HN.out; omega) (by simp; omega) ?_); intro A4 c4 w4 hc4 ho4 ht4 ha4; go_loud (have HO4 := Lib.hid ho4; have HT4 := Lib.hid ht4; have HZ4 := ht4.size); go_loud (have HR4 := Lib.hid (((Rd.of_own HO2.out).below (bl_alloc _ _)).tr ht4 (fun ad he hf => by subst he; have h1 := own_ge HO2.out _ ((Blo.some_iff _ _).2 rfl); have h2 := own_lt HO.out _ hf; omega))); clear ho4 ht4 ha4)
            | (at_builtin; go_loud (refine wpL_append E8 rfl rfl HO4.out rfl HR4.out rfl (by rw [by8_length, bv_length hok.out]) (by8_one _) (n + 65) (by8 (rowTo L k (i + 1))) rfl (by rw [← by8_append, rowTo, cellL, HF.out]; simp) (by simp only [maxLen]; have := HN.out; omega) (by have := HN.out; omega) (by simp at HZ4; omega) ?_); intro A5 c5 w5 hc5 ho5 ht5 ha5; have HO5 := Lib.hid ho5; have HT5 := Lib.hid ht5; clear ho5 ht5 ha5))
          go_roundw
          case measure => simp [intOf]; omega
          case rel =>
            refine ⟨i + 1, A5, c5, n + 65, by omega, by go_num, by have := HN.out; omega, rfl, hc5, HO5.out, ?_⟩
            have t2 : Below w.heap.size w w2 := HB.out.trans (HB2.out.mono hz)
            have t3 := t2.alloc (by omega) (.cells #[.int .u8 0] 5)
            have t4 : Below w.heap.size w w4 := bl_tr t3 HT4.out (fun b hb => own_ge HO.out b hb)
            exact bl_tr t4 HT5.out (fun b hb => own_ge HO4.out b hb)
        · have HE : Hid (decide (bk L (3 * k + i) ≠ []) = true) := Lib.hid (by simp [hbk])
          have HF : Hid ((if bk L (3 * k + i) = [] then (0 : Int) else 1) = 1) := Lib.hid (if_neg hbk)
          clear hbk
          go_wp2_with (first
            | (go_at_call 23; with_reducible refine (has1 hI.out (3 * k + i) _ (by omega) (by omega)).mono ?_; rintro e w1 ⟨rfl, rfl⟩; rw [HE.out])
            | (go_at_call 89; with_reducible refine HC.out.mono ?_; rintro e w2 ⟨A2, c2, rfl, hc2, ho2, hb2⟩; have HO2 := Lib.hid ho2; have HB2 := Lib.hid hb2; have HOw := Lib.hid (own_below HO.out hb2 (B := 0)); have hz2 := hb2.size; clear ho2 hb2)
            | (at_builtin; go_loud (with_reducible refine wpL_append E8 rfl rfl (HOw.out.alloc _) rfl (by exact Rd.new1 w2 _ (.int .u8 1)) rfl (by simp) (by simp [Value.oneCell']) (n + 1) (by8 (rowTo L k i ++ [1])) rfl (by simp [by8]) (by simp only [maxLen]; have := HN.out; omega) (by have := HN.out; omega) (by simp; omega) ?_); intro A4 c4 w4 hc4 ho4 ht4 ha4; go_loud (have HO4 := Lib.hid ho4; have HT4 := Lib.hid ht4; have HZ4 := ht4.size); go_loud (have HR4 := Lib.hid (((Rd.of_own HO2.out).below (bl_alloc _ _)).tr ht4 (fun ad he hf => by subst he; have h1 := own_ge HO2.out _ ((Blo.some_iff _ _).2 rfl); have h2 := own_lt HO.out _ hf; omega))); clear ho4 ht4 ha4)
            | (at_builtin; go_loud (refine wpL_append E8 rfl rfl HO4.out rfl HR4.out rfl (by rw [by8_length, bv_length hok.out]) (by8_one _) (n + 65) (by8 (rowTo L k (i + 1))) rfl (by rw [← by8_append, rowTo, cellL, HF.out]; simp) (by simp only [maxLen]; have := HN.out; omega) (by have := HN.out; omega) (by simp at HZ4; omega) ?_); intro A5 c5 w5 hc5 ho5 ht5 ha5; have HO5 := Lib.hid ho5; have HT5 := Lib.hid ht5; clear ho5 ht5 ha5))
          go_roundw
          case measure => simp [intOf]; omega
          case rel =>
            refine ⟨i + 1, A5, c5, n + 65, by omega, by go_num, by have := HN.out; omega, rfl, hc5, HO5.out, ?_⟩
            have t2 : Below w.heap.size w w2 := HB.out.trans (HB2.out.mono hz)
            have t3 := t2.alloc (by omega) (.cells #[.int .u8 1] 5)
            have t4 : Below w.heap.size w w4 := bl_tr t3 HT4.out (fun b hb => own_ge HO.out b hb)
            exact bl_tr t4 HT5.out (fun b hb => own_ge HO4.out b hb)
      · have hbk : bk L (3 * k + i) = [] := bk_out (by omega)
        have HE : Hid (decide (bk L (3 * k + i) ≠ []) = false) := Lib.hid (by simp [hbk])
        have HF : Hid ((if bk L (3 * k + i) = [] then (0 : Int) else 1) = 0) := Lib.hid (if_pos hbk)
        have HC := Lib.hid (read1_out hI.out (3 * k + i) ((k : Int) * 3 + (i : Int)) (by omega) hin (by omega))
        have HV0 : Hid (bv L (3 * k + i) = List.replicate 64 0) := Lib.hid (if_pos hbk)
        clear hbk
        go_wp2_with (first
          | (go_at_call 23; with_reducible refine (has1 hI.out (3 * k + i) _ (by omega) (by omega)).mono ?_; rintro e w1 ⟨rfl, rfl⟩; rw [HE.out])
          | (go_at_call 89; with_reducible refine HC.out.mono ?_; rintro e w2 ⟨A2, c2, rfl, hb2⟩; have HB2 := Lib.hid hb2; have HOw := Lib.hid (own_below HO.out hb2 (B := 0)); have hz2 := hb2.size; have hmk64 := fun w => run_make8 64 64 rfl (by omega) w; clear hb2)
          | (at_builtin; go_loud (with_reducible refine wpL_append E8 rfl rfl ((HOw.out.alloc _).alloc _) rfl (by exact Rd.newAt _ (w2.heap.size + 1) _ [.int .u8 0] _ 0 (by simp) rfl) rfl (by simp) (by simp [Value.oneCell']) (n + 1) (by8 (rowTo L k i ++ [0])) rfl (by simp [by8]) (by simp only [maxLen]; have := HN.out; omega) (by have := HN.out; omega) (by simp; omega) ?_); intro A4 c4 w4 hc4 ho4 ht4 ha4; go_loud (have HO4 := Lib.hid ho4; have HT4 := Lib.hid ht4; have HZ4 := ht4.size); go_loud (have HR4 := Lib.hid (((Rd.zeros w2 64 5).below (bl_alloc _ _)).tr ht4 (fun ad he hf => by injection he with he; subst he; have h2 := own_lt HOw.out _ hf; simp at h2))); clear ho4 ht4 ha4)
          | (at_builtin; go_loud (refine wpL_append E8 rfl rfl HO4.out rfl HR4.out rfl (by simp [by8]) (by8_one _) (n + 65) (by8 (rowTo L k (i + 1))) rfl (by rw [← by8_append, rowTo, cellL, HF.out, HV0.out]; simp) (by simp only [maxLen]; have := HN.out; omega) (by have := HN.out; omega) (by simp at HZ4; omega) ?_); intro A5 c5 w5 hc5 ho5 ht5 ha5; have HO5 := Lib.hid ho5; have HT5 := Lib.hid ht5; clear ho5 ht5 ha5))
        go_roundw
        case measure => simp [intOf]; omega
        case rel =>
          refine ⟨i + 1, A5, c5, n + 65, by omega, by go_num, by have := HN.out; omega, rfl, hc5, HO5.out, ?_⟩
          have t2 : Below w.heap.size w w2 := HB.out.trans (HB2.out.mono hz)
          have t3 := (t2.alloc (by omega) (.cells (Array.replicate 64 (.int .u8 0)) 5)).alloc (by simp; omega) (.cells #[.int .u8 0] 5)
          have t4 : Below w.heap.size w w4 := bl_tr t3 HT4.out (fun b hb => own_ge HO.out b hb)
          exact bl_tr t4 HT5.out (fun b hb => own_ge HO4.out b hb)
    · have hi3 : i = 3 := by omega
      subst hi3
      go_wp2_with fail
      go_ret
      have hn : n = 195 := by have := HN.out; omega
      subst hn
      exact ⟨A, c, rfl, hnc, HO.out, HB.out⟩
end
end Go.Proofs.YthlijldapoeepaaGreat

/- Layer 6: the store in memory; place, wrong, died. -/

namespace Go.Proofs.YthlijldapoeepaaGreat
set_option linter.unusedVariables false
set_option linter.unusedSimpArgs false
set_option maxRecDepth 100000
open Go.RowKit

def stCells (d g F : Nat) (x : ST) (dead : Bool) : Array Value := #[.pointer (some ⟨d, 0, none⟩), .int .i64 F, .pointer (some ⟨g, 0, none⟩), .int .i64 x.gen, .int .i64 x.n, .int .i64 x.area, .int .i64 x.op, .bool dead]
def IsSt (w : World) (s d g F : Nat) (x : ST) (dead : Bool) : Prop := Blk w s 66 (stCells d g F x dead)

/-- A store at block s, on the disk at block d, with the image at block g. -/
structure StAt (w : World) (s d g F : Nat) (x : ST) (dead : Bool) (D : Dk.DS) (Md Rr : Nat → Prop) (L : List (List Int)) (Mi : Nat → Prop) : Prop where
  blk : IsSt w s d g F x dead
  dsk : Dk.IsDisk w d D Md Rr
  img : Img w g L Mi
  sd : ¬ Md s
  sr : ¬ Rr s
  si : ¬ Mi s
  di : ∀ b, Mi b → ¬ Md b ∧ ¬ Rr b

section
variable {w : World} {s d g F : Nat} {x : ST} {dead : Bool} {L : List (List Int)} {M : Nat → Prop}
theorem rows_q (n : Nat) (hn : n ≤ 256) (w : World) : Calls Tryz.prog 19 #[.int .i64 n] w fun e w' => e = .returned (.int .i64 (rowsN n)) ∧ w' = w :=
  (rows_any n hn w).mono (fun _ _ ⟨a, b⟩ => ⟨a, b.symm⟩)
theorem size_q (h : Img w g L M) : Calls Tryz.prog 59 #[.pointer (some ⟨g, 0, none⟩)] w fun e w' => e = .returned (.int .i64 L.length) ∧ w' = w :=
  (size_any h).mono (fun _ _ ⟨a, b⟩ => ⟨a, b.symm⟩)
theorem Img.drewN (h : Img w g L M) (n : Nat) : Img (w.drewN n) g L M := h.below ⟨rfl, rfl, rfl, Nat.le_refl _, fun _ _ => rfl⟩

set_option maxHeartbeats 800000 in
theorem place_any (hs : IsSt w s d g F x dead) (hi : Img w g L M) (a : Nat) (ha : a ≤ 1) (k : Nat) (hk : k ≤ 100) (hF : F ≤ 100000) :
    Calls Tryz.prog 60 #[.pointer (some ⟨s, 0, none⟩), .int .i64 a, .int .i64 k] w fun e w' => e = .returned (.int .i64 ((F + 19 + a * rowsN L.length + k : Nat) : Int)) ∧ Below w.heap.size w w' := by
  have HI := Lib.hid hi
  have h256 := hi.ok.hi
  have hr : rowsN L.length ≤ 86 := by unfold rowsN; omega
  have c1 := hs.cell 1
  have c2 := hs.cell 2
  simp [stCells] at c1 c2
  clear hi hs
  obtain rfl | rfl : a = 0 ∨ a = 1 := by omega
  all_goals
    go_enter Tryz.func60, Tryz.ntmps60
    go_wp2_with fail
    go_quiet (first
      | (go_at_call 59; exact Calls.quiet_of_same (size_q (HI.out.drewN _)))
      | (go_at_call 19; exact Calls.quiet_of_same (rows_q _ h256 _)))
    go_wp2_with fail
    go_ret
    refine ⟨?_, ?_⟩
    · first | rfl | (congr 3; first | omega | go_num)
    · exact ⟨rfl, rfl, rfl, Nat.le_refl _, fun _ _ => rfl⟩

def wrongS (x : ST) (dead : Bool) (n : Int) : Int := if dead = true then 21 else if n ≤ x.n ∨ 1152921504606846976 < n then 1 else 0
theorem swrong_nil (n : Int) (w : World) : Calls Tryz.prog 48 #[.pointer none, .int .i64 n] w fun e w' => e = .returned (.int .i64 2) ∧ w = w' := by
  go_enter Tryz.func48, Tryz.ntmps48
  go_wp2_with fail
  go_ret
  exact ⟨rfl, rfl⟩
theorem swrong_any (hs : IsSt w s d g F x dead) (n : Int) : Calls Tryz.prog 48 #[.pointer (some ⟨s, 0, none⟩), .int .i64 n] w fun e w' => e = .returned (.int .i64 (wrongS x dead n)) ∧ w = w' := by
  have c4 := hs.cell 4
  have c7 := hs.cell 7
  simp [stCells] at c4 c7
  have hw : Hid (wrongS x dead n = if dead = true then 21 else if n ≤ x.n ∨ 1152921504606846976 < n then 1 else 0) := Lib.hid rfl
  clear hs
  cases dead with
  | true =>
    go_enter Tryz.func48, Tryz.ntmps48
    go_wp2_with fail
    go_ret
    exact ⟨by rw [hw.out]; rfl, rfl⟩
  | false =>
    by_cases h1 : n ≤ x.n
    · go_enter Tryz.func48, Tryz.ntmps48
      go_wp2_with fail
      go_ret
      exact ⟨by rw [hw.out]; simp [h1], rfl⟩
    · by_cases h2 : 1152921504606846976 < n
      · go_enter Tryz.func48, Tryz.ntmps48
        go_wp2_with fail
        go_ret
        exact ⟨by rw [hw.out]; simp [h2], rfl⟩
      · go_enter Tryz.func48, Tryz.ntmps48
        go_wp2_with fail
        go_ret
        exact ⟨by rw [hw.out]; simp [h1, h2], rfl⟩
theorem died_any (hs : IsSt w s d g F x dead) (e0 : Int) : Calls Tryz.prog 54 #[.pointer (some ⟨s, 0, none⟩), .int .i64 e0] w fun e w' => e = .returned (.int .i64 e0) ∧ IsSt w' s d g F x (decide (e0 ≠ 0)) ∧ Tr (fun b => b = s) w w' := by
  have c7 := hs.cell 7
  have f7 := hs.frozen 7
  simp [stCells] at c7
  have HS := Lib.hid hs
  clear hs
  by_cases h0 : e0 = 0
  · subst h0
    go_enter Tryz.func54, Tryz.ntmps54
    go_wp2_with fail
    go_ret
    exact ⟨rfl, HS.out.set_ 7 (.bool false), (Tr.refl (fun b => b = s) w).setCell (p := ⟨s, 7, none⟩) (fun _ => rfl) _⟩
  · go_enter Tryz.func54, Tryz.ntmps54
    go_wp2_with fail
    go_ret
    have hd : decide (e0 ≠ 0) = true := decide_eq_true h0
    have hd2 : (e0 != 0) = true := by simp [h0]
    rw [hd]
    first | rw [hd2] | simp only [hd2]
    exact ⟨rfl, HS.out.set_ 7 (.bool true), (Tr.refl (fun b => b = s) w).setCell (p := ⟨s, 7, none⟩) (fun _ => rfl) _⟩
end
end Go.Proofs.YthlijldapoeepaaGreat
