/- Layer 4: a record more. -/
import Derived.Test.YtceajiliahmkaaaWalL
namespace Go.Proofs.Ytceajiliahmkaaa
set_option linter.unusedVariables false
set_option linter.unusedSimpArgs false
set_option maxRecDepth 100000
open Go.RowKit

def LG.lastE (x : LG) : Int := match x.chain.getLast? with
  | none => 0
  | some s => s.epoch
def LG.recAt (x : LG) : Nat := x.place (x.lastL - 1).toNat + x.at_
def LG.recN (x : LG) (b : List Int) : List Int := sealL (n8 [x.lastL, x.next, x.lastE] ++ (be 4 b.length ++ b))
structure AppR where
  x : LG
  D : DS
  n : Int
  err : Int
def LG.app1 (x : LG) (D : DS) (b : List Int) : AppR :=
  if writeE D x.recAt (x.recN b) = 0 then ⟨{ x with at_ := x.at_ + takesN b.length, next := x.next + 1 }, writeD D x.recAt (x.recN b), x.next, 0⟩
  else ⟨{ x with dead := true }, writeD D x.recAt (x.recN b), 0, writeE D x.recAt (x.recN b)⟩
def LG.need (x : LG) (b : List Int) : Prop := x.fresh = true ∨ x.per < x.at_ + takesN b.length
def LG.big (x : LG) (b : List Int) : Prop := 4096 < b.length ∨ x.per - 1 < takesN b.length
instance (x : LG) (b : List Int) : Decidable (x.need b) := by unfold LG.need; exact inferInstance
instance (x : LG) (b : List Int) : Decidable (x.big b) := by unfold LG.big; exact inferInstance
def LG.app (x : LG) (D : DS) (b : List Int) : AppR :=
  if x.dead = true then ⟨x, D, 0, 21⟩ else if x.big b then ⟨x, D, 0, 3⟩
  else if x.need b then (if x.begE D = 0 then (x.begX D).app1 (x.begD D) b else ⟨x.begX D, x.begD D, 0, x.begE D⟩) else x.app1 D b
/-- What a call of the log needs of its numbers. -/
structure LG.Small (x : LG) : Prop where
  last : 0 ≤ x.lastL ∧ x.lastL ≤ 2000000000000000000
  next : 0 ≤ x.next ∧ x.next ≤ 2000000000000000000
  epoch : 0 ≤ x.epoch ∧ x.epoch ≤ 2000000000000000000
  lastE : 0 ≤ x.lastE ∧ x.lastE ≤ 2000000000000000000
  at_ : x.at_ ≤ 100
  some_ : x.fresh = false → x.chain ≠ []
  last1 : x.chain ≠ [] → 1 ≤ x.lastL
section
variable {w w' : World} {p d : Nat} {x : LG} {A Ab : Option Addr} {c cb : Nat} {D : DS} {M R F : Nat → Prop} {b : List Int}
theorem take_len {b : List Int} (hb : b.length ≤ 4096) : takesN b.length ≤ 17 := by unfold takesN; omega
theorem append_no (h : LgAt w p d x A c D M R) (hg : x.Geo D.n) (hm : b.length ≤ 140737488351232) (hno : x.dead = true ∨ x.big b) :
    Calls Try.prog 8 #[.pointer (some ⟨p, 0, none⟩), .slice Ab b.length cb] w fun e w' => e = .returned (.tuple #[.int .i64 (x.app D b).n, .int .i64 (x.app D b).err]) ∧ x.app D b = ⟨x, D, 0, (x.app D b).err⟩ ∧ w = w' := by
  have c3 := h.lg.cell 3
  simp [lgCells] at c3
  have HS := Lib.hid (state_any h.lg)
  have hp2 := hg.p2
  have hp64 := hg.p64
  obtain ⟨n, hn⟩ : ∃ n, b.length = n := ⟨_, rfl⟩
  have HT := Lib.hid (fun (W : World) => takes_any n (by omega) W)
  by_cases hd : x.dead = true
  · have HE : Hid (x.app D b = ⟨x, D, 0, 21⟩) := Lib.hid (by unfold LG.app; rw [if_pos hd])
    have hs : stateE x = 21 := if_pos hd
    rw [hs] at HS
    rw [hn]
    clear h hd hs hn hno hg
    go_enter Try.func8, Try.ntmps8
    go_wp2_with (first
      | (go_at_call 33; (with_reducible refine HS.out.mono ?_); rintro e w1 ⟨rfl, rfl⟩))
    refine bodyPost_ret (v := .tuple #[.int .i64 0, .int .i64 21]) (by simp [results, Try.results8, go_sem]) rfl ?_
    rw [HE.out]
    exact ⟨rfl, rfl, rfl⟩
  · have hbig := hno.resolve_left hd
    have HE : Hid (x.app D b = ⟨x, D, 0, 3⟩) := Lib.hid (by unfold LG.app; rw [if_neg hd, if_pos hbig])
    have hs : stateE x = 0 := if_neg hd
    rw [hs] at HS
    unfold LG.big at hbig
    obtain ⟨P, hP⟩ : ∃ P, x.per = P := ⟨_, rfl⟩
    rw [hP] at c3 hp2 hp64 hbig
    rw [hn] at hbig ⊢
    obtain ⟨k, hk⟩ : ∃ k, takesN n = k := ⟨_, rfl⟩
    rw [hk] at HT hbig
    clear h hd hs hn hno hg hP hk
    by_cases h1 : 4096 < n
    · have b1 : decide (4096 < n) = true := decide_eq_true h1
      go_enter Try.func8, Try.ntmps8
      go_wp2_with (first
        | (go_at_call 33; (with_reducible refine HS.out.mono ?_); rintro e w1 ⟨rfl, rfl⟩)
        | (go_at_call 34; (with_reducible refine (HT.out _).mono ?_); rintro e w1 ⟨rfl, rfl⟩))
      refine bodyPost_ret (v := .tuple #[.int .i64 0, .int .i64 3]) (by simp [results, Try.results8, go_sem]) rfl ?_
      rw [HE.out]
      exact ⟨rfl, rfl, rfl⟩
    · have b1 : decide (4096 < n) = false := decide_eq_false h1
      have h2 : P - 1 < k := hbig.resolve_left h1
      have b2 : decide ((P : Int) - 1 < (k : Int)) = true := decide_eq_true (by omega)
      go_enter Try.func8, Try.ntmps8
      go_wp2_with (first
        | (go_at_call 33; (with_reducible refine HS.out.mono ?_); rintro e w1 ⟨rfl, rfl⟩)
        | (go_at_call 34; (with_reducible refine (HT.out _).mono ?_); rintro e w1 ⟨rfl, rfl⟩))
      refine bodyPost_ret (v := .tuple #[.int .i64 0, .int .i64 3]) (by simp [results, Try.results8, go_sem]) rfl ?_
      rw [HE.out]
      exact ⟨rfl, rfl, rfl⟩
theorem LgAt.moved (h : LgAt w p d x A c D M R) (a : Nat) (n : Int) : LgAt ((w.setCell ⟨p, 10, none⟩ (.int .i64 (a : Int))).setCell ⟨p, 9, none⟩ (.int .i64 n)) p d { x with at_ := a, next := n } A c D M R ∧ Tr (fun b => b = p) w ((w.setCell ⟨p, 10, none⟩ (.int .i64 (a : Int))).setCell ⟨p, 9, none⟩ (.int .i64 n)) := by
  have ts : Tr (fun b => b = p) w ((w.setCell ⟨p, 10, none⟩ (.int .i64 (a : Int))).setCell ⟨p, 9, none⟩ (.int .i64 n)) := ((Tr.refl (fun b => b = p) w).setCell (p := ⟨p, 10, none⟩) (fun _ => rfl) _).setCell (p := ⟨p, 9, none⟩) (fun _ => rfl) _
  have hb := (h.lg.set_ 10 (.int .i64 (a : Int))).set_ 9 (.int .i64 n)
  refine ⟨⟨?_, h.row.tr ts (fun b hb e => h.pa (e ▸ hb)), h.dk.tr ts (fun b hb e => h.pm (e ▸ hb)) (fun b hb e => h.pr (e ▸ hb)), h.pa, h.pm, h.pr, h.am⟩, ts⟩
  simpa [lgCells, IsLg] using hb
def RetApp (w : World) (p d : Nat) (M R : Nat → Prop) (A0 : Option Addr) (r : AppR) (e : Ending) (w' : World) : Prop :=
  RetLg w p d M R A0 r.x r.D (.tuple #[.int .i64 r.n, .int .i64 r.err]) e w'
set_option maxHeartbeats 12800000 in
theorem append_on (h : LgAt w p d x A c D M R) (hg : x.Geo D.n) (hs : x.Small) (hdd : x.dead = false) (hbig : ¬ x.big b) (hneed : ¬ x.need b) (hrb : Rd w Ab (by8 b)) (hbB : isB b) (hbd : ∀ q, Blo Ab q → ¬ M q ∧ q ≠ p ∧ ¬ Blo A q) (hfew : D.gs.length < 1000000) :
    Calls Try.prog 8 #[.pointer (some ⟨p, 0, none⟩), .slice Ab b.length cb] w (RetApp w p d M R A (x.app1 D b)) := by
  have HH := Lib.hid h
  have hplt := h.lg.lt
  have HST := Lib.hid (state_any h.lg)
  rw [show stateE x = 0 from if_neg (by rw [hdd]; simp)] at HST
  have hp2 := hg.p2
  have hp64 := hg.p64
  obtain ⟨n, hn⟩ : ∃ n, b.length = n := ⟨_, rfl⟩
  obtain ⟨k, hk⟩ : ∃ k, takesN n = k := ⟨_, rfl⟩
  obtain ⟨P, hP⟩ : ∃ P, x.per = P := ⟨_, rfl⟩
  obtain ⟨at_, hat⟩ : ∃ P, x.at_ = P := ⟨_, rfl⟩
  obtain ⟨nx, hnx⟩ : ∃ P, x.next = P := ⟨_, rfl⟩
  have hfr : x.fresh = false := by
    cases e : x.fresh
    · rfl
    · exact absurd (.inl e) hneed
  have hne := hs.some_ hfr
  have h1 := hs.last1 hne
  have hq : ¬ P < at_ + k := fun e => hneed (.inr (by rw [hn, hk, hP, hat]; exact e))
  have hn4 : n ≤ 4096 := by rw [← hn]; exact Nat.le_of_not_lt (fun e => hbig (.inl e))
  have hkP : ¬ P - 1 < k := fun e => hbig (.inr (by rw [hn, hk, hP]; exact e))
  have HTK := Lib.hid (fun (W : World) => takes_any n (by omega) W)
  rw [hk] at HTK
  obtain ⟨m, hm⟩ : ∃ m, x.chain.length = m + 1 := by
    cases e : x.chain with
    | nil => exact absurd e hne
    | cons a l => exact ⟨l.length, rfl⟩
  have hml : m < x.chain.length := by rw [hm]; omega
  obtain ⟨g, off, hA, hgl, e0, e1, e2⟩ := h.row.at_ m hml
  have hlast : x.chain.getLast? = some x.chain[m] := by rw [List.getLast?_eq_getElem?, hm, show m + 1 - 1 = m from rfl, List.getElem?_eq_getElem hml]
  have hlife : x.lastL = x.chain[m].life := by unfold LG.lastL; rw [hlast]
  have hlep : x.lastE = x.chain[m].epoch := by unfold LG.lastE; rw [hlast]
  obtain ⟨sl, hsl⟩ : ∃ y, x.lastL = y := ⟨_, rfl⟩
  obtain ⟨se, hse⟩ : ∃ y, x.lastE = y := ⟨_, rfl⟩
  obtain ⟨sf, hsf⟩ : ∃ y, x.chain[m].first = y := ⟨_, rfl⟩
  rw [← hlife, hsl] at e0
  rw [hsf] at e1
  rw [← hlep, hse] at e2
  obtain ⟨s1, s2, s3, s4, s5, _, _⟩ := hs
  rw [hsl] at s1 h1
  rw [hnx] at s2
  rw [hse] at s4
  rw [hat] at s5
  have hmb : m + 1 ≤ 9223372036854775807 := by
    have := h.row.le
    have h2 := h.row.cap
    simp only [maxLen] at h2
    omega
  have wm : IntKind.i64.wrap (m : Int) = (m : Int) := by rw [IntKind.wrap_i64]; omega
  have HG := Lib.hid hg
  have HSL := Lib.hid hsl
  have c3 := h.lg.cell 3
  have c8 := h.lg.cell 8
  have c10 := h.lg.cell 10
  have c11 := h.lg.cell 11
  simp [lgCells] at c3 c8 c10 c11
  rw [hfr] at c11
  rw [hP] at c3 hp2 hp64
  rw [hat] at c10
  rw [hm] at c8
  subst hA
  have b1 : decide (4096 < n) = false := decide_eq_false (by omega)
  have b2 : decide ((P : Int) - 1 < (k : Int)) = false := decide_eq_false (by omega)
  have b3 : decide ((P : Int) < (at_ : Int) + (k : Int)) = false := decide_eq_false (by omega)
  have HRB := Lib.hid hrb
  have HBD := Lib.hid hbd
  obtain ⟨a, ha⟩ : ∃ a, x.recAt = a := ⟨_, rfl⟩
  obtain ⟨l, hl⟩ : ∃ l, x.recN b = l := ⟨_, rfl⟩
  have HR1 : Hid (x.app1 D b = if writeE D a l = 0 then ⟨{ x with at_ := at_ + k, next := nx + 1 }, writeD D a l, nx, 0⟩ else ⟨{ x with dead := true }, writeD D a l, 0, writeE D a l⟩) := Lib.hid (by
    unfold LG.app1
    rw [ha, hl, hat, hnx, hn, hk])
  rw [hn]
  obtain ⟨pl, hpl⟩ : ∃ pl, x.place (sl - 1).toNat = pl := ⟨_, rfl⟩
  have HPP := Lib.hid hpl
  have HAA : Hid ((pl : Int) + (at_ : Int) = (a : Int)) := Lib.hid (by rw [← ha]; unfold LG.recAt; rw [hsl, hpl, hat]; simp)
  have hplb : pl ≤ 4096 := by have := hg.place (sl - 1).toNat; have := hg.big; omega
  have HWA : Hid (IntKind.i64.wrap (a : Int) = (a : Int)) := Lib.hid (by rw [IntKind.wrap_i64]; have := HAA.out; omega)
  have HNX := Lib.hid hnx
  have HAT := Lib.hid hat
  obtain ⟨bb, hbb⟩ : ∃ bb, be 4 (n : Int) ++ b = bb := ⟨_, rfl⟩
  have HBL : Hid ((by8 b).length = n * 1) := Lib.hid (by rw [by8_length, hn, Nat.mul_one])
  have HBBV : Hid (by8 (be 4 (n : Int)) ++ by8 b = by8 bb) := Lib.hid (by rw [← hbb, by8_append])
  have hbbl : bb.length = n + 4 := by rw [← hbb, List.length_append, be_length, hn]; omega
  have hlv : l = sealL (n8 [sl, nx, se] ++ bb) := by rw [← hl]; unfold LG.recN; rw [hsl, hnx, hse, hn, hbb]
  have hll : l.length = n + 32 := by rw [hlv, sealL_length, List.length_append, n8_length, hbbl]; simp; omega
  have HLL := Lib.hid hll
  have HSEA : Hid (∀ (W : World) (A : Option Addr) (c T : Nat), Rd W A (by8 bb) → Blk W T 2 #[.int .i64 sl, .int .i64 nx, .int .i64 se] → Calls Try.prog 41 #[.slice A (n + 4) c, .slice (some ⟨T, 0, none⟩) 3 3] W fun e w' => ∃ A' c', e = .returned (.slice A' (n + 32) c') ∧ n + 32 ≤ c' ∧ w'.ownsRow W.heap.size 5 1 (.slice A' (n + 32) c') (n + 32) (by8 l) ∧ Below W.heap.size W w') := Lib.hid (by
    intro W A c T hr hT
    have h := wsealed_any A c bb (some ⟨T, 0, none⟩) 3 [sl, nx, se] W hr (hbb ▸ (be_isB _ _).append hbB) (by omega) hT.rd (by simp) (by
      intro n hn
      simp only [List.mem_cons, List.mem_nil_iff, or_false] at hn
      rcases hn with rfl | rfl | rfl <;> omega)
    rw [← hlv, hll, hbbl] at h
    exact h)
  have HWRT : Hid (∀ (W : World) (A : Option Addr) (c : Nat) (M' R' : Nat → Prop), IsDisk W d D M' R' → Rd W A (by8 l) → Calls Try.prog 39 #[.pointer (some ⟨d, 0, none⟩), .int .i64 (a : Int), .slice A (n + 32) c] W (RetW W d M' R' (writeD D a l) (writeE D a l))) := Lib.hid (by
    intro W A c M' R' hd hr
    have h := write_any A c l (a : Int) hd hr (hlv ▸ sealL_isB ((n8_isB _).append (hbb ▸ (be_isB _ _).append hbB))) (by omega) hfew (by have := HAA.out; omega)
    rw [hll] at h
    exact h)
  clear h hn hg hP hat hnx hfr hne hbig hneed hlast hlep hlife hsl hse hsf hrb hbd hl hpl hbb hbbl hlv hll ha
  go_enter Try.func8, Try.ntmps8
  go_wp2_with (first
    | (go_at_call 33; (with_reducible refine HST.out.mono ?_); rintro e w1 ⟨rfl, rfl⟩)
    | (go_at_call 34; (with_reducible refine (HTK.out _).mono ?_); rintro e w1 ⟨rfl, rfl⟩))
  go_quiet (fail)
  go_wp2_with fail
  have hvb := bl_drewN w nq
  have hlv := HH.out.below hvb
  have c8 := (hvb.cell (cell_block_lt c8)).trans c8
  have e0 := (hvb.cell (cell_block_lt e0)).trans e0
  have e1 := (hvb.cell (cell_block_lt e1)).trans e1
  have e2 := (hvb.cell (cell_block_lt e2)).trans e2
  have hplv := hlv.lg.lt
  have hglv : g < (w.drewN nq).heap.size := Nat.lt_of_lt_of_le hgl hvb.size
  have HLV := Lib.hid hlv
  have HVB := Lib.hid hvb
  clear hlv hvb
  generalize w.drewN nq = V at c8 e0 e1 e2 hplv hglv HLV HVB ⊢
  go_region
  go_wp2_with fail
  have HRBV := Lib.hid (HRB.out.below HVB.out)
  have HTV := Lib.hid (Tr.of_below (F := fun q => M q ∨ q = p ∨ Blo (some ⟨g, off, none⟩) q) HVB.out)
  have HMV := Lib.hid (show ∀ q, M q → M q ∨ w.heap.size ≤ q from fun q h => .inl h)
  have HRV := Lib.hid (show ∀ q, R q → R q ∨ w.heap.size ≤ q from fun q h => .inl h)
  have HAV := Lib.hid (show ∀ q, Blo (some ⟨g, off, none⟩) q → Blo (some ⟨g, off, none⟩) q ∨ w.heap.size ≤ q from fun q h => .inl h)
  have HSM : Hid (¬ M V.heap.size) := Lib.hid (fun e => by have := HLV.out.dk.mlt _ e; omega)
  have hwb := bl_chain (bl_alloc V (.cells #[.int .i64 sl, .int .i64 sf, .int .i64 se] 71)) (bl_drew _)
  have hsg := (Blk.new V 71 #[.int .i64 sl, .int .i64 sf, .int .i64 se]).drew
  have HWB := Lib.hid hwb
  have HSG := Lib.hid hsg
  clear hwb hsg c8 e0 e1 e2
  generalize (V.alloc (.cells #[.int .i64 sl, .int .i64 sf, .int .i64 se] 71)).drew = W2 at HWB HSG ⊢
  go_wp2_with (first
    | (go_at_call 36; (with_reducible refine (newWriter_any _).mono ?_); rintro e w3 ⟨rfl, hw3, hb3⟩; have HW3 := Lib.hid hw3; have HB3 := Lib.hid hb3; have hz3 := hb3.size; clear hw3 hb3)
    | (go_at_call 37; (with_reducible refine (num4 W2.heap.size W2.heap.size [] (n : Int) _ hz3 HW3.out (by simp) (by omega) (by omega)).mono ?_); rintro e w4 ⟨rfl, hw4, hb4⟩; have HW4 := Lib.hid hw4; have HB4 := Lib.hid (HB3.out.trans hb4); clear hw4 hb4)
    | (go_at_call 38; (with_reducible refine (end_any W2.heap.size W2.heap.size ([] ++ be 4 (n : Int)) _ HW4.out (by simp [be_length])).mono ?_); rintro e w5 ⟨A5, c5, rfl, hc5, ho5, hb5⟩; have HB5 := Lib.hid (bl_chain HB4.out hb5); have HO5 : Hid (w5.ownsRow W2.heap.size 5 1 (.slice A5 4 c5) 4 (by8 (be 4 (n : Int)))) := Lib.hid (ownsRow_base ho5 HB4.out.size); clear ho5 hb5))
  have HL2 := Lib.hid (HLV.out.below HWB.out)
  have HS2 : Hid (W2.cell? ⟨p, 0, none⟩ = some (.pointer (some ⟨d, 0, none⟩)) ∧ W2.cell? ⟨p, 10, none⟩ = some (.int .i64 (at_ : Int)) ∧ W2.cell? ⟨p, 9, none⟩ = some (.int .i64 nx) ∧ W2.cell? ⟨V.heap.size, 0, none⟩ = some (.int .i64 sl) ∧ W2.cell? ⟨V.heap.size, 2, none⟩ = some (.int .i64 se)) := Lib.hid ⟨HL2.out.lg.cell 0, (HL2.out.lg.cell 10).trans (by rw [← HAT.out]; rfl), (HL2.out.lg.cell 9).trans (by rw [← HNX.out]; rfl), HSG.out.cell 0, HSG.out.cell 2⟩
  have HSS : Hid (w5.cell? ⟨p, 0, none⟩ = some (.pointer (some ⟨d, 0, none⟩)) ∧ w5.cell? ⟨p, 10, none⟩ = some (.int .i64 (at_ : Int)) ∧ w5.cell? ⟨p, 9, none⟩ = some (.int .i64 nx) ∧ w5.cell? ⟨V.heap.size, 0, none⟩ = some (.int .i64 sl) ∧ w5.cell? ⟨V.heap.size, 2, none⟩ = some (.int .i64 se)) := Lib.hid ⟨(HB5.out.cell (cell_block_lt HS2.out.1)).trans HS2.out.1, (HB5.out.cell (cell_block_lt HS2.out.2.1)).trans HS2.out.2.1, (HB5.out.cell (cell_block_lt HS2.out.2.2.1)).trans HS2.out.2.2.1, (HB5.out.cell (cell_block_lt HS2.out.2.2.2.1)).trans HS2.out.2.2.2.1, (HB5.out.cell (cell_block_lt HS2.out.2.2.2.2)).trans HS2.out.2.2.2.2⟩
  have HPL : Hid (∀ V', Below W2.heap.size W2 V' → Calls Try.prog 40 #[.pointer (some ⟨p, 0, none⟩), .int .i64 sl] V' fun e w' => e = .returned (.int .i64 (pl : Int)) ∧ Below V'.heap.size V' w') := Lib.hid (fun V' hV => by
    have h := place_any (HL2.out.below hV).lg HG.out (sl - 1).toNat sl (by omega) (by omega)
    rw [HPP.out] at h
    exact h)
  have HOAPP : Hid (∀ q, Blo A5 q → W2.heap.size ≤ q) := Lib.hid (own_ge HO5.out)
  have HOLT : Hid (∀ q, Blo A5 q → q < w5.heap.size) := Lib.hid (own_lt HO5.out)
  refine held_startB (S := fun W => W.cell? ⟨p, 0, none⟩ = some (.pointer (some ⟨d, 0, none⟩)) ∧ W.cell? ⟨p, 10, none⟩ = some (.int .i64 (at_ : Int)) ∧ W.cell? ⟨p, 9, none⟩ = some (.int .i64 nx) ∧ W.cell? ⟨V.heap.size, 0, none⟩ = some (.int .i64 sl) ∧ W.cell? ⟨V.heap.size, 2, none⟩ = some (.int .i64 se)) (by kernel_rfl) ?_
  refine held_take (HSS.out) (i := 0) (v := ?_) rfl (by kernel_rfl) (by kernel_rfl) (by kernel_rfl) (fun _ _ _ h => h) (Or.inl ⟨by rfl, ?_⟩) ?_
  rotate_left
  · (intro W hSw; obtain ⟨s1, s2, s3, s4, s5⟩ := hSw; go_simp; try with_reducible rfl)
  try simp only [Act.put, List.setIfInBounds_toArray, List.set_cons_zero, List.set_cons_succ]
  refine held_take (HSS.out) (i := 1) (v := ?_) rfl (by kernel_rfl) (by kernel_rfl) (by kernel_rfl) (fun _ _ _ h => h) (Or.inl ⟨by rfl, ?_⟩) ?_
  rotate_left
  · (intro W hSw; obtain ⟨s1, s2, s3, s4, s5⟩ := hSw; go_simp; try with_reducible rfl)
  try simp only [Act.put, List.setIfInBounds_toArray, List.set_cons_zero, List.set_cons_succ]
  refine held_take (HSS.out) (i := 2) (v := ?_) rfl (by kernel_rfl) (by kernel_rfl) (by kernel_rfl) (fun _ _ _ h => h) (Or.inl ⟨by rfl, ?_⟩) ?_
  rotate_left
  · (intro W hSw; obtain ⟨s1, s2, s3, s4, s5⟩ := hSw; go_simp; try with_reducible rfl)
  try simp only [Act.put, List.setIfInBounds_toArray, List.set_cons_zero, List.set_cons_succ]
  refine held_take (HSS.out) (i := 3) (v := ?_) rfl (by kernel_rfl) (by kernel_rfl) (by kernel_rfl) (fun _ _ _ h => h) (Or.inl ⟨by rfl, ?_⟩) ?_
  rotate_left
  · (intro W hSw; obtain ⟨s1, s2, s3, s4, s5⟩ := hSw; go_simp; try with_reducible rfl)
  try simp only [Act.put, List.setIfInBounds_toArray, List.set_cons_zero, List.set_cons_succ]
  refine held_take (HSS.out) (i := 4) (v := ?_) rfl (by kernel_rfl) (by kernel_rfl) (by kernel_rfl) (fun _ _ _ h => h) (Or.inl ⟨by rfl, ?_⟩) ?_
  rotate_left
  · (intro W hSw; obtain ⟨s1, s2, s3, s4, s5⟩ := hSw; go_simp; try with_reducible rfl)
  try simp only [Act.put, List.setIfInBounds_toArray, List.set_cons_zero, List.set_cons_succ]
  refine held_take (HSS.out) (i := 5) (v := ?_) rfl (by kernel_rfl) (by kernel_rfl) (by kernel_rfl) (fun _ _ _ h => h) (Or.inl ⟨by rfl, ?_⟩) ?_
  rotate_left
  · (intro W hSw; obtain ⟨s1, s2, s3, s4, s5⟩ := hSw; go_simp; try with_reducible rfl)
  try simp only [Act.put, List.setIfInBounds_toArray, List.set_cons_zero, List.set_cons_succ]
  refine held_take (HSS.out) (i := 6) (v := ?_) rfl (by kernel_rfl) (by kernel_rfl) (by kernel_rfl) (fun _ _ _ h => h) (Or.inl ⟨by rfl, ?_⟩) ?_
  rotate_left
  · (intro W hSw; obtain ⟨s1, s2, s3, s4, s5⟩ := hSw; go_simp; try with_reducible rfl)
  try simp only [Act.put, List.setIfInBounds_toArray, List.set_cons_zero, List.set_cons_succ]
  refine held_take (HSS.out) (i := 8) (v := ?_) rfl (by kernel_rfl) (by kernel_rfl) (by kernel_rfl) (fun _ _ _ h => h) (Or.inl ⟨by rfl, ?_⟩) ?_
  rotate_left
  · (intro W hSw; obtain ⟨s1, s2, s3, s4, s5⟩ := hSw; go_simp; try with_reducible rfl)
  try simp only [Act.put, List.setIfInBounds_toArray, List.set_cons_zero, List.set_cons_succ]
  refine held_take (HSS.out) (i := 9) (v := ?_) rfl (by kernel_rfl) (by kernel_rfl) (by kernel_rfl) (fun _ _ _ h => h) (Or.inl ⟨by rfl, ?_⟩) ?_
  rotate_left
  · (intro W hSw; obtain ⟨s1, s2, s3, s4, s5⟩ := hSw; go_simp; try with_reducible rfl)
  try simp only [Act.put, List.setIfInBounds_toArray, List.set_cons_zero, List.set_cons_succ]
  refine held_take (HSS.out) (i := 10) (v := ?_) rfl (by kernel_rfl) (by kernel_rfl) (by kernel_rfl) (fun _ _ _ h => h) (Or.inl ⟨by rfl, ?_⟩) ?_
  rotate_left
  · (intro W hSw; obtain ⟨s1, s2, s3, s4, s5⟩ := hSw; go_simp; try with_reducible rfl)
  try simp only [Act.put, List.setIfInBounds_toArray, List.set_cons_zero, List.set_cons_succ]
  refine held_take (HSS.out) (i := 11) (v := ?_) rfl (by kernel_rfl) (by kernel_rfl) (by kernel_rfl) (fun _ _ _ h => h) (Or.inl ⟨by rfl, ?_⟩) ?_
  rotate_left
  · (intro W hSw; obtain ⟨s1, s2, s3, s4, s5⟩ := hSw; go_simp; try with_reducible rfl)
  try simp only [Act.put, List.setIfInBounds_toArray, List.set_cons_zero, List.set_cons_succ]
  refine held_take (HSS.out) (i := 13) (v := ?_) rfl (by kernel_rfl) (by kernel_rfl) (by kernel_rfl) (fun _ _ _ h => h) (Or.inl ⟨by rfl, ?_⟩) ?_
  rotate_left
  · (intro W hSw; obtain ⟨s1, s2, s3, s4, s5⟩ := hSw; go_simp; try with_reducible rfl)
  try simp only [Act.put, List.setIfInBounds_toArray, List.set_cons_zero, List.set_cons_succ]
  refine held_take (HSS.out) (i := 14) (v := ?_) rfl (by kernel_rfl) (by kernel_rfl) (by kernel_rfl) (fun _ _ _ h => h) (Or.inl ⟨by rfl, ?_⟩) ?_
  rotate_left
  · (intro W hSw; obtain ⟨s1, s2, s3, s4, s5⟩ := hSw; go_simp; try with_reducible rfl)
  try simp only [Act.put, List.setIfInBounds_toArray, List.set_cons_zero, List.set_cons_succ]
  refine held_take (HSS.out) (i := 16) (v := ?_) rfl (by kernel_rfl) (by kernel_rfl) (by kernel_rfl) (fun _ _ _ h => h) (Or.inl ⟨by rfl, ?_⟩) ?_
  rotate_left
  · (intro W hSw; obtain ⟨s1, s2, s3, s4, s5⟩ := hSw; go_simp; try with_reducible rfl)
  try simp only [Act.put, List.setIfInBounds_toArray, List.set_cons_zero, List.set_cons_succ]
  refine held_take (HSS.out) (i := 17) (v := ?_) rfl (by kernel_rfl) (by kernel_rfl) (by kernel_rfl) (fun _ _ _ h => h) (Or.inl ⟨by rfl, ?_⟩) ?_
  rotate_left
  · (intro W hSw; obtain ⟨s1, s2, s3, s4, s5⟩ := hSw; go_simp; try with_reducible rfl)
  try simp only [Act.put, List.setIfInBounds_toArray, List.set_cons_zero, List.set_cons_succ]
  refine held_take (HSS.out) (i := 18) (v := ?_) rfl (by kernel_rfl) (by kernel_rfl) (by kernel_rfl) (fun _ _ _ h => h) (Or.inl ⟨by rfl, ?_⟩) ?_
  rotate_left
  · (intro W hSw; obtain ⟨s1, s2, s3, s4, s5⟩ := hSw; go_simp; try with_reducible rfl)
  try simp only [Act.put, List.setIfInBounds_toArray, List.set_cons_zero, List.set_cons_succ]
  refine held_take (HSS.out) (i := 19) (v := ?_) rfl (by kernel_rfl) (by kernel_rfl) (by kernel_rfl) (fun _ _ _ h => h) (Or.inl ⟨by rfl, ?_⟩) ?_
  rotate_left
  · (intro W hSw; obtain ⟨s1, s2, s3, s4, s5⟩ := hSw; go_simp; try with_reducible rfl)
  try simp only [Act.put, List.setIfInBounds_toArray, List.set_cons_zero, List.set_cons_succ]
  refine held_take (HSS.out) (i := 20) (v := ?_) rfl (by kernel_rfl) (by kernel_rfl) (by kernel_rfl) (fun _ _ _ h => h) (Or.inl ⟨by rfl, ?_⟩) ?_
  rotate_left
  · (intro W hSw; obtain ⟨s1, s2, s3, s4, s5⟩ := hSw; go_simp; try with_reducible rfl)
  try simp only [Act.put, List.setIfInBounds_toArray, List.set_cons_zero, List.set_cons_succ]
  refine held_take (HSS.out) (i := 21) (v := ?_) rfl (by kernel_rfl) (by kernel_rfl) (by kernel_rfl) (fun _ _ _ h => h) (Or.inl ⟨by rfl, ?_⟩) ?_
  rotate_left
  · (intro W hSw; obtain ⟨s1, s2, s3, s4, s5⟩ := hSw; go_simp; try with_reducible rfl)
  try simp only [Act.put, List.setIfInBounds_toArray, List.set_cons_zero, List.set_cons_succ]
  refine held_take (HSS.out) (i := 22) (v := ?_) rfl (by kernel_rfl) (by kernel_rfl) (by kernel_rfl) (fun _ _ _ h => h) (Or.inl ⟨by rfl, ?_⟩) ?_
  rotate_left
  · (intro W hSw; obtain ⟨s1, s2, s3, s4, s5⟩ := hSw; go_simp; try with_reducible rfl)
  try simp only [Act.put, List.setIfInBounds_toArray, List.set_cons_zero, List.set_cons_succ]
  refine held_take (HSS.out) (i := 23) (v := ?_) rfl (by kernel_rfl) (by kernel_rfl) (by kernel_rfl) (fun _ _ _ h => h) (Or.inl ⟨by rfl, ?_⟩) ?_
  rotate_left
  · (intro W hSw; obtain ⟨s1, s2, s3, s4, s5⟩ := hSw; go_simp; try with_reducible rfl)
  try simp only [Act.put, List.setIfInBounds_toArray, List.set_cons_zero, List.set_cons_succ]
  refine held_call2 (i := 7) (j := 24) (by kernel_rfl) rfl rfl (fun K hK => ?_) (fun K hK => ?_)
  ·
    go_simp
    (go_at_call 40; (with_reducible refine (HPL.out _ (bl_chain HB5.out (bl_drew w5))).mono ?_); rintro e w6 ⟨rfl, hb6⟩; have HB56 := Lib.hid (bl_chain (bl_drew w5) hb6); have HB6 := Lib.hid (bl_chain (bl_chain HB5.out (bl_drew w5)) hb6); have HS6 := Lib.hid (show w6.cell? ⟨p, 0, none⟩ = some (.pointer (some ⟨d, 0, none⟩)) ∧ w6.cell? ⟨p, 10, none⟩ = some (.int .i64 (at_ : Int)) ∧ w6.cell? ⟨p, 9, none⟩ = some (.int .i64 nx) ∧ w6.cell? ⟨V.heap.size, 0, none⟩ = some (.int .i64 sl) ∧ w6.cell? ⟨V.heap.size, 2, none⟩ = some (.int .i64 se) from ⟨(HB6.out.cell (cell_block_lt HS2.out.1)).trans HS2.out.1, (HB6.out.cell (cell_block_lt HS2.out.2.1)).trans HS2.out.2.1, (HB6.out.cell (cell_block_lt HS2.out.2.2.1)).trans HS2.out.2.2.1, (HB6.out.cell (cell_block_lt HS2.out.2.2.2.1)).trans HS2.out.2.2.2.1, (HB6.out.cell (cell_block_lt HS2.out.2.2.2.2)).trans HS2.out.2.2.2.2⟩); clear hb6)
    refine hK.out _ _ (HS6.out) ?_
    clear hK K
    try simp only [Act.put, List.setIfInBounds_toArray, List.set_cons_zero, List.set_cons_succ]
    refine held_take (HS6.out) (i := 12) (v := ?_) rfl (by kernel_rfl) (by kernel_rfl) (by kernel_rfl) (fun _ _ _ h => h) (Or.inl ⟨by rfl, ?_⟩) ?_
    rotate_left
    · (intro W hSw; obtain ⟨s1, s2, s3, s4, s5⟩ := hSw; go_simp; try with_reducible rfl)
    try simp only [Act.put, List.setIfInBounds_toArray, List.set_cons_zero, List.set_cons_succ]
    have HLT6 : Hid (∀ q, Blo A5 q → q < w6.heap.size) := Lib.hid (fun q hq => Nat.lt_of_lt_of_le (HOLT.out q hq) HB56.out.size)
    refine held_call2 (i := 15) (j := 24) (by kernel_rfl) rfl rfl (fun K hK => ?_) (fun K hK => ?_)
    ·
      refine stepR_append E8 rfl rfl (ownsRow_below HO5.out HB56.out) rfl (HRBV.out.below (bl_chain HWB.out HB6.out)) rfl HBL.out (by8_one _) (n + 4) (by8 bb) (Nat.add_comm _ _) HBBV.out (by simp only [maxLen]; omega) (by omega) HB6.out.size ?_
      intro A7 c7 w7 hc7 ho7 ht7 ha7
      have hb7 := bl_tr HB6.out ht7 HOAPP.out
      clear hc7 ha7
      have HT7 := Lib.hid ht7
      have HO7 := Lib.hid ho7
      have HB7 := Lib.hid hb7
      have HS7 := Lib.hid (show w7.cell? ⟨p, 0, none⟩ = some (.pointer (some ⟨d, 0, none⟩)) ∧ w7.cell? ⟨p, 10, none⟩ = some (.int .i64 (at_ : Int)) ∧ w7.cell? ⟨p, 9, none⟩ = some (.int .i64 nx) ∧ w7.cell? ⟨V.heap.size, 0, none⟩ = some (.int .i64 sl) ∧ w7.cell? ⟨V.heap.size, 2, none⟩ = some (.int .i64 se) from ⟨(HB7.out.cell (cell_block_lt HS2.out.1)).trans HS2.out.1, (HB7.out.cell (cell_block_lt HS2.out.2.1)).trans HS2.out.2.1, (HB7.out.cell (cell_block_lt HS2.out.2.2.1)).trans HS2.out.2.2.1, (HB7.out.cell (cell_block_lt HS2.out.2.2.2.1)).trans HS2.out.2.2.2.1, (HB7.out.cell (cell_block_lt HS2.out.2.2.2.2)).trans HS2.out.2.2.2.2⟩)
      clear ho7 hb7 ht7
      refine hK.out _ _ (HS7.out) ?_
      clear hK K
      try simp only [Act.put, List.setIfInBounds_toArray, List.set_cons_zero, List.set_cons_succ]
      have HZ8 := Lib.hid (bl_chain HB7.out (bl_alloc w7 (.cells #[.int .i64 sl, .int .i64 nx, .int .i64 se] 2)))
      have HS8 := Lib.hid (show (w7.alloc (.cells #[.int .i64 sl, .int .i64 nx, .int .i64 se] 2)).cell? ⟨p, 0, none⟩ = some (.pointer (some ⟨d, 0, none⟩)) ∧ (w7.alloc (.cells #[.int .i64 sl, .int .i64 nx, .int .i64 se] 2)).cell? ⟨p, 10, none⟩ = some (.int .i64 (at_ : Int)) ∧ (w7.alloc (.cells #[.int .i64 sl, .int .i64 nx, .int .i64 se] 2)).cell? ⟨p, 9, none⟩ = some (.int .i64 nx) ∧ (w7.alloc (.cells #[.int .i64 sl, .int .i64 nx, .int .i64 se] 2)).cell? ⟨V.heap.size, 0, none⟩ = some (.int .i64 sl) ∧ (w7.alloc (.cells #[.int .i64 sl, .int .i64 nx, .int .i64 se] 2)).cell? ⟨V.heap.size, 2, none⟩ = some (.int .i64 se) from ⟨(HZ8.out.cell (cell_block_lt HS2.out.1)).trans HS2.out.1, (HZ8.out.cell (cell_block_lt HS2.out.2.1)).trans HS2.out.2.1, (HZ8.out.cell (cell_block_lt HS2.out.2.2.1)).trans HS2.out.2.2.1, (HZ8.out.cell (cell_block_lt HS2.out.2.2.2.1)).trans HS2.out.2.2.2.1, (HZ8.out.cell (cell_block_lt HS2.out.2.2.2.2)).trans HS2.out.2.2.2.2⟩)
      refine held_call (i := 24) (by kernel_rfl) rfl (fun K hK => ?_)
      go_simp
      refine hK.out _ _ (HS8.out) ?_
      clear hK K
      try simp only [Act.put, List.setIfInBounds_toArray, List.set_cons_zero, List.set_cons_succ]
      have HAR := Lib.hid (Blk.new w7 2 #[.int .i64 sl, .int .i64 nx, .int .i64 se])
      have HO9 := Lib.hid (ownsRow_below HO7.out (bl_alloc w7 (.cells #[.int .i64 sl, .int .i64 nx, .int .i64 se] 2)))
      have HBW := HZ8
      clear HS8 HZ8
      generalize w7.alloc (.cells #[.int .i64 sl, .int .i64 nx, .int .i64 se] 2) = W9 at HAR HO9 HBW ⊢
      have HL9 := Lib.hid (HL2.out.below HBW.out)
      clear HS7
      refine held_call (i := 25) (by kernel_rfl) rfl (fun K hK => ?_)
      go_simp
      (go_at_call 41; (with_reducible refine (HSEA.out _ _ c7 _ (Rd.of_own HO9.out) HAR.out).mono ?_); rintro e w10 ⟨A10, c10, rfl, hc10, ho10, hb10⟩; have HO10 := Lib.hid ho10; have HB10 := Lib.hid (bl_chain HBW.out hb10); have HL10 := Lib.hid (HL9.out.below hb10); have HS10 := Lib.hid (show w10.cell? ⟨p, 0, none⟩ = some (.pointer (some ⟨d, 0, none⟩)) ∧ w10.cell? ⟨p, 10, none⟩ = some (.int .i64 (at_ : Int)) ∧ w10.cell? ⟨p, 9, none⟩ = some (.int .i64 nx) ∧ w10.cell? ⟨V.heap.size, 0, none⟩ = some (.int .i64 sl) ∧ w10.cell? ⟨V.heap.size, 2, none⟩ = some (.int .i64 se) from ⟨(HB10.out.cell (cell_block_lt HS2.out.1)).trans HS2.out.1, (HB10.out.cell (cell_block_lt HS2.out.2.1)).trans HS2.out.2.1, (HB10.out.cell (cell_block_lt HS2.out.2.2.1)).trans HS2.out.2.2.1, (HB10.out.cell (cell_block_lt HS2.out.2.2.2.1)).trans HS2.out.2.2.2.1, (HB10.out.cell (cell_block_lt HS2.out.2.2.2.2)).trans HS2.out.2.2.2.2⟩); clear ho10 hb10)
      refine hK.out _ _ (HS10.out) ?_
      clear hK K
      try simp only [Act.put, List.setIfInBounds_toArray, List.set_cons_zero, List.set_cons_succ]
      refine held_call (i := 26) (by kernel_rfl) rfl (fun K hK => ?_)
      go_simp
      (rw [HAA.out, HWA.out]; go_at_call 39; (with_reducible refine (HWRT.out _ _ c10 _ _ HL10.out.dk (Rd.of_own HO10.out)).mono ?_); rintro e w11 ⟨rfl, M11, R11, hd11, hm11, hr11, ht11⟩; have hl11 := HL10.out.disk hd11 hm11 hr11 ht11; have HT11 := Lib.hid ht11; have HM11 := Lib.hid hm11; have HR11 := Lib.hid hr11; have HL11 := Lib.hid hl11; have HS11 := Lib.hid (show w11.cell? ⟨p, 0, none⟩ = some (.pointer (some ⟨d, 0, none⟩)) ∧ w11.cell? ⟨p, 10, none⟩ = some (.int .i64 (at_ : Int)) ∧ w11.cell? ⟨p, 9, none⟩ = some (.int .i64 nx) ∧ w11.cell? ⟨V.heap.size, 0, none⟩ = some (.int .i64 sl) ∧ w11.cell? ⟨V.heap.size, 2, none⟩ = some (.int .i64 se) from ⟨(ht11.cell (cell_block_lt HS10.out.1) HL2.out.pm).trans HS10.out.1, (ht11.cell (cell_block_lt HS10.out.2.1) HL2.out.pm).trans HS10.out.2.1, (ht11.cell (cell_block_lt HS10.out.2.2.1) HL2.out.pm).trans HS10.out.2.2.1, (ht11.cell (cell_block_lt HS10.out.2.2.2.1) HSM.out).trans HS10.out.2.2.2.1, (ht11.cell (cell_block_lt HS10.out.2.2.2.2) HSM.out).trans HS10.out.2.2.2.2⟩); clear hd11 hm11 hr11 ht11 hl11)
      refine hK.out _ _ (HS11.out) ?_
      clear hK K
      try simp only [Act.put, List.setIfInBounds_toArray, List.set_cons_zero, List.set_cons_succ]
      refine held_take (HS11.out) (i := 27) (v := ?_) rfl (by kernel_rfl) (by kernel_rfl) (by kernel_rfl) (fun _ _ _ h => h) (Or.inl ⟨by rfl, ?_⟩) ?_
      rotate_left
      · (intro W hSw; obtain ⟨s1, s2, s3, s4, s5⟩ := hSw; go_simp; try with_reducible rfl)
      try simp only [Act.put, List.setIfInBounds_toArray, List.set_cons_zero, List.set_cons_succ]
      refine wpAnyH_done (by kernel_rfl) ?_ _
      generalize writeE D a l = e1 at HR1 ⊢
      generalize writeD D a l = D1 at HR1 HL11 ⊢
      have hz10 := HB10.out.size
      have hzw := HWB.out.size
      have HMX := Lib.hid (show ∀ q, M11 q → M q ∨ w.heap.size ≤ q from fun q hq => (HM11.out q hq).elim (HMV.out q) (fun h => .inr (by have := HTV.out.size; omega)))
      have HRX := Lib.hid (show ∀ q, R11 q → R q ∨ w.heap.size ≤ q from fun q hq => (HR11.out q hq).elim (HRV.out q) (fun h => .inr (by have := HTV.out.size; omega)))
      have HTX := Lib.hid (show Tr (fun q => M q ∨ q = p ∨ Blo (some ⟨g, off, none⟩) q) w w11 from (HTV.out.trans ((Tr.of_below (F := M) (bl_chain HWB.out HB10.out)).trans HT11.out (fun b _ e => e)) (fun q hq e => .inl ((HMV.out q e).resolve_right (by omega)))))
      have f12 := HL11.out.lg.frozen 12
      have c12 := HL11.out.lg.cell 12
      have c9 := HL11.out.lg.cell 9
      have f9 := HL11.out.lg.frozen 9
      have c10 := HL11.out.lg.cell 10
      have f10 := HL11.out.lg.frozen 10
      simp [lgCells] at c12 c9 c10
      rw [HNX.out] at c9
      rw [HAT.out] at c10
      clear hz10 hzw
      by_cases h1 : e1 = 0
      · subst h1
        have HX1 := Lib.hid (HR1.out.trans (if_pos rfl))
        clear HR1
        go_wp2_with fail
        obtain ⟨hl12, t12⟩ := HL11.out.moved (at_ + k) (nx + 1)
        refine bodyPost_ret (v := .tuple #[.int .i64 nx, .int .i64 0]) (by simp [results, Try.results8, go_sem]) rfl ?_
        rw [HX1.out]
        exact ⟨(some ⟨g, off, none⟩), c, M11, R11, rfl, by simpa using hl12, HAV.out, HMX.out, HRX.out, HTX.out.trans (by simpa using t12) (fun b _ e => .inr (.inl e))⟩
      · have HX1 := Lib.hid (HR1.out.trans (if_neg h1))
        have k1 : (e1 == 0) = false := by simp [h1]
        clear HR1
        go_wp2_with fail
        refine bodyPost_ret (v := .tuple #[.int .i64 0, .int .i64 e1]) (by simp [results, Try.results8, go_sem]) rfl ?_
        obtain ⟨hl12, t12⟩ := HL11.out.set12 true
        rw [HX1.out]
        exact ⟨(some ⟨g, off, none⟩), c, M11, R11, rfl, hl12, HAV.out, HMX.out, HRX.out, HTX.out.trans t12 (fun b _ e => .inr (.inl e))⟩
    ·
      have HZ8 := Lib.hid (bl_chain HB6.out (bl_alloc w6 (.cells #[.int .i64 sl, .int .i64 nx, .int .i64 se] 2)))
      have HS8 := Lib.hid (show (w6.alloc (.cells #[.int .i64 sl, .int .i64 nx, .int .i64 se] 2)).cell? ⟨p, 0, none⟩ = some (.pointer (some ⟨d, 0, none⟩)) ∧ (w6.alloc (.cells #[.int .i64 sl, .int .i64 nx, .int .i64 se] 2)).cell? ⟨p, 10, none⟩ = some (.int .i64 (at_ : Int)) ∧ (w6.alloc (.cells #[.int .i64 sl, .int .i64 nx, .int .i64 se] 2)).cell? ⟨p, 9, none⟩ = some (.int .i64 nx) ∧ (w6.alloc (.cells #[.int .i64 sl, .int .i64 nx, .int .i64 se] 2)).cell? ⟨V.heap.size, 0, none⟩ = some (.int .i64 sl) ∧ (w6.alloc (.cells #[.int .i64 sl, .int .i64 nx, .int .i64 se] 2)).cell? ⟨V.heap.size, 2, none⟩ = some (.int .i64 se) from ⟨(HZ8.out.cell (cell_block_lt HS2.out.1)).trans HS2.out.1, (HZ8.out.cell (cell_block_lt HS2.out.2.1)).trans HS2.out.2.1, (HZ8.out.cell (cell_block_lt HS2.out.2.2.1)).trans HS2.out.2.2.1, (HZ8.out.cell (cell_block_lt HS2.out.2.2.2.1)).trans HS2.out.2.2.2.1, (HZ8.out.cell (cell_block_lt HS2.out.2.2.2.2)).trans HS2.out.2.2.2.2⟩)
      go_simp
      refine hK.out _ _ (HS8.out) ?_
      clear hK K
      try simp only [Act.put, List.setIfInBounds_toArray, List.set_cons_zero, List.set_cons_succ]
      refine held_call (i := 15) (by kernel_rfl) rfl (fun K hK => ?_)
      refine stepR_append E8 rfl rfl (ownsRow_below HO5.out (bl_chain HB56.out (bl_alloc w6 _))) rfl (HRBV.out.below (bl_chain HWB.out HZ8.out)) rfl HBL.out (by8_one _) (n + 4) (by8 bb) (Nat.add_comm _ _) HBBV.out (by simp only [maxLen]; omega) (by omega) HZ8.out.size ?_
      intro A7 c7 w7 hc7 ho7 ht7 ha7
      have hb7 := bl_tr HZ8.out ht7 HOAPP.out
      have har := ht7.blk (Blk.new w6 2 #[.int .i64 sl, .int .i64 nx, .int .i64 se]) (fun e => by have := HLT6.out _ e; omega)
      have HAR := Lib.hid har
      clear har
      clear hc7 ha7
      have HT7 := Lib.hid ht7
      have HO7 := Lib.hid ho7
      have HB7 := Lib.hid hb7
      have HS7 := Lib.hid (show w7.cell? ⟨p, 0, none⟩ = some (.pointer (some ⟨d, 0, none⟩)) ∧ w7.cell? ⟨p, 10, none⟩ = some (.int .i64 (at_ : Int)) ∧ w7.cell? ⟨p, 9, none⟩ = some (.int .i64 nx) ∧ w7.cell? ⟨V.heap.size, 0, none⟩ = some (.int .i64 sl) ∧ w7.cell? ⟨V.heap.size, 2, none⟩ = some (.int .i64 se) from ⟨(HB7.out.cell (cell_block_lt HS2.out.1)).trans HS2.out.1, (HB7.out.cell (cell_block_lt HS2.out.2.1)).trans HS2.out.2.1, (HB7.out.cell (cell_block_lt HS2.out.2.2.1)).trans HS2.out.2.2.1, (HB7.out.cell (cell_block_lt HS2.out.2.2.2.1)).trans HS2.out.2.2.2.1, (HB7.out.cell (cell_block_lt HS2.out.2.2.2.2)).trans HS2.out.2.2.2.2⟩)
      clear ho7 hb7 ht7
      refine hK.out _ _ (HS7.out) ?_
      clear hK K
      try simp only [Act.put, List.setIfInBounds_toArray, List.set_cons_zero, List.set_cons_succ]
      have HO9 := HO7
      have HBW := HB7
      clear HS8 HZ8
      have HL9 := Lib.hid (HL2.out.below HBW.out)
      clear HS7
      refine held_call (i := 25) (by kernel_rfl) rfl (fun K hK => ?_)
      go_simp
      (go_at_call 41; (with_reducible refine (HSEA.out _ _ c7 _ (Rd.of_own HO9.out) HAR.out).mono ?_); rintro e w10 ⟨A10, c10, rfl, hc10, ho10, hb10⟩; have HO10 := Lib.hid ho10; have HB10 := Lib.hid (bl_chain HBW.out hb10); have HL10 := Lib.hid (HL9.out.below hb10); have HS10 := Lib.hid (show w10.cell? ⟨p, 0, none⟩ = some (.pointer (some ⟨d, 0, none⟩)) ∧ w10.cell? ⟨p, 10, none⟩ = some (.int .i64 (at_ : Int)) ∧ w10.cell? ⟨p, 9, none⟩ = some (.int .i64 nx) ∧ w10.cell? ⟨V.heap.size, 0, none⟩ = some (.int .i64 sl) ∧ w10.cell? ⟨V.heap.size, 2, none⟩ = some (.int .i64 se) from ⟨(HB10.out.cell (cell_block_lt HS2.out.1)).trans HS2.out.1, (HB10.out.cell (cell_block_lt HS2.out.2.1)).trans HS2.out.2.1, (HB10.out.cell (cell_block_lt HS2.out.2.2.1)).trans HS2.out.2.2.1, (HB10.out.cell (cell_block_lt HS2.out.2.2.2.1)).trans HS2.out.2.2.2.1, (HB10.out.cell (cell_block_lt HS2.out.2.2.2.2)).trans HS2.out.2.2.2.2⟩); clear ho10 hb10)
      refine hK.out _ _ (HS10.out) ?_
      clear hK K
      try simp only [Act.put, List.setIfInBounds_toArray, List.set_cons_zero, List.set_cons_succ]
      refine held_call (i := 26) (by kernel_rfl) rfl (fun K hK => ?_)
      go_simp
      (rw [HAA.out, HWA.out]; go_at_call 39; (with_reducible refine (HWRT.out _ _ c10 _ _ HL10.out.dk (Rd.of_own HO10.out)).mono ?_); rintro e w11 ⟨rfl, M11, R11, hd11, hm11, hr11, ht11⟩; have hl11 := HL10.out.disk hd11 hm11 hr11 ht11; have HT11 := Lib.hid ht11; have HM11 := Lib.hid hm11; have HR11 := Lib.hid hr11; have HL11 := Lib.hid hl11; have HS11 := Lib.hid (show w11.cell? ⟨p, 0, none⟩ = some (.pointer (some ⟨d, 0, none⟩)) ∧ w11.cell? ⟨p, 10, none⟩ = some (.int .i64 (at_ : Int)) ∧ w11.cell? ⟨p, 9, none⟩ = some (.int .i64 nx) ∧ w11.cell? ⟨V.heap.size, 0, none⟩ = some (.int .i64 sl) ∧ w11.cell? ⟨V.heap.size, 2, none⟩ = some (.int .i64 se) from ⟨(ht11.cell (cell_block_lt HS10.out.1) HL2.out.pm).trans HS10.out.1, (ht11.cell (cell_block_lt HS10.out.2.1) HL2.out.pm).trans HS10.out.2.1, (ht11.cell (cell_block_lt HS10.out.2.2.1) HL2.out.pm).trans HS10.out.2.2.1, (ht11.cell (cell_block_lt HS10.out.2.2.2.1) HSM.out).trans HS10.out.2.2.2.1, (ht11.cell (cell_block_lt HS10.out.2.2.2.2) HSM.out).trans HS10.out.2.2.2.2⟩); clear hd11 hm11 hr11 ht11 hl11)
      refine hK.out _ _ (HS11.out) ?_
      clear hK K
      try simp only [Act.put, List.setIfInBounds_toArray, List.set_cons_zero, List.set_cons_succ]
      refine held_take (HS11.out) (i := 27) (v := ?_) rfl (by kernel_rfl) (by kernel_rfl) (by kernel_rfl) (fun _ _ _ h => h) (Or.inl ⟨by rfl, ?_⟩) ?_
      rotate_left
      · (intro W hSw; obtain ⟨s1, s2, s3, s4, s5⟩ := hSw; go_simp; try with_reducible rfl)
      try simp only [Act.put, List.setIfInBounds_toArray, List.set_cons_zero, List.set_cons_succ]
      refine wpAnyH_done (by kernel_rfl) ?_ _
      generalize writeE D a l = e1 at HR1 ⊢
      generalize writeD D a l = D1 at HR1 HL11 ⊢
      have hz10 := HB10.out.size
      have hzw := HWB.out.size
      have HMX := Lib.hid (show ∀ q, M11 q → M q ∨ w.heap.size ≤ q from fun q hq => (HM11.out q hq).elim (HMV.out q) (fun h => .inr (by have := HTV.out.size; omega)))
      have HRX := Lib.hid (show ∀ q, R11 q → R q ∨ w.heap.size ≤ q from fun q hq => (HR11.out q hq).elim (HRV.out q) (fun h => .inr (by have := HTV.out.size; omega)))
      have HTX := Lib.hid (show Tr (fun q => M q ∨ q = p ∨ Blo (some ⟨g, off, none⟩) q) w w11 from (HTV.out.trans ((Tr.of_below (F := M) (bl_chain HWB.out HB10.out)).trans HT11.out (fun b _ e => e)) (fun q hq e => .inl ((HMV.out q e).resolve_right (by omega)))))
      have f12 := HL11.out.lg.frozen 12
      have c12 := HL11.out.lg.cell 12
      have c9 := HL11.out.lg.cell 9
      have f9 := HL11.out.lg.frozen 9
      have c10 := HL11.out.lg.cell 10
      have f10 := HL11.out.lg.frozen 10
      simp [lgCells] at c12 c9 c10
      rw [HNX.out] at c9
      rw [HAT.out] at c10
      clear hz10 hzw
      by_cases h1 : e1 = 0
      · subst h1
        have HX1 := Lib.hid (HR1.out.trans (if_pos rfl))
        clear HR1
        go_wp2_with fail
        obtain ⟨hl12, t12⟩ := HL11.out.moved (at_ + k) (nx + 1)
        refine bodyPost_ret (v := .tuple #[.int .i64 nx, .int .i64 0]) (by simp [results, Try.results8, go_sem]) rfl ?_
        rw [HX1.out]
        exact ⟨(some ⟨g, off, none⟩), c, M11, R11, rfl, by simpa using hl12, HAV.out, HMX.out, HRX.out, HTX.out.trans (by simpa using t12) (fun b _ e => .inr (.inl e))⟩
      · have HX1 := Lib.hid (HR1.out.trans (if_neg h1))
        have k1 : (e1 == 0) = false := by simp [h1]
        clear HR1
        go_wp2_with fail
        refine bodyPost_ret (v := .tuple #[.int .i64 0, .int .i64 e1]) (by simp [results, Try.results8, go_sem]) rfl ?_
        obtain ⟨hl12, t12⟩ := HL11.out.set12 true
        rw [HX1.out]
        exact ⟨(some ⟨g, off, none⟩), c, M11, R11, rfl, hl12, HAV.out, HMX.out, HRX.out, HTX.out.trans t12 (fun b _ e => .inr (.inl e))⟩
  ·
    have HZ8 := Lib.hid (bl_chain HB5.out (bl_chain (bl_alloc w5 (.cells #[.int .i64 sl, .int .i64 nx, .int .i64 se] 2)) (bl_drew _)))
    have HZ58 := Lib.hid (bl_chain (bl_alloc w5 (.cells #[.int .i64 sl, .int .i64 nx, .int .i64 se] 2)) (bl_drew _))
    have HS8 := Lib.hid (show (w5.alloc (.cells #[.int .i64 sl, .int .i64 nx, .int .i64 se] 2)).drew.cell? ⟨p, 0, none⟩ = some (.pointer (some ⟨d, 0, none⟩)) ∧ (w5.alloc (.cells #[.int .i64 sl, .int .i64 nx, .int .i64 se] 2)).drew.cell? ⟨p, 10, none⟩ = some (.int .i64 (at_ : Int)) ∧ (w5.alloc (.cells #[.int .i64 sl, .int .i64 nx, .int .i64 se] 2)).drew.cell? ⟨p, 9, none⟩ = some (.int .i64 nx) ∧ (w5.alloc (.cells #[.int .i64 sl, .int .i64 nx, .int .i64 se] 2)).drew.cell? ⟨V.heap.size, 0, none⟩ = some (.int .i64 sl) ∧ (w5.alloc (.cells #[.int .i64 sl, .int .i64 nx, .int .i64 se] 2)).drew.cell? ⟨V.heap.size, 2, none⟩ = some (.int .i64 se) from ⟨(HZ8.out.cell (cell_block_lt HS2.out.1)).trans HS2.out.1, (HZ8.out.cell (cell_block_lt HS2.out.2.1)).trans HS2.out.2.1, (HZ8.out.cell (cell_block_lt HS2.out.2.2.1)).trans HS2.out.2.2.1, (HZ8.out.cell (cell_block_lt HS2.out.2.2.2.1)).trans HS2.out.2.2.2.1, (HZ8.out.cell (cell_block_lt HS2.out.2.2.2.2)).trans HS2.out.2.2.2.2⟩)
    go_simp
    refine hK.out _ _ (HS8.out) ?_
    clear hK K
    try simp only [Act.put, List.setIfInBounds_toArray, List.set_cons_zero, List.set_cons_succ]
    refine held_call (i := 7) (by kernel_rfl) rfl (fun K hK => ?_)
    go_simp
    (go_at_call 40; (with_reducible refine (HPL.out _ HZ8.out).mono ?_); rintro e w6 ⟨rfl, hb6⟩; have har6 := ((Blk.new w5 2 #[.int .i64 sl, .int .i64 nx, .int .i64 se]).drew).keep hb6; have HAR6 := Lib.hid har6; have HB56 := Lib.hid (bl_chain HZ58.out hb6); have HB6 := Lib.hid (bl_chain HZ8.out hb6); have HS6 := Lib.hid (show w6.cell? ⟨p, 0, none⟩ = some (.pointer (some ⟨d, 0, none⟩)) ∧ w6.cell? ⟨p, 10, none⟩ = some (.int .i64 (at_ : Int)) ∧ w6.cell? ⟨p, 9, none⟩ = some (.int .i64 nx) ∧ w6.cell? ⟨V.heap.size, 0, none⟩ = some (.int .i64 sl) ∧ w6.cell? ⟨V.heap.size, 2, none⟩ = some (.int .i64 se) from ⟨(HB6.out.cell (cell_block_lt HS2.out.1)).trans HS2.out.1, (HB6.out.cell (cell_block_lt HS2.out.2.1)).trans HS2.out.2.1, (HB6.out.cell (cell_block_lt HS2.out.2.2.1)).trans HS2.out.2.2.1, (HB6.out.cell (cell_block_lt HS2.out.2.2.2.1)).trans HS2.out.2.2.2.1, (HB6.out.cell (cell_block_lt HS2.out.2.2.2.2)).trans HS2.out.2.2.2.2⟩); clear hb6 har6)
    refine hK.out _ _ (HS6.out) ?_
    clear hK K
    try simp only [Act.put, List.setIfInBounds_toArray, List.set_cons_zero, List.set_cons_succ]
    refine held_take (HS6.out) (i := 12) (v := ?_) rfl (by kernel_rfl) (by kernel_rfl) (by kernel_rfl) (fun _ _ _ h => h) (Or.inl ⟨by rfl, ?_⟩) ?_
    rotate_left
    · (intro W hSw; obtain ⟨s1, s2, s3, s4, s5⟩ := hSw; go_simp; try with_reducible rfl)
    try simp only [Act.put, List.setIfInBounds_toArray, List.set_cons_zero, List.set_cons_succ]
    refine held_call (i := 15) (by kernel_rfl) rfl (fun K hK => ?_)
    refine stepR_append E8 rfl rfl (ownsRow_below HO5.out HB56.out) rfl (HRBV.out.below (bl_chain HWB.out HB6.out)) rfl HBL.out (by8_one _) (n + 4) (by8 bb) (Nat.add_comm _ _) HBBV.out (by simp only [maxLen]; omega) (by omega) HB6.out.size ?_
    intro A7 c7 w7 hc7 ho7 ht7 ha7
    have hb7 := bl_tr HB6.out ht7 HOAPP.out
    have har := ht7.blk HAR6.out (fun e => by have := HOLT.out _ e; omega)
    have HAR := Lib.hid har
    clear har
    clear hc7 ha7
    have HT7 := Lib.hid ht7
    have HO7 := Lib.hid ho7
    have HB7 := Lib.hid hb7
    have HS7 := Lib.hid (show w7.cell? ⟨p, 0, none⟩ = some (.pointer (some ⟨d, 0, none⟩)) ∧ w7.cell? ⟨p, 10, none⟩ = some (.int .i64 (at_ : Int)) ∧ w7.cell? ⟨p, 9, none⟩ = some (.int .i64 nx) ∧ w7.cell? ⟨V.heap.size, 0, none⟩ = some (.int .i64 sl) ∧ w7.cell? ⟨V.heap.size, 2, none⟩ = some (.int .i64 se) from ⟨(HB7.out.cell (cell_block_lt HS2.out.1)).trans HS2.out.1, (HB7.out.cell (cell_block_lt HS2.out.2.1)).trans HS2.out.2.1, (HB7.out.cell (cell_block_lt HS2.out.2.2.1)).trans HS2.out.2.2.1, (HB7.out.cell (cell_block_lt HS2.out.2.2.2.1)).trans HS2.out.2.2.2.1, (HB7.out.cell (cell_block_lt HS2.out.2.2.2.2)).trans HS2.out.2.2.2.2⟩)
    clear ho7 hb7 ht7
    refine hK.out _ _ (HS7.out) ?_
    clear hK K
    try simp only [Act.put, List.setIfInBounds_toArray, List.set_cons_zero, List.set_cons_succ]
    have HO9 := HO7
    have HBW := HB7
    clear HS8 HZ8
    have HL9 := Lib.hid (HL2.out.below HBW.out)
    clear HS7
    refine held_call (i := 25) (by kernel_rfl) rfl (fun K hK => ?_)
    go_simp
    (go_at_call 41; (with_reducible refine (HSEA.out _ _ c7 _ (Rd.of_own HO9.out) HAR.out).mono ?_); rintro e w10 ⟨A10, c10, rfl, hc10, ho10, hb10⟩; have HO10 := Lib.hid ho10; have HB10 := Lib.hid (bl_chain HBW.out hb10); have HL10 := Lib.hid (HL9.out.below hb10); have HS10 := Lib.hid (show w10.cell? ⟨p, 0, none⟩ = some (.pointer (some ⟨d, 0, none⟩)) ∧ w10.cell? ⟨p, 10, none⟩ = some (.int .i64 (at_ : Int)) ∧ w10.cell? ⟨p, 9, none⟩ = some (.int .i64 nx) ∧ w10.cell? ⟨V.heap.size, 0, none⟩ = some (.int .i64 sl) ∧ w10.cell? ⟨V.heap.size, 2, none⟩ = some (.int .i64 se) from ⟨(HB10.out.cell (cell_block_lt HS2.out.1)).trans HS2.out.1, (HB10.out.cell (cell_block_lt HS2.out.2.1)).trans HS2.out.2.1, (HB10.out.cell (cell_block_lt HS2.out.2.2.1)).trans HS2.out.2.2.1, (HB10.out.cell (cell_block_lt HS2.out.2.2.2.1)).trans HS2.out.2.2.2.1, (HB10.out.cell (cell_block_lt HS2.out.2.2.2.2)).trans HS2.out.2.2.2.2⟩); clear ho10 hb10)
    refine hK.out _ _ (HS10.out) ?_
    clear hK K
    try simp only [Act.put, List.setIfInBounds_toArray, List.set_cons_zero, List.set_cons_succ]
    refine held_call (i := 26) (by kernel_rfl) rfl (fun K hK => ?_)
    go_simp
    (rw [HAA.out, HWA.out]; go_at_call 39; (with_reducible refine (HWRT.out _ _ c10 _ _ HL10.out.dk (Rd.of_own HO10.out)).mono ?_); rintro e w11 ⟨rfl, M11, R11, hd11, hm11, hr11, ht11⟩; have hl11 := HL10.out.disk hd11 hm11 hr11 ht11; have HT11 := Lib.hid ht11; have HM11 := Lib.hid hm11; have HR11 := Lib.hid hr11; have HL11 := Lib.hid hl11; have HS11 := Lib.hid (show w11.cell? ⟨p, 0, none⟩ = some (.pointer (some ⟨d, 0, none⟩)) ∧ w11.cell? ⟨p, 10, none⟩ = some (.int .i64 (at_ : Int)) ∧ w11.cell? ⟨p, 9, none⟩ = some (.int .i64 nx) ∧ w11.cell? ⟨V.heap.size, 0, none⟩ = some (.int .i64 sl) ∧ w11.cell? ⟨V.heap.size, 2, none⟩ = some (.int .i64 se) from ⟨(ht11.cell (cell_block_lt HS10.out.1) HL2.out.pm).trans HS10.out.1, (ht11.cell (cell_block_lt HS10.out.2.1) HL2.out.pm).trans HS10.out.2.1, (ht11.cell (cell_block_lt HS10.out.2.2.1) HL2.out.pm).trans HS10.out.2.2.1, (ht11.cell (cell_block_lt HS10.out.2.2.2.1) HSM.out).trans HS10.out.2.2.2.1, (ht11.cell (cell_block_lt HS10.out.2.2.2.2) HSM.out).trans HS10.out.2.2.2.2⟩); clear hd11 hm11 hr11 ht11 hl11)
    refine hK.out _ _ (HS11.out) ?_
    clear hK K
    try simp only [Act.put, List.setIfInBounds_toArray, List.set_cons_zero, List.set_cons_succ]
    refine held_take (HS11.out) (i := 27) (v := ?_) rfl (by kernel_rfl) (by kernel_rfl) (by kernel_rfl) (fun _ _ _ h => h) (Or.inl ⟨by rfl, ?_⟩) ?_
    rotate_left
    · (intro W hSw; obtain ⟨s1, s2, s3, s4, s5⟩ := hSw; go_simp; try with_reducible rfl)
    try simp only [Act.put, List.setIfInBounds_toArray, List.set_cons_zero, List.set_cons_succ]
    refine wpAnyH_done (by kernel_rfl) ?_ _
    generalize writeE D a l = e1 at HR1 ⊢
    generalize writeD D a l = D1 at HR1 HL11 ⊢
    have hz10 := HB10.out.size
    have hzw := HWB.out.size
    have HMX := Lib.hid (show ∀ q, M11 q → M q ∨ w.heap.size ≤ q from fun q hq => (HM11.out q hq).elim (HMV.out q) (fun h => .inr (by have := HTV.out.size; omega)))
    have HRX := Lib.hid (show ∀ q, R11 q → R q ∨ w.heap.size ≤ q from fun q hq => (HR11.out q hq).elim (HRV.out q) (fun h => .inr (by have := HTV.out.size; omega)))
    have HTX := Lib.hid (show Tr (fun q => M q ∨ q = p ∨ Blo (some ⟨g, off, none⟩) q) w w11 from (HTV.out.trans ((Tr.of_below (F := M) (bl_chain HWB.out HB10.out)).trans HT11.out (fun b _ e => e)) (fun q hq e => .inl ((HMV.out q e).resolve_right (by omega)))))
    have f12 := HL11.out.lg.frozen 12
    have c12 := HL11.out.lg.cell 12
    have c9 := HL11.out.lg.cell 9
    have f9 := HL11.out.lg.frozen 9
    have c10 := HL11.out.lg.cell 10
    have f10 := HL11.out.lg.frozen 10
    simp [lgCells] at c12 c9 c10
    rw [HNX.out] at c9
    rw [HAT.out] at c10
    clear hz10 hzw
    by_cases h1 : e1 = 0
    · subst h1
      have HX1 := Lib.hid (HR1.out.trans (if_pos rfl))
      clear HR1
      go_wp2_with fail
      obtain ⟨hl12, t12⟩ := HL11.out.moved (at_ + k) (nx + 1)
      refine bodyPost_ret (v := .tuple #[.int .i64 nx, .int .i64 0]) (by simp [results, Try.results8, go_sem]) rfl ?_
      rw [HX1.out]
      exact ⟨(some ⟨g, off, none⟩), c, M11, R11, rfl, by simpa using hl12, HAV.out, HMX.out, HRX.out, HTX.out.trans (by simpa using t12) (fun b _ e => .inr (.inl e))⟩
    · have HX1 := Lib.hid (HR1.out.trans (if_neg h1))
      have k1 : (e1 == 0) = false := by simp [h1]
      clear HR1
      go_wp2_with fail
      refine bodyPost_ret (v := .tuple #[.int .i64 0, .int .i64 e1]) (by simp [results, Try.results8, go_sem]) rfl ?_
      obtain ⟨hl12, t12⟩ := HL11.out.set12 true
      rw [HX1.out]
      exact ⟨(some ⟨g, off, none⟩), c, M11, R11, rfl, hl12, HAV.out, HMX.out, HRX.out, HTX.out.trans t12 (fun b _ e => .inr (.inl e))⟩
end
end Go.Proofs.Ytceajiliahmkaaa
