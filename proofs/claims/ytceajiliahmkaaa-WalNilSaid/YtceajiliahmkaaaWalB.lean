/- Layer 4: the log in memory; within, takes, state, place, sectors. -/
import Derived.Test.YtceajiliahmkaaaWalA
import Derived.Test.YtceajiliahmkaaaDisk4
namespace Go.Proofs.Ytceajiliahmkaaa
set_option linter.unusedVariables false
set_option linter.unusedSimpArgs false
set_option maxRecDepth 100000
open Go.RowKit

/-- A log, plainly. -/
structure LG where
  from_ : Nat
  segs : Nat
  per : Nat
  epoch : Int
  term : Int
  vote : Int
  base : Int
  chain : List SG
  next : Int
  at_ : Nat
  fresh : Bool
  dead : Bool
def lgCells (d : Nat) (x : LG) (A : Option Addr) (c : Nat) : Array Value :=
  #[.pointer (some ⟨d, 0, none⟩), .int .i64 x.from_, .int .i64 x.segs, .int .i64 x.per, .int .i64 x.epoch, .int .i64 x.term, .int .i64 x.vote, .int .i64 x.base, .slice A x.chain.length c, .int .i64 x.next, .int .i64 x.at_, .bool x.fresh, .bool x.dead]
def IsLg (w : World) (p d : Nat) (x : LG) (A : Option Addr) (c : Nat) : Prop := Blk w p 64 (lgCells d x A c)
/-- Where it lies on a disk of so many sectors. -/
structure LG.Geo (x : LG) (n : Nat) : Prop where
  s2 : 2 ≤ x.segs
  s64 : x.segs ≤ 64
  p2 : 2 ≤ x.per
  p64 : x.per ≤ 64
  fit : x.from_ + 2 + x.segs * x.per ≤ n
  big : n ≤ 4096
def LG.place (x : LG) (k : Nat) : Nat := x.from_ + 2 + k % x.segs * x.per
theorem LG.Geo.place {x : LG} {n : Nat} (h : x.Geo n) (k : Nat) : x.place k + x.per ≤ n := by
  have h1 := h.fit
  have h2 : k % x.segs < x.segs := Nat.mod_lt _ (by have := h.s2; omega)
  have h3 : (k % x.segs + 1) * x.per ≤ x.segs * x.per := Nat.mul_le_mul_right _ h2
  rw [Nat.add_mul] at h3
  unfold LG.place
  omega
def inW (n lo hi : Int) : Bool := decide (lo ≤ n) && decide (n ≤ hi)
theorem within_any (n lo hi : Int) (w : World) : Calls Try.prog 42 #[.int .i64 n, .int .i64 lo, .int .i64 hi] w fun e w' => e = .returned (.bool (inW n lo hi)) ∧ w = w' := by
  by_cases h1 : lo ≤ n
  · have b1 : decide (lo ≤ n) = true := decide_eq_true h1
    have HE : Hid (inW n lo hi = decide (n ≤ hi)) := Lib.hid (by simp [inW, h1])
    clear h1
    go_enter Try.func42, Try.ntmps42
    go_wp2_with fail
    go_ret
    exact ⟨by rw [HE.out]; rfl, rfl⟩
  · have b1 : decide (lo ≤ n) = false := decide_eq_false h1
    have HE : Hid (inW n lo hi = false) := Lib.hid (by simp [inW, h1])
    clear h1
    go_enter Try.func42, Try.ntmps42
    go_wp2_with fail
    go_ret
    exact ⟨by rw [HE.out]; rfl, rfl⟩
def takesN (n : Nat) : Nat := (n + 287) / 256
theorem takes_any (n : Nat) (hn : n ≤ 140737488351232) (w : World) : Calls Try.prog 34 #[.int .i64 (n : Int)] w fun e w' => e = .returned (.int .i64 (takesN n : Nat)) ∧ w = w' := by
  have e1 : ((32 : Int) + n + 255) / 256 = ((takesN n : Nat) : Int) := by unfold takesN; omega
  have e2 : ((32 : Int) + n + 256 - 1) / 256 = ((takesN n : Nat) : Int) := by unfold takesN; omega
  have HE1 := Lib.hid e1
  have HE2 := Lib.hid e2
  clear e1 e2
  go_enter Try.func34, Try.ntmps34
  go_wp2_with fail
  go_ret
  refine ⟨?_, rfl⟩
  show Ending.returned (.int .i64 (((32 : Int) + n + 256 - 1) / 256)) = _
  rw [HE2.out]
section
variable {w : World} {p d : Nat} {x : LG} {A : Option Addr} {c n : Nat}
theorem state_nil (w : World) : Calls Try.prog 33 #[.pointer none] w fun e w' => e = .returned (.int .i64 2) ∧ w = w' := by
  go_enter Try.func33, Try.ntmps33
  go_wp2_with fail
  go_ret
  exact ⟨rfl, rfl⟩
def stateE (x : LG) : Int := if x.dead = true then 21 else 0
theorem state_any (h : IsLg w p d x A c) : Calls Try.prog 33 #[.pointer (some ⟨p, 0, none⟩)] w fun e w' => e = .returned (.int .i64 (stateE x)) ∧ w = w' := by
  have c12 := h.cell 12
  simp [lgCells] at c12
  cases hd : x.dead with
  | true =>
    have HE : Hid (stateE x = 21) := Lib.hid (if_pos hd)
    rw [hd] at c12
    clear hd h
    go_enter Try.func33, Try.ntmps33
    go_wp2_with fail
    go_ret
    exact ⟨by rw [HE.out]; rfl, rfl⟩
  | false =>
    have HE : Hid (stateE x = 0) := Lib.hid (if_neg (by rw [hd]; simp))
    rw [hd] at c12
    clear hd h
    go_enter Try.func33, Try.ntmps33
    go_wp2_with fail
    go_ret
    exact ⟨by rw [HE.out]; rfl, rfl⟩
set_option maxHeartbeats 800000 in
theorem place_any (h : IsLg w p d x A c) (hg : x.Geo n) (k : Nat) (life : Int) (hk : life = (k : Int) + 1) (hb : k ≤ 2000000000000000000) :
    Calls Try.prog 40 #[.pointer (some ⟨p, 0, none⟩), .int .i64 life] w fun e w' => e = .returned (.int .i64 (x.place k : Nat)) ∧ Below w.heap.size w w' := by
  subst hk
  have c1 := h.cell 1
  have c2 := h.cell 2
  have c3 := h.cell 3
  simp [lgCells] at c1 c2 c3
  obtain ⟨F, hF⟩ : ∃ F, x.from_ = F := ⟨_, rfl⟩
  obtain ⟨S, hS⟩ : ∃ S, x.segs = S := ⟨_, rfl⟩
  obtain ⟨P, hP⟩ : ∃ P, x.per = P := ⟨_, rfl⟩
  have g1 := hg.s2
  have g2 := hg.s64
  have g3 := hg.p64
  have g4 := hg.fit
  have g5 := hg.big
  have HPL : Hid (x.place k = F + 2 + k % S * P) := Lib.hid (by unfold LG.place; rw [hF, hS, hP])
  rw [hF] at c1 g4
  rw [hS] at c2 g1 g2
  rw [hP] at c3 g3
  obtain ⟨m, hm⟩ : ∃ m, k % S = m := ⟨_, rfl⟩
  have hm64 : m < 64 := by have := Nat.mod_lt k (show 0 < S by omega); omega
  have hrem : ((k : Int) + 1 - 1).tmod (S : Int) = (m : Int) := by
    rw [show (k : Int) + 1 - 1 = (k : Int) by omega, ← hm]
    exact (Int.ofNat_tmod k S).symm
  have hrem2 : (k : Int).tmod (S : Int) = (m : Int) := by
    rw [← hm]
    exact (Int.ofNat_tmod k S).symm
  obtain ⟨z, hz⟩ : ∃ z, m * P = z := ⟨_, rfl⟩
  have hz64 : z ≤ 4096 := by
    rw [← hz]
    exact Nat.le_trans (Nat.mul_le_mul (show m ≤ 64 by omega) g3) (by omega)
  have hmul : (m : Int) * (P : Int) = (z : Int) := by rw [← hz]; simp
  rw [hm, hz] at HPL
  have hS0 : ((S : Int) == 0) = false := by simp; omega
  clear hF hS hP hm hz h hg
  go_enter Try.func40, Try.ntmps40
  go_wp2_with fail
  go_quiet (fail)
  go_wp2_with fail
  go_ret
  exact ⟨by rw [HPL.out]; congr 2 <;> omega, ⟨rfl, rfl, rfl, Nat.le_refl _, fun _ _ => rfl⟩⟩
theorem sectors_any (h : IsLg w p d x A c) {D : DS} {M R : Nat → Prop} (hd : IsDisk w d D M R) (a k : Nat) (ha : a ≤ 100000) (hk : k ≤ 100000) :
    Calls Try.prog 51 #[.pointer (some ⟨p, 0, none⟩), .int .i64 (a : Int), .int .i64 (k : Int)] w fun e w' => ∃ A' c', e = .returned (.slice A' (readD D a k).length c') ∧ (readD D a k).length ≤ c' ∧ c' ≤ maxLen ∧ w'.ownsRow w.heap.size 5 1 (.slice A' (readD D a k).length c') (readD D a k).length (by8 (readD D a k)) ∧ Below w.heap.size w w' := by
  have c0 := h.cell 0
  simp [lgCells] at c0
  have HR := Lib.hid (read_any a k hd (by omega))
  clear h hd
  go_enter Try.func51, Try.ntmps51
  go_wp2_with (first
    | (go_at_call 66; (with_reducible refine HR.out.mono ?_); rintro e w1 ⟨A1, c1, rfl, h1, h2, h3⟩; have H1 := Lib.hid h1; have H2 := Lib.hid h2; have H3 := Lib.hid h3; clear h1 h2 h3))
  go_ret
  obtain ⟨A', c', e, _, _, hm⟩ := ownsRow_slice H2.out
  injection e with e1 e2 e3
  subst e3
  exact ⟨A1, c1, rfl, H1.out, hm, H2.out, H3.out⟩
end
end Go.Proofs.Ytceajiliahmkaaa
