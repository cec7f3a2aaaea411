/- Layer 6: opened, sector, readState. -/
import Derived.Test.YtceajiliahmkaaaBlk1
namespace Go.Proofs.Ytceajiliahmkaaa
set_option linter.unusedVariables false
set_option linter.unusedSimpArgs false
set_option maxRecDepth 100000
open Go.RowKit

def okL (l : List Int) : Bool := decide (unb (l.take 4) = crc (l.drop 4))

/-- A state: gen, n, area, open. -/
structure ST where
  gen : Int
  n : Int
  area : Int
  op : Int
def ST.cells (x : ST) : Array Value := #[.int .i64 x.gen, .int .i64 x.n, .int .i64 x.area, .int .i64 x.op]
def ST.list (x : ST) : List Int := n8 [x.gen, x.n, x.area, x.op] ++ List.replicate 220 0
def ST.sector (x : ST) : List Int := sealL x.list
theorem ST.list_length (x : ST) : x.list.length = 252 := by simp [ST.list, n8_length]
theorem ST.sector_length (x : ST) : x.sector.length = 256 := by rw [ST.sector, sealL_length, ST.list_length]
theorem rep0_isB (k : Nat) : isB (List.replicate k 0) := fun x hx => by rw [(List.mem_replicate.1 hx).2]; omega
theorem ST.list_isB (x : ST) : isB x.list := (n8_isB _).append (rep0_isB _)
theorem ST.sector_isB (x : ST) : isB x.sector := sealL_isB x.list_isB
def ST.pos (x : ST) : Prop := (0 ≤ x.gen ∧ x.gen < 9223372036854775808) ∧ (0 ≤ x.n ∧ x.n < 9223372036854775808) ∧ (0 ≤ x.area ∧ x.area < 9223372036854775808) ∧ (0 ≤ x.op ∧ x.op < 9223372036854775808)

theorem by8_rep (l : List Int) (k : Nat) : by8 l ++ List.replicate k (.int .u8 0) = by8 (l ++ List.replicate k 0) := by simp [by8]

theorem ST.app (x : ST) : by8 (n8 [x.gen, x.n, x.area, x.op]) ++ List.replicate 220 (.int .u8 0) = by8 x.list := by rw [ST.list, ← by8_rep]

theorem rdr8 (g : Nat) (l : List Int) (w : World) {F : Nat → Prop} (h : IsRdr w 138 g l 0 F) (h8 : 8 ≤ l.length) (hl : l.length ≤ 100000) :
    Calls Try.prog 65 #[.pointer (some ⟨g, 0, none⟩), .int .i64 8] w fun e w' => e = .returned (.int .i64 (wrap64 (unb (l.take 8)))) ∧ IsRdr w' 138 g (l.drop 8) 0 F ∧ Tr (fun b => b = g) w w' := by
  refine (rdrNum g l 0 8 w (by omega) (by omega) h (by omega)).mono ?_
  rintro e w' ⟨rfl, h1, h2⟩
  simp only [rdV, rdL, rdE, h8, and_self, if_true] at h1 ⊢
  exact ⟨trivial, h1, h2⟩
theorem rdr8n (g : Nat) (why : Int) (w : World) {F : Nat → Prop} (h : IsRdr w 138 g [] why F) :
    Calls Try.prog 65 #[.pointer (some ⟨g, 0, none⟩), .int .i64 8] w fun e w' => e = .returned (.int .i64 0) ∧ (∃ why', IsRdr w' 138 g [] why' F) ∧ Tr (fun b => b = g) w w' := by
  refine (rdrNum g [] why 8 w (by omega) (by omega) h (by simp)).mono ?_
  rintro e w' ⟨rfl, h1, h2⟩
  have e1 : rdV 8 [] why = 0 := by simp [rdV]
  have e2 : rdL 8 [] why = [] := by simp [rdL]
  rw [e1]
  rw [e2] at h1
  exact ⟨rfl, ⟨_, h1⟩, h2⟩
theorem newReader_252 (A : Option Addr) (c : Nat) (l : List Int) (w : World) (hr : Rd w A (by8 l)) (hB : isB l) (hl : l.length = 252) :
    Calls Try.prog 64 #[.slice A 252 c] w fun e w' => ∃ g, e = .returned (.pointer (some ⟨g, 0, none⟩)) ∧ IsRdr w' 138 g l 0 (fun b => w.heap.size ≤ b ∧ b < w'.heap.size) ∧ w.heap.size ≤ g ∧ Below w.heap.size w w' := by
  have h := newReader_any A c l w hr hB (by omega)
  rw [hl] at h
  exact h
theorem newReader_nil (w : World) : Calls Try.prog 64 #[.slice none 0 0] w fun e w' => ∃ g, e = .returned (.pointer (some ⟨g, 0, none⟩)) ∧ IsRdr w' 138 g [] 0 (fun b => w.heap.size ≤ b ∧ b < w'.heap.size) ∧ w.heap.size ≤ g ∧ Below w.heap.size w w' :=
  newReader_any none 0 [] w Rd.nil isB.nil (by simp)

def rawST (p : List Int) : ST := ⟨wrap64 (unb (p.take 8)), wrap64 (unb ((p.drop 8).take 8)), wrap64 (unb ((p.drop 16).take 8)), wrap64 (unb ((p.drop 24).take 8))⟩
def ST.good (x : ST) : Prop := ¬ (x.gen < 1) ∧ ¬ (1152921504606846976 < x.gen) ∧ ¬ (x.n < 0) ∧ ¬ (1152921504606846976 < x.n) ∧ ¬ (x.area < 0) ∧ ¬ (1 < x.area) ∧ ¬ (x.op < 0) ∧ ¬ (1 < x.op)
instance (x : ST) : Decidable x.good := by unfold ST.good; infer_instance
def ST.zero : ST := ⟨0, 0, 0, 0⟩
def readST (l : List Int) : ST := if okL l = true ∧ (rawST (l.drop 4)).good then rawST (l.drop 4) else ST.zero

theorem ST.bad_cases {a b c d : Int} (h : ¬ (ST.mk a b c d).good) : a < 1 ∨ (¬ a < 1 ∧ 1152921504606846976 < a) ∨ (¬ a < 1 ∧ ¬ 1152921504606846976 < a ∧ b < 0) ∨ (¬ a < 1 ∧ ¬ 1152921504606846976 < a ∧ ¬ b < 0 ∧ 1152921504606846976 < b) ∨
    (¬ a < 1 ∧ ¬ 1152921504606846976 < a ∧ ¬ b < 0 ∧ ¬ 1152921504606846976 < b ∧ c < 0) ∨ (¬ a < 1 ∧ ¬ 1152921504606846976 < a ∧ ¬ b < 0 ∧ ¬ 1152921504606846976 < b ∧ ¬ c < 0 ∧ 1 < c) ∨
    (¬ a < 1 ∧ ¬ 1152921504606846976 < a ∧ ¬ b < 0 ∧ ¬ 1152921504606846976 < b ∧ ¬ c < 0 ∧ ¬ 1 < c ∧ d < 0) ∨ (¬ a < 1 ∧ ¬ 1152921504606846976 < a ∧ ¬ b < 0 ∧ ¬ 1152921504606846976 < b ∧ ¬ c < 0 ∧ ¬ 1 < c ∧ ¬ d < 0 ∧ 1 < d) := by
  simp only [ST.good] at h
  omega

end Go.Proofs.Ytceajiliahmkaaa
