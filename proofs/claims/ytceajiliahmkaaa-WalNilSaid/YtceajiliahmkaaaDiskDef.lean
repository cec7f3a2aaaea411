/- The disk in plain lists, and where it lies in memory. -/
import Derived.Test.YtceajiliahmkaaaSums
namespace Go.Proofs.Ytceajiliahmkaaa
set_option linter.unusedVariables false
open Go.RowKit

/-! ### plain -/
/-- A disk: what is safe, what is read, the groups behind the safe. -/
structure DS where
  safe : List Int
  now : List Int
  gs : List (Nat × List Int)
  failing : Bool
  dead : Bool

def DS.n (D : DS) : Nat := D.safe.length / 256
/-- What every disk keeps. -/
structure DS.Ok (D : DS) : Prop where
  pos : 1 ≤ D.n
  most : D.n ≤ 4096
  len : D.safe.length = 256 * D.n
  lnow : D.now.length = 256 * D.n
  bs : isB D.safe
  bn : isB D.now
  gs : ∀ x ∈ D.gs, isB x.2 ∧ ∃ k, 1 ≤ k ∧ x.2.length = 256 * k ∧ x.1 + k ≤ D.n

def wrongD (m : Nat) (at_ n : Int) : Bool := decide (at_ < 0 ∨ n < 1 ∨ (m : Int) < n ∨ (m : Int) - n < at_)
theorem wrongD_no {m : Nat} {at_ n : Int} (h : wrongD m at_ n = false) : 0 ≤ at_ ∧ 1 ≤ n ∧ n ≤ m ∧ at_ ≤ m - n := by
  have := of_decide_eq_false h
  omega
/-- Bytes as whole sectors. -/
def secs (b : List Int) : Nat := (b.length + 255) / 256
def pad (b : List Int) : List Int := b ++ List.replicate (256 * secs b - b.length) 0
theorem pad_length (b : List Int) : (pad b).length = 256 * secs b := by unfold pad secs; simp; omega
theorem pad_isB {b : List Int} (h : isB b) : isB (pad b) := h.append (by intro x hx; rw [(List.mem_replicate.1 hx).2]; omega)

def newD (l : List Int) : DS := ⟨l, l, [], false, false⟩
def DS.put (D : DS) (at_ : Nat) (b : List Int) : DS := { D with now := splice D.now (256 * at_) b, gs := D.gs ++ [(at_, b)] }
/-- Write: the disk behind it, and the error. -/
def writeD (D : DS) (at_ : Int) (b : List Int) : DS := if D.dead = true then D else if wrongD D.n at_ (secs b) = true then D else D.put at_.toNat (pad b)
def writeE (D : DS) (at_ : Int) (b : List Int) : Int := if D.dead = true then 21 else if wrongD D.n at_ (secs b) = true then 1 else 0
def readD (D : DS) (at_ n : Int) : List Int := if wrongD D.n at_ n = true then [] else (D.now.drop (256 * at_.toNat)).take (256 * n.toNat)
def readE (D : DS) (at_ n : Int) : Int := if wrongD D.n at_ n = true then 1 else 0
def flushD (D : DS) : DS := if D.dead = true then D else if D.failing = true then { D with dead := true } else { D with safe := D.now, gs := [] }
def flushE (D : DS) : Int := if D.dead = true then 21 else if D.failing = true then 20 else 0
/-- Is sector k of a group kept? -/
def keptBit (x : Int) (k : Nat) : Bool := x / 2 ^ (k % 16) % 2 == 1
def crashG (x : Int) (at_ : Nat) (d : List Int) : Nat → List Int → List Int
  | 0, s => s
  | k + 1, s => let s' := crashG x at_ d k s
    if keptBit x k = true then splice s' (256 * (at_ + k)) ((d.drop (256 * k)).take 256) else s'
def crashL (kept : List Int) (gs : List (Nat × List Int)) : Nat → List Int → List Int
  | 0, s => s
  | i + 1, s => let s' := crashL kept gs i s
    match gs[i]?, kept[i]? with
    | some g, some x => crashG x g.1 g.2 (g.2.length / 256) s'
    | _, _ => s'
def crashD (D : DS) (kept : List Int) : DS := newD (crashL kept D.gs D.gs.length D.safe)
def failD (D : DS) : DS := { D with failing := true }

theorem by8_splice (l m : List Int) (o : Nat) : splice (by8 l) o (by8 m) = by8 (splice l o m) := by
  unfold splice
  rw [by8_take, by8_length, by8_drop, ← by8_append, ← by8_append]
theorem splice_zeros (l : List Int) (n : Nat) (h : l.length ≤ n) : splice (List.replicate n 0) 0 l = l ++ List.replicate (n - l.length) 0 := by
  unfold splice
  simp
theorem pad_splice (l : List Int) : splice (List.replicate (secs l * 256) 0) 0 l = pad l := by
  rw [splice_zeros _ _ (by unfold secs; omega)]
  unfold pad
  rw [Nat.mul_comm]
theorem splice_isB {l m : List Int} {o : Nat} (hl : isB l) (hm : isB m) : isB (splice l o m) := (hl.take _).append (hm.append (hl.drop _))
theorem put_ok {D : DS} (h : D.Ok) {a : Nat} {b : List Int} (hb : isB b) {k : Nat} (hk : 1 ≤ k) (hl : b.length = 256 * k) (hfit : a + k ≤ D.n) : (D.put a b).Ok := by
  refine ⟨h.pos, h.most, h.len, ?_, h.bs, splice_isB h.bn hb, fun x hx => ?_⟩
  · show (splice D.now (256 * a) b).length = 256 * D.n
    rw [length_splice _ _ _ (by rw [h.lnow]; omega)]
    exact h.lnow
  · rcases List.mem_append.1 hx with hx | hx
    · exact h.gs x hx
    · simp at hx
      subst hx
      exact ⟨hb, k, hk, hl, hfit⟩

/-! ### in memory -/
/-- The groups' cells. -/
def GAt (w : World) (R : Nat → Prop) : List (Nat × List Int) → List Value → Prop
  | [], vs => vs = []
  | g :: gs, vs => ∃ (b : Nat) (r : List Value), vs = .int .i64 g.1 :: .slice (some ⟨b, 0, none⟩) g.2.length g.2.length :: r ∧ Rd w (some ⟨b, 0, none⟩) (by8 g.2) ∧ R b ∧ GAt w R gs r

theorem GAt.length {w : World} {R : Nat → Prop} : ∀ {gs : List (Nat × List Int)} {vs : List Value}, GAt w R gs vs → vs.length = gs.length * 2
  | [], _, h => by cases h; rfl
  | g :: gs, _, ⟨b, r, e, _, _, h⟩ => by subst e; simp [h.length]; omega
theorem GAt.tr {w w' : World} {R F : Nat → Prop} (ht : Tr F w w') (hF : ∀ b, R b → ¬ F b) : ∀ {gs : List (Nat × List Int)} {vs : List Value}, GAt w R gs vs → GAt w' R gs vs
  | [], _, h => h
  | g :: gs, _, ⟨b, r, e, hr, hb, h⟩ => ⟨b, r, e, hr.tr ht (fun ad e => by injection e with e; subst e; exact hF _ hb), hb, h.tr ht hF⟩
theorem GAt.mono {w : World} {R S : Nat → Prop} (hS : ∀ b, R b → S b) : ∀ {gs : List (Nat × List Int)} {vs : List Value}, GAt w R gs vs → GAt w S gs vs
  | [], _, h => h
  | g :: gs, _, ⟨b, r, e, hr, hb, h⟩ => ⟨b, r, e, hr, hS b hb, h.mono hS⟩
theorem GAt.one {w : World} {R : Nat → Prop} : ∀ {gs : List (Nat × List Int)} {vs : List Value}, GAt w R gs vs → ∀ u ∈ vs, u.oneCell' = true
  | [], _, h => by cases h; intro u hu; cases hu
  | g :: gs, _, ⟨b, r, e, _, _, h⟩ => by
    subst e
    intro u hu
    rcases List.mem_cons.1 hu with rfl | hu
    · rfl
    · rcases List.mem_cons.1 hu with rfl | hu
      · rfl
      · exact h.one u hu
theorem GAt.snoc {w : World} {R : Nat → Prop} {b : Nat} {at_ : Nat} {d : List Int} (hr : Rd w (some ⟨b, 0, none⟩) (by8 d)) (hb : R b) :
    ∀ {gs : List (Nat × List Int)} {vs : List Value}, GAt w R gs vs → GAt w R (gs ++ [(at_, d)]) (vs ++ [.int .i64 at_, .slice (some ⟨b, 0, none⟩) d.length d.length])
  | [], _, h => by cases h; exact ⟨b, [], rfl, hr, hb, rfl⟩
  | g :: gs, _, ⟨b', r, e, hr', hb', h⟩ => by subst e; exact ⟨b', _, rfl, hr', hb', h.snoc hr hb⟩
theorem GAt.get {w : World} {R : Nat → Prop} : ∀ {gs : List (Nat × List Int)} {vs : List Value}, GAt w R gs vs → ∀ i (hi : i < gs.length),
    ∃ b, vs[2 * i]? = some (.int .i64 gs[i].1) ∧ vs[2 * i + 1]? = some (.slice (some ⟨b, 0, none⟩) gs[i].2.length gs[i].2.length) ∧ Rd w (some ⟨b, 0, none⟩) (by8 gs[i].2) ∧ R b
  | [], _, _, i, hi => by cases hi
  | g :: gs, _, ⟨b, r, e, hr, hb, h⟩, 0, _ => by subst e; exact ⟨b, rfl, rfl, hr, hb⟩
  | g :: gs, _, ⟨b, r, e, hr, hb, h⟩, i + 1, hi => by
    subst e
    obtain ⟨b', h1, h2, h3⟩ := h.get i (by simpa using hi)
    refine ⟨b', ?_, ?_, h3⟩
    · rw [show 2 * (i + 1) = 2 * i + 1 + 1 from by omega, List.getElem?_cons_succ, List.getElem?_cons_succ]; exact h1
    · rw [show 2 * (i + 1) + 1 = 2 * i + 1 + 1 + 1 from by omega, List.getElem?_cons_succ, List.getElem?_cons_succ]; exact h2

/-- A disk at block g: M: the blocks that its calls may write; R: those of its groups' bytes, which nobody writes. -/
structure DAt (w : World) (g : Nat) (D : DS) (M R : Nat → Prop) (bs cs bn cn : Nat) (Al : Option Addr) (cl : Nat) (cells : List Value) : Prop where
  ok : D.Ok
  blk : Blk w g 84 #[.slice (some ⟨bs, 0, none⟩) D.safe.length cs, .slice (some ⟨bn, 0, none⟩) D.now.length cn, .slice Al D.gs.length cl, .bool D.failing, .bool D.dead]
  safe : w.ownsRow 0 5 1 (.slice (some ⟨bs, 0, none⟩) D.safe.length cs) D.safe.length (by8 D.safe)
  now : w.ownsRow 0 5 1 (.slice (some ⟨bn, 0, none⟩) D.now.length cn) D.now.length (by8 D.now)
  row : w.ownsRow 0 86 2 (.slice Al D.gs.length cl) D.gs.length cells
  gat : GAt w R D.gs cells
  ne : bs ≠ bn
  mg : M g
  ms : M bs
  mn : M bn
  ml : ∀ b, Blo Al b → M b
  rm : ∀ b, R b → ¬ M b
  few : D.gs.length ≤ 1000000
  mlt : ∀ b, M b → b < w.heap.size
  rlt : ∀ b, R b → b < w.heap.size
def IsDisk (w : World) (g : Nat) (D : DS) (M R : Nat → Prop) : Prop := ∃ bs cs bn cn Al cl cells, DAt w g D M R bs cs bn cn Al cl cells

theorem DAt.tr {w w' : World} {g : Nat} {D : DS} {M R F : Nat → Prop} {bs cs bn cn : Nat} {Al : Option Addr} {cl : Nat} {cells : List Value} (h : DAt w g D M R bs cs bn cn Al cl cells) (ht : Tr F w w') (hM : ∀ b, M b → ¬ F b) (hR : ∀ b, R b → ¬ F b) :
    DAt w' g D M R bs cs bn cn Al cl cells :=
  ⟨h.ok, ht.blk h.blk (hM _ h.mg), own_tr h.safe ht (fun b hb => hM _ (by have := (Blo.some_iff _ _).1 hb; exact this ▸ h.ms)), own_tr h.now ht (fun b hb => hM _ (by have := (Blo.some_iff _ _).1 hb; exact this ▸ h.mn)),
    own_tr h.row ht (fun b hb => hM _ (h.ml b hb)), h.gat.tr ht hR, h.ne, h.mg, h.ms, h.mn, h.ml, h.rm, h.few, fun b x => Nat.lt_of_lt_of_le (h.mlt b x) ht.size, fun b x => Nat.lt_of_lt_of_le (h.rlt b x) ht.size⟩
theorem IsDisk.tr {w w' : World} {g : Nat} {D : DS} {M R F : Nat → Prop} (h : IsDisk w g D M R) (ht : Tr F w w') (hM : ∀ b, M b → ¬ F b) (hR : ∀ b, R b → ¬ F b) : IsDisk w' g D M R := by
  obtain ⟨bs, cs, bn, cn, Al, cl, cells, h⟩ := h
  exact ⟨bs, cs, bn, cn, Al, cl, cells, h.tr ht hM hR⟩
theorem IsDisk.below {w w' : World} {g : Nat} {D : DS} {M R : Nat → Prop} (h : IsDisk w g D M R) (hb : Below w.heap.size w w') : IsDisk w' g D M R :=
  h.tr (Tr.of_below (F := NoB) hb) (fun _ _ => id) (fun _ _ => id)
theorem IsDisk.mlt {w : World} {g : Nat} {D : DS} {M R : Nat → Prop} (h : IsDisk w g D M R) : ∀ b, M b → b < w.heap.size := by
  obtain ⟨bs, cs, bn, cn, Al, cl, cells, h⟩ := h
  exact h.mlt
theorem IsDisk.rlt {w : World} {g : Nat} {D : DS} {M R : Nat → Prop} (h : IsDisk w g D M R) : ∀ b, R b → b < w.heap.size := by
  obtain ⟨bs, cs, bn, cn, Al, cl, cells, h⟩ := h
  exact h.rlt
theorem IsDisk.rm {w : World} {g : Nat} {D : DS} {M R : Nat → Prop} (h : IsDisk w g D M R) : ∀ b, R b → ¬ M b := by
  obtain ⟨bs, cs, bn, cn, Al, cl, cells, h⟩ := h
  exact h.rm
theorem IsDisk.ok {w : World} {g : Nat} {D : DS} {M R : Nat → Prop} (h : IsDisk w g D M R) : D.Ok := by
  obtain ⟨bs, cs, bn, cn, Al, cl, cells, h⟩ := h
  exact h.ok
theorem DAt.ne1 {w : World} {g : Nat} {D : DS} {M R : Nat → Prop} {bs cs bn cn : Nat} {Al : Option Addr} {cl : Nat} {cells : List Value} (h : DAt w g D M R bs cs bn cn Al cl cells) : bs ≠ g := fun e =>
  own_blk h.safe h.blk (by decide) (by rw [e]; rfl)
theorem DAt.ne2 {w : World} {g : Nat} {D : DS} {M R : Nat → Prop} {bs cs bn cn : Nat} {Al : Option Addr} {cl : Nat} {cells : List Value} (h : DAt w g D M R bs cs bn cn Al cl cells) : bn ≠ g := fun e =>
  own_blk h.now h.blk (by decide) (by rw [e]; rfl)
theorem DAt.ne3 {w : World} {g : Nat} {D : DS} {M R : Nat → Prop} {bs cs bn cn : Nat} {Al : Option Addr} {cl : Nat} {cells : List Value} (h : DAt w g D M R bs cs bn cn Al cl cells) : ¬ Blo Al g :=
  own_blk h.row h.blk (by decide)

end Go.Proofs.Ytceajiliahmkaaa
