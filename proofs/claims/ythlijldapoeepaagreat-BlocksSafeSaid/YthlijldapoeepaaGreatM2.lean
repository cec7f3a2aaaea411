/- What every row of this seat wants: the program's own facts, arguments opened. -/
import Derived.Test.YthlijldapoeepaaGreatRows
import Derived.Test.YthlijldapoeepaaGreatM1
import Derived.ProofKit
import Derived.OpenShut
import Derived.ShutString
import Derived.ChangeOld
import Derived.SizedLaws
import Derived.Test.YthlijldapoeepaaGreatProg
namespace Go.Proofs.YthlijldapoeepaaGreat
set_option linter.unusedVariables false
set_option maxRecDepth 100000
open Go.ChangeShapes Go.WideShapes Go.ChangeAt Go.RowKit

theorem own_ : ownKnob Tryz.prog.godebug = none := by kernel_rfl
theorem laidOut_ : laidOutB Tryz.prog = true := by kernel_rfl

theorem sized_any {H : Type} {P : Program} {ts : List TypeId} {ds : List (DataW H)} (h : (DataW.weightsEach P ts ds).all (· ≤ reachBytes) = true) {j : Nat} {t : TypeId} {d : DataW H} (ht : ts[j]? = some t) (hd : ds[j]? = some d) :
    ∀ m ∈ d.weights P t, m ≤ reachBytes := fun m hm => by
  have := List.all_eq_true.1 h _ (DataW.weights_mem_each ht hd m hm)
  simpa using this

/-- A slice of integers that came in. -/
theorem slice_in {H : Type} {enc : TypeId × Value → H} {W : World} {base : Nat} {spare : Nat → Bool} {held : Bool} {r : Reach} {b0 : Nat} {t e : TypeId} {k : IntKind} {v : Value} {d : DataW H} {p : List MemPlace} {by_ : Nat}
    (ht : Tryz.prog.underlying t = some (.slice e)) (he : Tryz.prog.underlying e = some (.int k)) (hc : Tryz.prog.cellsOf e = 1) (hby : Tryz.prog.bytesOf e = by_)
    (hv : Value.okWide Tryz.prog W r b0 t v) (h : DataW.Trod enc Tryz.prog W base spare held t v d p)
    (hsz : ∀ elems sp, d = .slice elems sp → (elems.length + sp.length) * Tryz.prog.bytesOf e ≤ reachBytes) :
    ∃ (A : Option Addr) (c : Nat) (l : List Int), v = .slice A l.length c ∧ Rd W A (l.map (Value.int k)) ∧ l.length ≤ c ∧ (∀ n ∈ l, (Lit.int k n).wf = true) ∧ l.length * by_ ≤ 140737488351232 := by
  subst hby
  obtain ⟨a0, len0, cap0, rfl⟩ := okWide_slice ht hv
  obtain ⟨fuel, hf⟩ := h
  rcases open_ints ht he hc hf with ⟨hcs, _⟩ | ⟨x, l, c, zs, hcs, _, hl, hm, hz, hx, hcell, hwz⟩
  · simp [Value.cells] at hcs
    obtain ⟨rfl, rfl, rfl⟩ := hcs
    exact ⟨none, 0, [], rfl, Rd.nil, by simp, by simp, by simp⟩
  · simp [Value.cells] at hcs
    obtain ⟨rfl, rfl, rfl⟩ := hcs
    simp only [Prod.mk.injEq] at hx
    have hzl : len0 ≤ zs.length := by
      rw [hz]; split <;> omega
    have hlen : (zs.take len0).length = len0 := by rw [List.length_take]; omega
    refine ⟨some x, cap0, zs.take len0, by rw [hlen], fun j u hj => ⟨x, rfl, ?_⟩, by omega, fun n hn => hwz n (List.mem_of_mem_take hn), ?_⟩
    · rw [List.getElem?_map, List.getElem?_take] at hj
      split at hj
      · rename_i hjl
        have hjz : j < zs.length := by omega
        rw [List.getElem?_eq_getElem hjz] at hj
        injection hj with hj
        rw [hcell j hjz, ← hj]
        simp [List.getD, List.getElem?_eq_getElem hjz]
      · cases hj
    · have := hsz _ _ hx.1
      simp only [lits, List.length_map, List.length_take, List.length_drop, reachBytes] at this
      rw [hlen]
      refine Nat.le_trans (Nat.mul_le_mul_right _ ?_) this
      omega

theorem isB_of {l : List Int} (h : ∀ n ∈ l, (Lit.int .u8 n).wf = true) : isB l := fun x hx => by
  have := h x hx
  have h1 : IntKind.u8.min = 0 := rfl
  have h2 : IntKind.u8.max = 255 := rfl
  simp only [Lit.wf, Bool.and_eq_true, decide_eq_true_eq, h1, h2] at this
  omega
theorem i64_of {l : List Int} (h : ∀ n ∈ l, (Lit.int .i64 n).wf = true) : ∀ x ∈ l, -9223372036854775808 ≤ x ∧ x ≤ 9223372036854775807 := fun x hx => by
  have := h x hx
  have h1 : IntKind.i64.min = -9223372036854775808 := rfl
  have h2 : IntKind.i64.max = 9223372036854775807 := rfl
  simp only [Lit.wf, Bool.and_eq_true, decide_eq_true_eq, h1, h2] at this
  omega
theorem u64_of {l : List Int} (h : ∀ n ∈ l, (Lit.int .u64 n).wf = true) : ∀ x ∈ l, 0 ≤ x ∧ x < 18446744073709551616 := fun x hx => by
  have := h x hx
  have h1 : IntKind.u64.min = 0 := rfl
  have h2 : IntKind.u64.max = 18446744073709551615 := rfl
  simp only [Lit.wf, Bool.and_eq_true, decide_eq_true_eq, h1, h2] at this
  omega
theorem wf_i64 {x : Int} (h : (Lit.int .i64 x).wf = true) : -9223372036854775808 ≤ x ∧ x ≤ 9223372036854775807 := i64_of (l := [x]) (by simpa using h) x (by simp)
theorem wf_u64 {x : Int} (h : (Lit.int .u64 x).wf = true) : 0 ≤ x ∧ x < 18446744073709551616 := u64_of (l := [x]) (by simpa using h) x (by simp)

end Go.Proofs.YthlijldapoeepaaGreat

/- Contracts of the small helpers of the statements (Lent, Kept, Spoil) and of slices.Clone at bytes. -/

namespace Go.Proofs.YthlijldapoeepaaGreat
set_option linter.unusedVariables false
set_option maxRecDepth 100000
open Go.RowKit

theorem infoU8 : (Tryz.prog.info? 5).map (fun i => (i.zero, i.size, i.bytes)) = some (some (.int .u8 0), 1, 1) := by kernel_rfl
theorem E8 : AppTy Tryz.prog 52 5 1 1 := AppTy.mk' Tryz.underlying52 infoU8 rfl (by omega)

set_option maxHeartbeats 400000 in
theorem clone_any (A : Option Addr) (c : Nat) (l : List Int) (w : World) (hr : Rd w A (by8 l)) (hn : l.length ≤ 140737488351232) :
    Calls Tryz.prog 47 #[.slice A l.length c] w fun e w' => ∃ A' c', e = .returned (.slice A' l.length c') ∧ l.length ≤ c' ∧
      w'.ownsRow w.heap.size 5 1 (.slice A' l.length c') l.length (by8 l) ∧ Below w.heap.size w w' := by
  have HR := Lib.hid hr
  clear hr
  have kn := fun w => Lib.run_eql_slice_nil (P := Tryz.prog) w 52 5 A l.length c 0 0 Tryz.underlying52
  cases A with
  | none =>
    have hl : l = [] := by
      cases l with
      | nil => rfl
      | cons x l => obtain ⟨ad, h, _⟩ := HR.out 0 _ rfl; cases h
    subst hl
    simp only [Option.isNone_none, List.length_nil] at kn ⊢
    go_enter Tryz.func47, Tryz.ntmps47
    go_wp2_with fail
    go_ret
    exact ⟨none, 0, rfl, by simp, ownsRow_emp _ _ _ _, Below.refl _ _⟩
  | some ad =>
    simp only [Option.isNone_some] at kn
    go_enter Tryz.func47, Tryz.ntmps47
    go_wp2_with (first
      | (at_builtin; refine wpL_append E8 rfl rfl (World.ownsRow_lit w #[] 0 (Nat.le_refl _) (by simp [maxLen]) rfl) rfl (HR.out.below ((Below.refl _ _).alloc (Nat.le_refl _) _)) rfl (by simp [by8]) (by8_one l) l.length (by8 l) (by simp) (by simp) (by simp only [maxLen]; omega) (by omega) (by simp) ?_; intro A1 c1 w1 hc1 ho1 ht1 _; have HO1 := Lib.hid ho1; have HT1 := Lib.hid ht1; clear ho1 ht1))
    go_ret
    refine ⟨A1, c1, rfl, hc1, HO1.out, ((((Tr.refl NoB w).alloc _).trans HT1.out (fun b hb h => ?_)).below (fun _ _ => id))⟩
    have h := (Blo.some_iff _ _).1 h
    simp at h
    omega

theorem clone_n (A : Option Addr) (c n : Nat) (l : List Int) (w : World) (hr : Rd w A (by8 l)) (hn : l.length = n) (hb : n ≤ 140737488351232) :
    Calls Tryz.prog 47 #[.slice A n c] w fun e w' => ∃ A' c', e = .returned (.slice A' n c') ∧ n ≤ c' ∧
      w'.ownsRow w.heap.size 5 1 (.slice A' n c') n (by8 l) ∧ Below w.heap.size w w' := by
  subst hn
  exact clone_any A c l w hr hb

set_option maxHeartbeats 400000 in
theorem spoil_any (A : Option Addr) (n c : Nat) (l : List Value) (w : World) (ho : w.ownsRow 0 5 1 (.slice A n c) n l) (hn : n ≤ 140737488351232) :
    Calls Tryz.prog 38 #[.slice A n c] w fun e w' => e = .returned (.tuple #[]) ∧ Tr (Blo A) w w' := by
  have HR := Lib.hid ho
  clear ho
  go_enter Tryz.func38, Tryz.ntmps38
  go_wp2_with fail
  go_loopw [2] (fun v w1 => ∃ (k : Nat) (l1 : List Value), k ≤ n ∧ v = .int .i64 k ∧ w1.ownsRow 0 5 1 (.slice A n c) n l1 ∧ Tr (Blo A) w w1) (fun v _ => n - (intOf v).toNat)
  case atStart => exact ⟨0, l, by omega, rfl, HR.out, Tr.refl _ _⟩
  case round =>
    obtain ⟨k, l1, hk, rfl, ho1, ht1⟩ := hrel
    have hl1 := ho1.1
    rw [Nat.mul_one] at hl1
    have HO1 := Lib.hid ho1
    have HT1 := Lib.hid ht1
    have HL1 := Lib.hid hl1
    clear ho1 ht1 hl1
    by_cases hlt : k < n
    · obtain ⟨g, rfl⟩ := ownsRow_addr HO1.out (by omega)
      have hc : wr.cell? ⟨g, k, none⟩ = some (l1[k]'(by rw [HL1.out]; exact hlt)) := by
        rw [HO1.out.cellAt k (by omega)]; exact List.getElem?_eq_getElem _
      have hf : wr.frozen? ⟨g, k, none⟩ = false := HO1.out.frozenAt k
      go_wp2_with fail
      go_roundw
      case rel =>
        obtain ⟨s1, s2⟩ := own_stored HO1.out k (.int .u8 90)
        exact ⟨k + 1, l1.set k (.int .u8 90), by omega, by go_num, s1, HT1.out.trans s2 (fun _ _ h => h)⟩
      case measure => simp [intOf]; omega
    · go_wp2_with (first
        | (at_builtin; refine wpL_append E8 rfl rfl (HO1.out.alloc _) rfl (Rd.new1 wr _ _) rfl (by simp) (by simp [Value.oneCell']) (n + 1) (l1 ++ [.int .u8 91]) rfl rfl (by simp only [maxLen]; omega) (by omega) (by simp) ?_; intro A2 c2 w2 hc2 ho2 ht2 ha2; (obtain ⟨g2, rfl⟩ := ownsRow_addr ho2 (by omega)); (have hcell2 : w2.cell? ⟨g2, n, none⟩ = some (.int .u8 91) := by rw [ho2.cellAt n (by omega)]; simp [HL1.out]); have hfr2 : w2.frozen? ⟨g2, n, none⟩ = false := ho2.frozenAt n; have HO2 := Lib.hid ho2; have HT2 := Lib.hid ht2; have HA2 := Lib.hid ha2; clear ho2 ht2 ha2))
      go_end0
      refine ⟨rfl, ?_⟩
      have h1 := (HT1.out.alloc (.cells #[.int .u8 91] 5)).trans HT2.out (fun b hb h => h)
      refine h1.setCell (fun hlt2 => ?_) _
      rcases HA2.out.blo (b := g2) rfl with h | h
      · exact h
      · have := HT1.out.size
        simp at h hlt2
        omega
theorem own_pre1 {w : World} {base : Nat} {e : TypeId} {g n cap : Nat} {l : List Int} {x : Int} (h : w.ownsRow base e 1 (.slice (some ⟨g, 0, none⟩) (n + 1) cap) (n + 1) (by8 (l ++ [x]))) (hn : l.length = n) : n + 1 ≤ cap := by
  obtain ⟨A, c, hv, hc, _⟩ := ownsRow_slice h
  injection hv with _ _ hv
  omega

theorem own_pre8 {w : World} {base : Nat} {e : TypeId} {g cap : Nat} {l m : List Int} (h : w.ownsRow base e 1 (.slice (some ⟨g, 0, none⟩) (l.length + m.length) cap) (l.length + m.length) (by8 (l ++ m))) :
    w.ownsRow base e 1 (.slice (some ⟨g, 0, none⟩) l.length cap) l.length (by8 l) := by
  have h2 := ownsRow_pre h (m := l.length) (by omega)
  rw [by8_take, List.take_left] at h2
  exact h2

/-- string(b) at bytes of this program. -/
theorem conv8 {w : World} {A : Option Addr} {l : List Int} (n c : Nat) (h : Rd w A (by8 l)) (hn : l.length = n) :
    (convert 52 9 (.slice A n c)).run Tryz.prog w = .ok (.string (strOfNums l)) w :=
  run_conv8 h n c hn Tryz.underlying52 Tryz.underlying5 Tryz.underlying9

end Go.Proofs.YthlijldapoeepaaGreat

/- The disk in plain lists, and where it lies in memory. -/

set_option maxRecDepth 100000
namespace Go.Proofs.YthlijldapoeepaaGreat.Dk
set_option linter.unusedVariables false
open Go.RowKit

/-! ### plain -/
/-- A disk: what is safe, what is read, the groups behind the safe. -/
structure DS where
  safe : List Int
  now : List Int
  gs : List (Nat × List Int)
  failing : Bool
  dead : Bool

def DS.n (D : DS) : Nat := D.safe.length / 256
/-- What every disk keeps. -/
structure DS.Ok (D : DS) : Prop where
  pos : 1 ≤ D.n
  most : D.n ≤ 4096
  len : D.safe.length = 256 * D.n
  lnow : D.now.length = 256 * D.n
  bs : isB D.safe
  bn : isB D.now
  gs : ∀ x ∈ D.gs, isB x.2 ∧ ∃ k, 1 ≤ k ∧ x.2.length = 256 * k ∧ x.1 + k ≤ D.n

def wrongD (m : Nat) (at_ n : Int) : Bool := decide (at_ < 0 ∨ n < 1 ∨ (m : Int) < n ∨ (m : Int) - n < at_)
theorem wrongD_no {m : Nat} {at_ n : Int} (h : wrongD m at_ n = false) : 0 ≤ at_ ∧ 1 ≤ n ∧ n ≤ m ∧ at_ ≤ m - n := by
  have := of_decide_eq_false h
  omega
/-- Bytes as whole sectors. -/
def secs (b : List Int) : Nat := (b.length + 255) / 256
def pad (b : List Int) : List Int := b ++ List.replicate (256 * secs b - b.length) 0
theorem pad_length (b : List Int) : (pad b).length = 256 * secs b := by unfold pad secs; simp; omega
theorem pad_isB {b : List Int} (h : isB b) : isB (pad b) := h.append (by intro x hx; rw [(List.mem_replicate.1 hx).2]; omega)

def newD (l : List Int) : DS := ⟨l, l, [], false, false⟩
def DS.put (D : DS) (at_ : Nat) (b : List Int) : DS := { D with now := splice D.now (256 * at_) b, gs := D.gs ++ [(at_, b)] }
/-- Write: the disk behind it, and the error. -/
def writeD (D : DS) (at_ : Int) (b : List Int) : DS := if D.dead = true then D else if wrongD D.n at_ (secs b) = true then D else D.put at_.toNat (pad b)
def writeE (D : DS) (at_ : Int) (b : List Int) : Int := if D.dead = true then 21 else if wrongD D.n at_ (secs b) = true then 1 else 0
def readD (D : DS) (at_ n : Int) : List Int := if wrongD D.n at_ n = true then [] else (D.now.drop (256 * at_.toNat)).take (256 * n.toNat)
def readE (D : DS) (at_ n : Int) : Int := if wrongD D.n at_ n = true then 1 else 0
def flushD (D : DS) : DS := if D.dead = true then D else if D.failing = true then { D with dead := true } else { D with safe := D.now, gs := [] }
def flushE (D : DS) : Int := if D.dead = true then 21 else if D.failing = true then 20 else 0
/-- Is sector k of a group kept? -/
def keptBit (x : Int) (k : Nat) : Bool := x / 2 ^ (k % 16) % 2 == 1
def crashG (x : Int) (at_ : Nat) (d : List Int) : Nat → List Int → List Int
  | 0, s => s
  | k + 1, s => let s' := crashG x at_ d k s
    if keptBit x k = true then splice s' (256 * (at_ + k)) ((d.drop (256 * k)).take 256) else s'
def crashL (kept : List Int) (gs : List (Nat × List Int)) : Nat → List Int → List Int
  | 0, s => s
  | i + 1, s => let s' := crashL kept gs i s
    match gs[i]?, kept[i]? with
    | some g, some x => crashG x g.1 g.2 (g.2.length / 256) s'
    | _, _ => s'
def crashD (D : DS) (kept : List Int) : DS := newD (crashL kept D.gs D.gs.length D.safe)
def failD (D : DS) : DS := { D with failing := true }

theorem by8_splice (l m : List Int) (o : Nat) : splice (by8 l) o (by8 m) = by8 (splice l o m) := by
  unfold splice
  rw [by8_take, by8_length, by8_drop, ← by8_append, ← by8_append]
theorem splice_zeros (l : List Int) (n : Nat) (h : l.length ≤ n) : splice (List.replicate n 0) 0 l = l ++ List.replicate (n - l.length) 0 := by
  unfold splice
  simp
theorem pad_splice (l : List Int) : splice (List.replicate (secs l * 256) 0) 0 l = pad l := by
  rw [splice_zeros _ _ (by unfold secs; omega)]
  unfold pad
  rw [Nat.mul_comm]
theorem splice_isB {l m : List Int} {o : Nat} (hl : isB l) (hm : isB m) : isB (splice l o m) := (hl.take _).append (hm.append (hl.drop _))
theorem put_ok {D : DS} (h : D.Ok) {a : Nat} {b : List Int} (hb : isB b) {k : Nat} (hk : 1 ≤ k) (hl : b.length = 256 * k) (hfit : a + k ≤ D.n) : (D.put a b).Ok := by
  refine ⟨h.pos, h.most, h.len, ?_, h.bs, splice_isB h.bn hb, fun x hx => ?_⟩
  · show (splice D.now (256 * a) b).length = 256 * D.n
    rw [length_splice _ _ _ (by rw [h.lnow]; omega)]
    exact h.lnow
  · rcases List.mem_append.1 hx with hx | hx
    · exact h.gs x hx
    · simp at hx
      subst hx
      exact ⟨hb, k, hk, hl, hfit⟩

/-! ### in memory -/
/-- The groups' cells. -/
def GAt (w : World) (R : Nat → Prop) : List (Nat × List Int) → List Value → Prop
  | [], vs => vs = []
  | g :: gs, vs => ∃ (b : Nat) (r : List Value), vs = .int .i64 g.1 :: .slice (some ⟨b, 0, none⟩) g.2.length g.2.length :: r ∧ Rd w (some ⟨b, 0, none⟩) (by8 g.2) ∧ R b ∧ GAt w R gs r

theorem GAt.length {w : World} {R : Nat → Prop} : ∀ {gs : List (Nat × List Int)} {vs : List Value}, GAt w R gs vs → vs.length = gs.length * 2
  | [], _, h => by cases h; rfl
  | g :: gs, _, ⟨b, r, e, _, _, h⟩ => by subst e; simp [h.length]; omega
theorem GAt.tr {w w' : World} {R F : Nat → Prop} (ht : Tr F w w') (hF : ∀ b, R b → ¬ F b) : ∀ {gs : List (Nat × List Int)} {vs : List Value}, GAt w R gs vs → GAt w' R gs vs
  | [], _, h => h
  | g :: gs, _, ⟨b, r, e, hr, hb, h⟩ => ⟨b, r, e, hr.tr ht (fun ad e => by injection e with e; subst e; exact hF _ hb), hb, h.tr ht hF⟩
theorem GAt.mono {w : World} {R S : Nat → Prop} (hS : ∀ b, R b → S b) : ∀ {gs : List (Nat × List Int)} {vs : List Value}, GAt w R gs vs → GAt w S gs vs
  | [], _, h => h
  | g :: gs, _, ⟨b, r, e, hr, hb, h⟩ => ⟨b, r, e, hr, hS b hb, h.mono hS⟩
theorem GAt.one {w : World} {R : Nat → Prop} : ∀ {gs : List (Nat × List Int)} {vs : List Value}, GAt w R gs vs → ∀ u ∈ vs, u.oneCell' = true
  | [], _, h => by cases h; intro u hu; cases hu
  | g :: gs, _, ⟨b, r, e, _, _, h⟩ => by
    subst e
    intro u hu
    rcases List.mem_cons.1 hu with rfl | hu
    · rfl
    · rcases List.mem_cons.1 hu with rfl | hu
      · rfl
      · exact h.one u hu
theorem GAt.snoc {w : World} {R : Nat → Prop} {b : Nat} {at_ : Nat} {d : List Int} (hr : Rd w (some ⟨b, 0, none⟩) (by8 d)) (hb : R b) :
    ∀ {gs : List (Nat × List Int)} {vs : List Value}, GAt w R gs vs → GAt w R (gs ++ [(at_, d)]) (vs ++ [.int .i64 at_, .slice (some ⟨b, 0, none⟩) d.length d.length])
  | [], _, h => by cases h; exact ⟨b, [], rfl, hr, hb, rfl⟩
  | g :: gs, _, ⟨b', r, e, hr', hb', h⟩ => by subst e; exact ⟨b', _, rfl, hr', hb', h.snoc hr hb⟩
theorem GAt.get {w : World} {R : Nat → Prop} : ∀ {gs : List (Nat × List Int)} {vs : List Value}, GAt w R gs vs → ∀ i (hi : i < gs.length),
    ∃ b, vs[2 * i]? = some (.int .i64 gs[i].1) ∧ vs[2 * i + 1]? = some (.slice (some ⟨b, 0, none⟩) gs[i].2.length gs[i].2.length) ∧ Rd w (some ⟨b, 0, none⟩) (by8 gs[i].2) ∧ R b
  | [], _, _, i, hi => by cases hi
  | g :: gs, _, ⟨b, r, e, hr, hb, h⟩, 0, _ => by subst e; exact ⟨b, rfl, rfl, hr, hb⟩
  | g :: gs, _, ⟨b, r, e, hr, hb, h⟩, i + 1, hi => by
    subst e
    obtain ⟨b', h1, h2, h3⟩ := h.get i (by simpa using hi)
    refine ⟨b', ?_, ?_, h3⟩
    · rw [show 2 * (i + 1) = 2 * i + 1 + 1 from by omega, List.getElem?_cons_succ, List.getElem?_cons_succ]; exact h1
    · rw [show 2 * (i + 1) + 1 = 2 * i + 1 + 1 + 1 from by omega, List.getElem?_cons_succ, List.getElem?_cons_succ]; exact h2

/-- A disk at block g: M: the blocks that its calls may write; R: those of its groups' bytes, which nobody writes. -/
structure DAt (w : World) (g : Nat) (D : DS) (M R : Nat → Prop) (bs cs bn cn : Nat) (Al : Option Addr) (cl : Nat) (cells : List Value) : Prop where
  ok : D.Ok
  blk : Blk w g 89 #[.slice (some ⟨bs, 0, none⟩) D.safe.length cs, .slice (some ⟨bn, 0, none⟩) D.now.length cn, .slice Al D.gs.length cl, .bool D.failing, .bool D.dead]
  safe : w.ownsRow 0 5 1 (.slice (some ⟨bs, 0, none⟩) D.safe.length cs) D.safe.length (by8 D.safe)
  now : w.ownsRow 0 5 1 (.slice (some ⟨bn, 0, none⟩) D.now.length cn) D.now.length (by8 D.now)
  row : w.ownsRow 0 91 2 (.slice Al D.gs.length cl) D.gs.length cells
  gat : GAt w R D.gs cells
  ne : bs ≠ bn
  mg : M g
  ms : M bs
  mn : M bn
  ml : ∀ b, Blo Al b → M b
  rm : ∀ b, R b → ¬ M b
  few : D.gs.length ≤ 1000000
  mlt : ∀ b, M b → b < w.heap.size
  rlt : ∀ b, R b → b < w.heap.size
def IsDisk (w : World) (g : Nat) (D : DS) (M R : Nat → Prop) : Prop := ∃ bs cs bn cn Al cl cells, DAt w g D M R bs cs bn cn Al cl cells

theorem DAt.tr {w w' : World} {g : Nat} {D : DS} {M R F : Nat → Prop} {bs cs bn cn : Nat} {Al : Option Addr} {cl : Nat} {cells : List Value} (h : DAt w g D M R bs cs bn cn Al cl cells) (ht : Tr F w w') (hM : ∀ b, M b → ¬ F b) (hR : ∀ b, R b → ¬ F b) :
    DAt w' g D M R bs cs bn cn Al cl cells :=
  ⟨h.ok, ht.blk h.blk (hM _ h.mg), own_tr h.safe ht (fun b hb => hM _ (by have := (Blo.some_iff _ _).1 hb; exact this ▸ h.ms)), own_tr h.now ht (fun b hb => hM _ (by have := (Blo.some_iff _ _).1 hb; exact this ▸ h.mn)),
    own_tr h.row ht (fun b hb => hM _ (h.ml b hb)), h.gat.tr ht hR, h.ne, h.mg, h.ms, h.mn, h.ml, h.rm, h.few, fun b x => Nat.lt_of_lt_of_le (h.mlt b x) ht.size, fun b x => Nat.lt_of_lt_of_le (h.rlt b x) ht.size⟩
theorem IsDisk.tr {w w' : World} {g : Nat} {D : DS} {M R F : Nat → Prop} (h : IsDisk w g D M R) (ht : Tr F w w') (hM : ∀ b, M b → ¬ F b) (hR : ∀ b, R b → ¬ F b) : IsDisk w' g D M R := by
  obtain ⟨bs, cs, bn, cn, Al, cl, cells, h⟩ := h
  exact ⟨bs, cs, bn, cn, Al, cl, cells, h.tr ht hM hR⟩
theorem IsDisk.below {w w' : World} {g : Nat} {D : DS} {M R : Nat → Prop} (h : IsDisk w g D M R) (hb : Below w.heap.size w w') : IsDisk w' g D M R :=
  h.tr (Tr.of_below (F := NoB) hb) (fun _ _ => id) (fun _ _ => id)
theorem IsDisk.mlt {w : World} {g : Nat} {D : DS} {M R : Nat → Prop} (h : IsDisk w g D M R) : ∀ b, M b → b < w.heap.size := by
  obtain ⟨bs, cs, bn, cn, Al, cl, cells, h⟩ := h
  exact h.mlt
theorem IsDisk.rlt {w : World} {g : Nat} {D : DS} {M R : Nat → Prop} (h : IsDisk w g D M R) : ∀ b, R b → b < w.heap.size := by
  obtain ⟨bs, cs, bn, cn, Al, cl, cells, h⟩ := h
  exact h.rlt
theorem IsDisk.rm {w : World} {g : Nat} {D : DS} {M R : Nat → Prop} (h : IsDisk w g D M R) : ∀ b, R b → ¬ M b := by
  obtain ⟨bs, cs, bn, cn, Al, cl, cells, h⟩ := h
  exact h.rm
theorem IsDisk.ok {w : World} {g : Nat} {D : DS} {M R : Nat → Prop} (h : IsDisk w g D M R) : D.Ok := by
  obtain ⟨bs, cs, bn, cn, Al, cl, cells, h⟩ := h
  exact h.ok
theorem DAt.ne1 {w : World} {g : Nat} {D : DS} {M R : Nat → Prop} {bs cs bn cn : Nat} {Al : Option Addr} {cl : Nat} {cells : List Value} (h : DAt w g D M R bs cs bn cn Al cl cells) : bs ≠ g := fun e =>
  own_blk h.safe h.blk (by decide) (by rw [e]; rfl)
theorem DAt.ne2 {w : World} {g : Nat} {D : DS} {M R : Nat → Prop} {bs cs bn cn : Nat} {Al : Option Addr} {cl : Nat} {cells : List Value} (h : DAt w g D M R bs cs bn cn Al cl cells) : bn ≠ g := fun e =>
  own_blk h.now h.blk (by decide) (by rw [e]; rfl)
theorem DAt.ne3 {w : World} {g : Nat} {D : DS} {M R : Nat → Prop} {bs cs bn cn : Nat} {Al : Option Addr} {cl : Nat} {cells : List Value} (h : DAt w g D M R bs cs bn cn Al cl cells) : ¬ Blo Al g :=
  own_blk h.row h.blk (by decide)

end Go.Proofs.YthlijldapoeepaaGreat.Dk

/- make of bytes. -/

namespace Go.Proofs.YthlijldapoeepaaGreat
set_option linter.unusedVariables false
set_option maxRecDepth 100000
open Go.RowKit

theorem run_make8 (n : Nat) (k : Int) (hk : k = (n : Int)) (hn : n ≤ 65536) (w : World) :
    (Instr.makeSlice 52 (.int .i64 k) (.int .i64 k)).run Tryz.prog w = .ok (.slice (some ⟨w.heap.size, 0, none⟩) n n) (w.alloc (.cells (Array.replicate n (.int .u8 0)) 5)) := by
  subst hk
  obtain ⟨i0, hi, hz0, hz1, hz2⟩ := info_parts infoU8
  have hr := run_make (P := Tryz.prog) w 52 5 i0 _ Tryz.underlying52 hi hz0 .i64 .i64 n n (by omega) (by omega) (by rw [hz2]; omega) (by omega)
  simp only [Int.toNat_natCast] at hr
  rw [hr, hz1, Nat.mul_one]
  congr 4
  apply Array.ext'
  rw [show (Value.int IntKind.u8 0).cells = #[.int .u8 0] from rfl, toList_madeCells_one]
  simp

theorem Rd.zeros (w : World) (n : Nat) (t : TypeId) : Rd (w.alloc (.cells (Array.replicate n (.int .u8 0)) t)) (some ⟨w.heap.size, 0, none⟩) (by8 (List.replicate n 0)) := by
  have h := Rd.newN w t (Array.replicate n (.int .u8 0))
  rw [Array.toList_replicate] at h
  rw [by8, List.map_replicate]
  exact h
theorem own_zeros (w : World) (n : Nat) (hn : n ≤ maxLen) : (w.alloc (.cells (Array.replicate n (.int .u8 0)) 5)).ownsRow w.heap.size 5 1 (.slice (some ⟨w.heap.size, 0, none⟩) n n) n (by8 (List.replicate n 0)) := by
  have h := World.ownsRow_lit (w := w) (e := 5) (size := 1) (base := w.heap.size) (Array.replicate n (.int .u8 0)) n (Nat.le_refl _) hn (by simp)
  rw [Array.toList_replicate] at h
  rw [by8, List.map_replicate]
  exact h

theorem sizes1 : (Tryz.prog.info? 5).map (·.size) = some 1 := by kernel_rfl
end Go.Proofs.YthlijldapoeepaaGreat

/- Contracts of the program's package disk: Load, New, Size, Image, Now, Pending, Dead, Fail, wrong, part, Read. -/

set_option maxRecDepth 100000
namespace Go.Proofs.YthlijldapoeepaaGreat.Dk
set_option linter.unusedVariables false
open Go.RowKit

def loadOk (l : List Int) : Prop := l.length % 256 = 0 ∧ 256 ≤ l.length ∧ l.length ≤ 1048576
instance (l : List Int) : Decidable (loadOk l) := by unfold loadOk; infer_instance
theorem newD_ok {l : List Int} (h : loadOk l) (hB : isB l) : (newD l).Ok := by
  obtain ⟨h1, h2, h3⟩ := h
  have e : (newD l).n = l.length / 256 := rfl
  exact ⟨by rw [e]; omega, by rw [e]; omega, by rw [e]; show l.length = _; omega, by rw [e]; show l.length = _; omega, hB, hB, fun x hx => by cases hx⟩

/-- A disk is answered, in new memory, with no error. -/
def RetDisk (w : World) (D : DS) (e : Ending) (w' : World) : Prop :=
  ∃ g M, e = .returned (.tuple #[.pointer (some ⟨g, 0, none⟩), .int .i64 0]) ∧ IsDisk w' g D M NoB ∧ (∀ b, M b → w.heap.size ≤ b) ∧ Below w.heap.size w w'
/-- No disk, and ErrArg. -/
def RetNoDisk (w : World) (e : Ending) (w' : World) : Prop := e = .returned (.tuple #[.pointer none, .int .i64 1]) ∧ Below w.heap.size w w'

set_option maxHeartbeats 400000 in
theorem load_ok (A : Option Addr) (c : Nat) (l : List Int) (w : World) (hr : Rd w A (by8 l)) (hB : isB l) (h : loadOk l) : Calls Tryz.prog 25 #[.slice A l.length c] w (RetDisk w (newD l)) := by
  have HR := Lib.hid hr
  have OKD := Lib.hid (newD_ok h hB)
  obtain ⟨h1, h2, h3⟩ := h
  obtain ⟨k, hk⟩ : ∃ k, l.length = 256 * k := ⟨l.length / 256, by omega⟩
  have hq : (l.length : Int) / 256 * 256 = l.length := by omega
  have hne : ((l.length : Int) / 256 * 256 != l.length) = false := by simp [hq]
  have HK := Lib.hid hk
  have hb1 : 1 ≤ (l.length : Int) / 256 := by omega
  have hb2 : (l.length : Int) / 256 ≤ 4096 := by omega
  clear hr h1 hk hq
  go_enter Tryz.func25, Tryz.ntmps25
  go_wp2_with (first
    | (go_at_call 47; (with_reducible refine (clone_any A c l _ HR.out (by omega)).mono ?_); rintro e w1 ⟨A1, c1, rfl, hc1, ho1, hb1⟩; have HR1 := Lib.hid (HR.out.below hb1); have HO1 := Lib.hid ho1; have HB1 := Lib.hid hb1; clear ho1 hb1)
    | (go_at_call 47; (with_reducible refine (clone_any A c l _ HR1.out (by omega)).mono ?_); rintro e w2 ⟨A2, c2, rfl, hc2, ho2, hb2⟩; have HO2 := Lib.hid ho2; have HB2 := Lib.hid hb2; clear ho2 hb2))
  go_ret2
  obtain ⟨g1, rfl⟩ := ownsRow_addr HO1.out (by omega)
  obtain ⟨g2, rfl⟩ := ownsRow_addr HO2.out (by omega)
  have lo1 := own_ge HO1.out g1 rfl
  have lt1 := own_lt HO1.out g1 rfl
  have lo2 := own_ge HO2.out g2 rfl
  have hz1 := HB1.out.size
  have hz2 := HB2.out.size
  have lt2 := own_lt HO2.out g2 rfl
  refine ⟨w2.heap.size, fun b => b = w2.heap.size ∨ b = g1 ∨ b = g2, rfl, ⟨g1, c1, g2, c2, none, 0, [], OKD.out, Blk.new _ _ _, ?_, ?_, ownsRow_emp _ _ _ _, rfl, by omega, .inl rfl, .inr (.inl rfl), .inr (.inr rfl), fun b hb => (Blo.none b hb).elim, fun b hb => hb.elim, by simp [newD], ?_, fun b hb => hb.elim⟩, ?_, bl_chain HB1.out (bl_chain HB2.out (bl_alloc _ _))⟩
  · exact ownsRow_base (own_below (B := 0) (own_below (B := 0) HO1.out HB2.out) (bl_alloc _ _)) (by omega)
  · exact ownsRow_base (own_below (B := 0) HO2.out (bl_alloc _ _)) (by omega)
  · rintro b (rfl | rfl | rfl)
    · simp
    · simp; omega
    · simp; omega
  · rintro b (rfl | rfl | rfl)
    · omega
    · exact lo1
    · omega

set_option maxHeartbeats 400000 in
theorem load_bad (A : Option Addr) (c : Nat) (l : List Int) (w : World) (hl : l.length ≤ 140737488355328) (h : ¬ loadOk l) : Calls Tryz.prog 25 #[.slice A l.length c] w (RetNoDisk w) := by
  have hcase : l.length % 256 ≠ 0 ∨ (l.length % 256 = 0 ∧ l.length < 256) ∨ (l.length % 256 = 0 ∧ 256 ≤ l.length ∧ 1048576 < l.length) := by
    unfold loadOk at h; omega
  clear h
  rcases hcase with h1 | ⟨h1, h2⟩ | ⟨h1, h2, h3⟩
  · have hne : ((l.length : Int) / 256 * 256 != l.length) = true := by simp; omega
    clear h1
    go_enter Tryz.func25, Tryz.ntmps25
    go_wp2_with fail
    go_ret2
    exact ⟨rfl, Below.refl _ _⟩
  · have hq : (l.length : Int) / 256 * 256 = l.length := by omega
    have hne : ((l.length : Int) / 256 * 256 != l.length) = false := by simp [hq]
    have hb : (l.length : Int) / 256 < 1 := by omega
    clear h1 hq
    go_enter Tryz.func25, Tryz.ntmps25
    go_wp2_with fail
    go_ret2
    exact ⟨rfl, Below.refl _ _⟩
  · have hq : (l.length : Int) / 256 * 256 = l.length := by omega
    have hne : ((l.length : Int) / 256 * 256 != l.length) = false := by simp [hq]
    have hb1 : 1 ≤ (l.length : Int) / 256 := by omega
    have hb : 4096 < (l.length : Int) / 256 := by omega
    clear h1 hq
    go_enter Tryz.func25, Tryz.ntmps25
    go_wp2_with fail
    go_ret2
    exact ⟨rfl, Below.refl _ _⟩

/-- make([]byte, n), n a letter. -/
theorem run_make8n (n : Nat) (hn : n ≤ 140737488355328) (w : World) :
    (Instr.makeSlice 52 (.int .i64 (n : Int)) (.int .i64 (n : Int))).run Tryz.prog w = .ok (.slice (some ⟨w.heap.size, 0, none⟩) n n) (w.alloc (.cells (Array.replicate n (.int .u8 0)) 5)) := by
  obtain ⟨i0, hi, hz0, hz1, hz2⟩ := info_parts infoU8
  have hr := run_make (P := Tryz.prog) w 52 5 i0 _ Tryz.underlying52 hi hz0 .i64 .i64 n n (by omega) (by omega) (by rw [hz2]; omega) (by omega)
  simp only [Int.toNat_natCast] at hr
  rw [hr, hz1, Nat.mul_one]
  congr 4
  apply Array.ext'
  rw [show (Value.int IntKind.u8 0).cells = #[.int .u8 0] from rfl, toList_madeCells_one]
  simp
theorem own_zeros (w : World) (n : Nat) (hn : n ≤ maxLen) : (w.alloc (.cells (Array.replicate n (.int .u8 0)) 5)).ownsRow w.heap.size 5 1 (.slice (some ⟨w.heap.size, 0, none⟩) n n) n (by8 (List.replicate n 0)) := by
  have h := World.ownsRow_lit (w := w) (e := 5) (size := 1) (base := w.heap.size) (Array.replicate n (.int .u8 0)) n (Nat.le_refl _) hn (by simp)
  rw [Array.toList_replicate] at h
  rw [by8, List.map_replicate]
  exact h
theorem zeros_isB (n : Nat) : isB (List.replicate n 0) := fun x hx => by rw [(List.mem_replicate.1 hx).2]; omega

set_option maxHeartbeats 400000 in
theorem new_ok (n : Nat) (w : World) (h1 : 1 ≤ n) (h2 : n ≤ 4096) : Calls Tryz.prog 7 #[.int .i64 n] w (RetDisk w (newD (List.replicate (n * 256) 0))) := by
  have hmk := run_make8n (n * 256) (by omega)
  have hcast : ((n * 256 : Nat) : Int) = (n : Int) * 256 := by omega
  rw [hcast] at hmk
  have HRD := Lib.hid (Rd.zeros w (n * 256) 5)
  have LK : Hid (loadOk (List.replicate (n * 256) 0)) := Lib.hid (by unfold loadOk; rw [List.length_replicate]; omega)
  have hl : ∀ (A : Option Addr) (c : Nat) (w : World), Rd w A (by8 (List.replicate (n * 256) 0)) → Calls Tryz.prog 25 #[.slice A (n * 256) c] w (RetDisk w (newD (List.replicate (n * 256) 0))) := fun A c w hr => by
    have h := load_ok A c _ w hr (zeros_isB _) LK.out
    rw [List.length_replicate] at h
    exact h
  have HL := Lib.hid hl
  clear hcast hl
  go_enter Tryz.func7, Tryz.ntmps7
  go_wp2_with (first
    | (go_at_call 25; (with_reducible refine (HL.out _ _ _ HRD.out).mono ?_); rintro e w1 ⟨g, M, rfl, hd, hm, hb⟩; have HD := Lib.hid hd; have HM := Lib.hid hm; have HB := Lib.hid hb; clear hd hb hm))
  go_ret2
  exact ⟨g, M, rfl, HD.out, fun b hb => by have := HM.out b hb; simp at this; omega, bl_chain (bl_alloc w _) HB.out⟩

theorem new_bad (n : Int) (w : World) (h : ¬ (1 ≤ n ∧ n ≤ 4096)) : Calls Tryz.prog 7 #[.int .i64 n] w (RetNoDisk w) := by
  by_cases h1 : n < 1
  · clear h
    go_enter Tryz.func7, Tryz.ntmps7
    go_wp2_with fail
    go_ret2
    exact ⟨rfl, Below.refl _ _⟩
  · have h2 : 4096 < n := by omega
    clear h
    go_enter Tryz.func7, Tryz.ntmps7
    go_wp2_with fail
    go_ret2
    exact ⟨rfl, Below.refl _ _⟩

section
variable {g : Nat} {D : DS} {M R : Nat → Prop} {w : World}
theorem size_any (hd : IsDisk w g D M R) : Calls Tryz.prog 26 #[.pointer (some ⟨g, 0, none⟩)] w fun e w' => e = .returned (.int .i64 D.n) ∧ w = w' := by
  obtain ⟨bs, cs, bn, cn, Al, cl, cells, h⟩ := hd
  have c0 := h.blk.cell 0
  have hn : (D.n : Int) = (D.safe.length : Int) / 256 := by unfold DS.n; omega
  have hl : D.safe.length ≤ 140737488351232 := by have := h.ok.len; have := h.ok.most; omega
  rw [hn]
  clear hn
  simp at c0
  go_enter Tryz.func26, Tryz.ntmps26
  go_wp2_with fail
  go_ret
  exact ⟨rfl, rfl⟩
theorem fail_any (hd : IsDisk w g D M R) : Calls Tryz.prog 17 #[.pointer (some ⟨g, 0, none⟩)] w fun e w' => e = .returned (.int .i64 0) ∧ IsDisk w' g (failD D) M R ∧ Tr M w w' := by
  obtain ⟨bs, cs, bn, cn, Al, cl, cells, h⟩ := hd
  have c0 := h.blk.cell 3
  have f0 := h.blk.frozen 3
  simp at c0
  have HH := Lib.hid h
  clear h
  go_enter Tryz.func17, Tryz.ntmps17
  go_wp2_with fail
  go_ret
  have h := HH.out
  have ht : Tr (fun b => b = g) w (w.setCell ⟨g, 3, none⟩ (.bool true)) := (Tr.refl (fun b => b = g) w).setCell (p := ⟨g, 3, none⟩) (fun _ => rfl) _
  have e1 := h.ne1
  have e2 := h.ne2
  have e3 := h.ne3
  refine ⟨rfl, ⟨bs, cs, bn, cn, Al, cl, cells, ⟨h.ok.pos, h.ok.most, h.ok.len, h.ok.lnow, h.ok.bs, h.ok.bn, h.ok.gs⟩, h.blk.set_ 3 (.bool true), ?_, ?_, ?_, ?_, h.ne, h.mg, h.ms, h.mn, h.ml, h.rm, h.few, fun b x => Nat.lt_of_lt_of_le (h.mlt b x) ht.size, fun b x => Nat.lt_of_lt_of_le (h.rlt b x) ht.size⟩, ht.mono (fun b _ e => e ▸ h.mg)⟩
  · exact own_tr h.safe ht (fun b hb e => e1 (((Blo.some_iff _ _).1 hb).trans e))
  · exact own_tr h.now ht (fun b hb e => e2 (((Blo.some_iff _ _).1 hb).trans e))
  · exact own_tr h.row ht (fun b hb e => e3 (e ▸ hb))
  · exact h.gat.tr ht (fun b hb e => h.rm b hb (e ▸ h.mg))
end

end Go.Proofs.YthlijldapoeepaaGreat.Dk
