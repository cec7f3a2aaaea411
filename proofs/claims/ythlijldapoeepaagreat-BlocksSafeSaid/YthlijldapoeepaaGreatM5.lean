/- A region that draws its order, op by op: what only reads is taken first, under 'the world extends the last one'. -/
import Derived.Test.YthlijldapoeepaaGreatM1
import Derived.Deep.RegionHeld3
import Derived.RangeFuncNested
import Derived.RangeFuncBound
import Derived.RangeFuncCalls
import Derived.RangeFuncLeaves
import Derived.RangeFuncFrom
import Derived.RangeFuncOne
import Derived.OwnWalkIn
import Derived.TacticsInMore
import Derived.Test.YthlijldapoeepaaGreatM2
import Derived.IntWalk
import Derived.Test.YthlijldapoeepaaGreatM4
import Derived.Maps.OwnSet
import Derived.Maps.Views
import Derived.Maps.Ext
namespace Go.Proofs.YthlijldapoeepaaGreat
set_option linter.unusedVariables false
open Go.RowKit

/-- The world extends w0. -/
def Ext (w0 : World) : World → Prop := fun W => Below w0.heap.size w0 W
theorem Ext.refl (w : World) : Ext w w := Below.refl _ _

section
variable {P : Program} {ops : Array Oper} {Q : Exit → Act → World → Prop} {md : Region.Mode} {S S' : World → Prop}
theorem wpAnyH_mono (hS : ∀ w, S w → S' w) : ∀ (fuel : Nat) (listed : Array Bool) (a : Act) (w : World), wpAnyH P md ops Q S fuel listed a w → wpAnyH P md ops Q S' fuel listed a w
  | 0, _, _, _, h => h
  | fuel + 1, _, _, _, h => ⟨h.1, fun i hi => wpOp_mono (fun a' w' h' => ⟨hS _ h'.1, wpAnyH_mono hS fuel _ a' w' h'.2⟩) (h.2 i hi)⟩

theorem ext_start {id : Nat} {a : Act} {w : World} (hm : P.follows .mixedOrders = true)
    (h : wpAnyH P .any ops Q (Ext w.drew) ops.size (Array.replicate ops.size false) a w.drew) : (Code.region id ops true).wp P Q a w :=
  wp_region_held hm h
theorem drop_at {α : Type} {ops : Array α} {i : Nat} {o : α} {r : List α} (h : ops.toList.drop i = o :: r) : ops[i]? = some o := by
  have h1 : (ops.toList.drop i)[0]? = some o := by rw [h]; rfl
  rw [List.getElem?_drop] at h1
  simpa using h1
theorem ext_take {i : Nat} {rs : List Oper} {oi : Oper} {v : Value} {fuel : Nat} {listed : Array Bool} {a : Act} {w : World} (hi : ops.toList.drop i = oi :: rs)
    (hs : Region.noSelect ops = true) (hf : Region.free md ops listed i = true) (hr : (Region.ready md ops listed).contains i = true)
    (hQ : ∀ c a w, Q (.panic c) (a.put oi.dst v) w → Q (.panic c) a w) (hy : YieldsIf P ops (Ext w) oi v a)
    (h : wpAnyH P md ops Q (Ext w) fuel (listed.setIfInBounds i true) (a.put oi.dst v) w) : wpAnyH P md ops Q (Ext w) (fuel + 1) listed a w :=
  wpAnyH_take (drop_at hi) hs hf hr hQ hy (Ext.refl w) h
theorem ext_call {i : Nat} {rs : List Oper} {oi : Oper} {fuel : Nat} {listed : Array Bool} {a : Act} {w : World} (hr : Region.ready md ops listed = [i]) (hi : ops.toList.drop i = oi :: rs)
    (h : ∀ K' : Act → World → Prop, Shut (∀ a w', Below w.heap.size w w' → wpAnyH P md ops Q (Ext w') fuel (listed.setIfInBounds i true) a w' → K' a w') →
      if Region.wanted oi (yielded ops a.tmps) = true then Oper.wp P oi a w K' Q else K' (a.put oi.dst undef) w) : wpAnyH P md ops Q (Ext w) (fuel + 1) listed a w := by
  refine wpAnyH_ready (rs := [i]) hr (by simp) ?_
  refine AllReadyH.cons (drop_at hi) (fun K hK => ?_) AllReadyH.nil
  refine h K (fun a w' hb hW => hK a w' hb (fun _ => ?_))
  exact wpAnyH_mono (fun W hw => bl_chain hb hw) _ _ _ _ hW
/-- A call's way that may write what lies above w0. -/
theorem ext_call0 {i : Nat} {rs : List Oper} {oi : Oper} {fuel : Nat} {listed : Array Bool} {a : Act} {w0 w : World} (hr : Region.ready md ops listed = [i]) (hi : ops.toList.drop i = oi :: rs)
    (h : ∀ K' : Act → World → Prop, Shut (∀ a w', Below w0.heap.size w0 w' → wpAnyH P md ops Q (Ext w0) fuel (listed.setIfInBounds i true) a w' → K' a w') →
      if Region.wanted oi (yielded ops a.tmps) = true then Oper.wp P oi a w K' Q else K' (a.put oi.dst undef) w) : wpAnyH P md ops Q (Ext w0) (fuel + 1) listed a w := by
  refine wpAnyH_ready (rs := [i]) hr (by simp) ?_
  refine AllReadyH.cons (drop_at hi) (fun K hK => ?_) AllReadyH.nil
  exact h K (fun a w' hb hW => hK a w' hb (fun _ => hW))
theorem ext_start0 {id : Nat} {a : Act} {w0 w : World} (hm : P.follows .mixedOrders = true)
    (h : wpAnyH P .any ops Q (Ext w0) ops.size (Array.replicate ops.size false) a w.drew) : (Code.region id ops true).wp P Q a w :=
  wp_region_held hm h
theorem ext_take0 {i : Nat} {rs : List Oper} {oi : Oper} {v : Value} {fuel : Nat} {listed : Array Bool} {a : Act} {w0 w : World} (hw : Ext w0 w) (hi : ops.toList.drop i = oi :: rs)
    (hs : Region.noSelect ops = true) (hf : Region.free md ops listed i = true) (hr : (Region.ready md ops listed).contains i = true)
    (hQ : ∀ c a w, Q (.panic c) (a.put oi.dst v) w → Q (.panic c) a w) (hy : YieldsIf P ops (Ext w0) oi v a)
    (h : wpAnyH P md ops Q (Ext w0) fuel (listed.setIfInBounds i true) (a.put oi.dst v) w) : wpAnyH P md ops Q (Ext w0) (fuel + 1) listed a w :=
  wpAnyH_take (drop_at hi) hs hf hr hQ hy hw h
theorem ext_rebase {w0 W : World} (hb : Below w0.heap.size w0 W) {fuel : Nat} {listed : Array Bool} {a : Act} (h : wpAnyH P md ops Q (Ext W) fuel listed a W) : wpAnyH P md ops Q (Ext w0) fuel listed a W :=
  wpAnyH_mono (fun _ hw => bl_chain hb hw) _ _ _ _ h
end
end Go.Proofs.YthlijldapoeepaaGreat

/- A region of a loop's body, inside a round of a range over a function, walked as a plain region. No program in sight. -/

namespace Go.Proofs.YthlijldapoeepaaGreat
set_option linter.unusedVariables false
open Go.RowKit

section
variable {P : Program} {ops : Array Oper} {Q : Exit → Act → World → Prop} {S : World → Prop} {md : Region.Mode} {l n : Nat}
def noDefer (o : Oper) : Bool := match o.op with | .defer _ => false | _ => true
theorem noDefer_ne {o : Oper} (h : noDefer o = true) : ∀ c, o.op ≠ .defer c := fun c e => by simp [noDefer, e] at h
theorem rows_in {row : String} {args : Array Value} {w : World} {R : Value → World → Prop} (h : Rows P row args w R) : RowsIn (Fence.wide.inRound l) n P row args w R := fun c cs _ => by
  obtain ⟨v, w', r, s⟩ := h c cs
  exact ⟨v, w', r, stepsIn_wide.2 s⟩
theorem oper_in {o : Oper} {a : Act} {w : World} {K : Act → World → Prop} (hd : noDefer o = true) (h : o.wp P a w K Q) : o.wpIn (Fence.wide.inRound l) n P a w K Q := by
  refine ⟨fun f _ => trivial, ?_⟩
  rw [show (Fence.wide.inRound l).round = some l from rfl, Oper.semAt_some l _ _ (noDefer_ne hd)]
  unfold Oper.wp at h
  cases hr : (execOp a.eval o).run P w with
  | ok v w' =>
    rw [hr] at h
    cases v with
    | value v => exact h
    | skip => exact h
    | defer d => exact h
    | enter f args => exact ⟨fun hx => (by cases hx), CallsIn.inRound l (callsIn_wide.2 h)⟩
    | row row args => exact ⟨fun hx => (by cases hx), rows_in h⟩
    | _ => exact h.elim
  | halt hl w' =>
    rw [hr] at h
    cases hl with
    | panic v => exact h
    | _ => exact h.elim
theorem op_in (hnd : ∀ o ∈ ops.toList, noDefer o = true) (hQ : ¬ LetsOut Q) {i : Nat} {K : Act → World → Prop} {a : Act} {w : World} (h : wpOp P ops Q i K a w) : wpOpIn (Fence.wide.inRound l) n P ops Q i K a w := by
  unfold wpOp at h
  unfold wpOpIn
  cases ho : ops[i]? with
  | none => rw [ho] at h; exact h
  | some o =>
    rw [ho] at h
    have hm : o ∈ ops.toList := by
      obtain ⟨hlt, he⟩ := Array.getElem?_eq_some_iff.1 ho
      rw [← he]
      simp
    dsimp only at h ⊢
    split
    · rename_i hw
      rw [if_pos hw] at h
      rcases h with h | h
      · exact oper_in (hnd o hm) h
      · exact (hQ h.2).elim
    · rename_i hw
      rw [if_neg hw] at h
      exact ⟨fun f _ => trivial, h⟩
theorem any_in (hnd : ∀ o ∈ ops.toList, noDefer o = true) (hQ : ¬ LetsOut Q) : ∀ (fuel : Nat) (listed : Array Bool) (a : Act) (w : World), wpAny P md ops Q fuel listed a w → wpAnyIn (Fence.wide.inRound l) n P md ops Q fuel listed a w
  | 0, _, _, _, h => h
  | fuel + 1, _, _, _, h => ⟨h.1, fun i hi => op_in hnd hQ (wpOp_mono (fun a' w' h' => any_in hnd hQ fuel _ a' w' h') (h.2 i hi))⟩
/-- A region that draws, inside a round. -/
theorem in_ext_start {id : Nat} {a : Act} {w : World} (hm : P.follows .mixedOrders = true) (hnd : ∀ o ∈ ops.toList, noDefer o = true) (hQ : ¬ LetsOut Q)
    (h : wpAnyH P .any ops Q S ops.size (Array.replicate ops.size false) a w.drew) : (Code.region id ops true).wpIn (Fence.wide.inRound l) n P Q a w :=
  wpIn_region_any hm (any_in hnd hQ _ _ _ _ (wpAny_of_held _ _ _ _ h))
/-- .. way by way. -/
theorem in_any_start {id : Nat} {a : Act} {w : World} (hm : P.follows .mixedOrders = true) (hnd : ∀ o ∈ ops.toList, noDefer o = true) (hQ : ¬ LetsOut Q)
    (h : wpAny P .any ops Q ops.size (Array.replicate ops.size false) a w.drew) : (Code.region id ops true).wpIn (Fence.wide.inRound l) n P Q a w :=
  wpIn_region_any hm (any_in hnd hQ _ _ _ _ h)
theorem list_in (hQ : ¬ LetsOut Q) : ∀ (rest : List Oper) (hnd : ∀ o ∈ rest, noDefer o = true) (a : Act) (w : World), wpList P ops Q rest a w → wpListIn (Fence.wide.inRound l) n P ops Q rest a w
  | [], _, _, _, h => h
  | o :: rest, hnd, a, w, h => by
    unfold wpList at h
    unfold wpListIn
    have ih : ∀ a w, wpList P ops Q rest a w → wpListIn (Fence.wide.inRound l) n P ops Q rest a w := fun a w => list_in hQ rest (fun o ho => hnd o (by simp [ho])) a w
    split
    · rename_i hw
      rw [if_pos hw] at h
      rcases h with h | h
      · exact oper_in (hnd o (by simp)) (Oper.wp_mono ih h)
      · exact (hQ h.2).elim
    · rename_i hw
      rw [if_neg hw] at h
      exact ⟨fun f _ => trivial, ih _ _ h⟩
end
end Go.Proofs.YthlijldapoeepaaGreat

/- Contracts: field.Get at the front, and the reference's: numbers of two or four bytes. -/

namespace Go.Proofs.YthlijldapoeepaaGreat
set_option linter.unusedVariables false
set_option maxRecDepth 100000
open Go.RowKit

/-- The number that bytes say. -/
def unb (l : List Int) : Int := l.foldl (fun n x => n * 256 + x) 0
theorem unb_snoc (l : List Int) (x : Int) : unb (l ++ [x]) = unb l * 256 + x := by simp [unb]
theorem unb_take (l : List Int) (k : Nat) (h : k < l.length) : unb (l.take (k + 1)) = unb (l.take k) * 256 + l[k] := by
  rw [List.take_succ_eq_append_getElem h, unb_snoc]
theorem unb_range {l : List Int} (hB : isB l) : ∀ k, k ≤ l.length → 0 ≤ unb (l.take k) ∧ unb (l.take k) < 256 ^ k
  | 0, _ => by simp [unb]
  | k + 1, h => by
    obtain ⟨h0, h1⟩ := unb_range hB k (by omega)
    have hx := hB l[k] (List.getElem_mem (by omega))
    rw [unb_take l k (by omega), Int.pow_succ]
    omega
theorem or_low (n x : Int) (h0 : 0 ≤ n) (h1 : n < 72057594037927936) (hx0 : 0 ≤ x) (hx1 : x < 256) : bits .or .u64 (n * 256) x = n * 256 + x := by
  obtain ⟨N, rfl⟩ := Int.eq_ofNat_of_zero_le h0
  obtain ⟨X, rfl⟩ := Int.eq_ofNat_of_zero_le hx0
  have hor : N * 256 ||| X = N * 256 + X := by
    have := Nat.two_pow_add_eq_or_of_lt (i := 8) (b := X) (by omega) N
    rw [show (2 : Nat) ^ 8 = 256 from rfl, Nat.mul_comm] at this
    exact this.symm
  rw [show (N : Int) * 256 = ((N * 256 : Nat) : Int) by omega]
  show IntKind.u64.wrap ((BitVec.ofInt 64 ((N * 256 : Nat) : Int) ||| BitVec.ofInt 64 (X : Int)).toNat : Int) = _
  rw [BitVec.toNat_or, ofInt_u64 _ (by omega), ofInt_u64 _ (by omega), hor]
  show ((N * 256 + X : Nat) : Int) % 18446744073709551616 = _
  omega
def getV (s : Nat) (l : List Int) : Int := if l.length < s then 0 else unb (l.take s)
def getE (s : Nat) (l : List Int) : Int := if l.length < s then 1 else 0

theorem there2 (A : Option Addr) (n c : Nat) (w : World) (hn : n ≤ 140737488355328) : Calls Tryz.prog 84 #[.slice A n c, .int .i64 0, .int .i64 2] w fun e w' => e = .returned (.bool (decide (2 ≤ n))) ∧ w = w' := by
  by_cases h : 2 ≤ n
  · rw [decide_eq_true h]
    have h1 : (2 : Int) ≤ (n : Int) := by omega
    have h2 : (0 : Int) ≤ (n : Int) - 2 := by omega
    go_enter Tryz.func84, Tryz.ntmps84
    go_wp2_with fail
    go_ret
    exact ⟨rfl, rfl⟩
  · rw [decide_eq_false h]
    have h1 : (n : Int) < 2 := by omega
    go_enter Tryz.func84, Tryz.ntmps84
    go_wp2_with fail
    go_ret
    exact ⟨rfl, rfl⟩
set_option maxHeartbeats 400000 in
theorem get2_any (A : Option Addr) (c : Nat) (l : List Int) (w : World) (hr : Rd w A (by8 l)) (hB : isB l) (hl : l.length ≤ 140737488355328) (hc : l.length ≤ c) :
    Calls Tryz.prog 62 #[.slice A l.length c, .int .i64 0, .int .i64 2] w fun e w' => e = .returned (.tuple #[.int .u64 (getV 2 l), .int .i64 (getE 2 l)]) ∧ w = w' := by
  by_cases h : 2 ≤ l.length
  · have ht := there2 A l.length c w hl
    rw [decide_eq_true h] at ht
    have HT := Lib.hid ht
    have HR := Lib.hid hr
    have HB := Lib.hid hB
    have HE : Hid (getV 2 l = unb (l.take 2) ∧ getE 2 l = 0) := Lib.hid ⟨if_neg (by omega), if_neg (by omega)⟩
    have h4 : (2 : Int) ≤ c := by omega
    have h5 : (2 : Int) ≤ (l.length : Int) := by omega
    clear ht hr hB
    rw [HE.out.1, HE.out.2]
    go_enter Tryz.func62, Tryz.ntmps62
    go_wp2_with (first
      | (go_at_call 84; (with_reducible refine (HT.out).mono ?_); rintro e w' ⟨rfl, rfl⟩))
    go_loop [8, 10, 23] (fun u _ v => ∃ k : Nat, k ≤ 2 ∧ v = .int .i64 k ∧ u = .int .u64 (unb (l.take k))) (fun _ _ v => 2 - (intOf v).toNat)
    case atStart => exact ⟨0, by omega, rfl, rfl⟩
    case round =>
      obtain ⟨k, hk, rfl, rfl⟩ := hrel
      by_cases hlt : k < 2
      · obtain ⟨ad, rfl, _, hcell⟩ := HR.out.at_ (k := k) (by rw [by8_length]; omega)
        rw [by8_get l k (by omega)] at hcell
        have hx := HB.out l[k] (List.getElem_mem (by omega))
        have hn := unb_range HB.out k (by omega)
        have hu := unb_take l k (by omega)
        have hp : (256 : Int) ^ k ≤ 16777216 := by
          have : k = 0 ∨ k = 1 ∨ k = 2 ∨ k = 3 := by omega
          rcases this with rfl | rfl | rfl | rfl <;> decide
        generalize l[k]'(by omega) = x at *
        generalize unb (l.take k) = n at *
        have hor := or_low n x (by omega) (by omega) (by omega) (by omega)
        have hlt' : n < 16777216 := by omega
        have hn0 : 0 ≤ n := hn.1
        have hx0 := hx.1
        have hx1 := hx.2
        have HU := Lib.hid hu
        clear hp hn hx hu
        go_wp2_with fail
        exact ⟨⟨k + 1, by omega, by go_num, by rw [HU.out]⟩, by simp [intOf]; omega⟩
      · obtain rfl : k = 2 := by omega
        go_wp2_with fail
        go_ret2
        exact ⟨rfl, rfl⟩
  · have ht := there2 A l.length c w hl
    rw [decide_eq_false h] at ht
    have HT := Lib.hid ht
    have HE : Hid (getV 2 l = 0 ∧ getE 2 l = 1) := Lib.hid ⟨if_pos (by omega), if_pos (by omega)⟩
    clear ht hr hB
    rw [HE.out.1, HE.out.2]
    go_enter Tryz.func62, Tryz.ntmps62
    go_wp2_with (first
      | (go_at_call 84; (with_reducible refine (HT.out).mono ?_); rintro e w' ⟨rfl, rfl⟩))
    go_ret2
    exact ⟨rfl, rfl⟩
theorem there4 (A : Option Addr) (n c : Nat) (w : World) (hn : n ≤ 140737488355328) : Calls Tryz.prog 84 #[.slice A n c, .int .i64 0, .int .i64 4] w fun e w' => e = .returned (.bool (decide (4 ≤ n))) ∧ w = w' := by
  by_cases h : 4 ≤ n
  · rw [decide_eq_true h]
    have h1 : (4 : Int) ≤ (n : Int) := by omega
    have h2 : (0 : Int) ≤ (n : Int) - 4 := by omega
    go_enter Tryz.func84, Tryz.ntmps84
    go_wp2_with fail
    go_ret
    exact ⟨rfl, rfl⟩
  · rw [decide_eq_false h]
    have h1 : (n : Int) < 4 := by omega
    go_enter Tryz.func84, Tryz.ntmps84
    go_wp2_with fail
    go_ret
    exact ⟨rfl, rfl⟩
set_option maxHeartbeats 400000 in
theorem get4_any (A : Option Addr) (c : Nat) (l : List Int) (w : World) (hr : Rd w A (by8 l)) (hB : isB l) (hl : l.length ≤ 140737488355328) (hc : l.length ≤ c) :
    Calls Tryz.prog 62 #[.slice A l.length c, .int .i64 0, .int .i64 4] w fun e w' => e = .returned (.tuple #[.int .u64 (getV 4 l), .int .i64 (getE 4 l)]) ∧ w = w' := by
  by_cases h : 4 ≤ l.length
  · have ht := there4 A l.length c w hl
    rw [decide_eq_true h] at ht
    have HT := Lib.hid ht
    have HR := Lib.hid hr
    have HB := Lib.hid hB
    have HE : Hid (getV 4 l = unb (l.take 4) ∧ getE 4 l = 0) := Lib.hid ⟨if_neg (by omega), if_neg (by omega)⟩
    have h4 : (4 : Int) ≤ c := by omega
    have h5 : (4 : Int) ≤ (l.length : Int) := by omega
    clear ht hr hB
    rw [HE.out.1, HE.out.2]
    go_enter Tryz.func62, Tryz.ntmps62
    go_wp2_with (first
      | (go_at_call 84; (with_reducible refine (HT.out).mono ?_); rintro e w' ⟨rfl, rfl⟩))
    go_loop [8, 10, 23] (fun u _ v => ∃ k : Nat, k ≤ 4 ∧ v = .int .i64 k ∧ u = .int .u64 (unb (l.take k))) (fun _ _ v => 4 - (intOf v).toNat)
    case atStart => exact ⟨0, by omega, rfl, rfl⟩
    case round =>
      obtain ⟨k, hk, rfl, rfl⟩ := hrel
      by_cases hlt : k < 4
      · obtain ⟨ad, rfl, _, hcell⟩ := HR.out.at_ (k := k) (by rw [by8_length]; omega)
        rw [by8_get l k (by omega)] at hcell
        have hx := HB.out l[k] (List.getElem_mem (by omega))
        have hn := unb_range HB.out k (by omega)
        have hu := unb_take l k (by omega)
        have hp : (256 : Int) ^ k ≤ 16777216 := by
          have : k = 0 ∨ k = 1 ∨ k = 2 ∨ k = 3 := by omega
          rcases this with rfl | rfl | rfl | rfl <;> decide
        generalize l[k]'(by omega) = x at *
        generalize unb (l.take k) = n at *
        have hor := or_low n x (by omega) (by omega) (by omega) (by omega)
        have hlt' : n < 16777216 := by omega
        have hn0 : 0 ≤ n := hn.1
        have hx0 := hx.1
        have hx1 := hx.2
        have HU := Lib.hid hu
        clear hp hn hx hu
        go_wp2_with fail
        exact ⟨⟨k + 1, by omega, by go_num, by rw [HU.out]⟩, by simp [intOf]; omega⟩
      · obtain rfl : k = 4 := by omega
        go_wp2_with fail
        go_ret2
        exact ⟨rfl, rfl⟩
  · have ht := there4 A l.length c w hl
    rw [decide_eq_false h] at ht
    have HT := Lib.hid ht
    have HE : Hid (getV 4 l = 0 ∧ getE 4 l = 1) := Lib.hid ⟨if_pos (by omega), if_pos (by omega)⟩
    clear ht hr hB
    rw [HE.out.1, HE.out.2]
    go_enter Tryz.func62, Tryz.ntmps62
    go_wp2_with (first
      | (go_at_call 84; (with_reducible refine (HT.out).mono ?_); rintro e w' ⟨rfl, rfl⟩))
    go_ret2
    exact ⟨rfl, rfl⟩
end Go.Proofs.YthlijldapoeepaaGreat

/- Contracts of the program's package field and of the reference's, over bytes. -/

namespace Go.Proofs.YthlijldapoeepaaGreat
set_option linter.unusedVariables false
set_option maxRecDepth 100000
open Go.RowKit

/-- Byte i of eight, the highest first. -/
def beB (n : Int) (i : Nat) : Int := n / 2 ^ (8 * (7 - i)) % 256

set_option maxHeartbeats 400000 in
theorem number_any (n : Int) (w : World) (h0 : 0 ≤ n) (h1 : n < 18446744073709551616) :
    Calls Tryz.prog 90 #[.int .u64 n] w fun e w' => e = .returned (.agg #[.int .u8 (beB n 0), .int .u8 (beB n 1), .int .u8 (beB n 2), .int .u8 (beB n 3), .int .u8 (beB n 4), .int .u8 (beB n 5), .int .u8 (beB n 6), .int .u8 (beB n 7)]) ∧ Below w.heap.size w w' := by
  go_enter Tryz.func90, Tryz.ntmps90
  go_wp2_with fail
  go_loopw [4, 5] (fun v u w1 => ∃ (k : Nat) (cs cr : Array Value), k ≤ 8 ∧ u = .int .i64 k ∧ Blk w1 (w.heap.size + 1) 143 cs ∧ cs.size = 8 ∧ (∀ i, i < 8 → 8 - k ≤ i → cs[i]? = some (.int .u8 (beB n i))) ∧ Blk w1 w.heap.size 143 cr ∧ cr.size = 8 ∧ Below w.heap.size w w1) (fun _ v _ => 8 - (intOf v).toNat)
  case atStart =>
    refine ⟨0, _, _, by omega, rfl, Blk.newAt _ _ _ _ (by simp), by rfl, fun i hi hj => by omega, (Blk.new _ _ _).alloc _, by rfl, ?_⟩
    exact ((Below.refl _ _).alloc (Nat.le_refl _) _).alloc (by simp) _
  case round =>
    obtain ⟨k, cs, cr, hk, rfl, hb, hcs, hat, hr, hcr, ht1⟩ := hrel
    by_cases hlt : k < 8
    · obtain ⟨u, hc⟩ : ∃ u, wr.cell? ⟨w.heap.size + 1, 7 - k, none⟩ = some u := ⟨_, by rw [hb.cell]; exact Array.getElem?_eq_getElem (by omega)⟩
      have hf : wr.frozen? ⟨w.heap.size + 1, 7 - k, none⟩ = false := hb.frozen _
      have HAT := Lib.hid hat
      have HCS := Lib.hid hcs
      have HCR := Lib.hid hcr
      clear hat hcs hcr
      go_wp2_with fail
      go_roundw
      case rel =>
        refine ⟨k + 1, _, cr, by omega, by go_num, hb.set_ _ _, by simpa using HCS.out, fun i hi hj => ?_, hr.far (p := ⟨w.heap.size + 1, 7 - k, none⟩) (by simp) _, HCR.out, ht1.setCell (by simp) _⟩
        rw [Array.getElem?_setIfInBounds]
        by_cases e : 7 - k = i
        · subst e
          rw [if_pos rfl, if_pos (by rw [HCS.out]; omega)]
          unfold beB
          rw [show 7 - (7 - k) = k from by omega]
        · rw [if_neg e]
          exact HAT.out i hi (by omega)
      case measure => simp [intOf]; omega
    · have hk8 : k = 8 := by omega
      subst hk8
      have c : ∀ i, i < 8 → wr.cell? ⟨w.heap.size + 1, i, none⟩ = some (.int .u8 (beB n i)) := fun i hi => by rw [hb.cell]; exact hat i hi (by omega)
      have c0 := c 0 (by omega)
      have c1 := c 1 (by omega)
      have c2 := c 2 (by omega)
      have c3 := c 3 (by omega)
      have c4 := c 4 (by omega)
      have c5 := c 5 (by omega)
      have c6 := c 6 (by omega)
      have c7 := c 7 (by omega)
      have d : ∀ i, i < 8 → ∃ u, wr.cell? ⟨w.heap.size, i, none⟩ = some u := fun i hi => ⟨_, by rw [hr.cell]; exact Array.getElem?_eq_getElem (by omega)⟩
      obtain ⟨x0, d0⟩ := d 0 (by omega)
      obtain ⟨x1, d1⟩ := d 1 (by omega)
      obtain ⟨x2, d2⟩ := d 2 (by omega)
      obtain ⟨x3, d3⟩ := d 3 (by omega)
      obtain ⟨x4, d4⟩ := d 4 (by omega)
      obtain ⟨x5, d5⟩ := d 5 (by omega)
      obtain ⟨x6, d6⟩ := d 6 (by omega)
      obtain ⟨x7, d7⟩ := d 7 (by omega)
      have f0 := hr.frozen 0
      have f1 := hr.frozen 1
      have f2 := hr.frozen 2
      have f3 := hr.frozen 3
      have f4 := hr.frozen 4
      have f5 := hr.frozen 5
      have f6 := hr.frozen 6
      have f7 := hr.frozen 7
      clear c d hat hcs hcr
      go_wp2_with fail
      refine bodyPost_ret (v := .agg #[.int .u8 (beB n 0), .int .u8 (beB n 1), .int .u8 (beB n 2), .int .u8 (beB n 3), .int .u8 (beB n 4), .int .u8 (beB n 5), .int .u8 (beB n 6), .int .u8 (beB n 7)]) (by simp [results, Tryz.results90, go_sem, d0, d1, d2, d3, d4, d5, d6, d7]) rfl ⟨rfl, ?_⟩
      iterate 8 (refine Below.setCell ?_ (by exact Nat.le_refl _) _)
      exact ht1
/-- The bytes of a number, the highest first. -/
def be : Nat → Int → List Int
  | 0, _ => []
  | k + 1, n => be k (n / 256) ++ [n % 256]

/-- A writer at block g, all of its memory from B on. -/
def WriterAt (w : World) (B g : Nat) (A : Option Addr) (c : Nat) (l : List Int) (why : Int) : Prop :=
  Blk w g 142 #[.slice A l.length c, .int .i64 why] ∧ w.ownsRow B 5 1 (.slice A l.length c) l.length (by8 l) ∧ B ≤ g ∧ l.length ≤ c
def IsWriter (w : World) (B g : Nat) (l : List Int) (why : Int) : Prop := ∃ A c, WriterAt w B g A c l why

theorem newWriter_any (w : World) : Calls Tryz.prog 70 #[] w fun e w' => e = .returned (.pointer (some ⟨w.heap.size, 0, none⟩)) ∧ IsWriter w' w.heap.size w.heap.size [] 0 ∧ Below w.heap.size w w' := by
  go_enter Tryz.func70, Tryz.ntmps70
  go_wp2_with fail
  go_ret
  exact ⟨rfl, ⟨none, 0, Blk.new _ _ _, ownsRow_emp _ _ _ _, Nat.le_refl _, by simp⟩, (Below.refl _ _).alloc (Nat.le_refl _) _⟩

theorem be_length (k : Nat) (n : Int) : (be k n).length = k := by
  induction k generalizing n with
  | zero => rfl
  | succ k ih => simp [be, ih]
theorem be_isB (k : Nat) (n : Int) : isB (be k n) := by
  induction k generalizing n with
  | zero => exact isB.nil
  | succ k ih =>
    refine (ih _).append fun x hx => ?_
    simp at hx
    subst hx
    omega
theorem be1 (n : Int) : be 1 n = [beB n 7] := by simp [be, beB]
theorem be2 (n : Int) : be 2 n = [beB n 6, beB n 7] := by simp [be, beB]
theorem be4 (n : Int) : be 4 n = [beB n 4, beB n 5, beB n 6, beB n 7] := by simp [be, beB]; omega
theorem be8 (n : Int) : be 8 n = [beB n 0, beB n 1, beB n 2, beB n 3, beB n 4, beB n 5, beB n 6, beB n 7] := by simp [be, beB]; omega

set_option maxHeartbeats 400000 in
theorem num1 (B g : Nat) (l : List Int) (n : Int) (w : World) (hB : B ≤ w.heap.size) (hw : IsWriter w B g l 0) (hl : l.length ≤ 140737488351232) (h0 : 0 ≤ n) (h1 : n < 256) :
    Calls Tryz.prog 71 #[.pointer (some ⟨g, 0, none⟩), .int .i64 1, .int .i64 n] w fun e w' => e = .returned (.tuple #[]) ∧ IsWriter w' B g (l ++ be 1 n) 0 ∧ Below B w w' := by
  obtain ⟨A, c, hb, ho, hg, hc⟩ := hw
  have c0 := hb.cell 0
  have c1 := hb.cell 1
  have f0 := hb.frozen 0
  have f1 := hb.frozen 1
  simp at c0 c1
  have HO := Lib.hid ho
  clear ho
  go_enter Tryz.func71, Tryz.ntmps71
  go_wp2_with (first | (go_at_call 90; refine (number_any n _ (by omega) (by omega)).mono ?_; rintro e w1 ⟨rfl, hb1⟩))
  have hz1 := hb1.size
  have hglt := hb.lt
  have hbk1 := hb.keep hb1
  have c01 := hbk1.cell 0
  have c11 := hbk1.cell 1
  have f01 := hbk1.frozen 0
  simp at c01 c11
  have HO1 := Lib.hid (own_below HO.out hb1 (B := 0))
  have hg1 : g < w1.heap.size := by omega
  have k4 : IntKind.i64.wrap 7 = 7 := by rfl
  go_region_law (refine stepR_append E8 rfl rfl ((HO1.out.alloc _)) rfl (Rd.newAt w1 w1.heap.size _ (by8 [beB n 7]) _ 7 rfl rfl) rfl (by rfl) (by8_one _) (l.length + 1) _ rfl rfl (by simp only [maxLen]; omega) (by omega) (by simp; omega) ?_; intro A2 c2 w2 hc2 ho2 ht2 ha2; have hb2 := ht2.blk (Blk.drew (hbk1.alloc _)) (own_blk HO1.out hbk1 (by decide)); have c02 := hb2.cell 0; have f02 := hb2.frozen 0; simp at c02; have HO2 := Lib.hid ho2; have HT2 := Lib.hid ht2; have HA2 := Lib.hid ha2; have HB2 := Lib.hid hb2; clear ho2 ht2 ha2 hb2)
  all_goals
    go_wp2_with fail
    go_end0
    refine ⟨rfl, ⟨A2, c2, ?_, ?_, hg, ?_⟩, ?_⟩
    · have := HB2.out.set_ 0 (.slice A2 (l.length + 1) c2)
      rw [List.length_append, be_length]
      exact this
    · rw [List.length_append, be_length, be1, by8_append]
      exact own_tr HO2.out ((Tr.refl (fun b => b = g) _).setCell (fun _ => rfl) _) (fun b hx hq => own_blk HO2.out HB2.out (by decide) (hq ▸ hx))
    · rw [List.length_append, be_length]; exact hc2
    · have t1 : Tr (fun b => B ≤ b) w w1 := Tr.of_below hb1
      have t2 := (t1.alloc (.cells #[.int .u8 (beB n 0), .int .u8 (beB n 1), .int .u8 (beB n 2), .int .u8 (beB n 3), .int .u8 (beB n 4), .int .u8 (beB n 5), .int .u8 (beB n 6), .int .u8 (beB n 7)] 143)).drew
      have t3 := (t2.trans HT2.out (fun b _ h => own_ge HO1.out b h)).setCell (p := ⟨g, 0, none⟩) (fun _ => hg) (.slice A2 (l.length + 1) c2)
      exact t3.to_below hB (fun _ h => h)
set_option maxHeartbeats 400000 in
theorem num2 (B g : Nat) (l : List Int) (n : Int) (w : World) (hB : B ≤ w.heap.size) (hw : IsWriter w B g l 0) (hl : l.length ≤ 140737488351232) (h0 : 0 ≤ n) (h1 : n < 65536) :
    Calls Tryz.prog 71 #[.pointer (some ⟨g, 0, none⟩), .int .i64 2, .int .i64 n] w fun e w' => e = .returned (.tuple #[]) ∧ IsWriter w' B g (l ++ be 2 n) 0 ∧ Below B w w' := by
  obtain ⟨A, c, hb, ho, hg, hc⟩ := hw
  have c0 := hb.cell 0
  have c1 := hb.cell 1
  have f0 := hb.frozen 0
  have f1 := hb.frozen 1
  simp at c0 c1
  have HO := Lib.hid ho
  clear ho
  go_enter Tryz.func71, Tryz.ntmps71
  go_wp2_with (first | (go_at_call 90; refine (number_any n _ (by omega) (by omega)).mono ?_; rintro e w1 ⟨rfl, hb1⟩))
  have hz1 := hb1.size
  have hglt := hb.lt
  have hbk1 := hb.keep hb1
  have c01 := hbk1.cell 0
  have c11 := hbk1.cell 1
  have f01 := hbk1.frozen 0
  simp at c01 c11
  have HO1 := Lib.hid (own_below HO.out hb1 (B := 0))
  have hg1 : g < w1.heap.size := by omega
  have k4 : IntKind.i64.wrap 6 = 6 := by rfl
  go_region_law (refine stepR_append E8 rfl rfl ((HO1.out.alloc _)) rfl (Rd.newAt w1 w1.heap.size _ (by8 [beB n 6, beB n 7]) _ 6 rfl rfl) rfl (by rfl) (by8_one _) (l.length + 2) _ rfl rfl (by simp only [maxLen]; omega) (by omega) (by simp; omega) ?_; intro A2 c2 w2 hc2 ho2 ht2 ha2; have hb2 := ht2.blk (Blk.drew (hbk1.alloc _)) (own_blk HO1.out hbk1 (by decide)); have c02 := hb2.cell 0; have f02 := hb2.frozen 0; simp at c02; have HO2 := Lib.hid ho2; have HT2 := Lib.hid ht2; have HA2 := Lib.hid ha2; have HB2 := Lib.hid hb2; clear ho2 ht2 ha2 hb2)
  all_goals
    go_wp2_with fail
    go_end0
    refine ⟨rfl, ⟨A2, c2, ?_, ?_, hg, ?_⟩, ?_⟩
    · have := HB2.out.set_ 0 (.slice A2 (l.length + 2) c2)
      rw [List.length_append, be_length]
      exact this
    · rw [List.length_append, be_length, be2, by8_append]
      exact own_tr HO2.out ((Tr.refl (fun b => b = g) _).setCell (fun _ => rfl) _) (fun b hx hq => own_blk HO2.out HB2.out (by decide) (hq ▸ hx))
    · rw [List.length_append, be_length]; exact hc2
    · have t1 : Tr (fun b => B ≤ b) w w1 := Tr.of_below hb1
      have t2 := (t1.alloc (.cells #[.int .u8 (beB n 0), .int .u8 (beB n 1), .int .u8 (beB n 2), .int .u8 (beB n 3), .int .u8 (beB n 4), .int .u8 (beB n 5), .int .u8 (beB n 6), .int .u8 (beB n 7)] 143)).drew
      have t3 := (t2.trans HT2.out (fun b _ h => own_ge HO1.out b h)).setCell (p := ⟨g, 0, none⟩) (fun _ => hg) (.slice A2 (l.length + 2) c2)
      exact t3.to_below hB (fun _ h => h)
set_option maxHeartbeats 400000 in
theorem num4 (B g : Nat) (l : List Int) (n : Int) (w : World) (hB : B ≤ w.heap.size) (hw : IsWriter w B g l 0) (hl : l.length ≤ 140737488351232) (h0 : 0 ≤ n) (h1 : n < 4294967296) :
    Calls Tryz.prog 71 #[.pointer (some ⟨g, 0, none⟩), .int .i64 4, .int .i64 n] w fun e w' => e = .returned (.tuple #[]) ∧ IsWriter w' B g (l ++ be 4 n) 0 ∧ Below B w w' := by
  obtain ⟨A, c, hb, ho, hg, hc⟩ := hw
  have c0 := hb.cell 0
  have c1 := hb.cell 1
  have f0 := hb.frozen 0
  have f1 := hb.frozen 1
  simp at c0 c1
  have HO := Lib.hid ho
  clear ho
  go_enter Tryz.func71, Tryz.ntmps71
  go_wp2_with (first | (go_at_call 90; refine (number_any n _ (by omega) (by omega)).mono ?_; rintro e w1 ⟨rfl, hb1⟩))
  have hz1 := hb1.size
  have hglt := hb.lt
  have hbk1 := hb.keep hb1
  have c01 := hbk1.cell 0
  have c11 := hbk1.cell 1
  have f01 := hbk1.frozen 0
  simp at c01 c11
  have HO1 := Lib.hid (own_below HO.out hb1 (B := 0))
  have hg1 : g < w1.heap.size := by omega
  have k4 : IntKind.i64.wrap 4 = 4 := by rfl
  go_region_law (refine stepR_append E8 rfl rfl ((HO1.out.alloc _)) rfl (Rd.newAt w1 w1.heap.size _ (by8 [beB n 4, beB n 5, beB n 6, beB n 7]) _ 4 rfl rfl) rfl (by rfl) (by8_one _) (l.length + 4) _ rfl rfl (by simp only [maxLen]; omega) (by omega) (by simp; omega) ?_; intro A2 c2 w2 hc2 ho2 ht2 ha2; have hb2 := ht2.blk (Blk.drew (hbk1.alloc _)) (own_blk HO1.out hbk1 (by decide)); have c02 := hb2.cell 0; have f02 := hb2.frozen 0; simp at c02; have HO2 := Lib.hid ho2; have HT2 := Lib.hid ht2; have HA2 := Lib.hid ha2; have HB2 := Lib.hid hb2; clear ho2 ht2 ha2 hb2)
  all_goals
    go_wp2_with fail
    go_end0
    refine ⟨rfl, ⟨A2, c2, ?_, ?_, hg, ?_⟩, ?_⟩
    · have := HB2.out.set_ 0 (.slice A2 (l.length + 4) c2)
      rw [List.length_append, be_length]
      exact this
    · rw [List.length_append, be_length, be4, by8_append]
      exact own_tr HO2.out ((Tr.refl (fun b => b = g) _).setCell (fun _ => rfl) _) (fun b hx hq => own_blk HO2.out HB2.out (by decide) (hq ▸ hx))
    · rw [List.length_append, be_length]; exact hc2
    · have t1 : Tr (fun b => B ≤ b) w w1 := Tr.of_below hb1
      have t2 := (t1.alloc (.cells #[.int .u8 (beB n 0), .int .u8 (beB n 1), .int .u8 (beB n 2), .int .u8 (beB n 3), .int .u8 (beB n 4), .int .u8 (beB n 5), .int .u8 (beB n 6), .int .u8 (beB n 7)] 143)).drew
      have t3 := (t2.trans HT2.out (fun b _ h => own_ge HO1.out b h)).setCell (p := ⟨g, 0, none⟩) (fun _ => hg) (.slice A2 (l.length + 4) c2)
      exact t3.to_below hB (fun _ h => h)

end Go.Proofs.YthlijldapoeepaaGreat

/- Contracts: End of a writer; sense.words; the reference's Put and at. -/

namespace Go.Proofs.YthlijldapoeepaaGreat
set_option linter.unusedVariables false
set_option maxRecDepth 100000
open Go.RowKit

set_option maxHeartbeats 400000 in
theorem end_any (B g : Nat) (l : List Int) (w : World) (hw : IsWriter w B g l 0) (hl : l.length ≤ 140737488351232) :
    Calls Tryz.prog 72 #[.pointer (some ⟨g, 0, none⟩)] w fun e w' => ∃ A' c', e = .returned (.tuple #[.slice A' l.length c', .int .i64 0]) ∧ l.length ≤ c' ∧
      w'.ownsRow w.heap.size 5 1 (.slice A' l.length c') l.length (by8 l) ∧ Below w.heap.size w w' := by
  obtain ⟨A, c, hb, ho, hg, hc⟩ := hw
  have c0 := hb.cell 0
  have c1 := hb.cell 1
  simp at c0 c1
  have HO := Lib.hid ho
  clear ho
  go_enter Tryz.func72, Tryz.ntmps72
  go_wp2_with (first | (go_at_call 47; refine (clone_any A c l _ (Rd.of_own HO.out) hl).mono ?_; rintro e w1 ⟨A', c', rfl, hc', ho', hb'⟩; have HO' := Lib.hid ho'; have HB' := Lib.hid hb'; clear ho' hb'))
  go_ret2
  exact ⟨A', c', rfl, hc', HO'.out, HB'.out⟩

def wds (ns : List Int) : List Int := ns.flatMap (be 4)
theorem wds_length (ns : List Int) : (wds ns).length = 4 * ns.length := by
  induction ns with
  | nil => rfl
  | cons n ns ih => simp [wds, be_length] at ih ⊢; omega
theorem wds_isB (ns : List Int) : isB (wds ns) := by
  intro x hx
  simp only [wds, List.mem_flatMap] at hx
  obtain ⟨n, _, hx⟩ := hx
  exact be_isB 4 n x hx
theorem wds_snoc (ns : List Int) (k : Nat) (h : k < ns.length) : wds (ns.take (k + 1)) = wds (ns.take k) ++ be 4 ns[k] := by
  simp only [wds]
  rw [List.take_succ_eq_append_getElem h, List.flatMap_append]
  simp

def i64s (l : List Int) : List Value := l.map (Value.int .i64)

theorem be_get (s k : Nat) (n : Int) (h : k < s) : (be s n)[k]? = some (n / 2 ^ (8 * (s - 1 - k)) % 256) := by
  induction s generalizing n with
  | zero => omega
  | succ s ih =>
    simp only [be]
    by_cases hk : k < s
    · rw [List.getElem?_append_left (by rw [be_length]; exact hk), ih _ hk]
      congr 2
      rw [show (8 * (s + 1 - 1 - k) : Nat) = 8 + 8 * (s - 1 - k) from by omega, Int.pow_add, Int.ediv_ediv_of_nonneg (by decide)]
      rfl
    · have : k = s := by omega
      subst this
      rw [List.getElem?_append_right (by rw [be_length]; omega), be_length]
      simp
theorem be_take_succ (s k : Nat) (n : Int) (h : k < s) : (be s n).take (k + 1) = (be s n).take k ++ [n / 2 ^ (8 * (s - 1 - k)) % 256] := by
  have hg := be_get s k n h
  have hl : k < (be s n).length := by rw [be_length]; exact h
  rw [List.take_succ_eq_append_getElem hl]
  rw [List.getElem?_eq_getElem hl] at hg
  injection hg with hg
  rw [hg]


end Go.Proofs.YthlijldapoeepaaGreat

/- The program's package extent: an image in plain lists, and where it lies in memory: a map of blocks. -/

namespace Go.Proofs.YthlijldapoeepaaGreat
set_option linter.unusedVariables false
set_option maxRecDepth 100000
open Go.RowKit

/-! ### plain -/
/-- Block i of an image; none is empty. -/
def bk (L : List (List Int)) (i : Nat) : List Int := L[i]?.getD []
def isBl (b : List Int) : Prop := b.length = 64 ∧ isB b
structure ImgOk (L : List (List Int)) : Prop where
  lo : 1 ≤ L.length
  hi : L.length ≤ 256
  bl : ∀ b ∈ L, b = [] ∨ isBl b
theorem ImgOk.at_ {L : List (List Int)} (h : ImgOk L) (i : Nat) : bk L i = [] ∨ isBl (bk L i) := by
  unfold bk
  rcases hx : L[i]? with _ | x
  · exact .inl rfl
  · exact h.bl x (List.mem_of_getElem? hx)
theorem ImgOk.set_ {L : List (List Int)} (h : ImgOk L) (i : Nat) {b : List Int} (hb : b = [] ∨ isBl b) : ImgOk (L.set i b) :=
  ⟨by rw [List.length_set]; exact h.lo, by rw [List.length_set]; exact h.hi, fun x hx => by
    rcases List.mem_or_eq_of_mem_set hx with h1 | rfl
    · exact h.bl x h1
    · exact hb⟩
theorem bk_set (L : List (List Int)) (i : Nat) (hi : i < L.length) (b : List Int) (j : Nat) : bk (L.set i b) j = if j = i then b else bk L j := by
  unfold bk
  rw [List.getElem?_set]
  by_cases h : i = j
  · subst h; simp [hi]
  · rw [if_neg h, if_neg (Ne.symm h)]
theorem bk_out {L : List (List Int)} {i : Nat} (h : L.length ≤ i) : bk L i = [] := by unfold bk; rw [List.getElem?_eq_none h]; rfl
def usedTo (L : List (List Int)) : Nat → Nat
  | 0 => 0
  | k + 1 => usedTo L k + (if bk L k = [] then 0 else 1)
def used (L : List (List Int)) : Nat := usedTo L L.length
theorem usedTo_le (L : List (List Int)) : ∀ k, usedTo L k ≤ k
  | 0 => Nat.le_refl 0
  | k + 1 => by
    have := usedTo_le L k
    unfold usedTo
    split <;> omega
/-- The numbers of the blocks that are there, rising. -/
def numsTo (L : List (List Int)) : Nat → List Int
  | 0 => []
  | k + 1 => numsTo L k ++ (if bk L k = [] then [] else [(k : Int)])
def nums (L : List (List Int)) : List Int := numsTo L L.length
theorem numsTo_length (L : List (List Int)) : ∀ k, (numsTo L k).length = usedTo L k
  | 0 => rfl
  | k + 1 => by
    unfold numsTo usedTo
    rw [List.length_append, numsTo_length L k]
    split <;> rfl
theorem numsTo_mem (L : List (List Int)) (z : Int) : ∀ k, z ∈ numsTo L k ↔ ∃ i : Nat, z = i ∧ i < k ∧ bk L i ≠ []
  | 0 => by simp [numsTo]
  | k + 1 => by
    unfold numsTo
    rw [List.mem_append, numsTo_mem L z k]
    constructor
    · rintro (⟨i, h1, h2, h3⟩ | h)
      · exact ⟨i, h1, by omega, h3⟩
      · split at h
        · cases h
        · rename_i hb
          simp at h
          exact ⟨k, h, by omega, hb⟩
    · rintro ⟨i, h1, h2, h3⟩
      by_cases e : i = k
      · subst e
        right
        rw [if_neg h3]
        simp [h1]
      · exact .inl ⟨i, h1, by omega, h3⟩
theorem numsTo_sorted (L : List (List Int)) : ∀ k, (numsTo L k).Pairwise (· < ·)
  | 0 => by simp [numsTo]
  | k + 1 => by
    unfold numsTo
    rw [List.pairwise_append]
    refine ⟨numsTo_sorted L k, by split <;> simp, fun a ha b hb => ?_⟩
    obtain ⟨i, rfl, hi, _⟩ := (numsTo_mem L a k).1 ha
    split at hb
    · cases hb
    · simp at hb; omega

/-! ### in memory -/
abbrev lk (z : Int) : Lit := .int .i64 z
/-- How a block reads in a map: where it lies. -/
def rSl : Value → Option (DataW Unit × List MemPlace)
  | .slice none 0 0 => some (.nil, [])
  | .slice (some ⟨b, 0, none⟩) 64 c => if 64 ≤ c ∧ c ≤ maxLen then some (.lit (lk (b : Int)), []) else none
  | _ => none
theorem rSl_nil : rSl (.slice none 0 0) = some (.nil, []) := rfl
theorem rSl_mk {b c : Nat} (h : 64 ≤ c) (h2 : c ≤ maxLen) : rSl (.slice (some ⟨b, 0, none⟩) 64 c) = some (.lit (lk (b : Int)), []) := by simp [rSl, h, h2]
theorem rSl_inv_nil {v : Value} {ps : List MemPlace} (h : rSl v = some (.nil, ps)) : v = .slice none 0 0 := by
  unfold rSl at h
  split at h
  · rfl
  · split at h <;> simp at h
  · cases h
theorem rSl_inv {v : Value} {b : Nat} {ps : List MemPlace} (h : rSl v = some (.lit (lk (b : Int)), ps)) : ∃ c, v = .slice (some ⟨b, 0, none⟩) 64 c ∧ 64 ≤ c ∧ c ≤ maxLen := by
  unfold rSl at h
  split at h
  · simp at h
  · rename_i b' c
    split at h
    · rename_i hc
      simp at h
      obtain ⟨h1, _⟩ := h
      have : b' = b := by omega
      subst this
      exact ⟨c, rfl, hc.1, hc.2⟩
    · cases h
  · cases h
theorem keyI : Maps.Keyed Tryz.prog 3 := Maps.int_keyed Tryz.underlying3
theorem wfI {z : Int} (h : -9223372036854775808 ≤ z ∧ z ≤ 9223372036854775807) : (Lit.int .i64 z).wf = true := by
  have h1 : IntKind.i64.min = -9223372036854775808 := rfl
  have h2 : IntKind.i64.max = 9223372036854775807 := rfl
  simp only [Lit.wf, Bool.and_eq_true, decide_eq_true_eq, h1, h2]
  omega
theorem keyOfI {z : Int} (h : -9223372036854775808 ≤ z ∧ z ≤ 9223372036854775807) : keyOf Tryz.prog 3 (.int .i64 z) = some (lk z) := Maps.keyOf_int_mk Tryz.underlying3 (wfI h)
theorem lk_ne {a b : Int} (h : a ≠ b) : lk a ≠ lk b := fun e => h (by injection e)

/-- An image at block g, its map at block B; all of it lies in M. -/
structure IsImg (w : World) (g : Nat) (L : List (List Int)) (B : Nat) (D : DataW Unit) (M : Nat → Prop) : Prop where
  ok : ImgOk L
  blk : Blk w g 102 #[.int .i64 L.length, .map (some B)]
  own : w.ownsMap Tryz.prog 3 rSl B 256 D
  has : ∀ z : Int, Maps.has D (lk z) = decide (0 ≤ z ∧ bk L z.toNat ≠ [])
  at_ : ∀ i : Nat, bk L i ≠ [] → ∃ b : Nat, (∀ z, D.atKey (lk i) z = .lit (lk (b : Int))) ∧ M b ∧ Rd w (some ⟨b, 0, none⟩) (by8 (bk L i))
  sz : Maps.size D = used L
  mg : M g
  mB : M B
  mlt : ∀ b, M b → b < w.heap.size
section
variable {w w' : World} {g B : Nat} {L : List (List Int)} {D : DataW Unit} {M F : Nat → Prop}
theorem owns_tr {R : Value → Option (DataW Unit × List MemPlace)} {n : Nat} (h : w.ownsMap Tryz.prog 3 R B n D) (ht : Tr F w w') (hn : ¬ F B) : w'.ownsMap Tryz.prog 3 R B n D := by
  have hlt := h.lt
  obtain ⟨es, clock, hb, hr⟩ := h
  exact ⟨es, clock, (ht.block B hlt hn).trans hb, hr⟩
theorem IsImg.tr (h : IsImg w g L B D M) (ht : Tr F w w') (hF : ∀ b, M b → ¬ F b) : IsImg w' g L B D M :=
  ⟨h.ok, ht.blk h.blk (hF g h.mg), owns_tr h.own ht (hF B h.mB), h.has, fun i hi => by
    obtain ⟨b, h1, h2, h3⟩ := h.at_ i hi
    exact ⟨b, h1, h2, h3.tr ht (fun ad e x => by injection e with e; subst e; exact hF b h2 x)⟩, h.sz, h.mg, h.mB, fun b hb => Nat.lt_of_lt_of_le (h.mlt b hb) ht.size⟩
theorem IsImg.below (h : IsImg w g L B D M) (hb : Below w.heap.size w w') : IsImg w' g L B D M := h.tr (Tr.of_below (F := NoB) hb) (fun _ _ x => x)
theorem IsImg.mono (h : IsImg w g L B D M) {M' : Nat → Prop} (hM : ∀ b, M b → M' b) (hlt : ∀ b, M' b → b < w.heap.size) : IsImg w g L B D M' :=
  ⟨h.ok, h.blk, h.own, h.has, fun i hi => by obtain ⟨b, h1, h2, h3⟩ := h.at_ i hi; exact ⟨b, h1, hM b h2, h3⟩, h.sz, hM g h.mg, hM B h.mB, hlt⟩
theorem IsImg.lt (h : IsImg w g L B D M) : g < w.heap.size := h.blk.lt
end
/-- An image, its map somewhere. -/
def Img (w : World) (g : Nat) (L : List (List Int)) (M : Nat → Prop) : Prop := ∃ B D, IsImg w g L B D M
theorem Img.tr {w w' : World} {g : Nat} {L : List (List Int)} {M F : Nat → Prop} (h : Img w g L M) (ht : Tr F w w') (hF : ∀ b, M b → ¬ F b) : Img w' g L M := let ⟨B, D, h⟩ := h; ⟨B, D, h.tr ht hF⟩
theorem Img.below {w w' : World} {g : Nat} {L : List (List Int)} {M : Nat → Prop} (h : Img w g L M) (hb : Below w.heap.size w w') : Img w' g L M := let ⟨B, D, h⟩ := h; ⟨B, D, h.below hb⟩
theorem Img.ok {w : World} {g : Nat} {L : List (List Int)} {M : Nat → Prop} (h : Img w g L M) : ImgOk L := let ⟨_, _, h⟩ := h; h.ok
theorem Img.mlt {w : World} {g : Nat} {L : List (List Int)} {M : Nat → Prop} (h : Img w g L M) : ∀ b, M b → b < w.heap.size := let ⟨_, _, h⟩ := h; h.mlt
theorem Img.lt {w : World} {g : Nat} {L : List (List Int)} {M : Nat → Prop} (h : Img w g L M) : g < w.heap.size := let ⟨_, _, h⟩ := h; h.lt

def emptyL (n : Nat) : List (List Int) := List.replicate n []
theorem bk_empty (n i : Nat) : bk (emptyL n) i = [] := by
  unfold bk emptyL
  rw [List.getElem?_replicate]
  split <;> rfl
theorem usedTo_empty (n : Nat) : ∀ k, usedTo (emptyL n) k = 0
  | 0 => rfl
  | k + 1 => by unfold usedTo; rw [usedTo_empty n k, if_pos (bk_empty n k)]
theorem emptyL_ok {n : Nat} (h1 : 1 ≤ n) (h2 : n ≤ 256) : ImgOk (emptyL n) := ⟨by simpa [emptyL] using h1, by simpa [emptyL] using h2, fun b hb => .inl (List.eq_of_mem_replicate hb)⟩
end Go.Proofs.YthlijldapoeepaaGreat
