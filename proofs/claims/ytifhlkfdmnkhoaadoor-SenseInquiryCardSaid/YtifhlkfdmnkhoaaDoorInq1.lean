/- SenseInquiry: a unit's serial number, of the program and of the reference. -/
import Derived.Test.YtifhlkfdmnkhoaaDoorSense3
import Derived.Lib.AppendStr
import Derived.Lib.SmallJoins
import Derived.ArgAppend
namespace Go.Proofs.YtifhlkfdmnkhoaaDoor
set_option linter.unusedVariables false
open Go.RowKit

/-- A slice of bytes of the call's own: owned, or full (then an append lays a new row). -/
def Semi (w : World) (base : Nat) (A : Option Addr) (n c : Nat) (l : List Int) : Prop :=
  n ≤ c ∧ Rd w A (by8 l) ∧ l.length = n ∧ (w.ownsRow base 5 1 (.slice A n c) n (by8 l) ∨ (c = n ∧ ∃ ad, A = some ad ∧ base ≤ ad.block))
theorem Semi.of_own {w : World} {base : Nat} {A : Option Addr} {n c : Nat} {l : List Int} (h : w.ownsRow base 5 1 (.slice A n c) n (by8 l)) : Semi w base A n c l := by
  obtain ⟨A', c', e, hc, _⟩ := ownsRow_slice h
  injection e with e1 e2 e3
  subst e1; subst e3
  have := h.1
  rw [by8_length, Nat.mul_one] at this
  exact ⟨hc, Rd.of_own h, this, .inl h⟩
theorem Semi.below {w w' : World} {base : Nat} {A : Option Addr} {n c : Nat} {l : List Int} (h : Semi w base A n c l) (hb : Below w.heap.size w w') : Semi w' base A n c l :=
  ⟨h.1, h.2.1.below hb, h.2.2.1, h.2.2.2.imp (fun k => own_below (B := 0) k hb) id⟩

section
variable {w : World}
theorem wpL_append_semi {ops : Array Oper} {rest : List Oper} {o : Oper} {a : Act} {Q : Exit → Act → World → Prop} {s x : Operand} {base : Nat}
    (hgd : o.guard = none) (ho : o.op = .call { callee := .builtin .append, args := #[s, x], argTypes := #[22, 22] })
    {A0 : Option Addr} {c0 n : Nat} {l : List Int} (hown : Semi w base A0 n c0 l) (hs : a.eval s = .slice A0 n c0)
    {A : Option Addr} {m c : Nat} {l2 : List Int} (hr : Rd w A (by8 l2)) (hx : a.eval x = .slice A m c) (hl : l2.length = m)
    (n' : Nat) (l' : List Int) (hn' : n + m = n') (hxs' : l ++ l2 = l') (hm : 0 < m)
    (h63 : n' ≤ maxLen) (hbytes : n' ≤ 140737488355328) (hbase : base ≤ w.heap.size)
    (h : ∀ A' c' w', n' ≤ c' → w'.ownsRow base 5 1 (.slice A' n' c') n' (by8 l') → Tr (fun b => base ≤ b) w w' →
      wpList Tryd.prog ops Q rest (a.put o.dst (.slice A' n' c')) w') : wpList Tryd.prog ops Q (o :: rest) a w := by
  rcases hown.2.2.2 with hO | ⟨hc0, ad, rfl, hB⟩
  · refine wpL_append E8 hgd ho hO hs hr hx (by rw [by8_length, hl, Nat.mul_one]) (by8_one _) n' (by8 l') hn' (by rw [← hxs', by8_append]) h63 (by omega) hbase ?_
    intro A' c' w' h1 h2 h3 h4
    exact h A' c' w' h1 h2 (h3.mono fun b _ hb => own_ge hO b hb)
  · obtain ⟨u, hu⟩ : ∃ u, (by8 l2)[0]? = some u := ⟨_, List.getElem?_eq_getElem (by rw [by8_length, hl]; exact hm)⟩
    obtain ⟨adx, rfl, _⟩ := hr 0 u hu
    have hE : AppTy Tryd.prog 22 5 1 1 := E8
    obtain ⟨ht, i, z, hi, hz, hsz, hby, hzs, h0⟩ := hE
    refine wpList_append_grows w hgd s x 22 ho 5 i z 1 1 ht hi hz hsz hby hzs h0 (some ad) n c0 (by8 l) hs (fun h => by cases h) (by rw [by8_length, hown.2.2.1, Nat.mul_one])
      (fun b hb j u hj => by injection hb with hb; subst hb; obtain ⟨ad', e, hcell⟩ := hown.2.1 j u hj; injection e with e; subst e; exact hcell)
      adx m c (by8 l2) hx (by rw [by8_length, hl, Nat.mul_one]) (fun j u hj => by obtain ⟨ad', e, hcell⟩ := hr j u hj; injection e with e; subst e; exact hcell) (by8_one _) (by omega) (by omega) (by omega) ?_
    intro v' w' h2 h3
    subst hn'
    rw [← by8_append, hxs'] at h2
    obtain ⟨A', c', rfl, hc, _⟩ := ownsRow_slice h2
    exact h A' c' w' hc (ownsRow_base h2 hbase) (Tr.of_grown h3 fun b hb _ => by cases hb)
end

def nm8 : List Int := [99, 97, 105, 115, 115, 111, 110, 45]
def digit (n : Int) (k : Nat) : Int := 48 + (if k = 0 then n / 100 else if k = 1 then n / 10 else n) % 10
def serK (n : Int) (k : Nat) : List Int := nm8 ++ (List.range k).map (digit n)
def serL (n : Int) : List Int := serK n 3

theorem semi_lit (w : World) : Semi (w.alloc (.cells (by8 nm8).toArray 5 (8, 9))) w.heap.size (some ⟨w.heap.size, 0, none⟩) 8 8 nm8 := by
  refine ⟨Nat.le_refl _, fun j u hj => ⟨_, rfl, ?_⟩, rfl, .inr ⟨rfl, _, rfl, Nat.le_refl _⟩⟩
  rw [add_lit, Nat.zero_add]
  exact (World.cell?_alloc_mark w _ _ _ j).trans (by simpa using hj)

set_option maxHeartbeats 400000 in
theorem snum_any (n : Int) (w : World) (h0 : 0 ≤ n) (h1 : n ≤ 255) : Calls Tryd.prog 9 #[.int .i64 n] w fun e w' => ∃ A c, e = .returned (.slice A 11 c) ∧ 11 ≤ c ∧
    w'.ownsRow w.heap.size 5 1 (.slice A 11 c) 11 (by8 (serL n)) ∧ Below w.heap.size w w' := by
  have kc := fun (w : World) (C : Array Value) (n c : Nat) => Lib.run_convert_bytes_const (P := Tryd.prog) w 22 5 C n c Tryd.underlying22 Tryd.underlying5
  have i0 : ∀ w, (Instr.index 37 (.agg #[.int .i64 100, .int .i64 10, .int .i64 1]) (.int .i64 0)).run Tryd.prog w = .ok (.int .i64 100) w := fun w => by kernel_rfl
  have i1 : ∀ w, (Instr.index 37 (.agg #[.int .i64 100, .int .i64 10, .int .i64 1]) (.int .i64 1)).run Tryd.prog w = .ok (.int .i64 10) w := fun w => by kernel_rfl
  have i2 : ∀ w, (Instr.index 37 (.agg #[.int .i64 100, .int .i64 10, .int .i64 1]) (.int .i64 2)).run Tryd.prog w = .ok (.int .i64 1) w := fun w => by kernel_rfl
  go_enter Tryd.func9, Tryd.ntmps9
  go_wp2_with fail
  have hs := semi_lit w
  have hb := bl_alloc w (.cells (by8 nm8).toArray 5 (8, 9))
  go_loopw [3, 5, 9] (fun u _ v w2 => ∃ (k : Nat) (A : Option Addr) (c : Nat), (k = 0 ∧ v = .int .i64 0 ∨ k = 1 ∧ v = .int .i64 1 ∨ k = 2 ∧ v = .int .i64 2 ∨ k = 3 ∧ v = .int .i64 3) ∧ u = .slice A (8 + k) c ∧ Semi w2 w.heap.size A (8 + k) c (serK n k) ∧ (0 < k → w2.ownsRow w.heap.size 5 1 (.slice A (8 + k) c) (8 + k) (by8 (serK n k))) ∧ Below w.heap.size w w2) (fun _ _ v _ => 3 - (intOf v).toNat)
  case atStart => exact ⟨0, _, _, .inl ⟨rfl, rfl⟩, rfl, hs, fun h => absurd h (by omega), hb⟩
  case round =>
    obtain ⟨k, A, c, hk, rfl, hs, ho, hb⟩ := hrel
    have HS := Lib.hid hs
    have HO := Lib.hid ho
    have HB := Lib.hid hb
    clear hs ho hb
    have hz := HB.out.size
    rcases hk with ⟨rfl, rfl⟩ | ⟨rfl, rfl⟩ | ⟨rfl, rfl⟩ | ⟨rfl, rfl⟩
    · have hd : serK n 0 ++ [48 + (n / 100) % 10] = serK n 1 := by simp [serK, digit, List.range_succ]
      have HD := Lib.hid hd
      clear hd
      go_wp2_with (first
        | (at_builtin; refine wpL_append_semi rfl rfl (HS.out.below (bl_alloc wr _)) rfl (l2 := [48 + (n / 100) % 10]) (Rd.new1 wr _ _) rfl rfl 9 (serK n 1) rfl HD.out (by omega) (by simp only [maxLen]; omega) (by omega) (by have := hz; simp; omega) ?_; intro A2 c2 w2 hc2 ho2 ht2; have HO2 := Lib.hid ho2; have HB2 := Lib.hid (bl_tr (bl_chain HB.out (bl_alloc wr _)) ht2 (fun x hx => hx)); clear ho2 ht2))
      go_roundw
      case rel => exact ⟨1, A2, c2, by simp, rfl, Semi.of_own HO2.out, fun _ => HO2.out, HB2.out⟩
      case measure => simp [intOf]
    · have hd : serK n 1 ++ [48 + (n / 10) % 10] = serK n 2 := by simp [serK, digit, List.range_succ]
      have HD := Lib.hid hd
      clear hd
      go_wp2_with (first
        | (at_builtin; refine wpL_append_semi rfl rfl (HS.out.below (bl_alloc wr _)) rfl (l2 := [48 + (n / 10) % 10]) (Rd.new1 wr _ _) rfl rfl 10 (serK n 2) rfl HD.out (by omega) (by simp only [maxLen]; omega) (by omega) (by have := hz; simp; omega) ?_; intro A2 c2 w2 hc2 ho2 ht2; have HO2 := Lib.hid ho2; have HB2 := Lib.hid (bl_tr (bl_chain HB.out (bl_alloc wr _)) ht2 (fun x hx => hx)); clear ho2 ht2))
      go_roundw
      case rel => exact ⟨2, A2, c2, by simp, rfl, Semi.of_own HO2.out, fun _ => HO2.out, HB2.out⟩
      case measure => simp [intOf]
    · have hd : serK n 2 ++ [48 + n % 10] = serK n 3 := by simp [serK, digit, List.range_succ]
      have HD := Lib.hid hd
      clear hd
      go_wp2_with (first
        | (at_builtin; refine wpL_append_semi rfl rfl (HS.out.below (bl_alloc wr _)) rfl (l2 := [48 + n % 10]) (Rd.new1 wr _ _) rfl rfl 11 (serK n 3) rfl HD.out (by omega) (by simp only [maxLen]; omega) (by omega) (by have := hz; simp; omega) ?_; intro A2 c2 w2 hc2 ho2 ht2; have HO2 := Lib.hid ho2; have HB2 := Lib.hid (bl_tr (bl_chain HB.out (bl_alloc wr _)) ht2 (fun x hx => hx)); clear ho2 ht2))
      go_roundw
      case rel => exact ⟨3, A2, c2, by simp, rfl, Semi.of_own HO2.out, fun _ => HO2.out, HB2.out⟩
      case measure => simp [intOf]
    · go_wp2_with fail
      go_ret
      exact ⟨A, c, rfl, HS.out.1, HO.out (by omega), HB.out⟩

set_option maxHeartbeats 400000 in
theorem rser_any (n : Int) (w : World) (h0 : 0 ≤ n) (h1 : n ≤ 255) : Calls Tryd.prog 10 #[.int .i64 n] w fun e w' => ∃ A c, e = .returned (.slice A 11 c) ∧ 11 ≤ c ∧
    w'.ownsRow w.heap.size 5 1 (.slice A 11 c) 11 (by8 (serL n)) ∧ Below w.heap.size w w' := by
  have kc := fun (w : World) (C : Array Value) (n c : Nat) => Lib.run_convert_bytes_const (P := Tryd.prog) w 22 5 C n c Tryd.underlying22 Tryd.underlying5
  have hd : nm8 ++ [48 + n / 100, 48 + n / 10 % 10, 48 + n % 10] = serL n := by
    have : n / 100 % 10 = n / 100 := by omega
    simp [serL, serK, digit, List.range_succ, this]
  have HD := Lib.hid hd
  have HS := Lib.hid (semi_lit w)
  clear hd
  have HN : Hid (Rd ((w.alloc (.cells (by8 nm8).toArray 5 (8, 9))).alloc (.cells #[.int .u8 (48 + n / 100), .int .u8 (48 + n / 10 % 10), .int .u8 (48 + n % 10)] 5)) (some ⟨w.heap.size + 1, 0, none⟩) (by8 [48 + n / 100, 48 + n / 10 % 10, 48 + n % 10])) := Lib.hid (by
    have h := Rd.newN (w.alloc (.cells (by8 nm8).toArray 5 (8, 9))) 5 #[.int .u8 (48 + n / 100), .int .u8 (48 + n / 10 % 10), .int .u8 (48 + n % 10)]
    rw [show (w.alloc (.cells (by8 nm8).toArray 5 (8, 9))).heap.size = w.heap.size + 1 from by simp] at h
    exact h)
  go_enter Tryd.func10, Tryd.ntmps10
  go_wp2_with (first
    | (at_builtin; refine wpL_append_semi rfl rfl (HS.out.below (bl_alloc _ _)) rfl (l2 := [48 + n / 100, 48 + n / 10 % 10, 48 + n % 10]) HN.out rfl rfl 11 (serL n) rfl HD.out (by omega) (by simp only [maxLen]; omega) (by omega) (by simp; omega) ?_; intro A2 c2 w2 hc2 ho2 ht2; have HO2 := Lib.hid ho2; have HB2 := Lib.hid (bl_tr (bl_chain (bl_alloc w _) (bl_alloc _ _)) ht2 (fun x hx => hx)); clear ho2 ht2))
  go_ret
  exact ⟨A2, c2, rfl, hc2, HO2.out, HB2.out⟩

end Go.Proofs.YtifhlkfdmnkhoaaDoor
