/- Contracts of the small helpers of the statements (Lent, Kept, Spoil) and of slices.Clone at bytes. -/
import Derived.Test.YtdddbpnllhnfdaaBase
import Derived.Test.YtdddbpnllhnfdaaProg
namespace Go.Proofs.Ytdddbpnllhnfdaa
set_option linter.unusedVariables false
set_option maxRecDepth 100000
open Go.RowKit

theorem infoU8 : (Try.prog.info? 5).map (fun i => (i.zero, i.size, i.bytes)) = some (some (.int .u8 0), 1, 1) := by kernel_rfl
theorem E8 : AppTy Try.prog 28 5 1 1 := AppTy.mk' Try.underlying28 infoU8 rfl (by omega)

set_option maxHeartbeats 400000 in
theorem lent_any (A : Option Addr) (c : Nat) (l : List Int) (w : World) (hr : Rd w A (by8 l)) (hn : l.length ≤ 140737488351232) :
    Calls Try.prog 27 #[.slice A l.length c] w fun e w' => ∃ g cap, e = .returned (.slice (some ⟨g, 0, none⟩) l.length cap) ∧
      w'.ownsRow w.heap.size 5 1 (.slice (some ⟨g, 0, none⟩) (l.length + 1) cap) (l.length + 1) (by8 (l ++ [167])) ∧ Below w.heap.size w w' := by
  have HR := Lib.hid hr
  clear hr
  go_enter Try.func27, Try.ntmps27
  go_wp2_with (first
    | (at_builtin; refine wpL_append E8 rfl rfl (ownsRow_emp w w.heap.size _ _) rfl HR.out rfl (by simp [by8]) (by8_one l) l.length (by8 l) (by simp) (by simp) (by simp only [maxLen]; omega) (by omega) (Nat.le_refl _) ?_; intro A1 c1 w1 hc1 ho1 ht1 _; have HO1 := Lib.hid ho1; have HT1 := Lib.hid ht1; clear ho1 ht1)
    | (at_builtin; refine wpL_append E8 rfl rfl (HO1.out.alloc _) rfl (Rd.new1 w1 _ _) rfl (by simp) (by simp [Value.oneCell']) (l.length + 1) (by8 (l ++ [167])) rfl (by simp [by8]) (by simp only [maxLen]; omega) (by omega) (by have := HT1.out.size; simp; omega) ?_; intro A2 c2 w2 hc2 ho2 ht2 _; have HO2 := Lib.hid ho2; have HT2 := Lib.hid ht2; clear ho2 ht2))
  go_ret
  obtain ⟨g, rfl⟩ := ownsRow_addr HO2.out (by omega)
  refine ⟨g, c2, rfl, HO2.out, ?_⟩
  have h1 : Tr NoB w w1 := HT1.out.mono (fun b _ h => (Blo.none b h).elim)
  refine ((h1.alloc _).trans HT2.out (fun b hb h => ?_)).below (fun _ _ => id)
  have := own_ge HO1.out b h
  omega

set_option maxHeartbeats 400000 in
theorem kept_any (A : Option Addr) (c g cap : Nat) (l : List Int) (w : World) (hr : Rd w A (by8 l)) (ho : Rd w (some ⟨g, 0, none⟩) (by8 (l ++ [167]))) (hc : l.length + 1 ≤ cap) (hn : l.length ≤ 140737488351232) :
    Calls Try.prog 29 #[.slice (some ⟨g, 0, none⟩) l.length cap, .slice A l.length c] w fun e w' => e = .returned (.bool true) ∧ w = w' := by
  have k1 := run_conv8 (P := Try.prog) hr (src := 28) (dst := 9) l.length c rfl Try.underlying28 Try.underlying5 Try.underlying9
  have k2 := run_conv8 (P := Try.prog) (l := l) (A := some ⟨g, 0, none⟩) (Rd.take_of (k := l.length) ho _ (by simp [by8])) (src := 28) (dst := 9) l.length cap rfl Try.underlying28 Try.underlying5 Try.underlying9
  have k3 : w.cell? ⟨g, l.length, none⟩ = some (.int .u8 167) := by
    obtain ⟨ad, e, hcell⟩ := ho l.length (.int .u8 167) (by simp [by8])
    injection e with e
    subst e
    rw [add_lit] at hcell
    simpa using hcell
  clear hr ho
  go_enter Try.func29, Try.ntmps29
  go_wp2_with fail
  go_ret
  exact ⟨rfl, rfl⟩

set_option maxHeartbeats 400000 in
theorem clone_any (A : Option Addr) (c : Nat) (l : List Int) (w : World) (hr : Rd w A (by8 l)) (hn : l.length ≤ 140737488351232) :
    Calls Try.prog 41 #[.slice A l.length c] w fun e w' => ∃ A' c', e = .returned (.slice A' l.length c') ∧ l.length ≤ c' ∧
      w'.ownsRow w.heap.size 5 1 (.slice A' l.length c') l.length (by8 l) ∧ Below w.heap.size w w' := by
  have HR := Lib.hid hr
  clear hr
  have kn := fun w => Lib.run_eql_slice_nil (P := Try.prog) w 28 5 A l.length c 0 0 Try.underlying28
  cases A with
  | none =>
    have hl : l = [] := by
      cases l with
      | nil => rfl
      | cons x l => obtain ⟨ad, h, _⟩ := HR.out 0 _ rfl; cases h
    subst hl
    simp only [Option.isNone_none, List.length_nil] at kn ⊢
    go_enter Try.func41, Try.ntmps41
    go_wp2_with fail
    go_ret
    exact ⟨none, 0, rfl, by simp, ownsRow_emp _ _ _ _, Below.refl _ _⟩
  | some ad =>
    simp only [Option.isNone_some] at kn
    go_enter Try.func41, Try.ntmps41
    go_wp2_with (first
      | (at_builtin; refine wpL_append E8 rfl rfl (World.ownsRow_lit w #[] 0 (Nat.le_refl _) (by simp [maxLen]) rfl) rfl (HR.out.below ((Below.refl _ _).alloc (Nat.le_refl _) _)) rfl (by simp [by8]) (by8_one l) l.length (by8 l) (by simp) (by simp) (by simp only [maxLen]; omega) (by omega) (by simp) ?_; intro A1 c1 w1 hc1 ho1 ht1 _; have HO1 := Lib.hid ho1; have HT1 := Lib.hid ht1; clear ho1 ht1))
    go_ret
    refine ⟨A1, c1, rfl, hc1, HO1.out, ((((Tr.refl NoB w).alloc _).trans HT1.out (fun b hb h => ?_)).below (fun _ _ => id))⟩
    have h := (Blo.some_iff _ _).1 h
    simp at h
    omega

theorem clone_n (A : Option Addr) (c n : Nat) (l : List Int) (w : World) (hr : Rd w A (by8 l)) (hn : l.length = n) (hb : n ≤ 140737488351232) :
    Calls Try.prog 41 #[.slice A n c] w fun e w' => ∃ A' c', e = .returned (.slice A' n c') ∧ n ≤ c' ∧
      w'.ownsRow w.heap.size 5 1 (.slice A' n c') n (by8 l) ∧ Below w.heap.size w w' := by
  subst hn
  exact clone_any A c l w hr hb

set_option maxHeartbeats 400000 in
theorem spoil_any (A : Option Addr) (n c : Nat) (l : List Value) (w : World) (ho : w.ownsRow 0 5 1 (.slice A n c) n l) (hn : n ≤ 140737488351232) :
    Calls Try.prog 26 #[.slice A n c] w fun e w' => e = .returned (.tuple #[]) ∧ Tr (Blo A) w w' := by
  have HR := Lib.hid ho
  clear ho
  go_enter Try.func26, Try.ntmps26
  go_wp2_with fail
  go_loopw [2] (fun v w1 => ∃ (k : Nat) (l1 : List Value), k ≤ n ∧ v = .int .i64 k ∧ w1.ownsRow 0 5 1 (.slice A n c) n l1 ∧ Tr (Blo A) w w1) (fun v _ => n - (intOf v).toNat)
  case atStart => exact ⟨0, l, by omega, rfl, HR.out, Tr.refl _ _⟩
  case round =>
    obtain ⟨k, l1, hk, rfl, ho1, ht1⟩ := hrel
    have hl1 := ho1.1
    rw [Nat.mul_one] at hl1
    have HO1 := Lib.hid ho1
    have HT1 := Lib.hid ht1
    have HL1 := Lib.hid hl1
    clear ho1 ht1 hl1
    by_cases hlt : k < n
    · obtain ⟨g, rfl⟩ := ownsRow_addr HO1.out (by omega)
      have hc : wr.cell? ⟨g, k, none⟩ = some (l1[k]'(by rw [HL1.out]; exact hlt)) := by
        rw [HO1.out.cellAt k (by omega)]; exact List.getElem?_eq_getElem _
      have hf : wr.frozen? ⟨g, k, none⟩ = false := HO1.out.frozenAt k
      go_wp2_with fail
      go_roundw
      case rel =>
        obtain ⟨s1, s2⟩ := own_stored HO1.out k (.int .u8 90)
        exact ⟨k + 1, l1.set k (.int .u8 90), by omega, by go_num, s1, HT1.out.trans s2 (fun _ _ h => h)⟩
      case measure => simp [intOf]; omega
    · go_wp2_with (first
        | (at_builtin; refine wpL_append E8 rfl rfl (HO1.out.alloc _) rfl (Rd.new1 wr _ _) rfl (by simp) (by simp [Value.oneCell']) (n + 1) (l1 ++ [.int .u8 91]) rfl rfl (by simp only [maxLen]; omega) (by omega) (by simp) ?_; intro A2 c2 w2 hc2 ho2 ht2 ha2; (obtain ⟨g2, rfl⟩ := ownsRow_addr ho2 (by omega)); (have hcell2 : w2.cell? ⟨g2, n, none⟩ = some (.int .u8 91) := by rw [ho2.cellAt n (by omega)]; simp [HL1.out]); have hfr2 : w2.frozen? ⟨g2, n, none⟩ = false := ho2.frozenAt n; have HO2 := Lib.hid ho2; have HT2 := Lib.hid ht2; have HA2 := Lib.hid ha2; clear ho2 ht2 ha2))
      go_end0
      refine ⟨rfl, ?_⟩
      have h1 := (HT1.out.alloc (.cells #[.int .u8 91] 5)).trans HT2.out (fun b hb h => h)
      refine h1.setCell (fun hlt2 => ?_) _
      rcases HA2.out.blo (b := g2) rfl with h | h
      · exact h
      · have := HT1.out.size
        simp at h hlt2
        omega
theorem own_pre1 {w : World} {base : Nat} {e : TypeId} {g n cap : Nat} {l : List Int} {x : Int} (h : w.ownsRow base e 1 (.slice (some ⟨g, 0, none⟩) (n + 1) cap) (n + 1) (by8 (l ++ [x]))) (hn : l.length = n) : n + 1 ≤ cap := by
  obtain ⟨A, c, hv, hc, _⟩ := ownsRow_slice h
  injection hv with _ _ hv
  omega

theorem own_pre8 {w : World} {base : Nat} {e : TypeId} {g cap : Nat} {l m : List Int} (h : w.ownsRow base e 1 (.slice (some ⟨g, 0, none⟩) (l.length + m.length) cap) (l.length + m.length) (by8 (l ++ m))) :
    w.ownsRow base e 1 (.slice (some ⟨g, 0, none⟩) l.length cap) l.length (by8 l) := by
  have h2 := ownsRow_pre h (m := l.length) (by omega)
  rw [by8_take, List.take_left] at h2
  exact h2

/-- string(b) at bytes of this program. -/
theorem conv8 {w : World} {A : Option Addr} {l : List Int} (n c : Nat) (h : Rd w A (by8 l)) (hn : l.length = n) :
    (convert 28 9 (.slice A n c)).run Try.prog w = .ok (.string (strOfNums l)) w :=
  run_conv8 h n c hn Try.underlying28 Try.underlying5 Try.underlying9

end Go.Proofs.Ytdddbpnllhnfdaa
