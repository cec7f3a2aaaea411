/- SenseInquiry: what is told of a unit, by the program and by the reference. -/
import Derived.Test.YtifhlkfdmnkhoaaDoorInq1
import Derived.Test.YtifhlkfdmnkhoaaDoorArr
namespace Go.Proofs.YtifhlkfdmnkhoaaDoor
set_option linter.unusedVariables false
open Go.RowKit

def kindsV : Array Value := #[.int .i64 0, .int .i64 0, .int .i64 128, .int .i64 1, .int .i64 131, .int .i64 2]
/-- The listed variable's cells. -/
def Kin (w : World) : Prop := ∀ j v, kindsV[j]? = some v → w.cell? ((⟨0, 0, none⟩ : Addr).add j) = some v
theorem Kin.pos {w : World} (h : Kin w) : 0 < w.heap.size := by
  have := cell_block_lt (h 0 _ rfl)
  simpa [add_lit] using this
theorem Kin.below {w w' : World} (h : Kin w) (hb : Below w.heap.size w w') : Kin w' := fun j v hj => (hb.cell (by rw [block_of_add]; exact h.pos)).trans (h j v hj)

theorem semi_lit4 (w : World) (base : Nat) (a b c d : Int) (hb : base ≤ w.heap.size) : Semi (w.alloc (.cells #[.int .u8 a, .int .u8 b, .int .u8 c, .int .u8 d] 5)) base (some ⟨w.heap.size, 0, none⟩) 4 4 [a, b, c, d] :=
  Semi.of_own (World.ownsRow_lit w #[.int .u8 a, .int .u8 b, .int .u8 c, .int .u8 d] 4 hb (by simp [maxLen]) rfl)

theorem wpL_append_str {w : World} {ops : Array Oper} {rest : List Oper} {o : Oper} {a : Act} {Q : Exit → Act → World → Prop} {s x : Operand} {base : Nat}
    (hgd : o.guard = none) (ho : o.op = .call { callee := .builtin .append, args := #[s, x], argTypes := #[22, 9] })
    {A0 : Option Addr} {c0 n : Nat} {l : List Int} (hown : w.ownsRow base 5 1 (.slice A0 n c0) n (by8 l)) (hs : a.eval s = .slice A0 n c0)
    {st : ByteArray} (hx : a.eval x = .string st) (l2 : List Int) (hl2 : Lib.strCells st = by8 l2)
    (n' : Nat) (l' : List Int) (hn' : n + st.size = n') (hxs' : l ++ l2 = l')
    (h63 : n' ≤ maxLen) (hbytes : n' ≤ 140737488355328) (hbase : base ≤ w.heap.size)
    (h : ∀ A' c' w', n' ≤ c' → w'.ownsRow base 5 1 (.slice A' n' c') n' (by8 l') → Tr (Blo A0) w w' →
      wpList Tryd.prog ops Q rest (a.put o.dst (.slice A' n' c')) w') : wpList Tryd.prog ops Q (o :: rest) a w := by
  have hE : ∃ i, Tryd.prog.info? 5 = some i ∧ i.zero = some (.int .u8 0) ∧ i.size = 1 ∧ i.bytes = 1 := by
    have h := infoU8
    cases hq : Tryd.prog.info? 5 with
    | none => simp [hq] at h
    | some i =>
      simp [hq] at h
      exact ⟨i, rfl, h.1, h.2.1, h.2.2⟩
  obtain ⟨i, hi, hz, hsz, hby⟩ := hE
  refine Lib.wpList_append_own_string w hgd s x 22 9 ho base 5 i Tryd.underlying22 Tryd.underlying9 hi hz hsz hby _ n _ hs hown st hx (by omega) (by omega) hbase ?_
  intro v' w' h2 h3 _
  subst hn'
  rw [hl2, ← by8_append, hxs'] at h2
  obtain ⟨A', c', rfl, hc, _⟩ := ownsRow_slice h2
  exact h A' c' w' hc h2 (Tr.of_grown h3 fun b hb _ => by rw [ownBlock_slice] at hb; exact hb)

def RetI (w : World) (n : Nat) (l : List Int) (err : Int) (e : Ending) (w' : World) : Prop :=
  ∃ A c, e = .returned (.tuple #[.slice A n c, .int .i64 err]) ∧ n ≤ c ∧ w'.ownsRow w.heap.size 5 1 (.slice A n c) n (by8 l) ∧ Below w.heap.size w w'
theorem RetI.nil (w w' : World) (err : Int) (hb : Below w.heap.size w w') : RetI w 0 [] err (.returned (.tuple #[.slice none 0 0, .int .i64 err])) w' := ⟨none, 0, rfl, by simp, ownsRow_emp _ _ _ _, hb⟩

def prodL : List Int := [99, 97, 105, 115, 115, 111, 110, 32, 98, 108, 111, 99, 107, 32, 117, 110, 105, 116, 32, 32, 32, 32, 32, 32, 48, 48, 48, 49]
def stdL : List Int := [0, 0, 6, 2, 31, 16, 0, 2] ++ prodL
theorem std_len : stdL.length = 36 := rfl

theorem inq_bad (v : Bool) (page lun : Int) (w : World) (h : ¬ (0 ≤ lun ∧ lun ≤ 255)) : Calls Tryd.prog 4 #[.bool v, .int .i64 page, .int .i64 lun] w (RetI w 0 [] 1) := by
  by_cases h0 : lun < 0
  · have h' : ¬ 0 ≤ lun := by omega
    go_enter Tryd.func4, Tryd.ntmps4
    go_wp2_with (first
      | (go_at_call 8; (with_reducible refine (in_no lun 255 _ h).mono ?_); rintro e w1 ⟨rfl, rfl⟩))
    go_ret2
    exact RetI.nil _ _ _ (Below.refl _ _)
  · have h' : 255 < lun := by omega
    have h'' : ¬ lun ≤ 255 := by omega
    go_enter Tryd.func4, Tryd.ntmps4
    go_wp2_with (first
      | (go_at_call 8; (with_reducible refine (in_no lun 255 _ h).mono ?_); rintro e w1 ⟨rfl, rfl⟩))
    go_ret2
    exact RetI.nil _ _ _ (Below.refl _ _)

theorem inq_form (page lun : Int) (w : World) (h0 : 0 ≤ lun) (h1 : lun ≤ 255) (hp : page ≠ 0) : Calls Tryd.prog 4 #[.bool false, .int .i64 page, .int .i64 lun] w (RetI w 0 [] 11) := by
  go_enter Tryd.func4, Tryd.ntmps4
  go_wp2_with (first
    | (go_at_call 8; (with_reducible refine (in_yes lun 255 _ ⟨h0, h1⟩).mono ?_); rintro e w1 ⟨rfl, rfl⟩))
  go_ret2
  exact RetI.nil _ _ _ (Below.refl _ _)

theorem inq_std (lun : Int) (w : World) (h0 : 0 ≤ lun) (h1 : lun ≤ 255) : Calls Tryd.prog 4 #[.bool false, .int .i64 0, .int .i64 lun] w (RetI w 36 stdL 0) := by
  have HO := Lib.hid (World.ownsRow_lit (base := w.heap.size) (e := 5) (size := 1) w #[.int .u8 0, .int .u8 0, .int .u8 6, .int .u8 2, .int .u8 31, .int .u8 16, .int .u8 0, .int .u8 2] 8 (Nat.le_refl _) (by simp [maxLen]) rfl)
  go_enter Tryd.func4, Tryd.ntmps4
  go_wp2_with (first
    | (go_at_call 8; (with_reducible refine (in_yes lun 255 _ ⟨h0, h1⟩).mono ?_); rintro e w1 ⟨rfl, rfl⟩)
    | (at_builtin; refine wpL_append_str rfl rfl (l := [0, 0, 6, 2, 31, 16, 0, 2]) HO.out rfl rfl prodL (by rfl) 36 stdL rfl rfl (by simp only [maxLen]; omega) (by omega) (by simp) ?_; intro A2 c2 w2 hc2 ho2 ht2; have HO2 := Lib.hid ho2; have HB2 := Lib.hid (bl_tr (bl_alloc w _) ht2 (fun x hx => own_ge HO.out x hx)); clear ho2 ht2))
  go_ret2
  exact ⟨A2, c2, rfl, hc2, HO2.out, HB2.out⟩
theorem rinq_bad (v : Bool) (page lun : Int) (w : World) (h : ¬ (0 ≤ lun ∧ lun ≤ 255)) : Calls Tryd.prog 5 #[.bool v, .int .i64 page, .int .i64 lun] w (RetI w 0 [] 1) := by
  by_cases h0 : lun < 0
  · have h' : ¬ 0 ≤ lun := by omega
    go_enter Tryd.func5, Tryd.ntmps5
    go_wp2_with (first
      | (go_at_call 8; (with_reducible refine (in_no lun 255 _ h).mono ?_); rintro e w1 ⟨rfl, rfl⟩))
    go_ret2
    exact RetI.nil _ _ _ (Below.refl _ _)
  · have h' : 255 < lun := by omega
    have h'' : ¬ lun ≤ 255 := by omega
    go_enter Tryd.func5, Tryd.ntmps5
    go_wp2_with (first
      | (go_at_call 8; (with_reducible refine (in_no lun 255 _ h).mono ?_); rintro e w1 ⟨rfl, rfl⟩))
    go_ret2
    exact RetI.nil _ _ _ (Below.refl _ _)

theorem rinq_form (page lun : Int) (w : World) (h0 : 0 ≤ lun) (h1 : lun ≤ 255) (hp : page ≠ 0) : Calls Tryd.prog 5 #[.bool false, .int .i64 page, .int .i64 lun] w (RetI w 0 [] 11) := by
  go_enter Tryd.func5, Tryd.ntmps5
  go_wp2_with (first
    | (go_at_call 8; (with_reducible refine (in_yes lun 255 _ ⟨h0, h1⟩).mono ?_); rintro e w1 ⟨rfl, rfl⟩))
  go_ret2
  exact RetI.nil _ _ _ (Below.refl _ _)

theorem rinq_std (lun : Int) (w : World) (h0 : 0 ≤ lun) (h1 : lun ≤ 255) : Calls Tryd.prog 5 #[.bool false, .int .i64 0, .int .i64 lun] w (RetI w 36 stdL 0) := by
  have HO := Lib.hid (World.ownsRow_lit (base := w.heap.size) (e := 5) (size := 1) w #[.int .u8 0, .int .u8 0, .int .u8 6, .int .u8 2, .int .u8 31, .int .u8 16, .int .u8 0, .int .u8 2] 8 (Nat.le_refl _) (by simp [maxLen]) rfl)
  go_enter Tryd.func5, Tryd.ntmps5
  go_wp2_with (first
    | (go_at_call 8; (with_reducible refine (in_yes lun 255 _ ⟨h0, h1⟩).mono ?_); rintro e w1 ⟨rfl, rfl⟩)
    | (at_builtin; refine wpL_append_str rfl rfl (l := [0, 0, 6, 2, 31, 16, 0, 2]) HO.out rfl rfl prodL (by rfl) 36 stdL rfl rfl (by simp only [maxLen]; omega) (by omega) (by simp) ?_; intro A2 c2 w2 hc2 ho2 ht2; have HO2 := Lib.hid ho2; have HB2 := Lib.hid (bl_tr (bl_alloc w _) ht2 (fun x hx => own_ge HO.out x hx)); clear ho2 ht2))
  go_ret2
  exact ⟨A2, c2, rfl, hc2, HO2.out, HB2.out⟩

end Go.Proofs.YtifhlkfdmnkhoaaDoor
