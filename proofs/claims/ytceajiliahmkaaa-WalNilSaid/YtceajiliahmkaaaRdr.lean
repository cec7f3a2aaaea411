/- Readers of fields: the program's and the reference's. -/
import Derived.Test.YtceajiliahmkaaaGetG
namespace Go.Proofs.Ytceajiliahmkaaa
set_option linter.unusedVariables false
set_option linter.unusedSimpArgs false
set_option maxRecDepth 100000
open Go.RowKit

/-- A reader at block g. -/
def IsRdr (w : World) (t : TypeId) (g : Nat) (l : List Int) (why : Int) (F : Nat → Prop) : Prop := ∃ A c, Blk w g t #[.slice A l.length c, .int .i64 why] ∧ Rd w A (by8 l) ∧ l.length ≤ c ∧ c ≤ maxLen ∧ isB l ∧ (∀ b, Blo A b → b ≠ g ∧ F b)
theorem IsRdr.tr {w w' : World} {t : TypeId} {g : Nat} {l : List Int} {why : Int} {F : Nat → Prop} (h : IsRdr w t g l why F) (hb : Below w.heap.size w w') : IsRdr w' t g l why F := by
  obtain ⟨A, c, h1, h2, h3, h4, h5, h6⟩ := h
  exact ⟨A, c, h1.keep hb, h2.below hb, h3, h4, h5, h6⟩
def rdV (S : Nat) (l : List Int) (why : Int) : Int := if why = 0 ∧ S ≤ l.length then wrap64 (unb (l.take S)) else 0
def rdL (S : Nat) (l : List Int) (why : Int) : List Int := if why = 0 ∧ S ≤ l.length then l.drop S else l
def rdE (S : Nat) (l : List Int) (why : Int) : Int := if why = 0 then (if S ≤ l.length then 0 else 10) else why
def endE (l : List Int) (why : Int) : Int := if why = 0 ∧ 0 < l.length then 11 else why
theorem rd_set {w : World} {A : Option Addr} {xs : List Value} {g i : Nat} (h : Rd w A xs) (hg : ∀ b, Blo A b → b ≠ g) (u : Value) : Rd (w.setCell ⟨g, i, none⟩ u) A xs :=
  h.tr ((Tr.refl (fun b => b = g) w).setCell (p := ⟨g, i, none⟩) (fun _ => rfl) u) (fun ad e hf => hg ad.block (by rw [e]; exact (Blo.some_iff _ _).2 rfl) hf)
theorem blo_cut {A : Option Addr} {c S b : Nat} (h : Blo (if c = S then A else A.map (·.add S)) b) : Blo A b := by
  split at h
  · exact h
  · cases A with
    | none => exact absurd h (Blo.none b)
    | some a => rw [Option.map_some, Blo.some_iff] at h; rw [Blo.some_iff, ← h, block_of_add]
theorem rdr_cut {w : World} {t : TypeId} {g S c c1 : Nat} {l : List Int} {why : Int} {A A1 : Option Addr} (hb : Blk w g t #[.slice A l.length c, .int .i64 why]) (hr : Rd w A1 (by8 (l.drop S))) (hc : l.length - S ≤ c1) (hm : c1 ≤ maxLen) (hB : isB l) {F : Nat → Prop} (hA : ∀ b, Blo A1 b → b ≠ g ∧ F b) :
    IsRdr (w.setCell ⟨g, 0, none⟩ (.slice A1 (l.length - S) c1)) t g (l.drop S) why F ∧ Tr (fun b => b = g) w (w.setCell ⟨g, 0, none⟩ (.slice A1 (l.length - S) c1)) := by
  refine ⟨⟨A1, c1, ?_, rd_set hr (fun b hb => (hA b hb).1) _, by rw [List.length_drop]; exact hc, hm, hB.drop S, hA⟩, (Tr.refl (fun b => b = g) w).setCell (p := ⟨g, 0, none⟩) (fun _ => rfl) _⟩
  rw [List.length_drop]
  exact hb.set_ 0 _
theorem rdr_nil {w : World} {t : TypeId} {g c c1 : Nat} {l : List Int} {why : Int} {A A1 : Option Addr} (hb : Blk w g t #[.slice A l.length c, .int .i64 why]) (hm : c1 ≤ maxLen) {F : Nat → Prop} (hA : ∀ b, Blo A1 b → b ≠ g ∧ F b) :
    IsRdr (w.setCell ⟨g, 0, none⟩ (.slice A1 0 c1)) t g [] why F ∧ Tr (fun b => b = g) w (w.setCell ⟨g, 0, none⟩ (.slice A1 0 c1)) :=
  ⟨⟨A1, c1, hb.set_ 0 _, Rd.nil, Nat.zero_le _, hm, isB.nil, hA⟩, (Tr.refl (fun b => b = g) w).setCell (p := ⟨g, 0, none⟩) (fun _ => rfl) _⟩
theorem rdr_why {w : World} {t : TypeId} {g c : Nat} {l : List Int} {why : Int} {A : Option Addr} (hb : Blk w g t #[.slice A l.length c, .int .i64 why]) (hr : Rd w A (by8 l)) (hc : l.length ≤ c) (hm : c ≤ maxLen) (hB : isB l) {F : Nat → Prop} (hA : ∀ b, Blo A b → b ≠ g ∧ F b) (e : Int) :
    IsRdr (w.setCell ⟨g, 1, none⟩ (.int .i64 e)) t g l e F ∧ Tr (fun b => b = g) w (w.setCell ⟨g, 1, none⟩ (.int .i64 e)) :=
  ⟨⟨A, c, hb.set_ 1 _, rd_set hr (fun b hb => (hA b hb).1) _, hc, hm, hB, hA⟩, (Tr.refl (fun b => b = g) w).setCell (p := ⟨g, 1, none⟩) (fun _ => rfl) _⟩
theorem newReader_any (A : Option Addr) (c : Nat) (l : List Int) (w : World) (hr : Rd w A (by8 l)) (hB : isB l) (hl : l.length ≤ 140737488351232) :
    Calls Try.prog 64 #[.slice A l.length c] w fun e w' => ∃ g, e = .returned (.pointer (some ⟨g, 0, none⟩)) ∧ IsRdr w' 138 g l 0 (fun b => w.heap.size ≤ b ∧ b < w'.heap.size) ∧ w.heap.size ≤ g ∧ Below w.heap.size w w' := by
  go_enter Try.func64, Try.ntmps64
  go_wp2_with (first
    | (go_at_call 46; (with_reducible refine (clone_any A c l w hr hl).mono ?_); rintro e w1 ⟨A1, c1, rfl, hc1, ho, hb⟩; have O1 := Lib.hid ho; have B1 := Lib.hid hb; clear ho hb))
  go_ret
  refine ⟨w1.heap.size, rfl, ⟨A1, c1, Blk.new _ _ _, (Rd.of_own O1.out).below (bl_alloc _ _), hc1, ?_, hB, fun b hb => by have := own_lt O1.out b hb; have := own_ge O1.out b hb; exact ⟨by omega, by omega, by rw [World.size_alloc]; omega⟩⟩, B1.out.size, bl_chain B1.out (bl_alloc _ _)⟩
  obtain ⟨A', c', e, _, _, h⟩ := ownsRow_slice O1.out
  injection e with _ _ e
  omega
theorem rok_any (g : Nat) (l : List Int) (why : Int) (w : World) {F : Nat → Prop} (h : IsRdr w 138 g l why F) : Calls Try.prog 81 #[.pointer (some ⟨g, 0, none⟩)] w fun e w' => e = .returned (.bool (why == 0)) ∧ w = w' := by
  obtain ⟨A, c, h1, _⟩ := h
  have c1 := h1.cell 1
  simp at c1
  clear h1
  go_enter Try.func81, Try.ntmps81
  go_wp2_with fail
  go_ret
  exact ⟨rfl, rfl⟩
set_option maxHeartbeats 800000 in
theorem rdrNum (g : Nat) (l : List Int) (why : Int) (S : Nat) (w : World) (h1 : 1 ≤ S) (h8 : S ≤ 8) {F : Nat → Prop} (h : IsRdr w 138 g l why F) (hl : l.length ≤ 140737488351232) :
    Calls Try.prog 65 #[.pointer (some ⟨g, 0, none⟩), .int .i64 S] w fun e w' => e = .returned (.int .i64 (rdV S l why)) ∧ IsRdr w' 138 g (rdL S l why) (rdE S l why) F ∧ Tr (fun b => b = g) w w' := by
  have hok := rok_any g l why w h
  have HH := Lib.hid h
  obtain ⟨A, c, hb, hr, hc, hcm, hB, hA⟩ := h
  have c0 := hb.cell 0
  have c1 := hb.cell 1
  have f0 := hb.frozen 0
  have f1 := hb.frozen 1
  simp at c0 c1
  have HB := Lib.hid hb
  have HR := Lib.hid hr
  have HBB := Lib.hid hB
  have HA := Lib.hid hA
  have g1 : decide ((S : Int) < 1) = false := decide_eq_false (by omega)
  have g2 : decide ((8 : Int) < S) = false := decide_eq_false (by omega)
  have HG : Hid (Calls Try.prog 82 #[.slice A l.length c, .int .i64 0, .int .i64 S] w fun e w' => e = .returned (.tuple #[.int .u64 (gv 0 S l), .int .i64 (ge 0 S l)]) ∧ w = w') := Lib.hid (getG A c l 0 S w h1 h8 hr hB (by omega) hc (by omega))
  clear hb hr hB hA
  by_cases hw : why = 0
  · subst hw
    have HOK := Lib.hid hok
    clear hok
    by_cases hS : S ≤ l.length
    · have HE : Hid (gv 0 S l = unb (l.take S) ∧ ge 0 S l = 0 ∧ rdV S l 0 = wrap64 (unb (l.take S)) ∧ rdL S l 0 = l.drop S ∧ rdE S l 0 = 0) := Lib.hid ⟨(if_pos (by omega)).trans (by simp), if_pos (by omega), if_pos ⟨rfl, hS⟩, if_pos ⟨rfl, hS⟩, by unfold rdE; rw [if_pos rfl, if_pos hS]⟩
      rw [HE.out.1, HE.out.2.1] at HG
      rw [HE.out.2.2.1, HE.out.2.2.2.1, HE.out.2.2.2.2]
      have hsl : (S : Int) ≤ (l.length : Int) := by omega
      have hsc : (S : Int) ≤ (c : Int) := by omega
      have hcut := HR.out.cut (cap := c) (k := S) (by rw [by8_length]; exact hS) (by rw [by8_length]; exact hc)
      have HCUT := Lib.hid hcut
      clear hcut
      by_cases hne : c = S
      · subst hne
        go_enter Try.func65, Try.ntmps65
        go_wp2_with (first
        | (go_at_call 81; (with_reducible refine HOK.out.mono ?_); rintro e w' ⟨rfl, rfl⟩)
        | (go_at_call 82; (with_reducible refine HG.out.mono ?_); rintro e w' ⟨rfl, rfl⟩))
        go_ret
        rw [List.drop_eq_nil_of_le (by omega)]
        exact ⟨rfl, rdr_nil HB.out (by omega) HA.out⟩
      · go_enter Try.func65, Try.ntmps65
        go_wp2_with (first
        | (go_at_call 81; (with_reducible refine HOK.out.mono ?_); rintro e w' ⟨rfl, rfl⟩)
        | (go_at_call 82; (with_reducible refine HG.out.mono ?_); rintro e w' ⟨rfl, rfl⟩))
        go_ret
        have h2 := HCUT.out
        rw [if_neg hne, by8_drop] at h2
        refine ⟨rfl, rdr_cut HB.out h2 (by omega) (by omega) HBB.out (fun b hb => HA.out b (blo_cut (c := c) (S := S) (by rw [if_neg hne]; exact hb)))⟩
    · have HE : Hid (gv 0 S l = 0 ∧ ge 0 S l = 1 ∧ rdV S l 0 = 0 ∧ rdL S l 0 = l ∧ rdE S l 0 = 10) := Lib.hid ⟨if_neg (by omega), if_neg (by omega), if_neg (by omega), if_neg (by omega), by unfold rdE; rw [if_pos rfl, if_neg hS]⟩
      rw [HE.out.1, HE.out.2.1] at HG
      rw [HE.out.2.2.1, HE.out.2.2.2.1, HE.out.2.2.2.2]
      go_enter Try.func65, Try.ntmps65
      go_wp2_with (first
        | (go_at_call 81; (with_reducible refine HOK.out.mono ?_); rintro e w' ⟨rfl, rfl⟩)
        | (go_at_call 82; (with_reducible refine HG.out.mono ?_); rintro e w' ⟨rfl, rfl⟩))
      go_ret
      exact ⟨rfl, rdr_why HB.out HR.out hc hcm HBB.out HA.out 10⟩
  · have HE : Hid (rdV S l why = 0 ∧ rdL S l why = l ∧ rdE S l why = why) := Lib.hid ⟨if_neg (by omega), if_neg (by omega), if_neg hw⟩
    rw [HE.out.1, HE.out.2.1, HE.out.2.2]
    rw [show (why == 0) = false from by simpa using hw] at hok
    have HOK := Lib.hid hok
    clear hok
    go_enter Try.func65, Try.ntmps65
    go_wp2_with (first
      | (go_at_call 81; (with_reducible refine HOK.out.mono ?_); rintro e w' ⟨rfl, rfl⟩))
    go_ret
    exact ⟨rfl, HH.out, Tr.refl _ _⟩
set_option maxHeartbeats 800000 in
theorem of_any (A : Option Addr) (c : Nat) (l : List Int) (w : World) (hr : Rd w A (by8 l)) (hB : isB l) (hl : l.length ≤ 140737488351232) :
    Calls Try.prog 71 #[.slice A l.length c] w fun e w' => ∃ g, e = .returned (.pointer (some ⟨g, 0, none⟩)) ∧ IsRdr w' 146 g l 0 (fun b => w.heap.size ≤ b ∧ b < w'.heap.size) ∧ w.heap.size ≤ g ∧ Below w.heap.size w w' := by
  have H0 := Lib.hid (Blk.new w 146 #[.slice none 0 0, .int .i64 0])
  have c0 := H0.out.cell 0
  have f0 := H0.out.frozen 0
  simp at c0
  go_enter Try.func71, Try.ntmps71
  go_wp2_with (first
    | (at_builtin; refine wpL_append E8 rfl rfl (ownsRow_emp _ (w.heap.size + 1) _ _) rfl (hr.below (bl_alloc w _)) rfl (by simp [by8]) (by8_one l) l.length (by8 l) (by simp) (by simp) (by simp only [maxLen]; omega) (by omega) (by simp) ?_; intro A1 c1 W1 hc1 ho1 ht1 _; have HO := Lib.hid ho1; have HT := Lib.hid (ht1.below (fun b _ => Blo.none b)); have HB1 := Lib.hid (H0.out.keep HT.out); have x0 := HB1.out.cell 0; have y0 := HB1.out.frozen 0; simp at x0; clear ho1 ht1))
  go_ret
  have hA : ∀ b, Blo A1 b → b ≠ w.heap.size := fun b hb => by have := own_ge HO.out b hb; omega
  have hsz : (W1.setCell ⟨w.heap.size, 0, none⟩ (.slice A1 l.length c1)).heap.size = W1.heap.size := by simp [World.setCell]
  have hm : c1 ≤ maxLen := by
    obtain ⟨A', c', e, _, _, h⟩ := ownsRow_slice HO.out
    injection e with _ _ e
    omega
  refine ⟨w.heap.size, rfl, ⟨A1, c1, HB1.out.set_ 0 _, rd_set (Rd.of_own HO.out) hA _, hc1, hm, hB, fun b hb => ⟨hA b hb, by have := own_ge HO.out b hb; omega, by rw [hsz]; exact own_lt HO.out b hb⟩⟩, Nat.le_refl _, ?_⟩
  exact bl_tr (bl_chain (bl_alloc w _) HT.out) ((Tr.refl (fun b => b = w.heap.size) W1).setCell (p := ⟨w.heap.size, 0, none⟩) (fun _ => rfl) _) (fun b e => by omega)
set_option maxHeartbeats 800000 in
theorem rrdrNum (g : Nat) (l : List Int) (why : Int) (S : Nat) (w : World) (h1 : 1 ≤ S) (h8 : S ≤ 8) {F : Nat → Prop} (h : IsRdr w 146 g l why F) (hl : l.length ≤ 140737488351232) :
    Calls Try.prog 72 #[.pointer (some ⟨g, 0, none⟩), .int .i64 S] w fun e w' => e = .returned (.int .i64 (rdV S l why)) ∧ IsRdr w' 146 g (rdL S l why) (rdE S l why) F ∧ Tr (fun b => b = g) w w' := by
  have HH := Lib.hid h
  obtain ⟨A, c, hb, hr, hc, hcm, hB, hA⟩ := h
  have c0 := hb.cell 0
  have c1 := hb.cell 1
  have f0 := hb.frozen 0
  have f1 := hb.frozen 1
  simp at c0 c1
  have HB := Lib.hid hb
  have HR := Lib.hid hr
  have HBB := Lib.hid hB
  have HA := Lib.hid hA
  have g1 : decide ((S : Int) < 1) = false := decide_eq_false (by omega)
  have g2 : decide ((8 : Int) < S) = false := decide_eq_false (by omega)
  have HG : Hid (Calls Try.prog 84 #[.slice A l.length c, .int .i64 0, .int .i64 S] w fun e w' => e = .returned (.tuple #[.int .u64 (gv 0 S l), .int .i64 (ge 0 S l)]) ∧ w = w') := Lib.hid (rgetG A c l 0 S w h1 h8 hr hB (by omega) (by omega))
  clear hb hr hB hA
  by_cases hw : why = 0
  · subst hw
    by_cases hS : S ≤ l.length
    · have HE : Hid (gv 0 S l = unb (l.take S) ∧ ge 0 S l = 0 ∧ rdV S l 0 = wrap64 (unb (l.take S)) ∧ rdL S l 0 = l.drop S ∧ rdE S l 0 = 0) := Lib.hid ⟨(if_pos (by omega)).trans (by simp), if_pos (by omega), if_pos ⟨rfl, hS⟩, if_pos ⟨rfl, hS⟩, by unfold rdE; rw [if_pos rfl, if_pos hS]⟩
      rw [HE.out.1, HE.out.2.1] at HG
      rw [HE.out.2.2.1, HE.out.2.2.2.1, HE.out.2.2.2.2]
      have g3 : decide ((l.length : Int) < S) = false := decide_eq_false (by omega)
      have hsl : (S : Int) ≤ (l.length : Int) := by omega
      have hsc : (S : Int) ≤ (c : Int) := by omega
      have hcut := HR.out.cut (cap := c) (k := S) (by rw [by8_length]; exact hS) (by rw [by8_length]; exact hc)
      have HCUT := Lib.hid hcut
      clear hcut
      by_cases hne : c = S
      · subst hne
        go_enter Try.func72, Try.ntmps72
        go_wp2_with (first
        | (go_at_call 84; (with_reducible refine HG.out.mono ?_); rintro e w' ⟨rfl, rfl⟩))
        go_ret
        rw [List.drop_eq_nil_of_le (by omega)]
        exact ⟨rfl, rdr_nil HB.out (by omega) HA.out⟩
      · go_enter Try.func72, Try.ntmps72
        go_wp2_with (first
        | (go_at_call 84; (with_reducible refine HG.out.mono ?_); rintro e w' ⟨rfl, rfl⟩))
        go_ret
        have h2 := HCUT.out
        rw [if_neg hne, by8_drop] at h2
        refine ⟨rfl, rdr_cut HB.out h2 (by omega) (by omega) HBB.out (fun b hb => HA.out b (blo_cut (c := c) (S := S) (by rw [if_neg hne]; exact hb)))⟩
    · have HE : Hid (rdV S l 0 = 0 ∧ rdL S l 0 = l ∧ rdE S l 0 = 10) := Lib.hid ⟨if_neg (by omega), if_neg (by omega), by unfold rdE; rw [if_pos rfl, if_neg hS]⟩
      rw [HE.out.1, HE.out.2.1, HE.out.2.2]
      have g3 : decide ((l.length : Int) < S) = true := decide_eq_true (by omega)
      go_enter Try.func72, Try.ntmps72
      go_wp2_with fail
      go_ret
      exact ⟨rfl, rdr_why HB.out HR.out hc hcm HBB.out HA.out 10⟩
  · have HE : Hid (rdV S l why = 0 ∧ rdL S l why = l ∧ rdE S l why = why) := Lib.hid ⟨if_neg (by omega), if_neg (by omega), if_neg hw⟩
    rw [HE.out.1, HE.out.2.1, HE.out.2.2]
    have g4 : (why != 0) = true := by simpa using hw
    clear hw
    go_enter Try.func72, Try.ntmps72
    go_wp2_with fail
    go_ret
    exact ⟨rfl, HH.out, Tr.refl _ _⟩
end Go.Proofs.Ytceajiliahmkaaa
