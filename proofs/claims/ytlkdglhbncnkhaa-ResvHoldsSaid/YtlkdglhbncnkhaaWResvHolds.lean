/- The walk of ResvHolds. -/
import Derived.Test.YtlkdglhbncnkhaaResvRow
import Derived.Test.YtlkdglhbncnkhaaResvPlain2
import Derived.Test.YtlkdglhbncnkhaaExt
namespace Go.Proofs.Ytlkdglhbncnkhaa
set_option linter.unusedVariables false
open Go.RowKit

def anyTo (s : RS) : Nat → Bool
  | 0 => false
  | j + 1 => anyTo s j || s.key j != 0
theorem anyTo_of {s : RS} {n : Nat} (hk : s.key n ≠ 0) : ∀ j, n < j → anyTo s j = true
  | 0, h => by omega
  | j + 1, h => by
    unfold anyTo
    by_cases e : n = j
    · subst e
      have : (s.key n != 0) = true := by simp [hk]
      rw [this, Bool.or_true]
    · rw [anyTo_of hk j (by omega)]
      rfl
structure HIn (w W : World) (g : Nat) (s : RS) : Prop where
  st : IsRS W g s
  f : Fenc s
  h : HInv s
  b : Below w.heap.size w W
  g : w.heap.size ≤ g
theorem HIn.below {w W W' : World} {g : Nat} {s : RS} (h : HIn w W g s) (hb : Below W.heap.size W W') : HIn w W' g s := ⟨h.st.below hb, h.f, h.h, bl_chain h.b hb, h.g⟩
theorem HIn.do_ {w W W' : World} {g : Nat} {s : RS} (h : HIn w W g s) (nx : Int) (c : RC) (hs : IsRS W' g (doO s nx c).s) (ht : Tr (fun b => b = g) W W') : HIn w W' g (doO s nx c).s :=
  ⟨hs, fenc_step h.f (fun n hn => do_chg h.st.ok nx c hn), hinv_do h.h h.st.ok nx c, bl_tr h.b ht (fun b e => by have := h.g; omega), h.g⟩

set_option maxHeartbeats 16000000 in
set_option maxRecDepth 20000 in
theorem resvHolds_walk (A : Option Addr) (c : Nat) (l : List ActS) (w : World) (hl : l.length ≤ 140737488351232)
    (hx : ∀ i (h : i < l.length), l[i].Ok ∧ ∃ b o, A = some ⟨b, o, none⟩ ∧ ∀ j u, l[i].cells[j]? = some u → w.cell? ⟨b, o + (i * 5 + j), none⟩ = some u) :
    Calls Try.prog 4 #[.slice A l.length c] w fun e w' => e = .returned (.bool true) ∧ Below w.heap.size w w' := by
  have HX := Lib.hid hx
  clear hx
  go_enter Try.func4, Try.ntmps4
  go_wp2_with (first
    | (go_at_call 7; (with_reducible refine (new_any _).mono ?_); rintro e w1 ⟨rfl, hs, hb⟩; have F1 := Lib.hid (show HIn w w1 w.heap.size newRS from ⟨hs, fenc_new, hinv_new, hb, Nat.le_refl _⟩); clear hs hb))
  go_loopw [4] (fun v w2 => ∃ (k : Nat) (s : RS), k ≤ l.length ∧ k ≤ 80 ∧ v = .int .i64 k ∧ HIn w w2 w.heap.size s) (fun v _ => 80 - (intOf v).toNat)
  case atStart => exact ⟨0, newRS, by omega, by omega, rfl, F1.out⟩
  case round =>
    obtain ⟨k, s, hkl, hk, rfl, hf⟩ := hrel
    have HF := Lib.hid hf
    clear hf F1
    by_cases hlt : k < l.length ∧ k < 80
    · obtain ⟨h1, h2⟩ := hlt
      obtain ⟨hok, ab, ao, rfl, hce⟩ := HX.out k h1
      have HOK := Lib.hid hok
      have hbl : ab < w.heap.size := cell_block_lt (hce 0 _ rfl)
      have x0 : ∀ W, Ext w W → W.cell? ⟨ab, ao + k * 5, none⟩ = some (.int .i64 (l[k]).n) := fun W hW => (hW.cell hbl).trans (hce 0 _ rfl)
      have x1 : ∀ W, Ext w W → W.cell? ⟨ab, ao + k * 5 + 1, none⟩ = some (.int .i64 (l[k]).c.act) := fun W hW => (hW.cell hbl).trans (hce 1 _ rfl)
      have x2 : ∀ W, Ext w W → W.cell? ⟨ab, ao + k * 5 + 1 + 1, none⟩ = some (.int .u64 (l[k]).c.key) := fun W hW => (hW.cell hbl).trans (hce 2 _ rfl)
      have x3 : ∀ W, Ext w W → W.cell? ⟨ab, ao + k * 5 + 1 + 2, none⟩ = some (.int .u64 (l[k]).c.new) := fun W hW => (hW.cell hbl).trans (hce 3 _ rfl)
      have x4 : ∀ W, Ext w W → W.cell? ⟨ab, ao + k * 5 + 1 + 3, none⟩ = some (.int .i64 (l[k]).c.kind) := fun W hW => (hW.cell hbl).trans (hce 4 _ rfl)
      clear hok hce
      generalize l[k] = y at HOK x0 x1 x2 x3 x4
      have HFD := Lib.hid (HF.out.below (bl_drew wr))
      go_wp2_with fail
      refine ext_start0 (w0 := w) (by kernel_rfl) ?_
      refine ext_take0 (w0 := w) (HFD.out.b) (i := 0) (v := ?_) rfl (by kernel_rfl) (by kernel_rfl) (by kernel_rfl) (fun _ _ _ h => h) (Or.inl ⟨by rfl, ?_⟩) ?_
      rotate_left
      · (intro W hSw; go_simp; try with_reducible rfl)
      try simp only [Act.put, List.setIfInBounds_toArray, List.set_cons_zero, List.set_cons_succ]
      refine ext_take0 (w0 := w) (HFD.out.b) (i := 1) (v := ?_) rfl (by kernel_rfl) (by kernel_rfl) (by kernel_rfl) (fun _ _ _ h => h) (Or.inl ⟨by rfl, ?_⟩) ?_
      rotate_left
      · (intro W hSw; go_simp; try with_reducible rfl)
      try simp only [Act.put, List.setIfInBounds_toArray, List.set_cons_zero, List.set_cons_succ]
      refine ext_take0 (w0 := w) (HFD.out.b) (i := 2) (v := ?_) rfl (by kernel_rfl) (by kernel_rfl) (by kernel_rfl) (fun _ _ _ h => h) (Or.inl ⟨by rfl, ?_⟩) ?_
      rotate_left
      · (intro W hSw; go_simp; try with_reducible rfl)
      try simp only [Act.put, List.setIfInBounds_toArray, List.set_cons_zero, List.set_cons_succ]
      refine ext_take0 (w0 := w) (HFD.out.b) (i := 3) (v := ?_) rfl (by kernel_rfl) (by kernel_rfl) (by kernel_rfl) (fun _ _ _ h => h) (Or.inl ⟨by rfl, ?_⟩) ?_
      rotate_left
      · (intro W hSw; go_simp; try with_reducible rfl)
      try simp only [Act.put, List.setIfInBounds_toArray, List.set_cons_zero, List.set_cons_succ]
      refine ext_take0 (w0 := w) (HFD.out.b) (i := 4) (v := ?_) rfl (by kernel_rfl) (by kernel_rfl) (by kernel_rfl) (fun _ _ _ h => h) (Or.inl ⟨by rfl, ?_⟩) ?_
      rotate_left
      · (intro W hSw; go_simp; try with_reducible rfl)
      try simp only [Act.put, List.setIfInBounds_toArray, List.set_cons_zero, List.set_cons_succ]
      refine ext_take0 (w0 := w) (HFD.out.b) (i := 5) (v := ?_) rfl (by kernel_rfl) (by kernel_rfl) (by kernel_rfl) (fun _ _ _ h => h) (Or.inl ⟨by rfl, ?_⟩) ?_
      rotate_left
      · (intro W hSw; go_simp; try with_reducible rfl)
      try simp only [Act.put, List.setIfInBounds_toArray, List.set_cons_zero, List.set_cons_succ]
      refine ext_take0 (w0 := w) (HFD.out.b) (i := 6) (v := ?_) rfl (by kernel_rfl) (by kernel_rfl) (by kernel_rfl) (fun _ _ _ h => h) (Or.inl ⟨by rfl, ?_⟩) ?_
      rotate_left
      · (intro W hSw; go_simp; try with_reducible rfl)
      try simp only [Act.put, List.setIfInBounds_toArray, List.set_cons_zero, List.set_cons_succ]
      refine ext_take0 (w0 := w) (HFD.out.b) (i := 7) (v := ?_) rfl (by kernel_rfl) (by kernel_rfl) (by kernel_rfl) (fun _ _ _ h => h) (Or.inl ⟨by rfl, ?_⟩) ?_
      rotate_left
      · (intro W hSw; go_simp; try with_reducible rfl)
      try simp only [Act.put, List.setIfInBounds_toArray, List.set_cons_zero, List.set_cons_succ]
      refine ext_take0 (w0 := w) (HFD.out.b) (i := 8) (v := ?_) rfl (by kernel_rfl) (by kernel_rfl) (by kernel_rfl) (fun _ _ _ h => h) (Or.inl ⟨by rfl, ?_⟩) ?_
      rotate_left
      · (intro W hSw; go_simp; try with_reducible rfl)
      try simp only [Act.put, List.setIfInBounds_toArray, List.set_cons_zero, List.set_cons_succ]
      refine ext_take0 (w0 := w) (HFD.out.b) (i := 9) (v := ?_) rfl (by kernel_rfl) (by kernel_rfl) (by kernel_rfl) (fun _ _ _ h => h) (Or.inl ⟨by rfl, ?_⟩) ?_
      rotate_left
      · (intro W hSw; go_simp; try with_reducible rfl)
      try simp only [Act.put, List.setIfInBounds_toArray, List.set_cons_zero, List.set_cons_succ]
      refine ext_take0 (w0 := w) (HFD.out.b) (i := 10) (v := ?_) rfl (by kernel_rfl) (by kernel_rfl) (by kernel_rfl) (fun _ _ _ h => h) (Or.inl ⟨by rfl, ?_⟩) ?_
      rotate_left
      · (intro W hSw; go_simp; try with_reducible rfl)
      try simp only [Act.put, List.setIfInBounds_toArray, List.set_cons_zero, List.set_cons_succ]
      refine ext_call0 (w0 := w) (i := 11) (by kernel_rfl) rfl (fun K hK => ?_)
      go_simp
      (first | (go_at_call 9; (with_reducible refine (given_any _ _ _ _ _).mono ?_); rintro e w4 ⟨rfl, hb⟩; have F4 := Lib.hid (HFD.out.below hb); clear hb))
      refine hK.out _ _ (F4.out.b) ?_
      clear hK K
      try simp only [Act.put, List.setIfInBounds_toArray, List.set_cons_zero, List.set_cons_succ]
      refine ext_call0 (w0 := w) (i := 12) (by kernel_rfl) rfl (fun K hK => ?_)
      go_simp
      (first | (go_at_call 8; (with_reducible refine (do_any F4.out.st y.n HOK.out.n y.c HOK.out.c).mono ?_); rintro e w5 ⟨A5, k5, rfl, hs, ho, ht⟩; have F5 := Lib.hid (F4.out.do_ y.n y.c hs ht); clear hs ho ht))
      refine hK.out _ _ (F5.out.b) ?_
      clear hK K
      try simp only [Act.put, List.setIfInBounds_toArray, List.set_cons_zero, List.set_cons_succ]
      refine wpAnyH_done (by kernel_rfl) ?_ _
      clear x0 x1 x2 x3 x4
      generalize (doO s y.n y.c).s = s2 at F5
      have HKS := Lib.hid (kinds F5.out.st.ok)
      have hcs : (s2.kind = 0 ∧ (s2.kind == 0) = true ∧ (s2.holder == -1) = true ∧ -1 ≤ s2.holder ∧ s2.holder < 16) ∨ (s2.kind ≠ 0 ∧ (s2.kind == 0) = false ∧ (s2.holder == -1) = false ∧ -1 ≤ s2.holder ∧ s2.holder < 16) := by
        rcases F5.out.st.ok.hk with ⟨h1, h2⟩ | ⟨h1, h2, h3⟩
        · left; exact ⟨h1, by simp [h1], by simp [h2], by omega, by omega⟩
        · right
          have := rightK_range h1
          exact ⟨by omega, by simp; omega, by simp; omega, by omega, by omega⟩
      rcases hcs with ⟨hz, q1, q2, q3, q4⟩ | ⟨hz, q1, q2, q3, q4⟩
      · have hq5 : (s2.kind != 0) = false := by simp [hz]
        clear hz
        go_wp2_with (first
          | (go_at_call 14; (with_reducible refine (holder_any F5.out.st).mono ?_); rintro e w6 ⟨rfl, hb⟩; have F6 := Lib.hid (F5.out.below hb); clear hb))
        obtain ⟨wo, rfl⟩ : ∃ wo : World, wo = wr := ⟨_, rfl⟩
        go_loopw [7, 8] (fun v7 v w2 => ∃ (j : Nat), j ≤ 16 ∧ v = .int .i64 j ∧ v7 = .bool (anyTo s2 j) ∧ w6 = w2) (fun _ v _ => 16 - (intOf v).toNat)
        case atStart => exact ⟨0, by omega, rfl, rfl, rfl⟩
        case round =>
          obtain ⟨j, hj, rfl, rfl, rfl⟩ := hrel
          by_cases hgo : j < 16
          · have HU : Hid (anyTo s2 (j + 1) = (anyTo s2 j || s2.key j != 0)) := Lib.hid rfl
            cases ha : anyTo s2 j
            all_goals
              have HA := Lib.hid ha
              clear ha
              go_wp2_with (first
                | (go_at_call 10; (with_reducible refine (key_any F6.out.st j hgo).mono ?_); rintro e w' ⟨rfl, rfl⟩))
              go_roundw
              case rel => exact ⟨j + 1, by omega, by go_num, by rw [HU.out, HA.out]; rfl, trivial⟩
              case measure => simp [intOf]; omega
          · have hj16 : j = 16 := by omega
            subst hj16
            clear hj hgo
            go_wp2_with fail
            go_roundw
            case rel => exact ⟨k + 1, s2, by omega, by omega, by go_num, F6.out⟩
            case measure => simp [intOf]; omega
      · have HANY := Lib.hid (F5.out.h.any hz)
        have HLAW := Lib.hid (fun n hn => holds_law F5.out.h F5.out.f F5.out.st.ok hz (n := n) hn)
        have hq5 : (s2.kind != 0) = true := by simp [hz]
        clear hz
        go_wp2_with (first
          | (go_at_call 14; (with_reducible refine (holder_any F5.out.st).mono ?_); rintro e w6 ⟨rfl, hb⟩; have F6 := Lib.hid (F5.out.below hb); clear hb))
        obtain ⟨wo, rfl⟩ : ∃ wo : World, wo = wr := ⟨_, rfl⟩
        go_loopw [7, 8] (fun v7 v w2 => ∃ (j : Nat), j ≤ 16 ∧ v = .int .i64 j ∧ v7 = .bool (anyTo s2 j) ∧ w6 = w2) (fun _ v _ => 16 - (intOf v).toNat)
        case atStart => exact ⟨0, by omega, rfl, rfl, rfl⟩
        case round =>
          obtain ⟨j, hj, rfl, rfl, rfl⟩ := hrel
          by_cases hgo : j < 16
          · have HU : Hid (anyTo s2 (j + 1) = (anyTo s2 j || s2.key j != 0)) := Lib.hid rfl
            obtain ⟨L1, L2, L3⟩ := HLAW.out j hgo
            have hk368 : ((s2.kind == 3) = true ∧ (s2.kind < 7) ∧ (s2.kind = 3 ∨ s2.kind = 6 ∨ s2.kind = 8)) ∨ ((s2.kind == 3) = false ∧ (s2.kind == 6) = true ∧ (s2.kind < 7) ∧ (s2.kind = 3 ∨ s2.kind = 6 ∨ s2.kind = 8)) ∨ ((s2.kind == 3) = false ∧ (s2.kind == 6) = false ∧ (s2.kind == 8) = true ∧ ¬ (s2.kind < 7) ∧ (s2.kind = 3 ∨ s2.kind = 6 ∨ s2.kind = 8)) ∨ ((s2.kind == 3) = false ∧ (s2.kind == 6) = false ∧ (s2.kind == 8) = false ∧ (s2.kind < 7) ∧ True) ∨ ((s2.kind == 3) = false ∧ (s2.kind == 6) = false ∧ (s2.kind == 8) = false ∧ ¬ (s2.kind < 7) ∧ True) := by
              rcases HKS.out with h | h | h | h | h | h | h
              · simp [h] at q1
              all_goals simp [h]
            have hcomb : ∃ (r wv hb kz : Bool), mayR s2 j = r ∧ mayW s2 j = wv ∧ ((j : Int) == s2.holder) = hb ∧ (s2.key j == 0) = kz := ⟨_, _, _, _, rfl, rfl, rfl, rfl⟩
            obtain ⟨r, wv, hb, kz, p1, p2, p3, p4⟩ := hcomb
            have HL1 : Hid ((s2.kind = 3 ∨ s2.kind = 6 ∨ s2.kind = 8) → r = true → wv = true) := Lib.hid (by rw [← p1, ← p2]; exact L1)
            have HL2 : Hid (wv = true → r = true) := Lib.hid (by rw [← p1, ← p2]; exact L2)
            have HL3 : Hid (hb = true → s2.kind < 7 → r = true ∧ wv = true ∧ kz = false) := Lib.hid (fun h1 h2 => by
              rw [← p3] at h1
              obtain ⟨h3, h4, h5⟩ := L3 (by simpa using h1) h2
              exact ⟨by rw [← p1]; exact h3, by rw [← p2]; exact h4, by rw [← p4]; simp [h5]⟩)
            clear L1 L2 L3
            cases ha : anyTo s2 j
            all_goals
              have HA := Lib.hid ha
              clear ha
              rcases hk368 with ⟨e1, e4, e5⟩ | ⟨e1, e2, e4, e5⟩ | ⟨e1, e2, e3, e4, e5⟩ | ⟨e1, e2, e3, e4, e5⟩ | ⟨e1, e2, e3, e4, e5⟩
              all_goals
                have HE5 := Lib.hid e5
                clear e5
                cases r <;> cases wv
                all_goals first
                | (exfalso; exact absurd (HL2.out rfl) (by decide))
                | (exfalso; exact absurd (HL1.out HE5.out rfl) (by decide))
                | skip
                all_goals
                  cases hb
                  all_goals first
                  | (exfalso; exact absurd (HL3.out rfl e4).1 (by decide))
                  | (exfalso; exact absurd (HL3.out rfl e4).2.1 (by decide))
                  | skip
                  all_goals
                    have HKZ : Hid ((false : Bool) = true ∨ True) := Lib.hid (.inr trivial)
                    try (have hkz := (HL3.out rfl e4).2.2; rw [hkz] at p4; clear hkz)
                    go_wp2_with (first
                      | (go_at_call 10; (with_reducible refine (key_any F6.out.st j hgo).mono ?_); rintro e w' ⟨rfl, rfl⟩)
                      | (go_at_call 11; (with_reducible refine (mayr_any F6.out.st j hgo).mono ?_); rintro e w' ⟨rfl, rfl⟩; rw [p1])
                      | (go_at_call 11; (with_reducible refine (mayw_any F6.out.st j hgo).mono ?_); rintro e w' ⟨rfl, rfl⟩; rw [p2]))
                    go_roundw
                    case rel => exact ⟨j + 1, by omega, by go_num, by rw [HU.out, HA.out]; rfl, trivial⟩
                    case measure => simp [intOf]; omega
          · have hj16 : j = 16 := by omega
            subst hj16
            have hany : anyTo s2 16 = true := by
              obtain ⟨n, h1, h2⟩ := HANY.out
              exact anyTo_of h2 16 h1
            clear hj hgo
            go_wp2_with fail
            go_roundw
            case rel => exact ⟨k + 1, s2, by omega, by omega, by go_num, F6.out⟩
            case measure => simp [intOf]; omega
    · have hcase : (k < l.length ∧ k = 80) ∨ k = l.length := by omega
      clear hlt
      rcases hcase with ⟨h1, h2⟩ | h1
      all_goals
        go_wp2_with (first
          | (go_at_call 13; (with_reducible refine (known_any _).mono ?_); rintro e w7 ⟨rfl, hb⟩; have B7 := Lib.hid hb; clear hb))
        go_ret
        exact ⟨by rfl, bl_chain HF.out.b B7.out⟩
end Go.Proofs.Ytlkdglhbncnkhaa
