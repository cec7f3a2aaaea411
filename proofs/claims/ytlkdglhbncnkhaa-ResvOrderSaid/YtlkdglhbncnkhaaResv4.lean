/- Contract of the program's package resv: preempt. -/
import Derived.Test.YtlkdglhbncnkhaaResv3
namespace Go.Proofs.Ytlkdglhbncnkhaa
set_option linter.unusedVariables false
open Go.RowKit

def takesB (s : RS) (c : RC) : Bool := (s.each && c.new == 0) || (s.kind != 0 && !s.each && s.key s.holder.toNat == c.new)
/-- Behind k rounds: the state, the notes; was any met? -/
structure PR where
  s : RS
  l : List Int
  any : Bool
def metB (s : RS) (c : RC) (k : Nat) : Bool := !(s.key k == 0 || (c.new != 0 && s.key k != c.new))
def preTo (s : RS) (n : Nat) (c : RC) (l : List Int) : Nat → PR
  | 0 => ⟨s, l, false⟩
  | k + 1 => if metB s c k = false then preTo s n c l k
    else if k = n then ⟨(preTo s n c l k).s, (preTo s n c l k).l, true⟩
    else ⟨(preTo s n c l k).s.lose k, (preTo s n c l k).l.set k 5, true⟩
def preemptO (s : RS) (n : Nat) (c : RC) (l : List Int) : Out :=
  if rightK c.kind = false then ⟨s, l, wrongR⟩
  else if takesB s c = false ∧ c.new = 0 then ⟨s, l, wrongR⟩
  else if takesB s c = true then
    ⟨((preTo s n c l 16).s.hold n c.kind).bump, if (preTo s n c l 16).s.kind ≠ c.kind ∨ ((preTo s n c l 16).s.each = false ∧ (preTo s n c l 16).s.holder ≠ n) then (preTo s n c l 16).s.rest n 4 (preTo s n c l 16).l else (preTo s n c l 16).l, goodR⟩
  else if (preTo s n c l 16).any = false then ⟨(preTo s n c l 16).s, (preTo s n c l 16).l, conflictR⟩
  else ⟨(if (preTo s n c l 16).s.empty = true then (preTo s n c l 16).s.free else (preTo s n c l 16).s).bump, (preTo s n c l 16).l, goodR⟩

section
variable {g gl : Nat} {s : RS} {l : List Int} {w : World}
theorem preTo_ok (h : s.Ok) (n : Nat) (c : RC) : ∀ k, (preTo s n c l k).s.Ok
  | 0 => h
  | k + 1 => by
    unfold preTo
    split
    · exact preTo_ok h n c k
    · split
      · exact preTo_ok h n c k
      · exact lose_ok (preTo_ok h n c k) k
theorem each_q (h : IsRS w g s) {b : Bool} (hb : s.each = b) : Calls Try.prog 33 #[.pointer (some ⟨g, 0, none⟩)] w fun e w' => e = .returned (.bool b) ∧ w' = w :=
  (each_any h).mono fun e w' ⟨h1, h2⟩ => ⟨by rw [h1, hb], h2.symm⟩

theorem preempt_w1 {n : Nat} {c : RC} (h1 : rightK c.kind = false) : preemptO s n c l = ⟨s, l, wrongR⟩ := if_pos h1
theorem preempt_w2 {n : Nat} {c : RC} (h1 : rightK c.kind = true) (h2 : takesB s c = false) (h3 : c.new = 0) : preemptO s n c l = ⟨s, l, wrongR⟩ := by
  unfold preemptO; rw [if_neg (by rw [h1]; simp), if_pos ⟨h2, h3⟩]
theorem preempt_t {n : Nat} {c : RC} (h1 : rightK c.kind = true) (h2 : takesB s c = true) : preemptO s n c l = ⟨((preTo s n c l 16).s.hold n c.kind).bump, if (preTo s n c l 16).s.kind ≠ c.kind ∨ ((preTo s n c l 16).s.each = false ∧ (preTo s n c l 16).s.holder ≠ n) then (preTo s n c l 16).s.rest n 4 (preTo s n c l 16).l else (preTo s n c l 16).l, goodR⟩ := by
  unfold preemptO; rw [if_neg (by rw [h1]; simp), if_neg (by rw [h2]; simp), if_pos h2]
theorem preempt_n {n : Nat} {c : RC} (h1 : rightK c.kind = true) (h2 : takesB s c = false) (h3 : c.new ≠ 0) (h4 : (preTo s n c l 16).any = false) : preemptO s n c l = ⟨(preTo s n c l 16).s, (preTo s n c l 16).l, conflictR⟩ := by
  unfold preemptO; rw [if_neg (by rw [h1]; simp), if_neg (fun h => h3 h.2), if_neg (by rw [h2]; simp), if_pos h4]
theorem preempt_a {n : Nat} {c : RC} (h1 : rightK c.kind = true) (h2 : takesB s c = false) (h3 : c.new ≠ 0) (h4 : (preTo s n c l 16).any = true) : preemptO s n c l = ⟨(if (preTo s n c l 16).s.empty = true then (preTo s n c l 16).s.free else (preTo s n c l 16).s).bump, (preTo s n c l 16).l, goodR⟩ := by
  unfold preemptO; rw [if_neg (by rw [h1]; simp), if_neg (fun h => h3 h.2), if_neg (by rw [h2]; simp), if_neg (by rw [h4]; simp)]
structure PIn (W1 W : World) (g gl : Nat) (p : PR) : Prop where
  s : IsRS W g p.s
  l : IsL W gl p.l
  t : Tr (fun b => b = g ∨ b = gl) W1 W
theorem RetO.eq {w w' : World} {g gl : Nat} {o o' : Out} {e : Ending} (h : o' = o) (hr : RetO w g gl o e w') : RetO w g gl o' e w' := h ▸ hr

set_option maxHeartbeats 8000000 in
set_option maxRecDepth 20000 in
theorem preempt_any (h : IsRS w g s) (hl : IsL w gl l) (hgl : gl ≠ g) (n : Nat) (hn : n < 16) (c : RC) (hc : c.Ok) :
    Calls Try.prog 24 #[.pointer (some ⟨g, 0, none⟩), .int .i64 n, .agg #[.int .i64 c.act, .int .u64 c.key, .int .u64 c.new, .int .i64 c.kind], .pointer (some ⟨gl, 0, none⟩)] w (RetO w g gl (preemptO s n c l)) := by
  have B0 := Lib.hid (bl_chain (bl_alloc w (.cells #[.int .i64 c.act, .int .u64 c.key, .int .u64 c.new, .int .i64 c.kind] 37)) (bl_alloc _ (.cells #[.int .i64 0, .int .i64 0, .int .i64 0, .int .i64 0, .slice none 0 0] 28)))
  have HH := Lib.hid (h.below B0.out)
  have HL := Lib.hid (hl.below B0.out)
  have hglt := h.lt
  have hllt := hl.lt
  have RB := Lib.hid (Blk.newAt (w.alloc (.cells #[.int .i64 c.act, .int .u64 c.key, .int .u64 c.new, .int .i64 c.kind] 37)) (w.heap.size + 1) 28 #[.int .i64 0, .int .i64 0, .int .i64 0, .int .i64 0, .slice none 0 0] (by simp))
  have n1 : g ≠ w.heap.size := by omega
  have n2 : g ≠ w.heap.size + 1 := by omega
  have k0 := HH.out.ckey hn
  have k2 := HH.out.chold
  have k3 := HH.out.ckind
  have k4 := HH.out.cgen
  have f32 := HH.out.fr 32
  have f33 := HH.out.fr 33
  have f34 := HH.out.fr 34
  have m0 : ((w.alloc (.cells #[.int .i64 c.act, .int .u64 c.key, .int .u64 c.new, .int .i64 c.kind] 37)).alloc (.cells #[.int .i64 0, .int .i64 0, .int .i64 0, .int .i64 0, .slice none 0 0] 28)).cell? ⟨w.heap.size, 3, none⟩ = some (.int .i64 c.kind) := by simp [go_sem]
  have m1 : ((w.alloc (.cells #[.int .i64 c.act, .int .u64 c.key, .int .u64 c.new, .int .i64 c.kind] 37)).alloc (.cells #[.int .i64 0, .int .i64 0, .int .i64 0, .int .i64 0, .slice none 0 0] 28)).cell? ⟨w.heap.size, 2, none⟩ = some (.int .u64 c.new) := by simp [go_sem]
  have okk := h.ok
  clear h hl

  have hck := hc.kind
  by_cases h1 : rightK c.kind = false
  · have HX := Lib.hid (preempt_w1 (s := s) (l := l) (n := n) h1)
    go_enter Try.func24, Try.ntmps24
    go_wp2_with (first
      | (go_at_call 38; (with_reducible refine (right_any c.kind _ hck).mono ?_); rintro e w' ⟨rfl, rfl⟩; rw [h1])
      | (go_at_call 19; (with_reducible refine (wrong_any _).mono ?_); rintro e w5 ⟨rfl, hb⟩; (obtain ⟨⟨x0, x1, x2, x3, x4, r0, r1, r2, r3, r4⟩, f0, f1, f2, f3, f4⟩ := rep_after (F := fun b => b = g) RB.out (by repeat (first | exact Tr.refl _ _ | refine tr_drew ?_ | refine tr_drewN ?_ | refine tr_cell (by rfl) ?_)) (by omega) hb rfl); have B5 := Lib.hid hb; clear hb))
    refine bodyPost_ret (v := .agg (Rep.cells wrongR)) (by simp [results, Try.results24, go_sem, Rep.cells, wrongR, r0, r1, r2, r3, r4]) rfl ?_
    refine RetO.eq HX.out ?_
    exact RetO.end_ B0.out (by omega) hglt hllt (tr_to (by repeat (first | exact Tr.refl _ _ | refine tr_drew ?_ | refine tr_drewN ?_ | refine tr_cell (by rfl) ?_))) HH.out HL.out B5.out
  · have h1' : rightK c.kind = true := by simpa using h1
    have RIGHT := Lib.hid h1'
    clear h1 h1'
    have hkey : s.kind ≠ 0 → ((w.alloc (.cells #[.int .i64 c.act, .int .u64 c.key, .int .u64 c.new, .int .i64 c.kind] 37)).alloc (.cells #[.int .i64 0, .int .i64 0, .int .i64 0, .int .i64 0, .slice none 0 0] 28)).cell? ⟨g, s.holder.toNat, none⟩ = some (.int .u64 (s.key s.holder.toNat)) := fun hk => by
      rcases okk.hk with ⟨h, _⟩ | ⟨_, h2, h3⟩
      · exact absurd h hk
      · exact HH.out.ckey (by omega)
    have tcs : (s.each = true ∧ (c.new == 0) = true ∧ takesB s c = true) ∨ (s.each = true ∧ (c.new == 0) = false ∧ (s.kind != 0) = true ∧ takesB s c = false) ∨ (s.each = false ∧ (s.kind != 0) = false ∧ takesB s c = false) ∨
        (s.each = false ∧ (s.kind != 0) = true ∧ (0 ≤ s.holder ∧ s.holder < 16) ∧ s.kind ≠ 0 ∧ (s.key s.holder.toNat == c.new) = true ∧ takesB s c = true) ∨ (s.each = false ∧ (s.kind != 0) = true ∧ (0 ≤ s.holder ∧ s.holder < 16) ∧ s.kind ≠ 0 ∧ (s.key s.holder.toNat == c.new) = false ∧ takesB s c = false) := by
      unfold takesB
      have hhk := okk.hk
      cases he : s.each
      · by_cases hk : s.kind = 0
        · right; right; left; simp [hk]
        · have hb : (0 ≤ s.holder ∧ s.holder < 16) := by
            rcases hhk with ⟨h, _⟩ | ⟨_, h⟩
            · exact absurd h hk
            · exact h
          right; right; right
          cases hx : (s.key s.holder.toNat == c.new)
          · right; simp [hk, hb]
          · left; simp [hk, hb]
      · have hk : s.kind ≠ 0 := by unfold RS.each at he; have := of_decide_eq_true he; omega
        cases hx : (c.new == 0)
        · right; left; simp [hk]
        · left; simp
    go_enter Try.func24, Try.ntmps24
    go_upto_region 3 with (first | (go_at_call 38; (with_reducible refine (right_any c.kind _ hck).mono ?_); rintro e w' ⟨rfl, rfl⟩; rw [RIGHT.out]))
    generalize (w.alloc (.cells #[.int .i64 c.act, .int .u64 c.key, .int .u64 c.new, .int .i64 c.kind] 37)).alloc (.cells #[.int .i64 0, .int .i64 0, .int .i64 0, .int .i64 0, .slice none 0 0] 28) = W1 at HH HL RB B0 k0 k2 k3 k4 f32 f33 f34 m0 m1 hkey ⊢
    go_cut [9] (fun v9 wx => v9 = .bool (takesB s c) ∧ ∃ nq, wx = W1.drewN nq)
    case first =>
      rcases tcs with ⟨q1, q2, q3⟩ | ⟨q1, q2, q3, q4⟩ | ⟨q1, q2, q3⟩ | ⟨q1, q2, ⟨q3, q3'⟩, q4, q5, q6⟩ | ⟨q1, q2, ⟨q3, q3'⟩, q4, q5, q6⟩
      all_goals
        try have kk := hkey q4
        clear hkey
        go_quiet ((go_at_call 33; exact Calls.quiet_of_same (each_q (HH.out.drewN _) q1)))
        go_wp2_with fail
        go_meet
        first
          | exact ⟨by rw [q3], _, rfl⟩
          | exact ⟨by rw [q4], _, rfl⟩
          | exact ⟨by rw [q6], _, rfl⟩
    case rest =>
      obtain ⟨rfl, nq, rfl⟩ := hcut
      clear tcs hkey
      have hnc : (takesB s c = false ∧ (c.new == 0) = true) ∨ (takesB s c = false ∧ (c.new == 0) = false) ∨ takesB s c = true := by
        cases takesB s c <;> cases (c.new == 0) <;> simp
      rcases hnc with ⟨q1, q2⟩ | hnc
      · have HX := Lib.hid (preempt_w2 (s := s) (l := l) (n := n) RIGHT.out q1 (by simpa using q2))
        go_wp2_with (first
          | (go_at_call 19; (with_reducible refine (wrong_any _).mono ?_); rintro e w5 ⟨rfl, hb⟩; (obtain ⟨⟨x0, x1, x2, x3, x4, r0, r1, r2, r3, r4⟩, f0, f1, f2, f3, f4⟩ := rep_after (F := fun b => b = g) RB.out (by repeat (first | exact Tr.refl _ _ | refine tr_drew ?_ | refine tr_drewN ?_ | refine tr_cell (by rfl) ?_)) (by omega) hb rfl); have B5 := Lib.hid hb; clear hb))
        refine bodyPost_ret (v := .agg (Rep.cells wrongR)) (by simp [results, Try.results24, go_sem, Rep.cells, wrongR, r0, r1, r2, r3, r4]) rfl ?_
        refine RetO.eq HX.out ?_
        exact RetO.end_ B0.out (by omega) hglt hllt (tr_to (by repeat (first | exact Tr.refl _ _ | refine tr_drew ?_ | refine tr_drewN ?_ | refine tr_cell (by rfl) ?_))) (HH.out.drewN _) (HL.out.tr (F := fun b => b = g) (by repeat (first | exact Tr.refl _ _ | refine tr_drew ?_ | refine tr_drewN ?_ | refine tr_cell (by rfl) ?_)) hgl) B5.out
      · have HSW := Lib.hid (HH.out.drewN nq)
        have HLW := Lib.hid (HL.out.below (bl_drewN _ nq))
        have PL : Hid (∀ k, k < 16 → (s.key k == 0) = true ∧ metB s c k = false ∨ ((s.key k == 0) = false ∧ (c.new != 0) = true ∧ (s.key k != c.new) = true ∧ metB s c k = false) ∨ ((s.key k == 0) = false ∧ (c.new != 0) = true ∧ (s.key k != c.new) = false ∧ metB s c k = true) ∨ ((s.key k == 0) = false ∧ (c.new != 0) = false ∧ metB s c k = true)) := Lib.hid fun k hk => by
          unfold metB
          cases (s.key k == 0) <;> cases (c.new != 0) <;> cases (s.key k != c.new) <;> simp
        have hW1 := B0.out.size
        rcases hnc with ⟨q1, q2⟩ | q1
        all_goals
          go_wp2_with (first
            | (refine wpL_loadArr (ty := 54) rfl rfl rfl (loadKeys HSW.out) Try.underlying54 rfl (by rw [List.size_toArray, List.length_map, HSW.out.ok.lk]; exact info16) ?_))
          go_loopw [10, 63] (fun v10 v w2 => ∃ k : Nat, k ≤ 16 ∧ v = .int .i64 k ∧ v10 = .bool (preTo s n c l k).any ∧ PIn W1 w2 g gl (preTo s n c l k)) (fun _ v _ => 16 - (intOf v).toNat)
          case atStart => exact ⟨0, by omega, rfl, rfl, ⟨HSW.out, HLW.out, tr_drewN (Tr.refl _ _)⟩⟩
          case round =>
            obtain ⟨k, hk, rfl, rfl, hp⟩ := hrel
            have HP := Lib.hid hp
            clear hp
            by_cases hlt : k < 16
            · have hix := fun w => run_index_arr (P := Try.prog) (w := w) Try.underlying54 Try.underlying32 size64 (s.keys.map (Value.int .u64)).toArray k hlt _ (key_at okk hlt)
              have mm : wr.cell? ⟨w.heap.size, 2, none⟩ = some (.int .u64 c.new) := by
                rw [HP.out.t.cell (p := ⟨w.heap.size, 2, none⟩) (cell_block_lt m1) (by show ¬ (w.heap.size = g ∨ w.heap.size = gl); omega)]; exact m1
              rcases PL.out k hlt with ⟨p1, p2⟩ | ⟨p1, p2, p3, p4⟩ | ⟨p1, p2, p3, p4⟩ | ⟨p1, p2, p4⟩
              · have HE : Hid (preTo s n c l (k + 1) = preTo s n c l k) := Lib.hid (by rw [preTo, if_pos p2])
                clear p2
                go_wp2_with fail
                go_roundw
                case rel => exact ⟨k + 1, by omega, by go_num, by rw [HE.out], by rw [HE.out]; exact HP.out⟩
                case measure => simp [intOf]; omega
              · have HE : Hid (preTo s n c l (k + 1) = preTo s n c l k) := Lib.hid (by rw [preTo, if_pos p4])
                clear p4
                go_wp2_with fail
                go_roundw
                case rel => exact ⟨k + 1, by omega, by go_num, by rw [HE.out], by rw [HE.out]; exact HP.out⟩
                case measure => simp [intOf]; omega
              all_goals
                by_cases hkn : k = n
                · have HE : Hid (preTo s n c l (k + 1) = ⟨(preTo s n c l k).s, (preTo s n c l k).l, true⟩) := Lib.hid (by rw [preTo, if_neg (by rw [p4]; simp), if_pos hkn])
                  have b1 : ((k : Int) != (n : Int)) = false := by simp [hkn]
                  clear hkn p4
                  go_wp2_with fail
                  go_roundw
                  case rel => exact ⟨k + 1, by omega, by go_num, by rw [HE.out], by rw [HE.out]; exact ⟨HP.out.s, HP.out.l, HP.out.t⟩⟩
                  case measure => simp [intOf]; omega
                · have HE : Hid (preTo s n c l (k + 1) = ⟨(preTo s n c l k).s.lose k, (preTo s n c l k).l.set k 5, true⟩) := Lib.hid (by rw [preTo, if_neg (by rw [p4]; simp), if_neg hkn])
                  have b1 : ((k : Int) != (n : Int)) = true := by simp; omega
                  clear hkn p4
                  go_wp2_with (first
                    | (go_at_call 34; (with_reducible refine (lose_any HP.out.s k hlt).mono ?_); rintro e w7 ⟨rfl, hs7, ht7⟩; have HS7 := Lib.hid hs7; have T7 := Lib.hid (HP.out.t.trans (tr_to (gl := gl) ht7) (fun _ _ h => h)); have HL7 := Lib.hid (HP.out.l.tr ht7 hgl); have hc7 := HL7.out.cell hlt; have hf7 := HL7.out.blk.frozen k; clear hs7 ht7))
                  go_roundw
                  case rel =>
                    refine ⟨k + 1, by omega, by go_num, by rw [HE.out], ?_⟩
                    rw [HE.out]
                    exact ⟨HS7.out.tr (tr_set _ gl k _) (fun e => hgl e.symm), HL7.out.store hlt 5, T7.out.trans ((tr_set _ gl k _).mono (fun _ _ e => .inr e)) (fun _ _ h => h)⟩
                  case measure => simp [intOf]; omega
            · have hk16 : k = 16 := by omega
              subst hk16
              clear hk hlt
              have hPok : (preTo s n c l 16).s.Ok := preTo_ok okk n c 16
              have m0r : wr.cell? ⟨w.heap.size, 3, none⟩ = some (.int .i64 c.kind) := by
                rw [HP.out.t.cell (p := ⟨w.heap.size, 3, none⟩) (cell_block_lt m0) (by show ¬ (w.heap.size = g ∨ w.heap.size = gl); omega)]; exact m0
              rcases (show takesB s c = true ∨ takesB s c = false by cases takesB s c <;> simp) with t1 | t1
              · first
                | (exfalso; rw [q1] at t1; exact Bool.noConfusion t1)
                | skip
                all_goals
                  have hx := preempt_t (s := s) (l := l) (n := n) (c := c) RIGHT.out t1
                  generalize preTo s n c l 16 = p at HP hx hPok
                  have HX := Lib.hid hx
                  clear hx PL
                  have y2 := HP.out.s.chold
                  have y3 := HP.out.s.ckind
                  have ycs : ((p.s.kind != c.kind) = true ∧ ((p.s.kind != c.kind) || (!p.s.each && p.s.holder != n)) = true) ∨ ((p.s.kind != c.kind) = false ∧ p.s.each = true ∧ ((p.s.kind != c.kind) || (!p.s.each && p.s.holder != n)) = false) ∨ ((p.s.kind != c.kind) = false ∧ p.s.each = false ∧ (p.s.holder != n) = true ∧ ((p.s.kind != c.kind) || (!p.s.each && p.s.holder != n)) = true) ∨ ((p.s.kind != c.kind) = false ∧ p.s.each = false ∧ (p.s.holder != n) = false ∧ ((p.s.kind != c.kind) || (!p.s.each && p.s.holder != n)) = false) := by
                    cases (p.s.kind != c.kind) <;> cases p.s.each <;> cases (p.s.holder != (n : Int)) <;> simp
                  have HS := Lib.hid HP.out.s
                  go_upto_region 17 with fail
                  go_cut [112] (fun v wx => v = .bool ((p.s.kind != c.kind) || (!p.s.each && p.s.holder != n)) ∧ ∃ nq, wx = wr.drewN nq)
                  case first =>
                    rcases ycs with ⟨z1, z5⟩ | ⟨z1, z2, z5⟩ | ⟨z1, z2, z3, z5⟩ | ⟨z1, z2, z3, z5⟩
                    all_goals
                      go_quiet ((go_at_call 33; exact Calls.quiet_of_same (each_q (HS.out.drewN _) z2)))
                      go_wp2_with fail
                      go_meet
                      exact ⟨by rw [z5], _, rfl⟩
                  case rest =>
                    obtain ⟨rfl, nq2, rfl⟩ := hcut
                    have HP2 : PIn W1 (wr.drewN nq2) g gl p := ⟨HP.out.s.drewN _, HP.out.l.below (bl_drewN _ _), tr_drewN HP.out.t⟩
                    have m2r : (wr.drewN nq2).cell? ⟨w.heap.size, 3, none⟩ = some (.int .i64 c.kind) := m0r
                    have HP3 := Lib.hid HP2
                    clear HP2 m0r y2 y3 ycs HP HS
                    generalize wr.drewN nq2 = W2 at HP3 m2r ⊢
                    have hn16 : (0 : Int) ≤ (n : Int) ∧ (n : Int) < 16 := by omega
                    have HF : Hid (((p.s.kind != c.kind) || (!p.s.each && p.s.holder != n)) = true ↔ (p.s.kind ≠ c.kind ∨ (p.s.each = false ∧ p.s.holder ≠ n))) := Lib.hid (by simp)
                    cases hF : ((p.s.kind != c.kind) || (!p.s.each && p.s.holder != n))
                    · have HX2 : Hid (preemptO s n c l = ⟨(p.s.hold n c.kind).bump, p.l, goodR⟩) := Lib.hid (by rw [HX.out, if_neg (fun h => by have := HF.out.2 h; rw [hF] at this; cases this)])
                      have y2 := HP3.out.s.chold
                      have y3 := HP3.out.s.ckind
                      have y4 := HP3.out.s.cgen
                      have g2 := HP3.out.s.fr 32
                      have g3 := HP3.out.s.fr 33
                      have g4 := HP3.out.s.fr 34
                      clear hF
                      go_wp2_with fail
                      go_region
                      go_wp2_with (first
                        | (go_at_call 32; (with_reducible refine (good_any _).mono ?_); rintro e w5 ⟨rfl, hb⟩; (obtain ⟨⟨x0, x1, x2, x3, x4, r0, r1, r2, r3, r4⟩, f0, f1, f2, f3, f4⟩ := rep_after (F := fun b => b = g ∨ b = gl) RB.out (HP3.out.t.trans (tr_to (by repeat (first | exact Tr.refl _ _ | refine tr_drew ?_ | refine tr_drewN ?_ | refine tr_cell (by rfl) ?_))) (fun _ _ h => h)) (by omega) hb rfl); have B5 := Lib.hid hb; clear hb))
                      refine bodyPost_ret (v := .agg (Rep.cells goodR)) (by simp [results, Try.results24, go_sem, Rep.cells, goodR, r0, r1, r2, r3, r4]) rfl ?_
                      refine RetO.eq HX2.out ?_
                      refine RetO.end_ B0.out (by omega) hglt hllt (HP3.out.t.trans (tr_to (by repeat (first | exact Tr.refl _ _ | refine tr_drew ?_ | refine tr_drewN ?_ | refine tr_cell (by rfl) ?_))) (fun _ _ h => h)) ?_ (HP3.out.l.tr (F := fun b => b = g) (by repeat (first | exact Tr.refl _ _ | refine tr_drew ?_ | refine tr_drewN ?_ | refine tr_cell (by rfl) ?_)) hgl) B5.out
                      first
                        | exact ((HP3.out.s.hold_ (hold_ok hPok hn16 RIGHT.out)).drew).bump_
                        | exact ((HP3.out.s.hold_ (hold_ok hPok hn16 RIGHT.out)).bump_).drew
                    · have HX2 : Hid (preemptO s n c l = ⟨(p.s.hold n c.kind).bump, p.s.rest n 4 p.l, goodR⟩) := Lib.hid (by rw [HX.out, if_pos (HF.out.1 hF)])
                      clear hF
                      go_wp2_with (first
                        | (go_at_call 37; (with_reducible refine (rest_any HP3.out.s HP3.out.l n hn 4).mono ?_); rintro e w8 ⟨rfl, hl8, ht8⟩; have HS8 := Lib.hid (HP3.out.s.tr ht8 (fun e => hgl e.symm)); have HL8 := Lib.hid hl8; have T8 := Lib.hid (HP3.out.t.trans (ht8.mono (G := fun b => b = g ∨ b = gl) (fun _ _ e => .inr e)) (fun _ _ h => h)); have m3r := (ht8.cell (p := ⟨w.heap.size, 3, none⟩) (cell_block_lt m2r) (by show ¬ (w.heap.size = gl); omega)).trans m2r; have y2 := HS8.out.chold; have y3 := HS8.out.ckind; have y4 := HS8.out.cgen; have g2 := HS8.out.fr 32; have g3 := HS8.out.fr 33; have g4 := HS8.out.fr 34; clear hl8 ht8))
                      go_region
                      go_wp2_with (first
                        | (go_at_call 32; (with_reducible refine (good_any _).mono ?_); rintro e w5 ⟨rfl, hb⟩; (obtain ⟨⟨x0, x1, x2, x3, x4, r0, r1, r2, r3, r4⟩, f0, f1, f2, f3, f4⟩ := rep_after (F := fun b => b = g ∨ b = gl) RB.out (T8.out.trans (tr_to (by repeat (first | exact Tr.refl _ _ | refine tr_drew ?_ | refine tr_drewN ?_ | refine tr_cell (by rfl) ?_))) (fun _ _ h => h)) (by omega) hb rfl); have B5 := Lib.hid hb; clear hb))
                      refine bodyPost_ret (v := .agg (Rep.cells goodR)) (by simp [results, Try.results24, go_sem, Rep.cells, goodR, r0, r1, r2, r3, r4]) rfl ?_
                      refine RetO.eq HX2.out ?_
                      refine RetO.end_ B0.out (by omega) hglt hllt (T8.out.trans (tr_to (by repeat (first | exact Tr.refl _ _ | refine tr_drew ?_ | refine tr_drewN ?_ | refine tr_cell (by rfl) ?_))) (fun _ _ h => h)) ?_ (HL8.out.tr (F := fun b => b = g) (by repeat (first | exact Tr.refl _ _ | refine tr_drew ?_ | refine tr_drewN ?_ | refine tr_cell (by rfl) ?_)) hgl) B5.out
                      first
                        | exact ((HS8.out.hold_ (hold_ok hPok hn16 RIGHT.out)).drew).bump_
                        | exact ((HS8.out.hold_ (hold_ok hPok hn16 RIGHT.out)).bump_).drew
              · first
                | (exfalso; rw [q1] at t1; exact Bool.noConfusion t1)
                | skip
                all_goals
                  have hnew : c.new ≠ 0 := by simpa using q2
                  have hx1 := preempt_n (s := s) (l := l) (n := n) (c := c) RIGHT.out t1 hnew
                  have hx2 := preempt_a (s := s) (l := l) (n := n) (c := c) RIGHT.out t1 hnew
                  clear hnew PL
                  generalize preTo s n c l 16 = p at HP hx1 hx2 hPok ⊢
                  have HX1 := Lib.hid hx1
                  have HX2 := Lib.hid hx2
                  clear hx1 hx2
                  cases hany : p.any
                  · go_wp2_with (first
                      | (go_at_call 26; (with_reducible refine (conflict_any _).mono ?_); rintro e w5 ⟨rfl, hb⟩; (obtain ⟨⟨x0, x1, x2, x3, x4, r0, r1, r2, r3, r4⟩, f0, f1, f2, f3, f4⟩ := rep_after (F := fun b => b = g ∨ b = gl) RB.out HP.out.t (by omega) hb rfl); have B5 := Lib.hid hb; clear hb))
                    refine bodyPost_ret (v := .agg (Rep.cells conflictR)) (by simp [results, Try.results24, go_sem, Rep.cells, conflictR, r0, r1, r2, r3, r4]) rfl ?_
                    exact RetO.eq (HX1.out hany) (RetO.end_ B0.out (by omega) hglt hllt HP.out.t HP.out.s HP.out.l B5.out)
                  · have HXA := Lib.hid (HX2.out hany)
                    have y4 := HP.out.s.cgen
                    have g4 := HP.out.s.fr 34
                    cases hem : p.s.empty
                    · have HXB : Hid (preemptO s n c l = ⟨p.s.bump, p.l, goodR⟩) := Lib.hid (by rw [HXA.out, if_neg (by rw [hem]; simp)])
                      go_wp2_with (first
                        | (go_at_call 35; (with_reducible refine (empty_any HP.out.s).mono ?_); rintro e w' ⟨rfl, rfl⟩; rw [hem])
                        | (go_at_call 32; (with_reducible refine (good_any _).mono ?_); rintro e w5 ⟨rfl, hb⟩; (obtain ⟨⟨x0, x1, x2, x3, x4, r0, r1, r2, r3, r4⟩, f0, f1, f2, f3, f4⟩ := rep_after (F := fun b => b = g ∨ b = gl) RB.out (tr_cell (.inl rfl) HP.out.t) (by omega) hb rfl); have B5 := Lib.hid hb; clear hb))
                      refine bodyPost_ret (v := .agg (Rep.cells goodR)) (by simp [results, Try.results24, go_sem, Rep.cells, goodR, r0, r1, r2, r3, r4]) rfl ?_
                      exact RetO.eq HXB.out (RetO.end_ B0.out (by omega) hglt hllt (tr_cell (.inl rfl) HP.out.t) HP.out.s.bump_ (HP.out.l.tr (tr_cell (F := fun b => b = g) rfl (Tr.refl _ _)) hgl) B5.out)
                    · have HXB : Hid (preemptO s n c l = ⟨p.s.free.bump, p.l, goodR⟩) := Lib.hid (by rw [HXA.out, if_pos hem])
                      clear y4 g4
                      go_wp2_with (first
                        | (go_at_call 35; (with_reducible refine (empty_any HP.out.s).mono ?_); rintro e w' ⟨rfl, rfl⟩; rw [hem])
                        | (go_at_call 36; (with_reducible refine (free_any HP.out.s).mono ?_); rintro e w8 ⟨rfl, hs8, ht8⟩; have HS8 := Lib.hid hs8; have y4 := hs8.cgen; have g4 := hs8.fr 34; have T8 := Lib.hid (HP.out.t.trans (tr_to (gl := gl) ht8) (fun _ _ h => h)); have HL8 := Lib.hid (HP.out.l.tr ht8 hgl); clear hs8 ht8)
                        | (go_at_call 32; (with_reducible refine (good_any _).mono ?_); rintro e w5 ⟨rfl, hb⟩; (obtain ⟨⟨x0, x1, x2, x3, x4, r0, r1, r2, r3, r4⟩, f0, f1, f2, f3, f4⟩ := rep_after (F := fun b => b = g ∨ b = gl) RB.out (tr_cell (.inl rfl) T8.out) (by omega) hb rfl); have B5 := Lib.hid hb; clear hb))
                      refine bodyPost_ret (v := .agg (Rep.cells goodR)) (by simp [results, Try.results24, go_sem, Rep.cells, goodR, r0, r1, r2, r3, r4]) rfl ?_
                      exact RetO.eq HXB.out (RetO.end_ B0.out (by omega) hglt hllt (tr_cell (.inl rfl) T8.out) HS8.out.bump_ (HL8.out.tr (tr_cell (F := fun b => b = g) rfl (Tr.refl _ _)) hgl) B5.out)

end
end Go.Proofs.Ytlkdglhbncnkhaa

