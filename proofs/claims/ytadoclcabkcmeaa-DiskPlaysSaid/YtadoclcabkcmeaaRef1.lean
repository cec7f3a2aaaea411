/- The reference's disk in memory; contracts of there, Image, Now, Read. -/
import Derived.Test.YtadoclcabkcmeaaRefDef
import Derived.BigRegion
namespace Go.Proofs.Ytadoclcabkcmeaa
set_option linter.unusedVariables false
open Go.RowKit

/-- The reference's groups. -/
def RGAt (w : World) (R : Nat → Prop) : List (Nat × List Int) → List Value → Prop
  | [], vs => vs = []
  | g :: gs, vs => ∃ (b q c : Nat) (cs r : List Value), vs = .int .i64 g.1 :: .slice (some ⟨b, 0, none⟩) q c :: r ∧ g.2.length = 256 * q ∧ Rd w (some ⟨b, 0, none⟩) cs ∧ StsAt w R 256 (chunks q g.2) cs ∧ R b ∧ RGAt w R gs r
section
variable {w w' : World} {R S F : Nat → Prop}
theorem RGAt.length : ∀ {gs : List (Nat × List Int)} {vs : List Value}, RGAt w R gs vs → vs.length = gs.length * 2
  | [], _, h => by cases h; rfl
  | g :: gs, _, ⟨b, q, c, cs, r, e, _, _, _, _, h⟩ => by subst e; simp [h.length]; omega
theorem RGAt.tr (ht : Tr F w w') (hF : ∀ b, R b → ¬ F b) (hS : ∀ b, R b → S b) : ∀ {gs : List (Nat × List Int)} {vs : List Value}, RGAt w R gs vs → RGAt w' S gs vs
  | [], _, h => h
  | g :: gs, _, ⟨b, q, c, cs, r, e, hl, hr, hs, hb, h⟩ => ⟨b, q, c, cs, r, e, hl, hr.tr ht (fun ad e => by injection e with e; subst e; exact hF _ hb), hs.tr ht hF hS, hS b hb, h.tr ht hF hS⟩
theorem RGAt.one : ∀ {gs : List (Nat × List Int)} {vs : List Value}, RGAt w R gs vs → ∀ u ∈ vs, u.oneCell' = true
  | [], _, h => by cases h; intro u hu; cases hu
  | g :: gs, _, ⟨b, q, c, cs, r, e, _, _, _, _, h⟩ => by
    subst e
    intro u hu
    rcases List.mem_cons.1 hu with rfl | hu
    · rfl
    · rcases List.mem_cons.1 hu with rfl | hu
      · rfl
      · exact h.one u hu
theorem RGAt.snoc {b q c at_ : Nat} {d : List Int} {cs : List Value} (hl : d.length = 256 * q) (hr : Rd w (some ⟨b, 0, none⟩) cs) (hs : StsAt w R 256 (chunks q d) cs) (hb : R b) :
    ∀ {gs : List (Nat × List Int)} {vs : List Value}, RGAt w R gs vs → RGAt w R (gs ++ [(at_, d)]) (vs ++ [.int .i64 at_, .slice (some ⟨b, 0, none⟩) q c])
  | [], _, h => by cases h; exact ⟨b, q, c, cs, [], rfl, hl, hr, hs, hb, rfl⟩
  | _ :: _, _, ⟨b', q', c', cs', r, e, k1, k2, k3, k4, h⟩ => by subst e; exact ⟨b', q', c', cs', _, rfl, k1, k2, k3, k4, h.snoc hl hr hs hb⟩
theorem RGAt.get : ∀ {gs : List (Nat × List Int)} {vs : List Value}, RGAt w R gs vs → ∀ i (hi : i < gs.length),
    ∃ b q c cs, vs[2 * i]? = some (.int .i64 gs[i].1) ∧ vs[2 * i + 1]? = some (.slice (some ⟨b, 0, none⟩) q c) ∧ gs[i].2.length = 256 * q ∧ Rd w (some ⟨b, 0, none⟩) cs ∧ StsAt w R 256 (chunks q gs[i].2) cs ∧ R b
  | [], _, _, i, hi => by cases hi
  | g :: gs, _, ⟨b, q, c, cs, r, e, hl, hr, hs, hb, h⟩, 0, _ => by subst e; exact ⟨b, q, c, cs, rfl, rfl, hl, hr, hs, hb⟩
  | g :: gs, _, ⟨b, q, c, cs, r, e, hl, hr, hs, hb, h⟩, i + 1, hi => by
    subst e
    obtain ⟨b', q', c', cs', h1, h2, h3⟩ := h.get i (by simpa using hi)
    refine ⟨b', q', c', cs', ?_, ?_, h3⟩
    · rw [show 2 * (i + 1) = 2 * i + 1 + 1 from by omega, List.getElem?_cons_succ, List.getElem?_cons_succ]; exact h1
    · rw [show 2 * (i + 1) + 1 = 2 * i + 1 + 1 + 1 from by omega, List.getElem?_cons_succ, List.getElem?_cons_succ]; exact h2
end

/-- The reference's disk at block g. -/
structure RAt (w : World) (g : Nat) (D : DS) (M R : Nat → Prop) (bs cs : Nat) (cells : List Value) (Al : Option Addr) (cl : Nat) (lcells : List Value) : Prop where
  ok : D.Ok
  good : D.Good
  blk : Blk w g 47 #[.slice (some ⟨bs, 0, none⟩) D.n cs, .slice Al D.gs.length cl, .bool D.failing, .bool D.dead]
  safe : w.ownsRow 0 29 1 (.slice (some ⟨bs, 0, none⟩) D.n cs) D.n cells
  sat : StsAt w R 256 (chunks D.n D.safe) cells
  row : w.ownsRow 0 70 2 (.slice Al D.gs.length cl) D.gs.length lcells
  gat : RGAt w R D.gs lcells
  mg : M g
  ms : M bs
  ml : ∀ b, Blo Al b → M b
  rm : ∀ b, R b → ¬ M b
  few : D.gs.length ≤ 1000000
  mlt : ∀ b, M b → b < w.heap.size
  rlt : ∀ b, R b → b < w.heap.size
def IsRef (w : World) (g : Nat) (D : DS) (M R : Nat → Prop) : Prop := ∃ bs cs cells Al cl lcells, RAt w g D M R bs cs cells Al cl lcells
theorem RAt.tr {w w' : World} {g : Nat} {D : DS} {M R F : Nat → Prop} {bs cs : Nat} {cells : List Value} {Al : Option Addr} {cl : Nat} {lcells : List Value} (h : RAt w g D M R bs cs cells Al cl lcells) (ht : Tr F w w') (hM : ∀ b, M b → ¬ F b) (hR : ∀ b, R b → ¬ F b) : RAt w' g D M R bs cs cells Al cl lcells :=
  ⟨h.ok, h.good, ht.blk h.blk (hM _ h.mg), own_tr h.safe ht (fun b hb => hM _ (by have := (Blo.some_iff _ _).1 hb; exact this ▸ h.ms)), h.sat.tr ht hR (fun _ x => x),
    own_tr h.row ht (fun b hb => hM _ (h.ml b hb)), h.gat.tr ht hR (fun _ x => x), h.mg, h.ms, h.ml, h.rm, h.few, fun b x => Nat.lt_of_lt_of_le (h.mlt b x) ht.size, fun b x => Nat.lt_of_lt_of_le (h.rlt b x) ht.size⟩
theorem IsRef.tr {w w' : World} {g : Nat} {D : DS} {M R F : Nat → Prop} (h : IsRef w g D M R) (ht : Tr F w w') (hM : ∀ b, M b → ¬ F b) (hR : ∀ b, R b → ¬ F b) : IsRef w' g D M R := by
  obtain ⟨bs, cs, cells, Al, cl, lcells, h⟩ := h
  exact ⟨bs, cs, cells, Al, cl, lcells, h.tr ht hM hR⟩
theorem RAt.below {w w' : World} {g : Nat} {D : DS} {M R : Nat → Prop} {bs cs : Nat} {cells : List Value} {Al : Option Addr} {cl : Nat} {lcells : List Value} (h : RAt w g D M R bs cs cells Al cl lcells) (hb : Below w.heap.size w w') : RAt w' g D M R bs cs cells Al cl lcells :=
  h.tr (Tr.of_below (F := NoB) hb) (fun _ _ => id) (fun _ _ => id)
theorem IsRef.below {w w' : World} {g : Nat} {D : DS} {M R : Nat → Prop} (h : IsRef w g D M R) (hb : Below w.heap.size w w') : IsRef w' g D M R :=
  h.tr (Tr.of_below (F := NoB) hb) (fun _ _ => id) (fun _ _ => id)
theorem IsRef.ok {w : World} {g : Nat} {D : DS} {M R : Nat → Prop} (h : IsRef w g D M R) : D.Ok := by obtain ⟨_, _, _, _, _, _, h⟩ := h; exact h.ok
theorem IsRef.good {w : World} {g : Nat} {D : DS} {M R : Nat → Prop} (h : IsRef w g D M R) : D.Good := by obtain ⟨_, _, _, _, _, _, h⟩ := h; exact h.good
theorem IsRef.mlt {w : World} {g : Nat} {D : DS} {M R : Nat → Prop} (h : IsRef w g D M R) : ∀ b, M b → b < w.heap.size := by obtain ⟨_, _, _, _, _, _, h⟩ := h; exact h.mlt
theorem IsRef.rlt {w : World} {g : Nat} {D : DS} {M R : Nat → Prop} (h : IsRef w g D M R) : ∀ b, R b → b < w.heap.size := by obtain ⟨_, _, _, _, _, _, h⟩ := h; exact h.rlt

section
variable {g : Nat} {D : DS} {M R : Nat → Prop} {w : World}
set_option maxHeartbeats 400000 in
theorem there_any (at_ n : Int) (hd : IsRef w g D M R) (hbig : -9223372036854775808 ≤ at_ ∧ at_ ≤ 9223372036854775807 ∧ -9223372036854775808 ≤ n ∧ n ≤ 9223372036854775807) :
    Calls Try.prog 40 #[.pointer (some ⟨g, 0, none⟩), .int .i64 at_, .int .i64 n] w fun e w' => e = .returned (.bool (!wrongD D.n at_ n)) ∧ w = w' := by
  obtain ⟨bs, cs, cells, Al, cl, lcells, h⟩ := hd
  have c0 := h.blk.cell 0
  simp at c0
  have hmost := h.ok.most
  have hb' : (wrongD D.n at_ n = true ∧ (at_ < 0 ∨ (0 ≤ at_ ∧ n < 1) ∨ (0 ≤ at_ ∧ 1 ≤ n ∧ (D.n : Int) < n) ∨ (0 ≤ at_ ∧ 1 ≤ n ∧ n ≤ (D.n : Int) ∧ (D.n : Int) - n < at_))) ∨ (wrongD D.n at_ n = false ∧ 0 ≤ at_ ∧ 1 ≤ n ∧ n ≤ (D.n : Int) ∧ at_ ≤ (D.n : Int) - n) := by
    unfold wrongD
    by_cases h : at_ < 0 ∨ n < 1 ∨ (D.n : Int) < n ∨ (D.n : Int) - n < at_
    · left; exact ⟨decide_eq_true h, by omega⟩
    · right; exact ⟨decide_eq_false h, by omega⟩
  clear h
  generalize hb : wrongD D.n at_ n = b at hb' ⊢
  clear hb
  rcases hb' with ⟨rfl, h | ⟨h, h2⟩ | ⟨h, h2, h3⟩ | ⟨h, h2, h3, h4⟩⟩ | ⟨rfl, h, h2, h3, h4⟩
  all_goals
    go_enter Try.func40, Try.ntmps40
    go_wp2_with fail
    go_ret
    exact ⟨by first | rfl | (simp; omega), rfl⟩

/-- Bytes that have been read, of a known length. -/
def RetJ (w : World) (l : List Int) (m : Nat) (e : Ending) (w' : World) : Prop := ∃ A' c', e = .returned (.slice A' m c') ∧ m ≤ c' ∧ w'.ownsRow w.heap.size 5 1 (.slice A' m c') m (by8 l) ∧ Below w.heap.size w w'
set_option maxHeartbeats 400000 in
theorem rimage_any (hd : IsRef w g D M R) : Calls Try.prog 36 #[.pointer (some ⟨g, 0, none⟩)] w (RetJ w D.safe (256 * D.n)) := by
  obtain ⟨bs, cs, cells, Al, cl, lcells, h⟩ := hd
  have c0 := h.blk.cell 0
  simp at c0
  have HH := Lib.hid h
  have hmost := h.ok.most
  clear h
  go_enter Try.func36, Try.ntmps36
  go_wp2_with (first
    | (go_at_call 41; (with_reducible refine (joined_any (some ⟨bs, 0, none⟩) D.n cs _ cells R w (Rd.of_own HH.out.safe) HH.out.sat (chunks_length _ _) hmost).mono ?_); rintro e w1 hw1; have HW1 := Lib.hid hw1; obtain ⟨A1, c1, he1, _⟩ := hw1; subst he1; clear c0))
  go_ret
  obtain ⟨A2, c2, he, hc, ho, hb⟩ := HW1.out
  rw [chunks_all HH.out.ok.len] at ho
  exact ⟨A2, c2, he, hc, ho, hb⟩
end
end Go.Proofs.Ytadoclcabkcmeaa
