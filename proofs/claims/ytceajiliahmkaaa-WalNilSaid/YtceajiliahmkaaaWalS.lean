/- Layer 4: Append, all its ways. -/
import Derived.Test.YtceajiliahmkaaaWalO
import Derived.Test.YtceajiliahmkaaaWalQ
namespace Go.Proofs.Ytceajiliahmkaaa
set_option linter.unusedVariables false
set_option linter.unusedSimpArgs false
set_option maxRecDepth 100000
open Go.RowKit

section
variable {w w' : World} {p d : Nat} {x : LG} {A Ab : Option Addr} {c cb : Nat} {D : DS} {M R F : Nat → Prop} {b : List Int}
theorem wappend_any (h : LgAt w p d x A c D M R) (hg : x.Geo D.n) (hs : x.Small) (hm : b.length ≤ 140737488351232) (hrb : Rd w Ab (by8 b)) (hbB : isB b) (hbd : ∀ q, Blo Ab q → ¬ M q ∧ q ≠ p ∧ ¬ Blo A q) (hfew : D.gs.length < 999990) :
    Calls Try.prog 8 #[.pointer (some ⟨p, 0, none⟩), .slice Ab b.length cb] w (RetApp w p d M R A (x.app D b)) := by
  by_cases hno : x.dead = true ∨ x.big b
  · refine (append_no h hg hm hno).mono ?_
    rintro e w1 ⟨he, hx, rfl⟩
    have e1 : (x.app D b).x = x ∧ (x.app D b).D = D := by rw [hx]; exact ⟨rfl, rfl⟩
    unfold RetApp
    rw [e1.1, e1.2]
    exact ⟨A, c, M, R, he, h, fun b h => .inl h, fun b h => .inl h, fun b h => .inl h, Tr.refl _ _⟩
  · have hd : ¬ x.dead = true := fun e => hno (.inl e)
    have hb : ¬ x.big b := fun e => hno (.inr e)
    have hd' : x.dead = false := by simpa using hd
    by_cases hn : x.need b
    · have e : x.app D b = x.appN D b := by unfold LG.app LG.appN; rw [if_neg hd, if_neg hb, if_pos hn]
      rw [e]
      cases hf : x.fresh with
      | true => exact append_new h hg hs hd' hb hf hrb hbB hbd hfew
      | false => exact append_full h hg hs hd' hb hf (hn.resolve_left (by rw [hf]; simp)) hrb hbB hbd hfew
    · have e : x.app D b = x.app1 D b := by unfold LG.app; rw [if_neg hd, if_neg hb, if_neg hn]
      rw [e]
      exact append_on h hg hs hd' hb hn hrb hbB hbd (by omega)
end
end Go.Proofs.Ytceajiliahmkaaa
