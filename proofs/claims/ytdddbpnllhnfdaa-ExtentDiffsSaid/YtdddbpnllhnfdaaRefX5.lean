/- The reference: SameChanges of two lists that are alike. -/
import Derived.Test.YtdddbpnllhnfdaaRefX4
namespace Go.Proofs.Ytdddbpnllhnfdaa
set_option linter.unusedVariables false
set_option linter.unusedSimpArgs false
set_option maxRecDepth 100000
open Go.RowKit Go.Shelf

def ChS.kd (y : ChS) : Int × List Int := (y.lba, y.d)
set_option maxHeartbeats 3200000 in
theorem samech_true (A : Option Addr) (k : Nat) (l : List ChS) (A2 : Option Addr) (k2 : Nat) (l2 : List ChS) (w : World) (hl : l.length ≤ 140737488351232) (h1 : ChsAt w A l) (h2 : ChsAt w A2 l2) (he : l.map ChS.kd = l2.map ChS.kd) :
    Calls Try.prog 25 #[.slice A l.length k, .slice A2 l2.length k2] w fun e w' => e = .returned (.bool true) ∧ Below w.heap.size w w' := by
  have hlen : l.length = l2.length := by have := congrArg List.length he; simpa using this
  have H1 := Lib.hid h1
  have H2 := Lib.hid h2
  have HE := Lib.hid (show ∀ i (h : i < l.length) (h' : i < l2.length), l[i].lba = l2[i].lba ∧ l[i].d = l2[i].d from fun i h h' => by
    have : (l.map ChS.kd)[i]? = (l2.map ChS.kd)[i]? := by rw [he]
    rw [List.getElem?_map, List.getElem?_map, List.getElem?_eq_getElem h, List.getElem?_eq_getElem h'] at this
    simpa [ChS.kd] using this)
  have HL := Lib.hid hlen
  rw [← hlen]
  clear h1 h2 he hlen
  go_enter Try.func25, Try.ntmps25
  go_wp2_with fail
  go_loopw [5] (fun v w2 => ∃ j : Nat, j ≤ l.length ∧ v = .int .i64 (j : Int) ∧ Below w.heap.size w w2) (fun v _ => l.length - (RowKit.intOf v).toNat)
  case atStart => exact ⟨0, by omega, rfl, Below.refl _ _⟩
  case round =>
    obtain ⟨j, hj, rfl, hb⟩ := hrel
    have HB := Lib.hid hb
    clear hb
    by_cases hlt : j < l.length
    · have hlt2 : j < l2.length := by have := HL.out; omega
      obtain ⟨hin, b, o, rfl, hc⟩ := (H1.out.below HB.out) j hlt
      obtain ⟨hin2, b2, o2, rfl, hc2⟩ := (H2.out.below HB.out) j hlt2
      obtain ⟨e1, e2⟩ := HE.out j hlt hlt2
      have x0 := hc 0 _ rfl
      have x1 := hc 1 _ rfl
      have y0 := hc2 0 _ rfl
      have y1 := hc2 1 _ rfl
      simp only [Nat.add_zero] at x0 y0
      rw [← Nat.add_assoc] at x1 y1
      clear hc hc2
      have r1 := hin.rd
      have r2 := hin2.rd
      clear hin hin2
      generalize l[j] = y at e1 e2 x0 x1 r1
      generalize l2[j] = y2 at e1 e2 y0 y1 r2
      rw [← e1] at y0
      rw [← e2] at y1 r2
      obtain ⟨dn, hdn⟩ : ∃ dn, y.d.length = dn := ⟨_, rfl⟩
      obtain ⟨S, hS⟩ : ∃ S, strOfNums y.d = S := ⟨_, rfl⟩
      have c1 : ∀ n, (convert 28 9 (.slice y.A dn y.c)).run Try.prog (wr.drewN n) = .ok (.string S) (wr.drewN n) := fun n => by rw [← hS]; exact conv8 dn y.c (r1.drewN n) hdn
      have c2 : ∀ n, (convert 28 9 (.slice y2.A dn y2.c)).run Try.prog (wr.drewN n) = .ok (.string S) (wr.drewN n) := fun n => by rw [← hS]; exact conv8 dn y2.c (r2.drewN n) hdn
      rw [hdn] at x1 y1
      have eS : (S.toList == S.toList) = true := by simp
      have eS2 : (S.toList != S.toList) = false := by simp
      generalize y.lba = z at x0 y0 e1
      clear e1 e2 r1 r2 hdn hS
      go_wp2_with fail
      go_quiet (fail)
      go_wp2_with fail
      exact ⟨⟨j + 1, by omega, by go_num, bl_chain HB.out (bl_drewN _ _)⟩, by simp [RowKit.intOf]; omega⟩
    · go_wp2_with fail
      go_ret
      exact ⟨rfl, HB.out⟩
end Go.Proofs.Ytdddbpnllhnfdaa
