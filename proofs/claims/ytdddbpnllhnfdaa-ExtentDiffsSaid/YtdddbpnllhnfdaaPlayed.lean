/- played of the laws of 05: an image behind a script. -/
import Derived.Test.YtdddbpnllhnfdaaStepX
import Derived.Test.YtdddbpnllhnfdaaRunsL
namespace Go.Proofs.Ytdddbpnllhnfdaa
set_option linter.unusedVariables false
set_option linter.unusedSimpArgs false
set_option maxRecDepth 100000
open Go.RowKit Go.Shelf

theorem tmod256 {n : Int} (h : n < 0) : -256 < n.tmod 256 ∧ n.tmod 256 ≤ 0 := by
  have h1 : n.tmod 256 = -((-n) % 256) := by
    rw [show n = -(-n) by omega, Int.neg_tmod, Int.tmod_eq_emod_of_nonneg (by omega)]
    simp
  omega
theorem count256 (n : Int) (w : World) (hn : -9223372036854775808 ≤ n ∧ n ≤ 9223372036854775807) : Calls Try.prog 11 #[.int .i64 n, .int .i64 256] w fun e w' => (∃ k : Nat, k < 256 ∧ e = .returned (.int .i64 (k : Int))) ∧ w = w' := by
  by_cases h0 : 0 ≤ n
  · have h1 : 0 ≤ n % 256 := Int.emod_nonneg _ (by omega)
    have h2 : n % 256 < 256 := Int.emod_lt_of_pos _ (by omega)
    go_enter Try.func11, Try.ntmps11
    go_wp2_with fail
    go_ret
    refine ⟨⟨(n % 256).toNat, by omega, ?_⟩, rfl⟩
    rw [show ((n % 256).toNat : Int) = n % 256 by omega]; rfl
  · obtain ⟨h1, h2⟩ := tmod256 (show n < 0 by omega)
    go_enter Try.func11, Try.ntmps11
    go_wp2_with fail
    · go_ret
      refine ⟨⟨(n.tmod 256 + 256).toNat, by omega, ?_⟩, rfl⟩
      rw [show ((n.tmod 256 + 256).toNat : Int) = n.tmod 256 + 256 by omega]; rfl
    · go_ret
      refine ⟨⟨(n.tmod 256).toNat, by omega, ?_⟩, rfl⟩
      rw [show ((n.tmod 256).toNat : Int) = n.tmod 256 by omega]; rfl
theorem stepL_length (L : List (List Int)) (y : OpA) : (stepL L y).length = L.length := by
  unfold stepL
  split
  · unfold writeL; split
    · exact wrTo_length _ _ _ _
    · rfl
  · split
    · unfold unmapL; split
      · exact clrTo_length _ _ _
      · rfl
    · split
      · unfold changeL; split
        · exact chTo_length _ _
        · rfl
      · rfl
def RetImg (w : World) (n : Nat) (e : Ending) (w' : World) : Prop := ∃ g L M, e = .returned (.pointer (some ⟨g, 0, none⟩)) ∧ L.length = n ∧ Img w' g L M ∧ (∀ b, M b → w.heap.size ≤ b) ∧ Below w.heap.size w w'
set_option maxHeartbeats 1600000 in
theorem played_any (z : Int) (n : Nat) (hz : z = (n : Int)) (h1 : 1 ≤ n) (h2 : n ≤ 256) (A : Option Addr) (c : Nat) (l : List OpA) (w : World) (hl : l.length ≤ 140737488351232) (hA : OpsAt w A l) :
    Calls Try.prog 10 #[.int .i64 z, .slice A l.length c] w (RetImg w n) := by
  subst hz
  have HA := Lib.hid hA
  clear hA
  go_enter Try.func10, Try.ntmps10
  go_wp2_with (first
    | (go_at_call 20; (with_reducible refine (new_ok n w h1 h2).mono ?_); rintro e w1 ⟨g1, M1, rfl, hi1, hM1, hb1⟩; have I1 := Lib.hid hi1; have M1h := Lib.hid hM1; have B1 := Lib.hid hb1; clear hi1 hM1 hb1)
    | (go_at_call 34; (with_reducible refine (rnew_ok n w1 h1 h2).mono ?_); rintro e w2 ⟨r, q, c2, M2, rfl, hi2, hM2, hb2⟩; have P2 := Lib.hid (show Duo w w2 NoB g1 r (emptyL n) (emptyL n) from Duo.new I1.out M1h.out B1.out hi2 hM2 hb2); clear hi2 hM2 hb2))
  go_loopw [9] (fun v W => ∃ (i : Nat) (L : List (List Int)), i ≤ l.length ∧ i ≤ 40 ∧ v = .int .i64 (i : Int) ∧ L.length = n ∧ Duo w W NoB g1 r L L) (fun v _ => 40 - (RowKit.intOf v).toNat)
  case atStart => exact ⟨0, emptyL n, by omega, by omega, rfl, by simp [emptyL], P2.out⟩
  case round =>
    obtain ⟨i, L, hi1, hi2, rfl, hL, hD⟩ := hrel
    have P3 := Lib.hid hD
    have HL := Lib.hid hL
    clear hD hL
    by_cases hlt : i < l.length ∧ i < 40
    · obtain ⟨hl1, hl2⟩ := hlt
      obtain ⟨hin, ba, oa, rfl, hce⟩ := HA.out i hl1
      have hy := Lib.hid (hin.below P3.out.bl)
      have hbl : ba < w.heap.size := cell_block_lt (hce 0 _ rfl)
      have x0 : wr.cell? ⟨ba, oa + i * 5, none⟩ = some (.int .i64 l[i].kind) := (P3.out.bl.cell hbl).trans (hce 0 _ rfl)
      have x1 : wr.cell? ⟨ba, oa + i * 5 + 1, none⟩ = some (.int .i64 l[i].lba) := (P3.out.bl.cell hbl).trans (hce 1 _ rfl)
      have x2 : wr.cell? ⟨ba, oa + i * 5 + 2, none⟩ = some (.int .i64 l[i].n) := (P3.out.bl.cell hbl).trans (hce 2 _ rfl)
      have x3 : wr.cell? ⟨ba, oa + i * 5 + 3, none⟩ = some (.slice l[i].A l[i].b.length l[i].c) := (P3.out.bl.cell hbl).trans (hce 3 _ rfl)
      have x4 : wr.cell? ⟨ba, oa + i * 5 + 4, none⟩ = some (.slice l[i].B l[i].l.length l[i].d) := (P3.out.bl.cell hbl).trans (hce 4 _ rfl)
      have HIN := Lib.hid hin
      clear hce hin hy
      generalize l[i] = y at x0 x1 x2 x3 x4 HIN
      go_wp2_with (first
        | (go_at_call 35; (with_reducible refine (step_any P3.out y HIN.out).mono ?_); rintro e w4 ⟨rfl, hd, _⟩; have P4 := Lib.hid hd; clear hd))
      go_roundw
      case rel => exact ⟨i + 1, stepL L y, by omega, by omega, by go_num, by rw [stepL_length, HL.out], P4.out⟩
      case measure => simp [RowKit.intOf]; omega
    · by_cases hlt2 : i < l.length
      · have h40 : i = 40 := by omega
        subst h40
        go_wp2_with fail
        go_ret
        obtain ⟨B, D, M, q', c', M', hI, hR, h3, h4, h5, h6, h7⟩ := P3.out
        exact ⟨g1, L, M, rfl, HL.out, ⟨B, D, hI⟩, h4, h6⟩
      · go_wp2_with fail
        go_ret
        obtain ⟨B, D, M, q', c', M', hI, hR, h3, h4, h5, h6, h7⟩ := P3.out
        exact ⟨g1, L, M, rfl, HL.out, ⟨B, D, hI⟩, h4, h6⟩
end Go.Proofs.Ytdddbpnllhnfdaa
