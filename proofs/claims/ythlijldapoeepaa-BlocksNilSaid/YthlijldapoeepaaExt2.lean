/- Contracts of the package extent: Read, Unmap. -/
import Derived.Test.YthlijldapoeepaaExtSet
import Derived.Test.YthlijldapoeepaaMk8
namespace Go.Proofs.Ythlijldapoeepaa
set_option linter.unusedVariables false
set_option maxRecDepth 100000
open Go.RowKit

/-- A block as it is read. -/
theorem wrapE {z y : Int} (e : z = y) (h : -9223372036854775808 ≤ z ∧ z ≤ 9223372036854775807) : IntKind.i64.wrap z = y := by rw [IntWalk.i64_in z (by omega), e]
def bv (L : List (List Int)) (i : Nat) : List Int := if bk L i = [] then List.replicate 64 0 else bk L i
def rdTo (L : List (List Int)) (a : Nat) : Nat → List Int
  | 0 => []
  | k + 1 => rdTo L a k ++ bv L (a + k)
theorem bv_length {L : List (List Int)} (h : ImgOk L) (i : Nat) : (bv L i).length = 64 := by
  unfold bv
  split
  · simp
  · rename_i hb; exact ((h.at_ i).resolve_left hb).1
theorem rdTo_length {L : List (List Int)} (h : ImgOk L) (a : Nat) : ∀ k, (rdTo L a k).length = 64 * k
  | 0 => rfl
  | k + 1 => by rw [rdTo, List.length_append, rdTo_length h a k, bv_length h]; omega
theorem rd_splice {L : List (List Int)} (h : ImgOk L) (a k m : Nat) (hk : k < m) :
    splice (by8 (rdTo L a k ++ List.replicate ((m - k) * 64) 0)) (64 * k) (by8 (bk L (a + k))) = by8 (rdTo L a (k + 1) ++ List.replicate ((m - (k + 1)) * 64) 0) := by
  have hl := rdTo_length h a k
  have hz : List.replicate ((m - k) * 64) (0 : Int) = List.replicate 64 0 ++ List.replicate ((m - (k + 1)) * 64) 0 := by rw [List.replicate_append_replicate]; congr 1; omega
  rw [rdTo, hz]
  unfold bv
  by_cases hb : bk L (a + k) = []
  · rw [if_pos hb, hb]
    simp [by8, splice]
  · rw [if_neg hb]
    have h64 := ((h.at_ (a + k)).resolve_left hb).1
    unfold splice
    rw [by8_take, by8_drop, by8_length, h64, ← by8_append, ← by8_append]
    have hd : List.drop (64 * k + 64) (rdTo L a k ++ (List.replicate 64 0 ++ List.replicate ((m - (k + 1)) * 64) 0)) = List.replicate ((m - (k + 1)) * 64) 0 := by
      rw [← List.append_assoc, List.drop_left' (by rw [List.length_append, hl]; simp)]
    rw [List.take_left' hl, hd, List.append_assoc]
theorem rdTo_zero (L : List (List Int)) (a m : Nat) : rdTo L a 0 ++ List.replicate ((m - 0) * 64) 0 = List.replicate (m * 64) 0 := by simp [rdTo]
theorem rdTo_end (L : List (List Int)) (a m : Nat) : rdTo L a m ++ List.replicate ((m - m) * 64) 0 = rdTo L a m := by simp
def readL (L : List (List Int)) (lba k : Int) : List Int := if inB L.length lba k = true then rdTo L lba.toNat k.toNat else []
def Ret8 (w : World) (l : List Int) (err : Int) (e : Ending) (w' : World) : Prop := ∃ A c, e = .returned (.tuple #[.slice A l.length c, .int .i64 err]) ∧ l.length ≤ c ∧ w'.ownsRow w.heap.size 5 1 (.slice A l.length c) l.length (by8 l) ∧ Below w.heap.size w w'

section
variable {w : World} {g : Nat} {L : List (List Int)} {M : Nat → Prop}
theorem read_nil (lba k : Int) (w : World) : Calls Try.prog 55 #[.pointer none, .int .i64 lba, .int .i64 k] w (Ret8 w [] 2) := by
  go_enter Try.func55, Try.ntmps55
  go_wp2_with (first
    | (go_at_call 58; (with_reducible refine (wrong_nil lba k _).mono ?_); rintro e w' ⟨rfl, rfl⟩))
  go_ret2
  exact ⟨none, 0, rfl, by simp, ownsRow_emp _ _ _ _, Below.refl _ _⟩
set_option maxHeartbeats 1600000 in
theorem read_any (h : Img w g L M) (lba k : Int) (hb : -9223372036854775808 ≤ lba ∧ lba ≤ 9223372036854775807 ∧ -9223372036854775808 ≤ k ∧ k ≤ 9223372036854775807) :
    Calls Try.prog 55 #[.pointer (some ⟨g, 0, none⟩), .int .i64 lba, .int .i64 k] w (Ret8 w (readL L lba k) (wrongE L.length lba k)) := by
  have hw := wrong_any h lba k hb
  by_cases hin : inB L.length lba k = true
  · have HE : Hid (readL L lba k = rdTo L lba.toNat k.toNat ∧ wrongE L.length lba k = 0) := Lib.hid ⟨if_pos hin, if_pos hin⟩
    rw [HE.out.2] at hw
    have HW := Lib.hid hw
    have hr := of_decide_eq_true hin
    obtain ⟨a, rfl⟩ := Int.eq_ofNat_of_zero_le hr.1
    obtain ⟨m, rfl⟩ := Int.eq_ofNat_of_zero_le hr.2.1
    have h256 := h.ok.hi
    have ham : a + m ≤ L.length := by omega
    rw [HE.out.1, HE.out.2, Int.toNat_natCast, Int.toNat_natCast]
    obtain ⟨B, D, h⟩ := h
    have HH := Lib.hid h
    have HS : Hid (∀ j, j < m → splice (by8 (rdTo L a j ++ List.replicate ((m - j) * 64) 0)) (64 * j) (by8 (bk L (a + j))) = by8 (rdTo L a (j + 1) ++ List.replicate ((m - (j + 1)) * 64) 0)) := Lib.hid (fun j hj => rd_splice h.ok a j m hj)
    have HL : Hid ((rdTo L a m).length = 64 * m) := Lib.hid (rdTo_length h.ok a m)
    have h256' : ∀ i, (bk L i).length = 0 ∨ (bk L i).length = 64 := fun i => (h.ok.at_ i).imp (fun e => by rw [e]; rfl) (·.1)
    have hmk := run_make8 (m * 64) ((m : Int) * 64) (by omega) (by omega)
    have HO0 := Lib.hid (own_zeros w (m * 64) (by unfold maxLen; omega))
    clear hw hin hr hb h
    go_enter Try.func55, Try.ntmps55
    go_wp2_with (first
      | (go_at_call 58; (with_reducible refine (HW.out).mono ?_); rintro e w' ⟨rfl, rfl⟩))
    clear hmk
    go_loopw [10, 22] (fun _ v w2 => ∃ j : Nat, j ≤ m ∧ v = .int .i64 j ∧ w2.ownsRow w.heap.size 5 1 (.slice (some ⟨w.heap.size, 0, none⟩) (m * 64) (m * 64)) (m * 64) (by8 (rdTo L a j ++ List.replicate ((m - j) * 64) 0)) ∧ Below w.heap.size w w2) (fun _ v _ => m - (intOf v).toNat)
    case atStart => exact ⟨0, by omega, rfl, by rw [rdTo_zero]; exact HO0.out, bl_alloc _ _⟩
    case round =>
      obtain ⟨j, hj, rfl, ho, hb⟩ := hrel
      have HO := Lib.hid ho
      have HB := Lib.hid hb
      clear ho hb
      by_cases hlt : j < m
      · have hI := HH.out.below HB.out
        have hI2 := HH.out.below (bl_chain HB.out (bl_drew wr))
        obtain ⟨A1, cc1, hlk, hc1, hcm, hr1, _, _⟩ := hI2.look (a + j) (by omega)
        rw [show (((a + j : Nat) : Int)) = (a : Int) + (j : Int) from by omega] at hlk
        have hlen : (bk L (a + j)).length = 0 ∨ (bk L (a + j)).length = 64 := (h256' (a + j))
        have HR1 := Lib.hid hr1
        have HOd := Lib.hid HO.out.drew
        have c1 := hI2.c1
        have ew : IntKind.i64.wrap ((j : Int) * 64) = ((64 * j : Nat) : Int) := wrapE (by omega) (by omega)
        have ew2 : IntKind.i64.wrap ((a : Int) + (j : Int)) = (a : Int) + (j : Int) := wrapE (by omega) (by omega)
        have g1 : (0 : Int) ≤ 64 * (j : Int) ∧ 64 * (j : Int) ≤ (m : Int) * 64 := by omega
        have g2 : (64 * (j : Int)).toNat = 64 * j := by omega
        have g3 : ¬ (m * 64 = 64 * j) := by omega
        clear hI hI2 hr1
        go_wp2_with fail
        have LC : Hid ((by8 (bk L (a + j))).length = Nat.min (bk L (a + j)).length (m * 64 - 64 * j)) := Lib.hid (by rw [by8_length]; show _ = min _ _; omega)
        have FC : Hid (64 * j + (by8 (bk L (a + j))).length ≤ m * 64) := Lib.hid (by rw [by8_length]; omega)
        go_region_law (refine stepR_copy (off := 64 * j) (cs := by8 (bk L (a + j))) Try.underlying44 sizes1 rfl rfl (by exact HOd.out) rfl rfl (fun _ => rfl) (by exact HR1.out) LC.out FC.out (by8_one _) ?_; intro w4 ho4 ht4; have HO4 := Lib.hid ho4; have HT4 := Lib.hid ht4; clear ho4 ht4)
        go_wp2_with fail
        go_roundw
        case rel =>
          refine ⟨j + 1, by omega, by go_num, ?_, ?_⟩
          · have h4 := HO4.out
            have hsp := HS.out j hlt
            rw [hsp] at h4
            exact h4
          · exact HB.out.trans ((bl_drew wr).mono HB.out.size |>.trans (HT4.out.to_below (B := w.heap.size) HB.out.size (fun b hb => Nat.le_of_eq ((Blo.some_iff _ _).1 hb))))
        case measure => simp [intOf]; omega
      · go_wp2_with fail
        go_ret2
        obtain rfl : j = m := by omega
        have h4 := HO.out
        rw [rdTo_end] at h4
        refine ⟨some ⟨w.heap.size, 0, none⟩, j * 64, by rw [HL.out, Nat.mul_comm 64 j]; rfl, by rw [HL.out]; omega, ?_, HB.out⟩
        rw [HL.out, Nat.mul_comm 64 j]
        exact h4
  · have HE : Hid (readL L lba k = [] ∧ wrongE L.length lba k = 1) := Lib.hid ⟨if_neg hin, if_neg hin⟩
    rw [HE.out.2] at hw
    have HW := Lib.hid hw
    rw [HE.out.1, HE.out.2]
    clear hw hin h
    go_enter Try.func55, Try.ntmps55
    go_wp2_with (first
      | (go_at_call 58; (with_reducible refine (HW.out).mono ?_); rintro e w' ⟨rfl, rfl⟩))
    go_ret2
    exact ⟨none, 0, rfl, by simp, ownsRow_emp _ _ _ _, Below.refl _ _⟩

/-- What a writer of an image leaves. -/
def RetS (w : World) (g : Nat) (L : List (List Int)) (B : Nat) (M : Nat → Prop) (err : Int) (e : Ending) (w' : World) : Prop := ∃ D M', e = .returned (.int .i64 err) ∧ IsImg w' g L B D M' ∧ (∀ b, M' b → M b ∨ w.heap.size ≤ b) ∧ Tr (fun b => b = B) w w'
end
end Go.Proofs.Ythlijldapoeepaa
