/- Contract of the statements' known (disk). -/
import Derived.Test.YtadoclcabkcmeaaDisk6
namespace Go.Proofs.Ytadoclcabkcmeaa
set_option linter.unusedVariables false
open Go.RowKit

def ones300 : List Int := List.replicate 300 1
def knownD0 : DS := newD (List.replicate (4 * 256) 0)
def knownD1 : DS := writeD knownD0 0 ones300
def knownD2 : DS := crashD knownD1 [2]
def knownX : List Int := readD knownD2 0 2
theorem known_f1 : writeE knownD0 0 ones300 = 0 := by decide +kernel
theorem known_f2 : readE knownD2 0 2 = 0 := by decide +kernel
theorem known_x : knownX.length = 512 := by decide +kernel
theorem known_x0 : knownX[0]? = some 0 := by decide +kernel
theorem known_x256 : knownX[256]? = some 1 := by decide +kernel
theorem known_x299 : knownX[299]? = some 1 := by decide +kernel
theorem known_x300 : knownX[300]? = some 0 := by decide +kernel

theorem new_of (z : Int) (n : Nat) (hz : z = n) (w : World) (h1 : 1 ≤ n) (h2 : n ≤ 4096) : Calls Try.prog 7 #[.int .i64 z] w (RetDisk w (newD (List.replicate (n * 256) 0))) := by
  subst hz
  exact new_ok n w h1 h2

section
variable {g : Nat} {D : DS} {M R : Nat → Prop} {w : World}
theorem write_n (A : Option Addr) (c n : Nat) (l : List Int) (a : Int) (hn : l.length = n) (hd : IsDisk w g D M R) (hr : Rd w A (by8 l)) (hB : isB l) (hl : n ≤ 140737488351232) (hfew : D.gs.length < 1000000) (ha : -9223372036854775808 ≤ a ∧ a ≤ 9223372036854775807) :
    Calls Try.prog 22 #[.pointer (some ⟨g, 0, none⟩), .int .i64 a, .slice A n c] w (RetW w g M R (writeD D a l) (writeE D a l)) := by
  subst hn
  exact write_any A c l a hd hr hB hl hfew ha
theorem crash_n (A : Option Addr) (c n : Nat) (kept : List Int) (hn : kept.length = n) (hd : IsDisk w g D M R) (hr : Rd w A (byI kept)) (hl : n ≤ 140737488351232) (hA : kept ≠ [] → ∀ b, Blo A b → ¬ M b) :
    Calls Try.prog 9 #[.pointer (some ⟨g, 0, none⟩), .slice A n c] w (RetW w g M R (crashD D kept) 0) := by
  subst hn
  exact crash_any A c kept hd hr hl hA
end
theorem known_rd (W : World) : Rd (W.alloc (.cells #[.int .i64 2] 3)) (some ⟨W.heap.size, 0, none⟩) (byI [2]) := Rd.new1 W _ _
theorem fresh_no {W : World} {M : Nat → Prop} (h : ∀ b, M b → b < W.heap.size) : ∀ b, Blo (some ⟨W.heap.size, 0, none⟩) b → ¬ M b := fun b hb hM => by
  have h1 := (Blo.some_iff _ _).1 hb
  have h2 := h b hM
  simp at h1
  omega
theorem known_w {g : Nat} {M : Nat → Prop} {W : World} {b c : Nat} (hd : IsDisk W g knownD0 M NoB) (hr : W.ownsRow 0 5 1 (.slice (some ⟨b, 0, none⟩) 300 c) 300 (by8 ones300)) :
    Calls Try.prog 22 #[.pointer (some ⟨g, 0, none⟩), .int .i64 0, .slice (some ⟨b, 0, none⟩) 300 c] W (RetW W g M NoB knownD1 0) := by
  have := write_n (some ⟨b, 0, none⟩) c 300 ones300 0 List.length_replicate hd (Rd.of_own hr) (by intro x hx; rw [(List.mem_replicate.1 hx).2]; omega) (by omega) (by have h0 : knownD0.gs.length = 0 := rfl; rw [h0]; omega) (by omega)
  rw [known_f1] at this
  exact this
theorem known_r {g : Nat} {M R : Nat → Prop} {W : World} (hd : IsDisk W g knownD2 M R) :
    Calls Try.prog 26 #[.pointer (some ⟨g, 0, none⟩), .int .i64 0, .int .i64 2] W fun e w' => ∃ b c, e = .returned (.tuple #[.slice (some ⟨b, 0, none⟩) 512 c, .int .i64 0]) ∧ w'.cell? ⟨b, 0, none⟩ = some (.int .u8 0) ∧ w'.cell? ⟨b, 256, none⟩ = some (.int .u8 1) ∧ w'.cell? ⟨b, 299, none⟩ = some (.int .u8 1) ∧ w'.cell? ⟨b, 300, none⟩ = some (.int .u8 0) ∧ Below W.heap.size W w' := by
  have := read_any 0 2 hd (by omega)
  rw [known_f2] at this
  refine this.mono fun e w' hp => ?_
  obtain ⟨A, c, he, hc, ho, hb⟩ := hp
  have hl : (readD knownD2 0 2).length = 512 := known_x
  rw [hl] at he ho
  obtain ⟨b, rfl⟩ := ownsRow_addr ho (by omega)
  have at_ : ∀ i v, knownX[i]? = some v → i < 512 → w'.cell? ⟨b, i, none⟩ = some (.int .u8 v) := fun i v hv hi => by
    rw [ho.cellAt i (by omega), by8, List.getElem?_map, show (readD knownD2 0 2)[i]? = some v from hv]
    rfl
  exact ⟨b, c, he, at_ _ _ known_x0 (by omega), at_ _ _ known_x256 (by omega), at_ _ _ known_x299 (by omega), at_ _ _ known_x300 (by omega), hb⟩

/-- So far ones, then zeros. -/
def fillL (n k : Nat) : List Int := List.replicate k 1 ++ List.replicate (n - k) 0
theorem fill_set {n k : Nat} (h : k < n) : (by8 (fillL n k)).set k (.int .u8 1) = by8 (fillL n (k + 1)) := by
  unfold fillL
  rw [show n - k = (n - (k + 1)) + 1 from by omega, List.replicate_succ, by8_append, by8_append, List.set_append_right _ _ (by rw [by8_length]; simp)]
  rw [by8_length, List.length_replicate, Nat.sub_self]
  show by8 (List.replicate k 1) ++ (.int .u8 1 :: by8 (List.replicate (n - (k + 1)) 0)) = _
  rw [List.replicate_succ', by8_append, List.append_assoc]
  rfl
theorem fill_all (n : Nat) : fillL n n = List.replicate n 1 := by unfold fillL; simp
theorem fill_none (n : Nat) : fillL n 0 = List.replicate n 0 := by unfold fillL; simp

set_option maxHeartbeats 800000 in
set_option maxRecDepth 20000 in
theorem known_any (w : World) : Calls Try.prog 12 #[] w fun e w' => e = .returned (.bool true) ∧ Below w.heap.size w w' := by
  have hmk := run_make8n 300 (by omega)
  have hcast : ((300 : Nat) : Int) = 300 := rfl
  rw [hcast] at hmk
  have NW : Hid (∀ W, Calls Try.prog 7 #[.int .i64 4] W (RetDisk W knownD0)) := Lib.hid fun W => new_of 4 4 rfl W (by omega) (by omega)
  clear hcast
  go_enter Try.func12, Try.ntmps12
  go_wp2_with (first
    | (go_at_call 7; (with_reducible refine (NW.out _).mono ?_); rintro e w1 ⟨g, M, rfl, hd, hm, hb⟩; have HD1 := Lib.hid hd; have HM1 := Lib.hid hm; have HB1 := Lib.hid hb; clear hd hm hb))
  go_loopw [4] (fun v w2 => ∃ k : Nat, k ≤ 300 ∧ v = .int .i64 k ∧ w2.ownsRow w1.heap.size 5 1 (.slice (some ⟨w1.heap.size, 0, none⟩) 300 300) 300 (by8 (fillL 300 k)) ∧ Below w1.heap.size w1 w2) (fun v _ => 300 - (intOf v).toNat)
  case atStart => exact ⟨0, by omega, rfl, by rw [fill_none]; exact own_zeros w1 300 (by simp only [maxLen]; omega), bl_alloc _ _⟩
  case round =>
    obtain ⟨k, hk, rfl, ho2, hb2⟩ := hrel
    have HO2 := Lib.hid ho2
    have HB2 := Lib.hid hb2
    clear ho2 hb2
    by_cases hlt : k < 300
    · obtain ⟨v0, hc⟩ : ∃ v0, wr.cell? ⟨w1.heap.size, k, none⟩ = some v0 := ⟨_, by
        rw [HO2.out.cellAt k (by omega)]; exact List.getElem?_eq_getElem (by rw [by8_length]; unfold fillL; simp; omega)⟩
      clear hmk
      have hf : wr.frozen? ⟨w1.heap.size, k, none⟩ = false := HO2.out.frozenAt k
      go_wp2_with fail
      go_roundw
      case rel =>
        obtain ⟨s1, s2⟩ := own_stored HO2.out k (.int .u8 1)
        rw [fill_set hlt] at s1
        exact ⟨k + 1, by omega, by go_num, s1, bl_tr HB2.out s2 (fun b hb => by have := (Blo.some_iff _ _).1 hb; simp at this; omega)⟩
      case measure => simp [intOf]; omega
    · have hk3 : k = 300 := by omega
      subst hk3
      clear hk hlt
      have hone : fillL 300 300 = ones300 := fill_all 300
      have ho9 := HO2.out
      rw [hone] at ho9
      have RW := Lib.hid (ownsRow_base ho9 (Nat.zero_le _))
      have LK : Hid (([2] : List Int).length = 1) := Lib.hid rfl
      clear hone ho9
      go_wp2_with (first
        | (go_at_call 22; (with_reducible refine (known_w (HD1.out.below HB2.out) RW.out).mono ?_); rintro e w3 ⟨rfl, M3, R3, hd3, hm3, hr3, ht3⟩; have HD3 := Lib.hid hd3; have HM3 := Lib.hid hm3; have HT3 := Lib.hid ht3; have HG3 := Lib.hid hd3.mlt; clear hd3 hm3 hr3 ht3)
        | (go_at_call 9; (with_reducible refine (crash_n (D := knownD1) (some ⟨w3.heap.size, 0, none⟩) 1 1 [2] LK.out (HD3.out.below (bl_alloc _ _)) (known_rd w3) (by omega) (fun _ => fresh_no HG3.out)).mono ?_); rintro e w4 ⟨rfl, M4, R4, hd4, hm4, hr4, ht4⟩; have HD4 := Lib.hid hd4; have HM4 := Lib.hid hm4; have HT4 := Lib.hid ht4; clear hd4 hm4 hr4 ht4)
        | (go_at_call 26; (with_reducible refine (known_r HD4.out).mono ?_); rintro e w5 ⟨b5, c5, rfl, y0, y1, y2, y3, hb5⟩; have HB5 := Lib.hid hb5; clear hb5))
      go_ret
      have hz1 := HB1.out.size
      have hz2 := HB2.out.size
      have b3 : Below w.heap.size w w3 := bl_tr (bl_chain HB1.out HB2.out) HT3.out (fun b hb => HM1.out b hb)
      have b4 : Below w.heap.size w w4 := bl_tr (bl_chain b3 (bl_alloc _ _)) HT4.out (fun b hb => by
        rcases HM3.out b hb with h | h
        · exact HM1.out b h
        · omega)
      exact ⟨by rfl, bl_chain b4 HB5.out⟩
end Go.Proofs.Ytadoclcabkcmeaa
