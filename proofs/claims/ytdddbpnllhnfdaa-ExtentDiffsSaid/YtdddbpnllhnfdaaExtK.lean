/- The laws' helpers: ones, runs at no image, known; contracts at no image. -/
import Derived.Test.YtdddbpnllhnfdaaExtB
namespace Go.Proofs.Ytdddbpnllhnfdaa
set_option linter.unusedVariables false
set_option linter.unusedSimpArgs false
set_option maxRecDepth 100000
open Go.RowKit Go.Shelf

theorem ext_conv {w : World} {A : Option Addr} {n c : Nat} {l : List Int} (h : Rd w A (by8 l)) (hl : l.length = n) :
    ∀ W, Ext w W → (convert 28 9 (.slice A n c)).run Try.prog W = .ok (.string (strOfNums l)) W := fun W hW => conv8 n c (h.below hW) hl
theorem ext_on {w w' : World} {P : World → Prop} (h : ∀ W, Ext w W → P W) (hb : Below w.heap.size w w') : ∀ W, Ext w' W → P W := fun W hW => h W (bl_chain hb hW)

theorem diff_nil (w : World) : Calls Try.prog 23 #[.pointer none, .pointer none] w fun e w' => e = .returned (.tuple #[.slice none 0 0, .int .i64 2]) ∧ w = w' := by
  go_enter Try.func23, Try.ntmps23
  go_wp2_with fail
  go_ret2
  exact ⟨rfl, rfl⟩
theorem copy_nil (w : World) : Calls Try.prog 33 #[.pointer none] w fun e w' => e = .returned (.pointer none) ∧ w = w' := by
  go_enter Try.func33, Try.ntmps33
  go_wp2_with fail
  go_ret
  exact ⟨rfl, rfl⟩
theorem same_nils (w : World) : Calls Try.prog 21 #[.pointer none, .pointer none] w fun e w' => e = .returned (.bool true) ∧ w = w' := by
  go_enter Try.func21, Try.ntmps21
  go_wp2_with fail
  go_ret
  exact ⟨rfl, rfl⟩
set_option maxHeartbeats 800000 in
theorem ones_any (n : Nat) (hn : n ≤ 65536) (w : World) : Calls Try.prog 36 #[.int .i64 n] w fun e w' => ∃ A c, e = .returned (.slice A n c) ∧ n ≤ c ∧ w'.ownsRow w.heap.size 5 1 (.slice A n c) n (by8 (List.replicate n 1)) ∧ Below w.heap.size w w' := by
  have hmk := run_make8 n n rfl hn
  have HO0 := Lib.hid (own_zeros w n (by unfold maxLen; omega))
  go_enter Try.func36, Try.ntmps36
  go_wp2_with fail
  clear hmk
  go_loopw [4] (fun v w1 => ∃ (k : Nat) (l1 : List Value), k ≤ n ∧ v = .int .i64 k ∧ w1.ownsRow w.heap.size 5 1 (.slice (some ⟨w.heap.size, 0, none⟩) n n) n l1 ∧ (∀ i, i < k → l1[i]? = some (.int .u8 1)) ∧ Below w.heap.size w w1) (fun v _ => n - (RowKit.intOf v).toNat)
  case atStart => exact ⟨0, _, by omega, rfl, HO0.out, fun i hi => by omega, bl_alloc _ _⟩
  case round =>
    obtain ⟨k, l1, hk, rfl, ho1, hall, ht1⟩ := hrel
    have hl1 := ho1.1
    rw [Nat.mul_one] at hl1
    have HO1 := Lib.hid ho1
    have HT1 := Lib.hid ht1
    have HL1 := Lib.hid hl1
    have HALL := Lib.hid hall
    clear ho1 ht1 hl1 hall
    by_cases hlt : k < n
    · have hc : wr.cell? ⟨w.heap.size, k, none⟩ = some (l1[k]'(by rw [HL1.out]; exact hlt)) := by
        rw [HO1.out.cellAt k (by omega)]; exact List.getElem?_eq_getElem _
      have hf : wr.frozen? ⟨w.heap.size, k, none⟩ = false := HO1.out.frozenAt k
      go_wp2_with fail
      go_roundw
      case rel =>
        obtain ⟨s1, s2⟩ := own_stored HO1.out k (.int .u8 1)
        refine ⟨k + 1, l1.set k (.int .u8 1), by omega, by go_num, s1, fun i hi => ?_, HT1.out.trans (s2.to_below HT1.out.size (fun b hb => Nat.le_of_eq ((Blo.some_iff _ _).1 hb)))⟩
        rw [List.getElem?_set]
        by_cases e : k = i
        · subst e; simp [HL1.out, hlt]
        · rw [if_neg e]; exact HALL.out i (by omega)
      case measure => simp [RowKit.intOf]; omega
    · go_wp2_with fail
      go_ret
      have e : l1 = by8 (List.replicate n 1) := by
        apply List.ext_getElem?
        intro i
        by_cases hi : i < n
        · rw [HALL.out i (by omega)]
          simp [by8, hi]
        · rw [List.getElem?_eq_none (by rw [HL1.out]; omega), List.getElem?_eq_none (by simp [by8]; omega)]
      have h1 := HO1.out
      rw [e] at h1
      exact ⟨_, _, rfl, Nat.le_refl _, h1, HT1.out⟩
theorem func_nil (fn : Fn) (lb : Array Value) (W : World) : (binOp .eql 78 (.func fn #[] lb) .nilFunc).run Try.prog W = .ok (.bool false) W := by
  simp [binOp, Sem.run_bind, go_sem]
  have h : (Op.equal 78 (.func fn #[] lb) .nilFunc).run Try.prog W = .ok false W := by
    unfold Op.equal
    rw [show Op.maxDepth = 9999 + 1 from rfl, Op.equalIn]
    simp only [Sem.run_bind, run_underlying Try.underlying78, Result.andThen_ok]
    rfl
  rw [h]
  rfl
set_option maxHeartbeats 800000 in
theorem lruns_nil (w : World) : Calls Try.prog 17 #[.pointer none] w fun e w' => e = .returned (.slice none 0 0) ∧ Below w.heap.size w w' := by
  refine (callsIn_wide (n := 10)).1 (callsIn_of_wp_marks Try.func17 rfl trivial ?_ rfl)
  refine wpIn_wide.2 ?_
  simp only [Try.ntmps17, List.size_toArray, List.length_cons, List.length_nil, Nat.reduceAdd, Nat.reduceSub, Array.replicate_succ, Array.replicate_zero, List.push_toArray, List.append_toArray, List.nil_append, List.cons_append]
  have hfn := fun W => func_nil (.func 64) #[] W
  go_wp2_with (first
    | (go_at_call 40; (with_reducible refine (runs_nil _).mono ?_); rintro e w1 ⟨rfl, rfl⟩))
  have hb0 : Blk (w.alloc (.cells #[.slice none 0 0] 38)) w.heap.size 38 #[.slice none 0 0] := Blk.new _ _ _
  refine range_ownG2 (α := Nat) (Kp := fun _ _ => True) (v := fun x => (rnV [] x)[0]!) (u := fun x => (rnV [] x)[1]!) (gf := 64) (lb := #[]) rfl (enters_of Try.func64 (by kernel_rfl) rfl)
    (runs1_stops _ _) (fun _ _ => trivial) (fun _ _ _ _ _ _ _ _ => trivial)
    (fun pre W => Blk W w.heap.size 38 #[.slice none 0 0] ∧ Below w.heap.size w W)
    (fun pre X Y row h hg hr => ⟨h.1.turn (turn_of hg hr), below_turn h.2 h.2.size hg hr (by simp)⟩)
    ⟨hb0, bl_alloc _ _⟩
    (fun T x => (((T.setIfInBounds 12 ((rnV [] x)[0]!)).setIfInBounds 13 ((rnV [] x)[1]!)).setIfInBounds 5 ((rnV [] x)[0]!)).setIfInBounds 6 ((rnV [] x)[1]!)) ?assign ?body ?done
  case assign =>
    intro l x W K hK
    simp only [List.setIfInBounds_toArray, List.set_cons_zero, List.set_cons_succ] at hK ⊢
    gi_wp2
    exact hK
  case body =>
    rintro lr pre x W hS hN
    omega
  case done =>
    rintro D7 xs W7 hD rfl ⟨h1, h2⟩ hK
    have c1 := h1.cell 0
    simp at c1
    have HD7 := Lib.hid hK
    have H2 := Lib.hid h2
    clear h1 h2 hK
    go_wp2_with fail
    refine ⟨by simp, .inl ⟨D7, _, rfl, run_takeDeferred HD7.out, ?_⟩⟩
    exact ⟨_, results_tmp rfl _ _ _, rfl, H2.out.trans (belowK_b (w := w) (Nat.le_refl _) W7 D7 _ _ (by simp at hD; omega) HD7.out rfl rfl)⟩

def o64 : List Int := List.replicate 64 1
def kL1 : List (List Int) := [[], o64, o64, []]
def kL2 : List (List Int) := [[], o64, [], []]
def kB : List Int := [0, 4, 0, 1, 0, 1] ++ o64
theorem k_w : writeL (emptyL 4) 1 (List.replicate 128 1) = kL1 := by decide +kernel
theorem k_we : writeE (emptyL 4).length 1 (List.replicate 128 1) = 0 := by decide +kernel
theorem k_used : used kL1 = 2 := by decide +kernel
theorem k_un : unmapL kL1 2 1 = kL2 := by decide +kernel
theorem k_une : wrongE kL1.length 2 1 = 0 := by decide +kernel
theorem k_rd : readL kL2 2 1 = List.replicate 64 0 := by decide +kernel
theorem k_rde : wrongE kL2.length 2 1 = 0 := by decide +kernel
theorem k_by : bytesL kL2 = kB := by decide +kernel
theorem k_sz : (strOfNums o64).size = 64 := by decide +kernel
theorem k_cat : (⟨#[0, 4, 0, 1, 0, 1]⟩ : ByteArray) ++ strOfNums o64 = strOfNums kB := by decide +kernel
theorem write_k {w : World} {g B : Nat} {D : DataW Unit} {M : Nat → Prop} (h : IsImg w g (emptyL 4) B D M) {A : Option Addr} {c : Nat} {n : Nat} (hr : w.ownsRow n 5 1 (.slice A 128 c) 128 (by8 (List.replicate 128 1))) (hc : 128 ≤ c) :
    Calls Try.prog 31 #[.pointer (some ⟨g, 0, none⟩), .int .i64 1, .slice A 128 c] w (RetS w g kL1 B M 0) := by
  have h1 := write_any h 1 (by omega) A c (List.replicate 128 1) (Rd.of_own hr) (fun x hx => by rw [List.eq_of_mem_replicate hx]; omega) (by simpa using hc) (by simp)
  rw [k_w, k_we] at h1
  simpa using h1
theorem used_k {w : World} {g B : Nat} {D : DataW Unit} {M : Nat → Prop} (h : IsImg w g kL1 B D M) : Calls Try.prog 19 #[.pointer (some ⟨g, 0, none⟩)] w fun e w' => e = .returned (.int .i64 2) ∧ w = w' := by
  have h1 := used_any (h := ⟨B, D, h⟩)
  rw [k_used] at h1
  exact h1
theorem unmap_k {w : World} {g B : Nat} {D : DataW Unit} {M : Nat → Prop} (h : IsImg w g kL1 B D M) : Calls Try.prog 32 #[.pointer (some ⟨g, 0, none⟩), .int .i64 2, .int .i64 1] w (RetS w g kL2 B M 0) := by
  have h1 := unmap_any h 2 1 (by omega)
  rw [k_un, k_une] at h1
  exact h1
theorem read_k {w : World} {g B : Nat} {D : DataW Unit} {M : Nat → Prop} (h : IsImg w g kL2 B D M) : Calls Try.prog 15 #[.pointer (some ⟨g, 0, none⟩), .int .i64 2, .int .i64 1] w fun e w' => ∃ A c, e = .returned (.tuple #[.slice A 64 c, .int .i64 0]) ∧ w'.ownsRow w.heap.size 5 1 (.slice A 64 c) 64 (by8 (List.replicate 64 0)) ∧ Below w.heap.size w w' := by
  have h1 := read_any ⟨B, D, h⟩ 2 1 (by omega)
  rw [k_rd, k_rde] at h1
  refine h1.mono ?_
  rintro e w' ⟨A, c, rfl, hc, ho, hb⟩
  exact ⟨A, c, by simp, by simpa using ho, hb⟩
theorem bytes_k {w : World} {g B : Nat} {D : DataW Unit} {M : Nat → Prop} (h : IsImg w g kL2 B D M) : Calls Try.prog 13 #[.pointer (some ⟨g, 0, none⟩)] w fun e w' => ∃ A c, e = .returned (.slice A 70 c) ∧ w'.ownsRow w.heap.size 5 1 (.slice A 70 c) 70 (by8 kB) ∧ Below w.heap.size w w' := by
  have h1 := bytes_any h
  rw [k_by] at h1
  refine h1.mono ?_
  rintro e w' ⟨A, c, rfl, hc, ho, hb⟩
  exact ⟨A, c, rfl, ho, hb⟩
set_option maxHeartbeats 1600000 in
theorem known_any (w : World) : Calls Try.prog 12 #[] w fun e w' => e = .returned (.bool true) ∧ Below w.heap.size w w' := by
  have hnew : Calls Try.prog 20 #[.int .i64 4] w (RetNew w (emptyL 4)) := new_ok 4 w (by omega) (by omega)
  have hon := fun W => (show Calls Try.prog 36 #[.int .i64 128] W _ from ones_any 128 (by omega) W)
  have hon2 := fun W => (show Calls Try.prog 36 #[.int .i64 64] W _ from ones_any 64 (by omega) W)
  have HNEW := Lib.hid hnew
  have HON := Lib.hid hon
  have HON2 := Lib.hid hon2
  clear hnew hon hon2
  go_enter Try.func12, Try.ntmps12
  go_wp2_with (first
    | (go_at_call 20; (with_reducible refine (HNEW.out).mono ?_); rintro e w1 ⟨g, M, rfl, ⟨B, D, hI⟩, hM, hb⟩; have I1 := Lib.hid hI; have B1 := Lib.hid hb; have M1 := Lib.hid hM; clear hI hb hM)
    | (go_at_call 36; (with_reducible refine (HON.out w1).mono ?_); rintro e w2 ⟨A2, c2, rfl, hc2, ho, hb⟩; have I2 := Lib.hid (I1.out.below hb); have B2 := Lib.hid (bl_chain B1.out hb); have O2 := Lib.hid ho; clear ho hb)
    | (go_at_call 31; (with_reducible refine (write_k I2.out O2.out hc2).mono ?_); rintro e w3 ⟨D3, M3, rfl, hI, hM, ht⟩; have I3 := Lib.hid hI; have M3 := Lib.hid hM; have T3 := Lib.hid ht; clear hI hM ht)
    | (go_at_call 19; (with_reducible refine (used_k I3.out).mono ?_); rintro e w3' ⟨rfl, rfl⟩)
    | (go_at_call 32; (with_reducible refine (unmap_k I3.out).mono ?_); rintro e w4 ⟨D4, M4, rfl, hI, hM, ht⟩; have I4 := Lib.hid hI; have M4 := Lib.hid hM; have T4 := Lib.hid ht; clear hI hM ht)
    | (go_at_call 15; (with_reducible refine (read_k I4.out).mono ?_); rintro e w5 ⟨A5, c5, rfl, ho, hb⟩; have I5 := Lib.hid (I4.out.below hb); have B5 := Lib.hid hb; have O5 := Lib.hid ho; clear ho hb))
  have hmk := run_make8 64 64 rfl (by omega)
  obtain ⟨S0, hS0⟩ : ∃ S0, strOfNums (List.replicate 64 0) = S0 := ⟨_, rfl⟩
  obtain ⟨S1, hS1⟩ : ∃ S1, strOfNums o64 = S1 := ⟨_, rfl⟩
  obtain ⟨SB, hSB⟩ : ∃ SB, strOfNums kB = SB := ⟨_, rfl⟩
  have kcat := k_cat
  rw [hS1, hSB] at kcat
  have ksz := k_sz
  rw [hS1] at ksz
  have k5 := ext_conv (c := c5) (Rd.of_own O5.out).drew (n := 64) (by simp)
  rw [hS0] at k5
  have e0 : (S0.toList == S0.toList) = true := by simp
  have eB : (SB.toList == SB.toList) = true := by simp
  have HS0 := Lib.hid hS0
  have HS1 := Lib.hid hS1
  have HSB := Lib.hid hSB
  clear hS0 hS1 hSB
  refine ext_start (by kernel_rfl) ?_
  refine ext_take (i := 0) (v := ?_) rfl (by kernel_rfl) (by kernel_rfl) (by kernel_rfl) (fun _ _ _ h => h) (Or.inl ⟨by rfl, ?_⟩) ?_
  rotate_left
  · (intro W hSw; go_simp; try with_reducible rfl)
  try simp only [Act.put, List.setIfInBounds_toArray, List.set_cons_zero, List.set_cons_succ]
  refine ext_take (i := 1) (v := ?_) rfl (by kernel_rfl) (by kernel_rfl) (by kernel_rfl) (fun _ _ _ h => h) (Or.inl ⟨by rfl, ?_⟩) ?_
  rotate_left
  · (intro W hSw; go_simp; try with_reducible rfl)
  try simp only [Act.put, List.setIfInBounds_toArray, List.set_cons_zero, List.set_cons_succ]
  refine ext_take (i := 2) (v := ?_) rfl (by kernel_rfl) (by kernel_rfl) (by kernel_rfl) (fun _ _ _ h => h) (Or.inl ⟨by rfl, ?_⟩) ?_
  rotate_left
  · (intro W hSw; go_simp; try with_reducible rfl)
  try simp only [Act.put, List.setIfInBounds_toArray, List.set_cons_zero, List.set_cons_succ]
  refine ext_take (i := 3) (v := ?_) rfl (by kernel_rfl) (by kernel_rfl) (by kernel_rfl) (fun _ _ _ h => h) (Or.inl ⟨by rfl, ?_⟩) ?_
  rotate_left
  · (intro W hSw; go_simp; try with_reducible rfl)
  try simp only [Act.put, List.setIfInBounds_toArray, List.set_cons_zero, List.set_cons_succ]
  refine ext_take (i := 4) (v := ?_) rfl (by kernel_rfl) (by kernel_rfl) (by kernel_rfl) (fun _ _ _ h => h) (Or.inl ⟨by rfl, ?_⟩) ?_
  rotate_left
  · (intro W hSw; go_simp; try with_reducible rfl)
  try simp only [Act.put, List.setIfInBounds_toArray, List.set_cons_zero, List.set_cons_succ]
  refine ext_take (i := 5) (v := ?_) rfl (by kernel_rfl) (by kernel_rfl) (by kernel_rfl) (fun _ _ _ h => h) (Or.inl ⟨by rfl, ?_⟩) ?_
  rotate_left
  · (intro W hSw; go_simp; try with_reducible rfl)
  try simp only [Act.put, List.setIfInBounds_toArray, List.set_cons_zero, List.set_cons_succ]
  refine ext_take (i := 6) (v := ?_) rfl (by kernel_rfl) (by kernel_rfl) (by kernel_rfl) (fun _ _ _ h => h) (Or.inl ⟨by rfl, ?_⟩) ?_
  rotate_left
  · (intro W hSw; go_simp; try with_reducible rfl)
  try simp only [Act.put, List.setIfInBounds_toArray, List.set_cons_zero, List.set_cons_succ]
  refine ext_take (i := 7) (v := ?_) rfl (by kernel_rfl) (by kernel_rfl) (by kernel_rfl) (fun _ _ _ h => h) (Or.inl ⟨by rfl, ?_⟩) ?_
  rotate_left
  · (intro W hSw; go_simp; try with_reducible rfl)
  try simp only [Act.put, List.setIfInBounds_toArray, List.set_cons_zero, List.set_cons_succ]
  refine ext_take (i := 8) (v := ?_) rfl (by kernel_rfl) (by kernel_rfl) (by kernel_rfl) (fun _ _ _ h => h) (Or.inl ⟨by rfl, ?_⟩) ?_
  rotate_left
  · (intro W hSw; go_simp; try with_reducible rfl)
  try simp only [Act.put, List.setIfInBounds_toArray, List.set_cons_zero, List.set_cons_succ]
  refine ext_take (i := 9) (v := ?_) rfl (by kernel_rfl) (by kernel_rfl) (by kernel_rfl) (fun _ _ _ h => h) (Or.inl ⟨by rfl, ?_⟩) ?_
  rotate_left
  · (intro W hSw; go_simp; try with_reducible rfl)
  try simp only [Act.put, List.setIfInBounds_toArray, List.set_cons_zero, List.set_cons_succ]
  refine ext_take (i := 10) (v := ?_) rfl (by kernel_rfl) (by kernel_rfl) (by kernel_rfl) (fun _ _ _ h => h) (Or.inl ⟨by rfl, ?_⟩) ?_
  rotate_left
  · (intro W hSw; go_simp; try with_reducible rfl)
  try simp only [Act.put, List.setIfInBounds_toArray, List.set_cons_zero, List.set_cons_succ]
  refine ext_take (i := 11) (v := ?_) rfl (by kernel_rfl) (by kernel_rfl) (by kernel_rfl) (fun _ _ _ h => h) (Or.inl ⟨by rfl, ?_⟩) ?_
  rotate_left
  · (intro W hSw; go_simp; try with_reducible rfl)
  try simp only [Act.put, List.setIfInBounds_toArray, List.set_cons_zero, List.set_cons_succ]
  refine ext_take (i := 12) (v := ?_) rfl (by kernel_rfl) (by kernel_rfl) (by kernel_rfl) (fun _ _ _ h => h) (Or.inl ⟨by rfl, ?_⟩) ?_
  rotate_left
  · (intro W hSw; go_simp; try with_reducible rfl)
  try simp only [Act.put, List.setIfInBounds_toArray, List.set_cons_zero, List.set_cons_succ]
  refine ext_call (i := 13) (by kernel_rfl) rfl (fun K hK => ?_)
  go_simp
  (have kz : ∀ W, Ext ((w5.alloc (.cells (Array.replicate 64 (.int .u8 0)) 5)).drew) W → (convert 28 9 (.slice (some ⟨w5.heap.size, 0, none⟩) 64 64)).run Try.prog W = .ok (.string (strOfNums (List.replicate 64 0))) W := ext_conv (Rd.drew (Rd.zeros w5 64 5)) (by simp); rw [HS0.out] at kz; replace k5 : ∀ W, Ext ((w5.alloc (.cells (Array.replicate 64 (.int .u8 0)) 5)).drew) W → (convert 28 9 (.slice A5 64 c5)).run Try.prog W = .ok (.string S0) W := ext_on k5 (bl_alloc w5.drew (.cells (Array.replicate 64 (.int .u8 0)) 5)))
  refine hK.out _ _ (bl_alloc _ _) ?_
  clear hK K
  try simp only [Act.put, List.setIfInBounds_toArray, List.set_cons_zero, List.set_cons_succ]
  refine ext_take (i := 14) (v := ?_) rfl (by kernel_rfl) (by kernel_rfl) (by kernel_rfl) (fun _ _ _ h => h) (Or.inl ⟨by rfl, ?_⟩) ?_
  rotate_left
  · (intro W hSw; go_simp; try with_reducible rfl)
  try simp only [Act.put, List.setIfInBounds_toArray, List.set_cons_zero, List.set_cons_succ]
  refine ext_take (i := 15) (v := ?_) rfl (by kernel_rfl) (by kernel_rfl) (by kernel_rfl) (fun _ _ _ h => h) (Or.inl ⟨by rfl, ?_⟩) ?_
  rotate_left
  · (intro W hSw; go_simp; try with_reducible rfl)
  try simp only [Act.put, List.setIfInBounds_toArray, List.set_cons_zero, List.set_cons_succ]
  refine ext_take (i := 16) (v := ?_) rfl (by kernel_rfl) (by kernel_rfl) (by kernel_rfl) (fun _ _ _ h => h) (Or.inl ⟨by rfl, ?_⟩) ?_
  rotate_left
  · (intro W hSw; go_simp; try with_reducible rfl)
  try simp only [Act.put, List.setIfInBounds_toArray, List.set_cons_zero, List.set_cons_succ]
  refine ext_take (i := 17) (v := ?_) rfl (by kernel_rfl) (by kernel_rfl) (by kernel_rfl) (fun _ _ _ h => h) (Or.inl ⟨by rfl, ?_⟩) ?_
  rotate_left
  · (intro W hSw; go_simp; try with_reducible rfl)
  try simp only [Act.put, List.setIfInBounds_toArray, List.set_cons_zero, List.set_cons_succ]
  refine ext_take (i := 18) (v := ?_) rfl (by kernel_rfl) (by kernel_rfl) (by kernel_rfl) (fun _ _ _ h => h) (Or.inl ⟨by rfl, ?_⟩) ?_
  rotate_left
  · (intro W hSw; go_simp; try with_reducible rfl)
  try simp only [Act.put, List.setIfInBounds_toArray, List.set_cons_zero, List.set_cons_succ]
  refine ext_call (i := 19) (by kernel_rfl) rfl (fun K hK => ?_)
  go_simp
  (go_at_call 13; (with_reducible refine (bytes_k (I5.out.below (bl_chain (bl_alloc w5 _) (bl_drew _)))).mono ?_); rintro e w7 ⟨A7, c7, rfl, ho, hb⟩; have k7 := ext_conv (c := c7) (Rd.of_own ho) (n := 70) (by rfl); rw [HSB.out] at k7; have X7 := Lib.hid hb; clear ho hb k5 kz)
  refine hK.out _ _ (X7.out) ?_
  clear hK K
  try simp only [Act.put, List.setIfInBounds_toArray, List.set_cons_zero, List.set_cons_succ]
  refine ext_take (i := 20) (v := ?_) rfl (by kernel_rfl) (by kernel_rfl) (by kernel_rfl) (fun _ _ _ h => h) (Or.inl ⟨by rfl, ?_⟩) ?_
  rotate_left
  · (intro W hSw; go_simp; try with_reducible rfl)
  try simp only [Act.put, List.setIfInBounds_toArray, List.set_cons_zero, List.set_cons_succ]
  refine ext_call (i := 21) (by kernel_rfl) rfl (fun K hK => ?_)
  go_simp
  (go_at_call 36; (with_reducible refine (HON2.out w7).mono ?_); rintro e w8 ⟨A8, c8, rfl, hc8, ho, hb⟩; have k8 := ext_conv (c := c8) (Rd.of_own ho) (n := 64) (by simp); rw [show List.replicate 64 (1 : Int) = o64 from rfl, HS1.out] at k8; replace k7 := ext_on k7 hb; have X8 := Lib.hid hb; clear ho hb)
  refine hK.out _ _ (X8.out) ?_
  clear hK K
  try simp only [Act.put, List.setIfInBounds_toArray, List.set_cons_zero, List.set_cons_succ]
  refine ext_take (i := 22) (v := ?_) rfl (by kernel_rfl) (by kernel_rfl) (by kernel_rfl) (fun _ _ _ h => h) (Or.inl ⟨by rfl, ?_⟩) ?_
  rotate_left
  · (intro W hSw; go_simp; try with_reducible rfl)
  try simp only [Act.put, List.setIfInBounds_toArray, List.set_cons_zero, List.set_cons_succ]
  refine ext_take (i := 23) (v := ?_) rfl (by kernel_rfl) (by kernel_rfl) (by kernel_rfl) (fun _ _ _ h => h) (Or.inl ⟨by rfl, ?_⟩) ?_
  rotate_left
  · (intro W hSw; go_simp; try with_reducible rfl)
  try simp only [Act.put, List.setIfInBounds_toArray, List.set_cons_zero, List.set_cons_succ]
  refine ext_take (i := 24) (v := ?_) rfl (by kernel_rfl) (by kernel_rfl) (by kernel_rfl) (fun _ _ _ h => h) (Or.inl ⟨by rfl, ?_⟩) ?_
  rotate_left
  · (intro W hSw; go_simp; try with_reducible rfl)
  try simp only [Act.put, List.setIfInBounds_toArray, List.set_cons_zero, List.set_cons_succ]
  refine ext_take (i := 25) (v := ?_) rfl (by kernel_rfl) (by kernel_rfl) (by kernel_rfl) (fun _ _ _ h => h) (Or.inl ⟨by rfl, ?_⟩) ?_
  rotate_left
  · (intro W hSw; go_simp; try with_reducible rfl)
  try simp only [Act.put, List.setIfInBounds_toArray, List.set_cons_zero, List.set_cons_succ]
  refine ext_take (i := 26) (v := ?_) rfl (by kernel_rfl) (by kernel_rfl) (by kernel_rfl) (fun _ _ _ h => h) (Or.inl ⟨by rfl, ?_⟩) ?_
  rotate_left
  · (intro W hSw; go_simp; try with_reducible rfl)
  try simp only [Act.put, List.setIfInBounds_toArray, List.set_cons_zero, List.set_cons_succ]
  refine wpAnyH_done (by kernel_rfl) ?_ _
  go_wp2_with fail
  go_ret
  refine ⟨rfl, ?_⟩
  have t1 : Below w.heap.size w w2 := B2.out
  have z1 := B1.out.size
  have z2 := B2.out.size
  have hB := I1.out.mB
  have hge := M1.out B hB
  have t3 := T3.out.to_below (B := w.heap.size) z2 (fun b hb => by rw [hb]; exact hge)
  have t4 := T4.out.to_below (B := w.heap.size) (t1.trans t3).size (fun b hb => by rw [hb]; exact hge)
  have t5 := bl_chain ((t1.trans t3).trans t4) B5.out
  exact bl_chain (bl_chain (bl_chain (bl_chain t5 (bl_alloc w5 _)) (bl_drew _)) X7.out) X8.out
end Go.Proofs.Ytdddbpnllhnfdaa
