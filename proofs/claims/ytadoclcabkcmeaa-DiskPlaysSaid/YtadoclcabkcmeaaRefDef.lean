/- The reference's disk: sectors as bytes, and where it lies in memory; contracts of sectors and joined. -/
import Derived.Test.YtadoclcabkcmeaaDiskRow
import Derived.Test.YtadoclcabkcmeaaSafePlain
import Derived.IntWalk
namespace Go.Proofs.Ytadoclcabkcmeaa
set_option linter.unusedVariables false
open Go.RowKit

theorem infoSs : (Try.prog.info? 29).map (fun i => (i.zero, i.size, i.bytes)) = some (some (.slice none 0 0), 1, 24) := by kernel_rfl
theorem ESs : AppTy Try.prog 34 29 1 24 := AppTy.mk' Try.underlying34 infoSs rfl (by omega)

/-! ### plain -/
def chunks (q : Nat) (l : List Int) : List (List Int) := (List.range q).map fun i => sect i l
theorem chunks_length (q : Nat) (l : List Int) : (chunks q l).length = q := by simp [chunks]
theorem chunks_succ (q : Nat) (l : List Int) : chunks (q + 1) l = chunks q l ++ [sect q l] := by simp [chunks, List.range_succ]
theorem chunks_get {q : Nat} {l : List Int} {i : Nat} (h : i < q) : (chunks q l)[i]? = some (sect i l) := by simp [chunks, h]
theorem sect_length {n : Nat} {l : List Int} (h : 256 * (n + 1) ≤ l.length) : (sect n l).length = 256 := by unfold sect; rw [List.length_take, List.length_drop]; omega
theorem chunks_flat (l : List Int) : ∀ q, 256 * q ≤ l.length → (chunks q l).flatten = l.take (256 * q)
  | 0, _ => by simp [chunks]
  | q + 1, h => by
    rw [chunks_succ, List.flatten_append, chunks_flat l q (by omega)]
    unfold sect
    simp only [List.flatten_cons, List.flatten_nil, List.append_nil]
    rw [show 256 * (q + 1) = 256 * q + 256 from by omega, List.take_add]
theorem chunks_all {l : List Int} {q : Nat} (h : l.length = 256 * q) : (chunks q l).flatten = l := by
  rw [chunks_flat l q (by omega), List.take_of_length_le (by omega)]
theorem chunks_set {q n : Nat} {s b : List Int} (hs : s.length = 256 * q) (hb : b.length = 256) (hn : n < q) : (chunks q s).set n b = chunks q (splice s (256 * n) b) := by
  apply List.ext_getElem?
  intro i
  rw [List.getElem?_set]
  by_cases hi : i < q
  · rw [chunks_get hi, chunks_get hi]
    by_cases e : n = i
    · subst e
      rw [if_pos rfl, if_pos (by rw [chunks_length]; exact hn)]
      rw [sect_at (by omega) (by omega) (by omega), show n - n = 0 from by omega, Nat.mul_zero, List.drop_zero, List.take_of_length_le (by omega)]
    · rw [if_neg e, sect_off (by omega) (by omega)]
  · have h1 : (chunks q (splice s (256 * n) b)).length ≤ i := by rw [chunks_length]; omega
    have h2 : (chunks q s).length ≤ i := by rw [chunks_length]; omega
    rw [List.getElem?_eq_none h1, List.getElem?_eq_none h2]
    rw [if_neg (by omega)]
theorem isB_sect {n : Nat} {s : List Int} (h : isB s) : isB (sect n s) := (h.drop _).take _
theorem secs_lt {l : List Int} {j i : Nat} (h : i = 256 * j) : i < l.length ↔ j < secs l := by unfold secs; omega
theorem sect_pad {l : List Int} {j : Nat} (h : j < secs l) : sect j (pad l) = (l.drop (256 * j)).take 256 ++ List.replicate (256 - (l.length - 256 * j)) 0 := by
  have hl := pad_length l
  have h1 : secs l = (l.length + 255) / 256 := rfl
  unfold sect pad
  rw [List.drop_append, List.take_append, List.length_drop]
  congr 1
  by_cases c : 256 ≤ l.length - 256 * j
  · rw [show 256 - (l.length - 256 * j) = 0 from by omega]
    simp
  · rw [show 256 * j - l.length = 0 from by omega, List.drop_zero, List.take_replicate]
    congr 1
    omega

/-! ### more on lists of sectors in memory -/
section
variable {w w' : World} {N N' : Nat → Prop} {m : Nat}
theorem StsAt.set {b c : Nat} {s : List Int} (h1 : s.length = m) (h2 : isB s) (h3 : m ≤ c) (h4 : c ≤ maxLen) (hr : Rd w (some ⟨b, 0, none⟩) (by8 s)) (hb : N b) :
    ∀ {ss : List (List Int)} {vs : List Value} (i : Nat), StsAt w N m ss vs → StsAt w N m (ss.set i s) (vs.set i (.slice (some ⟨b, 0, none⟩) m c))
  | [], _, _, h => by cases h; exact rfl
  | _ :: _, _, 0, ⟨b', c', r, e, k1, k2, k3, k4, hr', hb', h⟩ => by subst e; exact ⟨b, c, r, rfl, h1, h2, h3, h4, hr, hb, h⟩
  | _ :: _, _, i + 1, ⟨b', c', r, e, k1, k2, k3, k4, hr', hb', h⟩ => by subst e; exact ⟨b', c', _, rfl, k1, k2, k3, k4, hr', hb', h.set h1 h2 h3 h4 hr hb i⟩
theorem StsAt.mono (hN : ∀ b, N b → N' b) : ∀ {ss : List (List Int)} {vs : List Value}, StsAt w N m ss vs → StsAt w N' m ss vs
  | [], _, h => h
  | s :: ss, _, ⟨b, c, r, e, h1, h2, h3, h4, hr, hb, h⟩ => ⟨b, c, r, e, h1, h2, h3, h4, hr, hN b hb, h.mono hN⟩
theorem StsAt.below (hb : Below w.heap.size w w') {ss : List (List Int)} {vs : List Value} (h : StsAt w N m ss vs) : StsAt w' N m ss vs := h.tr (Tr.of_below (F := NoB) hb) (fun _ _ => id) (fun _ x => x)
theorem StsAt.isBs : ∀ {ss : List (List Int)} {vs : List Value}, StsAt w N m ss vs → ∀ s ∈ ss, isB s
  | [], _, _, s, hs => by cases hs
  | s :: ss, _, ⟨b, c, r, e, h1, h2, h3, h4, hr, hb, h⟩, t, ht => by
    rcases List.mem_cons.1 ht with rfl | ht
    · exact h2
    · exact h.isBs t ht
end

/-- Sectors in a new row of new memory. -/
def RetSecs (w : World) (q : Nat) (ss : List (List Int)) (e : Ending) (w' : World) : Prop :=
  ∃ A c cells, e = .returned (.slice A q c) ∧ q ≤ c ∧ w'.ownsRow w.heap.size 29 1 (.slice A q c) q cells ∧ StsAt w' (fun b => w.heap.size ≤ b ∧ b < w'.heap.size ∧ ¬ Blo A b) 256 ss cells ∧ Below w.heap.size w w'

structure SecsIn (w W : World) (l : List Int) (j : Nat) (A : Option Addr) (c : Nat) (cells : List Value) : Prop where
  b : Below w.heap.size w W
  row : W.ownsRow w.heap.size 29 1 (.slice A j c) j cells
  at_ : StsAt W (fun b => w.heap.size ≤ b ∧ b < W.heap.size ∧ ¬ Blo A b) 256 (chunks j (pad l)) cells
def fillS (l : List Int) (i k : Nat) : List Int := (l.drop i).take k ++ List.replicate (256 - k) 0
theorem fillS_length {l : List Int} {i k : Nat} (h : i + k ≤ l.length) (hk : k ≤ 256) : (fillS l i k).length = 256 := by unfold fillS; rw [List.length_append, List.length_take, List.length_drop, List.length_replicate]; omega
theorem fillS_set {l : List Int} {i k : Nat} (h : i + k < l.length) (hk : k < 256) : (by8 (fillS l i k)).set k (.int .u8 l[i + k]) = by8 (fillS l i (k + 1)) := by
  unfold fillS
  have h1 : ((l.drop i).take k).length = k := by rw [List.length_take, List.length_drop]; omega
  rw [show 256 - k = (256 - (k + 1)) + 1 from by omega, List.replicate_succ, by8_append, List.set_append_right _ _ (by rw [by8_length, h1]; omega), by8_length, h1, Nat.sub_self]
  rw [List.take_succ_eq_append_getElem (by rw [List.length_drop]; omega), List.append_assoc, by8_append]
  congr 1
  rw [List.getElem_drop]
  rfl
theorem fillS_done {l : List Int} {i j k : Nat} (hi : i = 256 * j) (hj : j < secs l) (hk : k = 256 ∨ i + k = l.length) (h2 : i + k ≤ l.length) (h3 : k ≤ 256) : fillS l i k = sect j (pad l) := by
  rw [sect_pad hj, ← hi]
  unfold fillS
  rcases hk with hk | hk
  · subst hk
    congr 2
    omega
  · rw [List.take_of_length_le (by rw [List.length_drop]; omega), List.take_of_length_le (by rw [List.length_drop]; omega)]
    congr 2
    omega
theorem SecsIn.next {w W W1 W2 : World} {l : List Int} {j : Nat} {A A2 : Option Addr} {c c2 gs : Nat} {cells : List Value} {o : Obj} (h : SecsIn w W l j A c cells) (hb : Below W.heap.size W W1) (hg : W.heap.size = gs) (ho : W1.ownsRow W.heap.size 5 1 (.slice (some ⟨gs, 0, none⟩) 256 256) 256 (by8 (sect j (pad l)))) (hB : isB (sect j (pad l))) (hl : (sect j (pad l)).length = 256)
    (ho2 : W2.ownsRow w.heap.size 29 1 (.slice A2 (j + 1) c2) (j + 1) (cells ++ [.slice (some ⟨gs, 0, none⟩) 256 256])) (ht : Tr (Blo A) (W1.alloc o) W2) (hn : NewAt A A2 (W1.alloc o).heap.size) : SecsIn w W2 l (j + 1) A2 c2 (cells ++ [.slice (some ⟨gs, 0, none⟩) 256 256]) := by
  have z1 := h.b.size
  have z2 := hb.size
  have z3 := ht.size
  simp at z3
  have hA : ∀ b, Blo A b → b < W.heap.size := own_lt h.row
  have hAg := own_ge h.row
  have hgl := own_lt ho gs rfl
  have hb' : Below W.heap.size W (W1.alloc o) := bl_chain hb (bl_alloc _ _)
  refine ⟨bl_tr (bl_chain h.b hb') ht (fun b hb => hAg b hb), ho2, ?_⟩
  rw [chunks_succ]
  have a5 := h.at_.below hb'
  have a6 := a5.tr (N' := fun b => w.heap.size ≤ b ∧ b < W2.heap.size ∧ ¬ Blo A2 b) ht (fun b x => x.2.2) (fun b x => ⟨x.1, by have := x.2.1; omega, fun y => by
      rcases hn.blo y with q | q
      · exact x.2.2 q
      · have := x.2.1; simp at q; omega⟩)
  refine a6.snoc hl hB (Nat.le_refl _) (by simp only [maxLen]; omega) (((Rd.of_own (ownsRow_base ho (Nat.zero_le _))).below (bl_alloc _ o)).tr ht (fun ad e x => ?_)) ⟨by omega, by omega, fun x => ?_⟩
  · injection e with e
    subst e
    have := hA _ x
    simp at this
    omega
  · rcases hn.blo x with q | q
    · have := hA _ q; omega
    · simp at q; omega

set_option maxHeartbeats 1600000 in
set_option maxRecDepth 20000 in
theorem sectors_any (A : Option Addr) (n c : Nat) (l : List Int) (w : World) (hn : l.length = n) (hr : Rd w A (by8 l)) (hB : isB l) (hl : n ≤ 1048576) : Calls Try.prog 31 #[.slice A n c] w (RetSecs w (secs l) (chunks (secs l) (pad l))) := by
  subst hn
  have HR := Lib.hid hr
  have HB := Lib.hid hB
  clear hr hB
  have hsq : secs l ≤ 4096 := by unfold secs; omega
  have HP := Lib.hid (pad_length l)
  have hmk := run_make8n 256 (by omega)
  have hcast : ((256 : Nat) : Int) = 256 := rfl
  rw [hcast] at hmk
  have HMK := Lib.hid hmk
  clear hmk hcast
  go_enter Try.func31, Try.ntmps31
  go_wp2_with fail
  go_loopw [3, 4] (fun v3 v w2 => ∃ (i j : Nat) (A2 : Option Addr) (c2 : Nat) (cells : List Value), Hid (i = 256 * j) ∧ j ≤ secs l ∧ v = .int .i64 i ∧ v3 = .slice A2 j c2 ∧ j ≤ c2 ∧ SecsIn w w2 l j A2 c2 cells) (fun _ v _ => l.length + 1024 - (intOf v).toNat)
  case atStart => exact ⟨0, 0, none, 0, [], Lib.hid rfl, by omega, rfl, rfl, by omega, ⟨Below.refl _ _, ownsRow_emp _ _ _ _, rfl⟩⟩
  case round =>
    obtain ⟨i, j, A2, c2, cells, HI, hj, rfl, rfl, hjc, hs⟩ := hrel
    have HS := Lib.hid hs
    clear hs
    have hlts := secs_lt (l := l) HI.out
    have hib : i ≤ 1048832 := by have := HI.out; omega
    by_cases hlt : i < l.length
    · have hjl := hlts.1 hlt
      have HJ := Lib.hid hjl
      have hmk := HMK.out
      clear hlts
      go_wp2_with fail
      clear hmk
      obtain ⟨wo, rfl⟩ : ∃ wo : World, wo = wr := ⟨_, rfl⟩
      go_loopw [6] (fun v w2 => ∃ (k : Nat), k ≤ 256 ∧ i + k ≤ l.length ∧ v = .int .i64 k ∧ w2.ownsRow wo.heap.size 5 1 (.slice (some ⟨wo.heap.size, 0, none⟩) 256 256) 256 (by8 (fillS l i k)) ∧ Below wo.heap.size wo w2) (fun v _ => 256 - (intOf v).toNat)
      case atStart => exact ⟨0, by omega, by omega, rfl, by have := own_zeros wo 256 (by simp only [maxLen]; omega); exact this, bl_alloc _ _⟩
      case round =>
        obtain ⟨k, hk, hik, rfl, ho3, hb3⟩ := hrel
        have HO3 := Lib.hid ho3
        have HB3 := Lib.hid hb3
        clear ho3 hb3
        by_cases hgo : k < 256 ∧ i + k < l.length
        · obtain ⟨hg1, hg2⟩ := hgo
          obtain ⟨ad, rfl, _, hc1⟩ := (HR.out.below (bl_chain HS.out.b HB3.out)).at_ (k := i + k) (by rw [by8_length]; exact hg2)
          rw [by8_get l (i + k) hg2] at hc1
          generalize hx : l[i + k] = x at hc1
          have HXX := Lib.hid hx
          clear hx
          obtain ⟨v0, hc⟩ : ∃ v0, wr.cell? ⟨wo.heap.size, k, none⟩ = some v0 := ⟨_, by
            rw [HO3.out.cellAt k (by omega)]; exact List.getElem?_eq_getElem (by rw [by8_length, fillS_length hik hk]; omega)⟩
          have hf : wr.frozen? ⟨wo.heap.size, k, none⟩ = false := HO3.out.frozenAt k
          go_wp2_with fail
          go_roundw
          case rel =>
            have e := HXX.out
            subst e
            obtain ⟨s1, s2⟩ := own_stored HO3.out k (.int .u8 (l[i + k]))
            rw [fillS_set hg2 hg1] at s1
            exact ⟨k + 1, by omega, by omega, by go_num, s1, bl_tr HB3.out s2 (fun b hb => by have := (Blo.some_iff _ _).1 hb; simp at this; omega)⟩
          case measure => simp [intOf]; omega
        · have hdone : (256 ≤ k ∧ ¬ k < 256) ∨ (k < 256 ∧ l.length ≤ i + k) := by omega
          have HDN := Lib.hid (fillS_done HI.out HJ.out (show k = 256 ∨ i + k = l.length by omega) hik hk)
          clear hgo
          have hO3 := HO3.out
          rw [HDN.out] at hO3
          have HO4 := Lib.hid hO3
          have hjj := HJ.out
          have z1 := HS.out.b.size
          have z2 := HB3.out.size
          clear hO3 HO3
          obtain ⟨k0, rfl⟩ : ∃ k0, k0 = k := ⟨_, rfl⟩
          rcases hdone with ⟨h1, h2⟩ | ⟨h1, h2⟩
          all_goals
            go_wp2_with (first
              | (at_builtin; refine wpL_append ESs rfl rfl ((own_below (B := 0) HS.out.row HB3.out).alloc _) rfl (Rd.new1 wr 29 _) rfl (by simp) (by simp [Value.oneCell']) (j + 1) (cells ++ [.slice (some ⟨wo.heap.size, 0, none⟩) 256 256]) rfl rfl (by simp only [maxLen]; omega) (by omega) (by simp; omega) ?_; intro A10 c10 w10 hc10 ho10 ht10 hn10; have HO10 := Lib.hid ho10; have HT10 := Lib.hid ht10; have HN10 := Lib.hid hn10; clear ho10 ht10 hn10))
            go_roundw
            case rel => exact ⟨i + 256, j + 1, A10, c10, _, Lib.hid (by have := HI.out; omega), by omega, by go_num, rfl, hc10, HS.out.next HB3.out rfl HO4.out (isB_sect (pad_isB HB.out)) (sect_length (by rw [HP.out]; omega)) HO10.out HT10.out HN10.out⟩
            case measure => simp [intOf]; omega
    · have hjl : j = secs l := by have := mt hlts.2 hlt; omega
      clear hlts
      subst hjl
      go_wp2_with fail
      go_ret
      exact ⟨A2, c2, cells, by rfl, hjc, HS.out.row, HS.out.at_, HS.out.b⟩

/-- All sectors of a row, as bytes. -/
def flatTo (ss : List (List Int)) (k : Nat) : List Int := (ss.take k).flatten
theorem flatTo_length {ss : List (List Int)} (h : ∀ s ∈ ss, s.length = 256) : ∀ k, k ≤ ss.length → (flatTo ss k).length = 256 * k
  | 0, _ => by simp [flatTo]
  | k + 1, hk => by
    have ih := flatTo_length h k (by omega)
    unfold flatTo at ih ⊢
    rw [List.take_succ_eq_append_getElem (by omega), List.flatten_append, List.length_append, ih]
    simp [h _ (List.getElem_mem (show k < ss.length by omega))]
    omega
theorem flatTo_succ {ss : List (List Int)} {k : Nat} (hk : k < ss.length) : flatTo ss k ++ ss[k] = flatTo ss (k + 1) := by
  unfold flatTo
  rw [List.take_succ_eq_append_getElem hk, List.flatten_append]
  simp
theorem StsAt.lens {w : World} {N : Nat → Prop} {m : Nat} : ∀ {ss : List (List Int)} {vs : List Value}, StsAt w N m ss vs → ∀ s ∈ ss, s.length = m
  | [], _, _, s, hs => by cases hs
  | s :: ss, _, ⟨b, c, r, e, h1, h2, h3, h4, hr, hb, h⟩, t, ht => by
    rcases List.mem_cons.1 ht with rfl | ht
    · exact h1
    · exact h.lens t ht
set_option maxHeartbeats 1600000 in
set_option maxRecDepth 20000 in
theorem joined_any (A : Option Addr) (n c : Nat) (ss : List (List Int)) (cells : List Value) (N : Nat → Prop) (w : World) (hr : Rd w A cells) (hs : StsAt w N 256 ss cells) (hq : ss.length = n) (hl : n ≤ 4096) :
    Calls Try.prog 41 #[.slice A n c] w fun e w' => ∃ A' c', e = .returned (.slice A' (256 * n) c') ∧ 256 * n ≤ c' ∧ w'.ownsRow w.heap.size 5 1 (.slice A' (256 * n) c') (256 * n) (by8 ss.flatten) ∧ Below w.heap.size w w' := by
  have HR := Lib.hid hr
  have HS := Lib.hid hs
  have HQ := Lib.hid hq
  have HL := Lib.hid (flatTo_length hs.lens)
  have HC := Lib.hid hs.length
  clear hr hs hq
  go_enter Try.func41, Try.ntmps41
  go_wp2_with fail
  go_loopw [3, 4] (fun v3 v w2 => ∃ (k : Nat) (A2 : Option Addr) (m c2 : Nat), k ≤ n ∧ m = 256 * k ∧ v = .int .i64 k ∧ v3 = .slice A2 m c2 ∧ m ≤ c2 ∧ w2.ownsRow w.heap.size 5 1 (.slice A2 m c2) m (by8 (flatTo ss k)) ∧ Below w.heap.size w w2) (fun _ v _ => n - (intOf v).toNat)
  case atStart => exact ⟨0, none, 0, 0, by omega, rfl, rfl, rfl, by omega, ownsRow_emp _ _ _ _, Below.refl _ _⟩
  case round =>
    obtain ⟨k, A2, m, c2, hk, hm, rfl, rfl, hmc, ho, hb⟩ := hrel
    have HM := Lib.hid hm
    have HO := Lib.hid ho
    have HB := Lib.hid hb
    have hm2 : m ≤ 1048576 := by omega
    clear hm ho hb
    by_cases hlt : k < n
    · have hks : k < ss.length := by rw [HQ.out]; exact hlt
      obtain ⟨bk, ck, hck, hl1, hB1, hc1, hm1, hrd1, _⟩ := (HS.out.below HB.out).get k hks
      obtain ⟨ad, rfl, _, hc⟩ := (HR.out.below HB.out).at_ (k := k) (by rw [HC.out]; exact hks)
      rw [(List.getElem?_eq_some_iff.1 hck).2] at hc
      have HRD := Lib.hid hrd1
      have HL1 := Lib.hid hl1
      have HKS := Lib.hid (flatTo_succ hks)
      clear hck
      go_wp2_with (first
        | (at_builtin; refine wpL_append E8 rfl rfl HO.out rfl HRD.out rfl (by rw [by8_length, HL1.out]) (by8_one _) (m + 256) (by8 (flatTo ss (k + 1))) rfl (by rw [← by8_append, HKS.out]) (by simp only [maxLen]; omega) (by omega) HB.out.size ?_; intro A10 c10 w10 hc10 ho10 ht10 hn10; have HO10 := Lib.hid ho10; have HT10 := Lib.hid ht10; clear ho10 ht10 hn10))
      go_roundw
      case rel => exact ⟨k + 1, A10, m + 256, c10, by omega, by have := HM.out; omega, by go_num, rfl, hc10, HO10.out, bl_tr HB.out HT10.out (own_ge HO.out)⟩
      case measure => simp [intOf]; omega
    · have hkn : k = n := by omega
      subst hkn
      have hmm := HM.out
      subst hmm
      have hf : flatTo ss k = ss.flatten := by unfold flatTo; rw [List.take_of_length_le (by rw [HQ.out]; omega)]
      have ho := HO.out
      rw [hf] at ho
      have HO3 := Lib.hid ho
      clear hf ho HO
      go_wp2_with fail
      go_ret
      exact ⟨A2, c2, by rfl, hmc, HO3.out, HB.out⟩
end Go.Proofs.Ytadoclcabkcmeaa
