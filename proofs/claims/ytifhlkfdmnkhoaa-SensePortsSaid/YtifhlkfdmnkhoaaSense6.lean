/- Contracts: slices.Equal at bytes; sense.Read and the reference's Read. -/
import Derived.Test.YtifhlkfdmnkhoaaSense5
namespace Go.Proofs.Ytifhlkfdmnkhoaa
set_option linter.unusedVariables false
open Go.RowKit

def eqB (l m : List Int) : Bool := decide (l = m)

set_option maxHeartbeats 400000 in
theorem equal_any (A B : Option Addr) (ca cb : Nat) (l m : List Int) (w : World) (hr : Rd w A (by8 l)) (hs : Rd w B (by8 m)) (hl : l.length ≤ 140737488355328) (hm : m.length ≤ 140737488355328) :
    Calls Try.prog 35 #[.slice A l.length ca, .slice B m.length cb] w fun e w' => e = .returned (.bool (eqB l m)) ∧ Below w.heap.size w w' := by
  have HR := Lib.hid hr
  have HS := Lib.hid hs
  clear hr hs
  by_cases hlen : l.length = m.length
  · have hne : ((l.length : Int) != (m.length : Int)) = false := by simp [hlen]
    have HL := Lib.hid hlen
    clear hlen
    go_enter Try.func35, Try.ntmps35
    go_wp2_with fail
    go_loopw [5, 13] (fun _ v w2 => ∃ k : Nat, k ≤ l.length ∧ v = .int .i64 k ∧ (∀ i, i < k → l[i]? = m[i]?) ∧ Below w.heap.size w w2) (fun _ v _ => l.length - (intOf v).toNat)
    case atStart => exact ⟨0, by omega, rfl, fun i hi => by omega, Below.refl _ _⟩
    case round =>
      obtain ⟨k, hk, rfl, hsame, hb⟩ := hrel
      have HSAME := Lib.hid hsame
      have HB := Lib.hid hb
      clear hsame hb
      by_cases hlt : k < l.length
      · have hlt2 : k < m.length := by have := HL.out; omega
        obtain ⟨ad, rfl, _, hc1⟩ := (HR.out.below HB.out).at_ (k := k) (by rw [by8_length]; exact hlt)
        obtain ⟨bd, rfl, _, hc2⟩ := (HS.out.below HB.out).at_ (k := k) (by rw [by8_length]; exact hlt2)
        rw [by8_get l k hlt] at hc1
        rw [by8_get m k hlt2] at hc2
        by_cases he : l[k] = m[k]
        · have hbn : (l[k] != m[k]) = false := by simp [he]
          have HE := Lib.hid he
          clear he
          go_wp2_with fail
          go_quiet (fail)
          go_wp2_with fail
          go_roundw
          case rel =>
            refine ⟨k + 1, by omega, by go_num, fun i hi => ?_, bl_chain HB.out ⟨rfl, rfl, rfl, Nat.le_refl _, fun _ _ => rfl⟩⟩
            by_cases h : i = k
            · subst h
              rw [List.getElem?_eq_getElem hlt, List.getElem?_eq_getElem hlt2, HE.out]
            · exact HSAME.out i (by omega)
          case measure => simp [intOf]; omega
        · have hbn : (l[k] != m[k]) = true := by simp [he]
          have HE := Lib.hid he
          clear he
          go_wp2_with fail
          go_quiet (fail)
          go_wp2_with fail
          go_ret
          refine ⟨?_, bl_chain HB.out ⟨rfl, rfl, rfl, Nat.le_refl _, fun _ _ => rfl⟩⟩
          have : eqB l m = false := decide_eq_false (fun e => HE.out (by subst e; rfl))
          rw [this]
          rfl
      · have hk' : k = l.length := by omega
        subst hk'
        go_wp2_with fail
        go_ret
        have : eqB l m = true := decide_eq_true (List.ext_getElem? fun i => by
          by_cases h : i < l.length
          · exact HSAME.out i h
          · have := HL.out
            rw [List.getElem?_eq_none (by omega), List.getElem?_eq_none (by omega)])
        rw [this]
        exact ⟨rfl, HB.out⟩
  · have hne : ((l.length : Int) != (m.length : Int)) = true := by simp; omega
    have : eqB l m = false := decide_eq_false (fun e => hlen (by rw [e]))
    rw [this]
    clear hlen this
    go_enter Try.func35, Try.ntmps35
    go_wp2_with fail
    go_ret
    exact ⟨rfl, Below.refl _ _⟩

def rdOk (l : List Int) : Prop := okR (l.getD 2 0) (l.getD 12 0) (l.getD 13 0) ∧ l = senseB (l.getD 2 0) (l.getD 12 0) (l.getD 13 0)
instance (l : List Int) : Decidable (rdOk l) := by unfold rdOk; infer_instance
def rdE (l : List Int) : Int := if l.length < 18 then 10 else if rdOk l then 0 else 11
def rdV (l : List Int) (i : Nat) : Int := if l.length < 18 then 0 else if rdOk l then l.getD i 0 else 0
def RetRead (w : World) (l : List Int) (e : Ending) (w' : World) : Prop := e = .returned (.tuple #[.int .i64 (rdV l 2), .int .i64 (rdV l 12), .int .i64 (rdV l 13), .int .i64 (rdE l)]) ∧ Below w.heap.size w w'

theorem results_tmp4 {fn : Func} {t u v x : Tmp} (h : fn.results = #[.tmp t, .tmp u, .tmp v, .tmp x]) (tmps : Array Value) (P : Program) (w : World) :
    (results fn tmps).run P w = .ok (.tuple #[tmps.getD t undef, tmps.getD u undef, tmps.getD v undef, tmps.getD x undef]) w := by simp [results, h]

theorem Rd.getD8 {w : World} {ad : Addr} {l : List Int} (h : Rd w (some ad) (by8 l)) (i : Nat) (hi : i < l.length) (h0 : i ≠ 0) : w.cell? ⟨ad.block, ad.off + i, none⟩ = some (.int .u8 (l.getD i 0)) := by
  obtain ⟨ad', e, hc⟩ := h i (.int .u8 (l.getD i 0)) (by simp [by8, List.getD, List.getElem?_eq_getElem hi])
  injection e with e
  subst e
  rwa [add_pos _ _ h0] at hc
theorem isB.getD {l : List Int} (h : isB l) (i : Nat) : 0 ≤ l.getD i 0 ∧ l.getD i 0 < 256 := by
  by_cases hi : i < l.length
  · have := h.get i hi
    simpa [List.getD, List.getElem?_eq_getElem hi] using this
  · simp [List.getD, List.getElem?_eq_none (Nat.le_of_not_lt hi)]

theorem senseB_isB {k a q : Int} (h : okR k a q) : isB (senseB k a q) := by
  obtain ⟨h1, h2, h3, h4, h5, h6⟩ := h
  intro x hx
  simp only [senseB, List.mem_cons, List.not_mem_nil, or_false] at hx
  omega

set_option maxHeartbeats 800000 in
theorem read_any (A : Option Addr) (c : Nat) (l : List Int) (w : World) (hr : Rd w A (by8 l)) (hB : isB l) (hl : l.length ≤ 140737488355328) :
    Calls Try.prog 20 #[.slice A l.length c] w (RetRead w l) := by
  have HR := Lib.hid hr
  clear hr
  by_cases h18 : l.length < 18
  · have e1 : ∀ i, rdV l i = 0 := fun i => if_pos h18
    have e2 : rdE l = 10 := if_pos h18
    unfold RetRead
    rw [e1, e1, e1, e2]
    clear e1 e2
    go_enter Try.func20, Try.ntmps20
    go_wp2_with fail
    refine bodyPost_ret (results_tmp4 rfl _ _ _) rfl ?_
    exact ⟨rfl, Below.refl _ _⟩
  · obtain ⟨ad, rfl, hblk, _⟩ := HR.out.at_ (k := 2) (by rw [by8_length]; omega)
    have hc0 := HR.out.getD8 2 (by omega) (by omega)
    have hc1 := HR.out.getD8 12 (by omega) (by omega)
    have hc2 := HR.out.getD8 13 (by omega) (by omega)
    have b0 := hB.getD 2
    have b1 := hB.getD 12
    have b2 := hB.getD 13
    obtain ⟨x0, hx0⟩ : ∃ x, l.getD 2 0 = x := ⟨_, rfl⟩
    obtain ⟨x1, hx1⟩ : ∃ x, l.getD 12 0 = x := ⟨_, rfl⟩
    obtain ⟨x2, hx2⟩ : ∃ x, l.getD 13 0 = x := ⟨_, rfl⟩
    rw [hx0] at hc0 b0
    rw [hx1] at hc1 b1
    rw [hx2] at hc2 b2
    have w0 : IntKind.i64.wrap x0 = x0 := IntWalk.i64_in _ (by omega)
    have w1 : IntKind.i64.wrap x1 = x1 := IntWalk.i64_in _ (by omega)
    have w2 : IntKind.i64.wrap x2 = x2 := IntWalk.i64_in _ (by omega)
    have X0 := Lib.hid hx0
    have X1 := Lib.hid hx1
    have X2 := Lib.hid hx2
    have i0 : (2 : Int) < l.length := by omega
    have i1 : (12 : Int) < l.length := by omega
    have i2 : (13 : Int) < l.length := by omega
    clear hx0 hx1 hx2
    have HRD := Lib.hid ((HR.out.below (bl_alloc w (.cells #[.int .i64 0, .int .i64 x0, .int .i64 x1, .int .i64 x2, .slice none 0 0] 34))).drew)
    go_enter Try.func20, Try.ntmps20
    go_wp2_with fail
    go_region_held3 (fun w' => w'.cell? ⟨ad.block, ad.off + 2, none⟩ = some (.int .u8 x0) ∧ w'.cell? ⟨ad.block, ad.off + 12, none⟩ = some (.int .u8 x1) ∧ w'.cell? ⟨ad.block, ad.off + 13, none⟩ = some (.int .u8 x2)) (go_keep) (fail)
    clear hc0 hc1 hc2
    by_cases hok : okR x0 x1 x2
    · have hd1 : dataL x0 x1 x2 = senseB x0 x1 x2 := if_pos hok
      have hd2 : dataE x0 x1 x2 = 0 := if_pos hok
      have HD := Lib.hid (data_any (.int .i64 0) (.slice none 0 0) x0 x1 x2)
      rw [hd1, hd2] at HD
      clear hd1 hd2
      have S18 : Hid ((senseB x0 x1 x2).length = 18) := Lib.hid (by rfl)
      have BK := Lib.hid ((Blk.newAt w w.heap.size 34 #[.int .i64 0, .int .i64 x0, .int .i64 x1, .int .i64 x2, .slice none 0 0] rfl).drew)
      by_cases heq : l = senseB x0 x1 x2
      · have hq : eqB l (senseB x0 x1 x2) = true := decide_eq_true heq
        have hro : rdOk l := ⟨by rw [X0.out, X1.out, X2.out]; exact hok, by rw [X0.out, X1.out, X2.out]; exact heq⟩
        have HV : Hid (∀ i, rdV l i = l.getD i 0) := Lib.hid (fun i => (if_neg h18).trans (if_pos hro))
        have HE : Hid (rdE l = 0) := Lib.hid ((if_neg h18).trans (if_pos hro))
        clear heq hro
        go_wp2_with (first
          | (go_at_call 18; (with_reducible refine (HD.out _).mono ?_); rintro e w3 ⟨A3, c3, rfl, hc3, hr3, hb3⟩; have HR3 := Lib.hid hr3; have HB3 := Lib.hid hb3; clear hr3 hb3)
          | (go_at_call 35; (with_reducible refine (equal_any _ _ _ _ l (senseB x0 x1 x2) _ (HRD.out.below HB3.out) HR3.out hl (by have := S18.out; omega)).mono ?_); rintro e w4 ⟨rfl, hb4⟩; have hbk := (BK.out.keep HB3.out).keep hb4; have d1 := hbk.cell 1; have d2 := hbk.cell 2; have d3 := hbk.cell 3; simp at d1 d2 d3; have HB4 := Lib.hid hb4; clear hb4 hbk))
        go_quiet (fail)
        go_wp2_with fail
        refine bodyPost_ret (results_tmp4 rfl _ _ _) rfl ?_
        unfold RetRead
        rw [HV.out, HV.out, HV.out, HE.out, X0.out, X1.out, X2.out]
        exact ⟨rfl, bl_chain (bl_chain (bl_alloc w _) (bl_chain (bl_drew _) (bl_chain HB3.out HB4.out))) ⟨rfl, rfl, rfl, Nat.le_refl _, fun _ _ => rfl⟩⟩
      · have hq : eqB l (senseB x0 x1 x2) = false := decide_eq_false heq
        have hro : ¬ rdOk l := fun h => heq (by have := h.2; rwa [X0.out, X1.out, X2.out] at this)
        have HV : Hid (∀ i, rdV l i = 0) := Lib.hid (fun i => (if_neg h18).trans (if_neg hro))
        have HE : Hid (rdE l = 11) := Lib.hid ((if_neg h18).trans (if_neg hro))
        clear heq hro
        go_wp2_with (first
          | (go_at_call 18; (with_reducible refine (HD.out _).mono ?_); rintro e w3 ⟨A3, c3, rfl, hc3, hr3, hb3⟩; have HR3 := Lib.hid hr3; have HB3 := Lib.hid hb3; clear hr3 hb3)
          | (go_at_call 35; (with_reducible refine (equal_any _ _ _ _ l (senseB x0 x1 x2) _ (HRD.out.below HB3.out) HR3.out hl (by have := S18.out; omega)).mono ?_); rintro e w4 ⟨rfl, hb4⟩; have HB4 := Lib.hid hb4; clear hb4))
        refine bodyPost_ret (results_tmp4 rfl _ _ _) rfl ?_
        unfold RetRead
        rw [HV.out, HV.out, HV.out, HE.out]
        exact ⟨rfl, bl_chain (bl_alloc w _) (bl_chain (bl_drew _) (bl_chain HB3.out HB4.out))⟩
    · have hd1 : dataL x0 x1 x2 = [] := if_neg hok
      have hd2 : dataE x0 x1 x2 = 1 := if_neg hok
      have HD := Lib.hid (data_any (.int .i64 0) (.slice none 0 0) x0 x1 x2)
      rw [hd1, hd2] at HD
      clear hd1 hd2
      have hro : ¬ rdOk l := fun h => hok (by have := h.1; rwa [X0.out, X1.out, X2.out] at this)
      have HV : Hid (∀ i, rdV l i = 0) := Lib.hid (fun i => (if_neg h18).trans (if_neg hro))
      have HE : Hid (rdE l = 11) := Lib.hid ((if_neg h18).trans (if_neg hro))
      clear hro
      go_wp2_with (first
        | (go_at_call 18; (with_reducible refine (HD.out _).mono ?_); rintro e w3 ⟨A3, c3, rfl, hc3, hr3, hb3⟩; have HR3 := Lib.hid hr3; have HB3 := Lib.hid hb3; clear hr3 hb3))
      refine bodyPost_ret (results_tmp4 rfl _ _ _) rfl ?_
      unfold RetRead
      rw [HV.out, HV.out, HV.out, HE.out]
      exact ⟨rfl, bl_chain (bl_alloc w _) (bl_chain (bl_drew _) HB3.out)⟩

set_option maxHeartbeats 800000 in
theorem rread_any (A : Option Addr) (c : Nat) (l : List Int) (w : World) (hr : Rd w A (by8 l)) (hB : isB l) (hl : l.length ≤ 140737488355328) :
    Calls Try.prog 21 #[.slice A l.length c] w (RetRead w l) := by
  have HR := Lib.hid hr
  clear hr
  by_cases h18 : l.length < 18
  · have e1 : ∀ i, rdV l i = 0 := fun i => if_pos h18
    have e2 : rdE l = 10 := if_pos h18
    unfold RetRead
    rw [e1, e1, e1, e2]
    clear e1 e2
    go_enter Try.func21, Try.ntmps21
    go_wp2_with fail
    refine bodyPost_ret (results_tmp4 rfl _ _ _) rfl ?_
    exact ⟨rfl, Below.refl _ _⟩
  · obtain ⟨ad, rfl, hblk, _⟩ := HR.out.at_ (k := 2) (by rw [by8_length]; omega)
    have hc0 := HR.out.getD8 2 (by omega) (by omega)
    have hc1 := HR.out.getD8 12 (by omega) (by omega)
    have hc2 := HR.out.getD8 13 (by omega) (by omega)
    have b0 := hB.getD 2
    have b1 := hB.getD 12
    have b2 := hB.getD 13
    obtain ⟨x0, hx0⟩ : ∃ x, l.getD 2 0 = x := ⟨_, rfl⟩
    obtain ⟨x1, hx1⟩ : ∃ x, l.getD 12 0 = x := ⟨_, rfl⟩
    obtain ⟨x2, hx2⟩ : ∃ x, l.getD 13 0 = x := ⟨_, rfl⟩
    rw [hx0] at hc0 b0
    rw [hx1] at hc1 b1
    rw [hx2] at hc2 b2
    have w0 : IntKind.i64.wrap x0 = x0 := IntWalk.i64_in _ (by omega)
    have w1 : IntKind.i64.wrap x1 = x1 := IntWalk.i64_in _ (by omega)
    have w2 : IntKind.i64.wrap x2 = x2 := IntWalk.i64_in _ (by omega)
    have X0 := Lib.hid hx0
    have X1 := Lib.hid hx1
    have X2 := Lib.hid hx2
    have i0 : (2 : Int) < l.length := by omega
    have i1 : (12 : Int) < l.length := by omega
    have i2 : (13 : Int) < l.length := by omega
    clear hx0 hx1 hx2
    have HRD := Lib.hid ((HR.out.below (bl_alloc w (.cells #[.int .i64 0, .int .i64 x0, .int .i64 x1, .int .i64 x2, .slice none 0 0] 34))).drew)
    go_enter Try.func21, Try.ntmps21
    go_wp2_with fail
    go_region_held3 (fun w' => w'.cell? ⟨ad.block, ad.off + 2, none⟩ = some (.int .u8 x0) ∧ w'.cell? ⟨ad.block, ad.off + 12, none⟩ = some (.int .u8 x1) ∧ w'.cell? ⟨ad.block, ad.off + 13, none⟩ = some (.int .u8 x2)) (go_keep) (fail)
    clear hc0 hc1 hc2
    by_cases hok : okR x0 x1 x2
    · have hd1 : dataL x0 x1 x2 = senseB x0 x1 x2 := if_pos hok
      have hd2 : dataE x0 x1 x2 = 0 := if_pos hok
      have HD := Lib.hid (rdata_any (.int .i64 0) (.slice none 0 0) x0 x1 x2)
      rw [hd1, hd2] at HD
      clear hd1 hd2
      have S18 : Hid ((senseB x0 x1 x2).length = 18) := Lib.hid (by rfl)
      have BK := Lib.hid ((Blk.newAt w w.heap.size 34 #[.int .i64 0, .int .i64 x0, .int .i64 x1, .int .i64 x2, .slice none 0 0] rfl).drew)
      by_cases heq : l = senseB x0 x1 x2
      · have hq : True := trivial
        have hro : rdOk l := ⟨by rw [X0.out, X1.out, X2.out]; exact hok, by rw [X0.out, X1.out, X2.out]; exact heq⟩
        have HV : Hid (∀ i, rdV l i = l.getD i 0) := Lib.hid (fun i => (if_neg h18).trans (if_pos hro))
        have HE : Hid (rdE l = 0) := Lib.hid ((if_neg h18).trans (if_pos hro))
        have HQ2 := Lib.hid heq
        have HQL : Hid ((senseB x0 x1 x2).length = l.length) := Lib.hid (by rw [← heq])
        clear heq hro
        go_wp2_with (first
          | (go_at_call 19; (with_reducible refine (HD.out _).mono ?_); rintro e w3 ⟨A3, c3, rfl, hc3, hr3x, hb3x⟩; have k1 := conv8 _ c3 hr3x rfl; have k2 := conv8 (l := senseB x0 x1 x2) l.length c ((HQ2.out ▸ HRD.out).below hb3x) HQL.out; have hbk := BK.out.keep hb3x; have d1 := hbk.cell 1; have d2 := hbk.cell 2; have d3 := hbk.cell 3; simp at d1 d2 d3; have HB3 := Lib.hid hb3x; clear hb3x hr3x hbk))
        go_quiet (fail)
        go_wp2_with fail
        refine bodyPost_ret (results_tmp4 rfl _ _ _) rfl ?_
        unfold RetRead
        rw [HV.out, HV.out, HV.out, HE.out, X0.out, X1.out, X2.out]
        exact ⟨rfl, bl_chain (bl_chain (bl_alloc w _) (bl_chain (bl_drew _) HB3.out)) ⟨rfl, rfl, rfl, Nat.le_refl _, fun _ _ => rfl⟩⟩
      · have hq := str_ne (senseB_isB hok) hB (fun e => heq e.symm)
        have hro : ¬ rdOk l := fun h => heq (by have := h.2; rwa [X0.out, X1.out, X2.out] at this)
        have HV : Hid (∀ i, rdV l i = 0) := Lib.hid (fun i => (if_neg h18).trans (if_neg hro))
        have HE : Hid (rdE l = 11) := Lib.hid ((if_neg h18).trans (if_neg hro))
        clear heq hro
        go_wp2_with (first
          | (go_at_call 19; (with_reducible refine (HD.out _).mono ?_); rintro e w3 ⟨A3, c3, rfl, hc3, hr3, hb3⟩; have k1 := conv8 _ c3 hr3 rfl; have k2 := conv8 l.length c (HRD.out.below hb3) rfl; have HB3 := Lib.hid hb3; clear hb3 hr3))

        refine bodyPost_ret (results_tmp4 rfl _ _ _) rfl ?_
        unfold RetRead
        rw [HV.out, HV.out, HV.out, HE.out]
        exact ⟨rfl, bl_chain (bl_alloc w _) (bl_chain (bl_drew _) HB3.out)⟩
    · have hd1 : dataL x0 x1 x2 = [] := if_neg hok
      have hd2 : dataE x0 x1 x2 = 1 := if_neg hok
      have HD := Lib.hid (rdata_any (.int .i64 0) (.slice none 0 0) x0 x1 x2)
      rw [hd1, hd2] at HD
      clear hd1 hd2
      have hro : ¬ rdOk l := fun h => hok (by have := h.1; rwa [X0.out, X1.out, X2.out] at this)
      have HV : Hid (∀ i, rdV l i = 0) := Lib.hid (fun i => (if_neg h18).trans (if_neg hro))
      have HE : Hid (rdE l = 11) := Lib.hid ((if_neg h18).trans (if_neg hro))
      clear hro
      go_wp2_with (first
        | (go_at_call 19; (with_reducible refine (HD.out _).mono ?_); rintro e w3 ⟨A3, c3, rfl, hc3, hr3, hb3⟩; have HR3 := Lib.hid hr3; have HB3 := Lib.hid hb3; clear hr3 hb3))
      refine bodyPost_ret (results_tmp4 rfl _ _ _) rfl ?_
      unfold RetRead
      rw [HV.out, HV.out, HV.out, HE.out]
      exact ⟨rfl, bl_chain (bl_alloc w _) (bl_chain (bl_drew _) HB3.out)⟩

end Go.Proofs.Ytifhlkfdmnkhoaa
