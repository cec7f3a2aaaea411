/- ExtentPlays: the walk. -/
import Derived.Test.YtdddbpnllhnfdaaAlikeX
import Derived.Test.YtdddbpnllhnfdaaLoadP
namespace Go.Proofs.Ytdddbpnllhnfdaa
set_option linter.unusedVariables false
set_option linter.unusedSimpArgs false
set_option maxRecDepth 100000
open Go.RowKit Go.Shelf

section
variable {w : World} {g B : Nat} {L : List (List Int)} {D : DataW Unit} {M : Nat → Prop}
theorem mclone_any (h : IsImg w g L B D M) : Calls Try.prog 59 #[.map (some B)] w fun e w' => e = .returned (.map (some w.heap.size)) ∧ w'.ownsMap Try.prog 3 rSl w.heap.size 256 D ∧ Below w.heap.size w w' := by
  refine (AnyW.maps_Clone_owns Try.cloneL 3 rSl B 256 D w h.own).mono ?_
  rintro e w' ⟨rfl, h1, _, h2⟩
  exact ⟨rfl, h1, h2⟩
def RetCopy (w : World) (L : List (List Int)) (M : Nat → Prop) (e : Ending) (w' : World) : Prop := ∃ g' B' D', e = .returned (.pointer (some ⟨g', 0, none⟩)) ∧ w.heap.size ≤ g' ∧ w.heap.size ≤ B' ∧ IsImg w' g' L B' D' (fun b => M b ∨ b = g' ∨ b = B') ∧ Below w.heap.size w w'
set_option maxHeartbeats 1600000 in
theorem copy_any (h : IsImg w g L B D M) : Calls Try.prog 33 #[.pointer (some ⟨g, 0, none⟩)] w (RetCopy w L M) := by
  have c0 := h.c0
  have c1 := h.c1
  have HH := Lib.hid h
  have HC := Lib.hid (mclone_any (h.below (bl_drew w)))
  clear h
  go_enter Try.func33, Try.ntmps33
  go_wp2_with fail
  go_region_held3 (fun w' => w'.cell? ⟨g, 0, none⟩ = some (.int .i64 L.length) ∧ w'.cell? ⟨g, 1, none⟩ = some (.map (some B))) (go_keep) ((go_at_call 59; (with_reducible refine HC.out.mono ?_); rintro e w' ⟨rfl, ho, hb⟩; have z0 := (hb.cell (cell_block_lt c0)).trans c0; have z1 := (hb.cell (cell_block_lt c1)).trans c1; have HO := Lib.hid ho; have HB := Lib.hid hb; clear ho hb))
  go_wp2_with fail
  go_ret
  have hI := HH.out.below (bl_drew w)
  have hI2 := hI.below (bl_chain HB.out (bl_alloc w' (.cells #[.int .i64 L.length, .map (some w.drew.heap.size)] 75)))
  refine ⟨w'.heap.size, w.drew.heap.size, D, rfl, ?_, Nat.le_refl w.heap.size, ⟨hI2.ok, Blk.new _ _ _, HO.out.alloc _, hI2.has, fun i hi => ?_, hI2.sz, .inr (.inl rfl), .inr (.inr rfl), fun b hb => ?_⟩, bl_chain (bl_drew w) (bl_chain HB.out (bl_alloc w' _))⟩
  · have := HB.out.size
    have e : w.drew.heap.size = w.heap.size := rfl
    omega
  · obtain ⟨b, h1, h2, h3⟩ := hI2.at_ i hi
    exact ⟨b, h1, .inl h2, h3⟩
  · rcases hb with h | rfl | rfl
    · exact hI2.mlt b h
    · simp
    · have := HO.out.lt
      have e : w.drew.heap.size = w.heap.size := rfl
      simp
      omega
theorem same_nil1 (h : IsImg w g L B D M) : Calls Try.prog 21 #[.pointer (some ⟨g, 0, none⟩), .pointer none] w fun e w' => e = .returned (.bool false) ∧ w = w' := by
  clear h
  go_enter Try.func21, Try.ntmps21
  go_wp2_with fail
  go_ret
  exact ⟨rfl, rfl⟩
end
theorem bytesL_isB {L : List (List Int)} (h : ImgOk L) : isB (bytesL L) := by
  unfold bytesL
  refine ((be_isB _ _).append (be_isB _ _)).append (fun x hx => ?_)
  obtain ⟨z, hz, hx⟩ := List.mem_flatMap.1 hx
  obtain ⟨i, rfl, hi, hb⟩ := (numsTo_mem L z _).1 hz
  have := h.hi
  unfold e1 at hx
  rcases List.mem_cons.1 hx with rfl | hx
  · omega
  · rcases List.mem_cons.1 hx with rfl | hx
    · omega
    · rcases h.at_ ((i : Int)).toNat with h1 | h1
      · rw [h1] at hx; cases hx
      · exact h1.2 x hx
theorem bytesL_len {L : List (List Int)} (h : ImgOk L) : (bytesL L).length ≤ 20000 := by
  have := nums_flat_length L h L.length
  have := h.hi
  unfold bytesL nums
  rw [List.length_append, List.length_append, be_length, be_length]
  omega
theorem Duo.swapI {w W W' : World} {Z0 Z : Nat → Prop} {g g2 r : Nat} {L L2 : List (List Int)} {M' : Nat → Prop} (h : Duo w W Z0 g r L L2) (hb : Below W.heap.size W W') (h2 : Img W' g2 L M') (hM : ∀ b, M' b → W.heap.size ≤ b) (hZ : ∀ b, Z b → W.heap.size ≤ b ∧ b < W'.heap.size ∧ ¬ M' b) : Duo w W' Z g2 r L L2 := by
  obtain ⟨B, D, M, q, c, M2, h1, h3, h4, h5, h6, h7, h8⟩ := h
  obtain ⟨B', D', h2⟩ := h2
  exact ⟨B', D', M', q, c, M2, h2, h3.below hb, fun b x y => by have := hM b x; have := h3.mlt b y; omega, fun b x => Nat.le_trans h7.size (hM b x), h6, bl_chain h7 hb, fun b hz => ⟨(hZ b hz).2.1, (hZ b hz).2.2, fun x => by have := h3.mlt b x; have := (hZ b hz).1; omega⟩⟩
theorem un0 {L : List (List Int)} (h : ImgOk L) : decide (unmapL L 0 1 = L) = !hasB L 0 := by
  have h1 := h.lo
  have hin : inB L.length 0 1 = true := decide_eq_true (by omega)
  have e : unmapL L 0 1 = L.set 0 [] := by
    unfold unmapL
    rw [if_pos hin]
    rfl
  rw [e]
  unfold hasB
  by_cases hb : bk L 0 = []
  · have : L.set 0 [] = L := by
      refine img_ext (by rw [List.length_set]) (fun i => ?_)
      rw [bk_set L 0 (by omega)]
      split
      · rename_i h; rw [h, hb]
      · rfl
    simp [this, hb]
  · have : L.set 0 [] ≠ L := fun e => hb (by
      have := bk_set L 0 (by omega) [] 0
      rw [e] at this
      simpa using this)
    simp [this, hb]
set_option maxHeartbeats 16000000 in
theorem extentPlays_walk (n : Int) (A : Option Addr) (c : Nat) (l : List OpA) (w : World) (hn : -9223372036854775808 ≤ n ∧ n ≤ 9223372036854775807) (hl : l.length ≤ 140737488351232) (hA : OpsAt w A l) :
    Calls Try.prog 9 #[.int .i64 n, .slice A l.length c] w fun e w' => e = .returned (.bool true) ∧ Below w.heap.size w w' := by
  have HA := Lib.hid hA
  clear hA
  by_cases hok : 1 ≤ n ∧ n ≤ 256
  · obtain ⟨m, rfl⟩ := Int.eq_ofNat_of_zero_le (show 0 ≤ n by omega)
    have hm1 : 1 ≤ m := by omega
    have hm2 : m ≤ 256 := by omega
    clear hok hn
    go_enter Try.func9, Try.ntmps9
    go_wp2_with (first
      | (go_at_call 20; (with_reducible refine (new_ok m w hm1 hm2).mono ?_); rintro e w1 ⟨g1, M1, rfl, hi1, hM1, hb1⟩; have I1 := Lib.hid hi1; have M1h := Lib.hid hM1; have B1 := Lib.hid hb1; clear hi1 hM1 hb1)
      | (go_at_call 34; (with_reducible refine (rnew_ok m w1 hm1 hm2).mono ?_); rintro e w2 ⟨r, q, c2, M2, rfl, hi2, hM2, hb2⟩; have P2 := Lib.hid (show Duo w w2 NoB g1 r (emptyL m) (emptyL m) from Duo.new I1.out M1h.out B1.out hi2 hM2 hb2); clear hi2 hM2 hb2))
    go_loopw [5, 9] (fun v5 v W => ∃ (i : Nat) (g : Nat) (L : List (List Int)), i ≤ l.length ∧ i ≤ 60 ∧ v = .int .i64 (i : Int) ∧ v5 = .pointer (some ⟨g, 0, none⟩) ∧ Duo w W NoB g r L L) (fun _ v _ => 60 - (RowKit.intOf v).toNat)
    case atStart => exact ⟨0, g1, emptyL m, by omega, by omega, rfl, rfl, P2.out⟩
    case round =>
      obtain ⟨i, g, L, hi1, hi2, rfl, rfl, hD⟩ := hrel
      have P3 := Lib.hid hD
      clear hD
      by_cases hlt : i < l.length ∧ i < 60
      · obtain ⟨hl1, hl2⟩ := hlt
        obtain ⟨hin, ba, oa, rfl, hce⟩ := HA.out i hl1
        have hbl : ba < w.heap.size := cell_block_lt (hce 0 _ rfl)
        have x0 : wr.cell? ⟨ba, oa + i * 5, none⟩ = some (.int .i64 l[i].kind) := (P3.out.bl.cell hbl).trans (hce 0 _ rfl)
        have x1 : wr.cell? ⟨ba, oa + i * 5 + 1, none⟩ = some (.int .i64 l[i].lba) := (P3.out.bl.cell hbl).trans (hce 1 _ rfl)
        have x2 : wr.cell? ⟨ba, oa + i * 5 + 2, none⟩ = some (.int .i64 l[i].n) := (P3.out.bl.cell hbl).trans (hce 2 _ rfl)
        have x3 : wr.cell? ⟨ba, oa + i * 5 + 3, none⟩ = some (.slice l[i].A l[i].b.length l[i].c) := (P3.out.bl.cell hbl).trans (hce 3 _ rfl)
        have x4 : wr.cell? ⟨ba, oa + i * 5 + 4, none⟩ = some (.slice l[i].B l[i].l.length l[i].d) := (P3.out.bl.cell hbl).trans (hce 4 _ rfl)
        have HIN := Lib.hid hin
        clear hce hin
        generalize l[i] = y at x0 x1 x2 x3 x4 HIN
        have HNC := Lib.hid (show 28 ≠ 62 from by decide)
        have hbx : Blk (wr.alloc (.cells #[.int .i64 y.kind, .int .i64 y.lba, .int .i64 y.n, .slice y.A y.b.length y.c, .slice y.B y.l.length y.d] 62)) wr.heap.size 62 #[.int .i64 y.kind, .int .i64 y.lba, .int .i64 y.n, .slice y.A y.b.length y.c, .slice y.B y.l.length y.d] := Blk.new _ _ _
        have HBX := Lib.hid hbx
        have P4 := Lib.hid (P3.out.below (bl_alloc wr (.cells #[.int .i64 y.kind, .int .i64 y.lba, .int .i64 y.n, .slice y.A y.b.length y.c, .slice y.B y.l.length y.d] 62)))
        clear hbx
        by_cases hk : y.kind = 5
        · have t5 : (y.kind == 5) = true := by simpa using hk
          clear hk
          have hokL := P4.out.okL
          have hlen := bytesL_len hokL
          have HBL := Lib.hid (bytesL_isB hokL)
          have HBY := Lib.hid (show ∀ W, Duo w W NoB g r L L → Calls Try.prog 13 #[.pointer (some ⟨g, 0, none⟩)] W fun e w' => ∃ A c, e = .returned (.slice A (bytesL L).length c) ∧ w'.ownsRow W.heap.size 5 1 (.slice A (bytesL L).length c) (bytesL L).length (by8 (bytesL L)) ∧ Below W.heap.size W w' from fun W h => by
            obtain ⟨B, D, M, hI⟩ := h.pimg
            refine (bytes_any hI).mono ?_
            rintro e w' ⟨A, c, rfl, _, ho, hb⟩
            exact ⟨A, c, rfl, ho, hb⟩)
          have HLD := Lib.hid (bytes_load hokL)
          have HSM := Lib.hid (show ∀ W (g1 g2 : Nat), (∃ M, Img W g1 L M) → (∃ M, Img W g2 L M) → Calls Try.prog 21 #[.pointer (some ⟨g1, 0, none⟩), .pointer (some ⟨g2, 0, none⟩)] W fun e w' => e = .returned (.bool true) ∧ Below W.heap.size W w' from fun W g1 g2 ⟨M1, h1⟩ ⟨M2, h2⟩ => by
            have := same_any h1 h2
            rw [decide_eq_true rfl] at this
            exact this)
          obtain ⟨BL, hBLe⟩ : ∃ BL, bytesL L = BL := ⟨_, rfl⟩
          rw [hBLe] at hlen HBL HBY HLD
          clear hokL hBLe
          go_wp2_with (first
            | (go_at_call 13; (with_reducible refine (HBY.out _ P4.out).mono ?_); rintro e w5 ⟨A5, c5, rfl, ho, hb⟩; have HLT := Lib.hid (lent_any A5 c5 BL w5 (Rd.of_own ho) (by omega)); have X5 := Lib.hid hb; clear ho hb)
            | (go_at_call 27; (with_reducible refine HLT.out.mono ?_); rintro e w6 ⟨g0, cap, rfl, ho, hb⟩; have O6 := Lib.hid ho; have X6 := Lib.hid (bl_chain X5.out hb); have hcap : BL.length + 1 ≤ cap ∧ cap ≤ maxLen := (by obtain ⟨A', c', e, h1, _, h2⟩ := ownsRow_slice ho; injection e with _ _ e; omega); have hg0 := own_lt ho g0 ((Blo.some_iff _ _).2 rfl); have hg1 := Nat.le_trans X5.out.size (own_ge ho g0 ((Blo.some_iff _ _).2 rfl)); have hl6 := load_any (some ⟨g0, 0, none⟩) cap BL w6 (Rd.of_own (own_pre8 (m := [167]) ho)) HBL.out (by omega) hcap.2 (by omega); rw [HLD.out] at hl6; have HL6 := Lib.hid hl6; clear ho hb hl6)
            | (go_at_call 28; (with_reducible refine HL6.out.mono ?_); rintro e w7 hx; obtain ⟨g2, M2, rfl, hi, hM, hb⟩ := hx.1 rfl; have I7 := Lib.hid hi; have M7 := Lib.hid hM; have X7 := Lib.hid (bl_chain X6.out hb); have O7 := Lib.hid (own_below (B := 0) O6.out hb); have HS7 := Lib.hid (HSM.out w7 g2 g ⟨_, hi⟩ (by obtain ⟨B, D, M, hI⟩ := P4.out.pimg; exact ⟨M, B, D, hI.below X7.out⟩)); clear hx hi hM hb)
            | (go_at_call 21; (with_reducible refine HS7.out.mono ?_); rintro e w8 ⟨rfl, hb⟩; have X8 := Lib.hid (bl_chain X7.out hb); have I8 := Lib.hid (I7.out.below hb); have O8 := Lib.hid (own_below (B := 0) O7.out hb); have HS8 := Lib.hid (HSM.out w8 g g2 (by obtain ⟨B, D, M, hI⟩ := P4.out.pimg; exact ⟨M, B, D, hI.below X8.out⟩) ⟨_, I8.out⟩); clear hb)
            | (go_at_call 21; (with_reducible refine HS8.out.mono ?_); rintro e w9 ⟨rfl, hb⟩; have X9 := Lib.hid (bl_chain X8.out hb); have I9 := Lib.hid (I8.out.below hb); have O9 := Lib.hid (own_below (B := 0) O8.out hb); have hz := X6.out.size; have P9 := Lib.hid (show Duo w w9 (fun x => x = g0) g2 r L L from P4.out.swapI X9.out I9.out (fun x hx => Nat.le_trans hz (M7.out x hx)) (fun x e => by rw [e]; exact ⟨hg1, own_lt O9.out g0 ((Blo.some_iff _ _).2 rfl), fun hm => by have := M7.out g0 hm; omega⟩)); have HB9 := Lib.hid (HBX.out.keep X9.out); clear hb)
            | (go_at_call 26; (with_reducible refine (spoil_any (some ⟨g0, 0, none⟩) BL.length cap (by8 BL) _ (ownsRow_base (own_pre8 (m := [167]) O9.out) (Nat.zero_le _)) (by omega)).mono ?_); rintro e w10 ⟨rfl, ht⟩; have P10 := Lib.hid ((P9.out.turn ht (fun x hx => ((Blo.some_iff _ _).1 hx).symm) (fun x hx => by have := (Blo.some_iff _ _).1 hx; have := P4.out.bl.size; simp at *; omega)).forget); have hb10 := ht.blk HB9.out (fun hx => by have := (Blo.some_iff _ _).1 hx; have := HBX.out.lt; simp at *; omega); have HB10 := Lib.hid hb10; have y0 := hb10.cell 0; have y1 := hb10.cell 1; have y2 := hb10.cell 2; have y3 := hb10.cell 3; have y4 := hb10.cell 4; simp at y0 y1 y2 y3 y4; clear ht hb10)
            | (go_at_call 35; (with_reducible refine (step_any P10.out y HIN.out).mono ?_); rintro e w11 ⟨rfl, hd, hkp⟩; have P11 := Lib.hid hd; have hb5 := hkp.2 _ _ _ HB10.out HNC.out; have z1 := hb5.cell 1; have z2 := hb5.cell 2; simp at z1 z2; clear hd hkp hb5)
            | (go_at_call 30; (with_reducible refine (alike_true P11.out y.lba y.n ⟨HIN.out.lb.1, HIN.out.lb.2, HIN.out.nb.1, HIN.out.nb.2⟩).mono ?_); rintro e w12 ⟨rfl, hd, hb⟩; have P12 := Lib.hid hd; clear hd hb))
          go_roundw
          case rel => exact ⟨i + 1, g2, stepL L y, by omega, by omega, by go_num, rfl, P12.out⟩
          case measure => simp [RowKit.intOf]; omega
        · have t5 : (y.kind == 5) = false := by simpa using hk
          clear hk
          go_wp2_with (first
            | (go_at_call 35; (with_reducible refine (step_any P4.out y HIN.out).mono ?_); rintro e w5 ⟨rfl, hd, hkp⟩; have P5 := Lib.hid hd; have hb5 := hkp.2 _ _ _ HBX.out HNC.out; have HB5 := Lib.hid hb5; have z1 := hb5.cell 1; have z2 := hb5.cell 2; simp at z1 z2; clear hd hkp hb5)
            | (go_at_call 30; (with_reducible refine (alike_true P5.out y.lba y.n ⟨HIN.out.lb.1, HIN.out.lb.2, HIN.out.nb.1, HIN.out.nb.2⟩).mono ?_); rintro e w6 ⟨rfl, hd, hb⟩; have P6 := Lib.hid hd; clear hd hb))
          go_roundw
          case rel => exact ⟨i + 1, g, stepL L y, by omega, by omega, by go_num, rfl, P6.out⟩
          case measure => simp [RowKit.intOf]; omega
      · have hend : i = 60 ∨ ¬ i < l.length := by omega
        have hU := un0 P3.out.okL
        have hok1 := P3.out.okL.lo
        obtain ⟨B, D, M, hI⟩ := P3.out.pimg
        have HI := Lib.hid hI
        have HCP := Lib.hid (copy_any hI)
        clear hI
        rcases hh : hasB L 0 with _ | _ <;> rcases hend with rfl | hlt2
        all_goals
          rw [hh] at hU
          have HU := Lib.hid hU
          have HH := Lib.hid hh
          clear hU hh hlt
          go_wp2_with (first
            | (go_at_call 33; (with_reducible refine HCP.out.mono ?_); rintro e w5 ⟨g5, B5, D5, rfl, hg5, hB5, hI5, hb⟩; have P5 := Lib.hid (P3.out.avoid hb (Z' := fun x => x = B5) (fun x e => by rw [e]; exact ⟨hB5, hI5.mlt B5 (.inr (.inr rfl))⟩)); have HI5 := Lib.hid hI5; have HM5 := Lib.hid (HI.out.below hb); have hs5 := same_any ⟨B5, D5, hI5⟩ ⟨B, D, HI.out.below hb⟩; rw [decide_eq_true rfl] at hs5; have HS5 := Lib.hid hs5; clear hI5 hb hs5)
            | (go_at_call 21; (with_reducible refine HS5.out.mono ?_); rintro e w6 ⟨rfl, hb⟩; have P6 := Lib.hid (P5.out.below hb); have HI6 := Lib.hid (HI5.out.below hb); have HM6 := Lib.hid (HM5.out.below hb); have HN6 := Lib.hid (same_nil1 HM6.out); have hh6 := has_any ⟨B5, D5, HI6.out⟩ 0 (by omega); rw [HH.out] at hh6; have HH6 := Lib.hid hh6; have HUN := Lib.hid (unmap_any HI6.out 0 1 (by omega)); clear hb hh6)
            | (go_at_call 21; (with_reducible refine HN6.out.mono ?_); rintro e w' ⟨rfl, rfl⟩)
            | (go_at_call 16; (with_reducible refine HH6.out.mono ?_); rintro e w' ⟨rfl, rfl⟩)
            | (go_at_call 32; (with_reducible refine HUN.out.mono ?_); rintro e w7 ⟨D7, M7, rfl, hI7, hM7, ht⟩; have P7 := Lib.hid (P6.out.turn ht (fun x hx => hx) (fun x hx => by have := P3.out.bl.size; rw [hx]; omega)); obtain ⟨B8, D8, M8, hI8⟩ := P7.out.pimg; have hs7 := same_any ⟨B5, D7, hI7⟩ ⟨B8, D8, hI8⟩; rw [HU.out] at hs7; have HS7 := Lib.hid hs7; clear hI7 hM7 ht hs7 hI8)
            | (go_at_call 21; (with_reducible refine HS7.out.mono ?_); rintro e w8 ⟨rfl, hb⟩; have P8 := Lib.hid ((P7.out.below hb).forget); clear hb)
            | (go_at_call 30; (with_reducible refine (alike_true P8.out 0 1 (by omega)).mono ?_); rintro e w9 ⟨rfl, hd, hb⟩; have P9 := Lib.hid hd; clear hd hb)
            | (go_at_call 12; (with_reducible refine (known_any _).mono ?_); rintro e w10 ⟨rfl, hb⟩; have P10 := Lib.hid (P9.out.below hb); clear hb))
          all_goals
            go_ret
            exact ⟨rfl, P10.out.bl⟩
  · have hnb := fun W => new_bad n W hok
    have hrb := fun W => rnew_bad n W hok
    go_enter Try.func9, Try.ntmps9
    go_wp2_with (first
      | (go_at_call 20; (with_reducible refine (hnb w).mono ?_); rintro e w1 ⟨rfl, rfl⟩)
      | (go_at_call 34; (with_reducible refine (hrb w).mono ?_); rintro e w1 ⟨rfl, rfl⟩)
      | (go_at_call 12; (with_reducible refine (known_any _).mono ?_); rintro e w9 ⟨rfl, hb9⟩; have B9 := Lib.hid hb9; clear hb9))
    go_ret
    exact ⟨rfl, B9.out⟩
end Go.Proofs.Ytdddbpnllhnfdaa
