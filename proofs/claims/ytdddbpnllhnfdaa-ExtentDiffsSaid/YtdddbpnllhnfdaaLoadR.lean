/- The reference's Load: its contract. -/
import Derived.Test.YtdddbpnllhnfdaaLoadX
import Derived.Test.YtdddbpnllhnfdaaRefX4
namespace Go.Proofs.Ytdddbpnllhnfdaa
set_option linter.unusedVariables false
set_option linter.unusedSimpArgs false
set_option maxRecDepth 100000
open Go.RowKit Go.Shelf

/-- A world's blocks below n alone. -/
def cutW (W : World) (n : Nat) : World := { W with heap := W.heap.extract 0 n }
theorem cutW_size {W : World} {n : Nat} (h : n ≤ W.heap.size) : (cutW W n).heap.size = n := by simp [cutW]; omega
theorem cutW_at {W : World} {n k : Nat} (h : k < n) : (cutW W n).heap[k]? = W.heap[k]? := by
  simp only [cutW, Array.getElem?_extract]
  by_cases hk : k < W.heap.size
  · rw [if_pos (by omega), Nat.zero_add]
  · rw [if_neg (by omega), Array.getElem?_eq_none (by omega)]
theorem cutW_below {W : World} {n : Nat} (h : n ≤ W.heap.size) : Below (cutW W n).heap.size (cutW W n) W :=
  ⟨rfl, rfl, rfl, by rw [cutW_size h]; exact h, fun k hk => by rw [cutW_size h] at hk; exact (cutW_at hk).symm⟩
theorem Rd.cutW {W : World} {n : Nat} {A : Option Addr} {xs : List Value} (h : Rd W A xs) (hA : ∀ b, Blo A b → b < n) : Rd (cutW W n) A xs := fun j u hj => by
  obtain ⟨ad, e, hc⟩ := h j u hj
  refine ⟨ad, e, (World.cell?_of_block ?_).trans hc⟩
  refine cutW_at ?_
  rw [block_of_add]
  exact hA _ (by rw [e]; exact (Blo.some_iff _ _).2 rfl)
section
variable {w : World} {r q c : Nat} {L : List (List Int)} {M : Nat → Prop}
theorem rwrite_now (h : IsRef w r L q c M) (lba : Int) (hlb : -9223372036854775808 ≤ lba ∧ lba ≤ 9223372036854775807) (A : Option Addr) (cb : Nat) (b : List Int) (hr : Rd w A (by8 b)) (hA : ∀ x, Blo A x → x < q) (hB : isB b) (hc : b.length ≤ cb) (hl : b.length ≤ 140737488351232) :
    Calls Try.prog 47 #[.pointer (some ⟨r, 0, none⟩), .int .i64 lba, .slice A b.length cb] w (RetRS w r (writeL L lba b) q c M (writeE L.length lba b)) :=
  have hq : q ≤ w.heap.size := Nat.le_of_lt (h.mlt q h.mq)
  rwrite_any h lba hlb A cb b (hr.cutW hA) (cutW_below hq) (by rw [cutW_size hq]; exact Nat.le_refl _) hB hc hl
end
def RetRLoad (w : World) (r : Int × List (List Int)) (e : Ending) (w' : World) : Prop := (r.1 = 0 → RetRef w r.2 e w') ∧ (r.1 ≠ 0 → e = .returned (.tuple #[.pointer none, .int .i64 r.1]) ∧ Below w.heap.size w w')
theorem rrdr2 (g : Nat) (l : List Int) (why : Int) (w : World) {F : Nat → Prop} (h : IsRdr w 87 g l why F) (hl : l.length ≤ 140737488351232) :
    Calls Try.prog 46 #[.pointer (some ⟨g, 0, none⟩), .int .i64 2] w fun e w' => e = .returned (.int .i64 (rdV 2 l why)) ∧ IsRdr w' 87 g (rdL 2 l why) (rdE 2 l why) F ∧ Tr (fun b => b = g) w w' := rrdrNum g l why 2 w (by omega) (by omega) h hl
theorem IsRdr.c1 {w : World} {t : TypeId} {g : Nat} {l : List Int} {why : Int} {F : Nat → Prop} (h : IsRdr w t g l why F) : w.cell? ⟨g, 1, none⟩ = some (.int .i64 why) := by
  obtain ⟨A, c, h1, _⟩ := h
  exact h1.cell 1
theorem IsRdr.lt {w : World} {t : TypeId} {g : Nat} {l : List Int} {why : Int} {F : Nat → Prop} (h : IsRdr w t g l why F) : g < w.heap.size := by
  obtain ⟨A, c, h1, _⟩ := h
  exact h1.lt
theorem lba_unb {b : List Int} (h : 2 ≤ b.length) : unb (b.take 2) = lbaL b := by
  match b, h with
  | x :: y :: l, _ => simp [unb, lbaL]
theorem rnew_bad (z : Int) (w : World) (h : ¬ (1 ≤ z ∧ z ≤ 256)) : Calls Try.prog 34 #[.int .i64 z] w fun e w' => e = .returned (.tuple #[.pointer none, .int .i64 1]) ∧ w = w' := by
  by_cases h1 : z < 1
  · go_enter Try.func34, Try.ntmps34
    go_wp2_with fail
    go_ret2
    exact ⟨rfl, rfl⟩
  · have h2 : 256 < z := by omega
    go_enter Try.func34, Try.ntmps34
    go_wp2_with fail
    go_ret2
    exact ⟨rfl, rfl⟩
theorem write64 {L : List (List Int)} {z : Int} {x : List Int} (h0 : 0 ≤ z) (h1 : z < L.length) (hx : x.length = 64) : writeL L z x = L.set z.toNat x ∧ writeE L.length z x = 0 := by
  have hok : wrOk L.length z x = true := by
    unfold wrOk inB
    rw [hx]
    simp
    omega
  refine ⟨?_, if_pos hok⟩
  unfold writeL
  rw [if_pos hok, hx]
  show L.set (z.toNat + 0) (pc x 0) = _
  unfold pc
  rw [Nat.add_zero, Nat.mul_zero, List.drop_zero, List.take_of_length_le (by omega)]
set_option maxHeartbeats 4000000 in
theorem rload_any (A : Option Addr) (c : Nat) (b : List Int) (w : World) (hr : Rd w A (by8 b)) (hB : isB b) (hl : b.length ≤ 140737488351232) :
    Calls Try.prog 22 #[.slice A b.length c] w (RetRLoad w (loadL b)) := by
  have HR := Lib.hid hr
  have HB := Lib.hid hB
  by_cases h4 : b.length < 4
  · have hres : loadL b = (10, []) := if_pos h4
    rw [hres]
    have HN1 := Lib.hid (show ∀ g w (F : Nat → Prop), IsRdr w 87 g b 0 F → Calls Try.prog 46 #[.pointer (some ⟨g, 0, none⟩), .int .i64 2] w fun e w' => ∃ v l' e', e = .returned (.int .i64 v) ∧ IsRdr w' 87 g l' e' F ∧ ((e' = 10) ∨ (e' = 0 ∧ l'.length < 2)) ∧ l'.length ≤ b.length ∧ Tr (fun b => b = g) w w' from fun g w F h => by
      refine (rrdr2 g b 0 w h hl).mono ?_
      rintro e w' ⟨he, h2, ht⟩
      by_cases h3 : 2 ≤ b.length
      · refine ⟨_, _, _, he, h2, .inr ⟨by unfold rdE; rw [if_pos rfl, if_pos h3], ?_⟩, ?_, ht⟩
        · unfold rdL; rw [if_pos ⟨rfl, h3⟩, List.length_drop]; omega
        · unfold rdL; rw [if_pos ⟨rfl, h3⟩, List.length_drop]; omega
      · refine ⟨_, _, _, he, h2, .inl (by unfold rdE; rw [if_pos rfl, if_neg h3]), ?_, ht⟩
        unfold rdL; rw [if_neg (by omega)]; exact Nat.le_refl _)
    have HN2 := Lib.hid (show ∀ g w (F : Nat → Prop) l' e', IsRdr w 87 g l' e' F → ((e' = 10) ∨ (e' = 0 ∧ l'.length < 2)) → l'.length ≤ b.length → Calls Try.prog 46 #[.pointer (some ⟨g, 0, none⟩), .int .i64 2] w fun e w' => ∃ v l', e = .returned (.int .i64 v) ∧ IsRdr w' 87 g l' 10 F ∧ Tr (fun b => b = g) w w' from fun g w F l' e' h hc hle => by
      refine (rrdr2 g l' e' w h (by omega)).mono ?_
      rintro e w' ⟨he, h2, ht⟩
      have : rdE 2 l' e' = 10 := by
        unfold rdE
        rcases hc with h | ⟨h, h'⟩
        · rw [if_neg (by omega), h]
        · rw [if_pos h, if_neg (by omega)]
      rw [this] at h2
      exact ⟨_, _, he, h2, ht⟩)
    go_enter Try.func22, Try.ntmps22
    go_wp2_with (first
      | (go_at_call 45; (with_reducible refine (of_any A c b w HR.out HB.out hl).mono ?_); rintro e w1 ⟨gr, rfl, hr1, hg1, hb1⟩; have R1 := Lib.hid hr1; have B1 := Lib.hid hb1; clear hr1 hb1)
      | (go_at_call 46; (with_reducible refine (HN1.out gr w1 _ R1.out).mono ?_); rintro e w2 ⟨v2, l2, e2, rfl, hr2, hc2, hl2, ht2⟩; have R2 := Lib.hid hr2; have C2 := Lib.hid hc2; have B2 := Lib.hid (bl_tr B1.out ht2 (fun x e => by omega)); clear hr2 ht2 hc2)
      | (go_at_call 46; (with_reducible refine (HN2.out gr w2 _ l2 e2 R2.out C2.out hl2).mono ?_); rintro e w3 ⟨v3, l3, rfl, hr3, ht3⟩; have c1 := hr3.c1; have B3 := Lib.hid (bl_tr B2.out ht3 (fun x e => by omega)); clear hr3 ht3))
    go_quiet (fail)
    go_wp2_with fail
    go_ret2
    exact ⟨fun h => absurd h (by decide), fun _ => ⟨rfl, bl_chain B3.out (bl_drewN _ _)⟩⟩
  · obtain ⟨hN0, hN1⟩ := ldN_range hB
    obtain ⟨hU0, hU1⟩ := ldU_range hB
    obtain ⟨N, hN⟩ := Int.eq_ofNat_of_zero_le hN0
    obtain ⟨U, hU⟩ := Int.eq_ofNat_of_zero_le hU0
    have hd4 : (b.drop 2).drop 2 = b.drop 4 := by rw [List.drop_drop]
    have HN1 := Lib.hid (show ∀ g w (F : Nat → Prop), IsRdr w 87 g b 0 F → Calls Try.prog 46 #[.pointer (some ⟨g, 0, none⟩), .int .i64 2] w fun e w' => e = .returned (.int .i64 (N : Int)) ∧ IsRdr w' 87 g (b.drop 2) 0 F ∧ Tr (fun b => b = g) w w' from fun g w F h => by
      have := rrdr2 g b 0 w h hl
      rw [show rdV 2 b 0 = (N : Int) from (if_pos ⟨rfl, by omega⟩).trans (by rw [← hN]; unfold wrap64; unfold ldN at hN0 hN1 hN ⊢; omega), show rdL 2 b 0 = b.drop 2 from if_pos ⟨rfl, by omega⟩, show rdE 2 b 0 = 0 from by unfold rdE; rw [if_pos rfl, if_pos (by omega)]] at this
      exact this)
    have HN2 := Lib.hid (show ∀ g w (F : Nat → Prop), IsRdr w 87 g (b.drop 2) 0 F → Calls Try.prog 46 #[.pointer (some ⟨g, 0, none⟩), .int .i64 2] w fun e w' => e = .returned (.int .i64 (U : Int)) ∧ IsRdr w' 87 g (b.drop 4) 0 F ∧ Tr (fun b => b = g) w w' from fun g w F h => by
      have hl2 : 2 ≤ (b.drop 2).length := by rw [List.length_drop]; omega
      have := rrdr2 g (b.drop 2) 0 w h (by rw [List.length_drop]; omega)
      rw [show rdV 2 (b.drop 2) 0 = (U : Int) from (if_pos ⟨rfl, hl2⟩).trans (by rw [← hU]; unfold wrap64; unfold ldU at hU0 hU1 hU ⊢; omega), show rdL 2 (b.drop 2) 0 = b.drop 4 from (if_pos ⟨rfl, hl2⟩).trans hd4, show rdE 2 (b.drop 2) 0 = 0 from by unfold rdE; rw [if_pos rfl, if_pos hl2]] at this
      exact this)
    have hres : loadL b = if ¬ (1 ≤ (N : Int) ∧ (N : Int) ≤ 256) then (1, []) else ldK N U (-1) (emptyL N) (b.drop 4) := by
      unfold loadL
      rw [if_neg h4, hN, hU]
      rfl
    rw [hres]
    have hU65 : U < 65536 := by omega
    clear hres hN0 hN1 hU0 hN hU hd4
    by_cases hn : 1 ≤ (N : Int) ∧ (N : Int) ≤ 256
    · rw [if_neg (by omega)]
      obtain ⟨R, hR⟩ : ∃ R, ldK N U (-1) (emptyL N) (b.drop 4) = R := ⟨_, rfl⟩
      have hrl : (b.drop 4).length ≤ b.length := by rw [List.length_drop]; omega
      rw [hR]
      have HRR := Lib.hid hR
      clear hR
      go_enter Try.func22, Try.ntmps22
      go_wp2_with (first
        | (go_at_call 45; (with_reducible refine (of_any A c b w HR.out HB.out hl).mono ?_); rintro e w1 ⟨gr, rfl, hr1, hg1, hb1⟩; have R1 := Lib.hid hr1; have B1 := Lib.hid hb1; clear hr1 hb1)
        | (go_at_call 46; (with_reducible refine (HN1.out gr w1 _ R1.out).mono ?_); rintro e w2 ⟨rfl, hr2, ht2⟩; have R2 := Lib.hid hr2; have z12 := ht2.size; have B2 := Lib.hid (bl_tr B1.out ht2 (fun x e => by omega)); clear hr2 ht2)
        | (go_at_call 46; (with_reducible refine (HN2.out gr w2 _ R2.out).mono ?_); rintro e w3 ⟨rfl, hr3, ht3⟩; have R3 := Lib.hid hr3; have c1 := hr3.c1; have z23 := ht3.size; have B3 := Lib.hid (bl_tr B2.out ht3 (fun x e => by omega)); clear hr3 ht3)
        | (go_at_call 34; (with_reducible refine (rnew_ok N w3 (by omega) (by omega)).mono ?_); rintro e w4 ⟨rr, q, cc, M, rfl, hI, hM, hb⟩; have I4 := Lib.hid hI; have M4 := Lib.hid hM; have R4 := Lib.hid (R3.out.tr hb); have B4 := Lib.hid (bl_chain B3.out hb); have z34 := hb.size; clear hI hM hb))
      have hgr : gr < w3.heap.size := by have := R3.out.lt; omega
      obtain ⟨F, hF⟩ : ∃ F : Nat → Prop, F = (fun b => w.heap.size ≤ b ∧ b < w1.heap.size) := ⟨_, rfl⟩
      rw [← hF] at R4
      have HF := Lib.hid (show ∀ x, F x → x < w3.heap.size from fun x hx => by rw [hF] at hx; omega)
      clear hF R1 R2 R3 c1
      go_loopw [9, 10] (fun v9 v10 W => ∃ (j : Nat) (r : List Int) (last : Int) (L : List (List Int)), j ≤ U ∧ v10 = .int .i64 (j : Int) ∧ v9 = .int .i64 last ∧ IsRdr W 87 gr r 0 F ∧ -1 ≤ last ∧ last < 256 ∧ L.length = N ∧ ldK N (U - j) last L r = R ∧ (∃ M', IsRef W rr L q cc M' ∧ ∀ x, M' x → w3.heap.size ≤ x) ∧ Below w.heap.size w W ∧ r.length ≤ b.length) (fun _ v _ => U - (RowKit.intOf v).toNat)
      case atStart => exact ⟨0, b.drop 4, -1, emptyL N, by omega, rfl, rfl, R4.out, by omega, by omega, by simp [emptyL], HRR.out, ⟨M, I4.out, M4.out⟩, B4.out, hrl⟩
      case round =>
        obtain ⟨j, r, last, L, hj, rfl, rfl, h1, h6, h7, h8, h9, ⟨M', h10, h11⟩, h12, h13⟩ := hrel
        have H1 := Lib.hid h1
        have H9 := Lib.hid h9
        have HI := Lib.hid h10
        have HM := Lib.hid h11
        have HBL := Lib.hid h12
        have HL := Lib.hid h8
        have hB3 := B3.out.size
        clear h1 h9 h10 h11 h12 h8
        by_cases hju : j < U
        · obtain ⟨k, hk⟩ : ∃ k, U - j = k + 1 := ⟨U - j - 1, by omega⟩
          have hR := H9.out
          rw [hk] at hR
          unfold ldK at hR
          by_cases h66 : r.length < 66
          · rw [if_pos h66] at hR
            have HR10 := Lib.hid hR
            clear hR
            by_cases h2 : r.length < 2
            · have HN := Lib.hid (show Calls Try.prog 46 #[.pointer (some ⟨gr, 0, none⟩), .int .i64 2] wr fun e w' => e = .returned (.int .i64 0) ∧ IsRdr w' 87 gr r 10 F ∧ Tr (fun b => b = gr) wr w' from by
                have := rrdr2 gr r 0 wr H1.out (by omega)
                rw [show rdV 2 r 0 = 0 from if_neg (by omega), show rdL 2 r 0 = r from if_neg (by omega), show rdE 2 r 0 = 10 from by unfold rdE; rw [if_pos rfl, if_neg (by omega)]] at this
                exact this)
              go_wp2_with (first
                | (go_at_call 46; (with_reducible refine HN.out.mono ?_); rintro e w5 ⟨rfl, hr5, ht5⟩; have c1 := hr5.c1; have B5 := Lib.hid (bl_tr HBL.out ht5 (fun x e => by omega)); clear hr5 ht5))
              go_quiet (fail)
              go_wp2_with fail
              go_ret2
              rw [← HR10.out]
              exact ⟨fun h => by simp at h, fun _ => ⟨rfl, bl_chain B5.out (bl_drewN _ _)⟩⟩
            · have hz := lba_unb (show 2 ≤ r.length by omega)
              have hdl : (r.drop 2).length = r.length - 2 := List.length_drop ..
              have HN := Lib.hid (show Calls Try.prog 46 #[.pointer (some ⟨gr, 0, none⟩), .int .i64 2] wr fun e w' => (∃ v, e = .returned (.int .i64 v)) ∧ IsRdr w' 87 gr (r.drop 2) 0 F ∧ Tr (fun b => b = gr) wr w' from by
                have := rrdr2 gr r 0 wr H1.out (by omega)
                rw [show rdL 2 r 0 = r.drop 2 from if_pos ⟨rfl, by omega⟩, show rdE 2 r 0 = 0 from by unfold rdE; rw [if_pos rfl, if_pos (by omega)]] at this
                exact this.mono (fun e w' h => ⟨⟨_, h.1⟩, h.2⟩))
              go_wp2_with (first
                | (go_at_call 46; (with_reducible refine HN.out.mono ?_); rintro e w5 ⟨⟨v5, rfl⟩, ⟨A5, c5, hb5, _⟩, ht5⟩; rw [hdl] at hb5; have y0 := hb5.cell 0; have y1 := hb5.cell 1; have f1 := hb5.frozen 1; simp at y0 y1; have B5 := Lib.hid (bl_tr HBL.out ht5 (fun x e => by omega)); have f64 : decide (((r.length - 2 : Nat) : Int) < 64) = true := decide_eq_true (by omega); clear hb5 ht5))
              go_quiet (fail)
              go_wp2_with fail
              go_ret2
              rw [← HR10.out]
              refine ⟨fun h => by simp at h, fun _ => ⟨rfl, bl_chain (bl_tr B5.out ((Tr.refl (fun b => b = gr) w5).setCell (p := ⟨gr, 1, none⟩) (fun _ => rfl) _) (fun x e => by omega)) (bl_drewN _ _)⟩⟩
          · rw [if_neg h66] at hR
            have HR11 := Lib.hid hR
            clear hR
            have hdl : (r.drop 2).length = r.length - 2 := List.length_drop ..
            have hbr : isB r := by obtain ⟨_, _, _, _, _, _, h, _⟩ := H1.out; exact h
            obtain ⟨x, y, hx, hy, hx0, hx1, hy0, hy1, hlb⟩ := lba_at hbr (by omega)
            obtain ⟨z, hz⟩ : ∃ z, lbaL r = z := ⟨_, rfl⟩
            have hz2 := lba_unb (show 2 ≤ r.length by omega)
            rw [hz] at HR11 hlb hz2
            have HN := Lib.hid (show Calls Try.prog 46 #[.pointer (some ⟨gr, 0, none⟩), .int .i64 2] wr fun e w' => e = .returned (.int .i64 z) ∧ IsRdr w' 87 gr (r.drop 2) 0 F ∧ Tr (fun b => b = gr) wr w' from by
              have := rrdr2 gr r 0 wr H1.out (by omega)
              rw [show rdV 2 r 0 = z from (if_pos ⟨rfl, by omega⟩).trans (by rw [hz2]; unfold wrap64; omega), show rdL 2 r 0 = r.drop 2 from if_pos ⟨rfl, by omega⟩, show rdE 2 r 0 = 0 from by unfold rdE; rw [if_pos rfl, if_pos (by omega)]] at this
              exact this)
            have hz0 : 0 ≤ z ∧ z < 65536 := by omega
            clear hlb hx hy hx0 hx1 hy0 hy1 hz2
            have f64 : decide (((r.length - 2 : Nat) : Int) < 64) = false := decide_eq_false (by omega)
            have hcs : z ≤ last ∨ (¬ z ≤ last ∧ (N : Int) ≤ z) ∨ (¬ z ≤ last ∧ ¬ (N : Int) ≤ z) := by omega
            rcases hcs with g1 | ⟨g1, g2⟩ | ⟨g1, g2⟩
            · rw [if_pos (.inl g1)] at HR11
              have f1 : decide (z ≤ last) = true := decide_eq_true (by omega)
              go_wp2_with (first
                | (go_at_call 46; (with_reducible refine HN.out.mono ?_); rintro e w5 ⟨rfl, ⟨A5, c5, hb5, _⟩, ht5⟩; rw [hdl] at hb5; have y0 := hb5.cell 0; have y1 := hb5.cell 1; simp at y0 y1; have B5 := Lib.hid (bl_tr HBL.out ht5 (fun x e => by omega)); clear hb5 ht5))
              go_ret2
              rw [← HR11.out]
              exact ⟨fun h => by simp at h, fun _ => ⟨rfl, B5.out⟩⟩
            · rw [if_pos (.inr g2)] at HR11
              have f1 : decide (z ≤ last) = false := decide_eq_false (by omega)
              have f2 : decide ((N : Int) ≤ z) = true := decide_eq_true (by omega)
              go_wp2_with (first
                | (go_at_call 46; (with_reducible refine HN.out.mono ?_); rintro e w5 ⟨rfl, ⟨A5, c5, hb5, _⟩, ht5⟩; rw [hdl] at hb5; have y0 := hb5.cell 0; have y1 := hb5.cell 1; simp at y0 y1; have B5 := Lib.hid (bl_tr HBL.out ht5 (fun x e => by omega)); clear hb5 ht5))
              go_ret2
              rw [← HR11.out]
              exact ⟨fun h => by simp at h, fun _ => ⟨rfl, B5.out⟩⟩
            · rw [if_neg (by omega)] at HR11
              have f1 : decide (z ≤ last) = false := decide_eq_false (by omega)
              have f2 : decide ((N : Int) ≤ z) = false := decide_eq_false (by omega)
              have hl64 : ((r.drop 2).take 64).length = 64 := by rw [List.length_take, List.length_drop]; omega
              have HW64 := Lib.hid (write64 (L := L) (z := z) (x := (r.drop 2).take 64) hz0.1 (by rw [HL.out]; omega) hl64)
              go_wp2_with (first
                | (go_at_call 46; (with_reducible refine HN.out.mono ?_); rintro e w5 ⟨rfl, ⟨A5, c5, hb5, hr5, hc5, hm5, hB5, hA5⟩, ht5⟩; rw [hdl] at hb5 hc5; have y0 := hb5.cell 0; have y1 := hb5.cell 1; simp at y0 y1; have Y5 := Lib.hid hb5; have R5 := Lib.hid hr5; have BB5 := Lib.hid hB5; have A5h := Lib.hid hA5; have B5 := Lib.hid (bl_tr HBL.out ht5 (fun x e => by omega)); have I5 := Lib.hid (HI.out.tr ht5 (fun x hx e => by have := HM.out x hx; omega)); have z5 := ht5.size; have hc64 : 64 ≤ c5 := (by omega); clear hb5 ht5 hr5 hA5 hB5))
              have hwr := rwrite_now I5.out z (by omega) A5 c5 ((r.drop 2).take 64) (by rw [← by8_take]; exact R5.out.take 64) (fun x hx => Nat.lt_of_lt_of_le (HF.out x (A5h.out x hx).2) (HM.out q HI.out.mq)) (BB5.out.take 64) (by omega) (by omega)
              rw [hl64, HW64.out.1, HW64.out.2] at hwr
              have HWR := Lib.hid hwr
              clear hwr
              have hqg : q ≠ gr := fun e => by have := HM.out q HI.out.mq; omega
              have hq5 : w3.heap.size ≤ w5.heap.size := by have := HM.out q HI.out.mq; have := HI.out.mlt q HI.out.mq; omega
              by_cases hcc : c5 = 64
              · subst hcc
                go_wp2_with (first
                  | (go_at_call 47; (with_reducible refine HWR.out.mono ?_); rintro e w6 ⟨M6, rfl, hI6, hM6, ht6⟩; have I6 := Lib.hid hI6; have HM6 := Lib.hid hM6; have T6 := Lib.hid ht6; have Y6 := Lib.hid (ht6.blk Y5.out (fun e => hqg e.symm)); have z0 := Y6.out.cell 0; have z1 := Y6.out.cell 1; have zf := Y6.out.frozen 0; simp at z0 z1; clear hI6 hM6 ht6))
                go_roundw
                case rel =>
                  have hnil : r.drop 66 = [] := List.drop_eq_nil_of_le (by omega)
                  have hq0 := I6.out.mq
                  have B6 := B5.out.trans (T6.out.to_below B5.out.size (fun x e => by rw [e]; have := HM.out q HI.out.mq; omega))
                  have hrd := rdr_nil (F := F) (c1 := 0) (A1 := A5) (l := r.drop 2) (by rw [hdl]; exact Y6.out) (by simp [maxLen]) A5h.out
                  refine ⟨j + 1, r.drop 66, z, _, by omega, by go_num, rfl, by rw [hnil]; exact hrd.1, by omega, by omega, by rw [List.length_set, HL.out], by rw [show U - (j + 1) = k by omega]; exact HR11.out, ⟨M6, I6.out.tr hrd.2 (fun x hx e => ?_), fun x hx => ?_⟩, bl_tr B6 hrd.2 (fun x e => by omega), by rw [hnil]; simp⟩
                  · rcases HM6.out x hx with h | h
                    · have := HM.out x h; omega
                    · have := Y5.out.lt; omega
                  · rcases HM6.out x hx with h | h
                    · exact HM.out x h
                    · omega
                case measure => simp [RowKit.intOf]; omega
              · go_wp2_with (first
                  | (go_at_call 47; (with_reducible refine HWR.out.mono ?_); rintro e w6 ⟨M6, rfl, hI6, hM6, ht6⟩; have I6 := Lib.hid hI6; have HM6 := Lib.hid hM6; have T6 := Lib.hid ht6; have Y6 := Lib.hid (ht6.blk Y5.out (fun e => hqg e.symm)); have z0 := Y6.out.cell 0; have z1 := Y6.out.cell 1; have zf := Y6.out.frozen 0; simp at z0 z1; clear hI6 hM6 ht6))
                go_roundw
                case rel =>
                  have B6 := B5.out.trans (T6.out.to_below B5.out.size (fun x e => by rw [e]; have := HM.out q HI.out.mq; omega))
                  have hr6 : Rd w6 A5 (by8 (r.drop 2)) := R5.out.tr T6.out (fun ad e hq => by
                    have h1 := HF.out ad.block (A5h.out _ (by rw [e]; exact (Blo.some_iff _ _).2 rfl)).2
                    have h2 := HM.out q HI.out.mq
                    omega)
                  obtain ⟨A6, h61, _, h63⟩ := rd_cut2 (k := 64) (c := c5) hr6 (by omega) (by omega)
                  have e6 := h63 hcc
                  have hrd := rdr_cut (F := F) (S := 64) (c1 := c5 - 64) (A1 := A6) (l := r.drop 2) (by rw [hdl]; exact Y6.out) h61 (by omega) (by omega) BB5.out (fun x hx => A5h.out x (blo_cut (c := c5) (S := 64) (by rw [if_neg hcc, ← e6]; exact hx)))
                  rw [hdl, List.drop_drop, e6] at hrd
                  refine ⟨j + 1, r.drop 66, z, _, by omega, by go_num, rfl, hrd.1, by omega, by omega, by rw [List.length_set, HL.out], by rw [show U - (j + 1) = k by omega]; exact HR11.out, ⟨M6, I6.out.tr hrd.2 (fun x hx e => ?_), fun x hx => ?_⟩, bl_tr B6 hrd.2 (fun x e => by omega), by rw [List.length_drop]; omega⟩
                  · rcases HM6.out x hx with h | h
                    · have := HM.out x h; omega
                    · have := Y5.out.lt; omega
                  · rcases HM6.out x hx with h | h
                    · exact HM.out x h
                    · omega
                case measure => simp [RowKit.intOf]; omega
        · have hju : j = U := by omega
          have hR := H9.out
          rw [show U - j = 0 by omega] at hR
          unfold ldK at hR
          have HE := Lib.hid (rrdrEnd gr r 0 wr H1.out)
          by_cases h0 : r.length = 0
          · rw [if_pos h0] at hR
            have HR10 := Lib.hid hR
            rw [show endE r 0 = 0 from if_neg (by omega)] at HE
            clear hR
            go_wp2_with (first
              | (go_at_call 48; (with_reducible refine HE.out.mono ?_); rintro e w' ⟨rfl, rfl⟩))
            go_ret2
            rw [← HR10.out]
            exact ⟨fun _ => ⟨rr, q, cc, M', rfl, HI.out, fun x hx => by have := HM.out x hx; omega, HBL.out⟩, fun h => absurd rfl h⟩
          · rw [if_neg h0] at hR
            have HR10 := Lib.hid hR
            rw [show endE r 0 = 11 from if_pos (by omega)] at HE
            clear hR
            go_wp2_with (first
              | (go_at_call 48; (with_reducible refine HE.out.mono ?_); rintro e w' ⟨rfl, rfl⟩))
            go_ret2
            rw [← HR10.out]
            exact ⟨fun h => by simp at h, fun _ => ⟨rfl, HBL.out⟩⟩
    · rw [if_pos hn]
      have HNB := Lib.hid (fun W => rnew_bad (N : Int) W hn)
      go_enter Try.func22, Try.ntmps22
      go_wp2_with (first
        | (go_at_call 45; (with_reducible refine (of_any A c b w HR.out HB.out hl).mono ?_); rintro e w1 ⟨gr, rfl, hr1, hg1, hb1⟩; have R1 := Lib.hid hr1; have B1 := Lib.hid hb1; clear hr1 hb1)
        | (go_at_call 46; (with_reducible refine (HN1.out gr w1 _ R1.out).mono ?_); rintro e w2 ⟨rfl, hr2, ht2⟩; have R2 := Lib.hid hr2; have B2 := Lib.hid (bl_tr B1.out ht2 (fun x e => by omega)); clear hr2 ht2)
        | (go_at_call 46; (with_reducible refine (HN2.out gr w2 _ R2.out).mono ?_); rintro e w3 ⟨rfl, hr3, ht3⟩; have c1 := hr3.c1; have B3 := Lib.hid (bl_tr B2.out ht3 (fun x e => by omega)); clear hr3 ht3)
        | (go_at_call 34; (with_reducible refine (HNB.out _).mono ?_); rintro e w' ⟨rfl, rfl⟩))
      go_ret2
      exact ⟨fun h => absurd h (by decide), fun _ => ⟨rfl, B3.out⟩⟩
end Go.Proofs.Ytdddbpnllhnfdaa
