/- InSteps: the law. -/
import Derived.Test.YtphbjfijipcpnaaStp4
namespace Go.Proofs.Ytphbjfijipcpnaa
open Go.RowKit
set_option linter.unusedVariables false

def plusR (r : Int × Int × List FV) : Int × Int × List FV := (r.1, r.2.1, r.2.2.map pnV)

/-- two lists of levels that agree on the side's cells and hold zeros behind them -/
theorem lim_same (nn m : Nat) (hm : (nn : Int).toNat * (nn : Int).toNat = m) (hm64 : m ≤ 64) (F G : Nat → FV) (h1 : ∀ k, k < m → G k = F k) (h2 : ∀ k, m ≤ k → k < 64 → ∃ z, G k = some z ∧ isNum z = true ∧ valF z = 0) :
    plusR (limV nn (fillV m F)) = plusR (limV nn (fillV 64 G)) := by
  have hpv : isPicV nn (fillV m F) = isPicV nn (fillV 64 G) := by
    unfold isPicV
    congr 1
    rw [Bool.eq_iff_iff, List.all_eq_true, List.all_eq_true]
    refine forall_congr' fun k => forall_congr' fun hk => ?_
    have hk' : k < 64 := by simpa using hk
    rw [List.getD_eq_getElem?_getD, List.getD_eq_getElem?_getD, fillV_get _ hk', fillV_get _ hk', if_pos hk', hm]
    by_cases hkm : k < m
    · rw [if_pos hkm, h1 k hkm]
    · rw [if_neg hkm]
      obtain ⟨z, hz1, hz2, hz3⟩ := h2 k (by omega) hk'
      rw [hz1]
      have e1 : okL m k z = true := by
        simp [okL, hz2, lt0_val hz2, eq0_val hz2, hz3]
      have e2 : okL m k 0 = true := by
        simp [okL, num_zero, lt0_val num_zero, eq0_val num_zero, val_zero]
      show okV m k (some 0) = true ↔ okV m k (some z) = true
      simp only [okV, e1, e2]
  unfold limV
  rw [hpv]
  cases hq : isPicV nn (fillV 64 G) with
  | false => rfl
  | true =>
    simp only [if_true, plusR]
    congr 2
    refine List.ext_getElem? fun k => ?_
    rw [List.getElem?_map, List.getElem?_map]
    by_cases hk' : k < 64
    · rw [fillV_get _ hk', fillV_get _ hk', if_pos hk']
      by_cases hkm : k < m
      · rw [if_pos hkm, h1 k hkm]
      · rw [if_neg hkm]
        obtain ⟨z, hz1, hz2, hz3⟩ := h2 k (by omega) hk'
        rw [hz1, Option.map_some, Option.map_some]
        have hpz : pnV (some z) = some 0 := by
          have h := eq0_val hz2
          rw [hz3] at h
          unfold eq0 at h
          unfold pnV
          show (if (FloatKind.f32.format.order z 0 == some .eq) = true then _ else _) = _
          rw [if_pos (by rw [h]; rfl)]
        have hp0 : pnV (some 0) = some 0 := by
          unfold pnV; split <;> rfl
        rw [hpz, hp0]
    · rw [List.getElem?_eq_none (by rw [fillV_length _ hm64]; omega), List.getElem?_eq_none (by rw [fillV_length _ (Nat.le_refl _)]; omega)]
/-- the levels behind a picture's side are zeros -/
theorem tail_zero {n : Int} {l : List Nat} {m : Nat} (hp : isPic n l = true) (hm : n.toNat * n.toNat = m) (k : Nat) (hk : m ≤ k) (hk2 : k < 64) : ∃ z, ab .f32 (l.getD k 0) = some z ∧ isNum z = true ∧ valF z = 0 := by
  have hok := isPic_at hp hm k hk2
  simp only [okL, Bool.and_eq_true, Bool.or_eq_true, decide_eq_true_eq] at hok
  have h0 : eq0 (l.getD k 0) = true := by rcases hok.2 with h | h; omega; exact h
  rw [eq0_val hok.1.1] at h0
  refine ⟨l.getD k 0, ?_, hok.1.1, of_decide_eq_true h0⟩
  obtain ⟨b, s, q, e, h1, h2⟩ := fin_num.1 hok.1.1
  obtain ⟨rfl, h3⟩ := ab_eq_some h1
  exact h1

theorem stp_same (n : Int) (l : List Nat) (q : Nat) (m : Int) (mm : Nat) (hm : n.toNat * n.toNat = mm) : plusR (stpI n l q m mm) = plusR (stpS n l q m mm) := by
  unfold stpI stpS
  by_cases h0 : codeS n l q m = 0
  · rw [if_pos h0, if_pos h0]
    obtain ⟨hp, _, _, _⟩ := codeS_zero h0
    obtain ⟨nn, mm', rfl, hn1, hn2, hmul, hm64, hm'⟩ := side_nat (isPic_sd hp)
    obtain rfl : mm' = mm := by rw [← hm, hm']
    refine lim_same nn mm' hm hm64 _ _ (fun k hk => ?_) (fun k hk hk2 => ?_)
    · unfold stpT; rw [if_pos hk]
    · obtain ⟨z, h1, h2, h3⟩ := tail_zero hp hm k hk hk2
      exact ⟨z, by unfold stpT; rw [if_neg (by omega)]; exact h1, h2, h3⟩
  · rw [if_neg h0, if_neg h0]

set_option maxRecDepth 10000 in
set_option maxHeartbeats 2000000 in
theorem implInSteps_any (n : Int) (l : List Nat) (hl : l.length = 64) (mm : Nat) (hm : n.toNat * n.toNat = mm) (q : Nat) (m : Int) (w : World) :
    Calls Try.prog 36 #[.agg (pic n l), .float .f32 q, .int .i64 m] w (PicPost (plusR (stpI n l q m mm)) w) := by
  have hz := (zero_of_info Try.infoP).1
  obtain ⟨W0, hW⟩ : ∃ W0, W0 = (w.alloc (.cells (pic n l) 32)).alloc (.cells (pic 0 zeros) 32) := ⟨_, rfl⟩
  have hb0 : Below w.heap.size w W0 := by rw [hW]; exact ((Below.refl _ _).alloc (Nat.le_refl _) _).alloc (by simp) _
  have h3 := blk2 w (.cells (pic n l) 32) (.cells (pic 0 zeros) 32)
  rw [← hW] at h3
  have b0 : Blk W0 w.heap.size (pic n l) 32 := h3.1
  have b1 : Blk W0 (w.heap.size + 1) (pic 0 zeros) 32 := h3.2
  have B0 := Lib.hid b0
  have B1 := Lib.hid b1
  have BW := Lib.hid hb0
  clear b1 b0 h3 hb0
  obtain ⟨r, hr⟩ : ∃ r, r = stpI n l q m mm := ⟨_, rfl⟩
  have C1 := signedInSteps_any n l hl mm hm q m W0
  rw [← hr] at C1 ⊢
  have HC1 := Lib.hid C1
  clear hr C1
  go_enter Try.func36, Try.ntmps36
  go_upto_region 1 with (fail)
  rw [← hW]
  clear hW
  go_wp2_with (refine wpList_load_row rfl 32 (.tmp 3) rfl w.heap.size rfl 32 (pic n l) (0, 0) _ B0.out Try.underlying32 rfl (Try.sizeP hl) ?_)
  refine HC1.out.mono ?_
  rintro e w2 ⟨l2, rfl, hll, hlm, hb2⟩
  obtain ⟨k, m2, fv⟩ := r
  simp only at hlm ⊢
  have B2 := B1.out.below hb2
  have BW2 := BW.out.trans (hb2.mono BW.out.size)
  have hlt := B2.lt
  have C3 := Lib.hid (Blk.new w2 (pic 0 zeros) 32)
  have B4 := Lib.hid ((B2.alloc (.cells (pic 0 zeros) 32)).rowOther (by omega : w.heap.size + 1 ≠ w2.heap.size) (pic m2 l2))
  have C4 := Lib.hid (C3.out.row (pic m2 l2))
  have BW4 := Lib.hid (Below.setRow (BW2.alloc BW2.size (.cells (pic 0 zeros) 32)) BW2.size (g := w2.heap.size) (pic m2 l2))
  have HL := Lib.hid hll
  have HM2 := Lib.hid hlm
  clear B2 BW2 hlt hll hlm hb2
  go_wp2_with (first | (refine wpList_store_row rfl 32 (.tmp 8) (.tmp 15) rfl w2.heap.size (pic m2 l2) rfl rfl 32 (pic 0 zeros) C3.out ?c1 ?c2 (pic_one m2 l2) ?_; (case c1 => exact Try.sizeP HL.out); (case c2 => (rw [pic_size, pic_size, HL.out]; rfl))) | (refine wpList_load_row rfl 32 (.tmp 8) rfl w2.heap.size rfl 32 (pic m2 l2) (0, 0) _ C4.out Try.underlying32 rfl (Try.sizeP HL.out) ?_))
  refine (plainP_any m2 l2 HL.out _).mono ?_
  rintro e w5 ⟨rfl, hb5⟩
  have hpl : (l2.map pn).length = 64 := by rw [List.length_map]; exact HL.out
  have B5 := Lib.hid (B4.out.below hb5)
  have BW5 := Lib.hid (BW4.out.trans (hb5.mono BW4.out.size))
  clear hb5
  go_wp2_with (refine wpList_store_row rfl 32 (.tmp 6) (.tmp 18) rfl (w.heap.size + 1) (pic m2 (l2.map pn)) rfl rfl 32 (pic 0 zeros) B5.out ?c1 ?c2 (pic_one m2 _) ?_; (case c1 => exact Try.sizeP hpl); (case c2 => (rw [pic_size, pic_size, hpl]; rfl)))
  refine bodyPost_ret (v := .tuple #[.agg (pic m2 (l2.map pn)), .int .i64 k]) (results_cell_row2 Try.results36 _ _ (w.heap.size + 1) 32 (pic m2 (l2.map pn)) (0, 0) _ _ rfl rfl (B5.out.row _) Try.underlying32 rfl (Try.sizeP hpl)) rfl ?_
  exact ⟨l2.map pn, rfl, hpl, by rw [map_ab_pn, HM2.out]; rfl, Below.setRow BW5.out (by omega) _⟩

set_option maxRecDepth 10000 in
set_option maxHeartbeats 2000000 in
theorem specInSteps_any (n : Int) (l : List Nat) (hl : l.length = 64) (mm : Nat) (hm : n.toNat * n.toNat = mm) (q : Nat) (m : Int) (w : World) :
    Calls Try.prog 35 #[.agg (pic n l), .float .f32 q, .int .i64 m] w (PicPost (plusR (stpS n l q m mm)) w) := by
  have hz := (zero_of_info Try.infoP).1
  obtain ⟨W0, hW⟩ : ∃ W0, W0 = (w.alloc (.cells (pic n l) 32)).alloc (.cells (pic 0 zeros) 32) := ⟨_, rfl⟩
  have hb0 : Below w.heap.size w W0 := by rw [hW]; exact ((Below.refl _ _).alloc (Nat.le_refl _) _).alloc (by simp) _
  have h3 := blk2 w (.cells (pic n l) 32) (.cells (pic 0 zeros) 32)
  rw [← hW] at h3
  have b0 : Blk W0 w.heap.size (pic n l) 32 := h3.1
  have b1 : Blk W0 (w.heap.size + 1) (pic 0 zeros) 32 := h3.2
  have B0 := Lib.hid b0
  have B1 := Lib.hid b1
  have BW := Lib.hid hb0
  clear b1 b0 h3 hb0
  obtain ⟨r, hr⟩ : ∃ r, r = stpS n l q m mm := ⟨_, rfl⟩
  have C1 := rawInSteps_any n l hl mm hm q m W0
  rw [← hr] at C1 ⊢
  have HC1 := Lib.hid C1
  clear hr C1
  go_enter Try.func35, Try.ntmps35
  go_upto_region 1 with (fail)
  rw [← hW]
  clear hW
  go_wp2_with (refine wpList_load_row rfl 32 (.tmp 3) rfl w.heap.size rfl 32 (pic n l) (0, 0) _ B0.out Try.underlying32 rfl (Try.sizeP hl) ?_)
  refine HC1.out.mono ?_
  rintro e w2 ⟨l2, rfl, hll, hlm, hb2⟩
  obtain ⟨k, m2, fv⟩ := r
  simp only at hlm ⊢
  have B2 := B1.out.below hb2
  have BW2 := BW.out.trans (hb2.mono BW.out.size)
  have hlt := B2.lt
  have C3 := Lib.hid (Blk.new w2 (pic 0 zeros) 32)
  have B4 := Lib.hid ((B2.alloc (.cells (pic 0 zeros) 32)).rowOther (by omega : w.heap.size + 1 ≠ w2.heap.size) (pic m2 l2))
  have C4 := Lib.hid (C3.out.row (pic m2 l2))
  have BW4 := Lib.hid (Below.setRow (BW2.alloc BW2.size (.cells (pic 0 zeros) 32)) BW2.size (g := w2.heap.size) (pic m2 l2))
  have HL := Lib.hid hll
  have HM2 := Lib.hid hlm
  clear B2 BW2 hlt hll hlm hb2
  go_wp2_with (first | (refine wpList_store_row rfl 32 (.tmp 8) (.tmp 15) rfl w2.heap.size (pic m2 l2) rfl rfl 32 (pic 0 zeros) C3.out ?c1 ?c2 (pic_one m2 l2) ?_; (case c1 => exact Try.sizeP HL.out); (case c2 => (rw [pic_size, pic_size, HL.out]; rfl))) | (refine wpList_load_row rfl 32 (.tmp 8) rfl w2.heap.size rfl 32 (pic m2 l2) (0, 0) _ C4.out Try.underlying32 rfl (Try.sizeP HL.out) ?_))
  refine (plusP_any m2 l2 HL.out _).mono ?_
  rintro e w5 ⟨rfl, hb5⟩
  have hpl : (l2.map pn).length = 64 := by rw [List.length_map]; exact HL.out
  have B5 := Lib.hid (B4.out.below hb5)
  have BW5 := Lib.hid (BW4.out.trans (hb5.mono BW4.out.size))
  clear hb5
  go_wp2_with (refine wpList_store_row rfl 32 (.tmp 6) (.tmp 18) rfl (w.heap.size + 1) (pic m2 (l2.map pn)) rfl rfl 32 (pic 0 zeros) B5.out ?c1 ?c2 (pic_one m2 _) ?_; (case c1 => exact Try.sizeP hpl); (case c2 => (rw [pic_size, pic_size, hpl]; rfl)))
  refine bodyPost_ret (v := .tuple #[.agg (pic m2 (l2.map pn)), .int .i64 k]) (results_cell_row2 Try.results35 _ _ (w.heap.size + 1) 32 (pic m2 (l2.map pn)) (0, 0) _ _ rfl rfl (B5.out.row _) Try.underlying32 rfl (Try.sizeP hpl)) rfl ?_
  exact ⟨l2.map pn, rfl, hpl, by rw [map_ab_pn, HM2.out]; rfl, Below.setRow BW5.out (by omega) _⟩

theorem Try.infoLP : (Try.prog.info? 31).map (fun i => (i.zero, i.size)) = some (some (.agg (pic 0 zeros)), 65) := by kernel_rfl
theorem Try.sizeLP {n : Int} {l : List Nat} (h : l.length = 64) : (Try.prog.info? 31).map (·.size) = some (pic n l).size := by rw [(zero_of_info Try.infoLP).2, pic_size, h]

set_option maxRecDepth 10000 in
set_option maxHeartbeats 4000000 in
theorem law_InSteps (n : Int) (l : List Nat) (hl : l.length = 64) (mm : Nat) (hm : n.toNat * n.toNat = mm) (q : Nat) (m : Int) (w : World) :
    Calls Try.prog 11 #[.agg (pic n l), .float .f32 q, .int .i64 m] w fun e w' => e = .returned (.bool true) ∧ Below w.heap.size w w' := by
  have hz := (zero_of_info Try.infoP).1
  obtain ⟨W0, hW⟩ : ∃ W0, W0 = w.alloc (.cells (pic n l) 31) := ⟨_, rfl⟩
  have hb0 : Below w.heap.size w W0 := by rw [hW]; exact (Below.refl _ _).alloc (Nat.le_refl _) _
  have b0 : Blk W0 w.heap.size (pic n l) 31 := by rw [hW]; exact Blk.new w _ _
  have B0 := Lib.hid b0
  have BW := Lib.hid hb0
  clear b0 hb0
  obtain ⟨r, hr⟩ : ∃ r, r = plusR (stpI n l q m mm) := ⟨_, rfl⟩
  have CI := fun w => implInSteps_any n l hl mm hm q m w
  have CS := fun w => specInSteps_any n l hl mm hm q m w
  rw [← hr] at CI
  rw [← stp_same n l q m mm hm, ← hr] at CS
  have HCI := Lib.hid CI; have HCS := Lib.hid CS; clear hr CI CS
  obtain ⟨k, m2, fv⟩ := r
  go_enter Try.func11, Try.ntmps11
  go_upto_region 1 with (fail)
  rw [← hW]
  clear hW
  go_wp2_with (refine wpList_load_row rfl 31 (.tmp 3) rfl w.heap.size rfl 31 (pic n l) (0, 0) _ B0.out Try.underlying31 rfl (Try.sizeLP hl) ?_)
  refine (toP_any n l hl W0).mono ?_
  rintro e w1 ⟨rfl, b1⟩
  have HB1 := Lib.hid (BW.out.trans (b1.mono BW.out.size))
  have P1 := Lib.hid (B0.out.below b1)
  clear b1
  go_wp2_with fail
  refine (HCS.out w1).mono ?_
  rintro e w2 ⟨l2, rfl, hll2, hlm2, hb2⟩
  simp only at hlm2 ⊢
  have HB2 := HB1.out.trans (hb2.mono HB1.out.size)
  have P2 := P1.out.below hb2
  have hlt2 := P2.lt
  have C3 := Lib.hid (Blk.new w2 (pic 0 zeros) 32)
  have C4 := Lib.hid (C3.out.row (pic m2 l2))
  have P4 := Lib.hid ((P2.alloc (.cells (pic 0 zeros) 32)).rowOther (by omega : w.heap.size ≠ w2.heap.size) (pic m2 l2))
  have HB4 := Lib.hid (Below.setRow (HB2.alloc HB2.size (.cells (pic 0 zeros) 32)) HB2.size (g := w2.heap.size) (pic m2 l2))
  have HL2 := Lib.hid hll2
  have HM2 := Lib.hid hlm2
  clear HB2 hb2 hll2 hlm2 HB1 P2 hlt2
  go_wp2_with (first | (refine wpList_store_row rfl 32 (.tmp 7) (.tmp 17) rfl w2.heap.size (pic m2 l2) rfl rfl 32 (pic 0 zeros) C3.out ?c1 ?c2 (pic_one m2 l2) ?_; (case c1 => exact Try.sizeP HL2.out); (case c2 => (rw [pic_size, pic_size, HL2.out]; rfl))) | (refine wpList_load_row rfl 31 (.tmp 3) rfl w.heap.size rfl 31 (pic n l) (0, 0) _ P4.out Try.underlying31 rfl (Try.sizeLP hl) ?_))
  refine (toP_any n l hl _).mono ?_
  rintro e w5 ⟨rfl, b2⟩
  have C5 := Lib.hid (C4.out.below b2)
  have HB5 := Lib.hid (HB4.out.trans (b2.mono HB4.out.size))
  clear b2 C3 C4 HB4
  go_wp2_with fail
  refine (HCI.out w5).mono ?_
  rintro e w6 ⟨l6, rfl, hll6, hlm6, hb6⟩
  simp only at hlm6 ⊢
  have C6 := C5.out.below hb6
  have hlt := C6.lt
  have HB6 := HB5.out.trans (hb6.mono HB5.out.size)
  have D6 := Lib.hid (Blk.new w6 (pic 0 zeros) 32)
  have D7 := Lib.hid (D6.out.row (pic m2 l6))
  have C7 := Lib.hid ((C6.alloc (.cells (pic 0 zeros) 32)).rowOther (by omega : w2.heap.size ≠ w6.heap.size) (pic m2 l6))
  have hb7 : Below w6.heap.size w6 ((w6.alloc (.cells (pic 0 zeros) 32)).setRow w6.heap.size (pic m2 l6)) := Below.setRow ((Below.refl _ _).alloc (Nat.le_refl _) _) (Nat.le_refl _) _
  have HB7 := Lib.hid (HB6.trans (hb7.mono HB6.size))
  have HL6 := Lib.hid hll6
  have HM6 := Lib.hid hlm6
  clear hll6 hlm6 hb6 hb7 HB6 C6 hlt C5 HB5
  go_wp2_with (first | (refine wpList_store_row rfl 32 (.tmp 9) (.tmp 25) rfl w6.heap.size (pic m2 l6) rfl rfl 32 (pic 0 zeros) D6.out ?c1 ?c2 (pic_one m2 l6) ?_; (case c1 => exact Try.sizeP HL6.out); (case c2 => (rw [pic_size, pic_size, HL6.out]; rfl))) | (refine wpList_load_row rfl 32 (.tmp 9) rfl w6.heap.size rfl 32 (pic m2 l6) (0, 0) _ D7.out Try.underlying32 rfl (Try.sizeP HL6.out) ?_) | (refine wpList_load_row rfl 32 (.tmp 7) rfl w2.heap.size rfl 32 (pic m2 l2) (0, 0) _ C7.out Try.underlying32 rfl (Try.sizeP HL2.out) ?_))
  refine (eqP_eq m2 l6 l2 HL6.out HL2.out (by rw [HM6.out, HM2.out]) _).mono ?_
  rintro e w8 ⟨rfl, hb8⟩
  have HB8 := Lib.hid (HB7.out.trans (hb8.mono HB7.out.size))
  clear hb8
  go_wp2
  go_ret
  exact ⟨rfl, HB8.out⟩
end Go.Proofs.Ytphbjfijipcpnaa
