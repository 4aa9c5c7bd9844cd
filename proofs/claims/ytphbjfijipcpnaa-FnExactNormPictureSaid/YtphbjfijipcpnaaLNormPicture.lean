/- NormPicture: the law. -/
import Derived.Test.YtphbjfijipcpnaaNorm2
namespace Go.Proofs.Ytphbjfijipcpnaa
open Go.RowKit
set_option linter.unusedVariables false

def plusR (r : Int × Int × List FV) : Int × Int × List FV := (r.1, r.2.1, r.2.2.map pnV)

theorem norm_same (n : Int) (l : List Nat) (m : Nat) (hm : n.toNat * n.toNat = m) : plusR (normI n l m) = plusR (normS n l m) := by
  unfold normI normS topC topCS
  cases hp : isPic n l with
  | false => rfl
  | true =>
    simp only [if_true]
    obtain ⟨nn, m', rfl, hn1, hn2, hmul, hm64, hm'⟩ := side_nat (isPic_sd hp)
    obtain rfl : m' = m := by rw [← hm, hm']
    have hm1 : 1 ≤ m' := by have := Nat.mul_le_mul hn1 hn1; rw [Int.toNat_natCast] at hm'; omega
    have hlv : ∀ j, j < m' → Lvl (l.getD j 0) := fun j hj => okL_lvl (isPic_at hp hm j (by omega))
    obtain ⟨ht, hs, h⟩ := tops_same l (m' - 1) (fun j hj => hlv j (by omega))
    rcases h with h | ⟨h1, h2⟩
    · rw [← h]
      by_cases h0 : eq0 (topI l (m' - 1)) = true
      · simp [h0]
      · have hf : eq0 (topI l (m' - 1)) = false := by simpa using h0
        simp only [hf, Bool.false_eq_true, if_false, if_true]
        obtain ⟨T, hT⟩ : ∃ T, T = topI l (m' - 1) := ⟨_, rfl⟩
        rw [← hT] at ht hf ⊢
        rw [eq0_val ht.1] at hf
        have hf' := of_decide_eq_false hf
        have ht0 : 0 < valF T := by have := ht.2; omega
        have key : ∀ k, m' ≤ k → k < 64 → ∃ z, nrmF l T k = some z ∧ isNum z = true ∧ valF z = 0 := by
          intro k hk hk2
          have hok := isPic_at hp hm k hk2
          simp only [okL, Bool.and_eq_true, Bool.or_eq_true, decide_eq_true_eq] at hok
          have h0 : eq0 (l.getD k 0) = true := by rcases hok.2 with h | h; omega; exact h
          obtain ⟨z, hz1, hz2, hz3⟩ := zero_quo hok.1.1 h0 ht.1 ht0
          refine ⟨z, ?_, hz2, hz3⟩
          unfold nrmF
          rw [arith_ab, hz1]
        have hpv : isPicV nn (fillV m' (nrmF l T)) = isPicV nn (fillV 64 (nrmF l T)) := by
          unfold isPicV
          congr 1
          rw [Bool.eq_iff_iff, List.all_eq_true, List.all_eq_true]
          refine forall_congr' fun k => forall_congr' fun hk => ?_
          have hk' : k < 64 := by simpa using hk
          rw [List.getD_eq_getElem?_getD, List.getD_eq_getElem?_getD, fillV_get _ hk', fillV_get _ hk', if_pos hk', hm]
          by_cases hkm : k < m'
          · rw [if_pos hkm]
          · rw [if_neg hkm]
            obtain ⟨z, hz1, hz2, hz3⟩ := key k (by omega) hk'
            rw [hz1]
            have e1 : okL m' k z = true := by
              simp [okL, hz2, lt0_val hz2, eq0_val hz2, hz3]
            have e2 : okL m' k 0 = true := by
              simp [okL, num_zero, lt0_val num_zero, eq0_val num_zero, val_zero]
            show okV m' k (some 0) = true ↔ okV m' k (some z) = true
            simp only [okV, e1, e2]
        unfold limV
        rw [hpv]
        cases hq : isPicV nn (fillV 64 (nrmF l T)) with
        | false => rfl
        | true =>
          simp only [if_true, plusR]
          congr 2
          refine List.ext_getElem? fun k => ?_
          rw [List.getElem?_map, List.getElem?_map]
          by_cases hk' : k < 64
          · rw [fillV_get _ hk', fillV_get _ hk', if_pos hk']
            by_cases hkm : k < m'
            · rw [if_pos hkm]
            · rw [if_neg hkm]
              obtain ⟨z, hz1, hz2, hz3⟩ := key k (by omega) hk'
              rw [hz1, Option.map_some, Option.map_some]
              have hzn : ab .f32 z = some z := by
                obtain ⟨b, s, q, e, h1, h2⟩ := fin_num.1 hz2
                obtain ⟨rfl, h3⟩ := ab_eq_some h1
                exact h1
              have hpz : pnV (some z) = some 0 := by
                have h := eq0_val hz2
                rw [hz3] at h
                unfold eq0 at h
                unfold pnV
                show (if (FloatKind.f32.format.order z 0 == some .eq) = true then _ else _) = _
                rw [if_pos (by rw [h]; rfl)]
              have hp0 : pnV (some 0) = some 0 := by
                unfold pnV; split <;> rfl
              rw [hpz, hp0]
          · rw [List.getElem?_eq_none (by rw [fillV_length _ hm64]; omega), List.getElem?_eq_none (by rw [fillV_length _ (Nat.le_refl _)]; omega)]
    · have e1 : eq0 (topI l (m' - 1)) = true := by rw [eq0_val ht.1, h1]; rfl
      have e2 : eq0 (topS l (m' - 1)) = true := by rw [eq0_val hs.1, h2]; rfl
      simp [e1, e2]

set_option maxRecDepth 10000 in
set_option maxHeartbeats 2000000 in
theorem implNormPicture_any (n : Int) (l : List Nat) (hl : l.length = 64) (m : Nat) (hm : n.toNat * n.toNat = m) (w : World) :
    Calls Try.prog 20 #[.agg (pic n l)] w (PicPost (plusR (normI n l m)) w) := by
  have hz := (zero_of_info Try.infoP).1
  obtain ⟨W0, hW⟩ : ∃ W0, W0 = (w.alloc (.cells (pic n l) 32)).alloc (.cells (pic 0 zeros) 32) := ⟨_, rfl⟩
  have hb0 : Below w.heap.size w W0 := by rw [hW]; exact ((Below.refl _ _).alloc (Nat.le_refl _) _).alloc (by simp) _
  have h3 := blk2 w (.cells (pic n l) 32) (.cells (pic 0 zeros) 32)
  rw [← hW] at h3
  have b0 : Blk W0 w.heap.size (pic n l) 32 := h3.1
  have b1 : Blk W0 (w.heap.size + 1) (pic 0 zeros) 32 := h3.2
  have B0 := Lib.hid b0
  have B1 := Lib.hid b1
  have BW := Lib.hid hb0
  clear b1 b0 h3 hb0
  obtain ⟨r, hr⟩ : ∃ r, r = normI n l m := ⟨_, rfl⟩
  have C1 := signedNorm_any n l hl m hm W0
  rw [← hr] at C1 ⊢
  have HC1 := Lib.hid C1
  clear hr C1
  go_enter Try.func20, Try.ntmps20
  go_upto_region 1 with (fail)
  rw [← hW]
  clear hW
  go_wp2_with (refine wpList_load_row rfl 32 (.tmp 1) rfl w.heap.size rfl 32 (pic n l) (0, 0) _ B0.out Try.underlying32 rfl (Try.sizeP hl) ?_)
  refine HC1.out.mono ?_
  rintro e w2 ⟨l2, rfl, hll, hlm, hb2⟩
  obtain ⟨k, m2, fv⟩ := r
  simp only at hlm ⊢
  have B2 := B1.out.below hb2
  have BW2 := BW.out.trans (hb2.mono BW.out.size)
  have hlt := B2.lt
  have C3 := Lib.hid (Blk.new w2 (pic 0 zeros) 32)
  have B4 := Lib.hid ((B2.alloc (.cells (pic 0 zeros) 32)).rowOther (by omega : w.heap.size + 1 ≠ w2.heap.size) (pic m2 l2))
  have C4 := Lib.hid (C3.out.row (pic m2 l2))
  have BW4 := Lib.hid (Below.setRow (BW2.alloc BW2.size (.cells (pic 0 zeros) 32)) BW2.size (g := w2.heap.size) (pic m2 l2))
  have HL := Lib.hid hll
  have HM2 := Lib.hid hlm
  clear B2 BW2 hlt hll hlm hb2
  go_wp2_with (first | (refine wpList_store_row rfl 32 (.tmp 4) (.tmp 9) rfl w2.heap.size (pic m2 l2) rfl rfl 32 (pic 0 zeros) C3.out ?c1 ?c2 (pic_one m2 l2) ?_; (case c1 => exact Try.sizeP HL.out); (case c2 => (rw [pic_size, pic_size, HL.out]; rfl))) | (refine wpList_load_row rfl 32 (.tmp 4) rfl w2.heap.size rfl 32 (pic m2 l2) (0, 0) _ C4.out Try.underlying32 rfl (Try.sizeP HL.out) ?_))
  refine (plainP_any m2 l2 HL.out _).mono ?_
  rintro e w5 ⟨rfl, hb5⟩
  have hpl : (l2.map pn).length = 64 := by rw [List.length_map]; exact HL.out
  have B5 := Lib.hid (B4.out.below hb5)
  have BW5 := Lib.hid (BW4.out.trans (hb5.mono BW4.out.size))
  clear hb5
  go_wp2_with (refine wpList_store_row rfl 32 (.tmp 2) (.tmp 12) rfl (w.heap.size + 1) (pic m2 (l2.map pn)) rfl rfl 32 (pic 0 zeros) B5.out ?c1 ?c2 (pic_one m2 _) ?_; (case c1 => exact Try.sizeP hpl); (case c2 => (rw [pic_size, pic_size, hpl]; rfl)))
  refine bodyPost_ret (v := .tuple #[.agg (pic m2 (l2.map pn)), .int .i64 k]) (results_cell_row2 Try.results20 _ _ (w.heap.size + 1) 32 (pic m2 (l2.map pn)) (0, 0) _ _ rfl rfl (B5.out.row _) Try.underlying32 rfl (Try.sizeP hpl)) rfl ?_
  exact ⟨l2.map pn, rfl, hpl, by rw [map_ab_pn, HM2.out]; rfl, Below.setRow BW5.out (by omega) _⟩

set_option maxRecDepth 10000 in
set_option maxHeartbeats 2000000 in
theorem specNormPicture_any (n : Int) (l : List Nat) (hl : l.length = 64) (m : Nat) (hm : n.toNat * n.toNat = m) (w : World) :
    Calls Try.prog 18 #[.agg (pic n l)] w (PicPost (plusR (normS n l m)) w) := by
  have hz := (zero_of_info Try.infoP).1
  obtain ⟨W0, hW⟩ : ∃ W0, W0 = (w.alloc (.cells (pic n l) 32)).alloc (.cells (pic 0 zeros) 32) := ⟨_, rfl⟩
  have hb0 : Below w.heap.size w W0 := by rw [hW]; exact ((Below.refl _ _).alloc (Nat.le_refl _) _).alloc (by simp) _
  have h3 := blk2 w (.cells (pic n l) 32) (.cells (pic 0 zeros) 32)
  rw [← hW] at h3
  have b0 : Blk W0 w.heap.size (pic n l) 32 := h3.1
  have b1 : Blk W0 (w.heap.size + 1) (pic 0 zeros) 32 := h3.2
  have B0 := Lib.hid b0
  have B1 := Lib.hid b1
  have BW := Lib.hid hb0
  clear b1 b0 h3 hb0
  obtain ⟨r, hr⟩ : ∃ r, r = normS n l m := ⟨_, rfl⟩
  have C1 := rawNorm_any n l hl m hm W0
  rw [← hr] at C1 ⊢
  have HC1 := Lib.hid C1
  clear hr C1
  go_enter Try.func18, Try.ntmps18
  go_upto_region 1 with (fail)
  rw [← hW]
  clear hW
  go_wp2_with (refine wpList_load_row rfl 32 (.tmp 1) rfl w.heap.size rfl 32 (pic n l) (0, 0) _ B0.out Try.underlying32 rfl (Try.sizeP hl) ?_)
  refine HC1.out.mono ?_
  rintro e w2 ⟨l2, rfl, hll, hlm, hb2⟩
  obtain ⟨k, m2, fv⟩ := r
  simp only at hlm ⊢
  have B2 := B1.out.below hb2
  have BW2 := BW.out.trans (hb2.mono BW.out.size)
  have hlt := B2.lt
  have C3 := Lib.hid (Blk.new w2 (pic 0 zeros) 32)
  have B4 := Lib.hid ((B2.alloc (.cells (pic 0 zeros) 32)).rowOther (by omega : w.heap.size + 1 ≠ w2.heap.size) (pic m2 l2))
  have C4 := Lib.hid (C3.out.row (pic m2 l2))
  have BW4 := Lib.hid (Below.setRow (BW2.alloc BW2.size (.cells (pic 0 zeros) 32)) BW2.size (g := w2.heap.size) (pic m2 l2))
  have HL := Lib.hid hll
  have HM2 := Lib.hid hlm
  clear B2 BW2 hlt hll hlm hb2
  go_wp2_with (first | (refine wpList_store_row rfl 32 (.tmp 4) (.tmp 9) rfl w2.heap.size (pic m2 l2) rfl rfl 32 (pic 0 zeros) C3.out ?c1 ?c2 (pic_one m2 l2) ?_; (case c1 => exact Try.sizeP HL.out); (case c2 => (rw [pic_size, pic_size, HL.out]; rfl))) | (refine wpList_load_row rfl 32 (.tmp 4) rfl w2.heap.size rfl 32 (pic m2 l2) (0, 0) _ C4.out Try.underlying32 rfl (Try.sizeP HL.out) ?_))
  refine (plusP_any m2 l2 HL.out _).mono ?_
  rintro e w5 ⟨rfl, hb5⟩
  have hpl : (l2.map pn).length = 64 := by rw [List.length_map]; exact HL.out
  have B5 := Lib.hid (B4.out.below hb5)
  have BW5 := Lib.hid (BW4.out.trans (hb5.mono BW4.out.size))
  clear hb5
  go_wp2_with (refine wpList_store_row rfl 32 (.tmp 2) (.tmp 12) rfl (w.heap.size + 1) (pic m2 (l2.map pn)) rfl rfl 32 (pic 0 zeros) B5.out ?c1 ?c2 (pic_one m2 _) ?_; (case c1 => exact Try.sizeP hpl); (case c2 => (rw [pic_size, pic_size, hpl]; rfl)))
  refine bodyPost_ret (v := .tuple #[.agg (pic m2 (l2.map pn)), .int .i64 k]) (results_cell_row2 Try.results18 _ _ (w.heap.size + 1) 32 (pic m2 (l2.map pn)) (0, 0) _ _ rfl rfl (B5.out.row _) Try.underlying32 rfl (Try.sizeP hpl)) rfl ?_
  exact ⟨l2.map pn, rfl, hpl, by rw [map_ab_pn, HM2.out]; rfl, Below.setRow BW5.out (by omega) _⟩

theorem Try.infoLP : (Try.prog.info? 31).map (fun i => (i.zero, i.size)) = some (some (.agg (pic 0 zeros)), 65) := by kernel_rfl
theorem Try.sizeLP {n : Int} {l : List Nat} (h : l.length = 64) : (Try.prog.info? 31).map (·.size) = some (pic n l).size := by rw [(zero_of_info Try.infoLP).2, pic_size, h]

set_option maxRecDepth 10000 in
set_option maxHeartbeats 4000000 in
theorem law_NormPicture (n : Int) (l : List Nat) (hl : l.length = 64) (m : Nat) (hm : n.toNat * n.toNat = m) (w : World) :
    Calls Try.prog 4 #[.agg (pic n l)] w fun e w' => e = .returned (.bool true) ∧ Below w.heap.size w w' := by
  have hz := (zero_of_info Try.infoP).1
  obtain ⟨W0, hW⟩ : ∃ W0, W0 = w.alloc (.cells (pic n l) 31) := ⟨_, rfl⟩
  have hb0 : Below w.heap.size w W0 := by rw [hW]; exact (Below.refl _ _).alloc (Nat.le_refl _) _
  have b0 : Blk W0 w.heap.size (pic n l) 31 := by rw [hW]; exact Blk.new w _ _
  have B0 := Lib.hid b0
  have BW := Lib.hid hb0
  clear b0 hb0
  obtain ⟨r, hr⟩ : ∃ r, r = plusR (normI n l m) := ⟨_, rfl⟩
  have CI := fun w => implNormPicture_any n l hl m hm w
  have CS := fun w => specNormPicture_any n l hl m hm w
  rw [← hr] at CI
  rw [← norm_same n l m hm, ← hr] at CS
  have HCI := Lib.hid CI; have HCS := Lib.hid CS; clear hr CI CS
  obtain ⟨k, m2, fv⟩ := r
  go_enter Try.func4, Try.ntmps4
  go_upto_region 1 with (fail)
  rw [← hW]
  clear hW
  go_wp2_with (refine wpList_load_row rfl 31 (.tmp 1) rfl w.heap.size rfl 31 (pic n l) (0, 0) _ B0.out Try.underlying31 rfl (Try.sizeLP hl) ?_)
  refine (toP_any n l hl W0).mono ?_
  rintro e w1 ⟨rfl, b1⟩
  have HB1 := Lib.hid (BW.out.trans (b1.mono BW.out.size))
  have P1 := Lib.hid (B0.out.below b1)
  clear b1
  go_wp2_with fail
  refine (HCS.out w1).mono ?_
  rintro e w2 ⟨l2, rfl, hll2, hlm2, hb2⟩
  simp only at hlm2 ⊢
  have HB2 := HB1.out.trans (hb2.mono HB1.out.size)
  have P2 := P1.out.below hb2
  have hlt2 := P2.lt
  have C3 := Lib.hid (Blk.new w2 (pic 0 zeros) 32)
  have C4 := Lib.hid (C3.out.row (pic m2 l2))
  have P4 := Lib.hid ((P2.alloc (.cells (pic 0 zeros) 32)).rowOther (by omega : w.heap.size ≠ w2.heap.size) (pic m2 l2))
  have HB4 := Lib.hid (Below.setRow (HB2.alloc HB2.size (.cells (pic 0 zeros) 32)) HB2.size (g := w2.heap.size) (pic m2 l2))
  have HL2 := Lib.hid hll2
  have HM2 := Lib.hid hlm2
  clear HB2 hb2 hll2 hlm2 HB1 P2 hlt2
  go_wp2_with (first | (refine wpList_store_row rfl 32 (.tmp 3) (.tmp 11) rfl w2.heap.size (pic m2 l2) rfl rfl 32 (pic 0 zeros) C3.out ?c1 ?c2 (pic_one m2 l2) ?_; (case c1 => exact Try.sizeP HL2.out); (case c2 => (rw [pic_size, pic_size, HL2.out]; rfl))) | (refine wpList_load_row rfl 31 (.tmp 1) rfl w.heap.size rfl 31 (pic n l) (0, 0) _ P4.out Try.underlying31 rfl (Try.sizeLP hl) ?_))
  refine (toP_any n l hl _).mono ?_
  rintro e w5 ⟨rfl, b2⟩
  have C5 := Lib.hid (C4.out.below b2)
  have HB5 := Lib.hid (HB4.out.trans (b2.mono HB4.out.size))
  clear b2 C3 C4 HB4
  go_wp2_with fail
  refine (HCI.out w5).mono ?_
  rintro e w6 ⟨l6, rfl, hll6, hlm6, hb6⟩
  simp only at hlm6 ⊢
  have C6 := C5.out.below hb6
  have hlt := C6.lt
  have HB6 := HB5.out.trans (hb6.mono HB5.out.size)
  have D6 := Lib.hid (Blk.new w6 (pic 0 zeros) 32)
  have D7 := Lib.hid (D6.out.row (pic m2 l6))
  have C7 := Lib.hid ((C6.alloc (.cells (pic 0 zeros) 32)).rowOther (by omega : w2.heap.size ≠ w6.heap.size) (pic m2 l6))
  have hb7 : Below w6.heap.size w6 ((w6.alloc (.cells (pic 0 zeros) 32)).setRow w6.heap.size (pic m2 l6)) := Below.setRow ((Below.refl _ _).alloc (Nat.le_refl _) _) (Nat.le_refl _) _
  have HB7 := Lib.hid (HB6.trans (hb7.mono HB6.size))
  have HL6 := Lib.hid hll6
  have HM6 := Lib.hid hlm6
  clear hll6 hlm6 hb6 hb7 HB6 C6 hlt C5 HB5
  go_wp2_with (first | (refine wpList_store_row rfl 32 (.tmp 5) (.tmp 17) rfl w6.heap.size (pic m2 l6) rfl rfl 32 (pic 0 zeros) D6.out ?c1 ?c2 (pic_one m2 l6) ?_; (case c1 => exact Try.sizeP HL6.out); (case c2 => (rw [pic_size, pic_size, HL6.out]; rfl))) | (refine wpList_load_row rfl 32 (.tmp 5) rfl w6.heap.size rfl 32 (pic m2 l6) (0, 0) _ D7.out Try.underlying32 rfl (Try.sizeP HL6.out) ?_) | (refine wpList_load_row rfl 32 (.tmp 3) rfl w2.heap.size rfl 32 (pic m2 l2) (0, 0) _ C7.out Try.underlying32 rfl (Try.sizeP HL2.out) ?_))
  refine (eqP_eq m2 l6 l2 HL6.out HL2.out (by rw [HM6.out, HM2.out]) _).mono ?_
  rintro e w8 ⟨rfl, hb8⟩
  have HB8 := Lib.hid (HB7.out.trans (hb8.mono HB7.out.size))
  clear hb8
  go_wp2
  go_ret
  exact ⟨rfl, HB8.out⟩
end Go.Proofs.Ytphbjfijipcpnaa
