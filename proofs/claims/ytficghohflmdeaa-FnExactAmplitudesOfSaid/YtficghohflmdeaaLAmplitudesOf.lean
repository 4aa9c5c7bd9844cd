/- AmplitudesOf: the law. -/
import Derived.Test.YtficghohflmdeaaAmp
namespace Go.Proofs.Ytficghohflmdeaa
open Go.RowKit
set_option linter.unusedVariables false

def plusQ (r : Int × Int × List FV) : Int × Int × List FV := (r.1, r.2.1, r.2.2.map pnV)

theorem AmpS_post {n : Int} {l : List Nat} (hl : l.length = 64) {m : Nat} (hm : n.toNat * n.toNat = m) {w w' : World} {e : Ending} (h : AmpS n l m w e w') : ∃ r, plusQ r = plusQ (ampI n l m) ∧ PicPost r w e w' := by
  obtain ⟨l', k, n', rfl, hl', hc, hb⟩ := h
  refine ⟨(k, n', l'.map (ab .f32)), ?_, l', rfl, hl', rfl, hb⟩
  unfold ampI
  cases hp : isPic n l with
  | false =>
    rw [hp] at hc
    obtain ⟨rfl, rfl, rfl⟩ := hc
    rfl
  | true =>
    rw [hp] at hc
    obtain ⟨rfl, rfl, hok⟩ := hc
    obtain ⟨nn, m', rfl, hn1, hn2, hmul, hm64, hm'⟩ := side_nat (isPic_sd hp)
    obtain rfl : m' = m := by rw [← hm, hm']
    simp only [if_true, plusQ]
    congr 2
    refine List.ext_getElem? fun j => ?_
    rw [List.getElem?_map, List.getElem?_map, List.getElem?_map]
    by_cases hj : j < 64
    · rw [List.getElem?_eq_getElem (by omega : j < l'.length), fillV_get _ hj]
      simp only [Option.map_some]
      congr 1
      have hg : l'[j] = l'.getD j 0 := by simp [show j < l'.length by omega]
      rw [hg, ← ab_pn]
      by_cases hjm : j < m'
      · rw [if_pos hjm]
        obtain ⟨S, h1, h2, h3⟩ := hok.1 j hjm
        obtain ⟨R, S', hR, hab, _⟩ := roots (okL_lvl (isPic_at hp hm j hj))
        have hr : rtI (l.getD j 0) = R := by unfold rtI; rw [hR]; rfl
        rw [h1, ← h3, ab_pn, hr, hab]
        unfold ampF
        rw [hr]
      · rw [if_neg hjm, hok.2 j (by omega), ab_pn, ab_zero]
    · rw [List.getElem?_eq_none (by omega), List.getElem?_eq_none (by rw [fillV_length _ hm64]; omega)]; rfl

set_option maxRecDepth 10000 in
set_option maxHeartbeats 2000000 in
theorem implAmplitudesOf_any (n : Int) (l : List Nat) (hl : l.length = 64) (m : Nat) (hm : n.toNat * n.toNat = m) (w : World) :
    Calls Try.prog 30 #[.agg (pic n l)] w (PicPost (plusQ (ampI n l m)) w) := by
  have hz := (zero_of_info Try.infoP).1
  obtain ⟨W0, hW⟩ : ∃ W0, W0 = (w.alloc (.cells (pic n l) 47)).alloc (.cells (pic 0 zeros) 47) := ⟨_, rfl⟩
  have hb0 : Below w.heap.size w W0 := by rw [hW]; exact ((Below.refl _ _).alloc (Nat.le_refl _) _).alloc (by simp) _
  have h3 := blk2 w (.cells (pic n l) 47) (.cells (pic 0 zeros) 47)
  rw [← hW] at h3
  have b0 : Blk W0 w.heap.size (pic n l) 47 := h3.1
  have b1 : Blk W0 (w.heap.size + 1) (pic 0 zeros) 47 := h3.2
  have B0 := Lib.hid b0
  have B1 := Lib.hid b1
  have BW := Lib.hid hb0
  clear b1 b0 h3 hb0
  obtain ⟨r, hr⟩ : ∃ r, r = ampI n l m := ⟨_, rfl⟩
  have C1 := signedAmp_any n l hl m hm W0
  rw [← hr] at C1 ⊢
  have HC1 := Lib.hid C1
  clear hr C1
  go_enter Try.func30, Try.ntmps30
  go_upto_region 1 with (fail)
  rw [← hW]
  clear hW
  go_wp2_with (refine wpList_load_row rfl 47 (.tmp 1) rfl w.heap.size rfl 47 (pic n l) (0, 0) _ B0.out Try.underlying47 rfl (Try.sizeP hl) ?_)
  refine HC1.out.mono ?_
  rintro e w2 ⟨l2, rfl, hll, hlm, hb2⟩
  obtain ⟨k, m2, fv⟩ := r
  simp only at hlm ⊢
  have B2 := B1.out.below hb2
  have BW2 := BW.out.trans (hb2.mono BW.out.size)
  have hlt := B2.lt
  have C3 := Lib.hid (Blk.new w2 (pic 0 zeros) 47)
  have B4 := Lib.hid ((B2.alloc (.cells (pic 0 zeros) 47)).rowOther (by omega : w.heap.size + 1 ≠ w2.heap.size) (pic m2 l2))
  have C4 := Lib.hid (C3.out.row (pic m2 l2))
  have BW4 := Lib.hid (Below.setRow (BW2.alloc BW2.size (.cells (pic 0 zeros) 47)) BW2.size (g := w2.heap.size) (pic m2 l2))
  have HL := Lib.hid hll
  have HM2 := Lib.hid hlm
  clear B2 BW2 hlt hll hlm hb2
  go_wp2_with (first | (refine wpList_store_row rfl 47 (.tmp 4) (.tmp 9) rfl w2.heap.size (pic m2 l2) rfl rfl 47 (pic 0 zeros) C3.out ?c1 ?c2 (pic_one m2 l2) ?_; (case c1 => exact Try.sizeP HL.out); (case c2 => (rw [pic_size, pic_size, HL.out]; rfl))) | (refine wpList_load_row rfl 47 (.tmp 4) rfl w2.heap.size rfl 47 (pic m2 l2) (0, 0) _ C4.out Try.underlying47 rfl (Try.sizeP HL.out) ?_))
  refine (plainP_any m2 l2 HL.out _).mono ?_
  rintro e w5 ⟨rfl, hb5⟩
  have hpl : (l2.map pn).length = 64 := by rw [List.length_map]; exact HL.out
  have B5 := Lib.hid (B4.out.below hb5)
  have BW5 := Lib.hid (BW4.out.trans (hb5.mono BW4.out.size))
  clear hb5
  go_wp2_with (refine wpList_store_row rfl 47 (.tmp 2) (.tmp 12) rfl (w.heap.size + 1) (pic m2 (l2.map pn)) rfl rfl 47 (pic 0 zeros) B5.out ?c1 ?c2 (pic_one m2 _) ?_; (case c1 => exact Try.sizeP hpl); (case c2 => (rw [pic_size, pic_size, hpl]; rfl)))
  refine bodyPost_ret (v := .tuple #[.agg (pic m2 (l2.map pn)), .int .i64 k]) (results_cell_row2 Try.results30 _ _ (w.heap.size + 1) 47 (pic m2 (l2.map pn)) (0, 0) _ _ rfl rfl (B5.out.row _) Try.underlying47 rfl (Try.sizeP hpl)) rfl ?_
  exact ⟨l2.map pn, rfl, hpl, by rw [map_ab_pn, HM2.out]; rfl, Below.setRow BW5.out (by omega) _⟩

set_option maxRecDepth 10000 in
set_option maxHeartbeats 2000000 in
theorem specAmplitudesOf_any (n : Int) (l : List Nat) (hl : l.length = 64) (m : Nat) (hm : n.toNat * n.toNat = m) (w : World) :
    Calls Try.prog 28 #[.agg (pic n l)] w (PicPost (plusQ (ampI n l m)) w) := by
  have hz := (zero_of_info Try.infoP).1
  obtain ⟨W0, hW⟩ : ∃ W0, W0 = (w.alloc (.cells (pic n l) 47)).alloc (.cells (pic 0 zeros) 47) := ⟨_, rfl⟩
  have hb0 : Below w.heap.size w W0 := by rw [hW]; exact ((Below.refl _ _).alloc (Nat.le_refl _) _).alloc (by simp) _
  have h3 := blk2 w (.cells (pic n l) 47) (.cells (pic 0 zeros) 47)
  rw [← hW] at h3
  have b0 : Blk W0 w.heap.size (pic n l) 47 := h3.1
  have b1 : Blk W0 (w.heap.size + 1) (pic 0 zeros) 47 := h3.2
  have B0 := Lib.hid b0
  have B1 := Lib.hid b1
  have BW := Lib.hid hb0
  clear b1 b0 h3 hb0
  have HC1 := Lib.hid (rawAmp_any n l hl m hm W0)
  go_enter Try.func28, Try.ntmps28
  go_upto_region 1 with (fail)
  rw [← hW]
  clear hW
  go_wp2_with (refine wpList_load_row rfl 47 (.tmp 1) rfl w.heap.size rfl 47 (pic n l) (0, 0) _ B0.out Try.underlying47 rfl (Try.sizeP hl) ?_)
  refine HC1.out.mono ?_
  rintro e w2 hA
  obtain ⟨r, hr, l2, rfl, hll, hlm, hb2⟩ := AmpS_post hl hm hA
  have HR := Lib.hid hr
  clear hr hA
  obtain ⟨k, m2, fv⟩ := r
  simp only at hlm ⊢
  have B2 := B1.out.below hb2
  have BW2 := BW.out.trans (hb2.mono BW.out.size)
  have hlt := B2.lt
  have C3 := Lib.hid (Blk.new w2 (pic 0 zeros) 47)
  have B4 := Lib.hid ((B2.alloc (.cells (pic 0 zeros) 47)).rowOther (by omega : w.heap.size + 1 ≠ w2.heap.size) (pic m2 l2))
  have C4 := Lib.hid (C3.out.row (pic m2 l2))
  have BW4 := Lib.hid (Below.setRow (BW2.alloc BW2.size (.cells (pic 0 zeros) 47)) BW2.size (g := w2.heap.size) (pic m2 l2))
  have HL := Lib.hid hll
  have HM2 := Lib.hid hlm
  clear B2 BW2 hlt hll hlm hb2
  go_wp2_with (first | (refine wpList_store_row rfl 47 (.tmp 4) (.tmp 9) rfl w2.heap.size (pic m2 l2) rfl rfl 47 (pic 0 zeros) C3.out ?c1 ?c2 (pic_one m2 l2) ?_; (case c1 => exact Try.sizeP HL.out); (case c2 => (rw [pic_size, pic_size, HL.out]; rfl))) | (refine wpList_load_row rfl 47 (.tmp 4) rfl w2.heap.size rfl 47 (pic m2 l2) (0, 0) _ C4.out Try.underlying47 rfl (Try.sizeP HL.out) ?_))
  refine (plusP_any m2 l2 HL.out _).mono ?_
  rintro e w5 ⟨rfl, hb5⟩
  have hpl : (l2.map pn).length = 64 := by rw [List.length_map]; exact HL.out
  have B5 := Lib.hid (B4.out.below hb5)
  have BW5 := Lib.hid (BW4.out.trans (hb5.mono BW4.out.size))
  clear hb5
  go_wp2_with (refine wpList_store_row rfl 47 (.tmp 2) (.tmp 12) rfl (w.heap.size + 1) (pic m2 (l2.map pn)) rfl rfl 47 (pic 0 zeros) B5.out ?c1 ?c2 (pic_one m2 _) ?_; (case c1 => exact Try.sizeP hpl); (case c2 => (rw [pic_size, pic_size, hpl]; rfl)))
  refine bodyPost_ret (v := .tuple #[.agg (pic m2 (l2.map pn)), .int .i64 k]) (results_cell_row2 Try.results28 _ _ (w.heap.size + 1) 47 (pic m2 (l2.map pn)) (0, 0) _ _ rfl rfl (B5.out.row _) Try.underlying47 rfl (Try.sizeP hpl)) rfl ?_
  rw [← HR.out]
  exact ⟨l2.map pn, rfl, hpl, by rw [map_ab_pn, HM2.out]; rfl, Below.setRow BW5.out (by omega) _⟩

theorem Try.infoLP : (Try.prog.info? 46).map (fun i => (i.zero, i.size)) = some (some (.agg (pic 0 zeros)), 65) := by kernel_rfl
theorem Try.sizeLP {n : Int} {l : List Nat} (h : l.length = 64) : (Try.prog.info? 46).map (·.size) = some (pic n l).size := by rw [(zero_of_info Try.infoLP).2, pic_size, h]

set_option maxRecDepth 10000 in
set_option maxHeartbeats 4000000 in
theorem law_AmplitudesOf (n : Int) (l : List Nat) (hl : l.length = 64) (m : Nat) (hm : n.toNat * n.toNat = m) (w : World) :
    Calls Try.prog 9 #[.agg (pic n l)] w fun e w' => e = .returned (.bool true) ∧ Below w.heap.size w w' := by
  have hz := (zero_of_info Try.infoP).1
  obtain ⟨W0, hW⟩ : ∃ W0, W0 = w.alloc (.cells (pic n l) 46) := ⟨_, rfl⟩
  have hb0 : Below w.heap.size w W0 := by rw [hW]; exact (Below.refl _ _).alloc (Nat.le_refl _) _
  have b0 : Blk W0 w.heap.size (pic n l) 46 := by rw [hW]; exact Blk.new w _ _
  have B0 := Lib.hid b0
  have BW := Lib.hid hb0
  clear b0 hb0
  obtain ⟨r, hr⟩ : ∃ r, r = plusQ (ampI n l m) := ⟨_, rfl⟩
  have CI := fun w => implAmplitudesOf_any n l hl m hm w
  have CS := fun w => specAmplitudesOf_any n l hl m hm w
  rw [← hr] at CI
  rw [← hr] at CS
  have HCI := Lib.hid CI; have HCS := Lib.hid CS; clear hr CI CS
  obtain ⟨k, m2, fv⟩ := r
  go_enter Try.func9, Try.ntmps9
  go_upto_region 1 with (fail)
  rw [← hW]
  clear hW
  go_wp2_with (refine wpList_load_row rfl 46 (.tmp 1) rfl w.heap.size rfl 46 (pic n l) (0, 0) _ B0.out Try.underlying46 rfl (Try.sizeLP hl) ?_)
  refine (toP_any n l hl W0).mono ?_
  rintro e w1 ⟨rfl, b1⟩
  have HB1 := Lib.hid (BW.out.trans (b1.mono BW.out.size))
  have P1 := Lib.hid (B0.out.below b1)
  clear b1
  go_wp2_with fail
  refine (HCS.out w1).mono ?_
  rintro e w2 ⟨l2, rfl, hll2, hlm2, hb2⟩
  simp only at hlm2 ⊢
  have HB2 := HB1.out.trans (hb2.mono HB1.out.size)
  have P2 := P1.out.below hb2
  have hlt2 := P2.lt
  have C3 := Lib.hid (Blk.new w2 (pic 0 zeros) 47)
  have C4 := Lib.hid (C3.out.row (pic m2 l2))
  have P4 := Lib.hid ((P2.alloc (.cells (pic 0 zeros) 47)).rowOther (by omega : w.heap.size ≠ w2.heap.size) (pic m2 l2))
  have HB4 := Lib.hid (Below.setRow (HB2.alloc HB2.size (.cells (pic 0 zeros) 47)) HB2.size (g := w2.heap.size) (pic m2 l2))
  have HL2 := Lib.hid hll2
  have HM2 := Lib.hid hlm2
  clear HB2 hb2 hll2 hlm2 HB1 P2 hlt2
  go_wp2_with (first | (refine wpList_store_row rfl 47 (.tmp 3) (.tmp 11) rfl w2.heap.size (pic m2 l2) rfl rfl 47 (pic 0 zeros) C3.out ?c1 ?c2 (pic_one m2 l2) ?_; (case c1 => exact Try.sizeP HL2.out); (case c2 => (rw [pic_size, pic_size, HL2.out]; rfl))) | (refine wpList_load_row rfl 46 (.tmp 1) rfl w.heap.size rfl 46 (pic n l) (0, 0) _ P4.out Try.underlying46 rfl (Try.sizeLP hl) ?_))
  refine (toP_any n l hl _).mono ?_
  rintro e w5 ⟨rfl, b2⟩
  have C5 := Lib.hid (C4.out.below b2)
  have HB5 := Lib.hid (HB4.out.trans (b2.mono HB4.out.size))
  clear b2 C3 C4 HB4
  go_wp2_with fail
  refine (HCI.out w5).mono ?_
  rintro e w6 ⟨l6, rfl, hll6, hlm6, hb6⟩
  simp only at hlm6 ⊢
  have C6 := C5.out.below hb6
  have hlt := C6.lt
  have HB6 := HB5.out.trans (hb6.mono HB5.out.size)
  have D6 := Lib.hid (Blk.new w6 (pic 0 zeros) 47)
  have D7 := Lib.hid (D6.out.row (pic m2 l6))
  have C7 := Lib.hid ((C6.alloc (.cells (pic 0 zeros) 47)).rowOther (by omega : w2.heap.size ≠ w6.heap.size) (pic m2 l6))
  have hb7 : Below w6.heap.size w6 ((w6.alloc (.cells (pic 0 zeros) 47)).setRow w6.heap.size (pic m2 l6)) := Below.setRow ((Below.refl _ _).alloc (Nat.le_refl _) _) (Nat.le_refl _) _
  have HB7 := Lib.hid (HB6.trans (hb7.mono HB6.size))
  have HL6 := Lib.hid hll6
  have HM6 := Lib.hid hlm6
  clear hll6 hlm6 hb6 hb7 HB6 C6 hlt C5 HB5
  go_wp2_with (first | (refine wpList_store_row rfl 47 (.tmp 5) (.tmp 17) rfl w6.heap.size (pic m2 l6) rfl rfl 47 (pic 0 zeros) D6.out ?c1 ?c2 (pic_one m2 l6) ?_; (case c1 => exact Try.sizeP HL6.out); (case c2 => (rw [pic_size, pic_size, HL6.out]; rfl))) | (refine wpList_load_row rfl 47 (.tmp 5) rfl w6.heap.size rfl 47 (pic m2 l6) (0, 0) _ D7.out Try.underlying47 rfl (Try.sizeP HL6.out) ?_) | (refine wpList_load_row rfl 47 (.tmp 3) rfl w2.heap.size rfl 47 (pic m2 l2) (0, 0) _ C7.out Try.underlying47 rfl (Try.sizeP HL2.out) ?_))
  refine (eqP_eq m2 l6 l2 HL6.out HL2.out (by rw [HM6.out, HM2.out]) _).mono ?_
  rintro e w8 ⟨rfl, hb8⟩
  have HB8 := Lib.hid (HB7.out.trans (hb8.mono HB7.out.size))
  clear hb8
  go_wp2
  go_ret
  exact ⟨rfl, HB8.out⟩
end Go.Proofs.Ytficghohflmdeaa
