/- PictureOfSums: the law. -/
import Derived.Test.YtphbjfijipcpnaaPS3
namespace Go.Proofs.Ytphbjfijipcpnaa
open Go.RowKit
set_option linter.unusedVariables false

def plusR (r : Int × Int × List FV) : Int × Int × List FV := (r.1, r.2.1, r.2.2.map pnV)

set_option maxRecDepth 10000 in
set_option maxHeartbeats 2000000 in
theorem implPS_any (n : Int) (xs : List Nat) (a : Option Addr) (c : Nat) (w : World) (hx : RdF w a xs) (hl : xs.length ≤ 4611686018427387903) :
    Calls Try.prog 34 #[.int .i64 n, .slice a xs.length c] w (PicPost (plusR (psRes n xs)) w) := by
  have hz := (zero_of_info Try.infoP).1
  obtain ⟨W0, hW⟩ : ∃ W0, W0 = w.alloc (.cells (pic 0 zeros) 32) := ⟨_, rfl⟩
  have hb0 : Below w.heap.size w W0 := by rw [hW]; exact (Below.refl _ _).alloc (Nat.le_refl _) _
  have b1 : Blk W0 w.heap.size (pic 0 zeros) 32 := by rw [hW]; exact Blk.new w _ _
  have HX := Lib.hid (hx.below hb0)
  have B1 := Lib.hid b1
  have BW := Lib.hid hb0
  clear b1 hb0 hx
  obtain ⟨r, hr⟩ : ∃ r, r = psRes n xs := ⟨_, rfl⟩
  have C1 := signedPS_any n xs a c W0 HX.out hl
  rw [← hr] at C1 ⊢
  have HC1 := Lib.hid C1
  clear hr C1
  go_enter Try.func34, Try.ntmps34
  go_upto_region 1 with (fail)
  rw [← hW]
  clear hW
  go_wp2_with fail
  refine HC1.out.mono ?_
  rintro e w2 ⟨l, rfl, hll, hlm, hb2⟩
  obtain ⟨k, m, fv⟩ := r
  simp only at hlm ⊢
  have B2 := B1.out.below hb2
  have BW2 := BW.out.trans (hb2.mono BW.out.size)
  have hlt := B2.lt
  have C3 := Lib.hid (Blk.new w2 (pic 0 zeros) 32)
  have B4 := Lib.hid ((B2.alloc (.cells (pic 0 zeros) 32)).rowOther (by omega : w.heap.size ≠ w2.heap.size) (pic m l))
  have C4 := Lib.hid (C3.out.row (pic m l))
  have BW4 := Lib.hid (Below.setRow (BW2.alloc BW2.size (.cells (pic 0 zeros) 32)) BW2.size (g := w2.heap.size) (pic m l))
  have HL := Lib.hid hll
  have HM := Lib.hid hlm
  clear B2 BW2 hlt hll hlm hb2
  go_wp2_with (first | (refine wpList_store_row rfl 32 (.tmp 6) (.tmp 12) rfl w2.heap.size (pic m l) rfl rfl 32 (pic 0 zeros) C3.out ?c1 ?c2 (pic_one m l) ?_; (case c1 => exact Try.sizeP HL.out); (case c2 => (rw [pic_size, pic_size, HL.out]; rfl))) | (refine wpList_load_row rfl 32 (.tmp 6) rfl w2.heap.size rfl 32 (pic m l) (0, 0) _ C4.out Try.underlying32 rfl (Try.sizeP HL.out) ?_))
  refine (plainP_any m l HL.out _).mono ?_
  rintro e w5 ⟨rfl, hb5⟩
  have hpl : (l.map pn).length = 64 := by rw [List.length_map]; exact HL.out
  have B5 := Lib.hid (B4.out.below hb5)
  have BW5 := Lib.hid (BW4.out.trans (hb5.mono BW4.out.size))
  clear hb5
  go_wp2_with (refine wpList_store_row rfl 32 (.tmp 4) (.tmp 15) rfl w.heap.size (pic m (l.map pn)) rfl rfl 32 (pic 0 zeros) B5.out ?c1 ?c2 (pic_one m _) ?_; (case c1 => exact Try.sizeP hpl); (case c2 => (rw [pic_size, pic_size, hpl]; rfl)))
  refine bodyPost_ret (v := .tuple #[.agg (pic m (l.map pn)), .int .i64 k]) (results_cell_row2 Try.results34 _ _ w.heap.size 32 (pic m (l.map pn)) (0, 0) _ _ rfl rfl (B5.out.row _) Try.underlying32 rfl (Try.sizeP hpl)) rfl ?_
  exact ⟨l.map pn, rfl, hpl, by rw [map_ab_pn, HM.out]; rfl, Below.setRow BW5.out (Nat.le_refl _) _⟩

set_option maxRecDepth 10000 in
set_option maxHeartbeats 2000000 in
theorem specPS_any (n : Int) (xs : List Nat) (a : Option Addr) (c : Nat) (w : World) (hx : RdF w a xs) (hl : xs.length ≤ 4611686018427387903) :
    Calls Try.prog 33 #[.int .i64 n, .slice a xs.length c] w (PicPost (plusR (psRes n xs)) w) := by
  have hz := (zero_of_info Try.infoP).1
  obtain ⟨W0, hW⟩ : ∃ W0, W0 = w.alloc (.cells (pic 0 zeros) 32) := ⟨_, rfl⟩
  have hb0 : Below w.heap.size w W0 := by rw [hW]; exact (Below.refl _ _).alloc (Nat.le_refl _) _
  have b1 : Blk W0 w.heap.size (pic 0 zeros) 32 := by rw [hW]; exact Blk.new w _ _
  have HX := Lib.hid (hx.below hb0)
  have B1 := Lib.hid b1
  have BW := Lib.hid hb0
  clear b1 hb0 hx
  obtain ⟨r, hr⟩ : ∃ r, r = psRes n xs := ⟨_, rfl⟩
  have C1 := l10RawPS_any n xs a c W0 HX.out hl
  rw [← hr] at C1 ⊢
  have HC1 := Lib.hid C1
  clear hr C1
  go_enter Try.func33, Try.ntmps33
  go_upto_region 1 with (fail)
  rw [← hW]
  clear hW
  go_wp2_with fail
  refine HC1.out.mono ?_
  rintro e w2 ⟨l, rfl, hll, hlm, hb2⟩
  obtain ⟨k, m, fv⟩ := r
  simp only at hlm ⊢
  have B2 := B1.out.below hb2
  have BW2 := BW.out.trans (hb2.mono BW.out.size)
  have hlt := B2.lt
  have C3 := Lib.hid (Blk.new w2 (pic 0 zeros) 32)
  have B4 := Lib.hid ((B2.alloc (.cells (pic 0 zeros) 32)).rowOther (by omega : w.heap.size ≠ w2.heap.size) (pic m l))
  have C4 := Lib.hid (C3.out.row (pic m l))
  have BW4 := Lib.hid (Below.setRow (BW2.alloc BW2.size (.cells (pic 0 zeros) 32)) BW2.size (g := w2.heap.size) (pic m l))
  have HL := Lib.hid hll
  have HM := Lib.hid hlm
  clear B2 BW2 hlt hll hlm hb2
  go_wp2_with (first | (refine wpList_store_row rfl 32 (.tmp 6) (.tmp 12) rfl w2.heap.size (pic m l) rfl rfl 32 (pic 0 zeros) C3.out ?c1 ?c2 (pic_one m l) ?_; (case c1 => exact Try.sizeP HL.out); (case c2 => (rw [pic_size, pic_size, HL.out]; rfl))) | (refine wpList_load_row rfl 32 (.tmp 6) rfl w2.heap.size rfl 32 (pic m l) (0, 0) _ C4.out Try.underlying32 rfl (Try.sizeP HL.out) ?_))
  refine (plusP_any m l HL.out _).mono ?_
  rintro e w5 ⟨rfl, hb5⟩
  have hpl : (l.map pn).length = 64 := by rw [List.length_map]; exact HL.out
  have B5 := Lib.hid (B4.out.below hb5)
  have BW5 := Lib.hid (BW4.out.trans (hb5.mono BW4.out.size))
  clear hb5
  go_wp2_with (refine wpList_store_row rfl 32 (.tmp 4) (.tmp 15) rfl w.heap.size (pic m (l.map pn)) rfl rfl 32 (pic 0 zeros) B5.out ?c1 ?c2 (pic_one m _) ?_; (case c1 => exact Try.sizeP hpl); (case c2 => (rw [pic_size, pic_size, hpl]; rfl)))
  refine bodyPost_ret (v := .tuple #[.agg (pic m (l.map pn)), .int .i64 k]) (results_cell_row2 Try.results33 _ _ w.heap.size 32 (pic m (l.map pn)) (0, 0) _ _ rfl rfl (B5.out.row _) Try.underlying32 rfl (Try.sizeP hpl)) rfl ?_
  exact ⟨l.map pn, rfl, hpl, by rw [map_ab_pn, HM.out]; rfl, Below.setRow BW5.out (Nat.le_refl _) _⟩

set_option maxRecDepth 10000 in
set_option maxHeartbeats 4000000 in
theorem law_PictureOfSums (n : Int) (xs : List Nat) (a : Option Addr) (c : Nat) (w : World) (hx : RdF w a xs) :
    Calls Try.prog 10 #[.int .i64 n, .slice a xs.length c] w fun e w' => e = .returned (.bool true) ∧ Below w.heap.size w w' := by
  have hz := (zero_of_info Try.infoP).1
  have HX := Lib.hid hx; clear hx
  by_cases hbig0 : 1048576 < xs.length
  · go_enter Try.func10, Try.ntmps10
    go_wp2
    go_ret
    exact ⟨rfl, Below.refl _ _⟩
  have hl : xs.length * 4 ≤ 140737488351232 := by omega
  have hl2 : xs.length ≤ 4611686018427387903 := by omega
  have hl3 : xs.length ≤ 9223372036854775807 := by omega
  obtain ⟨r, hr⟩ : ∃ r, r = plusR (psRes n xs) := ⟨_, rfl⟩
  have CI := fun a c w (h : RdF w a xs) => implPS_any n xs a c w h hl2
  have CS := fun a c w (h : RdF w a xs) => specPS_any n xs a c w h hl2
  rw [← hr] at CI CS
  have HCI := Lib.hid CI; have HCS := Lib.hid CS; clear hr CI CS
  obtain ⟨k, m, fv⟩ := r
  go_enter Try.func10, Try.ntmps10
  go_wp2_with fail
  refine (toF_own xs a c w HX.out hl).mono ?_
  rintro e w1 ⟨v1, rfl, o1, b1⟩
  obtain ⟨a1, c1, rfl⟩ := o1.slice
  have O1 := Lib.hid o1.rd.2
  have HB1 := Lib.hid b1
  clear o1 b1
  go_wp2_with fail
  refine (HCS.out a1 c1 w1 O1.out).mono ?_
  rintro e w2 ⟨l2, rfl, hll2, hlm2, hb2⟩
  simp only at hlm2 ⊢
  have HB2 := HB1.out.trans (hb2.mono HB1.out.size)
  have C3 := Lib.hid (Blk.new w2 (pic 0 zeros) 32)
  have C4 := Lib.hid (C3.out.row (pic m l2))
  have HB4 := Lib.hid (Below.setRow (HB2.alloc HB2.size (.cells (pic 0 zeros) 32)) HB2.size (g := w2.heap.size) (pic m l2))
  have HL2 := Lib.hid hll2
  have HM2 := Lib.hid hlm2
  clear HB2 hb2 hll2 hlm2 O1 HB1
  go_wp2_with (refine wpList_store_row rfl 32 (.tmp 5) (.tmp 18) rfl w2.heap.size (pic m l2) rfl rfl 32 (pic 0 zeros) C3.out ?c1 ?c2 (pic_one m l2) ?_; (case c1 => exact Try.sizeP HL2.out); (case c2 => (rw [pic_size, pic_size, HL2.out]; rfl)))
  refine (toF_own xs a c _ (HX.out.below HB4.out) hl).mono ?_
  rintro e w5 ⟨v2, rfl, o2, b2⟩
  obtain ⟨a2, c2, rfl⟩ := o2.slice
  have C5 := Lib.hid (C4.out.below b2)
  have HB5 := Lib.hid (HB4.out.trans (b2.mono HB4.out.size))
  have O2 := Lib.hid o2
  clear o2 b2 C3 C4 HB4
  go_wp2_with fail
  refine (HCI.out a2 c2 w5 O2.out.rd.2).mono ?_
  rintro e w6 ⟨l6, rfl, hll6, hlm6, hb6⟩
  simp only at hlm6 ⊢
  have C6 := C5.out.below hb6
  have hlt := C6.lt
  have O6 := O2.out.grownBelow hb6
  have HB6 := HB5.out.trans (hb6.mono HB5.out.size)
  have D6 := Lib.hid (Blk.new w6 (pic 0 zeros) 32)
  have D7 := Lib.hid (D6.out.row (pic m l6))
  have C7 := Lib.hid ((C6.alloc (.cells (pic 0 zeros) 32)).rowOther (by omega : w2.heap.size ≠ w6.heap.size) (pic m l6))
  have hb7 : Below w6.heap.size w6 ((w6.alloc (.cells (pic 0 zeros) 32)).setRow w6.heap.size (pic m l6)) := Below.setRow ((Below.refl _ _).alloc (Nat.le_refl _) _) (Nat.le_refl _) _
  have HB7 := Lib.hid (HB6.trans (hb7.mono HB6.size))
  have O7 := Lib.hid (O6.grownBelow hb7)
  have HL6 := Lib.hid hll6
  have HM6 := Lib.hid hlm6
  clear hll6 hlm6 hb6 hb7 HB6 C6 O6 hlt C5 HB5 O2
  go_wp2_with (first | (refine wpList_store_row rfl 32 (.tmp 8) (.tmp 26) rfl w6.heap.size (pic m l6) rfl rfl 32 (pic 0 zeros) D6.out ?c1 ?c2 (pic_one m l6) ?_; (case c1 => exact Try.sizeP HL6.out); (case c2 => (rw [pic_size, pic_size, HL6.out]; rfl))) | (refine wpList_load_row rfl 32 (.tmp 8) rfl w6.heap.size rfl 32 (pic m l6) (0, 0) _ D7.out Try.underlying32 rfl (Try.sizeP HL6.out) ?_) | (refine wpList_load_row rfl 32 (.tmp 5) rfl w2.heap.size rfl 32 (pic m l2) (0, 0) _ C7.out Try.underlying32 rfl (Try.sizeP HL2.out) ?_))
  refine (eqP_eq m l6 l2 HL6.out HL2.out (by rw [HM6.out, HM2.out]) _).mono ?_
  rintro e w8 ⟨rfl, hb8⟩
  have HB8 := Lib.hid (HB7.out.trans (hb8.mono HB7.out.size))
  have O8 := Lib.hid (O7.out.grownBelow hb8)
  clear hb8
  go_wp2_with fail
  refine (toF_own xs a c _ (HX.out.below HB8.out) hl).mono ?_
  rintro e w9 ⟨v9, rfl, o9, b9⟩
  have O9 := Lib.hid o9
  have O10 := Lib.hid (O8.out.grownBelow b9)
  have HB9 := Lib.hid (HB8.out.trans (b9.mono HB8.out.size))
  clear o9 b9
  go_wp2_with fail
  refine (eq_own xs xs _ v9 _ _ w9 O10.out O9.out rfl).mono ?_
  rintro e w10 ⟨rfl, nn, rfl⟩
  go_wp2
  go_ret
  exact ⟨rfl, below_drewN' HB9.out _⟩
end Go.Proofs.Ytphbjfijipcpnaa
