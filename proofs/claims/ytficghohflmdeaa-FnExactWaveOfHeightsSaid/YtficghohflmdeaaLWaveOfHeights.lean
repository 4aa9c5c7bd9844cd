/- WaveOfHeights: the law. -/
import Derived.Test.YtficghohflmdeaaWHgt2
namespace Go.Proofs.Ytficghohflmdeaa
open Go.RowKit
set_option linter.unusedVariables false

set_option maxRecDepth 10000 in
set_option maxHeartbeats 2000000 in
theorem implWaveOfHeights_any (n : Int) (bs : List Int) (a : Option Addr) (c : Nat) (w : World) (hrd : RdI w a bs) (hl0 : bs.length ≤ 9223372036854775807) :
    Calls Try.prog 26 #[.int .i64 n, .slice a bs.length c] w (WavPost (wRes (okHgt n bs) 1 n (fun i => phaseP (bs.getD i 0))) w) := by
  have hz := (zero_of_info Try.infoW).1
  obtain ⟨W0, hW⟩ : ∃ W0, W0 = w.alloc (.cells (wav 0 zerosC) 29) := ⟨_, rfl⟩
  have hb0 : Below w.heap.size w W0 := by rw [hW]; exact (Below.refl _ _).alloc (Nat.le_refl _) _
  have b1 : Blk W0 w.heap.size (wav 0 zerosC) 29 := by rw [hW]; exact Blk.new w _ _
  have B1 := Lib.hid b1
  have BW := Lib.hid hb0
  clear b1 hb0
  have hr0 : plusR (wRes (okHgt n bs) 1 n (fun i => phaseP (bs.getD i 0))) = wRes (okHgt n bs) 1 n (fun i => phaseP (bs.getD i 0)) := by
    rw [plusR_wRes]; simp only [pn2_phase]
  have hlen : (wRes (okHgt n bs) 1 n (fun i => phaseP (bs.getD i 0))).2.2.length = 64 := wRes_length (by intro h; simp only [okHgt, Bool.and_eq_true] at h; first | exact h.1.1.1 | exact h.1.1 | exact h.1) _ _
  rw [← hr0]
  obtain ⟨r, hr⟩ : ∃ r, r = wRes (okHgt n bs) 1 n (fun i => phaseP (bs.getD i 0)) := ⟨_, rfl⟩
  have C1 := signedWaveOfHeights_any n bs a c W0 (hrd.below BW.out) hl0
  rw [← hr] at C1 hlen ⊢
  have HC1 := Lib.hid C1
  have HL := Lib.hid hlen
  clear hr C1 hr0 hlen hrd
  obtain ⟨k0, m, l⟩ := r
  go_enter Try.func26, Try.ntmps26
  go_upto_region 1 with (fail)
  rw [← hW]
  clear hW
  go_wp2_with fail
  refine HC1.out.mono ?_
  rintro e w2 ⟨rfl, hb2⟩
  simp only at ⊢
  have hl : l.length = 64 := HL.out
  have B2 := B1.out.below hb2
  have BW2 := BW.out.trans (hb2.mono BW.out.size)
  have hlt := B2.lt
  have C3 := Lib.hid (Blk.new w2 (wav 0 zerosC) 29)
  have B4 := Lib.hid ((B2.alloc (.cells (wav 0 zerosC) 29)).rowOther (by omega : w.heap.size ≠ w2.heap.size) (wav m l))
  have C4 := Lib.hid (C3.out.row (wav m l))
  have BW4 := Lib.hid (Below.setRow (BW2.alloc BW2.size (.cells (wav 0 zerosC) 29)) BW2.size (g := w2.heap.size) (wav m l))
  clear B2 BW2 hlt hb2
  go_wp2_with (first | (refine wpList_store_row rfl 29 (.tmp 6) (.tmp 12) rfl w2.heap.size (wav m l) rfl rfl 29 (wav 0 zerosC) C3.out ?c1 ?c2 (wav_one m l) ?_; (case c1 => exact Try.sizeW hl); (case c2 => (rw [wav_size, wav_size, hl]; rfl))) | (refine wpList_load_row rfl 29 (.tmp 6) rfl w2.heap.size rfl 29 (wav m l) (0, 0) _ C4.out Try.underlying29 rfl (Try.sizeW hl) ?_))
  refine (plainW_any m l hl _).mono ?_
  rintro e w5 ⟨rfl, hb5⟩
  have hpl : (l.map pn2).length = 64 := by rw [List.length_map]; exact hl
  have B5 := Lib.hid (B4.out.below hb5)
  have BW5 := Lib.hid (BW4.out.trans (hb5.mono BW4.out.size))
  clear hb5
  go_wp2_with (refine wpList_store_row rfl 29 (.tmp 4) (.tmp 15) rfl w.heap.size (wav m (l.map pn2)) rfl rfl 29 (wav 0 zerosC) B5.out ?c1 ?c2 (wav_one m _) ?_; (case c1 => exact Try.sizeW hpl); (case c2 => (rw [wav_size, wav_size, hpl]; rfl)))
  refine bodyPost_ret (v := .tuple #[.agg (wav m (l.map pn2)), .int .i64 k0]) (results_cell_row2 Try.results26 _ _ w.heap.size 29 (wav m (l.map pn2)) (0, 0) _ _ rfl rfl (B5.out.row _) Try.underlying29 rfl (Try.sizeW hpl)) rfl ?_
  exact ⟨rfl, Below.setRow BW5.out (Nat.le_refl _) _⟩

set_option maxRecDepth 10000 in
set_option maxHeartbeats 2000000 in
theorem specWaveOfHeights_any (n : Int) (bs : List Int) (a : Option Addr) (c : Nat) (w : World) (hrd : RdI w a bs) (hl0 : bs.length ≤ 9223372036854775807) :
    Calls Try.prog 24 #[.int .i64 n, .slice a bs.length c] w (WavPost (wRes (okHgt n bs) 1 n (fun i => phaseP (bs.getD i 0))) w) := by
  have hz := (zero_of_info Try.infoW).1
  obtain ⟨W0, hW⟩ : ∃ W0, W0 = w.alloc (.cells (wav 0 zerosC) 29) := ⟨_, rfl⟩
  have hb0 : Below w.heap.size w W0 := by rw [hW]; exact (Below.refl _ _).alloc (Nat.le_refl _) _
  have b1 : Blk W0 w.heap.size (wav 0 zerosC) 29 := by rw [hW]; exact Blk.new w _ _
  have B1 := Lib.hid b1
  have BW := Lib.hid hb0
  clear b1 hb0
  have hr0 : plusR (wRes (okHgt n bs) 1 n (fun i => rawP (bs.getD i 0))) = wRes (okHgt n bs) 1 n (fun i => phaseP (bs.getD i 0)) := by
    rw [plusR_wRes]; rfl
  have hlen : (wRes (okHgt n bs) 1 n (fun i => rawP (bs.getD i 0))).2.2.length = 64 := wRes_length (by intro h; simp only [okHgt, Bool.and_eq_true] at h; first | exact h.1.1.1 | exact h.1.1 | exact h.1) _ _
  rw [← hr0]
  obtain ⟨r, hr⟩ : ∃ r, r = wRes (okHgt n bs) 1 n (fun i => rawP (bs.getD i 0)) := ⟨_, rfl⟩
  have C1 := rawWaveOfHeights_any n bs a c W0 (hrd.below BW.out) hl0
  rw [← hr] at C1 hlen ⊢
  have HC1 := Lib.hid C1
  have HL := Lib.hid hlen
  clear hr C1 hr0 hlen hrd
  obtain ⟨k0, m, l⟩ := r
  go_enter Try.func24, Try.ntmps24
  go_upto_region 1 with (fail)
  rw [← hW]
  clear hW
  go_wp2_with fail
  refine HC1.out.mono ?_
  rintro e w2 ⟨rfl, hb2⟩
  simp only at ⊢
  have hl : l.length = 64 := HL.out
  have B2 := B1.out.below hb2
  have BW2 := BW.out.trans (hb2.mono BW.out.size)
  have hlt := B2.lt
  have C3 := Lib.hid (Blk.new w2 (wav 0 zerosC) 29)
  have B4 := Lib.hid ((B2.alloc (.cells (wav 0 zerosC) 29)).rowOther (by omega : w.heap.size ≠ w2.heap.size) (wav m l))
  have C4 := Lib.hid (C3.out.row (wav m l))
  have BW4 := Lib.hid (Below.setRow (BW2.alloc BW2.size (.cells (wav 0 zerosC) 29)) BW2.size (g := w2.heap.size) (wav m l))
  clear B2 BW2 hlt hb2
  go_wp2_with (first | (refine wpList_store_row rfl 29 (.tmp 6) (.tmp 12) rfl w2.heap.size (wav m l) rfl rfl 29 (wav 0 zerosC) C3.out ?c1 ?c2 (wav_one m l) ?_; (case c1 => exact Try.sizeW hl); (case c2 => (rw [wav_size, wav_size, hl]; rfl))) | (refine wpList_load_row rfl 29 (.tmp 6) rfl w2.heap.size rfl 29 (wav m l) (0, 0) _ C4.out Try.underlying29 rfl (Try.sizeW hl) ?_))
  refine (plusW_any m l hl _).mono ?_
  rintro e w5 ⟨rfl, hb5⟩
  have hpl : (l.map pn2).length = 64 := by rw [List.length_map]; exact hl
  have B5 := Lib.hid (B4.out.below hb5)
  have BW5 := Lib.hid (BW4.out.trans (hb5.mono BW4.out.size))
  clear hb5
  go_wp2_with (refine wpList_store_row rfl 29 (.tmp 4) (.tmp 15) rfl w.heap.size (wav m (l.map pn2)) rfl rfl 29 (wav 0 zerosC) B5.out ?c1 ?c2 (wav_one m _) ?_; (case c1 => exact Try.sizeW hpl); (case c2 => (rw [wav_size, wav_size, hpl]; rfl)))
  refine bodyPost_ret (v := .tuple #[.agg (wav m (l.map pn2)), .int .i64 k0]) (results_cell_row2 Try.results24 _ _ w.heap.size 29 (wav m (l.map pn2)) (0, 0) _ _ rfl rfl (B5.out.row _) Try.underlying29 rfl (Try.sizeW hpl)) rfl ?_
  exact ⟨rfl, Below.setRow BW5.out (Nat.le_refl _) _⟩

set_option maxRecDepth 10000 in
set_option maxHeartbeats 4000000 in
theorem law_WaveOfHeights (n : Int) (bs : List Int) (a : Option Addr) (c : Nat) (w : World) (hrd : RdI w a bs) :
    Calls Try.prog 8 #[.int .i64 n, .slice a bs.length c] w fun e w' => e = .returned (.bool true) ∧ Below w.heap.size w w' := by
  have hz := (zero_of_info Try.infoW).1
  have HX := Lib.hid hrd; clear hrd
  by_cases hbig0 : 1048576 < bs.length
  · go_enter Try.func8, Try.ntmps8
    go_wp2
    go_ret
    exact ⟨rfl, Below.refl _ _⟩
  have hll : bs.length * 8 ≤ 140737488351232 := by omega
  have hl3 : bs.length ≤ 9223372036854775807 := by omega
  have hlen : (wRes (okHgt n bs) 1 n (fun i => phaseP (bs.getD i 0))).2.2.length = 64 := wRes_length (by intro h; simp only [okHgt, Bool.and_eq_true] at h; exact h.1) _ _
  have hcan : canF64 (wRes (okHgt n bs) 1 n (fun i => phaseP (bs.getD i 0))).2.2 := canF64_wRes _ _ _ _
  obtain ⟨r, hr⟩ : ∃ r, r = wRes (okHgt n bs) 1 n (fun i => phaseP (bs.getD i 0)) := ⟨_, rfl⟩
  have CI := fun a c w (h : RdI w a bs) => implWaveOfHeights_any n bs a c w h hl3
  have CS := fun a c w (h : RdI w a bs) => specWaveOfHeights_any n bs a c w h hl3
  rw [← hr] at CI CS hlen hcan
  have HCI := Lib.hid CI; have HCS := Lib.hid CS; have HL := Lib.hid hlen; have HCAN := Lib.hid hcan
  clear hr CI CS hlen hcan
  obtain ⟨k0, m, l⟩ := r
  have hl : l.length = 64 := HL.out
  go_enter Try.func8, Try.ntmps8
  go_wp2_with fail
  refine (toI_any bs a c w HX.out hll).mono ?_
  rintro e w1 ⟨rfl, o1, b1⟩
  have O1 := Lib.hid o1.rd.2
  have HB1 := Lib.hid b1
  clear o1 b1
  go_wp2_with fail
  refine (HCS.out _ _ w1 O1.out).mono ?_
  rintro e w2 ⟨rfl, hb2⟩
  simp only at ⊢
  have HB2 := HB1.out.trans (hb2.mono HB1.out.size)
  have C3 := Lib.hid (Blk.new w2 (wav 0 zerosC) 29)
  have C4 := Lib.hid (C3.out.row (wav m l))
  have HB4 := Lib.hid (Below.setRow (HB2.alloc HB2.size (.cells (wav 0 zerosC) 29)) HB2.size (g := w2.heap.size) (wav m l))
  clear HB2 hb2 O1 HB1
  go_wp2_with (refine wpList_store_row rfl 29 (.tmp 5) (.tmp 18) rfl w2.heap.size (wav m l) rfl rfl 29 (wav 0 zerosC) C3.out ?c1 ?c2 (wav_one m l) ?_; (case c1 => exact Try.sizeW hl); (case c2 => (rw [wav_size, wav_size, hl]; rfl)))
  refine (toI_any bs a c _ (HX.out.below HB4.out) hll).mono ?_
  rintro e w5 ⟨rfl, o2, b2⟩
  obtain ⟨g5, hg5⟩ : ∃ g5, g5 = ((w2.alloc (.cells (wav 0 zerosC) 29)).setRow w2.heap.size (wav m l)).heap.size := ⟨_, rfl⟩
  rw [← hg5] at o2 ⊢
  have C5 := Lib.hid (C4.out.below b2)
  have HB5 := Lib.hid (HB4.out.trans (b2.mono HB4.out.size))
  have O2 := Lib.hid o2.rd.2
  clear o2 b2 C3 C4 HB4 hg5
  go_wp2_with fail
  refine (HCI.out _ _ w5 O2.out).mono ?_
  rintro e w6 ⟨rfl, hb6⟩
  simp only at ⊢
  have C6 := C5.out.below hb6
  have hlt := C6.lt
  have HB6 := HB5.out.trans (hb6.mono HB5.out.size)
  have D6 := Lib.hid (Blk.new w6 (wav 0 zerosC) 29)
  have D7 := Lib.hid (D6.out.row (wav m l))
  have C7 := Lib.hid ((C6.alloc (.cells (wav 0 zerosC) 29)).rowOther (by omega : w2.heap.size ≠ w6.heap.size) (wav m l))
  have hb7 : Below w6.heap.size w6 ((w6.alloc (.cells (wav 0 zerosC) 29)).setRow w6.heap.size (wav m l)) := Below.setRow ((Below.refl _ _).alloc (Nat.le_refl _) _) (Nat.le_refl _) _
  have HB7 := Lib.hid (HB6.trans (hb7.mono HB6.size))
  have O7 := Lib.hid ((O2.out.below hb6).below hb7)
  clear hb6 hb7 HB6 C6 hlt C5 HB5 O2
  go_wp2_with (first | (refine wpList_store_row rfl 29 (.tmp 8) (.tmp 26) rfl w6.heap.size (wav m l) rfl rfl 29 (wav 0 zerosC) D6.out ?c1 ?c2 (wav_one m l) ?_; (case c1 => exact Try.sizeW hl); (case c2 => (rw [wav_size, wav_size, hl]; rfl))) | (refine wpList_load_row rfl 29 (.tmp 8) rfl w6.heap.size rfl 29 (wav m l) (0, 0) _ D7.out Try.underlying29 rfl (Try.sizeW hl) ?_) | (refine wpList_load_row rfl 29 (.tmp 5) rfl w2.heap.size rfl 29 (wav m l) (0, 0) _ C7.out Try.underlying29 rfl (Try.sizeW hl) ?_))
  refine (eqW_eq m l hl HCAN.out _).mono ?_
  rintro e w8 ⟨rfl, hb8⟩
  have HB8 := Lib.hid (HB7.out.trans (hb8.mono HB7.out.size))
  have O8 := Lib.hid (O7.out.below hb8)
  clear hb8
  go_wp2_with fail
  refine (toI_any bs a c _ (HX.out.below HB8.out) hll).mono ?_
  rintro e w9 ⟨rfl, o9, b9⟩
  have O9 := Lib.hid o9.rd.2
  have O10 := Lib.hid (O8.out.below b9)
  have HB9 := Lib.hid (HB8.out.trans (b9.mono HB8.out.size))
  clear o9 b9
  go_wp2_with fail
  refine (eqI_any bs _ _ _ _ w9 O10.out O9.out hl3).mono ?_
  rintro e w10 ⟨rfl, nn, rfl⟩
  go_wp2
  go_ret
  exact ⟨rfl, below_drewN' HB9.out _⟩
end Go.Proofs.Ytficghohflmdeaa
