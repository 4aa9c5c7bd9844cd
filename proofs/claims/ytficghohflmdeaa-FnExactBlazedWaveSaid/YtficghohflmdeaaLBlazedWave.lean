/- BlazedWave: the law. -/
import Derived.Test.YtficghohflmdeaaWBlz3
namespace Go.Proofs.Ytficghohflmdeaa
open Go.RowKit
set_option linter.unusedVariables false

set_option maxRecDepth 10000 in
set_option maxHeartbeats 2000000 in
theorem implBlazedWave_any (n p k : Int) (w : World) :
    Calls Try.prog 16 #[.int .i64 n, .int .i64 p, .int .i64 k] w (WavPost (wRes (okBlz n p k) 2 n (fun i => phaseP (fBlz n p k i))) w) := by
  have hz := (zero_of_info Try.infoW).1
  obtain ⟨W0, hW⟩ : ∃ W0, W0 = w.alloc (.cells (wav 0 zerosC) 29) := ⟨_, rfl⟩
  have hb0 : Below w.heap.size w W0 := by rw [hW]; exact (Below.refl _ _).alloc (Nat.le_refl _) _
  have b1 : Blk W0 w.heap.size (wav 0 zerosC) 29 := by rw [hW]; exact Blk.new w _ _
  have B1 := Lib.hid b1
  have BW := Lib.hid hb0
  clear b1 hb0
  have hr0 : plusR (wRes (okBlz n p k) 2 n (fun i => phaseP (fBlz n p k i))) = wRes (okBlz n p k) 2 n (fun i => phaseP (fBlz n p k i)) := by
    rw [plusR_wRes]; simp only [pn2_phase]
  have hlen : (wRes (okBlz n p k) 2 n (fun i => phaseP (fBlz n p k i))).2.2.length = 64 := wRes_length (by intro h; simp only [okBlz, Bool.and_eq_true] at h; first | exact h.1.1.1 | exact h.1.1 | exact h.1) _ _
  rw [← hr0]
  obtain ⟨r, hr⟩ : ∃ r, r = wRes (okBlz n p k) 2 n (fun i => phaseP (fBlz n p k i)) := ⟨_, rfl⟩
  have C1 := signedBlazedWave_any n p k W0
  rw [← hr] at C1 hlen ⊢
  have HC1 := Lib.hid C1
  have HL := Lib.hid hlen
  clear hr C1 hr0 hlen
  obtain ⟨k0, m, l⟩ := r
  go_enter Try.func16, Try.ntmps16
  go_upto_region 1 with (fail)
  rw [← hW]
  clear hW
  go_wp2_with fail
  refine HC1.out.mono ?_
  rintro e w2 ⟨rfl, hb2⟩
  simp only at ⊢
  have hl : l.length = 64 := HL.out
  have B2 := B1.out.below hb2
  have BW2 := BW.out.trans (hb2.mono BW.out.size)
  have hlt := B2.lt
  have C3 := Lib.hid (Blk.new w2 (wav 0 zerosC) 29)
  have B4 := Lib.hid ((B2.alloc (.cells (wav 0 zerosC) 29)).rowOther (by omega : w.heap.size ≠ w2.heap.size) (wav m l))
  have C4 := Lib.hid (C3.out.row (wav m l))
  have BW4 := Lib.hid (Below.setRow (BW2.alloc BW2.size (.cells (wav 0 zerosC) 29)) BW2.size (g := w2.heap.size) (wav m l))
  clear B2 BW2 hlt hb2
  go_wp2_with (first | (refine wpList_store_row rfl 29 (.tmp 8) (.tmp 15) rfl w2.heap.size (wav m l) rfl rfl 29 (wav 0 zerosC) C3.out ?c1 ?c2 (wav_one m l) ?_; (case c1 => exact Try.sizeW hl); (case c2 => (rw [wav_size, wav_size, hl]; rfl))) | (refine wpList_load_row rfl 29 (.tmp 8) rfl w2.heap.size rfl 29 (wav m l) (0, 0) _ C4.out Try.underlying29 rfl (Try.sizeW hl) ?_))
  refine (plainW_any m l hl _).mono ?_
  rintro e w5 ⟨rfl, hb5⟩
  have hpl : (l.map pn2).length = 64 := by rw [List.length_map]; exact hl
  have B5 := Lib.hid (B4.out.below hb5)
  have BW5 := Lib.hid (BW4.out.trans (hb5.mono BW4.out.size))
  clear hb5
  go_wp2_with (refine wpList_store_row rfl 29 (.tmp 6) (.tmp 18) rfl w.heap.size (wav m (l.map pn2)) rfl rfl 29 (wav 0 zerosC) B5.out ?c1 ?c2 (wav_one m _) ?_; (case c1 => exact Try.sizeW hpl); (case c2 => (rw [wav_size, wav_size, hpl]; rfl)))
  refine bodyPost_ret (v := .tuple #[.agg (wav m (l.map pn2)), .int .i64 k0]) (results_cell_row2 Try.results16 _ _ w.heap.size 29 (wav m (l.map pn2)) (0, 0) _ _ rfl rfl (B5.out.row _) Try.underlying29 rfl (Try.sizeW hpl)) rfl ?_
  exact ⟨rfl, Below.setRow BW5.out (Nat.le_refl _) _⟩

set_option maxRecDepth 10000 in
set_option maxHeartbeats 2000000 in
theorem specBlazedWave_any (n p k : Int) (w : World) :
    Calls Try.prog 15 #[.int .i64 n, .int .i64 p, .int .i64 k] w (WavPost (wRes (okBlz n p k) 2 n (fun i => phaseP (fBlz n p k i))) w) := by
  have hz := (zero_of_info Try.infoW).1
  obtain ⟨W0, hW⟩ : ∃ W0, W0 = w.alloc (.cells (wav 0 zerosC) 29) := ⟨_, rfl⟩
  have hb0 : Below w.heap.size w W0 := by rw [hW]; exact (Below.refl _ _).alloc (Nat.le_refl _) _
  have b1 : Blk W0 w.heap.size (wav 0 zerosC) 29 := by rw [hW]; exact Blk.new w _ _
  have B1 := Lib.hid b1
  have BW := Lib.hid hb0
  clear b1 hb0
  have hr0 : plusR (wRes (okBlz n p k) 2 n (fun i => rawP (fBlz n p k i))) = wRes (okBlz n p k) 2 n (fun i => phaseP (fBlz n p k i)) := by
    rw [plusR_wRes]; rfl
  have hlen : (wRes (okBlz n p k) 2 n (fun i => rawP (fBlz n p k i))).2.2.length = 64 := wRes_length (by intro h; simp only [okBlz, Bool.and_eq_true] at h; first | exact h.1.1.1 | exact h.1.1 | exact h.1) _ _
  rw [← hr0]
  obtain ⟨r, hr⟩ : ∃ r, r = wRes (okBlz n p k) 2 n (fun i => rawP (fBlz n p k i)) := ⟨_, rfl⟩
  have C1 := rawBlazedWave_any n p k W0
  rw [← hr] at C1 hlen ⊢
  have HC1 := Lib.hid C1
  have HL := Lib.hid hlen
  clear hr C1 hr0 hlen
  obtain ⟨k0, m, l⟩ := r
  go_enter Try.func15, Try.ntmps15
  go_upto_region 1 with (fail)
  rw [← hW]
  clear hW
  go_wp2_with fail
  refine HC1.out.mono ?_
  rintro e w2 ⟨rfl, hb2⟩
  simp only at ⊢
  have hl : l.length = 64 := HL.out
  have B2 := B1.out.below hb2
  have BW2 := BW.out.trans (hb2.mono BW.out.size)
  have hlt := B2.lt
  have C3 := Lib.hid (Blk.new w2 (wav 0 zerosC) 29)
  have B4 := Lib.hid ((B2.alloc (.cells (wav 0 zerosC) 29)).rowOther (by omega : w.heap.size ≠ w2.heap.size) (wav m l))
  have C4 := Lib.hid (C3.out.row (wav m l))
  have BW4 := Lib.hid (Below.setRow (BW2.alloc BW2.size (.cells (wav 0 zerosC) 29)) BW2.size (g := w2.heap.size) (wav m l))
  clear B2 BW2 hlt hb2
  go_wp2_with (first | (refine wpList_store_row rfl 29 (.tmp 8) (.tmp 15) rfl w2.heap.size (wav m l) rfl rfl 29 (wav 0 zerosC) C3.out ?c1 ?c2 (wav_one m l) ?_; (case c1 => exact Try.sizeW hl); (case c2 => (rw [wav_size, wav_size, hl]; rfl))) | (refine wpList_load_row rfl 29 (.tmp 8) rfl w2.heap.size rfl 29 (wav m l) (0, 0) _ C4.out Try.underlying29 rfl (Try.sizeW hl) ?_))
  refine (plusW_any m l hl _).mono ?_
  rintro e w5 ⟨rfl, hb5⟩
  have hpl : (l.map pn2).length = 64 := by rw [List.length_map]; exact hl
  have B5 := Lib.hid (B4.out.below hb5)
  have BW5 := Lib.hid (BW4.out.trans (hb5.mono BW4.out.size))
  clear hb5
  go_wp2_with (refine wpList_store_row rfl 29 (.tmp 6) (.tmp 18) rfl w.heap.size (wav m (l.map pn2)) rfl rfl 29 (wav 0 zerosC) B5.out ?c1 ?c2 (wav_one m _) ?_; (case c1 => exact Try.sizeW hpl); (case c2 => (rw [wav_size, wav_size, hpl]; rfl)))
  refine bodyPost_ret (v := .tuple #[.agg (wav m (l.map pn2)), .int .i64 k0]) (results_cell_row2 Try.results15 _ _ w.heap.size 29 (wav m (l.map pn2)) (0, 0) _ _ rfl rfl (B5.out.row _) Try.underlying29 rfl (Try.sizeW hpl)) rfl ?_
  exact ⟨rfl, Below.setRow BW5.out (Nat.le_refl _) _⟩

set_option maxRecDepth 10000 in
set_option maxHeartbeats 4000000 in
theorem law_BlazedWave (n p k : Int) (w : World) :
    Calls Try.prog 4 #[.int .i64 n, .int .i64 p, .int .i64 k] w fun e w' => e = .returned (.bool true) ∧ Below w.heap.size w w' := by
  have hz := (zero_of_info Try.infoW).1
  have hlen : (wRes (okBlz n p k) 2 n (fun i => phaseP (fBlz n p k i))).2.2.length = 64 := wRes_length (by intro h; simp only [okBlz, Bool.and_eq_true] at h; first | exact h.1.1.1 | exact h.1.1 | exact h.1) _ _
  have hcan : canF64 (wRes (okBlz n p k) 2 n (fun i => phaseP (fBlz n p k i))).2.2 := canF64_wRes _ _ _ _
  obtain ⟨r, hr⟩ : ∃ r, r = wRes (okBlz n p k) 2 n (fun i => phaseP (fBlz n p k i)) := ⟨_, rfl⟩
  have CI := fun w => implBlazedWave_any n p k w
  have CS := fun w => specBlazedWave_any n p k w
  rw [← hr] at CI CS hlen hcan
  have HCI := Lib.hid CI; have HCS := Lib.hid CS; have HL := Lib.hid hlen; have HCAN := Lib.hid hcan
  clear hr CI CS hlen hcan
  obtain ⟨k0, m, l⟩ := r
  have hl : l.length = 64 := HL.out
  go_enter Try.func4, Try.ntmps4
  go_wp2_with fail
  refine (HCS.out w).mono ?_
  rintro e w2 ⟨rfl, hb2⟩
  simp only at ⊢
  have C3 := Lib.hid (Blk.new w2 (wav 0 zerosC) 29)
  have C4 := Lib.hid (C3.out.row (wav m l))
  have HB4 := Lib.hid (Below.setRow (hb2.alloc hb2.size (.cells (wav 0 zerosC) 29)) hb2.size (g := w2.heap.size) (wav m l))
  clear hb2
  go_wp2_with (refine wpList_store_row rfl 29 (.tmp 7) (.tmp 16) rfl w2.heap.size (wav m l) rfl rfl 29 (wav 0 zerosC) C3.out ?c1 ?c2 (wav_one m l) ?_; (case c1 => exact Try.sizeW hl); (case c2 => (rw [wav_size, wav_size, hl]; rfl)))
  refine (HCI.out _).mono ?_
  rintro e w6 ⟨rfl, hb6⟩
  simp only at ⊢
  have C6 := C4.out.below hb6
  have hlt := C6.lt
  have HB6 := HB4.out.trans (hb6.mono HB4.out.size)
  have D6 := Lib.hid (Blk.new w6 (wav 0 zerosC) 29)
  have D7 := Lib.hid (D6.out.row (wav m l))
  have C7 := Lib.hid ((C6.alloc (.cells (wav 0 zerosC) 29)).rowOther (by omega : w2.heap.size ≠ w6.heap.size) (wav m l))
  have HB7 := Lib.hid (Below.setRow (HB6.alloc HB6.size (.cells (wav 0 zerosC) 29)) HB6.size (g := w6.heap.size) (wav m l))
  clear hb6 HB6 C6 hlt C3 C4 HB4
  go_wp2_with (first | (refine wpList_store_row rfl 29 (.tmp 9) (.tmp 23) rfl w6.heap.size (wav m l) rfl rfl 29 (wav 0 zerosC) D6.out ?c1 ?c2 (wav_one m l) ?_; (case c1 => exact Try.sizeW hl); (case c2 => (rw [wav_size, wav_size, hl]; rfl))) | (refine wpList_load_row rfl 29 (.tmp 9) rfl w6.heap.size rfl 29 (wav m l) (0, 0) _ D7.out Try.underlying29 rfl (Try.sizeW hl) ?_) | (refine wpList_load_row rfl 29 (.tmp 7) rfl w2.heap.size rfl 29 (wav m l) (0, 0) _ C7.out Try.underlying29 rfl (Try.sizeW hl) ?_))
  refine (eqW_eq m l hl HCAN.out _).mono ?_
  rintro e w8 ⟨rfl, hb8⟩
  have HB8 := Lib.hid (HB7.out.trans (hb8.mono HB7.out.size))
  clear hb8
  go_wp2
  go_ret
  exact ⟨rfl, HB8.out⟩
end Go.Proofs.Ytficghohflmdeaa
