/- PlaneWave: the program's side. -/
import Derived.Test.YtficghohflmdeaaWPln
namespace Go.Proofs.Ytficghohflmdeaa
open Go.RowKit
set_option linter.unusedVariables false

set_option maxRecDepth 10000 in
set_option maxHeartbeats 2000000 in
theorem planeWave_any (nn : Nat) (u v : Int) (w : World) (hn1 : 1 ≤ nn) (hn2 : nn ≤ 8) (hsd : isSd nn = true) (hu : -64 ≤ u ∧ u ≤ 64) (hv : -64 ≤ v ∧ v ≤ 64) :
    Calls Try.prog 96 #[.int .i64 nn, .int .i64 u, .int .i64 v] w fun e w' => e = .returned (.agg (wav nn (fillL (nn * nn) (fun i => phaseP (fPln nn u v i))))) ∧ Below w.heap.size w w' := by
  have hz := (zero_of_info Try.infoW).1
  obtain ⟨W0, hW⟩ : ∃ W0, W0 = ((((w.alloc (.cells #[.int .i64 nn] 2)).alloc (.cells #[.int .i64 u] 2)).alloc (.cells #[.int .i64 v] 2)).alloc (.cells (wav 0 zerosC) 29)) := ⟨_, rfl⟩
  have hb0 : Below w.heap.size w W0 := by rw [hW]; exact (((((Below.refl _ _).alloc (Nat.le_refl _) _).alloc (by simp) _).alloc (by simp; omega) _).alloc (by simp; omega) _)
  have h3 := blk4 w (.cells #[.int .i64 nn] 2) (.cells #[.int .i64 u] 2) (.cells #[.int .i64 v] 2) (.cells (wav 0 zerosC) 29)
  rw [← hW] at h3
  have b0 : Blk W0 (w.heap.size) #[.int .i64 nn] 2 := h3.1
  have c0 : W0.cell? ⟨w.heap.size, 0, none⟩ = some (.int .i64 nn) := by rw [b0.cell]; rfl
  have b1 : Blk W0 (w.heap.size + 1) #[.int .i64 u] 2 := h3.2.1
  have c1 : W0.cell? ⟨w.heap.size + 1, 0, none⟩ = some (.int .i64 u) := by rw [b1.cell]; rfl
  have b2 : Blk W0 (w.heap.size + 1 + 1) #[.int .i64 v] 2 := h3.2.2.1
  have c2 : W0.cell? ⟨w.heap.size + 1 + 1, 0, none⟩ = some (.int .i64 v) := by rw [b2.cell]; rfl
  have b3 : Blk W0 (w.heap.size + 1 + 1 + 1) (wav 0 zerosC) 29 := h3.2.2.2
  have BR := Lib.hid b3
  have BW := Lib.hid hb0
  clear hb0 b0 b1 b2 b3 h3
  go_enter Try.func96, Try.ntmps96
  go_upto_region 1 with (fail)
  rw [← hW]
  clear hW
  go_wp2_with fail
  refine (waveBy_pln #[.pointer (some ⟨w.heap.size + 1, 0, none⟩), .pointer (some ⟨w.heap.size + 1 + 1, 0, none⟩), .pointer (some ⟨w.heap.size, 0, none⟩)] nn hn1 hn2 (fun i => phaseP (fPln nn u v i)) W0 ?hf).mono ?_
  case hf =>
    intro i wr hi hb
    have hi2 : (i : Int) % nn < nn := Int.emod_lt_of_pos _ (by omega)
    have hi3 : 0 ≤ (i : Int) % nn := Int.emod_nonneg _ (by omega)
    have hi4 : 0 ≤ (i : Int) / nn := Int.ediv_nonneg (by omega) (by omega)
    have hi5 : (i : Int) / nn < nn := by
      apply Int.ediv_lt_of_lt_mul (by omega)
      rw [← Int.natCast_mul]; omega
    refine (plnCl_any nn u v ((i : Int) / nn) ((i : Int) % nn) i (w.heap.size + 1) (w.heap.size + 1 + 1) w.heap.size wr hn1 hn2 hsd hu hv (by omega) (by omega) ?_ ?_ ?_).mono ?_
    · rw [hb.cell (by exact block_lt_of_cell c1)]; exact c1
    · rw [hb.cell (by exact block_lt_of_cell c2)]; exact c2
    · rw [hb.cell (by exact block_lt_of_cell c0)]; exact c0
    · rintro e w' ⟨rfl, hb⟩; exact ⟨rfl, hb⟩
  rintro e w2 ⟨rfl, hb2⟩
  have B2 := Lib.hid (BR.out.below hb2)
  have BW2 := Lib.hid (BW.out.trans (hb2.mono BW.out.size))
  have hl := fillL_length (fun i => phaseP (fPln nn u v i)) (sq64 hn2)
  have HL := Lib.hid hl
  clear hb2 hl
  go_wp2_with (refine wpList_store_row rfl 29 (.tmp 6) (.tmp 9) rfl (w.heap.size + 1 + 1 + 1) (wav nn (fillL (nn * nn) (fun i => phaseP (fPln nn u v i)))) rfl rfl 29 (wav 0 zerosC) B2.out ?c1 ?c2 (wav_one _ _) ?_; (case c1 => exact Try.sizeW HL.out); (case c2 => (rw [wav_size, wav_size, HL.out]; rfl)))
  refine bodyPost_ret (v := .agg (wav nn (fillL (nn * nn) (fun i => phaseP (fPln nn u v i))))) (results_cell_row Try.results96 _ _ (w.heap.size + 1 + 1 + 1) 29 (wav nn (fillL (nn * nn) (fun i => phaseP (fPln nn u v i)))) (0, 0) _ rfl (B2.out.row _) Try.underlying29 rfl (Try.sizeW HL.out)) rfl ?_
  exact ⟨rfl, Below.setRow BW2.out (by omega) _⟩

set_option maxRecDepth 10000 in
set_option maxHeartbeats 2000000 in
theorem signedPlaneWave_any (n u v : Int) (w : World) :
    Calls Try.prog 54 #[.int .i64 n, .int .i64 u, .int .i64 v] w (WavPost (wRes (okPln n u v) 2 n (fun i => phaseP (fPln n u v i))) w) := by
  have hz := (zero_of_info Try.infoW).1
  obtain ⟨W0, hW⟩ : ∃ W0, W0 = (w.alloc (.cells (wav 0 zerosC) 29)) := ⟨_, rfl⟩
  have hb0 : Below w.heap.size w W0 := by rw [hW]; exact ((Below.refl _ _).alloc (Nat.le_refl _) _)
  have b0 : Blk W0 w.heap.size (wav 0 zerosC) 29 := by rw [hW]; exact Blk.new w _ _
  have BR := Lib.hid b0
  have BW := Lib.hid hb0
  clear hb0 b0
  cases h1 : isSd n with
  | false =>
    have R : Hid (wRes (okPln n u v) 2 n (fun i => phaseP (fPln n u v i)) = (2, 0, zerosC)) := by show _ = _; simp [okPln, h1, wRes]
    go_enter Try.func54, Try.ntmps54
    go_upto_region 1 with (fail)
    rw [← hW]
    clear hW
    go_wp2_with (first | (go_at_call 90; refine (isSide_any _ _).mono ?_; rintro e w' ⟨rfl, rfl⟩; rw [h1]) | (refine wpList_wbuild0 rfl rfl ?_) | (refine wpList_store_row rfl 29 (.tmp 6) (.tmp 21) rfl (w.heap.size) (wav 0 zerosC) rfl rfl 29 (wav 0 zerosC) BR.out ?c1 ?c2 (wav_one 0 zerosC) ?_; (case c1 => exact Try.sizeW zerosC_length); (case c2 => rfl)))
    refine bodyPost_ret (v := .tuple #[.agg (wav 0 zerosC), .int .i64 2]) (results_cell_row2 Try.results54 _ _ (w.heap.size) 29 (wav 0 zerosC) (0, 0) _ _ rfl rfl (BR.out.row _) Try.underlying29 rfl (Try.sizeW zerosC_length)) rfl ?_
    exact WavPost.err (R.out ▸ rfl) (Below.setRow BW.out (by omega) _)
  | true =>
  cases h2 : inR u (-64) 64 with
  | false =>
    have R : Hid (wRes (okPln n u v) 2 n (fun i => phaseP (fPln n u v i)) = (2, 0, zerosC)) := by show _ = _; simp [okPln, h2, wRes]
    go_enter Try.func54, Try.ntmps54
    go_upto_region 1 with (fail)
    rw [← hW]
    clear hW
    go_wp2_with (first | (go_at_call 90; refine (isSide_any _ _).mono ?_; rintro e w' ⟨rfl, rfl⟩; rw [h1]) | (go_at_call 92; refine (isSlope_any _ _).mono ?_; rintro e w' ⟨rfl, rfl⟩; rw [h2]) | (refine wpList_wbuild0 rfl rfl ?_) | (refine wpList_store_row rfl 29 (.tmp 6) (.tmp 21) rfl (w.heap.size) (wav 0 zerosC) rfl rfl 29 (wav 0 zerosC) BR.out ?c1 ?c2 (wav_one 0 zerosC) ?_; (case c1 => exact Try.sizeW zerosC_length); (case c2 => rfl)))
    refine bodyPost_ret (v := .tuple #[.agg (wav 0 zerosC), .int .i64 2]) (results_cell_row2 Try.results54 _ _ (w.heap.size) 29 (wav 0 zerosC) (0, 0) _ _ rfl rfl (BR.out.row _) Try.underlying29 rfl (Try.sizeW zerosC_length)) rfl ?_
    exact WavPost.err (R.out ▸ rfl) (Below.setRow BW.out (by omega) _)
  | true =>
  cases h3 : inR v (-64) 64 with
  | false =>
    have R : Hid (wRes (okPln n u v) 2 n (fun i => phaseP (fPln n u v i)) = (2, 0, zerosC)) := by show _ = _; simp [okPln, h3, wRes]
    go_enter Try.func54, Try.ntmps54
    go_upto_region 1 with (fail)
    rw [← hW]
    clear hW
    go_wp2_with (first | (go_at_call 90; refine (isSide_any _ _).mono ?_; rintro e w' ⟨rfl, rfl⟩; rw [h1]) | (go_at_call 92; refine (isSlope_any _ _).mono ?_; rintro e w' ⟨rfl, rfl⟩; first | rw [h2] | rw [h3]) | (refine wpList_wbuild0 rfl rfl ?_) | (refine wpList_store_row rfl 29 (.tmp 6) (.tmp 21) rfl (w.heap.size) (wav 0 zerosC) rfl rfl 29 (wav 0 zerosC) BR.out ?c1 ?c2 (wav_one 0 zerosC) ?_; (case c1 => exact Try.sizeW zerosC_length); (case c2 => rfl)))
    refine bodyPost_ret (v := .tuple #[.agg (wav 0 zerosC), .int .i64 2]) (results_cell_row2 Try.results54 _ _ (w.heap.size) 29 (wav 0 zerosC) (0, 0) _ _ rfl rfl (BR.out.row _) Try.underlying29 rfl (Try.sizeW zerosC_length)) rfl ?_
    exact WavPost.err (R.out ▸ rfl) (Below.setRow BW.out (by omega) _)
  | true =>
    have H2 := inR_true h2
    have H3 := inR_true h3
    obtain ⟨nn, rfl, hn1, hn2⟩ := isSd_nat h1
    have R : Hid (wRes (okPln nn u v) 2 nn (fun i => phaseP (fPln nn u v i)) = (0, (nn : Int), fillL (nn * nn) (fun i => phaseP (fPln nn u v i)))) := by show _ = _; simp only [okPln, h1, h2, h3, wRes, Bool.and_true, if_true, Int.toNat_natCast]
    go_enter Try.func54, Try.ntmps54
    go_upto_region 1 with (fail)
    rw [← hW]
    clear hW
    go_wp2_with (first | (go_at_call 90; refine (isSide_any _ _).mono ?_; rintro e w' ⟨rfl, rfl⟩; rw [h1]) | (go_at_call 92; refine (isSlope_any _ _).mono ?_; rintro e w' ⟨rfl, rfl⟩; first | rw [h2] | rw [h3]))
    refine (planeWave_any nn u v W0 hn1 hn2 h1 H2 H3).mono ?_
    rintro e w2 ⟨rfl, hb2⟩
    have B2 := Lib.hid (BR.out.below hb2)
    have BW2 := Lib.hid (BW.out.trans (hb2.mono BW.out.size))
    have hl := fillL_length (fun i => phaseP (fPln nn u v i)) (sq64 hn2)
    have HL := Lib.hid hl
    clear hb2 hl
    go_wp2_with (refine wpList_store_row rfl 29 (.tmp 6) (.tmp 25) rfl (w.heap.size) (wav nn (fillL (nn * nn) (fun i => phaseP (fPln nn u v i)))) rfl rfl 29 (wav 0 zerosC) B2.out ?c1 ?c2 (wav_one _ _) ?_; (case c1 => exact Try.sizeW HL.out); (case c2 => (rw [wav_size, wav_size, HL.out]; rfl)))
    refine bodyPost_ret (v := .tuple #[.agg (wav nn (fillL (nn * nn) (fun i => phaseP (fPln nn u v i)))), .int .i64 0]) (results_cell_row2 Try.results54 _ _ (w.heap.size) 29 (wav nn (fillL (nn * nn) (fun i => phaseP (fPln nn u v i)))) (0, 0) _ _ rfl rfl (B2.out.row _) Try.underlying29 rfl (Try.sizeW HL.out)) rfl ?_
    exact ⟨by rw [R.out], Below.setRow BW2.out (by omega) _⟩
end Go.Proofs.Ytficghohflmdeaa
