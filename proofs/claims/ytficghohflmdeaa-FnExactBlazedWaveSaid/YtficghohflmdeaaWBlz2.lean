/- BlazedWave: both sides. -/
import Derived.Test.YtficghohflmdeaaWBlz
namespace Go.Proofs.Ytficghohflmdeaa
open Go.RowKit
set_option linter.unusedVariables false

def fBlz (n p k : Int) (i : Nat) : Int := k * ((i : Int) % n % p)

set_option maxRecDepth 10000 in
set_option maxHeartbeats 2000000 in
theorem signedBlazedWave_any (n p k : Int) (w : World) :
    Calls Try.prog 50 #[.int .i64 n, .int .i64 p, .int .i64 k] w (WavPost (wRes (okBlz n p k) 2 n (fun i => phaseP (fBlz n p k i))) w) := by
  have hz := (zero_of_info Try.infoW).1
  obtain ⟨W0, hW⟩ : ∃ W0, W0 = (((w.alloc (.cells #[.int .i64 p] 2)).alloc (.cells #[.int .i64 k] 2)).alloc (.cells (wav 0 zerosC) 29)) := ⟨_, rfl⟩
  have hb0 : Below w.heap.size w W0 := by rw [hW]; exact ((((Below.refl _ _).alloc (Nat.le_refl _) _).alloc (by simp) _).alloc (by simp; omega) _)
  have h3 := blk3 w (.cells #[.int .i64 p] 2) (.cells #[.int .i64 k] 2) (.cells (wav 0 zerosC) 29)
  rw [← hW] at h3
  have b0 : Blk W0 (w.heap.size) #[.int .i64 p] 2 := h3.1
  have c0 : W0.cell? ⟨w.heap.size, 0, none⟩ = some (.int .i64 p) := by rw [b0.cell]; rfl
  have b1 : Blk W0 (w.heap.size + 1) #[.int .i64 k] 2 := h3.2.1
  have c1 : W0.cell? ⟨w.heap.size + 1, 0, none⟩ = some (.int .i64 k) := by rw [b1.cell]; rfl
  have b2 : Blk W0 (w.heap.size + 1 + 1) (wav 0 zerosC) 29 := h3.2.2
  have BR := Lib.hid b2
  have BW := Lib.hid hb0
  clear hb0 b0 b1 b2 h3
  cases h1 : isSd n with
  | false =>
    have R : Hid (wRes (okBlz n p k) 2 n (fun i => phaseP (fBlz n p k i)) = (2, 0, zerosC)) := by show _ = _; simp [okBlz, h1, wRes]
    go_enter Try.func50, Try.ntmps50
    go_upto_region 1 with (fail)
    rw [← hW]
    clear hW
    go_wp2_with (first | (go_at_call 90; refine (isSide_any _ _).mono ?_; rintro e w' ⟨rfl, rfl⟩; rw [h1]) | (refine wpList_wbuild0 rfl rfl ?_) | (refine wpList_store_row rfl 29 (.tmp 6) (.tmp 22) rfl (w.heap.size + 1 + 1) (wav 0 zerosC) rfl rfl 29 (wav 0 zerosC) BR.out ?c1 ?c2 (wav_one 0 zerosC) ?_; (case c1 => exact Try.sizeW zerosC_length); (case c2 => rfl)))
    refine bodyPost_ret (v := .tuple #[.agg (wav 0 zerosC), .int .i64 2]) (results_cell_row2 Try.results50 _ _ (w.heap.size + 1 + 1) 29 (wav 0 zerosC) (0, 0) _ _ rfl rfl (BR.out.row _) Try.underlying29 rfl (Try.sizeW zerosC_length)) rfl ?_
    exact WavPost.err (R.out ▸ rfl) (Below.setRow BW.out (by omega) _)
  | true =>
  cases h2 : inR p 1 n with
  | false =>
    have R : Hid (wRes (okBlz n p k) 2 n (fun i => phaseP (fBlz n p k i)) = (2, 0, zerosC)) := by show _ = _; simp [okBlz, h2, wRes]
    go_enter Try.func50, Try.ntmps50
    go_upto_region 1 with (fail)
    rw [← hW]
    clear hW
    go_wp2_with (first | (go_at_call 90; refine (isSide_any _ _).mono ?_; rintro e w' ⟨rfl, rfl⟩; rw [h1]) | (go_at_call 91; refine (within_any _ _ _ _).mono ?_; rintro e w' ⟨rfl, rfl⟩; rw [h2]) | (refine wpList_wbuild0 rfl rfl ?_) | (refine wpList_store_row rfl 29 (.tmp 6) (.tmp 22) rfl (w.heap.size + 1 + 1) (wav 0 zerosC) rfl rfl 29 (wav 0 zerosC) BR.out ?c1 ?c2 (wav_one 0 zerosC) ?_; (case c1 => exact Try.sizeW zerosC_length); (case c2 => rfl)))
    refine bodyPost_ret (v := .tuple #[.agg (wav 0 zerosC), .int .i64 2]) (results_cell_row2 Try.results50 _ _ (w.heap.size + 1 + 1) 29 (wav 0 zerosC) (0, 0) _ _ rfl rfl (BR.out.row _) Try.underlying29 rfl (Try.sizeW zerosC_length)) rfl ?_
    exact WavPost.err (R.out ▸ rfl) (Below.setRow BW.out (by omega) _)
  | true =>
  cases h3 : inR k (-64) 64 with
  | false =>
    have R : Hid (wRes (okBlz n p k) 2 n (fun i => phaseP (fBlz n p k i)) = (2, 0, zerosC)) := by show _ = _; simp [okBlz, h3, wRes]
    go_enter Try.func50, Try.ntmps50
    go_upto_region 1 with (fail)
    rw [← hW]
    clear hW
    go_wp2_with (first | (go_at_call 90; refine (isSide_any _ _).mono ?_; rintro e w' ⟨rfl, rfl⟩; rw [h1]) | (go_at_call 91; refine (within_any _ _ _ _).mono ?_; rintro e w' ⟨rfl, rfl⟩; rw [h2]) | (go_at_call 92; refine (isSlope_any _ _).mono ?_; rintro e w' ⟨rfl, rfl⟩; rw [h3]) | (refine wpList_wbuild0 rfl rfl ?_) | (refine wpList_store_row rfl 29 (.tmp 6) (.tmp 22) rfl (w.heap.size + 1 + 1) (wav 0 zerosC) rfl rfl 29 (wav 0 zerosC) BR.out ?c1 ?c2 (wav_one 0 zerosC) ?_; (case c1 => exact Try.sizeW zerosC_length); (case c2 => rfl)))
    refine bodyPost_ret (v := .tuple #[.agg (wav 0 zerosC), .int .i64 2]) (results_cell_row2 Try.results50 _ _ (w.heap.size + 1 + 1) 29 (wav 0 zerosC) (0, 0) _ _ rfl rfl (BR.out.row _) Try.underlying29 rfl (Try.sizeW zerosC_length)) rfl ?_
    exact WavPost.err (R.out ▸ rfl) (Below.setRow BW.out (by omega) _)
  | true =>
    have H2 := inR_true h2
    have H3 := inR_true h3
    obtain ⟨nn, rfl, hn1, hn2⟩ := isSd_nat h1
    have R : Hid (wRes (okBlz nn p k) 2 nn (fun i => phaseP (fBlz nn p k i)) = (0, (nn : Int), fillL (nn * nn) (fun i => phaseP (fBlz nn p k i)))) := by show _ = _; simp only [okBlz, h1, h2, h3, wRes, Bool.and_true, if_true, Int.toNat_natCast]
    go_enter Try.func50, Try.ntmps50
    go_upto_region 1 with (fail)
    rw [← hW]
    clear hW
    go_wp2_with (first | (go_at_call 90; refine (isSide_any _ _).mono ?_; rintro e w' ⟨rfl, rfl⟩; rw [h1]) | (go_at_call 91; refine (within_any _ _ _ _).mono ?_; rintro e w' ⟨rfl, rfl⟩; rw [h2]) | (go_at_call 92; refine (isSlope_any _ _).mono ?_; rintro e w' ⟨rfl, rfl⟩; rw [h3]))
    refine (waveBy_blz #[.pointer (some ⟨w.heap.size + 1, 0, none⟩), .pointer (some ⟨w.heap.size, 0, none⟩)] nn hn1 hn2 (fun i => phaseP (fBlz nn p k i)) W0 ?hf).mono ?_
    case hf =>
      intro i wr hi hb
      have hi2 : (i : Int) % nn < nn := Int.emod_lt_of_pos _ (by omega)
      have hi3 : 0 ≤ (i : Int) % nn := Int.emod_nonneg _ (by omega)
      refine (blzCl_any k p ((i : Int) % nn) _ i (w.heap.size + 1) w.heap.size wr (by omega) (by omega) (by omega) ?_ ?_).mono ?_
      · rw [hb.cell (by exact block_lt_of_cell c1)]; exact c1
      · rw [hb.cell (by exact block_lt_of_cell c0)]; exact c0
      · rintro e w' ⟨rfl, hb⟩; exact ⟨rfl, hb⟩
    rintro e w2 ⟨rfl, hb2⟩
    have B2 := Lib.hid (BR.out.below hb2)
    have BW2 := Lib.hid (BW.out.trans (hb2.mono BW.out.size))
    have hl := fillL_length (fun i => phaseP (fBlz nn p k i)) (sq64 hn2)
    have HL := Lib.hid hl
    clear hb2 hl
    go_wp2_with (refine wpList_store_row rfl 29 (.tmp 6) (.tmp 25) rfl (w.heap.size + 1 + 1) (wav nn (fillL (nn * nn) (fun i => phaseP (fBlz nn p k i)))) rfl rfl 29 (wav 0 zerosC) B2.out ?c1 ?c2 (wav_one _ _) ?_; (case c1 => exact Try.sizeW HL.out); (case c2 => (rw [wav_size, wav_size, HL.out]; rfl)))
    refine bodyPost_ret (v := .tuple #[.agg (wav nn (fillL (nn * nn) (fun i => phaseP (fBlz nn p k i)))), .int .i64 0]) (results_cell_row2 Try.results50 _ _ (w.heap.size + 1 + 1) 29 (wav nn (fillL (nn * nn) (fun i => phaseP (fBlz nn p k i)))) (0, 0) _ _ rfl rfl (B2.out.row _) Try.underlying29 rfl (Try.sizeW HL.out)) rfl ?_
    exact ⟨by rw [R.out], Below.setRow BW2.out (by omega) _⟩
end Go.Proofs.Ytficghohflmdeaa
