/- BlazedWave: the reference's side. -/
import Derived.Test.YtficghohflmdeaaWBlz2
namespace Go.Proofs.Ytficghohflmdeaa
open Go.RowKit
set_option linter.unusedVariables false

set_option maxRecDepth 10000 in
set_option maxHeartbeats 2000000 in
theorem rawBlazedWave_any (n p k : Int) (w : World) :
    Calls Try.prog 48 #[.int .i64 n, .int .i64 p, .int .i64 k] w (WavPost (wRes (okBlz n p k) 2 n (fun i => rawP (fBlz n p k i))) w) := by
  have hz := (zero_of_info Try.infoW).1
  obtain ⟨W0, hW⟩ : ∃ W0, W0 = (w.alloc (.cells (wav 0 zerosC) 29)) := ⟨_, rfl⟩
  have hb0 : Below w.heap.size w W0 := by rw [hW]; exact ((Below.refl _ _).alloc (Nat.le_refl _) _)
  have b0 : Blk W0 w.heap.size (wav 0 zerosC) 29 := by rw [hW]; exact Blk.new w _ _
  have BR := Lib.hid b0
  have BW := Lib.hid hb0
  clear hb0 b0
  cases h1 : isSd n with
  | false =>
    have R : Hid (wRes (okBlz n p k) 2 n (fun i => rawP (fBlz n p k i)) = (2, 0, zerosC)) := by show _ = _; simp [okBlz, h1, wRes]
    go_enter Try.func48, Try.ntmps48
    go_upto_region 1 with (fail)
    rw [← hW]
    clear hW
    go_wp2_with (first | (go_at_call 87; refine (l01Side_any _ _).mono ?_; rintro e w' ⟨rfl, rfl⟩; rw [h1]) | (refine wpList_wbuild0 rfl rfl ?_) | (refine wpList_store_row rfl 29 (.tmp 6) (.tmp 24) rfl (w.heap.size) (wav 0 zerosC) rfl rfl 29 (wav 0 zerosC) BR.out ?c1 ?c2 (wav_one 0 zerosC) ?_; (case c1 => exact Try.sizeW zerosC_length); (case c2 => rfl)))
    refine bodyPost_ret (v := .tuple #[.agg (wav 0 zerosC), .int .i64 2]) (results_cell_row2 Try.results48 _ _ (w.heap.size) 29 (wav 0 zerosC) (0, 0) _ _ rfl rfl (BR.out.row _) Try.underlying29 rfl (Try.sizeW zerosC_length)) rfl ?_
    exact WavPost.err (R.out ▸ rfl) (Below.setRow BW.out (by omega) _)
  | true =>
  cases h2 : inR p 1 n with
  | false =>
    have R : Hid (wRes (okBlz n p k) 2 n (fun i => rawP (fBlz n p k i)) = (2, 0, zerosC)) := by show _ = _; simp [okBlz, h2, wRes]
    go_enter Try.func48, Try.ntmps48
    go_upto_region 1 with (fail)
    rw [← hW]
    clear hW
    go_wp2_with (first | (go_at_call 87; refine (l01Side_any _ _).mono ?_; rintro e w' ⟨rfl, rfl⟩; rw [h1]) | (go_at_call 88; refine (l01In_any _ _ _ _).mono ?_; rintro e w' ⟨rfl, rfl⟩; rw [h2]) | (refine wpList_wbuild0 rfl rfl ?_) | (refine wpList_store_row rfl 29 (.tmp 6) (.tmp 24) rfl (w.heap.size) (wav 0 zerosC) rfl rfl 29 (wav 0 zerosC) BR.out ?c1 ?c2 (wav_one 0 zerosC) ?_; (case c1 => exact Try.sizeW zerosC_length); (case c2 => rfl)))
    refine bodyPost_ret (v := .tuple #[.agg (wav 0 zerosC), .int .i64 2]) (results_cell_row2 Try.results48 _ _ (w.heap.size) 29 (wav 0 zerosC) (0, 0) _ _ rfl rfl (BR.out.row _) Try.underlying29 rfl (Try.sizeW zerosC_length)) rfl ?_
    exact WavPost.err (R.out ▸ rfl) (Below.setRow BW.out (by omega) _)
  | true =>
  cases h3 : inR k (-64) 64 with
  | false =>
    have R : Hid (wRes (okBlz n p k) 2 n (fun i => rawP (fBlz n p k i)) = (2, 0, zerosC)) := by show _ = _; simp [okBlz, h3, wRes]
    go_enter Try.func48, Try.ntmps48
    go_upto_region 1 with (fail)
    rw [← hW]
    clear hW
    go_wp2_with (first | (go_at_call 87; refine (l01Side_any _ _).mono ?_; rintro e w' ⟨rfl, rfl⟩; rw [h1]) | (go_at_call 88; refine (l01In_any _ _ _ _).mono ?_; rintro e w' ⟨rfl, rfl⟩; first | rw [h2] | rw [h3]) | (refine wpList_wbuild0 rfl rfl ?_) | (refine wpList_store_row rfl 29 (.tmp 6) (.tmp 24) rfl (w.heap.size) (wav 0 zerosC) rfl rfl 29 (wav 0 zerosC) BR.out ?c1 ?c2 (wav_one 0 zerosC) ?_; (case c1 => exact Try.sizeW zerosC_length); (case c2 => rfl)))
    refine bodyPost_ret (v := .tuple #[.agg (wav 0 zerosC), .int .i64 2]) (results_cell_row2 Try.results48 _ _ (w.heap.size) 29 (wav 0 zerosC) (0, 0) _ _ rfl rfl (BR.out.row _) Try.underlying29 rfl (Try.sizeW zerosC_length)) rfl ?_
    exact WavPost.err (R.out ▸ rfl) (Below.setRow BW.out (by omega) _)
  | true =>
    have H2 := inR_true h2
    have H3 := inR_true h3
    obtain ⟨nn, rfl, hn1, hn2⟩ := isSd_nat h1
    have R : Hid (wRes (okBlz nn p k) 2 nn (fun i => rawP (fBlz nn p k i)) = (0, (nn : Int), fillL (nn * nn) (fun i => rawP (fBlz nn p k i)))) := by show _ = _; simp only [okBlz, h1, h2, h3, wRes, Bool.and_true, if_true, Int.toNat_natCast]
    have hnn := sq64 hn2
    obtain ⟨m, hm⟩ : ∃ m, m = nn * nn := ⟨_, rfl⟩
    have hmul : (nn : Int) * nn = m := by rw [hm, Int.natCast_mul]
    rw [← hm] at hnn
    have HM := Lib.hid hm
    clear hm
    have hn0 : ¬ (nn : Int) = 0 := by omega
    go_enter Try.func48, Try.ntmps48
    go_upto_region 1 with (fail)
    rw [← hW]
    clear hW
    go_wp2_with (first | (go_at_call 87; refine (l01Side_any _ _).mono ?_; rintro e w' ⟨rfl, rfl⟩; rw [h1]) | (go_at_call 88; refine (l01In_any _ _ _ _).mono ?_; rintro e w' ⟨rfl, rfl⟩; first | rw [h2] | rw [h3]))
    refine (l01Empty_any _ W0).mono ?_
    rintro e w2 ⟨rfl, hb2⟩
    have hsz := hb2.size
    have B2 := BR.out.below hb2
    have hlt := B2.lt
    have BW2 := Lib.hid (BW.out.trans (hb2.mono BW.out.size))
    have C3 := Lib.hid (Blk.new w2 (wav 0 zerosC) 29)
    have B3 := Lib.hid ((B2.alloc (.cells (wav 0 zerosC) 29)).rowOther (by omega : w.heap.size ≠ w2.heap.size) (wav nn zerosC))
    have D3 := Lib.hid (C3.out.row (wav nn zerosC))
    have HB3 := Lib.hid (Below.setRow ((Below.refl _ w2).alloc (Nat.le_refl _) (.cells (wav 0 zerosC) 29)) (Nat.le_refl _) (g := w2.heap.size) (wav nn zerosC))
    clear B2 hb2
    go_wp2_with (refine wpList_store_row rfl 29 (.tmp 8) (.tmp 26) rfl w2.heap.size (wav nn zerosC) rfl rfl 29 (wav 0 zerosC) C3.out ?c1 ?c2 (wav_one _ _) ?_; (case c1 => exact Try.sizeW zerosC_length); (case c2 => rfl))
    go_loopw [9] (fun i wr => ∃ j : Nat, j ≤ m ∧ i = .int .i64 j ∧ Below w2.heap.size w2 wr ∧ Hid (Blk wr (w.heap.size) (wav 0 zerosC) 29 ∧ Blk wr w2.heap.size (wav nn (fillL j (fun i => rawP (fBlz nn p k i)))) 29)) (fun i _ => m - (intOf i).toNat)
    case atStart => exact ⟨0, Nat.zero_le _, rfl, HB3.out, B3.out, D3.out⟩
    case round =>
      clear B3 D3 HB3
      obtain ⟨j, hj, rfl, hbl, hcur⟩ := hrel
      have HB := Lib.hid hbl; clear hbl
      obtain ⟨hz1, hc⟩ := hcur.out
      clear hcur
      have hl := fillL_length (fun i => rawP (fBlz nn p k i)) (by omega : j ≤ 64)
      by_cases hltj : j < m
      · have c0 := hc.wavCell (by omega : j < (fillL j (fun i => rawP (fBlz nn p k i))).length)
        have f0 := hc.frozen (1 + j)
        obtain ⟨y0, hy0⟩ : ∃ y0, y0 = (fillL j (fun i => rawP (fBlz nn p k i))).getD j (0, 0) := ⟨_, rfl⟩
        rw [← hy0] at c0
        have hp0 : ¬ p = 0 := by omega
        have hr1 : 0 ≤ (j : Int) % nn ∧ (j : Int) % nn < nn := ⟨Int.emod_nonneg _ hn0, Int.emod_lt_of_pos _ (by omega)⟩
        have hq1 : Int.tmod (j : Int) nn = (j : Int) % nn := Int.tmod_eq_emod_of_nonneg (by omega)
        have hfz : fBlz nn p k j = k * ((j : Int) % nn % p) := rfl
        obtain ⟨r1, hr1e⟩ : ∃ r1, r1 = (j : Int) % nn := ⟨_, rfl⟩
        rw [← hr1e] at hr1 hq1 hfz
        have hq1b : (j : Int) % nn = r1 := hr1e.symm
        have hr2 : 0 ≤ r1 % p ∧ r1 % p < p := ⟨Int.emod_nonneg _ hp0, Int.emod_lt_of_pos _ (by omega)⟩
        have hq2 : Int.tmod r1 p = r1 % p := Int.tmod_eq_emod_of_nonneg hr1.1
        obtain ⟨r2, hr2e⟩ : ∃ r2, r2 = r1 % p := ⟨_, rfl⟩
        rw [← hr2e] at hr2 hq2 hfz
        have hz := mulB k r2 64 8 (by omega) (by omega)
        obtain ⟨z, hze⟩ : ∃ z, z = k * r2 := ⟨_, rfl⟩
        rw [← hze] at hz hfz
        have hze2 : k * r2 = z := hze.symm
        clear hr1e hr2e hze
        have HFZ := Lib.hid hfz
        clear hfz
        have HC := Lib.hid hc
        have HZ := Lib.hid hz1
        have HL := Lib.hid hl
        clear hc hz1 hl hy0
        go_wp2_with (first | (go_at_call 76; refine (l01Phase_any z (by omega) _).mono ?_; rintro e w' ⟨rfl, rfl⟩))
        go_roundw
        case rel =>
          refine ⟨j + 1, by omega, by go_num, HB.out.setCell (by exact Nat.le_refl _) _, HZ.out.other (by omega) _ _, ?_⟩
          rw [← fillL_set (fun i => rawP (fBlz nn p k i)) (by omega : j < 64)]
          have h := HC.out.wavSet j (phaseV (z % 64).toNat).1 (phaseV (z % 64).toNat).2
          rw [show rawP (fBlz nn p k j) = ((phaseV (z % 64).toNat).1, (phaseV (z % 64).toNat).2) by rw [HFZ.out]; rfl]
          exact h
        case measure => simp [intOf]; omega
      · have ej : j = m := by omega
        subst ej
        have HC := Lib.hid hc
        have HZ := Lib.hid hz1
        have HL := Lib.hid hl
        clear hc hz1 hl
        go_wp2_with (first | (refine wpList_load_row rfl 29 (.tmp 8) rfl w2.heap.size rfl 29 (wav nn (fillL j (fun i => rawP (fBlz nn p k i)))) (0, 0) _ HC.out Try.underlying29 rfl (Try.sizeW HL.out) ?_) | (refine wpList_store_row rfl 29 (.tmp 6) (.tmp 45) rfl (w.heap.size) (wav nn (fillL j (fun i => rawP (fBlz nn p k i)))) rfl rfl 29 (wav 0 zerosC) HZ.out (Try.sizeW HL.out) (by rw [wav_size, wav_size, HL.out]; rfl) (wav_one _ _) ?_))
        refine bodyPost_ret (v := .tuple #[.agg (wav nn (fillL j (fun i => rawP (fBlz nn p k i)))), .int .i64 0]) (results_cell_row2 Try.results48 _ _ (w.heap.size) 29 (wav nn (fillL j (fun i => rawP (fBlz nn p k i)))) (0, 0) _ _ rfl rfl (HZ.out.row _) Try.underlying29 rfl (Try.sizeW HL.out)) rfl ?_
        exact ⟨by rw [R.out, HM.out], Below.setRow (BW2.out.trans (HB.out.mono BW2.out.size)) (by omega) _⟩
end Go.Proofs.Ytficghohflmdeaa
