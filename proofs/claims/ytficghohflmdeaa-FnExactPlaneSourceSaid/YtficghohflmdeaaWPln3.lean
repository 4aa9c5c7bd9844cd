/- PlaneWave: the reference's side. -/
import Derived.Test.YtficghohflmdeaaWPln2
namespace Go.Proofs.Ytficghohflmdeaa
open Go.RowKit
set_option linter.unusedVariables false

set_option maxRecDepth 10000 in
set_option maxHeartbeats 2000000 in
theorem l01Plane_any (nn : Nat) (u v : Int) (w : World) (hn1 : 1 ≤ nn) (hn2 : nn ≤ 8) (hsd : isSd nn = true) (hu : -64 ≤ u ∧ u ≤ 64) (hv : -64 ≤ v ∧ v ≤ 64) :
    Calls Try.prog 95 #[.int .i64 nn, .int .i64 u, .int .i64 v] w fun e w' => e = .returned (.agg (wav nn (fillL (nn * nn) (fun i => rawP (fPln nn u v i))))) ∧ Below w.heap.size w w' := by
  have hz := (zero_of_info Try.infoW).1
  obtain ⟨W0, hW⟩ : ∃ W0, W0 = (w.alloc (.cells (wav 0 zerosC) 29)) := ⟨_, rfl⟩
  have hb0 : Below w.heap.size w W0 := by rw [hW]; exact ((Below.refl _ _).alloc (Nat.le_refl _) _)
  have b0 : Blk W0 w.heap.size (wav 0 zerosC) 29 := by rw [hW]; exact Blk.new w _ _
  have BR := Lib.hid b0
  have BW := Lib.hid hb0
  clear hb0 b0
  have hnn := sq64 hn2
  obtain ⟨m, hm⟩ : ∃ m, m = nn * nn := ⟨_, rfl⟩
  rw [← hm] at hnn
  have HM := Lib.hid hm
  clear hm
  have hn0 : ¬ (nn : Int) = 0 := by omega
  go_enter Try.func95, Try.ntmps95
  go_upto_region 1 with (fail)
  rw [← hW]
  clear hW
  go_wp2_with fail
  refine (l01Empty_any _ W0).mono ?_
  rintro e w2 ⟨rfl, hb2⟩
  have hsz := hb2.size
  have B2 := BR.out.below hb2
  have hlt := B2.lt
  have BW2 := Lib.hid (BW.out.trans (hb2.mono BW.out.size))
  have C3 := Lib.hid (Blk.new w2 (wav 0 zerosC) 29)
  have B3 := Lib.hid ((B2.alloc (.cells (wav 0 zerosC) 29)).rowOther (by omega : w.heap.size ≠ w2.heap.size) (wav nn zerosC))
  have D3 := Lib.hid (C3.out.row (wav nn zerosC))
  have HB3 := Lib.hid (Below.setRow ((Below.refl _ w2).alloc (Nat.le_refl _) (.cells (wav 0 zerosC) 29)) (Nat.le_refl _) (g := w2.heap.size) (wav nn zerosC))
  clear B2 hb2
  go_wp2_with (refine wpList_store_row rfl 29 (.tmp 7) (.tmp 11) rfl w2.heap.size (wav nn zerosC) rfl rfl 29 (wav 0 zerosC) C3.out ?c1 ?c2 (wav_one _ _) ?_; (case c1 => exact Try.sizeW zerosC_length); (case c2 => rfl))
  go_loopw [8, 9] (fun yv _ wr => ∃ y : Nat, y ≤ nn ∧ yv = .int .i64 y ∧ Below w2.heap.size w2 wr ∧ Hid (Blk wr (w.heap.size) (wav 0 zerosC) 29 ∧ Blk wr w2.heap.size (wav nn (fillL (nn * y) (fun i => rawP (fPln nn u v i)))) 29)) (fun yv _ _ => nn - (intOf yv).toNat)
  case atStart => exact ⟨0, Nat.zero_le _, rfl, HB3.out, B3.out, D3.out⟩
  case round =>
    clear B3 D3 HB3
    obtain ⟨y, hy, rfl, hbl, hcur⟩ := hrel
    have HB := Lib.hid hbl; clear hbl
    obtain ⟨hz1, hc⟩ := hcur.out
    clear hcur
    by_cases hlty : y < nn
    · obtain ⟨b, hb⟩ : ∃ b, b = nn * y := ⟨_, rfl⟩
      have hbi : (nn : Int) * y = b := by rw [hb, Int.natCast_mul]
      have hbn : b + nn ≤ m := by
        have := Nat.mul_le_mul (Nat.le_refl nn) (by omega : y + 1 ≤ nn)
        rw [Nat.mul_succ, ← hb, ← HM.out] at this; omega
      rw [← hb] at hc
      have HBE := Lib.hid hb
      have HC := Lib.hid hc
      have HZ := Lib.hid hz1
      clear hb hc hz1
      go_wp2
      go_loopw [9] (fun xv wx => ∃ x : Nat, x ≤ nn ∧ xv = .int .i64 x ∧ Below w2.heap.size w2 wx ∧ Hid (Blk wx (w.heap.size) (wav 0 zerosC) 29 ∧ Blk wx w2.heap.size (wav nn (fillL (b + x) (fun i => rawP (fPln nn u v i)))) 29)) (fun xv _ => nn - (intOf xv).toNat)
      case atStart => exact ⟨0, Nat.zero_le _, rfl, HB.out, HZ.out, HC.out⟩
      case round =>
        clear HB HZ HC
        obtain ⟨x, hx, rfl, hbl, hcur⟩ := hrel
        have HB := Lib.hid hbl; clear hbl
        obtain ⟨hz1, hc⟩ := hcur.out
        clear hcur
        by_cases hltx : x < nn
        · have hl := fillL_length (fun i => rawP (fPln nn u v i)) (by omega : b + x ≤ 64)
          obtain ⟨j, hj⟩ : ∃ j, j = b + x := ⟨_, rfl⟩
          rw [← hj] at hc hl
          have hji : (b : Int) + x = j := by omega
          have c0 := hc.wavCell (by omega : j < (fillL j (fun i => rawP (fPln nn u v i))).length)
          have f0 := hc.frozen (1 + j)
          obtain ⟨y0, hy0⟩ : ∃ y0, y0 = (fillL j (fun i => rawP (fPln nn u v i))).getD j (0, 0) := ⟨_, rfl⟩
          rw [← hy0] at c0
          have hdm := idx_div (y := y) hltx
          rw [← HBE.out, ← hj] at hdm
          have hd := div64 hn1 hn2 hsd
          have hq : Int.tdiv 64 nn = 64 / nn := Int.tdiv_eq_ediv_of_nonneg (by omega)
          have hfz : fPln nn u v j = (u * x + v * y) * (64 / nn) := by unfold fPln plnF; rw [hdm.1, hdm.2]
          obtain ⟨q, hqe⟩ : ∃ q, q = (64 : Int) / nn := ⟨_, rfl⟩
          rw [← hqe] at hd hq hfz
          have hqb : (64 : Int) / nn = q := hqe.symm
          have ha := mulB u x 64 8 (by omega) (by omega)
          obtain ⟨a, hae⟩ : ∃ a, a = u * x := ⟨_, rfl⟩
          have hb := mulB v y 64 8 (by omega) (by omega)
          obtain ⟨b2, hbe⟩ : ∃ b2, b2 = v * y := ⟨_, rfl⟩
          rw [← hae] at ha hfz
          rw [← hbe] at hb hfz
          have hae2 : u * (x : Int) = a := hae.symm
          have hbe2 : v * (y : Int) = b2 := hbe.symm
          have hzb := mulB (a + b2) q 1024 64 (by omega) (by omega)
          obtain ⟨z, hze⟩ : ∃ z, z = (a + b2) * q := ⟨_, rfl⟩
          rw [← hze] at hzb hfz
          have hze2 : (a + b2) * q = z := hze.symm
          have HFZ := Lib.hid hfz
          have hqr : 1 ≤ q ∧ q ≤ 64 := ⟨hd.1, hd.2.1⟩
          clear hae hbe hze hqe hfz hd
          have HC := Lib.hid hc
          have HZ := Lib.hid hz1
          have HL := Lib.hid hl
          have HDM := Lib.hid hdm
          have HJ := Lib.hid hj
          clear hc hz1 hl hy0 hdm hj
          go_wp2_with (first | (go_at_call 76; refine (l01Phase_any z (by omega) _).mono ?_; rintro e w' ⟨rfl, rfl⟩))
          go_roundw
          case rel =>
            refine ⟨x + 1, by omega, by go_num, HB.out.setCell (by exact Nat.le_refl _) _, HZ.out.other (by omega) _ _, ?_⟩
            rw [show b + (x + 1) = j + 1 by (have := HJ.out; omega), ← fillL_set (fun i => rawP (fPln nn u v i)) (by omega : j < 64)]
            have h := HC.out.wavSet j (phaseV (z % 64).toNat).1 (phaseV (z % 64).toNat).2
            rw [show rawP (fPln nn u v j) = ((phaseV (z % 64).toNat).1, (phaseV (z % 64).toNat).2) by rw [HFZ.out]; rfl]
            exact h
          case measure => simp [intOf]; omega
        · have ex : x = nn := by omega
          subst ex
          have hbe : b + x = x * (y + 1) := by rw [Nat.mul_succ, ← HBE.out]
          rw [hbe] at hc
          have HC := Lib.hid hc
          have HZ := Lib.hid hz1
          clear hc hz1 hbe
          go_wp2
          go_roundw
          case rel => exact ⟨y + 1, by omega, by go_num, HB.out, HZ.out, HC.out⟩
          case measure => simp [intOf]; omega
    · have ey : y = nn := by omega
      rw [ey] at hc
      have hl := fillL_length (fun i => rawP (fPln nn u v i)) (sq64 hn2)
      have HC := Lib.hid hc
      have HZ := Lib.hid hz1
      have HL := Lib.hid hl
      clear hc hz1 hl
      go_wp2_with (first | (refine wpList_load_row rfl 29 (.tmp 7) rfl w2.heap.size rfl 29 (wav nn (fillL (nn * nn) (fun i => rawP (fPln nn u v i)))) (0, 0) _ HC.out Try.underlying29 rfl (Try.sizeW HL.out) ?_) | (refine wpList_store_row rfl 29 (.tmp 6) (.tmp 40) rfl (w.heap.size) (wav nn (fillL (nn * nn) (fun i => rawP (fPln nn u v i)))) rfl rfl 29 (wav 0 zerosC) HZ.out (Try.sizeW HL.out) (by rw [wav_size, wav_size, HL.out]; rfl) (wav_one _ _) ?_))
      refine bodyPost_ret (v := .agg (wav nn (fillL (nn * nn) (fun i => rawP (fPln nn u v i))))) (results_cell_row Try.results95 _ _ (w.heap.size) 29 (wav nn (fillL (nn * nn) (fun i => rawP (fPln nn u v i)))) (0, 0) _ rfl (HZ.out.row _) Try.underlying29 rfl (Try.sizeW HL.out)) rfl ?_
      exact ⟨rfl, Below.setRow (BW2.out.trans (HB.out.mono BW2.out.size)) (by omega) _⟩

set_option maxRecDepth 10000 in
set_option maxHeartbeats 2000000 in
theorem rawPlaneWave_any (n u v : Int) (w : World) :
    Calls Try.prog 53 #[.int .i64 n, .int .i64 u, .int .i64 v] w (WavPost (wRes (okPln n u v) 2 n (fun i => rawP (fPln n u v i))) w) := by
  have hz := (zero_of_info Try.infoW).1
  obtain ⟨W0, hW⟩ : ∃ W0, W0 = (w.alloc (.cells (wav 0 zerosC) 29)) := ⟨_, rfl⟩
  have hb0 : Below w.heap.size w W0 := by rw [hW]; exact ((Below.refl _ _).alloc (Nat.le_refl _) _)
  have b0 : Blk W0 w.heap.size (wav 0 zerosC) 29 := by rw [hW]; exact Blk.new w _ _
  have BR := Lib.hid b0
  have BW := Lib.hid hb0
  clear hb0 b0
  cases h1 : isSd n with
  | false =>
    have R : Hid (wRes (okPln n u v) 2 n (fun i => rawP (fPln n u v i)) = (2, 0, zerosC)) := by show _ = _; simp [okPln, h1, wRes]
    go_enter Try.func53, Try.ntmps53
    go_upto_region 1 with (fail)
    rw [← hW]
    clear hW
    go_wp2_with (first | (go_at_call 87; refine (l01Side_any _ _).mono ?_; rintro e w' ⟨rfl, rfl⟩; rw [h1]) | (refine wpList_wbuild0 rfl rfl ?_) | (refine wpList_store_row rfl 29 (.tmp 6) (.tmp 21) rfl (w.heap.size) (wav 0 zerosC) rfl rfl 29 (wav 0 zerosC) BR.out ?c1 ?c2 (wav_one 0 zerosC) ?_; (case c1 => exact Try.sizeW zerosC_length); (case c2 => rfl)))
    refine bodyPost_ret (v := .tuple #[.agg (wav 0 zerosC), .int .i64 2]) (results_cell_row2 Try.results53 _ _ (w.heap.size) 29 (wav 0 zerosC) (0, 0) _ _ rfl rfl (BR.out.row _) Try.underlying29 rfl (Try.sizeW zerosC_length)) rfl ?_
    exact WavPost.err (R.out ▸ rfl) (Below.setRow BW.out (by omega) _)
  | true =>
  cases h2 : inR u (-64) 64 with
  | false =>
    have R : Hid (wRes (okPln n u v) 2 n (fun i => rawP (fPln n u v i)) = (2, 0, zerosC)) := by show _ = _; simp [okPln, h2, wRes]
    go_enter Try.func53, Try.ntmps53
    go_upto_region 1 with (fail)
    rw [← hW]
    clear hW
    go_wp2_with (first | (go_at_call 87; refine (l01Side_any _ _).mono ?_; rintro e w' ⟨rfl, rfl⟩; rw [h1]) | (go_at_call 88; refine (l01In_any _ _ _ _).mono ?_; rintro e w' ⟨rfl, rfl⟩; rw [h2]) | (refine wpList_wbuild0 rfl rfl ?_) | (refine wpList_store_row rfl 29 (.tmp 6) (.tmp 21) rfl (w.heap.size) (wav 0 zerosC) rfl rfl 29 (wav 0 zerosC) BR.out ?c1 ?c2 (wav_one 0 zerosC) ?_; (case c1 => exact Try.sizeW zerosC_length); (case c2 => rfl)))
    refine bodyPost_ret (v := .tuple #[.agg (wav 0 zerosC), .int .i64 2]) (results_cell_row2 Try.results53 _ _ (w.heap.size) 29 (wav 0 zerosC) (0, 0) _ _ rfl rfl (BR.out.row _) Try.underlying29 rfl (Try.sizeW zerosC_length)) rfl ?_
    exact WavPost.err (R.out ▸ rfl) (Below.setRow BW.out (by omega) _)
  | true =>
  cases h3 : inR v (-64) 64 with
  | false =>
    have R : Hid (wRes (okPln n u v) 2 n (fun i => rawP (fPln n u v i)) = (2, 0, zerosC)) := by show _ = _; simp [okPln, h3, wRes]
    go_enter Try.func53, Try.ntmps53
    go_upto_region 1 with (fail)
    rw [← hW]
    clear hW
    go_wp2_with (first | (go_at_call 87; refine (l01Side_any _ _).mono ?_; rintro e w' ⟨rfl, rfl⟩; rw [h1]) | (go_at_call 88; refine (l01In_any _ _ _ _).mono ?_; rintro e w' ⟨rfl, rfl⟩; first | rw [h2] | rw [h3]) | (refine wpList_wbuild0 rfl rfl ?_) | (refine wpList_store_row rfl 29 (.tmp 6) (.tmp 21) rfl (w.heap.size) (wav 0 zerosC) rfl rfl 29 (wav 0 zerosC) BR.out ?c1 ?c2 (wav_one 0 zerosC) ?_; (case c1 => exact Try.sizeW zerosC_length); (case c2 => rfl)))
    refine bodyPost_ret (v := .tuple #[.agg (wav 0 zerosC), .int .i64 2]) (results_cell_row2 Try.results53 _ _ (w.heap.size) 29 (wav 0 zerosC) (0, 0) _ _ rfl rfl (BR.out.row _) Try.underlying29 rfl (Try.sizeW zerosC_length)) rfl ?_
    exact WavPost.err (R.out ▸ rfl) (Below.setRow BW.out (by omega) _)
  | true =>
    have H2 := inR_true h2
    have H3 := inR_true h3
    obtain ⟨nn, rfl, hn1, hn2⟩ := isSd_nat h1
    have R : Hid (wRes (okPln nn u v) 2 nn (fun i => rawP (fPln nn u v i)) = (0, (nn : Int), fillL (nn * nn) (fun i => rawP (fPln nn u v i)))) := by show _ = _; simp only [okPln, h1, h2, h3, wRes, Bool.and_true, if_true, Int.toNat_natCast]
    go_enter Try.func53, Try.ntmps53
    go_upto_region 1 with (fail)
    rw [← hW]
    clear hW
    go_wp2_with (first | (go_at_call 87; refine (l01Side_any _ _).mono ?_; rintro e w' ⟨rfl, rfl⟩; rw [h1]) | (go_at_call 88; refine (l01In_any _ _ _ _).mono ?_; rintro e w' ⟨rfl, rfl⟩; first | rw [h2] | rw [h3]))
    refine (l01Plane_any nn u v W0 hn1 hn2 h1 H2 H3).mono ?_
    rintro e w2 ⟨rfl, hb2⟩
    have B2 := Lib.hid (BR.out.below hb2)
    have BW2 := Lib.hid (BW.out.trans (hb2.mono BW.out.size))
    have hl := fillL_length (fun i => rawP (fPln nn u v i)) (sq64 hn2)
    have HL := Lib.hid hl
    clear hb2 hl
    go_wp2_with (refine wpList_store_row rfl 29 (.tmp 6) (.tmp 25) rfl (w.heap.size) (wav nn (fillL (nn * nn) (fun i => rawP (fPln nn u v i)))) rfl rfl 29 (wav 0 zerosC) B2.out ?c1 ?c2 (wav_one _ _) ?_; (case c1 => exact Try.sizeW HL.out); (case c2 => (rw [wav_size, wav_size, HL.out]; rfl)))
    refine bodyPost_ret (v := .tuple #[.agg (wav nn (fillL (nn * nn) (fun i => rawP (fPln nn u v i)))), .int .i64 0]) (results_cell_row2 Try.results53 _ _ (w.heap.size) 29 (wav nn (fillL (nn * nn) (fun i => rawP (fPln nn u v i)))) (0, 0) _ _ rfl rfl (B2.out.row _) Try.underlying29 rfl (Try.sizeW HL.out)) rfl ?_
    exact ⟨by rw [R.out], Below.setRow BW2.out (by omega) _⟩
end Go.Proofs.Ytficghohflmdeaa
