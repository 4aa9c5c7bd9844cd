/- LensWave: the reference's side. -/
import Derived.Test.YtficghohflmdeaaWLns2
namespace Go.Proofs.Ytficghohflmdeaa
open Go.RowKit
set_option linter.unusedVariables false

set_option maxRecDepth 10000 in
set_option maxHeartbeats 2000000 in
theorem rawLensWave_any (n v u k : Int) (w : World) :
    Calls Try.prog 55 #[.int .i64 n, .int .i64 v, .int .i64 u, .int .i64 k] w (WavPost (wRes (okLns n v u k) 2 n (fun i => rawP (fLns n v u k i))) w) := by
  have hz := (zero_of_info Try.infoW).1
  obtain ⟨W0, hW⟩ : ∃ W0, W0 = (w.alloc (.cells (wav 0 zerosC) 29)) := ⟨_, rfl⟩
  have hb0 : Below w.heap.size w W0 := by rw [hW]; exact ((Below.refl _ _).alloc (Nat.le_refl _) _)
  have b0 : Blk W0 w.heap.size (wav 0 zerosC) 29 := by rw [hW]; exact Blk.new w _ _
  have BR := Lib.hid b0
  have BW := Lib.hid hb0
  clear hb0 b0
  cases h1 : okCen n v u with
  | false =>
    have R : Hid (wRes (okLns n v u k) 2 n (fun i => rawP (fLns n v u k i)) = (2, 0, zerosC)) := by show _ = _; simp [okLns, h1, wRes]
    go_enter Try.func55, Try.ntmps55
    go_upto_region 1 with (fail)
    rw [← hW]
    clear hW
    go_wp2_with (first | (go_at_call 97; refine (l03Centre_any _ _ _ _).mono ?_; rintro e w' ⟨rfl, rfl⟩; rw [h1]) | (refine wpList_wbuild0 rfl rfl ?_) | (refine wpList_store_row rfl 29 (.tmp 8) (.tmp 23) rfl (w.heap.size) (wav 0 zerosC) rfl rfl 29 (wav 0 zerosC) BR.out ?c1 ?c2 (wav_one 0 zerosC) ?_; (case c1 => exact Try.sizeW zerosC_length); (case c2 => rfl)))
    refine bodyPost_ret (v := .tuple #[.agg (wav 0 zerosC), .int .i64 2]) (results_cell_row2 Try.results55 _ _ (w.heap.size) 29 (wav 0 zerosC) (0, 0) _ _ rfl rfl (BR.out.row _) Try.underlying29 rfl (Try.sizeW zerosC_length)) rfl ?_
    exact WavPost.err (R.out ▸ rfl) (Below.setRow BW.out (by omega) _)
  | true =>
  cases h3 : inR k (-64) 64 with
  | false =>
    have R : Hid (wRes (okLns n v u k) 2 n (fun i => rawP (fLns n v u k i)) = (2, 0, zerosC)) := by show _ = _; simp [okLns, h3, wRes]
    go_enter Try.func55, Try.ntmps55
    go_upto_region 1 with (fail)
    rw [← hW]
    clear hW
    go_wp2_with (first | (go_at_call 97; refine (l03Centre_any _ _ _ _).mono ?_; rintro e w' ⟨rfl, rfl⟩; rw [h1]) | (go_at_call 88; refine (l01In_any _ _ _ _).mono ?_; rintro e w' ⟨rfl, rfl⟩; rw [h3]) | (refine wpList_wbuild0 rfl rfl ?_) | (refine wpList_store_row rfl 29 (.tmp 8) (.tmp 23) rfl (w.heap.size) (wav 0 zerosC) rfl rfl 29 (wav 0 zerosC) BR.out ?c1 ?c2 (wav_one 0 zerosC) ?_; (case c1 => exact Try.sizeW zerosC_length); (case c2 => rfl)))
    refine bodyPost_ret (v := .tuple #[.agg (wav 0 zerosC), .int .i64 2]) (results_cell_row2 Try.results55 _ _ (w.heap.size) 29 (wav 0 zerosC) (0, 0) _ _ rfl rfl (BR.out.row _) Try.underlying29 rfl (Try.sizeW zerosC_length)) rfl ?_
    exact WavPost.err (R.out ▸ rfl) (Below.setRow BW.out (by omega) _)
  | true =>
    have H3 := inR_true h3
    have h1' := h1
    simp only [okCen, Bool.and_eq_true] at h1'
    obtain ⟨⟨hs, hv0⟩, hu0⟩ := h1'
    have hv := inR_true hv0
    have hu := inR_true hu0
    clear hv0 hu0
    obtain ⟨nn, rfl, hn1, hn2⟩ := isSd_nat hs
    have R : Hid (wRes (okLns nn v u k) 2 nn (fun i => rawP (fLns nn v u k i)) = (0, (nn : Int), fillL (nn * nn) (fun i => rawP (fLns nn v u k i)))) := by show _ = _; simp only [okLns, h1, h3, wRes, Bool.and_true, if_true, Int.toNat_natCast]
    have hnn := sq64 hn2
    obtain ⟨m, hm⟩ : ∃ m, m = nn * nn := ⟨_, rfl⟩
    rw [← hm] at hnn
    have HM := Lib.hid hm
    clear hm
    have hn0 : ¬ (nn : Int) = 0 := by omega
    go_enter Try.func55, Try.ntmps55
    go_upto_region 1 with (fail)
    rw [← hW]
    clear hW
    go_wp2_with (first | (go_at_call 97; refine (l03Centre_any _ _ _ _).mono ?_; rintro e w' ⟨rfl, rfl⟩; rw [h1]) | (go_at_call 88; refine (l01In_any _ _ _ _).mono ?_; rintro e w' ⟨rfl, rfl⟩; rw [h3]))
    refine (l01Empty_any _ W0).mono ?_
    rintro e w2 ⟨rfl, hb2⟩
    have hsz := hb2.size
    have B2 := BR.out.below hb2
    have hlt := B2.lt
    have BW2 := Lib.hid (BW.out.trans (hb2.mono BW.out.size))
    have C3 := Lib.hid (Blk.new w2 (wav 0 zerosC) 29)
    have B3 := Lib.hid ((B2.alloc (.cells (wav 0 zerosC) 29)).rowOther (by omega : w.heap.size ≠ w2.heap.size) (wav nn zerosC))
    have D3 := Lib.hid (C3.out.row (wav nn zerosC))
    have HB3 := Lib.hid (Below.setRow ((Below.refl _ w2).alloc (Nat.le_refl _) (.cells (wav 0 zerosC) 29)) (Nat.le_refl _) (g := w2.heap.size) (wav nn zerosC))
    clear B2 hb2
    go_wp2_with (refine wpList_store_row rfl 29 (.tmp 10) (.tmp 25) rfl w2.heap.size (wav nn zerosC) rfl rfl 29 (wav 0 zerosC) C3.out ?c1 ?c2 (wav_one _ _) ?_; (case c1 => exact Try.sizeW zerosC_length); (case c2 => rfl))
    go_loopw [11, 12] (fun yv _ wr => ∃ y : Nat, y ≤ nn ∧ yv = .int .i64 y ∧ Below w2.heap.size w2 wr ∧ Hid (Blk wr (w.heap.size) (wav 0 zerosC) 29 ∧ Blk wr w2.heap.size (wav nn (fillL (nn * y) (fun i => rawP (fLns nn v u k i)))) 29)) (fun yv _ _ => nn - (intOf yv).toNat)
    case atStart => exact ⟨0, Nat.zero_le _, rfl, HB3.out, B3.out, D3.out⟩
    case round =>
      clear B3 D3 HB3
      obtain ⟨y, hy, rfl, hbl, hcur⟩ := hrel
      have HB := Lib.hid hbl; clear hbl
      obtain ⟨hz1, hc⟩ := hcur.out
      clear hcur
      by_cases hlty : y < nn
      · obtain ⟨b, hb⟩ : ∃ b, b = nn * y := ⟨_, rfl⟩
        have hbi : (nn : Int) * y = b := by rw [hb, Int.natCast_mul]
        have hbn : b + nn ≤ m := by
          have := Nat.mul_le_mul (Nat.le_refl nn) (by omega : y + 1 ≤ nn)
          rw [Nat.mul_succ, ← hb, ← HM.out] at this; omega
        rw [← hb] at hc
        have HBE := Lib.hid hb
        have HC := Lib.hid hc
        have HZ := Lib.hid hz1
        clear hb hc hz1
        go_wp2
        go_loopw [12] (fun xv wx => ∃ x : Nat, x ≤ nn ∧ xv = .int .i64 x ∧ Below w2.heap.size w2 wx ∧ Hid (Blk wx (w.heap.size) (wav 0 zerosC) 29 ∧ Blk wx w2.heap.size (wav nn (fillL (b + x) (fun i => rawP (fLns nn v u k i)))) 29)) (fun xv _ => nn - (intOf xv).toNat)
        case atStart => exact ⟨0, Nat.zero_le _, rfl, HB.out, HZ.out, HC.out⟩
        case round =>
          clear HB HZ HC
          obtain ⟨x, hx, rfl, hbl, hcur⟩ := hrel
          have HB := Lib.hid hbl; clear hbl
          obtain ⟨hz1, hc⟩ := hcur.out
          clear hcur
          by_cases hltx : x < nn
          · have hl := fillL_length (fun i => rawP (fLns nn v u k i)) (by omega : b + x ≤ 64)
            obtain ⟨j, hj⟩ : ∃ j, j = b + x := ⟨_, rfl⟩
            rw [← hj] at hc hl
            have hji : (b : Int) + x = j := by omega
            have c0 := hc.wavCell (by omega : j < (fillL j (fun i => rawP (fLns nn v u k i))).length)
            have f0 := hc.frozen (1 + j)
            obtain ⟨y0, hy0⟩ : ∃ y0, y0 = (fillL j (fun i => rawP (fLns nn v u k i))).getD j (0, 0) := ⟨_, rfl⟩
            rw [← hy0] at c0
            have hdm := idx_div (y := y) hltx
            rw [← HBE.out, ← hj] at hdm
            have hfz : fLns nn v u k j = k * dstF y x v u := by unfold fLns; rw [hdm.1, hdm.2]
            have hd := dst_bounds (y := y) (x := x) (v := v) (u := u) (by omega) (by omega) (by omega) (by omega)
            have HD := Lib.hid (fun w => l03Distance_any y x v u w (by omega) (by omega) (by omega) (by omega))
            obtain ⟨d, hde⟩ : ∃ d, d = dstF y x v u := ⟨_, rfl⟩
            rw [← hde] at hd HD hfz
            have hzb := mulB k d 64 800 (by omega) (by omega)
            obtain ⟨z, hze⟩ : ∃ z, z = k * d := ⟨_, rfl⟩
            rw [← hze] at hzb hfz
            have hze2 : k * d = z := hze.symm
            have HFZ := Lib.hid hfz
            clear hze hde hfz
            have HC := Lib.hid hc
            have HZ := Lib.hid hz1
            have HL := Lib.hid hl
            have HDM := Lib.hid hdm
            have HJ := Lib.hid hj
            clear hc hz1 hl hy0 hdm hj
            go_wp2_with (first | (go_at_call 76; refine (l01Phase_any z (by omega) _).mono ?_; rintro e w' ⟨rfl, rfl⟩) | (go_at_call 98; refine (HD.out _).mono ?_; rintro e w' ⟨rfl, rfl⟩))
            go_roundw
            case rel =>
              refine ⟨x + 1, by omega, by go_num, HB.out.setCell (by exact Nat.le_refl _) _, HZ.out.other (by omega) _ _, ?_⟩
              rw [show b + (x + 1) = j + 1 by (have := HJ.out; omega), ← fillL_set (fun i => rawP (fLns nn v u k i)) (by omega : j < 64)]
              have h := HC.out.wavSet j (phaseV (z % 64).toNat).1 (phaseV (z % 64).toNat).2
              rw [show rawP (fLns nn v u k j) = ((phaseV (z % 64).toNat).1, (phaseV (z % 64).toNat).2) by rw [HFZ.out]; rfl]
              exact h
            case measure => simp [intOf]; omega
          · have ex : x = nn := by omega
            subst ex
            have hbe : b + x = x * (y + 1) := by rw [Nat.mul_succ, ← HBE.out]
            rw [hbe] at hc
            have HC := Lib.hid hc
            have HZ := Lib.hid hz1
            clear hc hz1 hbe
            go_wp2
            go_roundw
            case rel => exact ⟨y + 1, by omega, by go_num, HB.out, HZ.out, HC.out⟩
            case measure => simp [intOf]; omega
      · have ey : y = nn := by omega
        rw [ey] at hc
        have hl := fillL_length (fun i => rawP (fLns nn v u k i)) (sq64 hn2)
        have HC := Lib.hid hc
        have HZ := Lib.hid hz1
        have HL := Lib.hid hl
        clear hc hz1 hl
        go_wp2_with (first | (refine wpList_load_row rfl 29 (.tmp 10) rfl w2.heap.size rfl 29 (wav nn (fillL (nn * nn) (fun i => rawP (fLns nn v u k i)))) (0, 0) _ HC.out Try.underlying29 rfl (Try.sizeW HL.out) ?_) | (refine wpList_store_row rfl 29 (.tmp 8) (.tmp 51) rfl (w.heap.size) (wav nn (fillL (nn * nn) (fun i => rawP (fLns nn v u k i)))) rfl rfl 29 (wav 0 zerosC) HZ.out (Try.sizeW HL.out) (by rw [wav_size, wav_size, HL.out]; rfl) (wav_one _ _) ?_))
        refine bodyPost_ret (v := .tuple #[.agg (wav nn (fillL (nn * nn) (fun i => rawP (fLns nn v u k i)))), .int .i64 0]) (results_cell_row2 Try.results55 _ _ (w.heap.size) 29 (wav nn (fillL (nn * nn) (fun i => rawP (fLns nn v u k i)))) (0, 0) _ _ rfl rfl (HZ.out.row _) Try.underlying29 rfl (Try.sizeW HL.out)) rfl ?_
        exact ⟨by rw [R.out], Below.setRow (BW2.out.trans (HB.out.mono BW2.out.size)) (by omega) _⟩
end Go.Proofs.Ytficghohflmdeaa
