/- WaveOfHeights: the reference's side. -/
import Derived.Test.YtficghohflmdeaaWHgt
namespace Go.Proofs.Ytficghohflmdeaa
open Go.RowKit
set_option linter.unusedVariables false

set_option maxRecDepth 10000 in
set_option maxHeartbeats 2000000 in
theorem rawWaveOfHeights_any (n : Int) (bs : List Int) (a : Option Addr) (c : Nat) (w : World) (hrd : RdI w a bs) (hl : bs.length ≤ 9223372036854775807) :
    Calls Try.prog 59 #[.int .i64 n, .slice a bs.length c] w (WavPost (wRes (okHgt n bs) 1 n (fun i => rawP (bs.getD i 0))) w) := by
  have hz := (zero_of_info Try.infoW).1
  obtain ⟨W0, hW⟩ : ∃ W0, W0 = (w.alloc (.cells (wav 0 zerosC) 29)) := ⟨_, rfl⟩
  have hb0 : Below w.heap.size w W0 := by rw [hW]; exact ((Below.refl _ _).alloc (Nat.le_refl _) _)
  have b0 : Blk W0 w.heap.size (wav 0 zerosC) 29 := by rw [hW]; exact Blk.new w _ _
  have BR := Lib.hid b0
  have BW := Lib.hid hb0
  clear hb0 b0
  have HX := Lib.hid (hrd.below BW.out)
  clear hrd
  cases h1 : okHgt n bs with
  | false =>
    have R : Hid (wRes false 1 n (fun i => rawP (bs.getD i 0)) = (1, 0, zerosC)) := rfl
    go_enter Try.func59, Try.ntmps59
    go_upto_region 1 with (fail)
    rw [← hW]
    clear hW
    go_wp2_with (first | (go_at_call 106; refine (l07Is_any _ bs a c _ HX.out hl).mono ?_; rintro e w' ⟨rfl, rfl⟩; rw [h1]) | (refine wpList_wbuild0 rfl rfl ?_) | (refine wpList_store_row rfl 29 (.tmp 4) (.tmp 12) rfl (w.heap.size) (wav 0 zerosC) rfl rfl 29 (wav 0 zerosC) BR.out ?c1 ?c2 (wav_one 0 zerosC) ?_; (case c1 => exact Try.sizeW zerosC_length); (case c2 => rfl)))
    refine bodyPost_ret (v := .tuple #[.agg (wav 0 zerosC), .int .i64 1]) (results_cell_row2 Try.results59 _ _ (w.heap.size) 29 (wav 0 zerosC) (0, 0) _ _ rfl rfl (BR.out.row _) Try.underlying29 rfl (Try.sizeW zerosC_length)) rfl ?_
    exact WavPost.err (R.out ▸ rfl) (Below.setRow BW.out (by omega) _)
  | true =>
    have h1' := h1
    simp only [okHgt, Bool.and_eq_true, decide_eq_true_eq] at h1'
    obtain ⟨hs, hln, hall⟩ := h1'
    obtain ⟨nn, rfl, hn1, hn2⟩ := isSd_nat hs
    have R : Hid (wRes true 1 nn (fun i => rawP (bs.getD i 0)) = (0, (nn : Int), fillL (nn * nn) (fun i => rawP (bs.getD i 0)))) := by show _ = _; simp only [wRes, if_true, Int.toNat_natCast]
    have hlm : bs.length = nn * nn := by rw [← Int.natCast_mul] at hln; omega
    have hnn : bs.length ≤ 64 := by rw [hlm]; exact sq64 hn2
    have HM := Lib.hid hlm
    have HALL := Lib.hid hall
    clear hln hall hlm
    have hn0 : ¬ (nn : Int) = 0 := by omega
    go_enter Try.func59, Try.ntmps59
    go_upto_region 1 with (fail)
    rw [← hW]
    clear hW
    go_wp2_with (first | (go_at_call 106; refine (l07Is_any _ bs a c _ HX.out hl).mono ?_; rintro e w' ⟨rfl, rfl⟩; rw [h1]))
    refine (l01Empty_any _ W0).mono ?_
    rintro e w2 ⟨rfl, hb2⟩
    have hsz := hb2.size
    have B2 := BR.out.below hb2
    have hlt := B2.lt
    have HX2 := Lib.hid (HX.out.below hb2)
    have BW2 := Lib.hid (BW.out.trans (hb2.mono BW.out.size))
    have C3 := Lib.hid (Blk.new w2 (wav 0 zerosC) 29)
    have B3 := Lib.hid ((B2.alloc (.cells (wav 0 zerosC) 29)).rowOther (by omega : w.heap.size ≠ w2.heap.size) (wav nn zerosC))
    have D3 := Lib.hid (C3.out.row (wav nn zerosC))
    have HB3 := Lib.hid (Below.setRow ((Below.refl _ w2).alloc (Nat.le_refl _) (.cells (wav 0 zerosC) 29)) (Nat.le_refl _) (g := w2.heap.size) (wav nn zerosC))
    clear B2 hb2
    go_wp2_with (refine wpList_store_row rfl 29 (.tmp 6) (.tmp 14) rfl w2.heap.size (wav nn zerosC) rfl rfl 29 (wav 0 zerosC) C3.out ?c1 ?c2 (wav_one _ _) ?_; (case c1 => exact Try.sizeW zerosC_length); (case c2 => rfl))
    go_loopw [7] (fun i wr => ∃ j : Nat, j ≤ bs.length ∧ i = .int .i64 j ∧ Below w2.heap.size w2 wr ∧ Hid (Blk wr (w.heap.size) (wav 0 zerosC) 29 ∧ Blk wr w2.heap.size (wav nn (fillL j (fun i => rawP (bs.getD i 0)))) 29)) (fun i _ => bs.length - (intOf i).toNat)
    case atStart => exact ⟨0, Nat.zero_le _, rfl, HB3.out, B3.out, D3.out⟩
    case round =>
      clear B3 D3 HB3
      obtain ⟨j, hj, rfl, hbl, hcur⟩ := hrel
      have HB := Lib.hid hbl; clear hbl
      obtain ⟨hz1, hc⟩ := hcur.out
      clear hcur
      have hl := fillL_length (fun i => rawP (bs.getD i 0)) (by omega : j ≤ 64)
      by_cases hltj : j < bs.length
      · have c0 := hc.wavCell (by omega : j < (fillL j (fun i => rawP (bs.getD i 0))).length)
        have f0 := hc.frozen (1 + j)
        obtain ⟨y0, hy0⟩ : ∃ y0, y0 = (fillL j (fun i => rawP (bs.getD i 0))).getD j (0, 0) := ⟨_, rfl⟩
        rw [← hy0] at c0
        obtain ⟨b, off, rfl, hcx⟩ := (HX2.out.below HB.out) j hltj
        have hzb := allH_at HALL.out j hltj
        have hfz : rawP (bs.getD j 0) = rawP (bs.getD j 0) := rfl
        obtain ⟨z, hze⟩ : ∃ z, z = bs.getD j 0 := ⟨_, rfl⟩
        rw [← hze] at hzb hcx
        have HFZ := Lib.hid hze
        clear hze hfz
        have HC := Lib.hid hc
        have HZ := Lib.hid hz1
        have HL := Lib.hid hl
        clear hc hz1 hl hy0
        go_wp2_with (first | (go_at_call 76; refine (l01Phase_any z (by omega) _).mono ?_; rintro e w' ⟨rfl, rfl⟩))
        go_roundw
        case rel =>
          refine ⟨j + 1, by omega, by go_num, HB.out.setCell (by exact Nat.le_refl _) _, HZ.out.other (by omega) _ _, ?_⟩
          rw [← fillL_set (fun i => rawP (bs.getD i 0)) (by omega : j < 64)]
          have h := HC.out.wavSet j (phaseV (z % 64).toNat).1 (phaseV (z % 64).toNat).2
          rw [show rawP (bs.getD j 0) = ((phaseV (z % 64).toNat).1, (phaseV (z % 64).toNat).2) by rw [← HFZ.out]; rfl]
          exact h
        case measure => simp [intOf]; omega
      · have ej : j = bs.length := by omega
        subst ej
        have HC := Lib.hid hc
        have HZ := Lib.hid hz1
        have HL := Lib.hid hl
        clear hc hz1 hl
        go_wp2_with (first | (refine wpList_load_row rfl 29 (.tmp 6) rfl w2.heap.size rfl 29 (wav nn (fillL bs.length (fun i => rawP (bs.getD i 0)))) (0, 0) _ HC.out Try.underlying29 rfl (Try.sizeW HL.out) ?_) | (refine wpList_store_row rfl 29 (.tmp 4) (.tmp 29) rfl (w.heap.size) (wav nn (fillL bs.length (fun i => rawP (bs.getD i 0)))) rfl rfl 29 (wav 0 zerosC) HZ.out (Try.sizeW HL.out) (by rw [wav_size, wav_size, HL.out]; rfl) (wav_one _ _) ?_))
        refine bodyPost_ret (v := .tuple #[.agg (wav nn (fillL bs.length (fun i => rawP (bs.getD i 0)))), .int .i64 0]) (results_cell_row2 Try.results59 _ _ (w.heap.size) 29 (wav nn (fillL bs.length (fun i => rawP (bs.getD i 0)))) (0, 0) _ _ rfl rfl (HZ.out.row _) Try.underlying29 rfl (Try.sizeW HL.out)) rfl ?_
        exact ⟨by rw [R.out, HM.out], Below.setRow (BW2.out.trans (HB.out.mono BW2.out.size)) (by omega) _⟩
end Go.Proofs.Ytficghohflmdeaa
