/- WaveOfHeights: the walks. -/
import Derived.Test.YtficghohflmdeaaInt
namespace Go.Proofs.Ytficghohflmdeaa
open Go.RowKit
set_option linter.unusedVariables false
set_option maxRecDepth 10000 in
set_option maxHeartbeats 2000000 in
theorem waveBy_hgt (caps : Array Value) (n : Nat) (hn : 1 ≤ n) (hn2 : n ≤ 8) (G : Nat → Nat × Nat) (w : World)
    (hf : ∀ (i : Nat) (wr : World), i < n * n → Below w.heap.size w wr → Calls Try.prog 108 (#[.int .i64 ((i : Int) / n), .int .i64 ((i : Int) % n), .int .i64 i] ++ caps) wr fun e w' => e = .returned (.complex .f32 (G i).1 (G i).2) ∧ Below wr.heap.size wr w') :
    Calls Try.prog 93 #[.int .i64 n, .func (.func 108) #[] caps] w fun e w' => e = .returned (.agg (wav n (fillL (n * n) G))) ∧ Below w.heap.size w w' := by
  have hz := (zero_of_info Try.infoW).1
  have hnn : n * n ≤ 64 := by have := Nat.mul_le_mul hn2 hn2; omega
  obtain ⟨m, hm⟩ : ∃ m, m = n * n := ⟨_, rfl⟩
  have hmul : (n : Int) * n = m := by rw [hm, Int.natCast_mul]
  have h0 : ¬ (n : Int) = 0 := by omega
  have hm64 : m ≤ 64 := by omega
  rw [← hm] at hf ⊢
  have HF := Lib.hid hf
  have HM := Lib.hid hm
  clear hf hm hnn
  go_enter Try.func93, Try.ntmps93
  have h2 := blk2 w (.cells (wav 0 zerosC) 29) (.cells (wav 0 zerosC) 29)
  have hs1 : ((w.alloc (.cells (wav 0 zerosC) 29)).alloc (.cells (wav 0 zerosC) 29)).heap[w.heap.size + 1]? = some (.cells (wav 0 zerosC) 29) := h2.2
  have H0 := Lib.hid h2.1
  have H1 := Lib.hid hs1
  clear h2 hs1
  go_wp2_with (first | (refine wpList_wbuild1 rfl (.tmp 7) n rfl rfl ?_) | (refine wpList_store_row rfl 29 (.tmp 5) (.tmp 8) rfl (w.heap.size + 1) (wav n zerosC) rfl rfl 29 (wav 0 zerosC) H1.out ?c1 ?c2 (wav_one n zerosC) ?_; (case c1 => exact Try.sizeW zerosC_length); (case c2 => rfl)))
  go_loopw [6, 12] (fun _ i wr => ∃ k : Nat, k ≤ m ∧ i = .int .i64 k ∧ Below w.heap.size w wr ∧ Hid (Blk wr w.heap.size (wav 0 zerosC) 29 ∧ Blk wr (w.heap.size + 1) (wav n (fillL k G)) 29)) (fun _ i _ => m - (intOf i).toNat)
  case atStart =>
    refine ⟨0, Nat.zero_le _, rfl, ?_, Blk.rowOther H0.out (by omega) _, Blk.row H1.out _⟩
    · exact Below.setRow (((Below.refl _ _).alloc (Nat.le_refl _) _).alloc (by simp) _) (by omega) _
  case round =>
    obtain ⟨k, hk, rfl, hbl, hcur⟩ := hrel
    have HB := Lib.hid hbl; clear hbl
    obtain ⟨hz1, hc⟩ := hcur.out
    clear hcur hz
    have hl := fillL_length G (by omega : k ≤ 64)
    by_cases hlt : k < m
    · have hcf := HF.out k wr.drew hlt (below_drewN' HB.out 1)
      obtain ⟨p, hp⟩ : ∃ p, p = G k := ⟨_, rfl⟩
      rw [← hp] at hcf
      have HCF := Lib.hid hcf
      have HP := Lib.hid hp
      have HC := Lib.hid hc
      have HZ := Lib.hid hz1
      have HL := Lib.hid hl
      clear hc hz1 hl hcf hp
      have hwr : IntKind.i64.wrap ((k : Int) / n) = (k : Int) / n := by
        have h1 := Int.ediv_nonneg (by omega : (0 : Int) ≤ k) (by omega : (0 : Int) ≤ n)
        have h2 := Int.ediv_le_self (b := (n : Int)) (by omega : (0 : Int) ≤ k)
        exact IntWalk.i64_in _ (by omega)
      have c0 := HC.out.wavCell (by rw [HL.out]; omega : k < (fillL k G).length)
      have f0 := HC.out.frozen (1 + k)
      obtain ⟨y, hy⟩ : ∃ y, y = (fillL k G).getD k (0, 0) := ⟨_, rfl⟩
      rw [← hy] at c0
      clear hy
      go_wp2
      go_region_with (((try rw [hwr]); refine HCF.out.mono ?_; rintro e w' ⟨rfl, hb⟩; have HC2 := Lib.hid ((HC.out.drewN 1).below hb); have HZ2 := Lib.hid ((HZ.out.drewN 1).below hb); have HB2 := Lib.hid (Below.drewTrans HB.out hb HB.out.size); have c1 := HC2.out.wavCell (by rw [HL.out]; omega : k < (fillL k G).length); have f1 := HC2.out.frozen (1 + k); obtain ⟨y2, hy2⟩ : ∃ y2, y2 = (fillL k G).getD k (0, 0) := ⟨_, rfl⟩; rw [← hy2] at c1; clear hb hy2))
      all_goals
        go_wp2
        go_roundw
        case rel =>
          refine ⟨k + 1, by omega, by go_num, HB2.out.setCell (by exact (by omega : w.heap.size ≤ w.heap.size + 1)) _, HZ2.out.other (by omega) _ _, ?_⟩
          rw [← fillL_set G (by omega : k < 64), ← HP.out]
          exact HC2.out.wavSet k p.1 p.2
        case measure => simp [intOf]; omega
    · have ek : k = m := by omega
      subst ek
      have HC := Lib.hid hc
      have HZ := Lib.hid hz1
      have HL := Lib.hid hl
      clear hc hz1 hl
      go_wp2_with (first | (refine wpList_load_row rfl 29 (.tmp 5) rfl (w.heap.size + 1) rfl 29 (wav n (fillL k G)) (0, 0) _ HC.out Try.underlying29 rfl (Try.sizeW HL.out) ?_) | (refine wpList_store_row rfl 29 (.tmp 4) (.tmp 28) rfl w.heap.size (wav n (fillL k G)) rfl rfl 29 (wav 0 zerosC) HZ.out (Try.sizeW HL.out) (by rw [wav_size, wav_size, HL.out]; rfl) (wav_one n _) ?_))
      refine bodyPost_ret (v := .agg (wav n (fillL k G))) (results_cell_row Try.results93 _ _ w.heap.size 29 (wav n (fillL k G)) (0, 0) _ rfl (HZ.out.row _) Try.underlying29 rfl (Try.sizeW HL.out)) rfl ?_
      exact ⟨rfl, Below.setRow HB.out (Nat.le_refl _) _⟩

theorem hgtCl_any (bs : List Int) (a : Option Addr) (c g : Nat) (y x : Int) (i : Nat) (w : World) (hi : i < bs.length) (hl : bs.length ≤ 64) (hx : -100000 ≤ bs.getD i 0 ∧ bs.getD i 0 ≤ 100000) (hb : w.cell? ⟨g, 0, none⟩ = some (.slice a bs.length c)) (hrd : RdI w a bs) :
    Calls Try.prog 108 #[.int .i64 y, .int .i64 x, .int .i64 i, .pointer (some ⟨g, 0, none⟩)] w fun e w' => e = .returned (.complex .f32 (phaseP (bs.getD i 0)).1 (phaseP (bs.getD i 0)).2) ∧ Below w.heap.size w w' := by
  obtain ⟨b, off, rfl, hc⟩ := hrd _ hi
  obtain ⟨z, hz⟩ : ∃ z, z = bs.getD i 0 := ⟨_, rfl⟩
  rw [← hz] at hc hx ⊢
  clear hz hrd
  go_enter Try.func108, Try.ntmps108
  go_wp2_with fail
  refine (implPhase_any z (by omega) w).mono ?_
  rintro e w2 ⟨rfl, hb⟩
  have HB := Lib.hid hb
  clear hb
  go_wp2
  go_ret
  exact ⟨rfl, HB.out⟩

set_option maxRecDepth 10000 in
set_option maxHeartbeats 2000000 in
theorem signedWaveOfHeights_any (n : Int) (bs : List Int) (a : Option Addr) (c : Nat) (w : World) (hrd : RdI w a bs) (hl : bs.length ≤ 9223372036854775807) :
    Calls Try.prog 60 #[.int .i64 n, .slice a bs.length c] w (WavPost (wRes (okHgt n bs) 1 n (fun i => phaseP (bs.getD i 0))) w) := by
  have hz := (zero_of_info Try.infoW).1
  obtain ⟨W0, hW⟩ : ∃ W0, W0 = (w.alloc (.cells #[.slice a bs.length c] 38)).alloc (.cells (wav 0 zerosC) 29) := ⟨_, rfl⟩
  have hb0 : Below w.heap.size w W0 := by rw [hW]; exact ((Below.refl _ _).alloc (Nat.le_refl _) _).alloc (by simp) _
  have h3 := blk2 w (.cells #[.slice a bs.length c] 38) (.cells (wav 0 zerosC) 29)
  rw [← hW] at h3
  have b0 : Blk W0 w.heap.size #[.slice a bs.length c] 38 := h3.1
  have b1 : Blk W0 (w.heap.size + 1) (wav 0 zerosC) 29 := h3.2
  have c0 : W0.cell? ⟨w.heap.size, 0, none⟩ = some (.slice a bs.length c) := by rw [b0.cell]; rfl
  have HX := Lib.hid (hrd.below hb0)
  have BR := Lib.hid b1
  have BW := Lib.hid hb0
  clear hb0 b0 b1 h3 hrd
  cases h1 : okHgt n bs with
  | false =>
    have R : Hid (wRes false 1 n (fun i => phaseP (bs.getD i 0)) = (1, 0, zerosC)) := rfl
    go_enter Try.func60, Try.ntmps60
    go_upto_region 1 with (fail)
    rw [← hW]
    clear hW
    go_wp2_with (first | (go_at_call 107; refine (isHM_any _ bs a c _ HX.out hl).mono ?_; rintro e w' ⟨rfl, rfl⟩; rw [h1]) | (refine wpList_wbuild0 rfl rfl ?_) | (refine wpList_store_row rfl 29 (.tmp 4) (.tmp 10) rfl (w.heap.size + 1) (wav 0 zerosC) rfl rfl 29 (wav 0 zerosC) BR.out ?c1 ?c2 (wav_one 0 zerosC) ?_; (case c1 => exact Try.sizeW zerosC_length); (case c2 => rfl)))
    refine bodyPost_ret (v := .tuple #[.agg (wav 0 zerosC), .int .i64 1]) (results_cell_row2 Try.results60 _ _ (w.heap.size + 1) 29 (wav 0 zerosC) (0, 0) _ _ rfl rfl (BR.out.row _) Try.underlying29 rfl (Try.sizeW zerosC_length)) rfl ?_
    exact WavPost.err (R.out ▸ rfl) (Below.setRow BW.out (by omega) _)
  | true =>
    have h1' := h1
    simp only [okHgt, Bool.and_eq_true, decide_eq_true_eq] at h1'
    obtain ⟨hs, hln, hall⟩ := h1'
    obtain ⟨nn, rfl, hn1, hn2⟩ := isSd_nat hs
    have R : Hid (wRes true 1 nn (fun i => phaseP (bs.getD i 0)) = (0, (nn : Int), fillL (nn * nn) (fun i => phaseP (bs.getD i 0)))) := by show _ = _; simp only [wRes, if_true, Int.toNat_natCast]
    have HLN : Hid (bs.length = nn * nn) := by show _ = _; rw [← Int.natCast_mul] at hln; omega
    have HALL := Lib.hid hall
    clear hln hall
    go_enter Try.func60, Try.ntmps60
    go_upto_region 1 with (fail)
    rw [← hW]
    clear hW
    go_wp2_with (first | (go_at_call 107; refine (isHM_any _ bs a c _ HX.out hl).mono ?_; rintro e w' ⟨rfl, rfl⟩; rw [h1]))
    refine (waveBy_hgt #[.pointer (some ⟨w.heap.size, 0, none⟩)] nn hn1 hn2 (fun i => phaseP (bs.getD i 0)) W0 ?hf).mono ?_
    case hf =>
      intro i wr hi hb
      have hi2 : i < bs.length := by rw [HLN.out]; exact hi
      refine (hgtCl_any bs a c w.heap.size _ _ i wr hi2 (by rw [HLN.out]; exact sq64 hn2) (allH_at HALL.out i hi2) ?_ (HX.out.below hb)).mono ?_
      · rw [hb.cell (by exact block_lt_of_cell c0)]; exact c0
      · rintro e w' ⟨rfl, hb⟩; exact ⟨rfl, hb⟩
    rintro e w2 ⟨rfl, hb2⟩
    have B2 := Lib.hid (BR.out.below hb2)
    have BW2 := Lib.hid (BW.out.trans (hb2.mono BW.out.size))
    have hl := fillL_length (fun i => phaseP (bs.getD i 0)) (sq64 hn2)
    have HL := Lib.hid hl
    clear hb2 hl
    go_wp2_with (refine wpList_store_row rfl 29 (.tmp 4) (.tmp 13) rfl (w.heap.size + 1) (wav nn (fillL (nn * nn) (fun i => phaseP (bs.getD i 0)))) rfl rfl 29 (wav 0 zerosC) B2.out ?c1 ?c2 (wav_one _ _) ?_; (case c1 => exact Try.sizeW HL.out); (case c2 => (rw [wav_size, wav_size, HL.out]; rfl)))
    refine bodyPost_ret (v := .tuple #[.agg (wav nn (fillL (nn * nn) (fun i => phaseP (bs.getD i 0)))), .int .i64 0]) (results_cell_row2 Try.results60 _ _ (w.heap.size + 1) 29 (wav nn (fillL (nn * nn) (fun i => phaseP (bs.getD i 0)))) (0, 0) _ _ rfl rfl (B2.out.row _) Try.underlying29 rfl (Try.sizeW HL.out)) rfl ?_
    exact ⟨by rw [R.out], Below.setRow BW2.out (by omega) _⟩
end Go.Proofs.Ytficghohflmdeaa
