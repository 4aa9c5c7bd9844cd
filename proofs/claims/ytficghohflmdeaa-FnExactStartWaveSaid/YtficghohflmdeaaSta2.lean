/- StartWave: cells, limits. -/
import Derived.Test.YtficghohflmdeaaSta1
namespace Go.Proofs.Ytficghohflmdeaa
open Go.RowKit
set_option linter.unusedVariables false

theorem isComplex_any (a b : Nat) (w : World) : Calls Try.prog 146 #[.complex .f32 a b] w fun e w' => e = .returned (.bool (isNum a && isNum b)) ∧ Quiet w w' := by
  cases h1 : isNum a with
  | false =>
    go_enter Try.func146, Try.ntmps146
    go_wp2_with (go_at_call 132; refine (isNumber_any _ _).mono ?_; rintro e w' ⟨rfl, n, rfl⟩; rw [h1])
    go_ret
    exact ⟨rfl, _, rfl⟩
  | true =>
    go_enter Try.func146, Try.ntmps146
    go_wp2_with fail
    refine (isNumber_any _ _).mono ?_
    rintro e w' ⟨rfl, n, rfl⟩
    rw [h1]
    go_wp2_with fail
    refine (isNumber_any _ _).mono ?_
    rintro e w' ⟨rfl, n2, rfl⟩
    go_wp2
    go_ret
    exact ⟨rfl, _, rfl⟩
theorem l01Whole_any (a b : Nat) (w : World) : Calls Try.prog 145 #[.complex .f32 a b] w fun e w' => e = .returned (.bool (isNum a && isNum b)) ∧ Quiet w w' := by
  cases h1 : isNum a with
  | false =>
    go_enter Try.func145, Try.ntmps145
    go_wp2_with (go_at_call 130; refine (l01Fine_any _ _).mono ?_; rintro e w' ⟨rfl, n, rfl⟩; rw [h1])
    go_ret
    exact ⟨rfl, _, rfl⟩
  | true =>
    go_enter Try.func145, Try.ntmps145
    go_wp2_with fail
    refine (l01Fine_any _ _).mono ?_
    rintro e w' ⟨rfl, n, rfl⟩
    rw [h1]
    go_wp2_with fail
    refine (l01Fine_any _ _).mono ?_
    rintro e w' ⟨rfl, n2, rfl⟩
    go_wp2
    go_ret
    exact ⟨rfl, _, rfl⟩
theorem times_any (r a b : Nat) (hr : isNum r = true) (ha : isNum a = true) (hb : isNum b = true) (w : World) : Calls Try.prog 140 #[.float .f32 r, .complex .f32 a b] w fun e w' => e = .returned (.complex .f32 (mulR r a) (mulR r b)) ∧ w = w' := by
  have e1 := fres_some (mul_some hr ha).1
  have n1 := nd_some (mul_some hr ha).1
  have e2 := fres_some (mul_some hr hb).1
  have n2 := nd_some (mul_some hr hb).1
  clear hr ha hb
  go_enter Try.func140, Try.ntmps140
  go_wp2
  go_ret
  exact ⟨rfl, rfl⟩
theorem l01Scale_any (r a b : Nat) (hr : isNum r = true) (ha : isNum a = true) (hb : isNum b = true) (w : World) : Calls Try.prog 137 #[.float .f32 r, .complex .f32 a b] w fun e w' => e = .returned (.complex .f32 (mulR r a) (mulR r b)) ∧ w = w' := by
  have e1 := fres_some (mul_some hr ha).1
  have n1 := nd_some (mul_some hr ha).1
  have e2 := fres_some (mul_some hr hb).1
  have n2 := nd_some (mul_some hr hb).1
  clear hr ha hb
  go_enter Try.func137, Try.ntmps137
  go_wp2
  go_ret
  exact ⟨rfl, rfl⟩
theorem isPart_any (k : Int) (w : World) : Calls Try.prog 116 #[.int .i64 k] w fun e w' => e = .returned (.bool (inR k 0 63)) ∧ w = w' := by
  go_enter Try.func116, Try.ntmps116
  go_wp2_with (go_at_call 91; refine (within_any _ _ _ _).mono ?_; rintro e w' ⟨rfl, rfl⟩)
  go_ret
  exact ⟨rfl, rfl⟩
theorem zero_eq : (FloatKind.f32.format.order 0 0 == some .eq) = true := by decide +kernel

set_option maxRecDepth 10000 in
set_option maxHeartbeats 4000000 in
theorem IsWave_fill (nn m : Nat) (hsd : isSd nn = true) (hn1 : 1 ≤ nn) (hn2 : nn ≤ 8) (hmul : (nn : Int) * nn = m) (hm64 : m ≤ 64) (G : Nat → Nat × Nat) (w : World) :
    Calls Try.prog 138 #[.agg (wav nn (fillL m G))] w fun e w' => e = .returned (.bool (allFin m G)) ∧ Below w.heap.size w w' := by
  obtain ⟨W0, hW⟩ : ∃ W0, W0 = w.alloc (.cells (wav nn (fillL m G)) 29) := ⟨_, rfl⟩
  have hb0 : Below w.heap.size w W0 := by rw [hW]; exact (Below.refl _ _).alloc (Nat.le_refl _) _
  have b1 : Blk W0 w.heap.size (wav nn (fillL m G)) 29 := by rw [hW]; exact Blk.new w _ _
  have c0 := b1.wavSide
  have R1 := Lib.hid b1.wavMid
  have BW := Lib.hid hb0
  have B1 := Lib.hid b1
  have hz0 := zero_eq
  clear b1 hb0
  go_enter Try.func138, Try.ntmps138
  go_upto_region 1 with (fail)
  rw [← hW]
  clear hW
  go_wp2_with fail
  refine (isSide_any _ _).mono ?_
  rintro e w1 ⟨rfl, rfl⟩
  rw [hsd]
  clear hsd
  go_wp2_with (refine wpList_load_mid rfl 27 (.tmp 9) rfl w.heap.size 1 rfl ((fillL m G).map cx) _ R1.out Try.underlying27 rfl (Try.sizeC' (fillL_length G hm64)) ?_)
  go_loopw [3, 4, 11] (fun _ _ i wr => ∃ k : Nat, k ≤ 64 ∧ i = .int .i64 k ∧ Quiet W0 wr ∧ Hid (∀ j, j < k → j < m → (isNum (G j).1 && isNum (G j).2) = true)) (fun _ _ i _ => 64 - (intOf i).toNat)
  case atStart => exact ⟨0, Nat.zero_le _, rfl, Quiet.refl _, fun j h => by omega⟩
  case round =>
    obtain ⟨k, hk, rfl, ⟨q, rfl⟩, hall⟩ := hrel
    by_cases hlt : k < 64
    · have hidx := index_arC (fillL m G) (fillL_length G hm64) k hlt
      rw [fillL_get] at hidx
      by_cases h3 : k < m
      · rw [if_pos h3] at hidx
        obtain ⟨p, hp⟩ : ∃ p, p = G k := ⟨_, rfl⟩
        rw [← hp] at hidx
        have HP := Lib.hid hp
        clear hp
        cases h2 : (isNum p.1 && isNum p.2) with
        | false =>
          go_wp2_with (go_at_call 146; refine (isComplex_any _ _ _).mono ?_; rintro e w' ⟨rfl, n1, rfl⟩; rw [h2])
          go_ret
          exact ⟨ret_bool (allFin_no h3 (by rw [← HP.out]; exact h2)).symm, below_drewN' BW.out _⟩
        | true =>
          go_wp2_with (go_at_call 146; refine (isComplex_any _ _ _).mono ?_; rintro e w' ⟨rfl, n1, rfl⟩; rw [h2])
          go_roundw
          case rel =>
            refine ⟨k + 1, by omega, by go_num, ⟨_, rfl⟩, fun j hj hjm => ?_⟩
            by_cases e : j = k
            · rw [e, ← HP.out]; exact h2
            · exact hall.out j (by omega) hjm
          case measure => simp [intOf]; omega
      · rw [if_neg h3] at hidx
        have h2 : (isNum 0 && isNum 0) = true := by rw [num_zero]; rfl
        go_wp2_with (go_at_call 146; refine (isComplex_any _ _ _).mono ?_; rintro e w' ⟨rfl, n1, rfl⟩; rw [h2])
        go_roundw
        case rel =>
          refine ⟨k + 1, by omega, by go_num, ⟨_, rfl⟩, fun j hj hjm => ?_⟩
          exact hall.out j (by omega) hjm
        case measure => simp [intOf]; omega
    · have HY := Lib.hid (allFin_yes (m := m) (G := G) (fun j hj => hall.out j (by omega) hj))
      clear hall
      go_wp2
      go_ret
      exact ⟨ret_bool HY.out.symm, below_drewN' BW.out _⟩

set_option maxRecDepth 10000 in
set_option maxHeartbeats 4000000 in
theorem l01Is_fill (nn m : Nat) (hsd : isSd nn = true) (hn1 : 1 ≤ nn) (hn2 : nn ≤ 8) (hmul : (nn : Int) * nn = m) (hm64 : m ≤ 64) (G : Nat → Nat × Nat) (w : World) :
    Calls Try.prog 136 #[.agg (wav nn (fillL m G))] w fun e w' => e = .returned (.bool (allFin m G)) ∧ Below w.heap.size w w' := by
  obtain ⟨W0, hW⟩ : ∃ W0, W0 = w.alloc (.cells (wav nn (fillL m G)) 29) := ⟨_, rfl⟩
  have hb0 : Below w.heap.size w W0 := by rw [hW]; exact (Below.refl _ _).alloc (Nat.le_refl _) _
  have b1 : Blk W0 w.heap.size (wav nn (fillL m G)) 29 := by rw [hW]; exact Blk.new w _ _
  have c0 := b1.wavSide
  have R1 := Lib.hid b1.wavMid
  have BW := Lib.hid hb0
  have B1 := Lib.hid b1
  have hz0 := zero_eq
  clear b1 hb0
  go_enter Try.func136, Try.ntmps136
  go_upto_region 1 with (fail)
  rw [← hW]
  clear hW
  go_wp2_with fail
  refine (l01Side_any _ _).mono ?_
  rintro e w1 ⟨rfl, rfl⟩
  rw [hsd]
  clear hsd
  go_wp2
  go_loopw [3] (fun i wr => ∃ k : Nat, k ≤ 64 ∧ i = .int .i64 k ∧ Quiet W0 wr ∧ Hid (∀ j, j < k → j < m → (isNum (G j).1 && isNum (G j).2) = true)) (fun i _ => 64 - (intOf i).toNat)
  case atStart => exact ⟨0, Nat.zero_le _, rfl, Quiet.refl _, fun j h => by omega⟩
  case round =>
    obtain ⟨k, hk, rfl, ⟨q, rfl⟩, hall⟩ := hrel
    by_cases hlt : k < 64
    · have hcell := B1.out.wavCell (by rw [fillL_length G hm64]; exact hlt : k < (fillL m G).length)
      rw [fillL_get] at hcell
      by_cases h3 : k < m
      · rw [if_pos h3] at hcell
        obtain ⟨p, hp⟩ : ∃ p, p = G k := ⟨_, rfl⟩
        rw [← hp] at hcell
        have HP := Lib.hid hp
        clear hp
        cases h2 : (isNum p.1 && isNum p.2) with
        | false =>
          go_wp2_with (go_at_call 145; refine (l01Whole_any _ _ _).mono ?_; rintro e w' ⟨rfl, n1, rfl⟩; rw [h2])
          go_ret
          exact ⟨ret_bool (allFin_no h3 (by rw [← HP.out]; exact h2)).symm, below_drewN' BW.out _⟩
        | true =>
          go_wp2_with (go_at_call 145; refine (l01Whole_any _ _ _).mono ?_; rintro e w' ⟨rfl, n1, rfl⟩; rw [h2])
          go_roundw
          case rel =>
            refine ⟨k + 1, by omega, by go_num, ⟨_, rfl⟩, fun j hj hjm => ?_⟩
            by_cases e : j = k
            · rw [e, ← HP.out]; exact h2
            · exact hall.out j (by omega) hjm
          case measure => simp [intOf]; omega
      · rw [if_neg h3] at hcell
        have h2 : (isNum 0 && isNum 0) = true := by rw [num_zero]; rfl
        go_wp2_with (go_at_call 145; refine (l01Whole_any _ _ _).mono ?_; rintro e w' ⟨rfl, n1, rfl⟩; rw [h2])
        go_roundw
        case rel =>
          refine ⟨k + 1, by omega, by go_num, ⟨_, rfl⟩, fun j hj hjm => ?_⟩
          exact hall.out j (by omega) hjm
        case measure => simp [intOf]; omega
    · have HY := Lib.hid (allFin_yes (m := m) (G := G) (fun j hj => hall.out j (by omega) hj))
      clear hall
      go_wp2
      go_ret
      exact ⟨ret_bool HY.out.symm, below_drewN' BW.out _⟩

set_option maxRecDepth 10000 in
set_option maxHeartbeats 1000000 in
theorem limitWave_fill (nn m : Nat) (hsd : isSd nn = true) (hn1 : 1 ≤ nn) (hn2 : nn ≤ 8) (hmul : (nn : Int) * nn = m) (hm64 : m ≤ 64) (G : Nat → Nat × Nat) (w : World) :
    Calls Try.prog 117 #[.agg (wav nn (fillL m G))] w (WavPost (limW nn m G) w) := by
  have hz := (zero_of_info Try.infoW).1
  have hl := fillL_length G hm64
  obtain ⟨W0, hW⟩ : ∃ W0, W0 = (w.alloc (.cells (wav nn (fillL m G)) 29)).alloc (.cells (wav 0 zerosC) 29) := ⟨_, rfl⟩
  have hb0 : Below w.heap.size w W0 := by rw [hW]; exact ((Below.refl _ _).alloc (Nat.le_refl _) _).alloc (by simp) _
  have h3 := blk2 w (.cells (wav nn (fillL m G)) 29) (.cells (wav 0 zerosC) 29)
  rw [← hW] at h3
  have b0 : Blk W0 w.heap.size (wav nn (fillL m G)) 29 := h3.1
  have b1 : Blk W0 (w.heap.size + 1) (wav 0 zerosC) 29 := h3.2
  have B0 := Lib.hid b0
  have B1 := Lib.hid b1
  have BW := Lib.hid hb0
  have HL := Lib.hid hl
  clear hb0 h3 b0 b1 hl
  cases hp : allFin m G with
  | false =>
    have R : Hid (limW nn m G = (3, 0, zerosC)) := by show _ = _; unfold limW; rw [hp]; rfl
    go_enter Try.func117, Try.ntmps117
    go_upto_region 1 with (fail)
    rw [← hW]
    clear hW
    go_wp2_with (refine wpList_load_row rfl 29 (.tmp 1) rfl w.heap.size rfl 29 (wav nn (fillL m G)) (0, 0) _ B0.out Try.underlying29 rfl (Try.sizeW HL.out) ?_)
    refine (IsWave_fill nn m hsd hn1 hn2 hmul hm64 G _).mono ?_
    rintro e w2 ⟨rfl, hb⟩
    rw [hp]
    have B2 := Lib.hid (B1.out.below hb)
    have BW2 := Lib.hid (BW.out.trans (hb.mono BW.out.size))
    clear hb
    go_wp2_with (first | (refine wpList_wbuild0 rfl rfl ?_) | (refine wpList_store_row rfl 29 (.tmp 2) (.tmp 7) rfl (w.heap.size + 1) (wav 0 zerosC) rfl rfl 29 (wav 0 zerosC) B2.out ?c1 ?c2 (wav_one 0 zerosC) ?_; (case c1 => exact Try.sizeW zerosC_length); (case c2 => rfl)))
    refine bodyPost_ret (v := .tuple #[.agg (wav 0 zerosC), .int .i64 3]) (results_cell_row2 Try.results117 _ _ (w.heap.size + 1) 29 (wav 0 zerosC) (0, 0) _ _ rfl rfl (B2.out.row _) Try.underlying29 rfl (Try.sizeW zerosC_length)) rfl ?_
    exact WavPost.err R.out (Below.setRow BW2.out (by omega) _)
  | true =>
    have R : Hid (limW nn m G = (0, (nn : Int), fillL m G)) := by show _ = _; unfold limW; rw [hp]; rfl
    go_enter Try.func117, Try.ntmps117
    go_upto_region 1 with (fail)
    rw [← hW]
    clear hW
    go_wp2_with (refine wpList_load_row rfl 29 (.tmp 1) rfl w.heap.size rfl 29 (wav nn (fillL m G)) (0, 0) _ B0.out Try.underlying29 rfl (Try.sizeW HL.out) ?_)
    refine (IsWave_fill nn m hsd hn1 hn2 hmul hm64 G _).mono ?_
    rintro e w2 ⟨rfl, hb⟩
    rw [hp]
    have B2 := Lib.hid (B1.out.below hb)
    have B3 := Lib.hid (B0.out.below hb)
    have BW2 := Lib.hid (BW.out.trans (hb.mono BW.out.size))
    clear hb
    go_wp2_with (first | (refine wpList_load_row rfl 29 (.tmp 1) rfl w.heap.size rfl 29 (wav nn (fillL m G)) (0, 0) _ B3.out Try.underlying29 rfl (Try.sizeW HL.out) ?_) | (refine wpList_store_row rfl 29 (.tmp 2) (.tmp 8) rfl (w.heap.size + 1) (wav nn (fillL m G)) rfl rfl 29 (wav 0 zerosC) B2.out ?c1 ?c2 (wav_one _ _) ?_; (case c1 => exact Try.sizeW HL.out); (case c2 => (rw [wav_size, wav_size, HL.out]; rfl))))
    refine bodyPost_ret (v := .tuple #[.agg (wav nn (fillL m G)), .int .i64 0]) (results_cell_row2 Try.results117 _ _ (w.heap.size + 1) 29 (wav nn (fillL m G)) (0, 0) _ _ rfl rfl (B2.out.row _) Try.underlying29 rfl (Try.sizeW HL.out)) rfl ?_
    exact ⟨by rw [R.out], Below.setRow BW2.out (by omega) _⟩

set_option maxRecDepth 10000 in
set_option maxHeartbeats 1000000 in
theorem l01Told_fill (nn m : Nat) (hsd : isSd nn = true) (hn1 : 1 ≤ nn) (hn2 : nn ≤ 8) (hmul : (nn : Int) * nn = m) (hm64 : m ≤ 64) (G : Nat → Nat × Nat) (w : World) :
    Calls Try.prog 114 #[.agg (wav nn (fillL m G))] w (WavPost (limW nn m G) w) := by
  have hz := (zero_of_info Try.infoW).1
  have hl := fillL_length G hm64
  obtain ⟨W0, hW⟩ : ∃ W0, W0 = (w.alloc (.cells (wav nn (fillL m G)) 29)).alloc (.cells (wav 0 zerosC) 29) := ⟨_, rfl⟩
  have hb0 : Below w.heap.size w W0 := by rw [hW]; exact ((Below.refl _ _).alloc (Nat.le_refl _) _).alloc (by simp) _
  have h3 := blk2 w (.cells (wav nn (fillL m G)) 29) (.cells (wav 0 zerosC) 29)
  rw [← hW] at h3
  have b0 : Blk W0 w.heap.size (wav nn (fillL m G)) 29 := h3.1
  have b1 : Blk W0 (w.heap.size + 1) (wav 0 zerosC) 29 := h3.2
  have B0 := Lib.hid b0
  have B1 := Lib.hid b1
  have BW := Lib.hid hb0
  have HL := Lib.hid hl
  clear hb0 h3 b0 b1 hl
  cases hp : allFin m G with
  | false =>
    have R : Hid (limW nn m G = (3, 0, zerosC)) := by show _ = _; unfold limW; rw [hp]; rfl
    go_enter Try.func114, Try.ntmps114
    go_upto_region 1 with (fail)
    rw [← hW]
    clear hW
    go_wp2_with (refine wpList_load_row rfl 29 (.tmp 1) rfl w.heap.size rfl 29 (wav nn (fillL m G)) (0, 0) _ B0.out Try.underlying29 rfl (Try.sizeW HL.out) ?_)
    refine (l01Is_fill nn m hsd hn1 hn2 hmul hm64 G _).mono ?_
    rintro e w2 ⟨rfl, hb⟩
    rw [hp]
    have B2 := Lib.hid (B1.out.below hb)
    have BW2 := Lib.hid (BW.out.trans (hb.mono BW.out.size))
    clear hb
    go_wp2_with (first | (refine wpList_wbuild0 rfl rfl ?_) | (refine wpList_store_row rfl 29 (.tmp 2) (.tmp 7) rfl (w.heap.size + 1) (wav 0 zerosC) rfl rfl 29 (wav 0 zerosC) B2.out ?c1 ?c2 (wav_one 0 zerosC) ?_; (case c1 => exact Try.sizeW zerosC_length); (case c2 => rfl)))
    refine bodyPost_ret (v := .tuple #[.agg (wav 0 zerosC), .int .i64 3]) (results_cell_row2 Try.results114 _ _ (w.heap.size + 1) 29 (wav 0 zerosC) (0, 0) _ _ rfl rfl (B2.out.row _) Try.underlying29 rfl (Try.sizeW zerosC_length)) rfl ?_
    exact WavPost.err R.out (Below.setRow BW2.out (by omega) _)
  | true =>
    have R : Hid (limW nn m G = (0, (nn : Int), fillL m G)) := by show _ = _; unfold limW; rw [hp]; rfl
    go_enter Try.func114, Try.ntmps114
    go_upto_region 1 with (fail)
    rw [← hW]
    clear hW
    go_wp2_with (refine wpList_load_row rfl 29 (.tmp 1) rfl w.heap.size rfl 29 (wav nn (fillL m G)) (0, 0) _ B0.out Try.underlying29 rfl (Try.sizeW HL.out) ?_)
    refine (l01Is_fill nn m hsd hn1 hn2 hmul hm64 G _).mono ?_
    rintro e w2 ⟨rfl, hb⟩
    rw [hp]
    have B2 := Lib.hid (B1.out.below hb)
    have B3 := Lib.hid (B0.out.below hb)
    have BW2 := Lib.hid (BW.out.trans (hb.mono BW.out.size))
    clear hb
    go_wp2_with (first | (refine wpList_load_row rfl 29 (.tmp 1) rfl w.heap.size rfl 29 (wav nn (fillL m G)) (0, 0) _ B3.out Try.underlying29 rfl (Try.sizeW HL.out) ?_) | (refine wpList_store_row rfl 29 (.tmp 2) (.tmp 8) rfl (w.heap.size + 1) (wav nn (fillL m G)) rfl rfl 29 (wav 0 zerosC) B2.out ?c1 ?c2 (wav_one _ _) ?_; (case c1 => exact Try.sizeW HL.out); (case c2 => (rw [wav_size, wav_size, HL.out]; rfl))))
    refine bodyPost_ret (v := .tuple #[.agg (wav nn (fillL m G)), .int .i64 0]) (results_cell_row2 Try.results114 _ _ (w.heap.size + 1) 29 (wav nn (fillL m G)) (0, 0) _ _ rfl rfl (B2.out.row _) Try.underlying29 rfl (Try.sizeW HL.out)) rfl ?_
    exact ⟨by rw [R.out], Below.setRow BW2.out (by omega) _⟩
end Go.Proofs.Ytficghohflmdeaa
