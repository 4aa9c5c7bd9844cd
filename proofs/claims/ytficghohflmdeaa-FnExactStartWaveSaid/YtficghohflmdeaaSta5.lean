/- StartWave: both sides. -/
import Derived.Test.YtficghohflmdeaaSta3
namespace Go.Proofs.Ytficghohflmdeaa
open Go.RowKit
set_option linter.unusedVariables false

set_option maxRecDepth 10000 in
set_option maxHeartbeats 2000000 in
theorem startWave_any (nn m : Nat) (l : List Nat) (k : Int) (hl : l.length = 64) (hn1 : 1 ≤ nn) (hn2 : nn ≤ 8) (hmm : nn * nn = m) (hm64 : m ≤ 64) (hlv : ∀ j, j < m → Lvl (l.getD j 0)) (hk : 0 ≤ k ∧ k ≤ 63) (w : World) :
    Calls Try.prog 118 #[.agg (pic nn l), .int .i64 k] w fun e w' => e = .returned (.agg (wav nn (fillL m (staI nn l k)))) ∧ Below w.heap.size w w' := by
  have hz := (zero_of_info Try.infoW).1
  obtain ⟨W0, hW⟩ : ∃ W0, W0 = ((w.alloc (.cells (pic nn l) 47)).alloc (.cells #[.int .i64 k] 2)).alloc (.cells (wav 0 zerosC) 29) := ⟨_, rfl⟩
  have hb0 : Below w.heap.size w W0 := by rw [hW]; exact (((Below.refl _ _).alloc (Nat.le_refl _) _).alloc (by simp) _).alloc (by simp; omega) _
  have h3 := blk3 w (.cells (pic nn l) 47) (.cells #[.int .i64 k] 2) (.cells (wav 0 zerosC) 29)
  rw [← hW] at h3
  have b0 : Blk W0 w.heap.size (pic nn l) 47 := h3.1
  have b1 : Blk W0 (w.heap.size + 1) #[.int .i64 k] 2 := h3.2.1
  have b2 : Blk W0 (w.heap.size + 1 + 1) (wav 0 zerosC) 29 := h3.2.2
  have cs := b0.picSide
  have ck : W0.cell? ⟨w.heap.size + 1, 0, none⟩ = some (.int .i64 k) := by rw [b1.cell]; rfl
  have B0 := Lib.hid b0
  have BR := Lib.hid b2
  have CK := Lib.hid ck
  have BW := Lib.hid hb0
  have HLV := Lib.hid hlv
  have HMM := Lib.hid hmm
  clear hb0 h3 b0 b1 b2 ck hlv hmm
  go_enter Try.func118, Try.ntmps118
  go_upto_region 1 with (fail)
  rw [← hW]
  clear hW
  go_wp2_with fail
  refine (waveBy_sta #[.pointer (some ⟨w.heap.size, 0, none⟩), .pointer (some ⟨w.heap.size + 1, 0, none⟩)] nn hn1 hn2 (staI nn l k) W0 ?hf).mono ?_
  case hf =>
    intro i wr hi hb
    have him : i < m := by rw [← HMM.out]; exact hi
    have hi2 : (i : Int) % nn < nn := Int.emod_lt_of_pos _ (by omega)
    have hi3 : 0 ≤ (i : Int) % nn := Int.emod_nonneg _ (by omega)
    have hi4 : 0 ≤ (i : Int) / nn := Int.ediv_nonneg (by omega) (by omega)
    have hi5 : (i : Int) / nn < nn := by
      apply Int.ediv_lt_of_lt_mul (by omega)
      rw [← Int.natCast_mul]; omega
    refine (staCl_any nn l hl k ((i : Int) / nn) ((i : Int) % nn) i w.heap.size (w.heap.size + 1) wr (by omega) (HLV.out i him) (rtI_isNum (HLV.out i him)) hk (by omega) (by omega) (B0.out.below hb) ?_).mono ?_
    · rw [hb.cell (by exact block_lt_of_cell CK.out)]; exact CK.out
    · rintro e w' ⟨rfl, hb⟩; exact ⟨rfl, hb⟩
  rintro e w2 ⟨rfl, hb2⟩
  rw [HMM.out]
  have B2 := Lib.hid (BR.out.below hb2)
  have BW2 := Lib.hid (BW.out.trans (hb2.mono BW.out.size))
  have HL := Lib.hid (fillL_length (staI nn l k) hm64)
  clear hb2
  go_wp2_with (refine wpList_store_row rfl 29 (.tmp 4) (.tmp 8) rfl (w.heap.size + 1 + 1) (wav nn (fillL m (staI nn l k))) rfl rfl 29 (wav 0 zerosC) B2.out ?c1 ?c2 (wav_one _ _) ?_; (case c1 => exact Try.sizeW HL.out); (case c2 => (rw [wav_size, wav_size, HL.out]; rfl)))
  refine bodyPost_ret (v := .agg (wav nn (fillL m (staI nn l k)))) (results_cell_row Try.results118 _ _ (w.heap.size + 1 + 1) 29 (wav nn (fillL m (staI nn l k))) (0, 0) _ rfl (B2.out.row _) Try.underlying29 rfl (Try.sizeW HL.out)) rfl ?_
  exact ⟨rfl, Below.setRow BW2.out (by omega) _⟩

/-- what StartWave gives ahead of plain -/
def staR (n : Int) (l : List Nat) (k : Int) (m : Nat) : Int × Int × List (Nat × Nat) := if isPic n l then (if inR k 0 63 then limW n m (staI n l k) else (2, 0, zerosC)) else (1, 0, zerosC)
def StaPost (n : Int) (l : List Nat) (k : Int) (m : Nat) (w : World) (e : Ending) (w' : World) : Prop := ∃ r, plusR r = plusR (staR n l k m) ∧ r.2.2.length = 64 ∧ WavPost r w e w'
theorem sta_alike {nn m : Nat} {l l' : List Nat} {k : Int} (hlv : ∀ j, j < m → Lvl (l.getD j 0)) (hok : ampOk l l' m) (i : Nat) (hi : i < m) : pn2 (staS nn l' k i) = pn2 (staI nn l k i) := by
  have hr := rtI_isNum (hlv i hi)
  have hs := ampOk_num hok (fun j hj => rtI_isNum (hlv j hj)) hi
  obtain ⟨S, h1, _, h3⟩ := hok.1 i hi
  rw [← h1] at h3
  have hc := raw_num (staZ k ((i : Int) / nn) ((i : Int) % nn))
  have a := mul_alike hr hs hc.1 h3
  have b := mul_alike hr hs hc.2 h3
  unfold staS staI pn2
  rw [← pn2_raw]
  exact Prod.ext a.symm b.symm

set_option maxRecDepth 10000 in
set_option maxHeartbeats 2000000 in
theorem signedStart_any (n : Int) (l : List Nat) (hl : l.length = 64) (k : Int) (m : Nat) (hm : n.toNat * n.toNat = m) (w : World) :
    Calls Try.prog 68 #[.agg (pic n l), .int .i64 k] w (StaPost n l k m w) := by
  have hz := (zero_of_info Try.infoW).1
  obtain ⟨W0, hW⟩ : ∃ W0, W0 = (w.alloc (.cells (pic n l) 47)).alloc (.cells (wav 0 zerosC) 29) := ⟨_, rfl⟩
  have hb0 : Below w.heap.size w W0 := by rw [hW]; exact ((Below.refl _ _).alloc (Nat.le_refl _) _).alloc (by simp) _
  have h3 := blk2 w (.cells (pic n l) 47) (.cells (wav 0 zerosC) 29)
  rw [← hW] at h3
  have b0 : Blk W0 w.heap.size (pic n l) 47 := h3.1
  have b1 : Blk W0 (w.heap.size + 1) (wav 0 zerosC) 29 := h3.2
  have B0 := Lib.hid b0
  have BR := Lib.hid b1
  have BW := Lib.hid hb0
  have HM := Lib.hid hm
  clear hb0 h3 b0 b1 hm
  cases hp : isPic n l with
  | false =>
    have R : Hid (staR n l k m = (1, 0, zerosC)) := by show _ = _; unfold staR; rw [hp]; rfl
    go_enter Try.func68, Try.ntmps68
    go_upto_region 1 with (fail)
    rw [← hW]
    clear hW
    go_wp2_with (refine wpList_load_row rfl 47 (.tmp 2) rfl w.heap.size rfl 47 (pic n l) (0, 0) _ B0.out Try.underlying47 rfl (Try.sizeP hl) ?_)
    refine (IsPicture_any n l hl _).mono ?_
    rintro e w1 ⟨rfl, hb1⟩
    rw [hp]
    have B1 := Lib.hid (BR.out.below hb1)
    have BW1 := Lib.hid (BW.out.trans (hb1.mono BW.out.size))
    clear hb1
    go_wp2_with (first | (refine wpList_wbuild0 rfl rfl ?_) | (refine wpList_store_row rfl 29 (.tmp 4) (.tmp 10) rfl (w.heap.size + 1) (wav 0 zerosC) rfl rfl 29 (wav 0 zerosC) B1.out ?c1 ?c2 (wav_one 0 zerosC) ?_; (case c1 => exact Try.sizeW zerosC_length); (case c2 => rfl)))
    refine bodyPost_ret (v := .tuple #[.agg (wav 0 zerosC), .int .i64 1]) (results_cell_row2 Try.results68 _ _ (w.heap.size + 1) 29 (wav 0 zerosC) (0, 0) _ _ rfl rfl (B1.out.row _) Try.underlying29 rfl (Try.sizeW zerosC_length)) rfl ?_
    exact ⟨(1, 0, zerosC), by rw [R.out], rfl, WavPost.err rfl (Below.setRow BW1.out (by omega) _)⟩
  | true =>
  cases h2 : inR k 0 63 with
  | false =>
    have R : Hid (staR n l k m = (2, 0, zerosC)) := by show _ = _; unfold staR; rw [hp, h2]; rfl
    go_enter Try.func68, Try.ntmps68
    go_upto_region 1 with (fail)
    rw [← hW]
    clear hW
    go_wp2_with (refine wpList_load_row rfl 47 (.tmp 2) rfl w.heap.size rfl 47 (pic n l) (0, 0) _ B0.out Try.underlying47 rfl (Try.sizeP hl) ?_)
    refine (IsPicture_any n l hl _).mono ?_
    rintro e w1 ⟨rfl, hb1⟩
    rw [hp]
    have B1 := Lib.hid (BR.out.below hb1)
    have BW1 := Lib.hid (BW.out.trans (hb1.mono BW.out.size))
    clear hb1
    go_wp2_with fail
    refine (isPart_any k _).mono ?_
    rintro e w' ⟨rfl, rfl⟩
    rw [h2]
    go_wp2_with (first | (refine wpList_wbuild0 rfl rfl ?_) | (refine wpList_store_row rfl 29 (.tmp 4) (.tmp 15) rfl (w.heap.size + 1) (wav 0 zerosC) rfl rfl 29 (wav 0 zerosC) B1.out ?c1 ?c2 (wav_one 0 zerosC) ?_; (case c1 => exact Try.sizeW zerosC_length); (case c2 => rfl)))
    refine bodyPost_ret (v := .tuple #[.agg (wav 0 zerosC), .int .i64 2]) (results_cell_row2 Try.results68 _ _ (w.heap.size + 1) 29 (wav 0 zerosC) (0, 0) _ _ rfl rfl (B1.out.row _) Try.underlying29 rfl (Try.sizeW zerosC_length)) rfl ?_
    exact ⟨(2, 0, zerosC), by rw [R.out], rfl, WavPost.err rfl (Below.setRow BW1.out (by omega) _)⟩
  | true =>
    have hk := inR_true h2
    obtain ⟨nn, m', rfl, hn1, hn2, hmul, hm64, hm'⟩ := side_nat (isPic_sd hp)
    obtain rfl : m' = m := by rw [← HM.out, hm']
    rw [Int.toNat_natCast] at hm'
    have R : Hid (staR nn l k m' = limW nn m' (staI nn l k)) := by show _ = _; unfold staR; rw [hp, h2]; rfl
    have HLV : Hid (∀ j, j < m' → Lvl (l.getD j 0)) := fun j hj => okL_lvl (isPic_at hp HM.out j (by omega))
    have HSD := Lib.hid (isPic_sd hp)
    have HMM := Lib.hid hm'
    clear hm'
    go_enter Try.func68, Try.ntmps68
    go_upto_region 1 with (fail)
    rw [← hW]
    clear hW
    go_wp2_with (refine wpList_load_row rfl 47 (.tmp 2) rfl w.heap.size rfl 47 (pic nn l) (0, 0) _ B0.out Try.underlying47 rfl (Try.sizeP hl) ?_)
    refine (IsPicture_any nn l hl _).mono ?_
    rintro e w1 ⟨rfl, hb1⟩
    rw [hp]
    have B01 := Lib.hid (B0.out.below hb1)
    have B1 := Lib.hid (BR.out.below hb1)
    have BW1 := Lib.hid (BW.out.trans (hb1.mono BW.out.size))
    clear hb1 hp
    go_wp2_with fail
    refine (isPart_any k _).mono ?_
    rintro e w' ⟨rfl, rfl⟩
    rw [h2]
    clear h2
    go_wp2_with (refine wpList_load_row rfl 47 (.tmp 2) rfl w.heap.size rfl 47 (pic nn l) (0, 0) _ B01.out Try.underlying47 rfl (Try.sizeP hl) ?_)
    refine (startWave_any nn m' l k hl hn1 hn2 HMM.out hm64 HLV.out hk w1).mono ?_
    rintro e w2 ⟨rfl, hb2⟩
    have B2 := Lib.hid (B1.out.below hb2)
    have BW2 := Lib.hid (BW1.out.trans (hb2.mono BW1.out.size))
    clear hb2
    go_wp2_with fail
    refine (limitWave_fill nn m' HSD.out hn1 hn2 hmul hm64 (staI nn l k) w2).mono ?_
    rintro e w3 ⟨rfl, hb3⟩
    have hlen := limW_length nn hm64 (staI nn l k)
    obtain ⟨k5, n5, v5, hr5⟩ : ∃ k5 n5 v5, limW nn m' (staI nn l k) = (k5, n5, v5) := ⟨_, _, _, rfl⟩
    rw [hr5] at hlen ⊢
    simp only at hlen ⊢
    have HLN := Lib.hid hlen
    have HR5 := Lib.hid hr5
    have B3 := Lib.hid (B2.out.below hb3)
    have BW3 := Lib.hid (BW2.out.trans (hb3.mono BW2.out.size))
    clear hb3 hr5 hlen
    go_wp2_with (refine wpList_store_row rfl 29 (.tmp 4) (.tmp 20) rfl (w.heap.size + 1) (wav n5 v5) rfl rfl 29 (wav 0 zerosC) B3.out ?c1 ?c2 (wav_one _ _) ?_; (case c1 => exact Try.sizeW HLN.out); (case c2 => (rw [wav_size, wav_size, HLN.out]; rfl)))
    refine bodyPost_ret (v := .tuple #[.agg (wav n5 v5), .int .i64 k5]) (results_cell_row2 Try.results68 _ _ (w.heap.size + 1) 29 (wav n5 v5) (0, 0) _ _ rfl rfl (B3.out.row _) Try.underlying29 rfl (Try.sizeW HLN.out)) rfl ?_
    exact ⟨(k5, n5, v5), by rw [R.out, ← HR5.out], HLN.out, rfl, Below.setRow BW3.out (by omega) _⟩

set_option maxRecDepth 10000 in
set_option maxHeartbeats 2000000 in
theorem rawStart_any (n : Int) (l : List Nat) (hl : l.length = 64) (k : Int) (m : Nat) (hm : n.toNat * n.toNat = m) (w : World) :
    Calls Try.prog 67 #[.agg (pic n l), .int .i64 k] w (StaPost n l k m w) := by
  have hz := (zero_of_info Try.infoW).1
  obtain ⟨W0, hW⟩ : ∃ W0, W0 = (w.alloc (.cells (pic n l) 47)).alloc (.cells (wav 0 zerosC) 29) := ⟨_, rfl⟩
  have hb0 : Below w.heap.size w W0 := by rw [hW]; exact ((Below.refl _ _).alloc (Nat.le_refl _) _).alloc (by simp) _
  have h3 := blk2 w (.cells (pic n l) 47) (.cells (wav 0 zerosC) 29)
  rw [← hW] at h3
  have b0 : Blk W0 w.heap.size (pic n l) 47 := h3.1
  have b1 : Blk W0 (w.heap.size + 1) (wav 0 zerosC) 29 := h3.2
  have B0 := Lib.hid b0
  have BR := Lib.hid b1
  have BW := Lib.hid hb0
  have HM := Lib.hid hm
  clear hb0 h3 b0 b1 hm
  cases hp : isPic n l with
  | false =>
    have R : Hid (staR n l k m = (1, 0, zerosC)) := by show _ = _; unfold staR; rw [hp]; rfl
    go_enter Try.func67, Try.ntmps67
    go_upto_region 1 with (fail)
    rw [← hW]
    clear hW
    go_wp2_with (refine wpList_load_row rfl 47 (.tmp 2) rfl w.heap.size rfl 47 (pic n l) (0, 0) _ B0.out Try.underlying47 rfl (Try.sizeP hl) ?_)
    refine (l01Shown_any n l hl _).mono ?_
    rintro e w1 ⟨rfl, hb1⟩
    rw [hp]
    have B1 := Lib.hid (BR.out.below hb1)
    have BW1 := Lib.hid (BW.out.trans (hb1.mono BW.out.size))
    clear hb1
    go_wp2_with (first | (refine wpList_wbuild0 rfl rfl ?_) | (refine wpList_store_row rfl 29 (.tmp 4) (.tmp 10) rfl (w.heap.size + 1) (wav 0 zerosC) rfl rfl 29 (wav 0 zerosC) B1.out ?c1 ?c2 (wav_one 0 zerosC) ?_; (case c1 => exact Try.sizeW zerosC_length); (case c2 => rfl)))
    refine bodyPost_ret (v := .tuple #[.agg (wav 0 zerosC), .int .i64 1]) (results_cell_row2 Try.results67 _ _ (w.heap.size + 1) 29 (wav 0 zerosC) (0, 0) _ _ rfl rfl (B1.out.row _) Try.underlying29 rfl (Try.sizeW zerosC_length)) rfl ?_
    exact ⟨(1, 0, zerosC), by rw [R.out], rfl, WavPost.err rfl (Below.setRow BW1.out (by omega) _)⟩
  | true =>
  cases h2 : inR k 0 63 with
  | false =>
    have R : Hid (staR n l k m = (2, 0, zerosC)) := by show _ = _; unfold staR; rw [hp, h2]; rfl
    go_enter Try.func67, Try.ntmps67
    go_upto_region 1 with (fail)
    rw [← hW]
    clear hW
    go_wp2_with (refine wpList_load_row rfl 47 (.tmp 2) rfl w.heap.size rfl 47 (pic n l) (0, 0) _ B0.out Try.underlying47 rfl (Try.sizeP hl) ?_)
    refine (l01Shown_any n l hl _).mono ?_
    rintro e w1 ⟨rfl, hb1⟩
    rw [hp]
    have B1 := Lib.hid (BR.out.below hb1)
    have BW1 := Lib.hid (BW.out.trans (hb1.mono BW.out.size))
    clear hb1
    go_wp2_with fail
    refine (l01In_any k 0 63 _).mono ?_
    rintro e w' ⟨rfl, rfl⟩
    rw [h2]
    go_wp2_with (first | (refine wpList_wbuild0 rfl rfl ?_) | (refine wpList_store_row rfl 29 (.tmp 4) (.tmp 15) rfl (w.heap.size + 1) (wav 0 zerosC) rfl rfl 29 (wav 0 zerosC) B1.out ?c1 ?c2 (wav_one 0 zerosC) ?_; (case c1 => exact Try.sizeW zerosC_length); (case c2 => rfl)))
    refine bodyPost_ret (v := .tuple #[.agg (wav 0 zerosC), .int .i64 2]) (results_cell_row2 Try.results67 _ _ (w.heap.size + 1) 29 (wav 0 zerosC) (0, 0) _ _ rfl rfl (B1.out.row _) Try.underlying29 rfl (Try.sizeW zerosC_length)) rfl ?_
    exact ⟨(2, 0, zerosC), by rw [R.out], rfl, WavPost.err rfl (Below.setRow BW1.out (by omega) _)⟩
  | true =>
    have hk := inR_true h2
    obtain ⟨nn, m', rfl, hn1, hn2, hmul, hm64, hm'⟩ := side_nat (isPic_sd hp)
    obtain rfl : m' = m := by rw [← HM.out, hm']
    rw [Int.toNat_natCast] at hm'
    have R : Hid (staR nn l k m' = limW nn m' (staI nn l k)) := by show _ = _; unfold staR; rw [hp, h2]; rfl
    have HLV : Hid (∀ j, j < m' → Lvl (l.getD j 0)) := fun j hj => okL_lvl (isPic_at hp HM.out j (by omega))
    have HSD := Lib.hid (isPic_sd hp)
    have HMM := Lib.hid hm'
    clear hm'
    go_enter Try.func67, Try.ntmps67
    go_upto_region 1 with (fail)
    rw [← hW]
    clear hW
    go_wp2_with (refine wpList_load_row rfl 47 (.tmp 2) rfl w.heap.size rfl 47 (pic nn l) (0, 0) _ B0.out Try.underlying47 rfl (Try.sizeP hl) ?_)
    refine (l01Shown_any nn l hl _).mono ?_
    rintro e w1 ⟨rfl, hb1⟩
    rw [hp]
    have B01 := Lib.hid (B0.out.below hb1)
    have B1 := Lib.hid (BR.out.below hb1)
    have BW1 := Lib.hid (BW.out.trans (hb1.mono BW.out.size))
    clear hb1 hp
    go_wp2_with fail
    refine (l01In_any k 0 63 _).mono ?_
    rintro e w' ⟨rfl, rfl⟩
    rw [h2]
    clear h2
    go_wp2_with (refine wpList_load_row rfl 47 (.tmp 2) rfl w.heap.size rfl 47 (pic nn l) (0, 0) _ B01.out Try.underlying47 rfl (Try.sizeP hl) ?_)
    refine (l06Start_any nn m' l k hl hn1 hn2 hmul hm64 HLV.out (fun j hj => rtI_isNum (HLV.out j hj)) hk HMM.out w1).mono ?_
    rintro e w2 ⟨l', rfl, hok, hb2⟩
    have HOK := Lib.hid hok
    clear hok
    have B2 := Lib.hid (B1.out.below hb2)
    have BW2 := Lib.hid (BW1.out.trans (hb2.mono BW1.out.size))
    clear hb2
    go_wp2_with fail
    refine (l01Told_fill nn m' HSD.out hn1 hn2 hmul hm64 (staS nn l' k) w2).mono ?_
    rintro e w3 ⟨rfl, hb3⟩
    have hlen := limW_length nn hm64 (staS nn l' k)
    obtain ⟨k5, n5, v5, hr5⟩ : ∃ k5 n5 v5, limW nn m' (staS nn l' k) = (k5, n5, v5) := ⟨_, _, _, rfl⟩
    rw [hr5] at hlen ⊢
    simp only at hlen ⊢
    have HLN := Lib.hid hlen
    have HR5 := Lib.hid hr5
    have B3 := Lib.hid (B2.out.below hb3)
    have BW3 := Lib.hid (BW2.out.trans (hb3.mono BW2.out.size))
    clear hb3 hr5 hlen
    go_wp2_with (refine wpList_store_row rfl 29 (.tmp 4) (.tmp 20) rfl (w.heap.size + 1) (wav n5 v5) rfl rfl 29 (wav 0 zerosC) B3.out ?c1 ?c2 (wav_one _ _) ?_; (case c1 => exact Try.sizeW HLN.out); (case c2 => (rw [wav_size, wav_size, HLN.out]; rfl)))
    refine bodyPost_ret (v := .tuple #[.agg (wav n5 v5), .int .i64 k5]) (results_cell_row2 Try.results67 _ _ (w.heap.size + 1) 29 (wav n5 v5) (0, 0) _ _ rfl rfl (B3.out.row _) Try.underlying29 rfl (Try.sizeW HLN.out)) rfl ?_
    exact ⟨(k5, n5, v5), by rw [R.out, ← HR5.out]; exact limW_alike nn m' (fun i hi => sta_alike HLV.out HOK.out i hi), HLN.out, rfl, Below.setRow BW3.out (by omega) _⟩
end Go.Proofs.Ytficghohflmdeaa
