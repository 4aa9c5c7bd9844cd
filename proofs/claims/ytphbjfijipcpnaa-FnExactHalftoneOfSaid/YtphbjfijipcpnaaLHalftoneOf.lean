/- HalftoneOf: the errors, the tops of both sides, the law. -/
import Derived.Test.YtphbjfijipcpnaaHf4
namespace Go.Proofs.Ytphbjfijipcpnaa
open Go.RowKit
set_option linter.unusedVariables false

set_option maxRecDepth 10000 in
set_option maxHeartbeats 4000000 in
theorem signedHf_any (n : Int) (l : List Nat) (hl : l.length = 64) (t : Nat) (w : World) :
    Calls Try.prog 50 #[.agg (pic n l), .float .f32 t] w (WavPost (hfR n l t (n.toNat * n.toNat)) w) := by
  have hz := (zero_of_info Try.infoW).1
  obtain ⟨W0, hW⟩ : ∃ W0, W0 = ((w.alloc (.cells (pic n l) 32)).alloc (.cells #[.float .f32 t] 28)).alloc (.cells (wav 0 zerosC) 41) := ⟨_, rfl⟩
  have hb0 : Below w.heap.size w W0 := by rw [hW]; exact (((Below.refl _ _).alloc (Nat.le_refl _) _).alloc (by simp) _).alloc (by simp; omega) _
  have hh := blk3 w (.cells (pic n l) 32) (.cells #[.float .f32 t] 28) (.cells (wav 0 zerosC) 41)
  rw [← hW] at hh
  have b0 : Blk W0 w.heap.size (pic n l) 32 := hh.1
  have b1 : Blk W0 (w.heap.size + 1) #[.float .f32 t] 28 := hh.2.1
  have b2 : Blk W0 (w.heap.size + 1 + 1) (wav 0 zerosC) 41 := hh.2.2
  have BT := Lib.hid b1
  have B0 := Lib.hid b0
  have BR := Lib.hid b2
  have BW := Lib.hid hb0
  clear hb0 hh b0 b1 b2
  cases hp : isPic n l with
  | false =>
    have R : Hid (hfR n l t (n.toNat * n.toNat) = (1, 0, zerosC)) := by show _ = _; unfold hfR; rw [hp]; rfl
    go_enter Try.func50, Try.ntmps50
    go_upto_region 1 with (fail)
    rw [← hW]
    clear hW
    go_wp2_with (refine wpList_load_row rfl 32 (.tmp 2) rfl w.heap.size rfl 32 (pic n l) (0, 0) _ B0.out Try.underlying32 rfl (Try.sizeP hl) ?_)
    refine (IsPicture_any n l hl _).mono ?_
    rintro e w1 ⟨rfl, hb1⟩
    rw [hp]
    have ct : w1.cell? ⟨w.heap.size + 1, 0, none⟩ = some (.float .f32 t) := by rw [(BT.out.below hb1).cell]; rfl
    have B1 := Lib.hid (BR.out.below hb1)
    have BW1 := Lib.hid (BW.out.trans (hb1.mono BW.out.size))
    clear hb1
    go_wp2_with (first | (refine wpList_wbuild0 rfl rfl ?_) | (refine wpList_store_row rfl 41 (.tmp 4) (.tmp 19) rfl (w.heap.size + 1 + 1) (wav 0 zerosC) rfl rfl 41 (wav 0 zerosC) B1.out ?c1 ?c2 (wav_one 0 zerosC) ?_; (case c1 => exact Try.sizeW zerosC_length); (case c2 => rfl)))
    refine bodyPost_ret (v := .tuple #[.agg (wav 0 zerosC), .int .i64 1]) (results_cell_row2 Try.results50 _ _ (w.heap.size + 1 + 1) 41 (wav 0 zerosC) (0, 0) _ _ rfl rfl (Blk.row B1.out _) Try.underlying41 rfl (Try.sizeW zerosC_length)) rfl ?_
    exact WavPost.err R.out (Below.setRow BW1.out (by omega) _)
  | true =>
  cases h2 : isNum t with
  | false =>
    have R : Hid (hfR n l t (n.toNat * n.toNat) = (1, 0, zerosC)) := by show _ = _; unfold hfR; rw [hp, h2]; rfl
    go_enter Try.func50, Try.ntmps50
    go_upto_region 1 with (fail)
    rw [← hW]
    clear hW
    go_wp2_with (refine wpList_load_row rfl 32 (.tmp 2) rfl w.heap.size rfl 32 (pic n l) (0, 0) _ B0.out Try.underlying32 rfl (Try.sizeP hl) ?_)
    refine (IsPicture_any n l hl _).mono ?_
    rintro e w1 ⟨rfl, hb1⟩
    rw [hp]
    have ct : w1.cell? ⟨w.heap.size + 1, 0, none⟩ = some (.float .f32 t) := by rw [(BT.out.below hb1).cell]; rfl
    have B1 := Lib.hid (BR.out.below hb1)
    have BW1 := Lib.hid (BW.out.trans (hb1.mono BW.out.size))
    clear hb1
    go_wp2_with (first | (go_at_call 92; refine (isNumber_any _ _).mono ?_; rintro e w' ⟨rfl, n1, rfl⟩; rw [h2]) | (refine wpList_wbuild0 rfl rfl ?_) | (refine wpList_store_row rfl 41 (.tmp 4) (.tmp 19) rfl (w.heap.size + 1 + 1) (wav 0 zerosC) rfl rfl 41 (wav 0 zerosC) (B1.out.drewN _) ?c1 ?c2 (wav_one 0 zerosC) ?_; (case c1 => exact Try.sizeW zerosC_length); (case c2 => rfl)))
    refine bodyPost_ret (v := .tuple #[.agg (wav 0 zerosC), .int .i64 1]) (results_cell_row2 Try.results50 _ _ (w.heap.size + 1 + 1) 41 (wav 0 zerosC) (0, 0) _ _ rfl rfl (Blk.row (B1.out.drewN _) _) Try.underlying41 rfl (Try.sizeW zerosC_length)) rfl ?_
    exact WavPost.err R.out (Below.setRow (below_drewN' BW1.out _) (by omega) _)
  | true =>
  cases h3 : leZ t with
  | true =>
    have R : Hid (hfR n l t (n.toNat * n.toNat) = (2, 0, zerosC)) := by show _ = _; unfold hfR; rw [hp, h2, h3]; rfl
    unfold leZ at h3
    go_enter Try.func50, Try.ntmps50
    go_upto_region 1 with (fail)
    rw [← hW]
    clear hW
    go_wp2_with (refine wpList_load_row rfl 32 (.tmp 2) rfl w.heap.size rfl 32 (pic n l) (0, 0) _ B0.out Try.underlying32 rfl (Try.sizeP hl) ?_)
    refine (IsPicture_any n l hl _).mono ?_
    rintro e w1 ⟨rfl, hb1⟩
    rw [hp]
    have ct : w1.cell? ⟨w.heap.size + 1, 0, none⟩ = some (.float .f32 t) := by rw [(BT.out.below hb1).cell]; rfl
    have B1 := Lib.hid (BR.out.below hb1)
    have BW1 := Lib.hid (BW.out.trans (hb1.mono BW.out.size))
    clear hb1
    go_wp2_with (first | (go_at_call 92; refine (isNumber_any _ _).mono ?_; rintro e w' ⟨rfl, n1, rfl⟩; rw [h2]) | (refine wpList_wbuild0 rfl rfl ?_) | (refine wpList_store_row rfl 41 (.tmp 4) (.tmp 23) rfl (w.heap.size + 1 + 1) (wav 0 zerosC) rfl rfl 41 (wav 0 zerosC) (B1.out.drewN _) ?c1 ?c2 (wav_one 0 zerosC) ?_; (case c1 => exact Try.sizeW zerosC_length); (case c2 => rfl)))
    refine bodyPost_ret (v := .tuple #[.agg (wav 0 zerosC), .int .i64 2]) (results_cell_row2 Try.results50 _ _ (w.heap.size + 1 + 1) 41 (wav 0 zerosC) (0, 0) _ _ rfl rfl (Blk.row (B1.out.drewN _) _) Try.underlying41 rfl (Try.sizeW zerosC_length)) rfl ?_
    exact WavPost.err R.out (Below.setRow (below_drewN' BW1.out _) (by omega) _)
  | false =>
    obtain ⟨nn, m', rfl, hn1, hn2, hmul, hm64, hm'⟩ := side_nat (isPic_sd hp)
    rw [hm']
    rw [Int.toNat_natCast] at hm'
    exact signedHf_go nn t l hl m' hn1 hn2 hm' hp h2 h3 w

set_option maxRecDepth 10000 in
set_option maxHeartbeats 4000000 in
theorem rawHf_any (n : Int) (l : List Nat) (hl : l.length = 64) (t : Nat) (w : World) :
    Calls Try.prog 48 #[.agg (pic n l), .float .f32 t] w (WavPost (hfR n l t (n.toNat * n.toNat)) w) := by
  have hz := (zero_of_info Try.infoW).1
  obtain ⟨W0, hW⟩ : ∃ W0, W0 = (w.alloc (.cells (pic n l) 32)).alloc (.cells (wav 0 zerosC) 41) := ⟨_, rfl⟩
  have hb0 : Below w.heap.size w W0 := by rw [hW]; exact ((Below.refl _ _).alloc (Nat.le_refl _) _).alloc (by simp) _
  have hh := blk2 w (.cells (pic n l) 32) (.cells (wav 0 zerosC) 41)
  rw [← hW] at hh
  have b0 : Blk W0 w.heap.size (pic n l) 32 := hh.1
  have b2 : Blk W0 (w.heap.size + 1) (wav 0 zerosC) 41 := hh.2
  have B0 := Lib.hid b0
  have BR := Lib.hid b2
  have BW := Lib.hid hb0
  clear hb0 hh b0 b2
  cases hp : isPic n l with
  | false =>
    have R : Hid (hfR n l t (n.toNat * n.toNat) = (1, 0, zerosC)) := by show _ = _; unfold hfR; rw [hp]; rfl
    go_enter Try.func48, Try.ntmps48
    go_upto_region 1 with (fail)
    rw [← hW]
    clear hW
    go_wp2_with (refine wpList_load_row rfl 32 (.tmp 2) rfl w.heap.size rfl 32 (pic n l) (0, 0) _ B0.out Try.underlying32 rfl (Try.sizeP hl) ?_)
    refine (l01Shown_any n l hl _).mono ?_
    rintro e w1 ⟨rfl, hb1⟩
    rw [hp]
    have B1 := Lib.hid (BR.out.below hb1)
    have BW1 := Lib.hid (BW.out.trans (hb1.mono BW.out.size))
    clear hb1
    go_wp2_with (first | (refine wpList_wbuild0 rfl rfl ?_) | (refine wpList_store_row rfl 41 (.tmp 4) (.tmp 20) rfl (w.heap.size + 1) (wav 0 zerosC) rfl rfl 41 (wav 0 zerosC) B1.out ?c1 ?c2 (wav_one 0 zerosC) ?_; (case c1 => exact Try.sizeW zerosC_length); (case c2 => rfl)))
    refine bodyPost_ret (v := .tuple #[.agg (wav 0 zerosC), .int .i64 1]) (results_cell_row2 Try.results48 _ _ (w.heap.size + 1) 41 (wav 0 zerosC) (0, 0) _ _ rfl rfl (Blk.row B1.out _) Try.underlying41 rfl (Try.sizeW zerosC_length)) rfl ?_
    exact WavPost.err R.out (Below.setRow BW1.out (by omega) _)
  | true =>
  cases h2 : isNum t with
  | false =>
    have R : Hid (hfR n l t (n.toNat * n.toNat) = (1, 0, zerosC)) := by show _ = _; unfold hfR; rw [hp, h2]; rfl
    go_enter Try.func48, Try.ntmps48
    go_upto_region 1 with (fail)
    rw [← hW]
    clear hW
    go_wp2_with (refine wpList_load_row rfl 32 (.tmp 2) rfl w.heap.size rfl 32 (pic n l) (0, 0) _ B0.out Try.underlying32 rfl (Try.sizeP hl) ?_)
    refine (l01Shown_any n l hl _).mono ?_
    rintro e w1 ⟨rfl, hb1⟩
    rw [hp]
    have B1 := Lib.hid (BR.out.below hb1)
    have BW1 := Lib.hid (BW.out.trans (hb1.mono BW.out.size))
    clear hb1
    go_wp2_with (first | (go_at_call 88; refine (l01Fine_any _ _).mono ?_; rintro e w' ⟨rfl, n1, rfl⟩; rw [h2]) | (refine wpList_wbuild0 rfl rfl ?_) | (refine wpList_store_row rfl 41 (.tmp 4) (.tmp 20) rfl (w.heap.size + 1) (wav 0 zerosC) rfl rfl 41 (wav 0 zerosC) (B1.out.drewN _) ?c1 ?c2 (wav_one 0 zerosC) ?_; (case c1 => exact Try.sizeW zerosC_length); (case c2 => rfl)))
    refine bodyPost_ret (v := .tuple #[.agg (wav 0 zerosC), .int .i64 1]) (results_cell_row2 Try.results48 _ _ (w.heap.size + 1) 41 (wav 0 zerosC) (0, 0) _ _ rfl rfl (Blk.row (B1.out.drewN _) _) Try.underlying41 rfl (Try.sizeW zerosC_length)) rfl ?_
    exact WavPost.err R.out (Below.setRow (below_drewN' BW1.out _) (by omega) _)
  | true =>
  cases h3 : leZ t with
  | true =>
    have R : Hid (hfR n l t (n.toNat * n.toNat) = (2, 0, zerosC)) := by show _ = _; unfold hfR; rw [hp, h2, h3]; rfl
    unfold leZ at h3
    go_enter Try.func48, Try.ntmps48
    go_upto_region 1 with (fail)
    rw [← hW]
    clear hW
    go_wp2_with (refine wpList_load_row rfl 32 (.tmp 2) rfl w.heap.size rfl 32 (pic n l) (0, 0) _ B0.out Try.underlying32 rfl (Try.sizeP hl) ?_)
    refine (l01Shown_any n l hl _).mono ?_
    rintro e w1 ⟨rfl, hb1⟩
    rw [hp]
    have B1 := Lib.hid (BR.out.below hb1)
    have BW1 := Lib.hid (BW.out.trans (hb1.mono BW.out.size))
    clear hb1
    go_wp2_with (first | (go_at_call 88; refine (l01Fine_any _ _).mono ?_; rintro e w' ⟨rfl, n1, rfl⟩; rw [h2]) | (refine wpList_wbuild0 rfl rfl ?_) | (refine wpList_store_row rfl 41 (.tmp 4) (.tmp 24) rfl (w.heap.size + 1) (wav 0 zerosC) rfl rfl 41 (wav 0 zerosC) (B1.out.drewN _) ?c1 ?c2 (wav_one 0 zerosC) ?_; (case c1 => exact Try.sizeW zerosC_length); (case c2 => rfl)))
    refine bodyPost_ret (v := .tuple #[.agg (wav 0 zerosC), .int .i64 2]) (results_cell_row2 Try.results48 _ _ (w.heap.size + 1) 41 (wav 0 zerosC) (0, 0) _ _ rfl rfl (Blk.row (B1.out.drewN _) _) Try.underlying41 rfl (Try.sizeW zerosC_length)) rfl ?_
    exact WavPost.err R.out (Below.setRow (below_drewN' BW1.out _) (by omega) _)
  | false =>
    obtain ⟨nn, m', rfl, hn1, hn2, hmul, hm64, hm'⟩ := side_nat (isPic_sd hp)
    rw [hm']
    rw [Int.toNat_natCast] at hm'
    exact rawHf_go nn t l hl m' hn1 hn2 hmul hm' hm64 hp h2 h3 w

theorem pn2_hG (n t : Nat) (S : List FV) (i : Nat) : pn2 (hG n t S i) = hG n t S i := by
  unfold hG
  cases hOpen ((hS n t S i).getD i (some 0)) t <;> decide +kernel
theorem hf_pn (n : Int) (l : List Nat) (t m : Nat) : (hfR n l t m).2.2.map pn2 = (hfR n l t m).2.2 := by
  have hz : zerosC.map pn2 = zerosC := by decide +kernel
  unfold hfR
  cases isPic n l && isNum t with
  | false => exact hz
  | true =>
    cases leZ t with
    | true => exact hz
    | false =>
      cases hC n.toNat t (l.map (ab .f32)) m with
      | true => exact hz
      | false => simp only [if_true, Bool.false_eq_true, if_false, fillL_map, pn2_hG]
theorem canF64_fill (k : Nat) (G : Nat → Nat × Nat) (h : ∀ i, G i = (1065353216, 0) ∨ G i = (0, 0)) : canF64 (fillL k G) := by
  have h0 : (cConvBits .f32 0 0 .f64).isSome = true := by decide +kernel
  have h1 : (cConvBits .f32 1065353216 0 .f64).isSome = true := by decide +kernel
  have z0 : ∃ z : Nat × Nat, cConvBits .f32 0 0 .f64 = some (z.1, z.2) := Option.isSome_iff_exists.1 h0
  have z1 : ∃ z : Nat × Nat, cConvBits .f32 1065353216 0 .f64 = some (z.1, z.2) := Option.isSome_iff_exists.1 h1
  intro j
  rw [fillL_get]
  by_cases hj : j < k
  · rw [if_pos hj]
    rcases h j with e | e <;> rw [e]
    · exact z1
    · exact z0
  · rw [if_neg hj]; exact z0
theorem hG_two (n t : Nat) (S : List FV) (i : Nat) : hG n t S i = (1065353216, 0) ∨ hG n t S i = (0, 0) := by
  unfold hG
  cases hOpen ((hS n t S i).getD i (some 0)) t
  · exact .inr rfl
  · exact .inl rfl
theorem hf_can (n : Int) (l : List Nat) (t m : Nat) : canF64 (hfR n l t m).2.2 := by
  have hz : canF64 zerosC := canF64_fill 0 (fun _ => (0, 0)) (fun _ => .inr rfl)
  unfold hfR
  cases isPic n l && isNum t with
  | false => exact hz
  | true =>
    cases leZ t with
    | true => exact hz
    | false =>
      cases hC n.toNat t (l.map (ab .f32)) m with
      | true => exact hz
      | false => exact canF64_fill _ _ (hG_two _ _ _)
theorem hf_len (n : Int) (l : List Nat) (t : Nat) : (hfR n l t (n.toNat * n.toNat)).2.2.length = 64 := by
  unfold hfR
  cases hp : isPic n l with
  | false => rfl
  | true =>
    obtain ⟨nn, m', rfl, hn1, hn2, hmul, hm64, hm'⟩ := side_nat (isPic_sd hp)
    rw [hm']
    cases isNum t with
    | false => rfl
    | true =>
      cases leZ t with
      | true => rfl
      | false =>
        cases hC (nn : Int).toNat t (l.map (ab .f32)) m' with
        | true => rfl
        | false => exact fillL_length _ hm64

set_option maxRecDepth 10000 in
set_option maxHeartbeats 2000000 in
theorem implHalftoneOf_any (n : Int) (l : List Nat) (hl : l.length = 64) (t : Nat) (w : World) :
    Calls Try.prog 23 #[.agg (pic n l), .float .f32 t] w (WavPost (hfR n l t (n.toNat * n.toNat)) w) := by
  have hz := (zero_of_info Try.infoW).1
  obtain ⟨W0, hW⟩ : ∃ W0, W0 = (w.alloc (.cells (pic n l) 32)).alloc (.cells (wav 0 zerosC) 41) := ⟨_, rfl⟩
  have hb0 : Below w.heap.size w W0 := by rw [hW]; exact ((Below.refl _ _).alloc (Nat.le_refl _) _).alloc (by simp) _
  have h3 := blk2 w (.cells (pic n l) 32) (.cells (wav 0 zerosC) 41)
  rw [← hW] at h3
  have b0 : Blk W0 w.heap.size (pic n l) 32 := h3.1
  have b1 : Blk W0 (w.heap.size + 1) (wav 0 zerosC) 41 := h3.2
  have B0 := Lib.hid b0
  have B1 := Lib.hid b1
  have BW := Lib.hid hb0
  clear hb0 h3 b0 b1
  have hpn := hf_pn n l t (n.toNat * n.toNat)
  have hln := hf_len n l t
  have C1 := signedHf_any n l hl t W0
  obtain ⟨r, hr⟩ : ∃ r, r = hfR n l t (n.toNat * n.toNat) := ⟨_, rfl⟩
  rw [← hr] at hpn hln C1 ⊢
  obtain ⟨k0, m2, lw⟩ := r
  have HLR : Hid (lw.length = 64) := hln
  have HPN : Hid (lw.map pn2 = lw) := hpn
  have HC1 := Lib.hid C1
  clear hr hpn hln C1
  go_enter Try.func23, Try.ntmps23
  go_upto_region 1 with (fail)
  rw [← hW]
  clear hW
  go_wp2_with (refine wpList_load_row rfl 32 (.tmp 2) rfl w.heap.size rfl 32 (pic n l) (0, 0) _ B0.out Try.underlying32 rfl (Try.sizeP hl) ?_)
  refine HC1.out.mono ?_
  rintro e w2 ⟨rfl, hb2⟩
  simp only at ⊢
  have B2 := B1.out.below hb2
  have BW2 := BW.out.trans (hb2.mono BW.out.size)
  have hlt := B2.lt
  have C3 := Lib.hid (Blk.new w2 (wav 0 zerosC) 41)
  have B4 := Lib.hid ((B2.alloc (.cells (wav 0 zerosC) 41)).rowOther (by omega : w.heap.size + 1 ≠ w2.heap.size) (wav m2 lw))
  have C4 := Lib.hid (C3.out.row (wav m2 lw))
  have BW4 := Lib.hid (Below.setRow (BW2.alloc BW2.size (.cells (wav 0 zerosC) 41)) BW2.size (g := w2.heap.size) (wav m2 lw))
  clear B2 BW2 hlt hb2
  go_wp2_with (first | (refine wpList_store_row rfl 41 (.tmp 6) (.tmp 12) rfl w2.heap.size (wav m2 lw) rfl rfl 41 (wav 0 zerosC) C3.out ?c1 ?c2 (wav_one m2 lw) ?_; (case c1 => exact Try.sizeW HLR.out); (case c2 => (rw [wav_size, wav_size, HLR.out]; rfl))) | (refine wpList_load_row rfl 41 (.tmp 6) rfl w2.heap.size rfl 41 (wav m2 lw) (0, 0) _ C4.out Try.underlying41 rfl (Try.sizeW HLR.out) ?_))
  refine (plainW_any m2 lw HLR.out _).mono ?_
  rintro e w5 ⟨rfl, hb5⟩
  rw [HPN.out]
  have B5 := Lib.hid (B4.out.below hb5)
  have BW5 := Lib.hid (BW4.out.trans (hb5.mono BW4.out.size))
  clear hb5
  go_wp2_with (refine wpList_store_row rfl 41 (.tmp 4) (.tmp 15) rfl (w.heap.size + 1) (wav m2 lw) rfl rfl 41 (wav 0 zerosC) B5.out ?c1 ?c2 (wav_one _ _) ?_; (case c1 => exact Try.sizeW HLR.out); (case c2 => (rw [wav_size, wav_size, HLR.out]; rfl)))
  refine bodyPost_ret (v := .tuple #[.agg (wav m2 lw), .int .i64 k0]) (results_cell_row2 Try.results23 _ _ (w.heap.size + 1) 41 (wav m2 lw) (0, 0) _ _ rfl rfl (B5.out.row _) Try.underlying41 rfl (Try.sizeW HLR.out)) rfl ?_
  exact ⟨rfl, Below.setRow BW5.out (by omega) _⟩

set_option maxRecDepth 10000 in
set_option maxHeartbeats 2000000 in
theorem specHalftoneOf_any (n : Int) (l : List Nat) (hl : l.length = 64) (t : Nat) (w : World) :
    Calls Try.prog 22 #[.agg (pic n l), .float .f32 t] w (WavPost (hfR n l t (n.toNat * n.toNat)) w) := by
  have hz := (zero_of_info Try.infoW).1
  obtain ⟨W0, hW⟩ : ∃ W0, W0 = (w.alloc (.cells (pic n l) 32)).alloc (.cells (wav 0 zerosC) 41) := ⟨_, rfl⟩
  have hb0 : Below w.heap.size w W0 := by rw [hW]; exact ((Below.refl _ _).alloc (Nat.le_refl _) _).alloc (by simp) _
  have h3 := blk2 w (.cells (pic n l) 32) (.cells (wav 0 zerosC) 41)
  rw [← hW] at h3
  have b0 : Blk W0 w.heap.size (pic n l) 32 := h3.1
  have b1 : Blk W0 (w.heap.size + 1) (wav 0 zerosC) 41 := h3.2
  have B0 := Lib.hid b0
  have B1 := Lib.hid b1
  have BW := Lib.hid hb0
  clear hb0 h3 b0 b1
  have hpn := hf_pn n l t (n.toNat * n.toNat)
  have hln := hf_len n l t
  have C1 := rawHf_any n l hl t W0
  obtain ⟨r, hr⟩ : ∃ r, r = hfR n l t (n.toNat * n.toNat) := ⟨_, rfl⟩
  rw [← hr] at hpn hln C1 ⊢
  obtain ⟨k0, m2, lw⟩ := r
  have HLR : Hid (lw.length = 64) := hln
  have HPN : Hid (lw.map pn2 = lw) := hpn
  have HC1 := Lib.hid C1
  clear hr hpn hln C1
  go_enter Try.func22, Try.ntmps22
  go_upto_region 1 with (fail)
  rw [← hW]
  clear hW
  go_wp2_with (refine wpList_load_row rfl 32 (.tmp 2) rfl w.heap.size rfl 32 (pic n l) (0, 0) _ B0.out Try.underlying32 rfl (Try.sizeP hl) ?_)
  refine HC1.out.mono ?_
  rintro e w2 ⟨rfl, hb2⟩
  simp only at ⊢
  have B2 := B1.out.below hb2
  have BW2 := BW.out.trans (hb2.mono BW.out.size)
  have hlt := B2.lt
  have C3 := Lib.hid (Blk.new w2 (wav 0 zerosC) 41)
  have B4 := Lib.hid ((B2.alloc (.cells (wav 0 zerosC) 41)).rowOther (by omega : w.heap.size + 1 ≠ w2.heap.size) (wav m2 lw))
  have C4 := Lib.hid (C3.out.row (wav m2 lw))
  have BW4 := Lib.hid (Below.setRow (BW2.alloc BW2.size (.cells (wav 0 zerosC) 41)) BW2.size (g := w2.heap.size) (wav m2 lw))
  clear B2 BW2 hlt hb2
  go_wp2_with (first | (refine wpList_store_row rfl 41 (.tmp 6) (.tmp 12) rfl w2.heap.size (wav m2 lw) rfl rfl 41 (wav 0 zerosC) C3.out ?c1 ?c2 (wav_one m2 lw) ?_; (case c1 => exact Try.sizeW HLR.out); (case c2 => (rw [wav_size, wav_size, HLR.out]; rfl))) | (refine wpList_load_row rfl 41 (.tmp 6) rfl w2.heap.size rfl 41 (wav m2 lw) (0, 0) _ C4.out Try.underlying41 rfl (Try.sizeW HLR.out) ?_))
  refine (plusW_any m2 lw HLR.out _).mono ?_
  rintro e w5 ⟨rfl, hb5⟩
  rw [HPN.out]
  have B5 := Lib.hid (B4.out.below hb5)
  have BW5 := Lib.hid (BW4.out.trans (hb5.mono BW4.out.size))
  clear hb5
  go_wp2_with (refine wpList_store_row rfl 41 (.tmp 4) (.tmp 15) rfl (w.heap.size + 1) (wav m2 lw) rfl rfl 41 (wav 0 zerosC) B5.out ?c1 ?c2 (wav_one _ _) ?_; (case c1 => exact Try.sizeW HLR.out); (case c2 => (rw [wav_size, wav_size, HLR.out]; rfl)))
  refine bodyPost_ret (v := .tuple #[.agg (wav m2 lw), .int .i64 k0]) (results_cell_row2 Try.results22 _ _ (w.heap.size + 1) 41 (wav m2 lw) (0, 0) _ _ rfl rfl (B5.out.row _) Try.underlying41 rfl (Try.sizeW HLR.out)) rfl ?_
  exact ⟨rfl, Below.setRow BW5.out (by omega) _⟩

theorem Try.infoLP : (Try.prog.info? 31).map (fun i => (i.zero, i.size)) = some (some (.agg (pic 0 zeros)), 65) := by kernel_rfl
theorem Try.sizeLP {n : Int} {l : List Nat} (h : l.length = 64) : (Try.prog.info? 31).map (·.size) = some (pic n l).size := by rw [(zero_of_info Try.infoLP).2, pic_size, h]

set_option maxRecDepth 10000 in
set_option maxHeartbeats 4000000 in
theorem law_HalftoneOf (n : Int) (l : List Nat) (hl : l.length = 64) (t : Nat) (w : World) :
    Calls Try.prog 5 #[.agg (pic n l), .float .f32 t] w fun e w' => e = .returned (.bool true) ∧ Below w.heap.size w w' := by
  have hz := (zero_of_info Try.infoW).1
  obtain ⟨W0, hW⟩ : ∃ W0, W0 = w.alloc (.cells (pic n l) 31) := ⟨_, rfl⟩
  have hb0 : Below w.heap.size w W0 := by rw [hW]; exact (Below.refl _ _).alloc (Nat.le_refl _) _
  have b0 : Blk W0 w.heap.size (pic n l) 31 := by rw [hW]; exact Blk.new w _ _
  have B0 := Lib.hid b0
  have BW := Lib.hid hb0
  clear b0 hb0
  have hlen := hf_len n l t
  have hcan := hf_can n l t (n.toNat * n.toNat)
  obtain ⟨r, hr⟩ : ∃ r, r = hfR n l t (n.toNat * n.toNat) := ⟨_, rfl⟩
  have CI := fun w => implHalftoneOf_any n l hl t w
  have CS := fun w => specHalftoneOf_any n l hl t w
  rw [← hr] at CI CS hlen hcan
  have HCI := Lib.hid CI; have HCS := Lib.hid CS; have HLN := Lib.hid hlen; have HCAN := Lib.hid hcan
  clear hr CI CS hlen hcan
  obtain ⟨k0, m2, lw⟩ := r
  have hlw : lw.length = 64 := HLN.out
  go_enter Try.func5, Try.ntmps5
  go_upto_region 1 with (fail)
  rw [← hW]
  clear hW
  go_wp2_with (refine wpList_load_row rfl 31 (.tmp 2) rfl w.heap.size rfl 31 (pic n l) (0, 0) _ B0.out Try.underlying31 rfl (Try.sizeLP hl) ?_)
  refine (toP_any n l hl W0).mono ?_
  rintro e w1 ⟨rfl, b1⟩
  have HB1 := Lib.hid (BW.out.trans (b1.mono BW.out.size))
  have P1 := Lib.hid (B0.out.below b1)
  clear b1
  go_wp2_with fail
  refine (HCS.out w1).mono ?_
  rintro e w2 ⟨rfl, hb2⟩
  simp only at ⊢
  have HB2 := HB1.out.trans (hb2.mono HB1.out.size)
  have P2 := P1.out.below hb2
  have hlt2 := P2.lt
  have C3 := Lib.hid (Blk.new w2 (wav 0 zerosC) 41)
  have C4 := Lib.hid (C3.out.row (wav m2 lw))
  have P4 := Lib.hid ((P2.alloc (.cells (wav 0 zerosC) 41)).rowOther (by omega : w.heap.size ≠ w2.heap.size) (wav m2 lw))
  have HB4 := Lib.hid (Below.setRow (HB2.alloc HB2.size (.cells (wav 0 zerosC) 41)) HB2.size (g := w2.heap.size) (wav m2 lw))
  clear HB2 hb2 HB1 P2 hlt2
  go_wp2_with (first | (refine wpList_store_row rfl 41 (.tmp 5) (.tmp 14) rfl w2.heap.size (wav m2 lw) rfl rfl 41 (wav 0 zerosC) C3.out ?c1 ?c2 (wav_one m2 lw) ?_; (case c1 => exact Try.sizeW hlw); (case c2 => (rw [wav_size, wav_size, hlw]; rfl))) | (refine wpList_load_row rfl 31 (.tmp 2) rfl w.heap.size rfl 31 (pic n l) (0, 0) _ P4.out Try.underlying31 rfl (Try.sizeLP hl) ?_))
  refine (toP_any n l hl _).mono ?_
  rintro e w5 ⟨rfl, b2⟩
  have C5 := Lib.hid (C4.out.below b2)
  have HB5 := Lib.hid (HB4.out.trans (b2.mono HB4.out.size))
  clear b2 C3 C4 HB4
  go_wp2_with fail
  refine (HCI.out w5).mono ?_
  rintro e w6 ⟨rfl, hb6⟩
  simp only at ⊢
  have C6 := C5.out.below hb6
  have hlt := C6.lt
  have HB6 := HB5.out.trans (hb6.mono HB5.out.size)
  have D6 := Lib.hid (Blk.new w6 (wav 0 zerosC) 41)
  have D7 := Lib.hid (D6.out.row (wav m2 lw))
  have C7 := Lib.hid ((C6.alloc (.cells (wav 0 zerosC) 41)).rowOther (by omega : w2.heap.size ≠ w6.heap.size) (wav m2 lw))
  have HB7 := Lib.hid (Below.setRow (HB6.alloc HB6.size (.cells (wav 0 zerosC) 41)) HB6.size (g := w6.heap.size) (wav m2 lw))
  clear hb6 HB6 C6 hlt C5 HB5
  go_wp2_with (first | (refine wpList_store_row rfl 41 (.tmp 7) (.tmp 21) rfl w6.heap.size (wav m2 lw) rfl rfl 41 (wav 0 zerosC) D6.out ?c1 ?c2 (wav_one m2 lw) ?_; (case c1 => exact Try.sizeW hlw); (case c2 => (rw [wav_size, wav_size, hlw]; rfl))) | (refine wpList_load_row rfl 41 (.tmp 7) rfl w6.heap.size rfl 41 (wav m2 lw) (0, 0) _ D7.out Try.underlying41 rfl (Try.sizeW hlw) ?_) | (refine wpList_load_row rfl 41 (.tmp 5) rfl w2.heap.size rfl 41 (wav m2 lw) (0, 0) _ C7.out Try.underlying41 rfl (Try.sizeW hlw) ?_))
  refine (eqW_eq m2 lw hlw HCAN.out _).mono ?_
  rintro e w8 ⟨rfl, hb8⟩
  have HB8 := Lib.hid (HB7.out.trans (hb8.mono HB7.out.size))
  clear hb8
  go_wp2
  go_ret
  exact ⟨rfl, HB8.out⟩
end Go.Proofs.Ytphbjfijipcpnaa
