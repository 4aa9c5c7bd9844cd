/- StartWave: the law. -/
import Derived.Test.YtficghohflmdeaaSta5
namespace Go.Proofs.Ytficghohflmdeaa
open Go.RowKit
set_option linter.unusedVariables false

theorem canF64_sta (n : Int) (l : List Nat) (k : Int) (m : Nat) : canF64 (plusR (staR n l k m)).2.2 := by
  unfold staR
  cases isPic n l with
  | false => simp only [Bool.false_eq_true, if_false, plusR, zerosC_pn]; exact canF64_zeros
  | true =>
    cases inR k 0 63 with
    | false => simp only [Bool.false_eq_true, if_true, if_false, plusR, zerosC_pn]; exact canF64_zeros
    | true => simp only [if_true]; exact canF64_lim n m _
theorem len_sta {n : Int} {m : Nat} (hm : n.toNat * n.toNat = m) (l : List Nat) (k : Int) : (plusR (staR n l k m)).2.2.length = 64 := by
  unfold staR
  cases hp : isPic n l with
  | false => rfl
  | true =>
    obtain ⟨nn, m', rfl, hn1, hn2, hmul, hm64, hm'⟩ := side_nat (isPic_sd hp)
    obtain rfl : m' = m := by rw [← hm, hm']
    cases inR k 0 63 with
    | false => rfl
    | true => simp only [if_true, plusR, List.length_map]; exact limW_length _ hm64 _

set_option maxRecDepth 10000 in
set_option maxHeartbeats 2000000 in
theorem implStartWave_any (n : Int) (l : List Nat) (hl : l.length = 64) (k : Int) (m : Nat) (hm : n.toNat * n.toNat = m) (w : World) :
    Calls Try.prog 33 #[.agg (pic n l), .int .i64 k] w (WavPost (plusR (staR n l k m)) w) := by
  have hz := (zero_of_info Try.infoW).1
  obtain ⟨W0, hW⟩ : ∃ W0, W0 = (w.alloc (.cells (pic n l) 47)).alloc (.cells (wav 0 zerosC) 29) := ⟨_, rfl⟩
  have hb0 : Below w.heap.size w W0 := by rw [hW]; exact ((Below.refl _ _).alloc (Nat.le_refl _) _).alloc (by simp) _
  have h3 := blk2 w (.cells (pic n l) 47) (.cells (wav 0 zerosC) 29)
  rw [← hW] at h3
  have b0 : Blk W0 w.heap.size (pic n l) 47 := h3.1
  have b1 : Blk W0 (w.heap.size + 1) (wav 0 zerosC) 29 := h3.2
  have B0 := Lib.hid b0
  have B1 := Lib.hid b1
  have BW := Lib.hid hb0
  clear hb0 h3 b0 b1
  have HC1 := Lib.hid (signedStart_any n l hl k m hm W0)
  go_enter Try.func33, Try.ntmps33
  go_upto_region 1 with (fail)
  rw [← hW]
  clear hW
  go_wp2_with (refine wpList_load_row rfl 47 (.tmp 2) rfl w.heap.size rfl 47 (pic n l) (0, 0) _ B0.out Try.underlying47 rfl (Try.sizeP hl) ?_)
  refine HC1.out.mono ?_
  rintro e w2 ⟨r, hr, hlr, rfl, hb2⟩
  have HR := Lib.hid hr
  clear hr
  obtain ⟨k0, m2, lw⟩ := r
  simp only at hlr ⊢
  have HLR := Lib.hid hlr
  have B2 := B1.out.below hb2
  have BW2 := BW.out.trans (hb2.mono BW.out.size)
  have hlt := B2.lt
  have C3 := Lib.hid (Blk.new w2 (wav 0 zerosC) 29)
  have B4 := Lib.hid ((B2.alloc (.cells (wav 0 zerosC) 29)).rowOther (by omega : w.heap.size + 1 ≠ w2.heap.size) (wav m2 lw))
  have C4 := Lib.hid (C3.out.row (wav m2 lw))
  have BW4 := Lib.hid (Below.setRow (BW2.alloc BW2.size (.cells (wav 0 zerosC) 29)) BW2.size (g := w2.heap.size) (wav m2 lw))
  clear B2 BW2 hlt hb2 hlr
  go_wp2_with (first | (refine wpList_store_row rfl 29 (.tmp 6) (.tmp 12) rfl w2.heap.size (wav m2 lw) rfl rfl 29 (wav 0 zerosC) C3.out ?c1 ?c2 (wav_one m2 lw) ?_; (case c1 => exact Try.sizeW HLR.out); (case c2 => (rw [wav_size, wav_size, HLR.out]; rfl))) | (refine wpList_load_row rfl 29 (.tmp 6) rfl w2.heap.size rfl 29 (wav m2 lw) (0, 0) _ C4.out Try.underlying29 rfl (Try.sizeW HLR.out) ?_))
  refine (plainW_any m2 lw HLR.out _).mono ?_
  rintro e w5 ⟨rfl, hb5⟩
  have hpl : (lw.map pn2).length = 64 := by rw [List.length_map]; exact HLR.out
  have B5 := Lib.hid (B4.out.below hb5)
  have BW5 := Lib.hid (BW4.out.trans (hb5.mono BW4.out.size))
  clear hb5
  go_wp2_with (refine wpList_store_row rfl 29 (.tmp 4) (.tmp 15) rfl (w.heap.size + 1) (wav m2 (lw.map pn2)) rfl rfl 29 (wav 0 zerosC) B5.out ?c1 ?c2 (wav_one _ _) ?_; (case c1 => exact Try.sizeW hpl); (case c2 => (rw [wav_size, wav_size, hpl]; rfl)))
  refine bodyPost_ret (v := .tuple #[.agg (wav m2 (lw.map pn2)), .int .i64 k0]) (results_cell_row2 Try.results33 _ _ (w.heap.size + 1) 29 (wav m2 (lw.map pn2)) (0, 0) _ _ rfl rfl (B5.out.row _) Try.underlying29 rfl (Try.sizeW hpl)) rfl ?_
  rw [← HR.out]
  exact ⟨rfl, Below.setRow BW5.out (by omega) _⟩

set_option maxRecDepth 10000 in
set_option maxHeartbeats 2000000 in
theorem specStartWave_any (n : Int) (l : List Nat) (hl : l.length = 64) (k : Int) (m : Nat) (hm : n.toNat * n.toNat = m) (w : World) :
    Calls Try.prog 32 #[.agg (pic n l), .int .i64 k] w (WavPost (plusR (staR n l k m)) w) := by
  have hz := (zero_of_info Try.infoW).1
  obtain ⟨W0, hW⟩ : ∃ W0, W0 = (w.alloc (.cells (pic n l) 47)).alloc (.cells (wav 0 zerosC) 29) := ⟨_, rfl⟩
  have hb0 : Below w.heap.size w W0 := by rw [hW]; exact ((Below.refl _ _).alloc (Nat.le_refl _) _).alloc (by simp) _
  have h3 := blk2 w (.cells (pic n l) 47) (.cells (wav 0 zerosC) 29)
  rw [← hW] at h3
  have b0 : Blk W0 w.heap.size (pic n l) 47 := h3.1
  have b1 : Blk W0 (w.heap.size + 1) (wav 0 zerosC) 29 := h3.2
  have B0 := Lib.hid b0
  have B1 := Lib.hid b1
  have BW := Lib.hid hb0
  clear hb0 h3 b0 b1
  have HC1 := Lib.hid (rawStart_any n l hl k m hm W0)
  go_enter Try.func32, Try.ntmps32
  go_upto_region 1 with (fail)
  rw [← hW]
  clear hW
  go_wp2_with (refine wpList_load_row rfl 47 (.tmp 2) rfl w.heap.size rfl 47 (pic n l) (0, 0) _ B0.out Try.underlying47 rfl (Try.sizeP hl) ?_)
  refine HC1.out.mono ?_
  rintro e w2 ⟨r, hr, hlr, rfl, hb2⟩
  have HR := Lib.hid hr
  clear hr
  obtain ⟨k0, m2, lw⟩ := r
  simp only at hlr ⊢
  have HLR := Lib.hid hlr
  have B2 := B1.out.below hb2
  have BW2 := BW.out.trans (hb2.mono BW.out.size)
  have hlt := B2.lt
  have C3 := Lib.hid (Blk.new w2 (wav 0 zerosC) 29)
  have B4 := Lib.hid ((B2.alloc (.cells (wav 0 zerosC) 29)).rowOther (by omega : w.heap.size + 1 ≠ w2.heap.size) (wav m2 lw))
  have C4 := Lib.hid (C3.out.row (wav m2 lw))
  have BW4 := Lib.hid (Below.setRow (BW2.alloc BW2.size (.cells (wav 0 zerosC) 29)) BW2.size (g := w2.heap.size) (wav m2 lw))
  clear B2 BW2 hlt hb2 hlr
  go_wp2_with (first | (refine wpList_store_row rfl 29 (.tmp 6) (.tmp 12) rfl w2.heap.size (wav m2 lw) rfl rfl 29 (wav 0 zerosC) C3.out ?c1 ?c2 (wav_one m2 lw) ?_; (case c1 => exact Try.sizeW HLR.out); (case c2 => (rw [wav_size, wav_size, HLR.out]; rfl))) | (refine wpList_load_row rfl 29 (.tmp 6) rfl w2.heap.size rfl 29 (wav m2 lw) (0, 0) _ C4.out Try.underlying29 rfl (Try.sizeW HLR.out) ?_))
  refine (plusW_any m2 lw HLR.out _).mono ?_
  rintro e w5 ⟨rfl, hb5⟩
  have hpl : (lw.map pn2).length = 64 := by rw [List.length_map]; exact HLR.out
  have B5 := Lib.hid (B4.out.below hb5)
  have BW5 := Lib.hid (BW4.out.trans (hb5.mono BW4.out.size))
  clear hb5
  go_wp2_with (refine wpList_store_row rfl 29 (.tmp 4) (.tmp 15) rfl (w.heap.size + 1) (wav m2 (lw.map pn2)) rfl rfl 29 (wav 0 zerosC) B5.out ?c1 ?c2 (wav_one _ _) ?_; (case c1 => exact Try.sizeW hpl); (case c2 => (rw [wav_size, wav_size, hpl]; rfl)))
  refine bodyPost_ret (v := .tuple #[.agg (wav m2 (lw.map pn2)), .int .i64 k0]) (results_cell_row2 Try.results32 _ _ (w.heap.size + 1) 29 (wav m2 (lw.map pn2)) (0, 0) _ _ rfl rfl (B5.out.row _) Try.underlying29 rfl (Try.sizeW hpl)) rfl ?_
  rw [← HR.out]
  exact ⟨rfl, Below.setRow BW5.out (by omega) _⟩

theorem Try.infoLP : (Try.prog.info? 46).map (fun i => (i.zero, i.size)) = some (some (.agg (pic 0 zeros)), 65) := by kernel_rfl
theorem Try.sizeLP {n : Int} {l : List Nat} (h : l.length = 64) : (Try.prog.info? 46).map (·.size) = some (pic n l).size := by rw [(zero_of_info Try.infoLP).2, pic_size, h]

set_option maxRecDepth 10000 in
set_option maxHeartbeats 4000000 in
theorem law_StartWave (n : Int) (l : List Nat) (hl : l.length = 64) (m : Nat) (hm : n.toNat * n.toNat = m) (k : Int) (w : World) :
    Calls Try.prog 10 #[.agg (pic n l), .int .i64 k] w fun e w' => e = .returned (.bool true) ∧ Below w.heap.size w w' := by
  have hz := (zero_of_info Try.infoW).1
  obtain ⟨W0, hW⟩ : ∃ W0, W0 = w.alloc (.cells (pic n l) 46) := ⟨_, rfl⟩
  have hb0 : Below w.heap.size w W0 := by rw [hW]; exact (Below.refl _ _).alloc (Nat.le_refl _) _
  have b0 : Blk W0 w.heap.size (pic n l) 46 := by rw [hW]; exact Blk.new w _ _
  have B0 := Lib.hid b0
  have BW := Lib.hid hb0
  clear b0 hb0
  have hlen := len_sta hm l k
  have hcan := canF64_sta n l k m
  obtain ⟨r, hr⟩ : ∃ r, r = plusR (staR n l k m) := ⟨_, rfl⟩
  have CI := fun w => implStartWave_any n l hl k m hm w
  have CS := fun w => specStartWave_any n l hl k m hm w
  rw [← hr] at CI CS hlen hcan
  have HCI := Lib.hid CI; have HCS := Lib.hid CS; have HLN := Lib.hid hlen; have HCAN := Lib.hid hcan
  clear hr CI CS hlen hcan
  obtain ⟨k0, m2, lw⟩ := r
  have hlw : lw.length = 64 := HLN.out
  go_enter Try.func10, Try.ntmps10
  go_upto_region 1 with (fail)
  rw [← hW]
  clear hW
  go_wp2_with (refine wpList_load_row rfl 46 (.tmp 2) rfl w.heap.size rfl 46 (pic n l) (0, 0) _ B0.out Try.underlying46 rfl (Try.sizeLP hl) ?_)
  refine (toP_any n l hl W0).mono ?_
  rintro e w1 ⟨rfl, b1⟩
  have HB1 := Lib.hid (BW.out.trans (b1.mono BW.out.size))
  have P1 := Lib.hid (B0.out.below b1)
  clear b1
  go_wp2_with fail
  refine (HCS.out w1).mono ?_
  rintro e w2 ⟨rfl, hb2⟩
  simp only at ⊢
  have HB2 := HB1.out.trans (hb2.mono HB1.out.size)
  have P2 := P1.out.below hb2
  have hlt2 := P2.lt
  have C3 := Lib.hid (Blk.new w2 (wav 0 zerosC) 29)
  have C4 := Lib.hid (C3.out.row (wav m2 lw))
  have P4 := Lib.hid ((P2.alloc (.cells (wav 0 zerosC) 29)).rowOther (by omega : w.heap.size ≠ w2.heap.size) (wav m2 lw))
  have HB4 := Lib.hid (Below.setRow (HB2.alloc HB2.size (.cells (wav 0 zerosC) 29)) HB2.size (g := w2.heap.size) (wav m2 lw))
  clear HB2 hb2 HB1 P2 hlt2
  go_wp2_with (first | (refine wpList_store_row rfl 29 (.tmp 5) (.tmp 14) rfl w2.heap.size (wav m2 lw) rfl rfl 29 (wav 0 zerosC) C3.out ?c1 ?c2 (wav_one m2 lw) ?_; (case c1 => exact Try.sizeW hlw); (case c2 => (rw [wav_size, wav_size, hlw]; rfl))) | (refine wpList_load_row rfl 46 (.tmp 2) rfl w.heap.size rfl 46 (pic n l) (0, 0) _ P4.out Try.underlying46 rfl (Try.sizeLP hl) ?_))
  refine (toP_any n l hl _).mono ?_
  rintro e w5 ⟨rfl, b2⟩
  have C5 := Lib.hid (C4.out.below b2)
  have HB5 := Lib.hid (HB4.out.trans (b2.mono HB4.out.size))
  clear b2 C3 C4 HB4
  go_wp2_with fail
  refine (HCI.out w5).mono ?_
  rintro e w6 ⟨rfl, hb6⟩
  simp only at ⊢
  have C6 := C5.out.below hb6
  have hlt := C6.lt
  have HB6 := HB5.out.trans (hb6.mono HB5.out.size)
  have D6 := Lib.hid (Blk.new w6 (wav 0 zerosC) 29)
  have D7 := Lib.hid (D6.out.row (wav m2 lw))
  have C7 := Lib.hid ((C6.alloc (.cells (wav 0 zerosC) 29)).rowOther (by omega : w2.heap.size ≠ w6.heap.size) (wav m2 lw))
  have HB7 := Lib.hid (Below.setRow (HB6.alloc HB6.size (.cells (wav 0 zerosC) 29)) HB6.size (g := w6.heap.size) (wav m2 lw))
  clear hb6 HB6 C6 hlt C5 HB5
  go_wp2_with (first | (refine wpList_store_row rfl 29 (.tmp 7) (.tmp 21) rfl w6.heap.size (wav m2 lw) rfl rfl 29 (wav 0 zerosC) D6.out ?c1 ?c2 (wav_one m2 lw) ?_; (case c1 => exact Try.sizeW hlw); (case c2 => (rw [wav_size, wav_size, hlw]; rfl))) | (refine wpList_load_row rfl 29 (.tmp 7) rfl w6.heap.size rfl 29 (wav m2 lw) (0, 0) _ D7.out Try.underlying29 rfl (Try.sizeW hlw) ?_) | (refine wpList_load_row rfl 29 (.tmp 5) rfl w2.heap.size rfl 29 (wav m2 lw) (0, 0) _ C7.out Try.underlying29 rfl (Try.sizeW hlw) ?_))
  refine (eqW_eq m2 lw hlw HCAN.out _).mono ?_
  rintro e w8 ⟨rfl, hb8⟩
  have HB8 := Lib.hid (HB7.out.trans (hb8.mono HB7.out.size))
  clear hb8
  go_wp2
  go_ret
  exact ⟨rfl, HB8.out⟩
end Go.Proofs.Ytficghohflmdeaa
