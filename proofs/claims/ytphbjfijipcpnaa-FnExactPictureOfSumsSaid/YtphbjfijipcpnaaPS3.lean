/- PictureOfSums: the reference's side. -/
import Derived.Test.YtphbjfijipcpnaaPS2
namespace Go.Proofs.Ytphbjfijipcpnaa
open Go.RowKit
set_option linter.unusedVariables false

set_option maxRecDepth 10000 in
set_option maxHeartbeats 2000000 in
theorem l10RawPS_any (n : Int) (xs : List Nat) (a : Option Addr) (c : Nat) (w : World) (hx : RdF w a xs) (hl : xs.length ≤ 4611686018427387903) :
    Calls Try.prog 61 #[.int .i64 n, .slice a xs.length c] w (PicPost (psRes n xs) w) := by
  have hz := (zero_of_info Try.infoP).1
  have hl' : xs.length ≤ 9223372036854775807 := by omega
  obtain ⟨W0, hW⟩ : ∃ W0, W0 = w.alloc (.cells (pic 0 zeros) 32) := ⟨_, rfl⟩
  have hb0 : Below w.heap.size w W0 := by rw [hW]; exact (Below.refl _ _).alloc (Nat.le_refl _) _
  have b1 : Blk W0 w.heap.size (pic 0 zeros) 32 := by rw [hW]; exact Blk.new w _ _
  have HX := Lib.hid (hx.below hb0)
  have B1 := Lib.hid b1
  have BW := Lib.hid hb0
  clear b1 hb0 hx
  cases hna : allNum xs with
  | false =>
    have R : Hid (psRes n xs = (1, 0, zeros.map (ab .f32))) := by show _ = _; simp [psRes, hna]
    go_enter Try.func61, Try.ntmps61
    go_upto_region 1 with (fail)
    rw [← hW]
    clear hW
    go_wp2_with fail
    refine (l10Fine_any xs a c W0 HX.out hl').mono ?_
    rintro e w1 ⟨rfl, n1, rfl⟩
    rw [hna]
    have B2 := Lib.hid (B1.out.drewN n1)
    go_wp2_with (first | (refine wpList_build0 rfl rfl ?_) | (refine wpList_store_row rfl 32 (.tmp 4) (.tmp 14) rfl w.heap.size (pic 0 zeros) rfl rfl 32 (pic 0 zeros) B2.out ?c1 ?c2 (pic_one 0 zeros) ?_; (case c1 => exact Try.sizeP zeros_length); (case c2 => rfl)))
    refine bodyPost_ret (v := .tuple #[.agg (pic 0 zeros), .int .i64 1]) (results_cell_row2 Try.results61 _ _ w.heap.size 32 (pic 0 zeros) (0, 0) _ _ rfl rfl (B2.out.row _) Try.underlying32 rfl (Try.sizeP zeros_length)) rfl ?_
    exact PicPost.err R.out (Below.setRow (below_drewN' BW.out _) (Nat.le_refl _) _)
  | true =>
    cases hd : fitsSd n xs.length with
    | false =>
      have R : Hid (psRes n xs = (2, 0, zeros.map (ab .f32))) := by show _ = _; simp [psRes, hna, hd]
      cases hs : isSd n with
      | false =>
        go_enter Try.func61, Try.ntmps61
        go_upto_region 1 with (fail)
        rw [← hW]
        clear hW
        go_wp2_with fail
        refine (l10Fine_any xs a c W0 HX.out hl').mono ?_
        rintro e w1 ⟨rfl, n1, rfl⟩
        rw [hna]
        have B2 := Lib.hid (B1.out.drewN n1)
        go_wp2_with fail
        refine (l01Side_any _ _).mono ?_
        rintro e w1 ⟨rfl, rfl⟩
        rw [hs]
        go_wp2_with (first | (refine wpList_build0 rfl rfl ?_) | (refine wpList_store_row rfl 32 (.tmp 4) (.tmp 27) rfl w.heap.size (pic 0 zeros) rfl rfl 32 (pic 0 zeros) B2.out ?c1 ?c2 (pic_one 0 zeros) ?_; (case c1 => exact Try.sizeP zeros_length); (case c2 => rfl)))
        refine bodyPost_ret (v := .tuple #[.agg (pic 0 zeros), .int .i64 2]) (results_cell_row2 Try.results61 _ _ w.heap.size 32 (pic 0 zeros) (0, 0) _ _ rfl rfl (B2.out.row _) Try.underlying32 rfl (Try.sizeP zeros_length)) rfl ?_
        exact PicPost.err R.out (Below.setRow (below_drewN' BW.out _) (Nat.le_refl _) _)
      | true =>
        obtain ⟨nn, rfl, hn1, hn2⟩ : ∃ nn : Nat, n = (nn : Int) ∧ 1 ≤ nn ∧ nn ≤ 8 := by
          rcases isSd_cases hs with e | e | e | e <;> subst e
          · exact ⟨1, rfl, by omega, by omega⟩
          · exact ⟨2, rfl, by omega, by omega⟩
          · exact ⟨4, rfl, by omega, by omega⟩
          · exact ⟨8, rfl, by omega, by omega⟩
        obtain ⟨sq2, hsq⟩ : ∃ s : Nat, s = nn * nn := ⟨_, rfl⟩
        have hsl : sq2 ≤ 64 := by rw [hsq]; have := Nat.mul_le_mul hn2 hn2; omega
        have hmul : (nn : Int) * nn = sq2 := by rw [hsq, Int.natCast_mul]
        have hne : ¬ (xs.length : Int) = sq2 := by
          intro e
          rw [← hmul] at e
          simp [fitsSd, hs, e] at hd
        clear hsq
        go_enter Try.func61, Try.ntmps61
        go_upto_region 1 with (fail)
        rw [← hW]
        clear hW
        go_wp2_with fail
        refine (l10Fine_any xs a c W0 HX.out hl').mono ?_
        rintro e w1 ⟨rfl, n1, rfl⟩
        rw [hna]
        have B2 := Lib.hid (B1.out.drewN n1)
        go_wp2_with fail
        refine (l01Side_any _ _).mono ?_
        rintro e w1 ⟨rfl, rfl⟩
        rw [hs]
        clear hna hd hs
        go_wp2_with (first | (refine wpList_build0 rfl rfl ?_) | (refine wpList_store_row rfl 32 (.tmp 4) (.tmp 27) rfl w.heap.size (pic 0 zeros) rfl rfl 32 (pic 0 zeros) B2.out ?c1 ?c2 (pic_one 0 zeros) ?_; (case c1 => exact Try.sizeP zeros_length); (case c2 => rfl)))
        refine bodyPost_ret (v := .tuple #[.agg (pic 0 zeros), .int .i64 2]) (results_cell_row2 Try.results61 _ _ w.heap.size 32 (pic 0 zeros) (0, 0) _ _ rfl rfl (B2.out.row _) Try.underlying32 rfl (Try.sizeP zeros_length)) rfl ?_
        exact PicPost.err R.out (Below.setRow (below_drewN' BW.out _) (Nat.le_refl _) _)
    | true =>
      have hL := fitsSd_isL hd
      have R : Hid (psRes n xs = psIn n xs.length.log2 xs) := by show _ = _; unfold psRes; rw [hna, hd]; rfl
      have HLL := Lib.hid hL
      obtain ⟨hm, hp⟩ := isL_pow hL
      have HP := Lib.hid hp; clear hp
      have hs : isSd n = true := by simp only [fitsSd, Bool.and_eq_true] at hd; exact hd.1
      obtain ⟨nn, rfl, hn1, hn2, hlen⟩ : ∃ nn : Nat, n = (nn : Int) ∧ 1 ≤ nn ∧ nn ≤ 8 ∧ xs.length = nn * nn := by
        simp only [fitsSd, Bool.and_eq_true, beq_iff_eq] at hd
        rcases isSd_cases hd.1 with e | e | e | e <;> subst e
        · exact ⟨1, rfl, by omega, by omega, by have := hd.2; omega⟩
        · exact ⟨2, rfl, by omega, by omega, by have := hd.2; omega⟩
        · exact ⟨4, rfl, by omega, by omega, by have := hd.2; omega⟩
        · exact ⟨8, rfl, by omega, by omega, by have := hd.2; omega⟩
      have hmul : (nn : Int) * nn = xs.length := by rw [hlen, Int.natCast_mul]
      have hx64 : xs.length ≤ 64 := by rw [hlen]; have := Nat.mul_le_mul hn2 hn2; omega
      clear hlen hL
      go_enter Try.func61, Try.ntmps61
      go_upto_region 1 with (fail)
      rw [← hW]
      clear hW
      go_wp2_with fail
      refine (l10Fine_any xs a c W0 HX.out hl').mono ?_
      rintro e w1 ⟨rfl, n1, rfl⟩
      rw [hna]
      go_wp2_with fail
      refine (l01Side_any _ _).mono ?_
      rintro e w1 ⟨rfl, rfl⟩
      rw [hs]
      clear hna hd hs
      go_wp2_with fail
      refine (l10Back_any xs.length.log2 hm xs a c (W0.drewN n1) HX.out HP.out).mono ?_
      rintro e w2 ⟨v, outs, rfl, h1, h2, h3⟩
      obtain ⟨a3, c3, rfl⟩ := h1.slice
      have h3' : Below W0.heap.size W0 w2 := (below_drewN' (Below.refl W0.heap.size W0) n1).trans h3
      have B2 := Lib.hid (B1.out.below h3')
      have BW2 := Lib.hid (BW.out.trans (h3'.mono BW.out.size))
      have R3 := Lib.hid h1.rd.2
      have H2 := Lib.hid h2
      clear h1 h2 h3 h3' B1 BW
      cases hf : (sumsV xs.length.log2 (xs.map (ab .f32))).all fin with
      | false =>
        have R2 : Hid (psRes nn xs = (3, 0, zeros.map (ab .f32))) := by show _ = _; rw [R.out]; unfold psIn; rw [hf]; rfl
        have hc : (backV xs.length.log2 xs).1 = 3 := by unfold backV; rw [hf]; rfl
        rw [hc]
        clear hc hf
        go_wp2_with (first | (refine wpList_build0 rfl rfl ?_) | (refine wpList_store_row rfl 32 (.tmp 4) (.tmp 35) rfl w.heap.size (pic 0 zeros) rfl rfl 32 (pic 0 zeros) B2.out ?c1 ?c2 (pic_one 0 zeros) ?_; (case c1 => exact Try.sizeP zeros_length); (case c2 => rfl)))
        refine bodyPost_ret (v := .tuple #[.agg (pic 0 zeros), .int .i64 3]) (results_cell_row2 Try.results61 _ _ w.heap.size 32 (pic 0 zeros) (0, 0) _ _ rfl rfl (B2.out.row _) Try.underlying32 rfl (Try.sizeP zeros_length)) rfl ?_
        exact PicPost.err R2.out (Below.setRow BW2.out (Nat.le_refl _) _)
      | true =>
        have hbv : backV xs.length.log2 xs = (0, quoV (cst xs.length) (sumsV xs.length.log2 (xs.map (ab .f32)))) := by unfold backV; rw [hf]; rfl
        have hol : outs.length = xs.length := by have := congrArg List.length H2.out; rw [hbv] at this; simpa [quoV, sumsV_length] using this
        have R2 : Hid (psRes nn xs = (0, (nn : Int), padV (outs.map (ab .f32)))) := by show _ = _; rw [R.out, H2.out, hbv]; unfold psIn; rw [hf]; rfl
        rw [hbv]
        have ho64 : outs.length ≤ 64 := by omega
        clear hbv hf H2 R
        have hb4 : Below w2.heap.size w2 (w2.alloc (.cells (pic 0 zeros) 32)) := (Below.refl _ _).alloc (Nat.le_refl _) _
        have hlt2 := B2.out.lt
        have B3 := Lib.hid (Blk.new w2 (pic 0 zeros) 32)
        have B4 := Lib.hid (B2.out.alloc (.cells (pic 0 zeros) 32))
        have HB4 := Lib.hid hb4
        have hsz2 := BW2.out.size
        clear hb4 hol
        go_wp2_with (first | (refine wpList_build1 rfl (.tmp 37) nn rfl rfl ?_) | (refine wpList_store_row rfl 32 (.tmp 8) (.tmp 38) rfl w2.heap.size (pic nn zeros) rfl rfl 32 (pic 0 zeros) B3.out ?c1 ?c2 (pic_one nn zeros) ?_; (case c1 => exact Try.sizeP zeros_length); (case c2 => rfl)))
        go_loopw [9] (fun i wr => ∃ k : Nat, k ≤ outs.length ∧ i = .int .i64 k ∧ Below w2.heap.size w2 wr ∧ Hid (Blk wr w.heap.size (pic 0 zeros) 32 ∧ ∃ l : List Nat, l.length = 64 ∧ Blk wr w2.heap.size (pic nn l) 32 ∧ (∀ j, j < k → ab .f32 (l.getD j 0) = maxV .f32 (ab .f32 (outs.getD j 0)) (some 0)) ∧ ∀ j, k ≤ j → l.getD j 0 = 0)) (fun i _ => outs.length - (intOf i).toNat)
        case atStart => exact ⟨0, Nat.zero_le _, rfl, Below.setRow HB4.out (Nat.le_refl _) _, Blk.rowOther B4.out (by omega) _, zeros, rfl, Blk.row B3.out _, fun j h => by omega, fun j _ => zeros_get j⟩
        case round =>
          clear B3 B4 HB4 hz
          obtain ⟨k, hk, rfl, hbl, hcur⟩ := hrel
          have HB := Lib.hid hbl; clear hbl
          obtain ⟨hz1, l, hl2, hc, hm1, hm2⟩ := hcur.out
          clear hcur
          by_cases hlt : k < outs.length
          · have c0 := hc.picCell (by omega : k < l.length)
            have f0 := hc.frozen (1 + k)
            obtain ⟨y, hy⟩ : ∃ y, y = l.getD k 0 := ⟨_, rfl⟩
            rw [← hy] at c0
            obtain ⟨b, off, rfl, hc3⟩ := (R3.out.below HB.out) k hlt
            obtain ⟨x, hx⟩ : ∃ x, x = outs.getD k 0 := ⟨_, rfl⟩
            rw [← hx] at hc3
            have HC := Lib.hid hc
            have HZ := Lib.hid hz1
            have HL := Lib.hid hl2
            have HM1 := Lib.hid hm1
            have HM2 := Lib.hid hm2
            have HX0 := Lib.hid hx
            clear hc hz1 hl2 hy hm1 hm2 hx
            go_wp2
            go_roundw
            case rel =>
              refine ⟨k + 1, by omega, by go_num, (below_drewN' HB.out _).setCell (by exact Nat.le_refl _) _, (HZ.out.drewN _).other (by omega) _ _, l.set k _, by rw [List.length_set]; exact HL.out, (HC.out.drewN _).picSet k _, ?_, ?_⟩
              · intro j hj
                by_cases e : j = k
                · subst e
                  have : j < l.length := by rw [HL.out]; omega
                  rw [List.getD_eq_getElem?_getD, List.getElem?_set, if_pos rfl, if_pos this, Option.getD_some, ab_mres, ab_zero, HX0.out]
                · have := HM1.out j (by omega)
                  rw [← this, List.getD_eq_getElem?_getD, List.getElem?_set, if_neg (by omega), List.getD_eq_getElem?_getD]
              · intro j hj
                have := HM2.out j (by omega)
                rw [List.getD_eq_getElem?_getD, List.getElem?_set, if_neg (by omega)]
                rw [List.getD_eq_getElem?_getD] at this; exact this
            case measure => simp [intOf]; omega
          · have ek : k = outs.length := by omega
            have HC := Lib.hid hc
            have HZ := Lib.hid hz1
            have hR : Hid (l.map (ab .f32) = padV (outs.map (ab .f32))) := by
              show _ = _
              refine List.ext_getElem (by simp [padV, hl2]; omega) fun i h1 h2 => ?_
              simp only [List.length_map] at h1
              simp only [padV, List.getElem_map, List.length_map]
              by_cases hi : i < outs.length
              · rw [List.getElem_append_left (by simpa using hi)]
                have := hm1 i (by omega)
                simpa [h1, hi] using this
              · rw [List.getElem_append_right (by simp; omega)]
                have := hm2 i (by omega)
                have e0 : l[i] = 0 := by simpa [h1] using this
                rw [e0, List.getElem_replicate]; exact ab_zero
            have HL := Lib.hid hl2
            clear hc hz1 ek hm1 hm2 hl2
            go_wp2_with (first | (refine wpList_load_row rfl 32 (.tmp 8) rfl w2.heap.size rfl 32 (pic nn l) (0, 0) _ HC.out Try.underlying32 rfl (Try.sizeP HL.out) ?_) | (refine wpList_store_row rfl 32 (.tmp 4) (.tmp 53) rfl w.heap.size (pic nn l) rfl rfl 32 (pic 0 zeros) HZ.out (Try.sizeP HL.out) (by rw [pic_size, pic_size, HL.out]; rfl) (pic_one nn _) ?_))
            refine bodyPost_ret (v := .tuple #[.agg (pic nn l), .int .i64 0]) (results_cell_row2 Try.results61 _ _ w.heap.size 32 (pic nn l) (0, 0) _ _ rfl rfl (HZ.out.row _) Try.underlying32 rfl (Try.sizeP HL.out)) rfl ?_
            exact ⟨l, by rw [R2.out], HL.out, by rw [R2.out]; exact hR.out, Below.setRow (BW2.out.trans (HB.out.mono hsz2)) (Nat.le_refl _) _⟩
end Go.Proofs.Ytphbjfijipcpnaa
