/- NormPicture: the reference's side. -/
import Derived.Test.YtphbjfijipcpnaaNorm
namespace Go.Proofs.Ytphbjfijipcpnaa
open Go.RowKit
set_option linter.unusedVariables false

set_option maxRecDepth 10000 in
set_option maxHeartbeats 1000000 in
theorem l05Ends_any (nn m : Nat) (l : List Nat) (hl : l.length = 64) (hn1 : 1 ≤ nn) (hn2 : nn ≤ 8) (hmul : (nn : Int) * nn = m) (hm : m ≤ 64) (hm1 : 1 ≤ m) (w : World) :
    Calls Try.prog 81 #[.agg (pic nn l)] w fun e w' => ∃ bb, e = .returned (.tuple #[.float .f32 (topS l (m - 1)), .float .f32 bb]) ∧ Below w.heap.size w w' := by
  obtain ⟨W0, hW⟩ : ∃ W0, W0 = w.alloc (.cells (pic nn l) 32) := ⟨_, rfl⟩
  have hb0 : Below w.heap.size w W0 := by rw [hW]; exact (Below.refl _ _).alloc (Nat.le_refl _) _
  have b1 : Blk W0 w.heap.size (pic nn l) 32 := by rw [hW]; exact Blk.new w _ _
  have c0 := b1.picSide
  have B1 := Lib.hid b1
  have BW := Lib.hid hb0
  have cx0 := b1.picCell (by omega : 0 < l.length)
  rw [Nat.add_zero] at cx0
  obtain ⟨x0, hx0⟩ : ∃ x0, x0 = l.getD 0 0 := ⟨_, rfl⟩
  rw [← hx0] at cx0
  have HX0 := Lib.hid hx0
  clear b1 hb0 hx0
  go_enter Try.func81, Try.ntmps81
  go_upto_region 1 with (fail)
  rw [← hW]
  clear hW
  go_quiet (fail)
  go_wp2
  go_loopw [4, 5, 6] (fun t bt i wr => ∃ k : Nat, 1 ≤ k ∧ k ≤ m ∧ i = .int .i64 k ∧ (∃ tb, t = .float .f32 tb ∧ Hid (tb = topS l (k - 1))) ∧ (∃ bb, bt = .float .f32 bb) ∧ Quiet W0 wr) (fun _ _ i _ => m - (intOf i).toNat)
  case atStart => exact ⟨1, Nat.le_refl _, hm1, rfl, ⟨_, rfl, HX0.out⟩, ⟨_, rfl⟩, ⟨_, rfl⟩⟩
  case round =>
    obtain ⟨k, hk1, hk, rfl, ⟨tb, rfl, ht⟩, ⟨bb, rfl⟩, ⟨q, rfl⟩⟩ := hrel
    by_cases hlt : k < m
    · have hc := B1.out.picCell (by omega : k < l.length)
      obtain ⟨x, hx⟩ : ∃ x, x = l.getD k 0 := ⟨_, rfl⟩
      rw [← hx] at hc
      have HX := Lib.hid hx
      clear hx
      obtain ⟨k', hk'⟩ : ∃ k', k = k' + 1 := ⟨k - 1, by omega⟩
      have HK := Lib.hid hk'
      clear hk'
      cases h1 : (FloatKind.f32.format.order x tb == some .gt) with
      | true =>
        have HS : Hid (x = topS l k) := by
          show _ = _
          have h := ht.out
          rw [HK.out] at h ⊢
          show x = sc (topS l k') (l.getD (k' + 1) 0)
          rw [HK.out] at HX
          unfold sc
          rw [← HX.out, show topS l k' = tb from h.symm, h1]; rfl
        cases h2 : (FloatKind.f32.format.order x bb == some .lt) with
        | true =>
          go_wp2
          go_roundw
          case rel => exact ⟨k + 1, by omega, by omega, by go_num, ⟨_, rfl, HS.out⟩, ⟨_, rfl⟩, _, rfl⟩
          case measure => simp [intOf]; omega
        | false =>
          go_wp2
          go_roundw
          case rel => exact ⟨k + 1, by omega, by omega, by go_num, ⟨_, rfl, HS.out⟩, ⟨_, rfl⟩, _, rfl⟩
          case measure => simp [intOf]; omega
      | false =>
        have HS : Hid (tb = topS l k) := by
          show _ = _
          have h := ht.out
          rw [HK.out] at h ⊢
          show tb = sc (topS l k') (l.getD (k' + 1) 0)
          rw [HK.out] at HX
          unfold sc
          rw [← HX.out, show topS l k' = tb from h.symm, h1]; rfl
        cases h2 : (FloatKind.f32.format.order x bb == some .lt) with
        | true =>
          go_wp2
          go_roundw
          case rel => exact ⟨k + 1, by omega, by omega, by go_num, ⟨_, rfl, HS.out⟩, ⟨_, rfl⟩, _, rfl⟩
          case measure => simp [intOf]; omega
        | false =>
          go_wp2
          go_roundw
          case rel => exact ⟨k + 1, by omega, by omega, by go_num, ⟨_, rfl, HS.out⟩, ⟨_, rfl⟩, _, rfl⟩
          case measure => simp [intOf]; omega
    · have ek : k = m := by omega
      have HT : Hid (tb = topS l (m - 1)) := by
        have := ht.out
        rw [ek] at this; exact this
      clear ek
      go_wp2
      go_ret2
      exact ⟨bb, by rw [HT.out]; rfl, below_drewN' BW.out _⟩

/-- what the reference gives ahead of plain -/
def topCS (n : Int) (l : List Nat) (m : Nat) : Int := if isPic n l then (if eq0 (topS l (m - 1)) then 5 else 0) else 1
def normS (n : Int) (l : List Nat) (m : Nat) : Int × Int × List FV :=
  if topCS n l m = 0 then limV n (fillV 64 (nrmF l (topS l (m - 1)))) else (topCS n l m, 0, zeros.map (ab .f32))

set_option maxRecDepth 10000 in
set_option maxHeartbeats 2000000 in
theorem rawNorm_any (n : Int) (l : List Nat) (hl : l.length = 64) (m : Nat) (hm : n.toNat * n.toNat = m) (w : World) :
    Calls Try.prog 42 #[.agg (pic n l)] w (PicPost (normS n l m) w) := by
  have hz := (zero_of_info Try.infoP).1
  obtain ⟨W0, hW⟩ : ∃ W0, W0 = (w.alloc (.cells (pic n l) 32)).alloc (.cells (pic 0 zeros) 32) := ⟨_, rfl⟩
  have hb0 : Below w.heap.size w W0 := by rw [hW]; exact ((Below.refl _ _).alloc (Nat.le_refl _) _).alloc (by simp) _
  have h3 := blk2 w (.cells (pic n l) 32) (.cells (pic 0 zeros) 32)
  rw [← hW] at h3
  have b0 : Blk W0 w.heap.size (pic n l) 32 := h3.1
  have b1 : Blk W0 (w.heap.size + 1) (pic 0 zeros) 32 := h3.2
  have B0 := Lib.hid b0
  have B1 := Lib.hid b1
  have BW := Lib.hid hb0
  have HM := Lib.hid hm
  clear hb0 h3 b0 b1 hm
  cases hp : isPic n l with
  | false =>
    have R : Hid (normS n l m = (1, 0, zeros.map (ab .f32))) := by show _ = _; unfold normS topCS; rw [hp]; rfl
    go_enter Try.func42, Try.ntmps42
    go_upto_region 1 with (fail)
    rw [← hW]
    clear hW
    go_wp2_with (refine wpList_load_row rfl 32 (.tmp 1) rfl w.heap.size rfl 32 (pic n l) (0, 0) _ B0.out Try.underlying32 rfl (Try.sizeP hl) ?_)
    refine (l01Shown_any n l hl _).mono ?_
    rintro e w1 ⟨rfl, hb1⟩
    rw [hp]
    have B11 := Lib.hid (B1.out.below hb1)
    have BW1 := Lib.hid (BW.out.trans (hb1.mono BW.out.size))
    clear hb1
    go_wp2_with (first | (refine wpList_build0 rfl rfl ?_) | (refine wpList_store_row rfl 32 (.tmp 2) (.tmp 10) rfl (w.heap.size + 1) (pic 0 zeros) rfl rfl 32 (pic 0 zeros) B11.out ?c1 ?c2 (pic_one 0 zeros) ?_; (case c1 => exact Try.sizeP zeros_length); (case c2 => rfl)))
    refine bodyPost_ret (v := .tuple #[.agg (pic 0 zeros), .int .i64 1]) (results_cell_row2 Try.results42 _ _ (w.heap.size + 1) 32 (pic 0 zeros) (0, 0) _ _ rfl rfl (B11.out.row _) Try.underlying32 rfl (Try.sizeP zeros_length)) rfl ?_
    exact PicPost.err R.out (Below.setRow BW1.out (by omega) _)
  | true =>
    obtain ⟨nn, m', rfl, hn1, hn2, hmul, hm64, hm'⟩ := side_nat (isPic_sd hp)
    obtain rfl : m' = m := by rw [← HM.out, hm']
    have hm1 : 1 ≤ m' := by have := Nat.mul_le_mul hn1 hn1; rw [Int.toNat_natCast] at hm'; omega
    clear hm'
    obtain ⟨T, hT⟩ : ∃ T, T = topS l (m' - 1) := ⟨_, rfl⟩
    cases h0 : (FloatKind.f32.format.order T 0 == some .eq) with
    | true =>
      have R : Hid (normS nn l m' = (5, 0, zeros.map (ab .f32))) := by
        show _ = _; unfold normS topCS; rw [hp, ← hT]; simp only [if_true]; unfold eq0; rw [h0]; rfl
      have HT := Lib.hid hT
      clear hT
      go_enter Try.func42, Try.ntmps42
      go_upto_region 1 with (fail)
      rw [← hW]
      clear hW
      go_wp2_with (refine wpList_load_row rfl 32 (.tmp 1) rfl w.heap.size rfl 32 (pic nn l) (0, 0) _ B0.out Try.underlying32 rfl (Try.sizeP hl) ?_)
      refine (l01Shown_any nn l hl _).mono ?_
      rintro e w1 ⟨rfl, hb1⟩
      rw [hp]
      have B01 := Lib.hid (B0.out.below hb1)
      have B11 := Lib.hid (B1.out.below hb1)
      have BW1 := Lib.hid (BW.out.trans (hb1.mono BW.out.size))
      clear hb1
      go_wp2_with (refine wpList_load_row rfl 32 (.tmp 1) rfl w.heap.size rfl 32 (pic nn l) (0, 0) _ B01.out Try.underlying32 rfl (Try.sizeP hl) ?_)
      refine (l05Ends_any nn m' l hl hn1 hn2 hmul hm64 hm1 _).mono ?_
      rintro e w2 ⟨bb, rfl, hb2⟩
      rw [← HT.out]
      have B12 := Lib.hid (B11.out.below hb2)
      have BW2 := Lib.hid (BW1.out.trans (hb2.mono BW1.out.size))
      clear hb2
      go_wp2_with (first | (refine wpList_build0 rfl rfl ?_) | (refine wpList_store_row rfl 32 (.tmp 2) (.tmp 18) rfl (w.heap.size + 1) (pic 0 zeros) rfl rfl 32 (pic 0 zeros) B12.out ?c1 ?c2 (pic_one 0 zeros) ?_; (case c1 => exact Try.sizeP zeros_length); (case c2 => rfl)))
      refine bodyPost_ret (v := .tuple #[.agg (pic 0 zeros), .int .i64 5]) (results_cell_row2 Try.results42 _ _ (w.heap.size + 1) 32 (pic 0 zeros) (0, 0) _ _ rfl rfl (B12.out.row _) Try.underlying32 rfl (Try.sizeP zeros_length)) rfl ?_
      exact PicPost.err R.out (Below.setRow BW2.out (by omega) _)
    | false =>
      have R : Hid (normS nn l m' = limV nn (fillV 64 (nrmF l T))) := by
        show _ = _; unfold normS topCS; rw [hp, ← hT]; simp only [if_true]; unfold eq0; rw [h0]; rfl
      have HT := Lib.hid hT
      clear hT
      go_enter Try.func42, Try.ntmps42
      go_upto_region 1 with (fail)
      rw [← hW]
      clear hW
      go_wp2_with (refine wpList_load_row rfl 32 (.tmp 1) rfl w.heap.size rfl 32 (pic nn l) (0, 0) _ B0.out Try.underlying32 rfl (Try.sizeP hl) ?_)
      refine (l01Shown_any nn l hl _).mono ?_
      rintro e w1 ⟨rfl, hb1⟩
      rw [hp]
      have B01 := Lib.hid (B0.out.below hb1)
      have B11 := Lib.hid (B1.out.below hb1)
      have BW1 := Lib.hid (BW.out.trans (hb1.mono BW.out.size))
      clear hb1
      go_wp2_with (refine wpList_load_row rfl 32 (.tmp 1) rfl w.heap.size rfl 32 (pic nn l) (0, 0) _ B01.out Try.underlying32 rfl (Try.sizeP hl) ?_)
      refine (l05Ends_any nn m' l hl hn1 hn2 hmul hm64 hm1 _).mono ?_
      rintro e w2 ⟨bb, rfl, hb2⟩
      rw [← HT.out]
      have B02 := Lib.hid (B01.out.below hb2)
      have B12 := Lib.hid (B11.out.below hb2)
      have BW2 := Lib.hid (BW1.out.trans (hb2.mono BW1.out.size))
      clear hb2
      go_wp2_with fail
      go_loopw [6] (fun i wr => ∃ k : Nat, k ≤ 64 ∧ i = .int .i64 k ∧ Below w.heap.size w wr ∧ Hid (Blk wr (w.heap.size + 1) (pic 0 zeros) 32 ∧ ∃ cur : List Nat, cur.length = 64 ∧ Blk wr w.heap.size (pic nn cur) 32 ∧ (∀ j, j < k → ab .f32 (cur.getD j 0) = nrmF l T j) ∧ ∀ j, k ≤ j → cur.getD j 0 = l.getD j 0)) (fun i _ => 64 - (intOf i).toNat)
      case atStart => exact ⟨0, Nat.zero_le _, rfl, BW2.out, B12.out, l, hl, B02.out, fun j h => by omega, fun j _ => rfl⟩
      case round =>
        clear B02 B12 BW2 B01 B11 BW1 B0 B1
        obtain ⟨k, hk, rfl, hbl, hcur⟩ := hrel
        have HB := Lib.hid hbl; clear hbl
        obtain ⟨hz1, cur, hcl, hc, hm1, hm2⟩ := hcur.out
        clear hcur
        by_cases hlt : k < 64
        · have c0 := hc.picCell (by omega : k < cur.length)
          have f0 := hc.frozen (1 + k)
          have hx0 := hm2 k (Nat.le_refl _)
          obtain ⟨x, hx⟩ : ∃ x, x = cur.getD k 0 := ⟨_, rfl⟩
          rw [← hx] at c0 hx0
          have HX := Lib.hid hx0
          have HC := Lib.hid hc
          have HZ := Lib.hid hz1
          have HCL := Lib.hid hcl
          have HM1 := Lib.hid hm1
          have HM2 := Lib.hid hm2
          clear hc hz1 hcl hm1 hm2 hx hx0
          go_wp2
          go_roundw
          case rel =>
            refine ⟨k + 1, by omega, by go_num, (below_drewN' HB.out _).setCell (by exact Nat.le_refl _) _, (HZ.out.drewN _).other (by omega) _ _, cur.set k _, by rw [List.length_set]; exact HCL.out, (HC.out.drewN _).picSet k _, ?_, ?_⟩
            · intro j hj
              by_cases e : j = k
              · subst e
                have : j < cur.length := by rw [HCL.out]; omega
                rw [List.getD_eq_getElem?_getD, List.getElem?_set, if_pos rfl, if_pos this, Option.getD_some, ab_fres, HX.out]; rfl
              · have := HM1.out j (by omega)
                rw [← this, List.getD_eq_getElem?_getD, List.getElem?_set, if_neg (by omega), List.getD_eq_getElem?_getD]
            · intro j hj
              have := HM2.out j (by omega)
              rw [List.getD_eq_getElem?_getD, List.getElem?_set, if_neg (by omega)]
              rw [List.getD_eq_getElem?_getD] at this; exact this
          case measure => simp [intOf]; omega
        · have ek : k = 64 := by omega
          have HC := Lib.hid hc
          have HZ := Lib.hid hz1
          have hV : cur.map (ab .f32) = fillV 64 (nrmF l T) := by
            refine List.ext_getElem? fun i => ?_
            by_cases hi : i < 64
            · rw [fillV_get _ hi, if_pos hi, List.getElem?_map, List.getElem?_eq_getElem (by omega : i < cur.length)]
              have := hm1 i (by omega)
              rw [← this]; simp [show i < cur.length by omega]
            · rw [List.getElem?_eq_none (by simp; omega), List.getElem?_eq_none (by rw [fillV_length _ (Nat.le_refl _)]; omega)]
          have HV := Lib.hid hV
          have HCL := Lib.hid hcl
          clear hc hz1 hV hcl hm1 hm2 ek
          go_wp2_with (refine wpList_load_row rfl 32 (.tmp 1) rfl w.heap.size rfl 32 (pic nn cur) (0, 0) _ HC.out Try.underlying32 rfl (Try.sizeP HCL.out) ?_)
          refine (l05Told_any nn cur HCL.out _).mono ?_
          rintro e w5 ⟨l5, rfl, hl5, hml5, hb5⟩
          rw [limR_V nn cur HCL.out, HV.out] at hml5 ⊢
          obtain ⟨k5, n5, v5, hr5⟩ : ∃ k5 n5 v5, limV nn (fillV 64 (nrmF l T)) = (k5, n5, v5) := ⟨_, _, _, rfl⟩
          rw [hr5] at hml5 ⊢
          simp only at hml5 ⊢
          have HR5 := Lib.hid hr5
          have HL5 := Lib.hid hl5
          have HML5 := Lib.hid hml5
          have B15 := Lib.hid (HZ.out.below hb5)
          have BW5 := Lib.hid (HB.out.trans (hb5.mono HB.out.size))
          clear hb5 hr5 hl5 hml5
          go_wp2_with (refine wpList_store_row rfl 32 (.tmp 2) (.tmp 34) rfl (w.heap.size + 1) (pic n5 l5) rfl rfl 32 (pic 0 zeros) B15.out ?c1 ?c2 (pic_one n5 l5) ?_; (case c1 => exact Try.sizeP HL5.out); (case c2 => (rw [pic_size, pic_size, HL5.out]; rfl)))
          refine bodyPost_ret (v := .tuple #[.agg (pic n5 l5), .int .i64 k5]) (results_cell_row2 Try.results42 _ _ (w.heap.size + 1) 32 (pic n5 l5) (0, 0) _ _ rfl rfl (B15.out.row _) Try.underlying32 rfl (Try.sizeP HL5.out)) rfl ?_
          exact ⟨l5, by rw [R.out, HR5.out], HL5.out, by rw [R.out, HR5.out]; exact HML5.out, Below.setRow BW5.out (by omega) _⟩
end Go.Proofs.Ytphbjfijipcpnaa
