/- NormPicture: the program's side. -/
import Derived.Test.YtphbjfijipcpnaaLv2
namespace Go.Proofs.Ytphbjfijipcpnaa
open Go.RowKit
set_option linter.unusedVariables false

theorem normCl_any (x T g : Nat) (w : World) (hc : w.cell? ⟨g, 0, none⟩ = some (.float .f32 T)) :
    Calls Try.prog 87 #[.float .f32 x, .pointer (some ⟨g, 0, none⟩)] w fun e w' => ∃ b, e = .returned (.float .f32 b) ∧ ab .f32 b = arith .quo .f32 (ab .f32 x) (ab .f32 T) ∧ Quiet w w' := by
  go_enter Try.func87, Try.ntmps87
  go_wp2
  go_ret
  exact ⟨_, rfl, ab_fres _ _ _ _ _, _, rfl⟩

set_option maxRecDepth 10000 in
set_option maxHeartbeats 1000000 in
theorem normLv_any (nn m : Nat) (l : List Nat) (hl : l.length = 64) (T g g2 g3 k : Nat) (y x : Int) (w : World) (hk : k < 64)
    (h3 : w.cell? ⟨g3, 0, none⟩ = some (.func (.func 87) #[] #[.pointer (some ⟨g, 0, none⟩)])) (h2 : Blk w g2 (pic nn l) 32) (h1 : w.cell? ⟨g, 0, none⟩ = some (.float .f32 T)) :
    Calls Try.prog 129 #[.int .i64 y, .int .i64 x, .int .i64 k, .pointer (some ⟨g3, 0, none⟩), .pointer (some ⟨g2, 0, none⟩)] w fun e w' => ∃ b, e = .returned (.float .f32 b) ∧ ab .f32 b = arith .quo .f32 (ab .f32 (l.getD k 0)) (ab .f32 T) ∧ Below w.heap.size w w' := by
  have c0 := h2.picCell (by omega : k < l.length)
  obtain ⟨z, hz⟩ : ∃ z, z = l.getD k 0 := ⟨_, rfl⟩
  rw [← hz] at c0 ⊢
  have HC := Lib.hid (normCl_any z T g w.drew h1)
  clear hz h2
  go_enter Try.func129, Try.ntmps129
  go_wp2
  go_region_with ((go_at_call 87; refine HC.out.mono ?_; rintro e w' ⟨b, rfl, hb, q, rfl⟩; have HB := Lib.hid hb; clear hb))
  all_goals
    go_wp2
    go_ret
    exact ⟨_, rfl, HB.out, below_drewN' (Below.refl _ _) _⟩

/-- the levels divided by the top -/
def nrmF (l : List Nat) (T : Nat) (i : Nat) : FV := arith .quo .f32 (ab .f32 (l.getD i 0)) (ab .f32 T)
/-- whether a list of levels (up to the bits of NaNs) lies as a picture's does -/
def okV (m k : Nat) : FV → Bool
  | none => false
  | some b => okL m k b
theorem okL_ab (m k b : Nat) : okL m k b = okV m k (ab .f32 b) := by
  cases hn : (FloatKind.f32.decode b).isNaN with
  | true =>
    rw [ab_none hn]
    have : isNum b = false := by unfold isNum; rw [ab_none hn]; rfl
    simp [okV, okL, this]
  | false => rw [ab_some hn]; rfl
def isPicV (n : Int) (v : List FV) : Bool := isSd n && (List.range 64).all fun k => okV (n.toNat * n.toNat) k (v.getD k (some 0))
theorem isPic_ab (n : Int) (l : List Nat) (hl : l.length = 64) : isPic n l = isPicV n (l.map (ab .f32)) := by
  unfold isPic isPicV
  congr 1
  rw [Bool.eq_iff_iff, List.all_eq_true, List.all_eq_true]
  refine forall_congr' fun k => forall_congr' fun hk => ?_
  have hk' : k < 64 := by simpa using hk
  rw [okL_ab]
  have : (l.map (ab .f32)).getD k (some 0) = ab .f32 (l.getD k 0) := by
    simp [List.getD_eq_getElem?_getD, show k < l.length by omega]
  rw [this]
def limV (n : Int) (v : List FV) : Int × Int × List FV := if isPicV n v then (0, n, v) else (3, 0, zeros.map (ab .f32))
theorem limR_V (n : Int) (l : List Nat) (hl : l.length = 64) : limR n l = limV n (l.map (ab .f32)) := by
  unfold limR limV; rw [isPic_ab n l hl]
/-- what NormPicture gives ahead of plain -/
def normI (n : Int) (l : List Nat) (m : Nat) : Int × Int × List FV :=
  if topC n l m = 0 then limV n (fillV m (nrmF l (topI l (m - 1)))) else (topC n l m, 0, zeros.map (ab .f32))

set_option maxRecDepth 10000 in
set_option maxHeartbeats 2000000 in
theorem signedNorm_any (n : Int) (l : List Nat) (hl : l.length = 64) (m : Nat) (hm : n.toNat * n.toNat = m) (w : World) :
    Calls Try.prog 45 #[.agg (pic n l)] w (PicPost (normI n l m) w) := by
  have hz := (zero_of_info Try.infoP).1
  obtain ⟨W0, hW⟩ : ∃ W0, W0 = (w.alloc (.cells (pic n l) 32)).alloc (.cells (pic 0 zeros) 32) := ⟨_, rfl⟩
  have hb0 : Below w.heap.size w W0 := by rw [hW]; exact ((Below.refl _ _).alloc (Nat.le_refl _) _).alloc (by simp) _
  have h3 := blk2 w (.cells (pic n l) 32) (.cells (pic 0 zeros) 32)
  rw [← hW] at h3
  have b0 : Blk W0 w.heap.size (pic n l) 32 := h3.1
  have b1 : Blk W0 (w.heap.size + 1) (pic 0 zeros) 32 := h3.2
  have B0 := Lib.hid b0
  have B1 := Lib.hid b1
  have BW := Lib.hid hb0
  have HM := Lib.hid hm
  clear hb0 h3 b0 b1 hm
  obtain ⟨cd, hcd⟩ : ∃ cd, cd = topC n l m := ⟨_, rfl⟩
  by_cases h0 : cd = 0
  · have R : Hid (normI n l m = limV n (fillV m (nrmF l (topI l (m - 1))))) := by show _ = _; unfold normI; rw [if_pos (by rw [← hcd]; exact h0)]
    have hp : isPic n l = true := by
      cases hp : isPic n l with
      | true => rfl
      | false => rw [h0] at hcd; unfold topC at hcd; rw [hp] at hcd; cases hcd
    obtain ⟨nn, m', rfl, hn1, hn2, hmul, hm64, hm'⟩ := side_nat (isPic_sd hp)
    obtain rfl : m' = m := by rw [← HM.out, hm']
    rw [Int.toNat_natCast] at hm'
    have hm1 : 1 ≤ m' := by have := Nat.mul_le_mul hn1 hn1; omega
    have HLV : Hid (∀ j, j < m' → Lvl (l.getD j 0)) := fun j hj => okL_lvl (isPic_at hp HM.out j (by omega))
    obtain ⟨T, hT⟩ : ∃ T, T = topI l (m' - 1) := ⟨_, rfl⟩
    have HT := Lib.hid hT
    have HCD := Lib.hid hcd
    have HMM := Lib.hid hm'
    clear hT hp hcd hm'
    subst h0
    go_enter Try.func45, Try.ntmps45
    go_upto_region 1 with (fail)
    rw [← hW]
    clear hW
    go_wp2_with (refine wpList_load_row rfl 32 (.tmp 1) rfl w.heap.size rfl 32 (pic nn l) (0, 0) _ B0.out Try.underlying32 rfl (Try.sizeP hl) ?_)
    refine (topCode_any nn l hl _ m' HM.out).mono ?_
    rintro e w1 ⟨rfl, hb1⟩
    rw [← HCD.out]
    have B01 := Lib.hid (B0.out.below hb1)
    have B11 := Lib.hid (B1.out.below hb1)
    have BW1 := Lib.hid (BW.out.trans (hb1.mono BW.out.size))
    clear hb1
    go_wp2_with (refine wpList_load_row rfl 32 (.tmp 1) rfl w.heap.size rfl 32 (pic nn l) (0, 0) _ B01.out Try.underlying32 rfl (Try.sizeP hl) ?_)
    refine (top_any nn m' l hl hn1 hn2 hmul hm64 hm1 HLV.out _).mono ?_
    rintro e w2 ⟨rfl, hb2⟩
    rw [← HT.out]
    have b02 := B01.out.below hb2
    have b12 := B11.out.below hb2
    have BW2 := BW1.out.trans (hb2.mono BW1.out.size)
    obtain ⟨W3, hW3⟩ : ∃ W3, W3 = w2.alloc (.cells #[.float .f32 T] 28) := ⟨_, rfl⟩
    have hb3 : Below w2.heap.size w2 W3 := by rw [hW3]; exact (Below.refl _ _).alloc (Nat.le_refl _) _
    have bt : Blk W3 w2.heap.size #[.float .f32 T] 28 := by rw [hW3]; exact Blk.new w2 _ _
    have ct : W3.cell? ⟨w2.heap.size, 0, none⟩ = some (.float .f32 T) := by rw [bt.cell]; rfl
    have B03 := Lib.hid (b02.below hb3)
    have B13 := Lib.hid (b12.below hb3)
    have BW3 := Lib.hid (BW2.trans (hb3.mono BW2.size))
    have CT := Lib.hid ct
    clear b02 b12 BW2 hb3 bt ct hb2
    go_upto_region 5 with (fail)
    rw [← hW3]
    clear hW3
    go_wp2_with (refine wpList_load_row rfl 32 (.tmp 1) rfl w.heap.size rfl 32 (pic nn l) (0, 0) _ B03.out Try.underlying32 rfl (Try.sizeP hl) ?_)
    refine (levelsBy_any 87 #[.pointer (some ⟨w2.heap.size, 0, none⟩)] nn m' l hl hn1 hn2 HMM.out (nrmF l T) W3 ?hf).mono ?_
    case hf =>
      intro i y x g2 g3 wr hi hb h3 h2
      exact normLv_any nn m' l hl T w2.heap.size g2 g3 i y x wr (by omega) h3 h2 (by rw [hb.cell (by exact block_lt_of_cell CT.out)]; exact CT.out)
    rintro e w4 ⟨l', rfl, hl', hml, hb4⟩
    have B14 := Lib.hid (B13.out.below hb4)
    have BW4 := Lib.hid (BW3.out.trans (hb4.mono BW3.out.size))
    have HL := Lib.hid hl'
    have HML := Lib.hid hml
    clear hb4 hl' hml
    go_wp2_with fail
    refine (limitPicture_any nn l' HL.out w4).mono ?_
    rintro e w5 ⟨l5, rfl, hl5, hml5, hb5⟩
    rw [limR_V nn l' HL.out, HML.out] at hml5 ⊢
    obtain ⟨k5, n5, v5, hr5⟩ : ∃ k5 n5 v5, limV nn (fillV m' (nrmF l T)) = (k5, n5, v5) := ⟨_, _, _, rfl⟩
    rw [hr5] at hml5 ⊢
    simp only at hml5 ⊢
    have HR5 := Lib.hid hr5
    have HL5 := Lib.hid hl5
    have HML5 := Lib.hid hml5
    have B15 := Lib.hid (B14.out.below hb5)
    have BW5 := Lib.hid (BW4.out.trans (hb5.mono BW4.out.size))
    clear hb5 hr5 hl5 hml5
    go_wp2_with (refine wpList_store_row rfl 32 (.tmp 2) (.tmp 18) rfl (w.heap.size + 1) (pic n5 l5) rfl rfl 32 (pic 0 zeros) B15.out ?c1 ?c2 (pic_one n5 l5) ?_; (case c1 => exact Try.sizeP HL5.out); (case c2 => (rw [pic_size, pic_size, HL5.out]; rfl)))
    refine bodyPost_ret (v := .tuple #[.agg (pic n5 l5), .int .i64 k5]) (results_cell_row2 Try.results45 _ _ (w.heap.size + 1) 32 (pic n5 l5) (0, 0) _ _ rfl rfl (B15.out.row _) Try.underlying32 rfl (Try.sizeP HL5.out)) rfl ?_
    exact ⟨l5, by rw [R.out, ← HT.out, HR5.out], HL5.out, by rw [R.out, ← HT.out, HR5.out]; exact HML5.out, Below.setRow BW5.out (by omega) _⟩
  · have R : Hid (normI n l m = (cd, 0, zeros.map (ab .f32))) := by show _ = _; unfold normI; rw [← hcd, if_neg h0]
    have HCD := Lib.hid hcd
    clear hcd
    have h0b : (cd != 0) = true := by simp [bne, h0]
    go_enter Try.func45, Try.ntmps45
    go_upto_region 1 with (fail)
    rw [← hW]
    clear hW
    go_wp2_with (refine wpList_load_row rfl 32 (.tmp 1) rfl w.heap.size rfl 32 (pic n l) (0, 0) _ B0.out Try.underlying32 rfl (Try.sizeP hl) ?_)
    refine (topCode_any n l hl _ m HM.out).mono ?_
    rintro e w1 ⟨rfl, hb1⟩
    rw [← HCD.out]
    have B11 := Lib.hid (B1.out.below hb1)
    have BW1 := Lib.hid (BW.out.trans (hb1.mono BW.out.size))
    clear hb1
    go_wp2_with (first | (refine wpList_build0 rfl rfl ?_) | (refine wpList_store_row rfl 32 (.tmp 2) (.tmp 10) rfl (w.heap.size + 1) (pic 0 zeros) rfl rfl 32 (pic 0 zeros) B11.out ?c1 ?c2 (pic_one 0 zeros) ?_; (case c1 => exact Try.sizeP zeros_length); (case c2 => rfl)))
    refine bodyPost_ret (v := .tuple #[.agg (pic 0 zeros), .int .i64 cd]) (results_cell_row2 Try.results45 _ _ (w.heap.size + 1) 32 (pic 0 zeros) (0, 0) _ _ rfl rfl (B11.out.row _) Try.underlying32 rfl (Try.sizeP zeros_length)) rfl ?_
    exact PicPost.err R.out (Below.setRow BW1.out (by omega) _)
end Go.Proofs.Ytphbjfijipcpnaa
