/- Pictures: whether one is one. -/
import Derived.Test.YtphbjfijipcpnaaPS
namespace Go.Proofs.Ytphbjfijipcpnaa
open Go.RowKit
set_option linter.unusedVariables false

def lt0 (b : Nat) : Bool := FloatKind.f32.format.order b 0 == some .lt
def eq0 (b : Nat) : Bool := FloatKind.f32.format.order b 0 == some .eq
/-- whether a level may lie at place k of a picture with m cells -/
def okL (m k b : Nat) : Bool := isNum b && !lt0 b && (decide (k < m) || eq0 b)
def isPic (n : Int) (l : List Nat) : Bool := isSd n && (List.range 64).all fun k => okL (n.toNat * n.toNat) k (l.getD k 0)
theorem isPic_yes {n : Int} {l : List Nat} {m : Nat} (h1 : isSd n = true) (hm : n.toNat * n.toNat = m) (h2 : ∀ j, j < 64 → okL m j (l.getD j 0) = true) : isPic n l = true := by
  unfold isPic
  rw [h1, Bool.true_and, List.all_eq_true]
  intro k hk
  rw [hm]
  exact h2 k (by simpa using hk)
theorem isPic_no {n : Int} {l : List Nat} {m k : Nat} (hm : n.toNat * n.toNat = m) (hk : k < 64) (h2 : okL m k (l.getD k 0) = false) : isPic n l = false := by
  unfold isPic
  rw [Bool.and_eq_false_iff]
  right
  rw [List.all_eq_false]
  exact ⟨k, by simpa using hk, by rw [hm, h2]; simp⟩
theorem isPic_side {n : Int} {l : List Nat} (h : isSd n = false) : isPic n l = false := by unfold isPic; rw [h]; rfl

theorem side_nat {n : Int} (h : isSd n = true) : ∃ nn m : Nat, n = (nn : Int) ∧ 1 ≤ nn ∧ nn ≤ 8 ∧ (nn : Int) * nn = m ∧ m ≤ 64 ∧ n.toNat * n.toNat = m := by
  rcases isSd_cases h with e | e | e | e <;> subst e
  · exact ⟨1, 1, rfl, by omega, by omega, rfl, by omega, rfl⟩
  · exact ⟨2, 4, rfl, by omega, by omega, rfl, by omega, rfl⟩
  · exact ⟨4, 16, rfl, by omega, by omega, rfl, by omega, rfl⟩
  · exact ⟨8, 64, rfl, by omega, by omega, rfl, by omega, rfl⟩

set_option maxRecDepth 10000 in
set_option maxHeartbeats 4000000 in
theorem IsPicture_any (n : Int) (l : List Nat) (hl : l.length = 64) (w : World) :
    Calls Try.prog 91 #[.agg (pic n l)] w fun e w' => e = .returned (.bool (isPic n l)) ∧ Below w.heap.size w w' := by
  obtain ⟨W0, hW⟩ : ∃ W0, W0 = w.alloc (.cells (pic n l) 32) := ⟨_, rfl⟩
  have hb0 : Below w.heap.size w W0 := by rw [hW]; exact (Below.refl _ _).alloc (Nat.le_refl _) _
  have b1 : Blk W0 w.heap.size (pic n l) 32 := by rw [hW]; exact Blk.new w _ _
  have c0 := b1.picSide
  have R1 := Lib.hid b1.picMid
  have BW := Lib.hid hb0
  have B1 := Lib.hid b1
  clear b1 hb0
  cases hs : isSd n with
  | false =>
    have R : Hid (isPic n l = false) := isPic_side hs
    go_enter Try.func91, Try.ntmps91
    go_upto_region 1 with (fail)
    rw [← hW]
    clear hW
    go_wp2_with fail
    refine (isSide_any _ _).mono ?_
    rintro e w1 ⟨rfl, rfl⟩
    rw [hs]
    go_wp2
    go_ret
    exact ⟨ret_bool R.out.symm, BW.out⟩
  | true =>
    obtain ⟨nn, m, rfl, hn1, hn2, hmul, hm64, hm⟩ := side_nat hs
    have HS := Lib.hid hs
    have HM := Lib.hid hm
    clear hm
    go_enter Try.func91, Try.ntmps91
    go_upto_region 1 with (fail)
    rw [← hW]
    clear hW
    go_wp2_with fail
    refine (isSide_any _ _).mono ?_
    rintro e w1 ⟨rfl, rfl⟩
    rw [hs]
    clear hs
    go_wp2_with (refine wpList_load_mid rfl 29 (.tmp 9) rfl w.heap.size 1 rfl (l.map flt) _ R1.out Try.underlying29 rfl (Try.sizeA' hl) ?_)
    go_loopw [3, 4, 11] (fun _ _ i wr => ∃ k : Nat, k ≤ 64 ∧ i = .int .i64 k ∧ Quiet W0 wr ∧ Hid (∀ j, j < k → okL m j (l.getD j 0) = true)) (fun _ _ i _ => 64 - (intOf i).toNat)
    case atStart => exact ⟨0, Nat.zero_le _, rfl, Quiet.refl _, fun j h => by omega⟩
    case round =>
      obtain ⟨k, hk, rfl, ⟨q, rfl⟩, hall⟩ := hrel
      by_cases hlt : k < 64
      · have hidx := index_arr l hl k hlt
        obtain ⟨x, hx⟩ : ∃ x, x = l.getD k 0 := ⟨_, rfl⟩
        rw [← hx] at hidx
        have HX := Lib.hid hx
        clear hx
        cases h1 : isNum x with
        | false =>
          have HOK : Hid (okL m k x = false) := by show _ = _; simp [okL, h1]
          go_wp2_with (go_at_call 92; refine (isNumber_any _ _).mono ?_; rintro e w' ⟨rfl, n1, rfl⟩; rw [h1])
          go_ret
          exact ⟨ret_bool (isPic_no HM.out hlt (by rw [← HX.out]; exact HOK.out)).symm, below_drewN' BW.out _⟩
        | true =>
        cases h2 : (FloatKind.f32.format.order x 0 == some .lt) with
        | true =>
          have HOK : Hid (okL m k x = false) := by show _ = _; simp only [okL, lt0, h2]; simp
          go_wp2_with (go_at_call 92; refine (isNumber_any _ _).mono ?_; rintro e w' ⟨rfl, n1, rfl⟩; rw [h1])
          go_ret
          exact ⟨ret_bool (isPic_no HM.out hlt (by rw [← HX.out]; exact HOK.out)).symm, below_drewN' BW.out _⟩
        | false =>
        by_cases h3 : k < m
        · have HOK : Hid (okL m k x = true) := by show _ = _; simp only [okL, lt0, h1, h2, decide_eq_true h3]; rfl
          go_wp2_with (go_at_call 92; refine (isNumber_any _ _).mono ?_; rintro e w' ⟨rfl, n1, rfl⟩; rw [h1])
          go_roundw
          case rel =>
            refine ⟨k + 1, by omega, by go_num, ⟨_, rfl⟩, fun j hj => ?_⟩
            by_cases e : j = k
            · rw [e, ← HX.out]; exact HOK.out
            · exact hall.out j (by omega)
          case measure => simp [intOf]; omega
        · cases h4 : (FloatKind.f32.format.order x 0 == some .eq) with
          | true =>
            have HOK : Hid (okL m k x = true) := by show _ = _; simp only [okL, lt0, eq0, h1, h2, h4, decide_eq_false h3]; rfl
            have h4b : (FloatKind.f32.format.order x 0 != some .eq) = false := by simp [bne, h4]
            go_wp2_with (go_at_call 92; refine (isNumber_any _ _).mono ?_; rintro e w' ⟨rfl, n1, rfl⟩; rw [h1])
            go_roundw
            case rel =>
              refine ⟨k + 1, by omega, by go_num, ⟨_, rfl⟩, fun j hj => ?_⟩
              by_cases e : j = k
              · rw [e, ← HX.out]; exact HOK.out
              · exact hall.out j (by omega)
            case measure => simp [intOf]; omega
          | false =>
            have HOK : Hid (okL m k x = false) := by show _ = _; simp only [okL, lt0, eq0, h1, h2, h4, decide_eq_false h3]; rfl
            have h4b : (FloatKind.f32.format.order x 0 != some .eq) = true := by simp [bne, h4]
            go_wp2_with (go_at_call 92; refine (isNumber_any _ _).mono ?_; rintro e w' ⟨rfl, n1, rfl⟩; rw [h1])
            go_ret
            exact ⟨ret_bool (isPic_no HM.out hlt (by rw [← HX.out]; exact HOK.out)).symm, below_drewN' BW.out _⟩
      · have HY := Lib.hid (isPic_yes (l := l) HS.out HM.out (fun j hj => hall.out j (by omega)))
        clear hall
        go_wp2
        go_ret
        exact ⟨ret_bool HY.out.symm, below_drewN' BW.out _⟩

set_option maxRecDepth 10000 in
set_option maxHeartbeats 4000000 in
theorem l01Shown_any (n : Int) (l : List Nat) (hl : l.length = 64) (w : World) :
    Calls Try.prog 80 #[.agg (pic n l)] w fun e w' => e = .returned (.bool (isPic n l)) ∧ Below w.heap.size w w' := by
  obtain ⟨W0, hW⟩ : ∃ W0, W0 = w.alloc (.cells (pic n l) 32) := ⟨_, rfl⟩
  have hb0 : Below w.heap.size w W0 := by rw [hW]; exact (Below.refl _ _).alloc (Nat.le_refl _) _
  have b1 : Blk W0 w.heap.size (pic n l) 32 := by rw [hW]; exact Blk.new w _ _
  have c0 := b1.picSide
  have R1 := Lib.hid b1.picMid
  have BW := Lib.hid hb0
  have B1 := Lib.hid b1
  clear b1 hb0
  cases hs : isSd n with
  | false =>
    have R : Hid (isPic n l = false) := isPic_side hs
    go_enter Try.func80, Try.ntmps80
    go_upto_region 1 with (fail)
    rw [← hW]
    clear hW
    go_wp2_with fail
    refine (l01Side_any _ _).mono ?_
    rintro e w1 ⟨rfl, rfl⟩
    rw [hs]
    go_wp2
    go_ret
    exact ⟨ret_bool R.out.symm, BW.out⟩
  | true =>
    obtain ⟨nn, m, rfl, hn1, hn2, hmul, hm64, hm⟩ := side_nat hs
    have HS := Lib.hid hs
    have HM := Lib.hid hm
    clear hm
    go_enter Try.func80, Try.ntmps80
    go_upto_region 1 with (fail)
    rw [← hW]
    clear hW
    go_wp2_with fail
    refine (l01Side_any _ _).mono ?_
    rintro e w1 ⟨rfl, rfl⟩
    rw [hs]
    clear hs
    go_wp2
    go_loopw [3] (fun i wr => ∃ k : Nat, k ≤ 64 ∧ i = .int .i64 k ∧ Quiet W0 wr ∧ Hid (∀ j, j < k → okL m j (l.getD j 0) = true)) (fun i _ => 64 - (intOf i).toNat)
    case atStart => exact ⟨0, Nat.zero_le _, rfl, Quiet.refl _, fun j h => by omega⟩
    case round =>
      obtain ⟨k, hk, rfl, ⟨q, rfl⟩, hall⟩ := hrel
      by_cases hlt : k < 64
      · have hcell := B1.out.picCell (by omega : k < l.length)
        obtain ⟨x, hx⟩ : ∃ x, x = l.getD k 0 := ⟨_, rfl⟩
        rw [← hx] at hcell
        have HX := Lib.hid hx
        clear hx
        cases h1 : isNum x with
        | false =>
          have HOK : Hid (okL m k x = false) := by show _ = _; simp [okL, h1]
          go_wp2_with (go_at_call 88; refine (l01Fine_any _ _).mono ?_; rintro e w' ⟨rfl, n1, rfl⟩; rw [h1])
          go_ret
          exact ⟨ret_bool (isPic_no HM.out hlt (by rw [← HX.out]; exact HOK.out)).symm, below_drewN' BW.out _⟩
        | true =>
        cases h2 : (FloatKind.f32.format.order x 0 == some .lt) with
        | true =>
          have HOK : Hid (okL m k x = false) := by show _ = _; simp only [okL, lt0, h2]; simp
          go_wp2_with (go_at_call 88; refine (l01Fine_any _ _).mono ?_; rintro e w' ⟨rfl, n1, rfl⟩; rw [h1])
          go_ret
          exact ⟨ret_bool (isPic_no HM.out hlt (by rw [← HX.out]; exact HOK.out)).symm, below_drewN' BW.out _⟩
        | false =>
        by_cases h3 : k < m
        · have HOK : Hid (okL m k x = true) := by show _ = _; simp only [okL, lt0, h1, h2, decide_eq_true h3]; rfl
          go_wp2_with (go_at_call 88; refine (l01Fine_any _ _).mono ?_; rintro e w' ⟨rfl, n1, rfl⟩; rw [h1])
          go_roundw
          case rel =>
            refine ⟨k + 1, by omega, by go_num, ⟨_, rfl⟩, fun j hj => ?_⟩
            by_cases e : j = k
            · rw [e, ← HX.out]; exact HOK.out
            · exact hall.out j (by omega)
          case measure => simp [intOf]; omega
        · cases h4 : (FloatKind.f32.format.order x 0 == some .eq) with
          | true =>
            have HOK : Hid (okL m k x = true) := by show _ = _; simp only [okL, lt0, eq0, h1, h2, h4, decide_eq_false h3]; rfl
            have h4b : (FloatKind.f32.format.order x 0 != some .eq) = false := by simp [bne, h4]
            go_wp2_with (go_at_call 88; refine (l01Fine_any _ _).mono ?_; rintro e w' ⟨rfl, n1, rfl⟩; rw [h1])
            go_roundw
            case rel =>
              refine ⟨k + 1, by omega, by go_num, ⟨_, rfl⟩, fun j hj => ?_⟩
              by_cases e : j = k
              · rw [e, ← HX.out]; exact HOK.out
              · exact hall.out j (by omega)
            case measure => simp [intOf]; omega
          | false =>
            have HOK : Hid (okL m k x = false) := by show _ = _; simp only [okL, lt0, eq0, h1, h2, h4, decide_eq_false h3]; rfl
            have h4b : (FloatKind.f32.format.order x 0 != some .eq) = true := by simp [bne, h4]
            go_wp2_with (go_at_call 88; refine (l01Fine_any _ _).mono ?_; rintro e w' ⟨rfl, n1, rfl⟩; rw [h1])
            go_ret
            exact ⟨ret_bool (isPic_no HM.out hlt (by rw [← HX.out]; exact HOK.out)).symm, below_drewN' BW.out _⟩
      · have HY := Lib.hid (isPic_yes (l := l) HS.out HM.out (fun j hj => hall.out j (by omega)))
        clear hall
        go_wp2
        go_ret
        exact ⟨ret_bool HY.out.symm, below_drewN' BW.out _⟩

end Go.Proofs.Ytphbjfijipcpnaa
