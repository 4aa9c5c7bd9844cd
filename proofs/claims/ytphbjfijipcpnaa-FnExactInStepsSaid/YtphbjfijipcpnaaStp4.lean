/- InSteps: codes, closures, the walks of both sides. -/
import Derived.Test.YtphbjfijipcpnaaStp3
import Derived.Test.YtphbjfijipcpnaaNorm
namespace Go.Proofs.Ytphbjfijipcpnaa
open Go.RowKit
set_option linter.unusedVariables false

theorem inR_true {n a b : Int} (h : inR n a b = true) : a ≤ n ∧ n ≤ b := by
  simpa only [inR, Bool.and_eq_true, decide_eq_true_eq] using h

def le0 (q : Nat) : Bool := FloatKind.f32.format.order q 0 == some .lt || FloatKind.f32.format.order q 0 == some .eq
theorem le0_false {q : Nat} (h : isNum q = true) (h0 : le0 q = false) : 0 < valF q := by
  have h1 := lt0_val h
  have h2 := eq0_val h
  unfold lt0 at h1
  unfold eq0 at h2
  unfold le0 at h0
  rw [h1, h2, Bool.or_eq_false_iff] at h0
  have a := of_decide_eq_false h0.1
  have b := of_decide_eq_false h0.2
  omega
/-- the code of a picture, a number and a number of steps -/
def codeS (n : Int) (l : List Nat) (q : Nat) (m : Int) : Int := if isPic n l && isNum q then (if le0 q || !inR m 2 256 then 2 else 0) else 1

set_option maxRecDepth 10000 in
theorem stepsCode_any (n : Int) (l : List Nat) (hl : l.length = 64) (q : Nat) (m : Int) (w : World) :
    Calls Try.prog 118 #[.agg (pic n l), .float .f32 q, .int .i64 m] w fun e w' => e = .returned (.int .i64 (codeS n l q m)) ∧ Below w.heap.size w w' := by
  obtain ⟨W0, hW⟩ : ∃ W0, W0 = w.alloc (.cells (pic n l) 32) := ⟨_, rfl⟩
  have hb0 : Below w.heap.size w W0 := by rw [hW]; exact (Below.refl _ _).alloc (Nat.le_refl _) _
  have b1 : Blk W0 w.heap.size (pic n l) 32 := by rw [hW]; exact Blk.new w _ _
  have B1 := Lib.hid b1
  have BW := Lib.hid hb0
  clear b1 hb0
  cases h1 : isPic n l with
  | false =>
    have R : Hid (codeS n l q m = 1) := by show _ = _; unfold codeS; rw [h1]; rfl
    go_enter Try.func118, Try.ntmps118
    go_upto_region 1 with (fail)
    rw [← hW]
    clear hW
    go_wp2_with (refine wpList_load_row rfl 32 (.tmp 3) rfl w.heap.size rfl 32 (pic n l) (0, 0) _ B1.out Try.underlying32 rfl (Try.sizeP hl) ?_)
    refine (IsPicture_any n l hl _).mono ?_
    rintro e w2 ⟨rfl, hb⟩
    rw [h1]
    have HB := Lib.hid (BW.out.trans (hb.mono BW.out.size))
    clear hb
    go_wp2_with fail
    go_ret
    exact ⟨by rw [R.out]; rfl, HB.out⟩
  | true =>
  cases h2 : isNum q with
  | false =>
    have R : Hid (codeS n l q m = 1) := by show _ = _; unfold codeS; rw [h1, h2]; rfl
    go_enter Try.func118, Try.ntmps118
    go_upto_region 1 with (fail)
    rw [← hW]
    clear hW
    go_wp2_with (refine wpList_load_row rfl 32 (.tmp 3) rfl w.heap.size rfl 32 (pic n l) (0, 0) _ B1.out Try.underlying32 rfl (Try.sizeP hl) ?_)
    refine (IsPicture_any n l hl _).mono ?_
    rintro e w2 ⟨rfl, hb⟩
    rw [h1]
    have HB := Lib.hid (BW.out.trans (hb.mono BW.out.size))
    clear hb
    go_wp2_with (go_at_call 92; refine (isNumber_any _ _).mono ?_; rintro e w' ⟨rfl, n1, rfl⟩; rw [h2])
    go_ret
    exact ⟨by rw [R.out]; rfl, below_drewN' HB.out _⟩
  | true =>
  cases h3 : (FloatKind.f32.format.order q 0 == some .lt || FloatKind.f32.format.order q 0 == some .eq) with
  | true =>
    have R : Hid (codeS n l q m = 2) := by show _ = _; unfold codeS le0; rw [h1, h2, h3]; rfl
    go_enter Try.func118, Try.ntmps118
    go_upto_region 1 with (fail)
    rw [← hW]
    clear hW
    go_wp2_with (refine wpList_load_row rfl 32 (.tmp 3) rfl w.heap.size rfl 32 (pic n l) (0, 0) _ B1.out Try.underlying32 rfl (Try.sizeP hl) ?_)
    refine (IsPicture_any n l hl _).mono ?_
    rintro e w2 ⟨rfl, hb⟩
    rw [h1]
    have HB := Lib.hid (BW.out.trans (hb.mono BW.out.size))
    clear hb
    go_wp2_with (go_at_call 92; refine (isNumber_any _ _).mono ?_; rintro e w' ⟨rfl, n1, rfl⟩; rw [h2])
    go_ret
    exact ⟨by rw [R.out]; rfl, below_drewN' HB.out _⟩
  | false =>
  cases h4 : inR m 2 256 with
  | false =>
    have R : Hid (codeS n l q m = 2) := by show _ = _; unfold codeS le0; rw [h1, h2, h3, h4]; rfl
    go_enter Try.func118, Try.ntmps118
    go_upto_region 1 with (fail)
    rw [← hW]
    clear hW
    go_wp2_with (refine wpList_load_row rfl 32 (.tmp 3) rfl w.heap.size rfl 32 (pic n l) (0, 0) _ B1.out Try.underlying32 rfl (Try.sizeP hl) ?_)
    refine (IsPicture_any n l hl _).mono ?_
    rintro e w2 ⟨rfl, hb⟩
    rw [h1]
    have HB := Lib.hid (BW.out.trans (hb.mono BW.out.size))
    clear hb
    go_wp2_with (first | (go_at_call 92; refine (isNumber_any _ _).mono ?_; rintro e w' ⟨rfl, n1, rfl⟩; rw [h2]) | (go_at_call 122; refine (within_any _ _ _ _).mono ?_; rintro e w' ⟨rfl, rfl⟩; rw [h4]))
    go_ret
    exact ⟨by rw [R.out]; rfl, below_drewN' HB.out _⟩
  | true =>
    have R : Hid (codeS n l q m = 0) := by show _ = _; unfold codeS le0; rw [h1, h2, h3, h4]; rfl
    go_enter Try.func118, Try.ntmps118
    go_upto_region 1 with (fail)
    rw [← hW]
    clear hW
    go_wp2_with (refine wpList_load_row rfl 32 (.tmp 3) rfl w.heap.size rfl 32 (pic n l) (0, 0) _ B1.out Try.underlying32 rfl (Try.sizeP hl) ?_)
    refine (IsPicture_any n l hl _).mono ?_
    rintro e w2 ⟨rfl, hb⟩
    rw [h1]
    have HB := Lib.hid (BW.out.trans (hb.mono BW.out.size))
    clear hb
    go_wp2_with (first | (go_at_call 92; refine (isNumber_any _ _).mono ?_; rintro e w' ⟨rfl, n1, rfl⟩; rw [h2]) | (go_at_call 122; refine (within_any _ _ _ _).mono ?_; rintro e w' ⟨rfl, rfl⟩; rw [h4]))
    go_ret
    exact ⟨by rw [R.out]; rfl, below_drewN' HB.out _⟩

set_option maxRecDepth 10000 in
theorem l05Code_any (n : Int) (l : List Nat) (hl : l.length = 64) (q : Nat) (m : Int) (w : World) :
    Calls Try.prog 116 #[.agg (pic n l), .float .f32 q, .int .i64 m] w fun e w' => e = .returned (.int .i64 (codeS n l q m)) ∧ Below w.heap.size w w' := by
  obtain ⟨W0, hW⟩ : ∃ W0, W0 = w.alloc (.cells (pic n l) 32) := ⟨_, rfl⟩
  have hb0 : Below w.heap.size w W0 := by rw [hW]; exact (Below.refl _ _).alloc (Nat.le_refl _) _
  have b1 : Blk W0 w.heap.size (pic n l) 32 := by rw [hW]; exact Blk.new w _ _
  have B1 := Lib.hid b1
  have BW := Lib.hid hb0
  clear b1 hb0
  cases h1 : isPic n l with
  | false =>
    have R : Hid (codeS n l q m = 1) := by show _ = _; unfold codeS; rw [h1]; rfl
    go_enter Try.func116, Try.ntmps116
    go_upto_region 1 with (fail)
    rw [← hW]
    clear hW
    go_wp2_with (refine wpList_load_row rfl 32 (.tmp 3) rfl w.heap.size rfl 32 (pic n l) (0, 0) _ B1.out Try.underlying32 rfl (Try.sizeP hl) ?_)
    refine (l01Shown_any n l hl _).mono ?_
    rintro e w2 ⟨rfl, hb⟩
    rw [h1]
    have HB := Lib.hid (BW.out.trans (hb.mono BW.out.size))
    clear hb
    go_wp2_with fail
    go_ret
    exact ⟨by rw [R.out]; rfl, HB.out⟩
  | true =>
  cases h2 : isNum q with
  | false =>
    have R : Hid (codeS n l q m = 1) := by show _ = _; unfold codeS; rw [h1, h2]; rfl
    go_enter Try.func116, Try.ntmps116
    go_upto_region 1 with (fail)
    rw [← hW]
    clear hW
    go_wp2_with (refine wpList_load_row rfl 32 (.tmp 3) rfl w.heap.size rfl 32 (pic n l) (0, 0) _ B1.out Try.underlying32 rfl (Try.sizeP hl) ?_)
    refine (l01Shown_any n l hl _).mono ?_
    rintro e w2 ⟨rfl, hb⟩
    rw [h1]
    have HB := Lib.hid (BW.out.trans (hb.mono BW.out.size))
    clear hb
    go_wp2_with (go_at_call 88; refine (l01Fine_any _ _).mono ?_; rintro e w' ⟨rfl, n1, rfl⟩; rw [h2])
    go_ret
    exact ⟨by rw [R.out]; rfl, below_drewN' HB.out _⟩
  | true =>
  cases h3 : (FloatKind.f32.format.order q 0 == some .lt || FloatKind.f32.format.order q 0 == some .eq) with
  | true =>
    have R : Hid (codeS n l q m = 2) := by show _ = _; unfold codeS le0; rw [h1, h2, h3]; rfl
    go_enter Try.func116, Try.ntmps116
    go_upto_region 1 with (fail)
    rw [← hW]
    clear hW
    go_wp2_with (refine wpList_load_row rfl 32 (.tmp 3) rfl w.heap.size rfl 32 (pic n l) (0, 0) _ B1.out Try.underlying32 rfl (Try.sizeP hl) ?_)
    refine (l01Shown_any n l hl _).mono ?_
    rintro e w2 ⟨rfl, hb⟩
    rw [h1]
    have HB := Lib.hid (BW.out.trans (hb.mono BW.out.size))
    clear hb
    go_wp2_with (go_at_call 88; refine (l01Fine_any _ _).mono ?_; rintro e w' ⟨rfl, n1, rfl⟩; rw [h2])
    go_ret
    exact ⟨by rw [R.out]; rfl, below_drewN' HB.out _⟩
  | false =>
  cases h4 : inR m 2 256 with
  | false =>
    have R : Hid (codeS n l q m = 2) := by show _ = _; unfold codeS le0; rw [h1, h2, h3, h4]; rfl
    go_enter Try.func116, Try.ntmps116
    go_upto_region 1 with (fail)
    rw [← hW]
    clear hW
    go_wp2_with (refine wpList_load_row rfl 32 (.tmp 3) rfl w.heap.size rfl 32 (pic n l) (0, 0) _ B1.out Try.underlying32 rfl (Try.sizeP hl) ?_)
    refine (l01Shown_any n l hl _).mono ?_
    rintro e w2 ⟨rfl, hb⟩
    rw [h1]
    have HB := Lib.hid (BW.out.trans (hb.mono BW.out.size))
    clear hb
    go_wp2_with (first | (go_at_call 88; refine (l01Fine_any _ _).mono ?_; rintro e w' ⟨rfl, n1, rfl⟩; rw [h2]) | (go_at_call 66; refine (l01In_any _ _ _ _).mono ?_; rintro e w' ⟨rfl, rfl⟩; rw [h4]))
    go_ret
    exact ⟨by rw [R.out]; rfl, below_drewN' HB.out _⟩
  | true =>
    have R : Hid (codeS n l q m = 0) := by show _ = _; unfold codeS le0; rw [h1, h2, h3, h4]; rfl
    go_enter Try.func116, Try.ntmps116
    go_upto_region 1 with (fail)
    rw [← hW]
    clear hW
    go_wp2_with (refine wpList_load_row rfl 32 (.tmp 3) rfl w.heap.size rfl 32 (pic n l) (0, 0) _ B1.out Try.underlying32 rfl (Try.sizeP hl) ?_)
    refine (l01Shown_any n l hl _).mono ?_
    rintro e w2 ⟨rfl, hb⟩
    rw [h1]
    have HB := Lib.hid (BW.out.trans (hb.mono BW.out.size))
    clear hb
    go_wp2_with (first | (go_at_call 88; refine (l01Fine_any _ _).mono ?_; rintro e w' ⟨rfl, n1, rfl⟩; rw [h2]) | (go_at_call 66; refine (l01In_any _ _ _ _).mono ?_; rintro e w' ⟨rfl, rfl⟩; rw [h4]))
    go_ret
    exact ⟨by rw [R.out]; rfl, below_drewN' HB.out _⟩

theorem codeS_zero {n : Int} {l : List Nat} {q : Nat} {m : Int} (h : codeS n l q m = 0) : isPic n l = true ∧ isNum q = true ∧ 0 < valF q ∧ 2 ≤ m ∧ m ≤ 256 := by
  unfold codeS at h
  cases h1 : isPic n l with
  | false => rw [h1] at h; cases h
  | true =>
    cases h2 : isNum q with
    | false => rw [h1, h2] at h; cases h
    | true =>
      cases h3 : le0 q with
      | true => rw [h1, h2, h3] at h; cases h
      | false =>
        cases h4 : inR m 2 256 with
        | false => rw [h1, h2, h3, h4] at h; cases h
        | true => exact ⟨rfl, rfl, le0_false h2 h3, inR_true h4⟩

/-- a level in steps -/
def stpF (l : List Nat) (q : Nat) (m : Int) (i : Nat) : FV := arith .mul .f32 (ab .f32 (floatOfInt .f32 (stepV (l.getD i 0) q m))) (ab .f32 q)

set_option maxHeartbeats 1000000 in
theorem stpCl_any (x q : Nat) (m : Int) (g1 g2 : Nat) (hx : Lvl x) (hq : isNum q = true) (hq0 : 0 < valF q) (hm : 2 ≤ m ∧ m ≤ 256) (w : World) (h1 : w.cell? ⟨g1, 0, none⟩ = some (.float .f32 q)) (h2 : w.cell? ⟨g2, 0, none⟩ = some (.int .i64 m)) :
    Calls Try.prog 119 #[.float .f32 x, .pointer (some ⟨g1, 0, none⟩), .pointer (some ⟨g2, 0, none⟩)] w fun e w' => ∃ b, e = .returned (.float .f32 b) ∧ ab .f32 b = arith .mul .f32 (ab .f32 (floatOfInt .f32 (stepV x q m))) (ab .f32 q) ∧ Quiet w w' := by
  have HS := Lib.hid (stepOf_any x q m hx hq hq0 hm w.drew)
  obtain ⟨s, hs⟩ : ∃ s, s = stepV x q m := ⟨_, rfl⟩
  rw [← hs] at HS ⊢
  clear hs
  go_enter Try.func119, Try.ntmps119
  go_wp2
  go_region_with ((go_at_call 120; refine HS.out.mono ?_; rintro e w' ⟨rfl, rfl⟩))
  all_goals
    go_wp2
    go_ret
    exact ⟨_, rfl, ab_fres _ _ _ _ _, _, rfl⟩

set_option maxRecDepth 10000 in
set_option maxHeartbeats 1000000 in
theorem stpLv_any (nn : Nat) (l : List Nat) (hl : l.length = 64) (q : Nat) (m : Int) (g g' g2 g3 k : Nat) (y x : Int) (w : World) (hk : k < 64) (hlv : Lvl (l.getD k 0)) (hq : isNum q = true) (hq0 : 0 < valF q) (hm : 2 ≤ m ∧ m ≤ 256)
    (h3 : w.cell? ⟨g3, 0, none⟩ = some (.func (.func 119) #[] #[.pointer (some ⟨g, 0, none⟩), .pointer (some ⟨g', 0, none⟩)])) (h2 : Blk w g2 (pic nn l) 32) (h1 : w.cell? ⟨g, 0, none⟩ = some (.float .f32 q)) (h1' : w.cell? ⟨g', 0, none⟩ = some (.int .i64 m)) :
    Calls Try.prog 129 #[.int .i64 y, .int .i64 x, .int .i64 k, .pointer (some ⟨g3, 0, none⟩), .pointer (some ⟨g2, 0, none⟩)] w fun e w' => ∃ b, e = .returned (.float .f32 b) ∧ ab .f32 b = stpF l q m k ∧ Below w.heap.size w w' := by
  have c0 := h2.picCell (by omega : k < l.length)
  unfold stpF
  obtain ⟨z, hz⟩ : ∃ z, z = l.getD k 0 := ⟨_, rfl⟩
  rw [← hz] at c0 hlv ⊢
  have HC := Lib.hid (stpCl_any z q m g g' hlv hq hq0 hm w.drew h1 h1')
  clear hz h2 hlv hq hq0 hm
  go_enter Try.func129, Try.ntmps129
  go_wp2
  go_region_with ((go_at_call 119; refine HC.out.mono ?_; rintro e w' ⟨b, rfl, hb, q1, rfl⟩; have HB := Lib.hid hb; clear hb))
  all_goals
    go_wp2
    go_ret
    exact ⟨_, rfl, HB.out, below_drewN' (Below.refl _ _) _⟩

theorem blk4 (w : World) (a b c d : Obj) : ((((w.alloc a).alloc b).alloc c).alloc d).heap[w.heap.size]? = some a ∧ ((((w.alloc a).alloc b).alloc c).alloc d).heap[w.heap.size + 1]? = some b ∧ ((((w.alloc a).alloc b).alloc c).alloc d).heap[w.heap.size + 1 + 1]? = some c ∧ ((((w.alloc a).alloc b).alloc c).alloc d).heap[w.heap.size + 1 + 1 + 1]? = some d := by
  have h := blk3 w a b c
  have e1 : (((w.alloc a).alloc b).alloc c).heap.size = w.heap.size + 1 + 1 + 1 := by simp
  refine ⟨?_, ?_, ?_, ?_⟩
  · rw [heap_alloc_old _ _ (by omega)]; exact h.1
  · rw [heap_alloc_old _ _ (by omega)]; exact h.2.1
  · rw [heap_alloc_old _ _ (by omega)]; exact h.2.2
  · rw [← e1]; exact heap_alloc_new _ d
/-- what InSteps gives ahead of plain -/
def stpI (n : Int) (l : List Nat) (q : Nat) (m : Int) (mm : Nat) : Int × Int × List FV :=
  if codeS n l q m = 0 then limV n (fillV mm (stpF l q m)) else (codeS n l q m, 0, zeros.map (ab .f32))
/-- the levels in steps, those behind the side's as they were -/
def stpT (l : List Nat) (q : Nat) (m : Int) (mm : Nat) (i : Nat) : FV := if i < mm then stpF l q m i else ab .f32 (l.getD i 0)
def stpS (n : Int) (l : List Nat) (q : Nat) (m : Int) (mm : Nat) : Int × Int × List FV :=
  if codeS n l q m = 0 then limV n (fillV 64 (stpT l q m mm)) else (codeS n l q m, 0, zeros.map (ab .f32))

set_option maxRecDepth 10000 in
set_option maxHeartbeats 2000000 in
theorem signedInSteps_any (n : Int) (l : List Nat) (hl : l.length = 64) (mm : Nat) (hm : n.toNat * n.toNat = mm) (q : Nat) (m : Int) (w : World) :
    Calls Try.prog 64 #[.agg (pic n l), .float .f32 q, .int .i64 m] w (PicPost (stpI n l q m mm) w) := by
  have hz := (zero_of_info Try.infoP).1
  obtain ⟨W0, hW⟩ : ∃ W0, W0 = (((w.alloc (.cells (pic n l) 32)).alloc (.cells #[.float .f32 q] 28)).alloc (.cells #[.int .i64 m] 2)).alloc (.cells (pic 0 zeros) 32) := ⟨_, rfl⟩
  have hb0 : Below w.heap.size w W0 := by rw [hW]; exact ((((Below.refl _ _).alloc (Nat.le_refl _) _).alloc (by simp) _).alloc (by simp; omega) _).alloc (by simp; omega) _
  have h3 := blk4 w (.cells (pic n l) 32) (.cells #[.float .f32 q] 28) (.cells #[.int .i64 m] 2) (.cells (pic 0 zeros) 32)
  rw [← hW] at h3
  have b0 : Blk W0 w.heap.size (pic n l) 32 := h3.1
  have b1 : Blk W0 (w.heap.size + 1) #[.float .f32 q] 28 := h3.2.1
  have b2 : Blk W0 (w.heap.size + 1 + 1) #[.int .i64 m] 2 := h3.2.2.1
  have b3 : Blk W0 (w.heap.size + 1 + 1 + 1) (pic 0 zeros) 32 := h3.2.2.2
  have cq : W0.cell? ⟨w.heap.size + 1, 0, none⟩ = some (.float .f32 q) := by rw [b1.cell]; rfl
  have cm : W0.cell? ⟨w.heap.size + 1 + 1, 0, none⟩ = some (.int .i64 m) := by rw [b2.cell]; rfl
  have B0 := Lib.hid b0
  have B3 := Lib.hid b3
  have CQ := Lib.hid cq
  have CM := Lib.hid cm
  have BW := Lib.hid hb0
  have HM := Lib.hid hm
  clear hb0 h3 b0 b1 b2 b3 hm
  obtain ⟨cd, hcd⟩ : ∃ cd, cd = codeS n l q m := ⟨_, rfl⟩
  by_cases h0 : cd = 0
  · have R : Hid (stpI n l q m mm = limV n (fillV mm (stpF l q m))) := by show _ = _; unfold stpI; rw [if_pos (by rw [← hcd]; exact h0)]
    obtain ⟨hp, hq, hq0, hm2⟩ := codeS_zero (by rw [← hcd]; exact h0)
    obtain ⟨nn, mm', rfl, hn1, hn2, hmul, hm64, hm'⟩ := side_nat (isPic_sd hp)
    obtain rfl : mm' = mm := by rw [← HM.out, hm']
    rw [Int.toNat_natCast] at hm'
    have HLV : Hid (∀ j, j < mm' → Lvl (l.getD j 0)) := fun j hj => okL_lvl (isPic_at hp HM.out j (by omega))
    have HCD := Lib.hid hcd
    have HMM := Lib.hid hm'
    have HQ := Lib.hid hq
    have HQ0 := Lib.hid hq0
    clear hp hcd hm' hq hq0
    subst h0
    go_enter Try.func64, Try.ntmps64
    go_upto_region 1 with (fail)
    rw [← hW]
    clear hW
    go_wp2_with (refine wpList_load_row rfl 32 (.tmp 3) rfl w.heap.size rfl 32 (pic nn l) (0, 0) _ B0.out Try.underlying32 rfl (Try.sizeP hl) ?_)
    refine (stepsCode_any nn l hl q m _).mono ?_
    rintro e w1 ⟨rfl, hb1⟩
    rw [← HCD.out]
    have B01 := Lib.hid (B0.out.below hb1)
    have B31 := Lib.hid (B3.out.below hb1)
    have CQ1 : Hid (w1.cell? ⟨w.heap.size + 1, 0, none⟩ = some (.float .f32 q)) := by show _ = _; rw [hb1.cell (by exact block_lt_of_cell CQ.out)]; exact CQ.out
    have CM1 : Hid (w1.cell? ⟨w.heap.size + 1 + 1, 0, none⟩ = some (.int .i64 m)) := by show _ = _; rw [hb1.cell (by exact block_lt_of_cell CM.out)]; exact CM.out
    have BW1 := Lib.hid (BW.out.trans (hb1.mono BW.out.size))
    clear hb1 cq cm
    go_wp2_with (refine wpList_load_row rfl 32 (.tmp 3) rfl w.heap.size rfl 32 (pic nn l) (0, 0) _ B01.out Try.underlying32 rfl (Try.sizeP hl) ?_)
    refine (levelsBy_any 119 #[.pointer (some ⟨w.heap.size + 1, 0, none⟩), .pointer (some ⟨w.heap.size + 1 + 1, 0, none⟩)] nn mm' l hl hn1 hn2 HMM.out (stpF l q m) w1 ?hf).mono ?_
    case hf =>
      intro i y x g2 g3 wr hi hb h3 h2
      exact stpLv_any nn l hl q m (w.heap.size + 1) (w.heap.size + 1 + 1) g2 g3 i y x wr (by omega) (HLV.out i hi) HQ.out HQ0.out hm2 h3 h2 (by rw [hb.cell (by exact block_lt_of_cell CQ1.out)]; exact CQ1.out) (by rw [hb.cell (by exact block_lt_of_cell CM1.out)]; exact CM1.out)
    rintro e w4 ⟨l', rfl, hl', hml, hb4⟩
    have B34 := Lib.hid (B31.out.below hb4)
    have BW4 := Lib.hid (BW1.out.trans (hb4.mono BW1.out.size))
    have HL := Lib.hid hl'
    have HML := Lib.hid hml
    clear hb4 hl' hml
    go_wp2_with fail
    refine (limitPicture_any nn l' HL.out w4).mono ?_
    rintro e w5 ⟨l5, rfl, hl5, hml5, hb5⟩
    rw [limR_V nn l' HL.out, HML.out] at hml5 ⊢
    obtain ⟨k5, n5, v5, hr5⟩ : ∃ k5 n5 v5, limV nn (fillV mm' (stpF l q m)) = (k5, n5, v5) := ⟨_, _, _, rfl⟩
    rw [hr5] at hml5 ⊢
    simp only at hml5 ⊢
    have HR5 := Lib.hid hr5
    have HL5 := Lib.hid hl5
    have HML5 := Lib.hid hml5
    have B35 := Lib.hid (B34.out.below hb5)
    have BW5 := Lib.hid (BW4.out.trans (hb5.mono BW4.out.size))
    clear hb5 hr5 hl5 hml5
    go_wp2_with (refine wpList_store_row rfl 32 (.tmp 6) (.tmp 21) rfl (w.heap.size + 1 + 1 + 1) (pic n5 l5) rfl rfl 32 (pic 0 zeros) B35.out ?c1 ?c2 (pic_one n5 l5) ?_; (case c1 => exact Try.sizeP HL5.out); (case c2 => (rw [pic_size, pic_size, HL5.out]; rfl)))
    refine bodyPost_ret (v := .tuple #[.agg (pic n5 l5), .int .i64 k5]) (results_cell_row2 Try.results64 _ _ (w.heap.size + 1 + 1 + 1) 32 (pic n5 l5) (0, 0) _ _ rfl rfl (B35.out.row _) Try.underlying32 rfl (Try.sizeP HL5.out)) rfl ?_
    exact ⟨l5, by rw [R.out, HR5.out], HL5.out, by rw [R.out, HR5.out]; exact HML5.out, Below.setRow BW5.out (by omega) _⟩
  · have R : Hid (stpI n l q m mm = (cd, 0, zeros.map (ab .f32))) := by show _ = _; unfold stpI; rw [← hcd, if_neg h0]
    have HCD := Lib.hid hcd
    clear hcd
    have h0b : (cd != 0) = true := by simp [bne, h0]
    go_enter Try.func64, Try.ntmps64
    go_upto_region 1 with (fail)
    rw [← hW]
    clear hW
    go_wp2_with (refine wpList_load_row rfl 32 (.tmp 3) rfl w.heap.size rfl 32 (pic n l) (0, 0) _ B0.out Try.underlying32 rfl (Try.sizeP hl) ?_)
    refine (stepsCode_any n l hl q m _).mono ?_
    rintro e w1 ⟨rfl, hb1⟩
    rw [← HCD.out]
    have B31 := Lib.hid (B3.out.below hb1)
    have BW1 := Lib.hid (BW.out.trans (hb1.mono BW.out.size))
    clear hb1
    go_wp2_with (first | (refine wpList_build0 rfl rfl ?_) | (refine wpList_store_row rfl 32 (.tmp 6) (.tmp 15) rfl (w.heap.size + 1 + 1 + 1) (pic 0 zeros) rfl rfl 32 (pic 0 zeros) B31.out ?c1 ?c2 (pic_one 0 zeros) ?_; (case c1 => exact Try.sizeP zeros_length); (case c2 => rfl)))
    refine bodyPost_ret (v := .tuple #[.agg (pic 0 zeros), .int .i64 cd]) (results_cell_row2 Try.results64 _ _ (w.heap.size + 1 + 1 + 1) 32 (pic 0 zeros) (0, 0) _ _ rfl rfl (B31.out.row _) Try.underlying32 rfl (Try.sizeP zeros_length)) rfl ?_
    exact PicPost.err R.out (Below.setRow BW1.out (by omega) _)

set_option maxRecDepth 10000 in
set_option maxHeartbeats 2000000 in
theorem rawInSteps_any (n : Int) (l : List Nat) (hl : l.length = 64) (mm : Nat) (hm : n.toNat * n.toNat = mm) (q : Nat) (m : Int) (w : World) :
    Calls Try.prog 63 #[.agg (pic n l), .float .f32 q, .int .i64 m] w (PicPost (stpS n l q m mm) w) := by
  have hz := (zero_of_info Try.infoP).1
  obtain ⟨W0, hW⟩ : ∃ W0, W0 = (w.alloc (.cells (pic n l) 32)).alloc (.cells (pic 0 zeros) 32) := ⟨_, rfl⟩
  have hb0 : Below w.heap.size w W0 := by rw [hW]; exact ((Below.refl _ _).alloc (Nat.le_refl _) _).alloc (by simp) _
  have h3 := blk2 w (.cells (pic n l) 32) (.cells (pic 0 zeros) 32)
  rw [← hW] at h3
  have b0 : Blk W0 w.heap.size (pic n l) 32 := h3.1
  have b1 : Blk W0 (w.heap.size + 1) (pic 0 zeros) 32 := h3.2
  have B0 := Lib.hid b0
  have B1 := Lib.hid b1
  have BW := Lib.hid hb0
  have HM := Lib.hid hm
  clear hb0 h3 b0 b1 hm
  obtain ⟨cd, hcd⟩ : ∃ cd, cd = codeS n l q m := ⟨_, rfl⟩
  by_cases h0 : cd = 0
  · have R : Hid (stpS n l q m mm = limV n (fillV 64 (stpT l q m mm))) := by show _ = _; unfold stpS; rw [if_pos (by rw [← hcd]; exact h0)]
    obtain ⟨hp, hq, hq0, hm2⟩ := codeS_zero (by rw [← hcd]; exact h0)
    obtain ⟨nn, mm', rfl, hn1, hn2, hmul, hm64, hm'⟩ := side_nat (isPic_sd hp)
    obtain rfl : mm' = mm := by rw [← HM.out, hm']
    clear hm'
    have HLV : Hid (∀ j, j < mm' → Lvl (l.getD j 0)) := fun j hj => okL_lvl (isPic_at hp HM.out j (by omega))
    have HCD := Lib.hid hcd
    have HQ := Lib.hid hq
    have HQ0 := Lib.hid hq0
    clear hp hcd hq hq0
    subst h0
    go_enter Try.func63, Try.ntmps63
    go_upto_region 1 with (fail)
    rw [← hW]
    clear hW
    go_wp2_with (refine wpList_load_row rfl 32 (.tmp 3) rfl w.heap.size rfl 32 (pic nn l) (0, 0) _ B0.out Try.underlying32 rfl (Try.sizeP hl) ?_)
    refine (l05Code_any nn l hl q m _).mono ?_
    rintro e w1 ⟨rfl, hb1⟩
    rw [← HCD.out]
    have B01 := Lib.hid (B0.out.below hb1)
    have B11 := Lib.hid (B1.out.below hb1)
    have BW1 := Lib.hid (BW.out.trans (hb1.mono BW.out.size))
    clear hb1
    go_wp2_with fail
    go_loopw [9] (fun i wr => ∃ k : Nat, k ≤ mm' ∧ i = .int .i64 k ∧ Below w.heap.size w wr ∧ Hid (Blk wr (w.heap.size + 1) (pic 0 zeros) 32 ∧ ∃ cur : List Nat, cur.length = 64 ∧ Blk wr w.heap.size (pic nn cur) 32 ∧ (∀ j, j < k → ab .f32 (cur.getD j 0) = stpF l q m j) ∧ ∀ j, k ≤ j → cur.getD j 0 = l.getD j 0)) (fun i _ => mm' - (intOf i).toNat)
    case atStart => exact ⟨0, Nat.zero_le _, rfl, BW1.out, B11.out, l, hl, B01.out, fun j h => by omega, fun j _ => rfl⟩
    case round =>
      clear B01 B11 BW1 B0 B1
      obtain ⟨k, hk, rfl, hbl, hcur⟩ := hrel
      have HB := Lib.hid hbl; clear hbl
      obtain ⟨hz1, cur, hcl, hc, hm1, hm3⟩ := hcur.out
      clear hcur
      have cs := hc.picSide
      by_cases hlt : k < mm'
      · have c0 := hc.picCell (by omega : k < cur.length)
        have f0 := hc.frozen (1 + k)
        have hx0 := hm3 k (Nat.le_refl _)
        obtain ⟨x, hx⟩ : ∃ x, x = cur.getD k 0 := ⟨_, rfl⟩
        rw [← hx] at c0 hx0
        have hlv := HLV.out k hlt
        rw [← hx0] at hlv
        have HS := Lib.hid (fun w => l05Step_any x q m hlv HQ.out HQ0.out hm2 w)
        obtain ⟨s, hs⟩ : ∃ s, s = stepV x q m := ⟨_, rfl⟩
        rw [← hs] at HS
        have HSV := Lib.hid hs
        have HX := Lib.hid hx0
        have HC := Lib.hid hc
        have HZ := Lib.hid hz1
        have HCL := Lib.hid hcl
        have HM1 := Lib.hid hm1
        have HM3 := Lib.hid hm3
        clear hc hz1 hcl hm1 hm3 hx hx0 hs hlv
        go_wp2_with (go_at_call 117; refine (HS.out _).mono ?_; rintro e w' ⟨rfl, rfl⟩)
        go_roundw
        case rel =>
          refine ⟨k + 1, by omega, by go_num, (below_drewN' HB.out _).setCell (by exact Nat.le_refl _) _, (HZ.out.drewN _).other (by omega) _ _, cur.set k _, by rw [List.length_set]; exact HCL.out, (HC.out.drewN _).picSet k _, ?_, ?_⟩
          · intro j hj
            by_cases e : j = k
            · subst e
              have : j < cur.length := by rw [HCL.out]; omega
              rw [List.getD_eq_getElem?_getD, List.getElem?_set, if_pos rfl, if_pos this, Option.getD_some, ab_fres, HSV.out, HX.out]; rfl
            · have := HM1.out j (by omega)
              rw [← this, List.getD_eq_getElem?_getD, List.getElem?_set, if_neg (by omega), List.getD_eq_getElem?_getD]
          · intro j hj
            have := HM3.out j (by omega)
            rw [List.getD_eq_getElem?_getD, List.getElem?_set, if_neg (by omega)]
            rw [List.getD_eq_getElem?_getD] at this; exact this
        case measure => simp [intOf]; omega
      · have ek : k = mm' := by omega
        have HC := Lib.hid hc
        have HZ := Lib.hid hz1
        have hV : cur.map (ab .f32) = fillV 64 (stpT l q m mm') := by
          refine List.ext_getElem? fun i => ?_
          by_cases hi : i < 64
          · rw [fillV_get _ hi, if_pos hi, List.getElem?_map, List.getElem?_eq_getElem (by omega : i < cur.length)]
            unfold stpT
            by_cases him : i < mm'
            · rw [if_pos him]
              have := hm1 i (by omega)
              rw [← this]; simp [show i < cur.length by omega]
            · rw [if_neg him]
              have := hm3 i (by omega)
              rw [← this]; simp [show i < cur.length by omega]
          · rw [List.getElem?_eq_none (by simp; omega), List.getElem?_eq_none (by rw [fillV_length _ (Nat.le_refl _)]; omega)]
        have HV := Lib.hid hV
        have HCL := Lib.hid hcl
        clear hc hz1 hV hcl hm1 hm3 ek
        go_wp2_with (refine wpList_load_row rfl 32 (.tmp 3) rfl w.heap.size rfl 32 (pic nn cur) (0, 0) _ HC.out Try.underlying32 rfl (Try.sizeP HCL.out) ?_)
        refine (l05Told_any nn cur HCL.out _).mono ?_
        rintro e w5 ⟨l5, rfl, hl5, hml5, hb5⟩
        rw [limR_V nn cur HCL.out, HV.out] at hml5 ⊢
        obtain ⟨k5, n5, v5, hr5⟩ : ∃ k5 n5 v5, limV nn (fillV 64 (stpT l q m mm')) = (k5, n5, v5) := ⟨_, _, _, rfl⟩
        rw [hr5] at hml5 ⊢
        simp only at hml5 ⊢
        have HR5 := Lib.hid hr5
        have HL5 := Lib.hid hl5
        have HML5 := Lib.hid hml5
        have B15 := Lib.hid (HZ.out.below hb5)
        have BW5 := Lib.hid (HB.out.trans (hb5.mono HB.out.size))
        clear hb5 hr5 hl5 hml5
        go_wp2_with (refine wpList_store_row rfl 32 (.tmp 6) (.tmp 42) rfl (w.heap.size + 1) (pic n5 l5) rfl rfl 32 (pic 0 zeros) B15.out ?c1 ?c2 (pic_one n5 l5) ?_; (case c1 => exact Try.sizeP HL5.out); (case c2 => (rw [pic_size, pic_size, HL5.out]; rfl)))
        refine bodyPost_ret (v := .tuple #[.agg (pic n5 l5), .int .i64 k5]) (results_cell_row2 Try.results63 _ _ (w.heap.size + 1) 32 (pic n5 l5) (0, 0) _ _ rfl rfl (B15.out.row _) Try.underlying32 rfl (Try.sizeP HL5.out)) rfl ?_
        exact ⟨l5, by rw [R.out, HR5.out], HL5.out, by rw [R.out, HR5.out]; exact HML5.out, Below.setRow BW5.out (by omega) _⟩
  · have R : Hid (stpS n l q m mm = (cd, 0, zeros.map (ab .f32))) := by show _ = _; unfold stpS; rw [← hcd, if_neg h0]
    have HCD := Lib.hid hcd
    clear hcd
    have h0b : (cd != 0) = true := by simp [bne, h0]
    go_enter Try.func63, Try.ntmps63
    go_upto_region 1 with (fail)
    rw [← hW]
    clear hW
    go_wp2_with (refine wpList_load_row rfl 32 (.tmp 3) rfl w.heap.size rfl 32 (pic n l) (0, 0) _ B0.out Try.underlying32 rfl (Try.sizeP hl) ?_)
    refine (l05Code_any n l hl q m _).mono ?_
    rintro e w1 ⟨rfl, hb1⟩
    rw [← HCD.out]
    have B11 := Lib.hid (B1.out.below hb1)
    have BW1 := Lib.hid (BW.out.trans (hb1.mono BW.out.size))
    clear hb1
    go_wp2_with (first | (refine wpList_build0 rfl rfl ?_) | (refine wpList_store_row rfl 32 (.tmp 6) (.tmp 16) rfl (w.heap.size + 1) (pic 0 zeros) rfl rfl 32 (pic 0 zeros) B11.out ?c1 ?c2 (pic_one 0 zeros) ?_; (case c1 => exact Try.sizeP zeros_length); (case c2 => rfl)))
    refine bodyPost_ret (v := .tuple #[.agg (pic 0 zeros), .int .i64 cd]) (results_cell_row2 Try.results63 _ _ (w.heap.size + 1) 32 (pic 0 zeros) (0, 0) _ _ rfl rfl (B11.out.row _) Try.underlying32 rfl (Try.sizeP zeros_length)) rfl ?_
    exact PicPost.err R.out (Below.setRow BW1.out (by omega) _)
end Go.Proofs.Ytphbjfijipcpnaa
