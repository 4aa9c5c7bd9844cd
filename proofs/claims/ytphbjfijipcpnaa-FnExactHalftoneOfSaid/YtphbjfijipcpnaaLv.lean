/- Pictures: their levels, the greatest, the codes. -/
import Derived.Test.YtphbjfijipcpnaaNo1
namespace Go.Proofs.Ytphbjfijipcpnaa
open Go.RowKit
set_option linter.unusedVariables false

theorem topI_congr {l l' : List Nat} : ∀ k, (∀ j, j ≤ k → l.getD j 0 = l'.getD j 0) → topI l k = topI l' k
  | 0, h => h 0 (Nat.le_refl _)
  | k + 1, h => by
    show mx (topI l k) (l.getD (k + 1) 0) = mx (topI l' k) (l'.getD (k + 1) 0)
    rw [topI_congr k (fun j hj => h j (by omega)), h (k + 1) (Nat.le_refl _)]

theorem Max_any (xs : List Nat) (a : Option Addr) (c : Nat) (w : World) (hrd : RdF w a xs) (h1 : 1 ≤ xs.length) (hl : xs.length ≤ 64) (hlv : ∀ j, j < xs.length → Lvl (xs.getD j 0)) :
    Calls Try.prog 127 #[.slice a xs.length c] w fun e w' => e = .returned (.float .f32 (topI xs (xs.length - 1))) ∧ Quiet w w' := by
  have HV := Lib.hid hlv
  have HR := Lib.hid hrd
  obtain ⟨b0, o0, rfl, hc0⟩ := hrd 0 (by omega)
  rw [Nat.add_zero] at hc0
  obtain ⟨x0, hx0⟩ : ∃ x0, x0 = xs.getD 0 0 := ⟨_, rfl⟩
  rw [← hx0] at hc0
  have HX0 := Lib.hid hx0
  clear hrd hlv hx0
  go_enter Try.func127, Try.ntmps127
  go_wp2
  go_loopw [3, 4] (fun t i wr => ∃ k : Nat, 1 ≤ k ∧ k ≤ xs.length ∧ i = .int .i64 k ∧ (∃ tb, t = .float .f32 tb ∧ Hid (tb = topI xs (k - 1))) ∧ Quiet w wr) (fun _ i _ => xs.length - (intOf i).toNat)
  case atStart => exact ⟨1, Nat.le_refl _, h1, rfl, ⟨_, rfl, HX0.out⟩, Quiet.refl _⟩
  case round =>
    obtain ⟨k, hk1, hk, rfl, ⟨tb, rfl, ht⟩, ⟨q, rfl⟩⟩ := hrel
    by_cases hlt : k < xs.length
    · obtain ⟨b, off, he, hc⟩ := HR.out k hlt
      cases he
      obtain ⟨x, hx⟩ : ∃ x, x = xs.getD k 0 := ⟨_, rfl⟩
      rw [← hx] at hc
      have hxn : isNum x = true := by rw [hx]; exact (HV.out k hlt).1
      have htn : isNum tb = true := by rw [ht.out]; exact topI_num xs _ (fun j hj => HV.out j (by omega))
      have hmm := fun w => (mx_mres htn hxn w).1
      have hnm := (mx_mres htn hxn w).2
      have HX := Lib.hid hx
      clear hxn htn hx
      go_wp2
      go_roundw
      case rel =>
        refine ⟨k + 1, by omega, by omega, by go_num, ⟨_, rfl, ?_⟩, _, rfl⟩
        show mx tb x = _
        rw [ht.out, HX.out]
        obtain ⟨k', rfl⟩ : ∃ k', k = k' + 1 := ⟨k - 1, by omega⟩
        rfl
      case measure => simp [intOf]; omega
    · have ek : k = xs.length := by omega
      have HT : Hid (tb = topI xs (xs.length - 1)) := by
        have := ht.out
        rw [ek] at this; exact this
      clear ek
      go_wp2
      go_ret
      exact ⟨by rw [HT.out]; rfl, _, rfl⟩

theorem Try.lenA : Try.prog.arrayLen 29 = 64 := by kernel_rfl
theorem Try.arrA : Try.prog.underlying 29 = some (.array (Try.prog.arrayLen 29) (Try.prog.elem 29)) := by kernel_rfl
theorem Try.elemA (w : World) : (sizeOf (Try.prog.elem 29)).run Try.prog w = .ok 1 w := by kernel_rfl
theorem slice_lv (g : Nat) (m : Nat) (hm : m ≤ 64) (w : World) : (Instr.sliceAt 29 (.pointer (some ⟨g, 1, none⟩)) none (some (.int .i64 (m : Int))) none).run Try.prog w = .ok (.slice (some ⟨g, 1, none⟩) m 64) w := by
  rw [run_sliceAt_array_h w 29 ⟨g, 1, none⟩ Try.arrA .i64 m (by omega) (by rw [Try.lenA]; omega), Try.elemA, Try.lenA]
  show Result.ok (slicedAt _ _ _ _ _) w = _
  rw [slicedAt, if_neg (by decide), Int.toNat_natCast, Addr.add_lit]
  simp

set_option maxRecDepth 10000 in
theorem levels_any (nn m : Nat) (l : List Nat) (hl : l.length = 64) (hn1 : 1 ≤ nn) (hn2 : nn ≤ 8) (hmul : (nn : Int) * nn = m) (hm : m ≤ 64) (w : World) :
    Calls Try.prog 128 #[.agg (pic nn l)] w fun e w' => e = .returned (.slice (some ⟨w.heap.size, 1, none⟩) m 64) ∧ RdF w' (some ⟨w.heap.size, 1, none⟩) (l.take m) ∧ Below w.heap.size w w' := by
  obtain ⟨W0, hW⟩ : ∃ W0, W0 = w.alloc (.cells (pic nn l) 32) := ⟨_, rfl⟩
  have hb0 : Below w.heap.size w W0 := by rw [hW]; exact (Below.refl _ _).alloc (Nat.le_refl _) _
  have b1 : Blk W0 w.heap.size (pic nn l) 32 := by rw [hW]; exact Blk.new w _ _
  have c0 := b1.picSide
  have BW := Lib.hid hb0
  have RD : Hid (RdF W0 (some ⟨w.heap.size, 1, none⟩) (l.take m)) := by
    intro i hi
    have hi' : i < m := by rw [List.length_take] at hi; omega
    refine ⟨_, _, rfl, ?_⟩
    rw [b1.picCell (by omega : i < l.length)]
    simp [List.getD_eq_getElem?_getD, List.getElem?_take, hi']
  clear b1 hb0
  have hsl := slice_lv w.heap.size m hm
  go_enter Try.func128, Try.ntmps128
  go_upto_region 1 with (fail)
  rw [← hW]
  clear hW
  go_wp2
  go_ret
  exact ⟨rfl, RD.out, BW.out⟩

set_option maxRecDepth 10000 in
theorem top_any (nn m : Nat) (l : List Nat) (hl : l.length = 64) (hn1 : 1 ≤ nn) (hn2 : nn ≤ 8) (hmul : (nn : Int) * nn = m) (hm : m ≤ 64) (hm1 : 1 ≤ m) (hlv : ∀ j, j < m → Lvl (l.getD j 0)) (w : World) :
    Calls Try.prog 84 #[.agg (pic nn l)] w fun e w' => e = .returned (.float .f32 (topI l (m - 1))) ∧ Below w.heap.size w w' := by
  obtain ⟨W0, hW⟩ : ∃ W0, W0 = w.alloc (.cells (pic nn l) 32) := ⟨_, rfl⟩
  have hb0 : Below w.heap.size w W0 := by rw [hW]; exact (Below.refl _ _).alloc (Nat.le_refl _) _
  have b1 : Blk W0 w.heap.size (pic nn l) 32 := by rw [hW]; exact Blk.new w _ _
  have B1 := Lib.hid b1
  have BW := Lib.hid hb0
  have HV := Lib.hid hlv
  clear b1 hb0 hlv
  have hlt : (l.take m).length = m := by rw [List.length_take]; omega
  have hg : ∀ j, j < m → (l.take m).getD j 0 = l.getD j 0 := fun j hj => by simp [List.getD_eq_getElem?_getD, List.getElem?_take, hj]
  have HLT := Lib.hid hlt
  have HG := Lib.hid hg
  clear hlt hg
  go_enter Try.func84, Try.ntmps84
  go_upto_region 1 with (fail)
  rw [← hW]
  clear hW
  go_wp2_with (refine wpList_load_row rfl 32 (.tmp 1) rfl w.heap.size rfl 32 (pic nn l) (0, 0) _ B1.out Try.underlying32 rfl (Try.sizeP hl) ?_)
  refine (levels_any nn m l hl hn1 hn2 hmul hm _).mono ?_
  rintro e w2 ⟨rfl, hrd, hb⟩
  have HR := Lib.hid hrd
  have HB := Lib.hid (BW.out.trans (hb.mono BW.out.size))
  clear hrd hb
  go_wp2_with fail
  have h := Max_any (l.take m) (some ⟨W0.heap.size, 1, none⟩) 64 w2 HR.out (by rw [HLT.out]; exact hm1) (by rw [HLT.out]; exact hm) (fun j hj => by rw [HLT.out] at hj; rw [HG.out j hj]; exact HV.out j hj)
  rw [HLT.out, topI_congr (l' := l) (m - 1) (fun j hj => HG.out j (by omega))] at h
  refine h.mono ?_
  rintro e w3 ⟨rfl, q, rfl⟩
  clear h
  go_wp2
  go_ret
  exact ⟨rfl, below_drewN' HB.out _⟩

/-- the code of a picture whose top must not be 0 -/
def topC (n : Int) (l : List Nat) (m : Nat) : Int := if isPic n l then (if eq0 (topI l (m - 1)) then 5 else 0) else 1

set_option maxRecDepth 10000 in
theorem topCode_any (n : Int) (l : List Nat) (hl : l.length = 64) (w : World) (m : Nat) (hm : n.toNat * n.toNat = m) :
    Calls Try.prog 83 #[.agg (pic n l)] w fun e w' => e = .returned (.int .i64 (topC n l m)) ∧ Below w.heap.size w w' := by
  obtain ⟨W0, hW⟩ : ∃ W0, W0 = w.alloc (.cells (pic n l) 32) := ⟨_, rfl⟩
  have hb0 : Below w.heap.size w W0 := by rw [hW]; exact (Below.refl _ _).alloc (Nat.le_refl _) _
  have b1 : Blk W0 w.heap.size (pic n l) 32 := by rw [hW]; exact Blk.new w _ _
  have B1 := Lib.hid b1
  have BW := Lib.hid hb0
  clear b1 hb0
  have HM := Lib.hid hm
  clear hm
  cases hp : isPic n l with
  | false =>
    have R : Hid (topC n l m = 1) := by show _ = _; unfold topC; rw [hp]; rfl
    go_enter Try.func83, Try.ntmps83
    go_upto_region 1 with (fail)
    rw [← hW]
    clear hW
    go_wp2_with (refine wpList_load_row rfl 32 (.tmp 1) rfl w.heap.size rfl 32 (pic n l) (0, 0) _ B1.out Try.underlying32 rfl (Try.sizeP hl) ?_)
    refine (IsPicture_any n l hl _).mono ?_
    rintro e w2 ⟨rfl, hb⟩
    rw [hp]
    have HB := Lib.hid (BW.out.trans (hb.mono BW.out.size))
    clear hb
    go_wp2
    go_ret
    exact ⟨by rw [R.out]; rfl, HB.out⟩
  | true =>
    obtain ⟨nn, m', rfl, hn1, hn2, hmul, hm64, hm'⟩ := side_nat (isPic_sd hp)
    obtain rfl : m' = m := by rw [← HM.out, hm']
    have hm1 : 1 ≤ m' := by have := Nat.mul_le_mul hn1 hn1; rw [Int.toNat_natCast] at hm'; omega
    have HLV : Hid (∀ j, j < m' → Lvl (l.getD j 0)) := fun j hj => okL_lvl (isPic_at hp hm' j (by omega))
    obtain ⟨T, hT⟩ : ∃ T, T = topI l (m' - 1) := ⟨_, rfl⟩
    have HT := Lib.hid hT
    clear hT
    cases h0 : (FloatKind.f32.format.order T 0 == some .eq) with
    | true =>
      have R : Hid (topC nn l m' = 5) := by show _ = _; unfold topC; rw [hp, ← HT.out]; unfold eq0; rw [h0]; rfl
      clear hm'
      go_enter Try.func83, Try.ntmps83
      go_upto_region 1 with (fail)
      rw [← hW]
      clear hW
      go_wp2_with (refine wpList_load_row rfl 32 (.tmp 1) rfl w.heap.size rfl 32 (pic nn l) (0, 0) _ B1.out Try.underlying32 rfl (Try.sizeP hl) ?_)
      refine (IsPicture_any nn l hl _).mono ?_
      rintro e w2 ⟨rfl, hb⟩
      rw [hp]
      have HB := Lib.hid (BW.out.trans (hb.mono BW.out.size))
      have B2 := Lib.hid (B1.out.below hb)
      clear hb
      go_wp2_with (refine wpList_load_row rfl 32 (.tmp 1) rfl w.heap.size rfl 32 (pic nn l) (0, 0) _ B2.out Try.underlying32 rfl (Try.sizeP hl) ?_)
      refine (top_any nn m' l hl hn1 hn2 hmul hm64 hm1 HLV.out _).mono ?_
      rintro e w3 ⟨rfl, hb⟩
      rw [← HT.out]
      have HB3 := Lib.hid (HB.out.trans (hb.mono HB.out.size))
      clear hb
      go_wp2
      go_ret
      exact ⟨by rw [R.out]; rfl, HB3.out⟩
    | false =>
      have R : Hid (topC nn l m' = 0) := by show _ = _; unfold topC; rw [hp, ← HT.out]; unfold eq0; rw [h0]; rfl
      clear hm'
      go_enter Try.func83, Try.ntmps83
      go_upto_region 1 with (fail)
      rw [← hW]
      clear hW
      go_wp2_with (refine wpList_load_row rfl 32 (.tmp 1) rfl w.heap.size rfl 32 (pic nn l) (0, 0) _ B1.out Try.underlying32 rfl (Try.sizeP hl) ?_)
      refine (IsPicture_any nn l hl _).mono ?_
      rintro e w2 ⟨rfl, hb⟩
      rw [hp]
      have HB := Lib.hid (BW.out.trans (hb.mono BW.out.size))
      have B2 := Lib.hid (B1.out.below hb)
      clear hb
      go_wp2_with (refine wpList_load_row rfl 32 (.tmp 1) rfl w.heap.size rfl 32 (pic nn l) (0, 0) _ B2.out Try.underlying32 rfl (Try.sizeP hl) ?_)
      refine (top_any nn m' l hl hn1 hn2 hmul hm64 hm1 HLV.out _).mono ?_
      rintro e w3 ⟨rfl, hb⟩
      rw [← HT.out]
      have HB3 := Lib.hid (HB.out.trans (hb.mono HB.out.size))
      clear hb
      go_wp2
      go_ret
      exact ⟨by rw [R.out]; rfl, HB3.out⟩
end Go.Proofs.Ytphbjfijipcpnaa
