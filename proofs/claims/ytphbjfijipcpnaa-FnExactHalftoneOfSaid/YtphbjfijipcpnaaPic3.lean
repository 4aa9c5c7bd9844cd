/- Pictures: equal, plain. -/
import Derived.Test.YtphbjfijipcpnaaPic2
namespace Go.Proofs.Ytphbjfijipcpnaa
open Go.RowKit
set_option linter.unusedVariables false

theorem Below.drewTrans {B : Nat} {a w w' : World} (h : Below B a w) (hb : Below w.drew.heap.size w.drew w') (hs : B ≤ w.heap.size) : Below B a w' :=
  Below.trans (⟨h.os, h.tape, h.output, h.size, h.block⟩ : Below B a w.drew) (hb.mono hs)

theorem index_arr (l : List Nat) (hl : l.length = 64) (k : Nat) (hk : k < 64) (w : World) : (Instr.index 29 (.agg (l.map flt).toArray) (.int .i64 (k : Int))).run Try.prog w = .ok (.float .f32 (l.getD k 0)) w := by
  have hk2 : (k : Int) < 64 := by omega
  simp [Instr.index, run_underlying Try.underlying29, asIntOf, hk2, part, go_sem]
  rw [if_pos hk, List.getElem?_eq_getElem (by omega : k < l.length)]
  rfl

set_option maxRecDepth 10000 in
set_option maxHeartbeats 1000000 in
theorem eqP_eq (n : Int) (xs ys : List Nat) (hx : xs.length = 64) (hy : ys.length = 64) (h : xs.map (ab .f32) = ys.map (ab .f32)) (w : World) :
    Calls Try.prog 21 #[.agg (pic n xs), .agg (pic n ys)] w fun e w' => e = .returned (.bool true) ∧ Below w.heap.size w w' := by
  have h2 := blk2 w (.cells (pic n xs) 32) (.cells (pic n ys) 32)
  obtain ⟨W0, hW⟩ : ∃ W0, W0 = ((w.alloc (.cells (pic n xs) 32)).alloc (.cells (pic n ys) 32)) := ⟨_, rfl⟩
  have hb0 : Below w.heap.size w W0 := by rw [hW]; exact (((Below.refl _ _).alloc (Nat.le_refl _) _).alloc (by simp) _)
  rw [← hW] at h2
  have b0 : Blk W0 w.heap.size (pic n xs) 32 := h2.1
  have b1 : Blk W0 (w.heap.size + 1) (pic n ys) 32 := h2.2
  have c0 := b0.picSide
  have c1 := b1.picSide
  have R0 := Lib.hid b0.picMid
  have R1 := Lib.hid b1.picMid
  have HW := Lib.hid hb0
  clear h2 b0 b1 hb0
  have H := Lib.hid h; clear h
  go_enter Try.func21, Try.ntmps21
  go_upto_region 1 with (fail)
  rw [← hW]
  clear hW
  go_wp2_with (first | (refine wpList_load_mid rfl 29 (.tmp 10) rfl w.heap.size 1 rfl (xs.map flt) _ R0.out Try.underlying29 rfl (Try.sizeA' hx) ?_) | (refine wpList_load_mid rfl 29 (.tmp 12) rfl (w.heap.size + 1) 1 rfl (ys.map flt) _ R1.out Try.underlying29 rfl (Try.sizeA' hy) ?_))
  refine (eqA_eq xs ys hx hy H.out _).mono ?_
  rintro e w2 ⟨rfl, hb⟩
  have HB := Lib.hid (HW.out.trans (hb.mono HW.out.size))
  clear hb
  go_wp2
  go_ret
  exact ⟨rfl, HB.out⟩

set_option maxRecDepth 10000 in
set_option maxHeartbeats 1000000 in
theorem plusP_any (n : Int) (l : List Nat) (hl : l.length = 64) (w : World) :
    Calls Try.prog 43 #[.agg (pic n l)] w fun e w' => e = .returned (.agg (pic n (l.map pn))) ∧ Below w.heap.size w w' := by
  have hz := (zero_of_info Try.infoP).1
  go_enter Try.func43, Try.ntmps43
  go_wp2
  go_loopw [3] (fun i wr => ∃ k : Nat, k ≤ 64 ∧ i = .int .i64 k ∧ Below w.heap.size w wr ∧ Hid (Blk wr (w.heap.size + 1) (pic 0 zeros) 32 ∧ Blk wr w.heap.size (pic n ((l.take k).map pn ++ l.drop k)) 32)) (fun i _ => 64 - (intOf i).toNat)
  case atStart =>
    have h2 := blk2 w (.cells (pic n l) 32) (.cells (pic 0 zeros) 32)
    exact ⟨0, Nat.zero_le _, rfl, ((Below.refl _ _).alloc (Nat.le_refl _) _).alloc (by simp) _, h2.2, h2.1⟩
  case round =>
    obtain ⟨k, hk, rfl, hbl, hcur⟩ := hrel
    have HB := Lib.hid hbl; clear hbl
    obtain ⟨hz1, hc⟩ := hcur.out
    clear hcur hz
    have hcl : ((l.take k).map pn ++ l.drop k).length = 64 := by simp; omega
    by_cases hlt : k < 64
    · have c0 := hc.picCell (by omega : k < ((l.take k).map pn ++ l.drop k).length)
      have f0 := hc.frozen (1 + k)
      have hx0 : ((l.take k).map pn ++ l.drop k).getD k 0 = l.getD k 0 := by
        have e : ((l.take k).map pn).length = k := by simp; omega
        rw [List.getD_eq_getElem?_getD, List.getElem?_append_right (by omega), e, Nat.sub_self, List.getElem?_drop]; simp
      obtain ⟨x, hx⟩ : ∃ x, x = l.getD k 0 := ⟨_, rfl⟩
      rw [hx0, ← hx] at c0
      have HC := Lib.hid hc
      have HZ := Lib.hid hz1
      have HX := Lib.hid hx
      clear hc hz1 hx hx0 hcl
      go_wp2_with (go_at_call 68; refine (l01PlusNumber_any _ _).mono ?_; rintro e w' ⟨rfl, rfl⟩)
      go_roundw
      case rel =>
        refine ⟨k + 1, by omega, by go_num, HB.out.setCell (by exact Nat.le_refl _) _, HZ.out.other (by omega) _ _, ?_⟩
        have h := HC.out.picSet k (pn x)
        have e : ((l.take k).map pn ++ l.drop k).set k (pn x) = (l.take (k + 1)).map pn ++ l.drop (k + 1) := by
          have e2 : ((l.take k).map pn).length = k := by simp; omega
          have hkl : k < l.length := by omega
          rw [List.set_append, if_neg (by omega), e2, List.drop_eq_getElem_cons hkl, List.take_succ_eq_append_getElem hkl, HX.out]
          simp only [Nat.sub_self, List.set_cons_zero, List.map_append, List.map_cons, List.map_nil, List.append_assoc, List.singleton_append, List.getD_eq_getElem?_getD, List.getElem?_eq_getElem hkl, Option.getD_some]
        rw [e] at h; exact h
      case measure => simp [intOf]; omega
    · have ek : k = 64 := by omega
      have e : (l.take k).map pn ++ l.drop k = l.map pn := by
        rw [ek, ← hl]; simp
      rw [e] at hc
      have HC := Lib.hid hc
      have HZ := Lib.hid hz1
      clear hc hz1 e ek hcl
      have hpl : (l.map pn).length = 64 := by simp [hl]
      go_wp2_with (first | (refine wpList_load_row rfl 32 (.tmp 1) rfl w.heap.size rfl 32 (pic n (l.map pn)) (0, 0) _ HC.out Try.underlying32 rfl (Try.sizeP hpl) ?_) | (refine wpList_store_row rfl 32 (.tmp 2) (.tmp 16) rfl (w.heap.size + 1) (pic n (l.map pn)) rfl rfl 32 (pic 0 zeros) HZ.out (Try.sizeP hpl) (by rw [pic_size, pic_size, hpl]; rfl) (pic_one n _) ?_))
      refine bodyPost_ret (v := .agg (pic n (l.map pn))) (results_cell_row Try.results43 _ _ (w.heap.size + 1) 32 (pic n (l.map pn)) (0, 0) _ rfl (HZ.out.row _) Try.underlying32 rfl (Try.sizeP hpl)) rfl ?_
      exact ⟨rfl, Below.setRow HB.out (by omega) _⟩

set_option maxRecDepth 100000 in
set_option maxHeartbeats 1000000 in
theorem plainP_any (n : Int) (l : List Nat) (hl : l.length = 64) (w : World) :
    Calls Try.prog 46 #[.agg (pic n l)] w fun e w' => e = .returned (.agg (pic n (l.map pn))) ∧ Below w.heap.size w w' := by
  have hz := (zero_of_info Try.infoP).1
  have h2 := blk2 w (.cells (pic n l) 32) (.cells (pic 0 zeros) 32)
  obtain ⟨W0, hW⟩ : ∃ W0, W0 = ((w.alloc (.cells (pic n l) 32)).alloc (.cells (pic 0 zeros) 32)) := ⟨_, rfl⟩
  have hb0 : Below w.heap.size w W0 := by rw [hW]; exact (((Below.refl _ _).alloc (Nat.le_refl _) _).alloc (by simp) _)
  rw [← hW] at h2
  have b0 : Blk W0 w.heap.size (pic n l) 32 := h2.1
  have b1 : Blk W0 (w.heap.size + 1) (pic 0 zeros) 32 := h2.2
  have R0 := Lib.hid b0.picMid
  have HC := Lib.hid b0
  have HZ := Lib.hid b1
  have HW := Lib.hid hb0
  clear h2 b0 b1 hb0
  go_enter Try.func46, Try.ntmps46
  go_upto_region 1 with (fail)
  rw [← hW]
  clear hW hz
  go_wp2_with (refine wpList_load_mid rfl 29 (.tmp 60) rfl w.heap.size 1 rfl (l.map flt) _ R0.out Try.underlying29 rfl (Try.sizeA' hl) ?_)
  go_loopw [9, 10, 62] (fun _ _ i wr => ∃ k : Nat, k ≤ 64 ∧ i = .int .i64 k ∧ Below w.heap.size w wr ∧ Hid (Blk wr (w.heap.size + 1) (pic 0 zeros) 32 ∧ Blk wr w.heap.size (pic n ((l.take k).map pn ++ l.drop k)) 32)) (fun _ _ i _ => 64 - (intOf i).toNat)
  case atStart => exact ⟨0, Nat.zero_le _, rfl, HW.out, HZ.out, HC.out⟩
  case round =>
    clear HW HZ HC
    obtain ⟨k, hk, rfl, hbl, hcur⟩ := hrel
    have HB := Lib.hid hbl; clear hbl
    obtain ⟨hz1, hc⟩ := hcur.out
    clear hcur
    have hcl : ((l.take k).map pn ++ l.drop k).length = 64 := by simp; omega
    by_cases hlt : k < 64
    · have hidx := index_arr l hl k hlt
      obtain ⟨x, hx⟩ : ∃ x, x = l.getD k 0 := ⟨_, rfl⟩
      rw [← hx] at hidx
      have HC := Lib.hid hc
      have HZ := Lib.hid hz1
      have HX := Lib.hid hx
      have HCL := Lib.hid hcl
      clear hc hz1 hx hcl
      go_wp2
      have hC := HC.out
      have c0 := hC.picCell (by rw [HCL.out]; exact hlt : k < ((l.take k).map pn ++ l.drop k).length)
      have f0 := hC.frozen (1 + k)
      obtain ⟨y, hy⟩ : ∃ y, y = ((l.take k).map pn ++ l.drop k).getD k 0 := ⟨_, rfl⟩
      rw [← hy] at c0
      clear hC hy
      go_region_with ((go_at_call 73; refine (plainNumber_any _ _).mono ?_; rintro e w' ⟨rfl, rfl⟩))
      all_goals
        go_wp2
        go_roundw
        case rel =>
          refine ⟨k + 1, by omega, by go_num, (below_drewN' HB.out 1).setCell (by exact Nat.le_refl _) _, (HZ.out.drewN 1).other (by omega) _ _, ?_⟩
          have h := (HC.out.drewN 1).picSet k (pn x)
          have e : ((l.take k).map pn ++ l.drop k).set k (pn x) = (l.take (k + 1)).map pn ++ l.drop (k + 1) := by
            have e2 : ((l.take k).map pn).length = k := by simp; omega
            have hkl : k < l.length := by omega
            rw [List.set_append, if_neg (by omega), e2, List.drop_eq_getElem_cons hkl, List.take_succ_eq_append_getElem hkl, HX.out]
            simp only [Nat.sub_self, List.set_cons_zero, List.map_append, List.map_cons, List.map_nil, List.append_assoc, List.singleton_append, List.getD_eq_getElem?_getD, List.getElem?_eq_getElem hkl, Option.getD_some]
          rw [e] at h; exact h
        case measure => simp [intOf]; omega
    · have ek : k = 64 := by omega
      have e : (l.take k).map pn ++ l.drop k = l.map pn := by
        rw [ek, ← hl]; simp
      rw [e] at hc
      have HC := Lib.hid hc
      have HZ := Lib.hid hz1
      clear hc hz1 e ek hcl
      have hpl : (l.map pn).length = 64 := by simp [hl]
      go_wp2_with (first | (refine wpList_load_row rfl 32 (.tmp 1) rfl w.heap.size rfl 32 (pic n (l.map pn)) (0, 0) _ HC.out Try.underlying32 rfl (Try.sizeP hpl) ?_) | (refine wpList_store_row rfl 32 (.tmp 2) (.tmp 124) rfl (w.heap.size + 1) (pic n (l.map pn)) rfl rfl 32 (pic 0 zeros) HZ.out (Try.sizeP hpl) (by rw [pic_size, pic_size, hpl]; rfl) (pic_one n _) ?_))
      refine bodyPost_ret (v := .agg (pic n (l.map pn))) (results_cell_row Try.results46 _ _ (w.heap.size + 1) 32 (pic n (l.map pn)) (0, 0) _ rfl (HZ.out.row _) Try.underlying32 rfl (Try.sizeP hpl)) rfl ?_
      exact ⟨rfl, Below.setRow HB.out (by omega) _⟩
end Go.Proofs.Ytphbjfijipcpnaa
