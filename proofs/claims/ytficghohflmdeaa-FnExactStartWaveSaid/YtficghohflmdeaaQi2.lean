/- Pictures in seat B: to, equal. -/
import Derived.Test.YtficghohflmdeaaQi1
namespace Go.Proofs.Ytficghohflmdeaa
open Go.RowKit
set_option linter.unusedVariables false


set_option maxRecDepth 10000 in
set_option maxHeartbeats 1000000 in
theorem eqA_eq (xs ys : List Nat) (hx : xs.length = 64) (hy : ys.length = 64) (h : xs.map (ab .f32) = ys.map (ab .f32)) (w : World) :
    Calls Try.prog 66 #[.agg (arr xs), .agg (arr ys)] w fun e w' => e = .returned (.bool true) ∧ Below w.heap.size w w' := by
  have H := Lib.hid h; clear h
  go_enter Try.func66, Try.ntmps66
  go_wp2
  go_loopw [5] (fun i wr => ∃ k : Nat, k ≤ 64 ∧ i = .int .i64 k ∧ Below w.heap.size w wr ∧ Hid (Blk wr w.heap.size (arr xs) 44 ∧ Blk wr (w.heap.size + 1) (arr ys) 44)) (fun i _ => 64 - (intOf i).toNat)
  case atStart => exact ⟨0, Nat.zero_le _, rfl, ((Below.refl _ _).alloc (Nat.le_refl _) _).alloc (by simp) _, blk2 w _ _⟩
  case round =>
    obtain ⟨k, hk, rfl, hbl, hcur⟩ := hrel
    have HB := Lib.hid hbl; clear hbl
    obtain ⟨ha, hb⟩ := hcur.out
    clear hcur
    by_cases hlt : k < 64
    · have hc := ha.arrCell (by omega : k < xs.length)
      have hd := hb.arrCell (by omega : k < ys.length)
      have hab := ab_eq_of_map H.out k
      obtain ⟨x, hx0⟩ : ∃ x, x = xs.getD k 0 := ⟨_, rfl⟩
      obtain ⟨y, hy0⟩ : ∃ y, y = ys.getD k 0 := ⟨_, rfl⟩
      rw [← hx0] at hc hab
      rw [← hy0] at hd hab
      have HA := Lib.hid hab
      have H1 := Lib.hid ha
      have H2 := Lib.hid hb
      clear hx0 hy0 hab ha hb
      go_wp2
      go_region_with ((go_at_call 47; refine (sameFloat_eq _ _ _ (by rw [ab_wres, ab_wres, HA.out])).mono ?_; rintro e w' ⟨rfl, n, rfl⟩))
      all_goals
        go_wp2
        go_roundw
        case rel => exact ⟨k + 1, by omega, by go_num, below_drewN' HB.out _, H1.out.drewN _, H2.out.drewN _⟩
        case measure => simp [intOf]; omega
    · clear ha hb
      go_wp2
      go_ret
      exact ⟨rfl, HB.out⟩

theorem Blk.picMid {w : World} {g : Nat} {n : Int} {l : List Nat} {t : TypeId} (h : Blk w g (pic n l) t) : w.rangeAt g 1 (l.map flt) := by
  intro j v hv
  rw [h.cell, Nat.add_comm]
  simpa [pic] using hv
theorem Blk.picFill {w : World} {g : Nat} {n : Int} {l : List Nat} {t : TypeId} (h : Blk w g (pic n l) t) (m : List Nat) (hm : m.length = l.length) : Blk (w.setCells g 1 (m.map flt)) g (pic n m) t := by
  have := setCells_heap g t (m.map flt) 1 w (pic n l) h
  have e : ((m.map flt).zipIdx 1).foldl (fun c p => c.setIfInBounds p.2 p.1) (pic n l) = pic n m := by
    apply Array.ext'
    have := fold_toList (m.map flt) 1 [.int .i64 n] (l.map flt) rfl (by simp [hm])
    simpa [pic] using this
  rw [e] at this; exact this

@[go_sem] theorem pic_get0 (n : Int) (l : List Nat) : (pic n l)[0]? = some (.int .i64 n) := by simp [pic]
theorem Try.sizeA' {l : List Nat} (h : l.length = 64) : (Try.prog.info? 44).map (·.size) = some (l.map flt).length := by rw [(zero_of_info Try.infoA).2, List.length_map, h]
theorem zeros_length : zeros.length = 64 := rfl

set_option maxRecDepth 10000 in
set_option maxHeartbeats 1000000 in
theorem toP_any (n : Int) (l : List Nat) (hl : l.length = 64) (w : World) :
    Calls Try.prog 29 #[.agg (pic n l)] w fun e w' => e = .returned (.agg (pic n l)) ∧ Below w.heap.size w w' := by
  have hz := (zero_of_info Try.infoP).1
  have h3 := blk3 w (.cells (pic n l) 46) (.cells (pic 0 zeros) 47) (.cells (pic 0 zeros) 47)
  obtain ⟨W0, hW⟩ : ∃ W0, W0 = ((w.alloc (.cells (pic n l) 46)).alloc (.cells (pic 0 zeros) 47)).alloc (.cells (pic 0 zeros) 47) := ⟨_, rfl⟩
  have hb0 : Below w.heap.size w W0 := by rw [hW]; exact (((Below.refl _ _).alloc (Nat.le_refl _) _).alloc (by simp) _).alloc (by simp; omega) _
  rw [← hW] at h3
  have b0 : Blk W0 w.heap.size (pic n l) 46 := h3.1
  have b1 : Blk W0 (w.heap.size + 1) (pic 0 zeros) 47 := h3.2.1
  have b2 : Blk W0 (w.heap.size + 1 + 1) (pic 0 zeros) 47 := h3.2.2
  have c0 := b0.picSide
  have c2 := b2.picSide
  have f2 := b2.frozen 0
  have B0 := Lib.hid b0
  have B1 := Lib.hid b1
  have B2 := Lib.hid b2
  have BW := Lib.hid hb0
  clear h3 b0 b1 b2 hb0
  go_enter Try.func29, Try.ntmps29
  go_upto_region 2 with (fail)
  rw [← hW]
  clear hW
  have R1 := Lib.hid ((B0.out.other (by omega : w.heap.size ≠ w.heap.size + 1 + 1) 0 (.int .i64 n)).picMid)
  have C1 := Lib.hid (B1.out.other (by omega : w.heap.size + 1 ≠ w.heap.size + 1 + 1) 0 (.int .i64 n))
  have C2 := Lib.hid (B2.out.picMove n)
  have CB := Lib.hid (Below.setCell BW.out (by exact (by omega : w.heap.size ≤ w.heap.size + 1 + 1)) (.int .i64 n) (p := ⟨w.heap.size + 1 + 1, 0, none⟩))
  clear B0 B1 B2
  go_wp2_with (refine wpList_load_mid rfl 44 (.tmp 7) rfl w.heap.size 1 rfl (l.map flt) _ R1.out Try.underlying44 rfl (Try.sizeA' hl) ?_)
  refine (toA_any l hl _).mono ?_
  rintro e w2 ⟨rfl, hb⟩
  have D1 := Lib.hid (C1.out.below hb)
  have D2 := Lib.hid (C2.out.below hb)
  have DB := Lib.hid (CB.out.trans (hb.mono CB.out.size))
  clear C1 C2 CB hb
  have T2 := Lib.hid (D2.out.there 1 (arr l).size (by rw [arr_size, pic_size, hl]; decide))
  have E2 := Lib.hid (D2.out.picFill l hl)
  have E1 := Lib.hid (show Blk (w2.setCells (w.heap.size + 1 + 1) 1 (arr l).toList) (w.heap.size + 1) (pic 0 zeros) 47 from (setCells_other _ _ (by omega) _ _ _).trans D1.out)
  have EB := Lib.hid (Below.setCells DB.out (by omega : w.heap.size ≤ w.heap.size + 1 + 1) 1 (arr l).toList)
  clear D1 D2 DB
  go_wp2_with (first | (refine wpList_store_mid rfl 44 (.tmp 10) (.tmp 9) rfl (w.heap.size + 1 + 1) 1 (arr l) rfl rfl T2.out (Try.sizeA hl) (arr_one l) ?_) | (refine wpList_load_row rfl 47 (.tmp 3) rfl (w.heap.size + 1 + 1) rfl 47 (pic n l) (0, 0) _ E2.out Try.underlying47 rfl (Try.sizeP hl) ?_) | (refine wpList_store_row rfl 47 (.tmp 2) (.tmp 11) rfl (w.heap.size + 1) (pic n l) rfl rfl 47 (pic 0 zeros) E1.out (Try.sizeP hl) (by rw [pic_size, pic_size, hl]; rfl) (pic_one n l) ?_))
  refine bodyPost_ret (v := .agg (pic n l)) (results_cell_row Try.results29 _ _ (w.heap.size + 1) 47 (pic n l) (0, 0) _ rfl (E1.out.row (pic n l)) Try.underlying47 rfl (Try.sizeP hl)) rfl ?_
  exact ⟨rfl, Below.setRow EB.out (by omega) _⟩
end Go.Proofs.Ytficghohflmdeaa
