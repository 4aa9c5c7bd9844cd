/- Pictures told level by level; the limit. -/
import Derived.Test.YtphbjfijipcpnaaLv
import Derived.Test.YtphbjfijipcpnaaPS2
namespace Go.Proofs.Ytphbjfijipcpnaa
open Go.RowKit
set_option linter.unusedVariables false

/-- 64 levels, of which the first k are told by F -/
def fillV (k : Nat) (F : Nat → FV) : List FV := (List.range k).map F ++ List.replicate (64 - k) (some 0)
theorem fillV_length {k : Nat} (F : Nat → FV) (h : k ≤ 64) : (fillV k F).length = 64 := by simp [fillV]; omega
theorem fillV_zero (F : Nat → FV) : zeros.map (ab .f32) = fillV 0 F := by rw [zeros, List.map_replicate, ab_zero]; rfl
theorem fillV_set {k : Nat} (F : Nat → FV) (h : k < 64) : (fillV k F).set k (F k) = fillV (k + 1) F := by
  have e : 64 - k = (64 - (k + 1)) + 1 := by omega
  rw [fillV, fillV, e, List.replicate_succ, List.set_append, if_neg (by simp), List.range_succ]
  simp
theorem fillV_congr {k : Nat} {G H : Nat → FV} (h : ∀ i, i < k → G i = H i) : fillV k G = fillV k H := by
  rw [fillV, fillV]
  congr 1
  exact List.map_congr_left fun i hi => h i (by simpa using hi)
theorem fillV_get {k : Nat} (F : Nat → FV) {j : Nat} (hj : j < 64) : (fillV k F)[j]? = some (if j < k then F j else some 0) := by
  rw [fillV]
  by_cases h : j < k
  · rw [List.getElem?_append_left (by simpa using h), if_pos h]; simp [h]
  · rw [List.getElem?_append_right (by simpa using h), if_neg h, List.getElem?_replicate, if_pos (by simp; omega)]

set_option maxRecDepth 10000 in
set_option maxHeartbeats 2000000 in
theorem pictureBy_lv (caps : Array Value) (n m : Nat) (hn : 1 ≤ n) (hn2 : n ≤ 8) (hm : n * n = m) (F : Nat → FV) (w : World)
    (hf : ∀ (i : Nat) (y x : Int) (wr : World), i < m → Below w.heap.size w wr → Calls Try.prog 129 (#[.int .i64 y, .int .i64 x, .int .i64 i] ++ caps) wr fun e w' => ∃ b, e = .returned (.float .f32 b) ∧ ab .f32 b = F i ∧ Below wr.heap.size wr w') :
    Calls Try.prog 114 #[.int .i64 n, .func (.func 129) #[] caps] w fun e w' => ∃ l : List Nat, e = .returned (.agg (pic n l)) ∧ l.length = 64 ∧ l.map (ab .f32) = fillV m F ∧ Below w.heap.size w w' := by
  have hz := (zero_of_info Try.infoP).1
  have hm64 : m ≤ 64 := by have := Nat.mul_le_mul hn2 hn2; omega
  have hmul : (n : Int) * n = m := by rw [← hm, Int.natCast_mul]
  have h0 : ¬ (n : Int) = 0 := by omega
  have HF := Lib.hid hf
  have HM := Lib.hid hm
  clear hf hm
  go_enter Try.func114, Try.ntmps114
  have h2 := blk2 w (.cells (pic 0 zeros) 32) (.cells (pic 0 zeros) 32)
  have hs1 : ((w.alloc (.cells (pic 0 zeros) 32)).alloc (.cells (pic 0 zeros) 32)).heap[w.heap.size + 1]? = some (.cells (pic 0 zeros) 32) := h2.2
  have H0 := Lib.hid h2.1
  have H1 := Lib.hid hs1
  clear h2 hs1
  go_wp2_with (first | (refine wpList_build1 rfl (.tmp 7) n rfl rfl ?_) | (refine wpList_store_row rfl 32 (.tmp 5) (.tmp 8) rfl (w.heap.size + 1) (pic n zeros) rfl rfl 32 (pic 0 zeros) H1.out ?c1 ?c2 (pic_one n zeros) ?_; (case c1 => exact Try.sizeP zeros_length); (case c2 => rfl)))
  go_loopw [6, 12] (fun _ i wr => ∃ k : Nat, k ≤ m ∧ i = .int .i64 k ∧ Below w.heap.size w wr ∧ Hid (Blk wr w.heap.size (pic 0 zeros) 32 ∧ ∃ l : List Nat, l.length = 64 ∧ Blk wr (w.heap.size + 1) (pic n l) 32 ∧ l.map (ab .f32) = fillV k F)) (fun _ i _ => m - (intOf i).toNat)
  case atStart =>
    refine ⟨0, Nat.zero_le _, rfl, ?_, Blk.rowOther H0.out (by omega) _, zeros, rfl, Blk.row H1.out _, ?_⟩
    · exact Below.setRow (((Below.refl _ _).alloc (Nat.le_refl _) _).alloc (by simp) _) (by omega) _
    · exact fillV_zero F
  case round =>
    obtain ⟨k, hk, rfl, hbl, hcur⟩ := hrel
    have HB := Lib.hid hbl; clear hbl
    obtain ⟨hz1, l, hl, hc, hml⟩ := hcur.out
    clear hcur hz
    by_cases hlt : k < m
    · have HFK := Lib.hid (fun y x => HF.out k y x wr.drew hlt (below_drewN' HB.out 1))
      have c0 := hc.picCell (by omega : k < l.length)
      have f0 := hc.frozen (1 + k)
      obtain ⟨y, hy⟩ : ∃ y, y = l.getD k 0 := ⟨_, rfl⟩
      rw [← hy] at c0
      have HC := Lib.hid hc
      have HZ := Lib.hid hz1
      have HL := Lib.hid hl
      have HML := Lib.hid hml
      clear hc hz1 hl hy hml
      go_wp2
      go_region_with ((refine (HFK.out _ _).mono ?_; rintro e w' ⟨y2, rfl, hy2, hb⟩; have HY := Lib.hid hy2; have HC2 := Lib.hid ((HC.out.drewN 1).below hb); have HZ2 := Lib.hid ((HZ.out.drewN 1).below hb); have HB2 := Lib.hid (Below.drewTrans HB.out hb HB.out.size); have c1 := HC2.out.picCell (by rw [HL.out]; omega : k < l.length); have f1 := HC2.out.frozen (1 + k); obtain ⟨y3, hy3⟩ : ∃ y3, y3 = l.getD k 0 := ⟨_, rfl⟩; rw [← hy3] at c1; clear hb hy3 hy2))
      all_goals
        go_wp2
        go_roundw
        case rel =>
          refine ⟨k + 1, by omega, by go_num, HB2.out.setCell (by exact (by omega : w.heap.size ≤ w.heap.size + 1)) _, HZ2.out.other (by omega) _ _, l.set k y2, by rw [List.length_set]; exact HL.out, HC2.out.picSet k y2, ?_⟩
          rw [List.map_set, HML.out, HY.out, fillV_set F (by omega : k < 64)]
        case measure => simp [intOf]; omega
    · have ek : k = m := by omega
      subst ek
      have HC := Lib.hid hc
      have HZ := Lib.hid hz1
      have HL := Lib.hid hl
      have HML := Lib.hid hml
      clear hc hz1 hml hl
      go_wp2_with (first | (refine wpList_load_row rfl 32 (.tmp 5) rfl (w.heap.size + 1) rfl 32 (pic n l) (0, 0) _ HC.out Try.underlying32 rfl (Try.sizeP HL.out) ?_) | (refine wpList_store_row rfl 32 (.tmp 4) (.tmp 28) rfl w.heap.size (pic n l) rfl rfl 32 (pic 0 zeros) HZ.out (Try.sizeP HL.out) (by rw [pic_size, pic_size, HL.out]; rfl) (pic_one n _) ?_))
      refine bodyPost_ret (v := .agg (pic n l)) (results_cell_row Try.results114 _ _ w.heap.size 32 (pic n l) (0, 0) _ rfl (HZ.out.row _) Try.underlying32 rfl (Try.sizeP HL.out)) rfl ?_
      exact ⟨l, rfl, HL.out, HML.out, Below.setRow HB.out (Nat.le_refl _) _⟩

set_option maxRecDepth 10000 in
set_option maxHeartbeats 1000000 in
theorem levelsBy_any (X : Nat) (caps : Array Value) (nn m : Nat) (l : List Nat) (hl : l.length = 64) (hn : 1 ≤ nn) (hn2 : nn ≤ 8) (hm : nn * nn = m) (F : Nat → FV) (w : World)
    (hf : ∀ (i : Nat) (y x : Int) (g2 g3 : Nat) (wr : World), i < m → Below w.heap.size w wr → wr.cell? ⟨g3, 0, none⟩ = some (.func (.func X) #[] caps) → Blk wr g2 (pic nn l) 32 → Calls Try.prog 129 (#[.int .i64 y, .int .i64 x, .int .i64 i] ++ #[.pointer (some ⟨g3, 0, none⟩), .pointer (some ⟨g2, 0, none⟩)]) wr fun e w' => ∃ b, e = .returned (.float .f32 b) ∧ ab .f32 b = F i ∧ Below wr.heap.size wr w') :
    Calls Try.prog 86 #[.agg (pic nn l), .func (.func X) #[] caps] w fun e w' => ∃ l' : List Nat, e = .returned (.agg (pic nn l')) ∧ l'.length = 64 ∧ l'.map (ab .f32) = fillV m F ∧ Below w.heap.size w w' := by
  have hz := (zero_of_info Try.infoP).1
  obtain ⟨W0, hW⟩ : ∃ W0, W0 = ((w.alloc (.cells (pic nn l) 32)).alloc (.cells #[.func (.func X) #[] caps] 60)).alloc (.cells (pic 0 zeros) 32) := ⟨_, rfl⟩
  have hb0 : Below w.heap.size w W0 := by rw [hW]; exact (((Below.refl _ _).alloc (Nat.le_refl _) _).alloc (by simp) _).alloc (by simp; omega) _
  have h3 := blk3 w (.cells (pic nn l) 32) (.cells #[.func (.func X) #[] caps] 60) (.cells (pic 0 zeros) 32)
  rw [← hW] at h3
  have b0 : Blk W0 w.heap.size (pic nn l) 32 := h3.1
  have b1 : Blk W0 (w.heap.size + 1) #[.func (.func X) #[] caps] 60 := h3.2.1
  have b2 : Blk W0 (w.heap.size + 1 + 1) (pic 0 zeros) 32 := h3.2.2
  have cs := b0.picSide
  have cf : W0.cell? ⟨w.heap.size + 1, 0, none⟩ = some (.func (.func X) #[] caps) := by rw [b1.cell]; rfl
  have B0 := Lib.hid b0
  have B2 := Lib.hid b2
  have CF := Lib.hid cf
  have BW := Lib.hid hb0
  have HF := Lib.hid hf
  have HM := Lib.hid hm
  clear hb0 h3 b0 b1 b2 cf hf hm
  go_enter Try.func86, Try.ntmps86
  go_upto_region 1 with (fail)
  rw [← hW]
  clear hW
  go_wp2_with fail
  refine (pictureBy_lv #[.pointer (some ⟨w.heap.size + 1, 0, none⟩), .pointer (some ⟨w.heap.size, 0, none⟩)] nn m hn hn2 HM.out F W0 ?hf).mono ?_
  case hf =>
    intro i y x wr hi hb
    exact HF.out i y x w.heap.size (w.heap.size + 1) wr hi (BW.out.trans (hb.mono BW.out.size)) (by rw [hb.cell (by exact block_lt_of_cell CF.out)]; exact CF.out) (B0.out.below hb)
  rintro e w2 ⟨l', rfl, hl', hml, hb2⟩
  have B3 := Lib.hid (B2.out.below hb2)
  have BW2 := Lib.hid (BW.out.trans (hb2.mono BW.out.size))
  have HL := Lib.hid hl'
  have HML := Lib.hid hml
  clear hb2 hl' hml
  go_wp2_with (refine wpList_store_row rfl 32 (.tmp 4) (.tmp 8) rfl (w.heap.size + 1 + 1) (pic nn l') rfl rfl 32 (pic 0 zeros) B3.out ?c1 ?c2 (pic_one nn l') ?_; (case c1 => exact Try.sizeP HL.out); (case c2 => (rw [pic_size, pic_size, HL.out]; rfl)))
  refine bodyPost_ret (v := .agg (pic nn l')) (results_cell_row Try.results86 _ _ (w.heap.size + 1 + 1) 32 (pic nn l') (0, 0) _ rfl (B3.out.row _) Try.underlying32 rfl (Try.sizeP HL.out)) rfl ?_
  exact ⟨l', rfl, HL.out, HML.out, Below.setRow BW2.out (by omega) _⟩

/-! ### limits -/
/-- a picture with a code: the limit where it is none -/
def limR (n : Int) (l : List Nat) : Int × Int × List FV := if isPic n l then (0, n, l.map (ab .f32)) else (3, 0, zeros.map (ab .f32))

set_option maxRecDepth 10000 in
set_option maxHeartbeats 1000000 in
theorem limitPicture_any (n : Int) (l : List Nat) (hl : l.length = 64) (w : World) :
    Calls Try.prog 85 #[.agg (pic n l)] w (PicPost (limR n l) w) := by
  have hz := (zero_of_info Try.infoP).1
  obtain ⟨W0, hW⟩ : ∃ W0, W0 = (w.alloc (.cells (pic n l) 32)).alloc (.cells (pic 0 zeros) 32) := ⟨_, rfl⟩
  have hb0 : Below w.heap.size w W0 := by rw [hW]; exact ((Below.refl _ _).alloc (Nat.le_refl _) _).alloc (by simp) _
  have h3 := blk2 w (.cells (pic n l) 32) (.cells (pic 0 zeros) 32)
  rw [← hW] at h3
  have b0 : Blk W0 w.heap.size (pic n l) 32 := h3.1
  have b1 : Blk W0 (w.heap.size + 1) (pic 0 zeros) 32 := h3.2
  have B0 := Lib.hid b0
  have B1 := Lib.hid b1
  have BW := Lib.hid hb0
  clear hb0 h3 b0 b1
  cases hp : isPic n l with
  | false =>
    have R : Hid (limR n l = (3, 0, zeros.map (ab .f32))) := by show _ = _; unfold limR; rw [hp]; rfl
    go_enter Try.func85, Try.ntmps85
    go_upto_region 1 with (fail)
    rw [← hW]
    clear hW
    go_wp2_with (refine wpList_load_row rfl 32 (.tmp 1) rfl w.heap.size rfl 32 (pic n l) (0, 0) _ B0.out Try.underlying32 rfl (Try.sizeP hl) ?_)
    refine (IsPicture_any n l hl _).mono ?_
    rintro e w2 ⟨rfl, hb⟩
    rw [hp]
    have B2 := Lib.hid (B1.out.below hb)
    have BW2 := Lib.hid (BW.out.trans (hb.mono BW.out.size))
    clear hb
    go_wp2_with (first | (refine wpList_build0 rfl rfl ?_) | (refine wpList_store_row rfl 32 (.tmp 2) (.tmp 7) rfl (w.heap.size + 1) (pic 0 zeros) rfl rfl 32 (pic 0 zeros) B2.out ?c1 ?c2 (pic_one 0 zeros) ?_; (case c1 => exact Try.sizeP zeros_length); (case c2 => rfl)))
    refine bodyPost_ret (v := .tuple #[.agg (pic 0 zeros), .int .i64 3]) (results_cell_row2 Try.results85 _ _ (w.heap.size + 1) 32 (pic 0 zeros) (0, 0) _ _ rfl rfl (B2.out.row _) Try.underlying32 rfl (Try.sizeP zeros_length)) rfl ?_
    exact PicPost.err R.out (Below.setRow BW2.out (by omega) _)
  | true =>
    have R : Hid (limR n l = (0, n, l.map (ab .f32))) := by show _ = _; unfold limR; rw [hp]; rfl
    go_enter Try.func85, Try.ntmps85
    go_upto_region 1 with (fail)
    rw [← hW]
    clear hW
    go_wp2_with (refine wpList_load_row rfl 32 (.tmp 1) rfl w.heap.size rfl 32 (pic n l) (0, 0) _ B0.out Try.underlying32 rfl (Try.sizeP hl) ?_)
    refine (IsPicture_any n l hl _).mono ?_
    rintro e w2 ⟨rfl, hb⟩
    rw [hp]
    have B2 := Lib.hid (B1.out.below hb)
    have B3 := Lib.hid (B0.out.below hb)
    have BW2 := Lib.hid (BW.out.trans (hb.mono BW.out.size))
    clear hb
    go_wp2_with (first | (refine wpList_load_row rfl 32 (.tmp 1) rfl w.heap.size rfl 32 (pic n l) (0, 0) _ B3.out Try.underlying32 rfl (Try.sizeP hl) ?_) | (refine wpList_store_row rfl 32 (.tmp 2) (.tmp 8) rfl (w.heap.size + 1) (pic n l) rfl rfl 32 (pic 0 zeros) B2.out ?c1 ?c2 (pic_one n l) ?_; (case c1 => exact Try.sizeP hl); (case c2 => (rw [pic_size, pic_size, hl]; rfl))))
    refine bodyPost_ret (v := .tuple #[.agg (pic n l), .int .i64 0]) (results_cell_row2 Try.results85 _ _ (w.heap.size + 1) 32 (pic n l) (0, 0) _ _ rfl rfl (B2.out.row _) Try.underlying32 rfl (Try.sizeP hl)) rfl ?_
    exact ⟨l, by rw [R.out], hl, by rw [R.out], Below.setRow BW2.out (by omega) _⟩

set_option maxRecDepth 10000 in
set_option maxHeartbeats 1000000 in
theorem l05Told_any (n : Int) (l : List Nat) (hl : l.length = 64) (w : World) :
    Calls Try.prog 82 #[.agg (pic n l)] w (PicPost (limR n l) w) := by
  have hz := (zero_of_info Try.infoP).1
  obtain ⟨W0, hW⟩ : ∃ W0, W0 = (w.alloc (.cells (pic n l) 32)).alloc (.cells (pic 0 zeros) 32) := ⟨_, rfl⟩
  have hb0 : Below w.heap.size w W0 := by rw [hW]; exact ((Below.refl _ _).alloc (Nat.le_refl _) _).alloc (by simp) _
  have h3 := blk2 w (.cells (pic n l) 32) (.cells (pic 0 zeros) 32)
  rw [← hW] at h3
  have b0 : Blk W0 w.heap.size (pic n l) 32 := h3.1
  have b1 : Blk W0 (w.heap.size + 1) (pic 0 zeros) 32 := h3.2
  have B0 := Lib.hid b0
  have B1 := Lib.hid b1
  have BW := Lib.hid hb0
  clear hb0 h3 b0 b1
  cases hp : isPic n l with
  | false =>
    have R : Hid (limR n l = (3, 0, zeros.map (ab .f32))) := by show _ = _; unfold limR; rw [hp]; rfl
    go_enter Try.func82, Try.ntmps82
    go_upto_region 1 with (fail)
    rw [← hW]
    clear hW
    go_wp2_with (refine wpList_load_row rfl 32 (.tmp 1) rfl w.heap.size rfl 32 (pic n l) (0, 0) _ B0.out Try.underlying32 rfl (Try.sizeP hl) ?_)
    refine (l01Shown_any n l hl _).mono ?_
    rintro e w2 ⟨rfl, hb⟩
    rw [hp]
    have B2 := Lib.hid (B1.out.below hb)
    have BW2 := Lib.hid (BW.out.trans (hb.mono BW.out.size))
    clear hb
    go_wp2_with (first | (refine wpList_build0 rfl rfl ?_) | (refine wpList_store_row rfl 32 (.tmp 2) (.tmp 7) rfl (w.heap.size + 1) (pic 0 zeros) rfl rfl 32 (pic 0 zeros) B2.out ?c1 ?c2 (pic_one 0 zeros) ?_; (case c1 => exact Try.sizeP zeros_length); (case c2 => rfl)))
    refine bodyPost_ret (v := .tuple #[.agg (pic 0 zeros), .int .i64 3]) (results_cell_row2 Try.results82 _ _ (w.heap.size + 1) 32 (pic 0 zeros) (0, 0) _ _ rfl rfl (B2.out.row _) Try.underlying32 rfl (Try.sizeP zeros_length)) rfl ?_
    exact PicPost.err R.out (Below.setRow BW2.out (by omega) _)
  | true =>
    have R : Hid (limR n l = (0, n, l.map (ab .f32))) := by show _ = _; unfold limR; rw [hp]; rfl
    go_enter Try.func82, Try.ntmps82
    go_upto_region 1 with (fail)
    rw [← hW]
    clear hW
    go_wp2_with (refine wpList_load_row rfl 32 (.tmp 1) rfl w.heap.size rfl 32 (pic n l) (0, 0) _ B0.out Try.underlying32 rfl (Try.sizeP hl) ?_)
    refine (l01Shown_any n l hl _).mono ?_
    rintro e w2 ⟨rfl, hb⟩
    rw [hp]
    have B2 := Lib.hid (B1.out.below hb)
    have B3 := Lib.hid (B0.out.below hb)
    have BW2 := Lib.hid (BW.out.trans (hb.mono BW.out.size))
    clear hb
    go_wp2_with (first | (refine wpList_load_row rfl 32 (.tmp 1) rfl w.heap.size rfl 32 (pic n l) (0, 0) _ B3.out Try.underlying32 rfl (Try.sizeP hl) ?_) | (refine wpList_store_row rfl 32 (.tmp 2) (.tmp 8) rfl (w.heap.size + 1) (pic n l) rfl rfl 32 (pic 0 zeros) B2.out ?c1 ?c2 (pic_one n l) ?_; (case c1 => exact Try.sizeP hl); (case c2 => (rw [pic_size, pic_size, hl]; rfl))))
    refine bodyPost_ret (v := .tuple #[.agg (pic n l), .int .i64 0]) (results_cell_row2 Try.results82 _ _ (w.heap.size + 1) 32 (pic n l) (0, 0) _ _ rfl rfl (B2.out.row _) Try.underlying32 rfl (Try.sizeP hl)) rfl ?_
    exact ⟨l, by rw [R.out], hl, by rw [R.out], Below.setRow BW2.out (by omega) _⟩
end Go.Proofs.Ytphbjfijipcpnaa
