/- Pictures in seat B: levels told one by one. -/
import Derived.Test.YtficghohflmdeaaQi4
namespace Go.Proofs.Ytficghohflmdeaa
open Go.RowKit
set_option linter.unusedVariables false


/-- a finite number's value, in units of the least place -/
def valF (b : Nat) : Int := match FloatKind.f32.decode b with | .number s m e => Ieee.signed s m (e + 149).toNat | _ => 0

theorem signed_shift (s : Bool) (m a c : Nat) : Ieee.signed s m (a + c) = Ieee.signed s m a * (2 ^ c : Nat) := by
  unfold Ieee.signed
  cases s with
  | true => simp only [if_true, Nat.shiftLeft_eq, Nat.pow_add, Int.natCast_mul, Int.neg_mul, Int.mul_assoc]
  | false => simp only [Bool.false_eq_true, if_false, Nat.shiftLeft_eq, Nat.pow_add, Int.natCast_mul, Int.mul_assoc]
theorem compare_scale (x y : Int) (c : Nat) : compare (x * (2 ^ c : Nat)) (y * (2 ^ c : Nat)) = compare x y := by
  have h : (0 : Int) < (2 ^ c : Nat) := by exact_mod_cast Nat.two_pow_pos c
  rw [Int.compare_eq_ite_lt, Int.compare_eq_ite_lt]
  have e1 : (x * ((2 ^ c : Nat) : Int) < y * ((2 ^ c : Nat) : Int)) ↔ x < y := Int.mul_lt_mul_right h
  have e2 : (y * ((2 ^ c : Nat) : Int) < x * ((2 ^ c : Nat) : Int)) ↔ y < x := Int.mul_lt_mul_right h
  simp only [e1, e2]

theorem order_val {a b : Nat} (ha : isNum a = true) (hb : isNum b = true) : FloatKind.f32.format.order a b = some (compare (valF a) (valF b)) := by
  obtain ⟨a', s, m, i, h1, h2⟩ := fin_num.1 ha
  obtain ⟨b', t, n, j, h3, h4⟩ := fin_num.1 hb
  obtain ⟨rfl, _⟩ := ab_eq_some h1
  obtain ⟨rfl, _⟩ := ab_eq_some h3
  have r1 := single_read a
  have r2 := single_read b
  have hi : -149 ≤ i := by
    unfold FloatKind.decode at h2
    have h2' : Ieee.single.read a = .number s m i := h2
    rcases r1 with ⟨s', m', e', h, _, hle, _⟩ | ⟨s', h⟩ | ⟨s', t', h⟩ <;> rw [h] at h2' <;> cases h2'
    exact hle
  have hj : -149 ≤ j := by
    unfold FloatKind.decode at h4
    have h4' : Ieee.single.read b = .number t n j := h4
    rcases r2 with ⟨s', m', e', h, _, hle, _⟩ | ⟨s', h⟩ | ⟨s', t', h⟩ <;> rw [h] at h4' <;> cases h4'
    exact hle
  have ho : FloatKind.f32.format.order a b = some (compare (Ieee.signed s m (i - min i j).toNat) (Ieee.signed t n (j - min i j).toNat)) := by
    unfold Ieee.Format.order
    unfold FloatKind.decode at h2 h4
    rw [h2, h4]; rfl
  rw [ho]
  unfold valF
  rw [h2, h4]
  simp only
  have e1 : (i + 149).toNat = (i - min i j).toNat + (min i j + 149).toNat := by omega
  have e2 : (j + 149).toNat = (j - min i j).toNat + (min i j + 149).toNat := by omega
  rw [e1, e2, signed_shift, signed_shift, compare_scale]

theorem num_zero : isNum 0 = true := by decide +kernel
theorem val_zero : valF 0 = 0 := by decide +kernel
theorem lt0_val {b : Nat} (h : isNum b = true) : lt0 b = decide (valF b < 0) := by
  unfold lt0
  rw [order_val h num_zero, val_zero]
  rw [Int.compare_eq_ite_lt]
  by_cases h1 : valF b < 0
  · rw [if_pos h1, decide_eq_true h1]; rfl
  · rw [if_neg h1, decide_eq_false h1]; split <;> rfl
theorem eq0_val {b : Nat} (h : isNum b = true) : eq0 b = decide (valF b = 0) := by
  unfold eq0
  rw [order_val h num_zero, val_zero]
  rw [Int.compare_eq_ite_lt]
  by_cases h1 : valF b < 0
  · rw [if_pos h1, decide_eq_false (by omega)]; rfl
  · rw [if_neg h1]
    by_cases h2 : 0 < valF b
    · rw [if_pos h2, decide_eq_false (by omega)]; rfl
    · rw [if_neg h2, decide_eq_true (by omega)]; rfl
theorem neg_val {b : Nat} (h : 0 < valF b) : (FloatKind.f32.decode b).neg = false := by
  unfold valF at h
  cases hd : FloatKind.f32.decode b with
  | number s m e =>
    rw [hd] at h
    cases s with
    | false => rfl
    | true =>
      unfold Ieee.signed at h
      simp only [if_true] at h
      have h2 : (0 : Int) ≤ ((m <<< (e + 149).toNat : Nat) : Int) := Int.natCast_nonneg _
      exact absurd h (by omega)
  | infinity s => rw [hd] at h; simp at h
  | nan s t => rw [hd] at h; simp at h

def Lvl (b : Nat) : Prop := isNum b = true ∧ 0 ≤ valF b
theorem okL_lvl {m k b : Nat} (h : okL m k b = true) : Lvl b := by
  simp only [okL, Bool.and_eq_true, Bool.not_eq_true'] at h
  refine ⟨h.1.1, ?_⟩
  have := lt0_val h.1.1
  rw [h.1.2] at this
  have := of_decide_eq_false this.symm
  omega
theorem isPic_at {n : Int} {l : List Nat} {m : Nat} (h : isPic n l = true) (hm : n.toNat * n.toNat = m) (k : Nat) (hk : k < 64) : okL m k (l.getD k 0) = true := by
  unfold isPic at h
  rw [Bool.and_eq_true, List.all_eq_true] at h
  rw [← hm]
  exact h.2 k (by simpa using hk)
theorem isPic_sd {n : Int} {l : List Nat} (h : isPic n l = true) : isSd n = true := by
  unfold isPic at h
  rw [Bool.and_eq_true] at h; exact h.1


/-- 64 levels, of which the first k are told by F -/
def fillV (k : Nat) (F : Nat → FV) : List FV := (List.range k).map F ++ List.replicate (64 - k) (some 0)
theorem fillV_length {k : Nat} (F : Nat → FV) (h : k ≤ 64) : (fillV k F).length = 64 := by simp [fillV]; omega
theorem fillV_zero (F : Nat → FV) : zeros.map (ab .f32) = fillV 0 F := by rw [zeros, List.map_replicate, ab_zero]; rfl
theorem fillV_set {k : Nat} (F : Nat → FV) (h : k < 64) : (fillV k F).set k (F k) = fillV (k + 1) F := by
  have e : 64 - k = (64 - (k + 1)) + 1 := by omega
  rw [fillV, fillV, e, List.replicate_succ, List.set_append, if_neg (by simp), List.range_succ]
  simp
theorem fillV_congr {k : Nat} {G H : Nat → FV} (h : ∀ i, i < k → G i = H i) : fillV k G = fillV k H := by
  rw [fillV, fillV]
  congr 1
  exact List.map_congr_left fun i hi => h i (by simpa using hi)
theorem fillV_get {k : Nat} (F : Nat → FV) {j : Nat} (hj : j < 64) : (fillV k F)[j]? = some (if j < k then F j else some 0) := by
  rw [fillV]
  by_cases h : j < k
  · rw [List.getElem?_append_left (by simpa using h), if_pos h]; simp [h]
  · rw [List.getElem?_append_right (by simpa using h), if_neg h, List.getElem?_replicate, if_pos (by simp; omega)]

set_option maxRecDepth 10000 in
set_option maxHeartbeats 2000000 in
theorem pictureBy_lv (caps : Array Value) (n m : Nat) (hn : 1 ≤ n) (hn2 : n ≤ 8) (hm : n * n = m) (F : Nat → FV) (w : World)
    (hf : ∀ (i : Nat) (y x : Int) (wr : World), i < m → Below w.heap.size w wr → Calls Try.prog 134 (#[.int .i64 y, .int .i64 x, .int .i64 i] ++ caps) wr fun e w' => ∃ b, e = .returned (.float .f32 b) ∧ ab .f32 b = F i ∧ Below wr.heap.size wr w') :
    Calls Try.prog 133 #[.int .i64 n, .func (.func 134) #[] caps] w fun e w' => ∃ l : List Nat, e = .returned (.agg (pic n l)) ∧ l.length = 64 ∧ l.map (ab .f32) = fillV m F ∧ Below w.heap.size w w' := by
  have hz := (zero_of_info Try.infoP).1
  have hm64 : m ≤ 64 := by have := Nat.mul_le_mul hn2 hn2; omega
  have hmul : (n : Int) * n = m := by rw [← hm, Int.natCast_mul]
  have h0 : ¬ (n : Int) = 0 := by omega
  have HF := Lib.hid hf
  have HM := Lib.hid hm
  clear hf hm
  go_enter Try.func133, Try.ntmps133
  have h2 := blk2 w (.cells (pic 0 zeros) 47) (.cells (pic 0 zeros) 47)
  have hs1 : ((w.alloc (.cells (pic 0 zeros) 47)).alloc (.cells (pic 0 zeros) 47)).heap[w.heap.size + 1]? = some (.cells (pic 0 zeros) 47) := h2.2
  have H0 := Lib.hid h2.1
  have H1 := Lib.hid hs1
  clear h2 hs1
  go_wp2_with (first | (refine wpList_build1 rfl (.tmp 7) n rfl rfl ?_) | (refine wpList_store_row rfl 47 (.tmp 5) (.tmp 8) rfl (w.heap.size + 1) (pic n zeros) rfl rfl 47 (pic 0 zeros) H1.out ?c1 ?c2 (pic_one n zeros) ?_; (case c1 => exact Try.sizeP zeros_length); (case c2 => rfl)))
  go_loopw [6, 12] (fun _ i wr => ∃ k : Nat, k ≤ m ∧ i = .int .i64 k ∧ Below w.heap.size w wr ∧ Hid (Blk wr w.heap.size (pic 0 zeros) 47 ∧ ∃ l : List Nat, l.length = 64 ∧ Blk wr (w.heap.size + 1) (pic n l) 47 ∧ l.map (ab .f32) = fillV k F)) (fun _ i _ => m - (intOf i).toNat)
  case atStart =>
    refine ⟨0, Nat.zero_le _, rfl, ?_, Blk.rowOther H0.out (by omega) _, zeros, rfl, Blk.row H1.out _, ?_⟩
    · exact Below.setRow (((Below.refl _ _).alloc (Nat.le_refl _) _).alloc (by simp) _) (by omega) _
    · exact fillV_zero F
  case round =>
    obtain ⟨k, hk, rfl, hbl, hcur⟩ := hrel
    have HB := Lib.hid hbl; clear hbl
    obtain ⟨hz1, l, hl, hc, hml⟩ := hcur.out
    clear hcur hz
    by_cases hlt : k < m
    · have HFK := Lib.hid (fun y x => HF.out k y x wr.drew hlt (below_drewN' HB.out 1))
      have c0 := hc.picCell (by omega : k < l.length)
      have f0 := hc.frozen (1 + k)
      obtain ⟨y, hy⟩ : ∃ y, y = l.getD k 0 := ⟨_, rfl⟩
      rw [← hy] at c0
      have HC := Lib.hid hc
      have HZ := Lib.hid hz1
      have HL := Lib.hid hl
      have HML := Lib.hid hml
      clear hc hz1 hl hy hml
      go_wp2
      go_region_with ((refine (HFK.out _ _).mono ?_; rintro e w' ⟨y2, rfl, hy2, hb⟩; have HY := Lib.hid hy2; have HC2 := Lib.hid ((HC.out.drewN 1).below hb); have HZ2 := Lib.hid ((HZ.out.drewN 1).below hb); have HB2 := Lib.hid (Below.drewTrans HB.out hb HB.out.size); have c1 := HC2.out.picCell (by rw [HL.out]; omega : k < l.length); have f1 := HC2.out.frozen (1 + k); obtain ⟨y3, hy3⟩ : ∃ y3, y3 = l.getD k 0 := ⟨_, rfl⟩; rw [← hy3] at c1; clear hb hy3 hy2))
      all_goals
        go_wp2
        go_roundw
        case rel =>
          refine ⟨k + 1, by omega, by go_num, HB2.out.setCell (by exact (by omega : w.heap.size ≤ w.heap.size + 1)) _, HZ2.out.other (by omega) _ _, l.set k y2, by rw [List.length_set]; exact HL.out, HC2.out.picSet k y2, ?_⟩
          rw [List.map_set, HML.out, HY.out, fillV_set F (by omega : k < 64)]
        case measure => simp [intOf]; omega
    · have ek : k = m := by omega
      subst ek
      have HC := Lib.hid hc
      have HZ := Lib.hid hz1
      have HL := Lib.hid hl
      have HML := Lib.hid hml
      clear hc hz1 hml hl
      go_wp2_with (first | (refine wpList_load_row rfl 47 (.tmp 5) rfl (w.heap.size + 1) rfl 47 (pic n l) (0, 0) _ HC.out Try.underlying47 rfl (Try.sizeP HL.out) ?_) | (refine wpList_store_row rfl 47 (.tmp 4) (.tmp 28) rfl w.heap.size (pic n l) rfl rfl 47 (pic 0 zeros) HZ.out (Try.sizeP HL.out) (by rw [pic_size, pic_size, HL.out]; rfl) (pic_one n _) ?_))
      refine bodyPost_ret (v := .agg (pic n l)) (results_cell_row Try.results133 _ _ w.heap.size 47 (pic n l) (0, 0) _ rfl (HZ.out.row _) Try.underlying47 rfl (Try.sizeP HL.out)) rfl ?_
      exact ⟨l, rfl, HL.out, HML.out, Below.setRow HB.out (Nat.le_refl _) _⟩

set_option maxRecDepth 10000 in
set_option maxHeartbeats 1000000 in
theorem levelsBy_any (X : Nat) (caps : Array Value) (nn m : Nat) (l : List Nat) (hl : l.length = 64) (hn : 1 ≤ nn) (hn2 : nn ≤ 8) (hm : nn * nn = m) (F : Nat → FV) (w : World)
    (hf : ∀ (i : Nat) (y x : Int) (g2 g3 : Nat) (wr : World), i < m → Below w.heap.size w wr → wr.cell? ⟨g3, 0, none⟩ = some (.func (.func X) #[] caps) → Blk wr g2 (pic nn l) 47 → Calls Try.prog 134 (#[.int .i64 y, .int .i64 x, .int .i64 i] ++ #[.pointer (some ⟨g3, 0, none⟩), .pointer (some ⟨g2, 0, none⟩)]) wr fun e w' => ∃ b, e = .returned (.float .f32 b) ∧ ab .f32 b = F i ∧ Below wr.heap.size wr w') :
    Calls Try.prog 112 #[.agg (pic nn l), .func (.func X) #[] caps] w fun e w' => ∃ l' : List Nat, e = .returned (.agg (pic nn l')) ∧ l'.length = 64 ∧ l'.map (ab .f32) = fillV m F ∧ Below w.heap.size w w' := by
  have hz := (zero_of_info Try.infoP).1
  obtain ⟨W0, hW⟩ : ∃ W0, W0 = ((w.alloc (.cells (pic nn l) 47)).alloc (.cells #[.func (.func X) #[] caps] 75)).alloc (.cells (pic 0 zeros) 47) := ⟨_, rfl⟩
  have hb0 : Below w.heap.size w W0 := by rw [hW]; exact (((Below.refl _ _).alloc (Nat.le_refl _) _).alloc (by simp) _).alloc (by simp; omega) _
  have h3 := blk3 w (.cells (pic nn l) 47) (.cells #[.func (.func X) #[] caps] 75) (.cells (pic 0 zeros) 47)
  rw [← hW] at h3
  have b0 : Blk W0 w.heap.size (pic nn l) 47 := h3.1
  have b1 : Blk W0 (w.heap.size + 1) #[.func (.func X) #[] caps] 75 := h3.2.1
  have b2 : Blk W0 (w.heap.size + 1 + 1) (pic 0 zeros) 47 := h3.2.2
  have cs := b0.picSide
  have cf : W0.cell? ⟨w.heap.size + 1, 0, none⟩ = some (.func (.func X) #[] caps) := by rw [b1.cell]; rfl
  have B0 := Lib.hid b0
  have B2 := Lib.hid b2
  have CF := Lib.hid cf
  have BW := Lib.hid hb0
  have HF := Lib.hid hf
  have HM := Lib.hid hm
  clear hb0 h3 b0 b1 b2 cf hf hm
  go_enter Try.func112, Try.ntmps112
  go_upto_region 1 with (fail)
  rw [← hW]
  clear hW
  go_wp2_with fail
  refine (pictureBy_lv #[.pointer (some ⟨w.heap.size + 1, 0, none⟩), .pointer (some ⟨w.heap.size, 0, none⟩)] nn m hn hn2 HM.out F W0 ?hf).mono ?_
  case hf =>
    intro i y x wr hi hb
    exact HF.out i y x w.heap.size (w.heap.size + 1) wr hi (BW.out.trans (hb.mono BW.out.size)) (by rw [hb.cell (by exact block_lt_of_cell CF.out)]; exact CF.out) (B0.out.below hb)
  rintro e w2 ⟨l', rfl, hl', hml, hb2⟩
  have B3 := Lib.hid (B2.out.below hb2)
  have BW2 := Lib.hid (BW.out.trans (hb2.mono BW.out.size))
  have HL := Lib.hid hl'
  have HML := Lib.hid hml
  clear hb2 hl' hml
  go_wp2_with (refine wpList_store_row rfl 47 (.tmp 4) (.tmp 8) rfl (w.heap.size + 1 + 1) (pic nn l') rfl rfl 47 (pic 0 zeros) B3.out ?c1 ?c2 (pic_one nn l') ?_; (case c1 => exact Try.sizeP HL.out); (case c2 => (rw [pic_size, pic_size, HL.out]; rfl)))
  refine bodyPost_ret (v := .agg (pic nn l')) (results_cell_row Try.results112 _ _ (w.heap.size + 1 + 1) 47 (pic nn l') (0, 0) _ rfl (B3.out.row _) Try.underlying47 rfl (Try.sizeP HL.out)) rfl ?_
  exact ⟨l', rfl, HL.out, HML.out, Below.setRow BW2.out (by omega) _⟩

end Go.Proofs.Ytficghohflmdeaa
