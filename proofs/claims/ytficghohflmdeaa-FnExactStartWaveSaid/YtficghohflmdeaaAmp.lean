/- AmplitudesOf: the walks. -/
import Derived.Test.YtficghohflmdeaaRt6
import Derived.Test.YtficghohflmdeaaQi5
namespace Go.Proofs.Ytficghohflmdeaa
open Go.RowKit
set_option linter.unusedVariables false

theorem num_read {b : Nat} (h : isNum b = true) : ∃ s m e, Ieee.single.read b = .number s m e ∧ m < 2 ^ 24 ∧ -149 ≤ e ∧ e ≤ 104 ∧ valF b = Ieee.signed s m (e + 149).toNat := by
  obtain ⟨b', s, m, e, h1, h2⟩ := fin_num.1 h
  obtain ⟨rfl, _⟩ := ab_eq_some h1
  have h2' : Ieee.single.read b = .number s m e := h2
  rcases single_read b with ⟨s', m', e', h, a1, a2, a3⟩ | ⟨s', h⟩ | ⟨s', t', h⟩ <;> rw [h] at h2' <;> cases h2'
  exact ⟨_, _, _, h, a1, a2, a3, by unfold valF; rw [h2]⟩
theorem signed_nonneg {s : Bool} {m k : Nat} (h : 0 ≤ Ieee.signed s m k) : s = false ∨ m = 0 := by
  cases s with
  | false => exact .inl rfl
  | true =>
    right
    unfold Ieee.signed at h
    simp only [if_true] at h
    have h2 : m <<< k = 0 := by
      have : (0 : Int) ≤ ((m <<< k : Nat) : Int) := Int.natCast_nonneg _
      have h3 : ((m <<< k : Nat) : Int) ≤ 0 := Int.neg_nonneg.1 h
      exact_mod_cast Int.le_antisymm h3 this
    rw [Nat.shiftLeft_eq] at h2
    rcases Nat.mul_eq_zero.1 h2 with h | h
    · exact h
    · exact absurd h (Nat.ne_of_gt (Nat.two_pow_pos k))
theorem down_num {s r : Nat} (h : down s = some r) : (FloatKind.f32.decode r).isNaN = false := by
  unfold down floatToFloatBits at h
  rw [if_neg (by decide)] at h
  cases hd : FloatKind.f64.decode s with
  | nan a b => rw [hd] at h; cases h
  | infinity a =>
    rw [hd] at h
    simp only [Option.some.injEq] at h
    rw [← h]
    exact write_notNaN Ieee.single _ rfl
  | number a b c =>
    rw [hd] at h
    simp only at h
    split at h
    · cases h
    · simp only [Option.some.injEq] at h
      rw [← h]
      exact write_notNaN Ieee.single _ rfl
theorem rootV_ab {x r : Nat} (h : rootV x = some r) : ab .f32 r = some r := by
  obtain ⟨a, s, _, _, h3⟩ := rootV_parts h
  exact ab_some (down_num h3)

/-- the roots of a number of at least 0, of both sides -/
theorem roots {x : Nat} (hx : Lvl x) : ∃ R S, rootV x = some R ∧ ab .f32 R = some R ∧ ab .f32 S = some S ∧ pn R = pn S ∧ ∀ w, Calls Try.prog 131 #[.float .f32 x] w fun e w' => e = .returned (.float .f32 S) ∧ w = w' := by
  obtain ⟨s, m, e, hr, hm, he1, he2, hv⟩ := num_read hx.1
  by_cases h0 : m = 0
  · subst h0
    have hup : up x = some (Ieee.double.word s 0) := by
      unfold up floatToFloatBits
      rw [if_neg (by decide)]
      have hd : FloatKind.f32.decode x = .number s 0 e := hr
      rw [hd]
      simp only
      have he : FloatKind.f64.encode (.number s 0 e) = Ieee.double.word s 0 := by
        show Ieee.double.nearest s 0 e = _
        unfold Ieee.Format.nearest; simp
      rw [he, if_neg (by cases s <;> decide +kernel)]
    have hsq : sqrtD (Ieee.double.word s 0) = some (Ieee.double.word s 0) := by cases s <;> decide +kernel
    have hdn : down (Ieee.double.word s 0) = some (Ieee.single.word s 0) := by cases s <;> decide +kernel
    have hR := rootV_of hup hsq hdn
    refine ⟨Ieee.single.word s 0, 0, hR, rootV_ab hR, by decide +kernel, by cases s <;> decide +kernel, fun w => ?_⟩
    have hxz : (FloatKind.f32.format.order x 0 == some .eq) = true := by
      have ho := order_val hx.1 num_zero
      have hv0 : valF x = 0 := by rw [hv]; unfold Ieee.signed; split <;> simp
      rw [ho, hv0, val_zero]; rfl
    clear hup hsq hdn hR hr hv hx
    go_enter Try.func131, Try.ntmps131
    go_wp2
    go_ret
    exact ⟨rfl, rfl⟩
  · obtain rfl : s = false := by
      rcases signed_nonneg (by rw [← hv]; exact hx.2) with h | h
      · exact h
      · exact absurd h h0
    obtain ⟨R, hR, hw⟩ := l01Root_num hr (by omega) hm he1 he2
    exact ⟨R, R, hR, rootV_ab hR, rootV_ab hR, rfl, hw⟩

def rtI (x : Nat) : Nat := (rootV x).getD 0
/-- the answer of AmplitudesOf ahead of plain: levels that plain makes alike -/
def ampF (l : List Nat) (i : Nat) : FV := some (rtI (l.getD i 0))

set_option maxRecDepth 10000 in
set_option maxHeartbeats 1000000 in
theorem ampLv_any (nn : Nat) (l : List Nat) (hl : l.length = 64) (g2 g3 k : Nat) (y x : Int) (w : World) (hk : k < 64) (hlv : Lvl (l.getD k 0))
    (h3 : w.cell? ⟨g3, 0, none⟩ = some (.func (.func 113) #[] #[])) (h2 : Blk w g2 (pic nn l) 47) :
    Calls Try.prog 134 #[.int .i64 y, .int .i64 x, .int .i64 k, .pointer (some ⟨g3, 0, none⟩), .pointer (some ⟨g2, 0, none⟩)] w fun e w' => ∃ b, e = .returned (.float .f32 b) ∧ ab .f32 b = ampF l k ∧ Below w.heap.size w w' := by
  have c0 := h2.picCell (by omega : k < l.length)
  obtain ⟨R, S, hR, hab, _, _, _⟩ := roots hlv
  have HA : Hid (ab .f32 R = ampF l k) := by show _ = _; unfold ampF rtI; rw [hR, hab]; rfl
  obtain ⟨z, hz⟩ : ∃ z, z = l.getD k 0 := ⟨_, rfl⟩
  rw [← hz] at c0 hR
  have HC := Lib.hid (root_any z R hR w.drew)
  clear hz h2 hR hab hlv
  go_enter Try.func134, Try.ntmps134
  go_wp2
  go_region_with ((go_at_call 113; refine HC.out.mono ?_; rintro e w' ⟨rfl, rfl⟩))
  all_goals
    go_wp2
    go_ret
    exact ⟨_, rfl, HA.out, below_drewN' (Below.refl _ _) 1⟩

def ampI (n : Int) (l : List Nat) (m : Nat) : Int × Int × List FV := if isPic n l then (0, n, fillV m (ampF l)) else (1, 0, zeros.map (ab .f32))


set_option maxRecDepth 10000 in
set_option maxHeartbeats 2000000 in
theorem signedAmp_any (n : Int) (l : List Nat) (hl : l.length = 64) (m : Nat) (hm : n.toNat * n.toNat = m) (w : World) :
    Calls Try.prog 64 #[.agg (pic n l)] w (PicPost (ampI n l m) w) := by
  have hz := (zero_of_info Try.infoP).1
  obtain ⟨W0, hW⟩ : ∃ W0, W0 = (w.alloc (.cells (pic n l) 47)).alloc (.cells (pic 0 zeros) 47) := ⟨_, rfl⟩
  have hb0 : Below w.heap.size w W0 := by rw [hW]; exact ((Below.refl _ _).alloc (Nat.le_refl _) _).alloc (by simp) _
  have h3 := blk2 w (.cells (pic n l) 47) (.cells (pic 0 zeros) 47)
  rw [← hW] at h3
  have b0 : Blk W0 w.heap.size (pic n l) 47 := h3.1
  have b1 : Blk W0 (w.heap.size + 1) (pic 0 zeros) 47 := h3.2
  have B0 := Lib.hid b0
  have B1 := Lib.hid b1
  have BW := Lib.hid hb0
  have HM := Lib.hid hm
  clear hb0 h3 b0 b1 hm
  cases hp : isPic n l with
  | false =>
    have R : Hid (ampI n l m = (1, 0, zeros.map (ab .f32))) := by show _ = _; unfold ampI; rw [hp]; rfl
    go_enter Try.func64, Try.ntmps64
    go_upto_region 1 with (fail)
    rw [← hW]
    clear hW
    go_wp2_with (refine wpList_load_row rfl 47 (.tmp 1) rfl w.heap.size rfl 47 (pic n l) (0, 0) _ B0.out Try.underlying47 rfl (Try.sizeP hl) ?_)
    refine (IsPicture_any n l hl _).mono ?_
    rintro e w1 ⟨rfl, hb1⟩
    rw [hp]
    have B11 := Lib.hid (B1.out.below hb1)
    have BW1 := Lib.hid (BW.out.trans (hb1.mono BW.out.size))
    clear hb1
    go_wp2_with (first | (refine wpList_build0 rfl rfl ?_) | (refine wpList_store_row rfl 47 (.tmp 2) (.tmp 7) rfl (w.heap.size + 1) (pic 0 zeros) rfl rfl 47 (pic 0 zeros) B11.out ?c1 ?c2 (pic_one 0 zeros) ?_; (case c1 => exact Try.sizeP zeros_length); (case c2 => rfl)))
    refine bodyPost_ret (v := .tuple #[.agg (pic 0 zeros), .int .i64 1]) (results_cell_row2 Try.results64 _ _ (w.heap.size + 1) 47 (pic 0 zeros) (0, 0) _ _ rfl rfl (B11.out.row _) Try.underlying47 rfl (Try.sizeP zeros_length)) rfl ?_
    exact PicPost.err R.out (Below.setRow BW1.out (by omega) _)
  | true =>
    have R : Hid (ampI n l m = (0, n, fillV m (ampF l))) := by show _ = _; unfold ampI; rw [hp]; rfl
    obtain ⟨nn, m', rfl, hn1, hn2, hmul, hm64, hm'⟩ := side_nat (isPic_sd hp)
    obtain rfl : m' = m := by rw [← HM.out, hm']
    rw [Int.toNat_natCast] at hm'
    have HLV : Hid (∀ j, j < m' → Lvl (l.getD j 0)) := fun j hj => okL_lvl (isPic_at hp HM.out j (by omega))
    have HMM := Lib.hid hm'
    clear hm'
    go_enter Try.func64, Try.ntmps64
    go_upto_region 1 with (fail)
    rw [← hW]
    clear hW
    go_wp2_with (refine wpList_load_row rfl 47 (.tmp 1) rfl w.heap.size rfl 47 (pic nn l) (0, 0) _ B0.out Try.underlying47 rfl (Try.sizeP hl) ?_)
    refine (IsPicture_any nn l hl _).mono ?_
    rintro e w1 ⟨rfl, hb1⟩
    rw [hp]
    have B01 := Lib.hid (B0.out.below hb1)
    have B11 := Lib.hid (B1.out.below hb1)
    have BW1 := Lib.hid (BW.out.trans (hb1.mono BW.out.size))
    clear hb1 hp
    go_wp2_with (refine wpList_load_row rfl 47 (.tmp 1) rfl w.heap.size rfl 47 (pic nn l) (0, 0) _ B01.out Try.underlying47 rfl (Try.sizeP hl) ?_)
    refine (levelsBy_any 113 #[] nn m' l hl hn1 hn2 HMM.out (ampF l) w1 ?hf).mono ?_
    case hf =>
      intro i y x g2 g3 wr hi hb h3 h2
      exact ampLv_any nn l hl g2 g3 i y x wr (by omega) (HLV.out i hi) h3 h2
    rintro e w4 ⟨l', rfl, hl', hml, hb4⟩
    have B14 := Lib.hid (B11.out.below hb4)
    have BW4 := Lib.hid (BW1.out.trans (hb4.mono BW1.out.size))
    have HL := Lib.hid hl'
    have HML := Lib.hid hml
    clear hb4 hl' hml
    go_wp2_with (refine wpList_store_row rfl 47 (.tmp 2) (.tmp 9) rfl (w.heap.size + 1) (pic nn l') rfl rfl 47 (pic 0 zeros) B14.out ?c1 ?c2 (pic_one nn l') ?_; (case c1 => exact Try.sizeP HL.out); (case c2 => (rw [pic_size, pic_size, HL.out]; rfl)))
    refine bodyPost_ret (v := .tuple #[.agg (pic nn l'), .int .i64 0]) (results_cell_row2 Try.results64 _ _ (w.heap.size + 1) 47 (pic nn l') (0, 0) _ _ rfl rfl (B14.out.row _) Try.underlying47 rfl (Try.sizeP HL.out)) rfl ?_
    exact ⟨l', by rw [R.out], HL.out, by rw [R.out]; exact HML.out, Below.setRow BW4.out (by omega) _⟩

/-- levels that plain makes the reference's roots -/
def ampOk (l l' : List Nat) (k : Nat) : Prop := (∀ j, j < k → ∃ S, l'.getD j 0 = S ∧ ab .f32 S = some S ∧ pn (rtI (l.getD j 0)) = pn S) ∧ ∀ j, k ≤ j → l'.getD j 0 = 0
theorem ampOk.set {l l' : List Nat} {k S : Nat} (h : ampOk l l' k) (hl : l'.length = 64) (hk : k < 64) (hS : ab .f32 S = some S) (hp : pn (rtI (l.getD k 0)) = pn S) : ampOk l (l'.set k S) (k + 1) := by
  refine ⟨fun j hj => ?_, fun j hj => ?_⟩
  · by_cases e : j = k
    · subst e
      exact ⟨S, by rw [List.getD_eq_getElem?_getD, List.getElem?_set, if_pos rfl, if_pos (by omega), Option.getD_some], hS, hp⟩
    · obtain ⟨T, h1, h2, h3⟩ := h.1 j (by omega)
      exact ⟨T, by rw [List.getD_eq_getElem?_getD, List.getElem?_set, if_neg (by omega), ← List.getD_eq_getElem?_getD]; exact h1, h2, h3⟩
  · have := h.2 j (by omega)
    rw [List.getD_eq_getElem?_getD, List.getElem?_set, if_neg (by omega), ← List.getD_eq_getElem?_getD]; exact this

set_option maxRecDepth 10000 in
set_option maxHeartbeats 2000000 in
theorem l06Amp_any (nn m : Nat) (l : List Nat) (hl : l.length = 64) (hn1 : 1 ≤ nn) (hn2 : nn ≤ 8) (hmul : (nn : Int) * nn = m) (hm64 : m ≤ 64) (hlv : ∀ j, j < m → Lvl (l.getD j 0)) (w : World) :
    Calls Try.prog 110 #[.agg (pic nn l)] w fun e w' => ∃ l' : List Nat, e = .returned (.agg (pic nn l')) ∧ l'.length = 64 ∧ ampOk l l' m ∧ Below w.heap.size w w' := by
  have hz := (zero_of_info Try.infoP).1
  obtain ⟨W0, hW⟩ : ∃ W0, W0 = (w.alloc (.cells (pic nn l) 47)).alloc (.cells (pic 0 zeros) 47) := ⟨_, rfl⟩
  have hb0 : Below w.heap.size w W0 := by rw [hW]; exact ((Below.refl _ _).alloc (Nat.le_refl _) _).alloc (by simp) _
  have hs0 : W0.heap.size = w.heap.size + 1 + 1 := by rw [hW]; simp
  have h3 := blk2 w (.cells (pic nn l) 47) (.cells (pic 0 zeros) 47)
  rw [← hW] at h3
  have b0 : Blk W0 w.heap.size (pic nn l) 47 := h3.1
  have b1 : Blk W0 (w.heap.size + 1) (pic 0 zeros) 47 := h3.2
  have cs0 := b0.picSide
  have HLV := Lib.hid hlv
  have HN := Lib.hid (Blk.new W0 (pic 0 zeros) 47)
  have B0 := Lib.hid ((b0.alloc (.cells (pic 0 zeros) 47)).rowOther (by omega : w.heap.size ≠ W0.heap.size) (pic nn zeros))
  have B1 := Lib.hid ((b1.alloc (.cells (pic 0 zeros) 47)).rowOther (by omega : w.heap.size + 1 ≠ W0.heap.size) (pic nn zeros))
  have B2 := Lib.hid (HN.out.row (pic nn zeros))
  have BW := Lib.hid (Below.setRow (hb0.alloc hb0.size (.cells (pic 0 zeros) 47)) (by omega : w.heap.size ≤ W0.heap.size) (pic nn zeros))
  have S0 := Lib.hid hs0
  clear hb0 h3 b0 b1 hlv hs0
  go_enter Try.func110, Try.ntmps110
  go_upto_region 1 with (fail)
  rw [← hW]
  clear hW
  go_wp2_with (first | (refine wpList_build1 rfl (.tmp 6) nn rfl rfl ?_) | (refine wpList_store_row rfl 47 (.tmp 3) (.tmp 7) rfl W0.heap.size (pic nn zeros) rfl rfl 47 (pic 0 zeros) HN.out ?c1 ?c2 (pic_one nn zeros) ?_; (case c1 => exact Try.sizeP zeros_length); (case c2 => rfl)))
  go_loopw [4] (fun i wr => ∃ k : Nat, k ≤ m ∧ i = .int .i64 k ∧ Below w.heap.size w wr ∧ Hid (Blk wr w.heap.size (pic nn l) 47 ∧ Blk wr (w.heap.size + 1) (pic 0 zeros) 47 ∧ ∃ l' : List Nat, l'.length = 64 ∧ Blk wr W0.heap.size (pic nn l') 47 ∧ ampOk l l' k)) (fun i _ => m - (intOf i).toNat)
  case atStart => exact ⟨0, Nat.zero_le _, rfl, BW.out, B0.out, B1.out, zeros, rfl, B2.out, fun j h => by omega, fun j _ => zeros_get j⟩
  case round =>
    clear B0 B1 B2 BW HN cs0
    obtain ⟨k, hk, rfl, hbl, hcur⟩ := hrel
    have HB := Lib.hid hbl; clear hbl
    obtain ⟨hb0, hb1, l', hl', hc, hok⟩ := hcur.out
    clear hcur hz
    have cs := hb0.picSide
    by_cases hlt : k < m
    · have c0 := hb0.picCell (by omega : k < l.length)
      have c1 := hc.picCell (by omega : k < l'.length)
      have f1 := hc.frozen (1 + k)
      obtain ⟨R, S, hR, _, hS, hpn, hcall⟩ := roots (HLV.out k hlt)
      have HPN : Hid (pn (rtI (l.getD k 0)) = pn S) := by show _ = _; unfold rtI; rw [hR]; exact hpn
      obtain ⟨z, hz⟩ : ∃ z, z = l.getD k 0 := ⟨_, rfl⟩
      rw [← hz] at c0 hcall
      obtain ⟨y, hy⟩ : ∃ y, y = l'.getD k 0 := ⟨_, rfl⟩
      rw [← hy] at c1
      have HCALL := Lib.hid hcall
      have HS := Lib.hid hS
      have H0 := Lib.hid hb0
      have H1 := Lib.hid hb1
      have HC := Lib.hid hc
      have HL := Lib.hid hl'
      have HOK := Lib.hid hok
      clear hz hy hcall hS hR hpn hb0 hb1 hc hl' hok
      go_wp2_with (go_at_call 131; refine (HCALL.out _).mono ?_; rintro e w' ⟨rfl, rfl⟩)
      go_roundw
      case rel =>
        have hs := S0.out
        refine ⟨k + 1, by omega, by go_num, HB.out.setCell (by exact (by omega : w.heap.size ≤ W0.heap.size)) _, H0.out.other (by omega) _ _, H1.out.other (by omega) _ _, l'.set k S, by rw [List.length_set]; exact HL.out, HC.out.picSet k S, HOK.out.set HL.out (by omega) HS.out HPN.out⟩
      case measure => simp [intOf]; omega
    · have ek : k = m := by omega
      subst ek
      have H1 := Lib.hid hb1
      have HC := Lib.hid hc
      have HL := Lib.hid hl'
      have HOK := Lib.hid hok
      clear hb0 hb1 hc hl' hok
      go_wp2_with (first | (refine wpList_load_row rfl 47 (.tmp 3) rfl W0.heap.size rfl 47 (pic nn l') (0, 0) _ HC.out Try.underlying47 rfl (Try.sizeP HL.out) ?_) | (refine wpList_store_row rfl 47 (.tmp 2) (.tmp 25) rfl (w.heap.size + 1) (pic nn l') rfl rfl 47 (pic 0 zeros) H1.out (Try.sizeP HL.out) (by rw [pic_size, pic_size, HL.out]; rfl) (pic_one nn _) ?_))
      refine bodyPost_ret (v := .agg (pic nn l')) (results_cell_row Try.results110 _ _ (w.heap.size + 1) 47 (pic nn l') (0, 0) _ rfl (H1.out.row _) Try.underlying47 rfl (Try.sizeP HL.out)) rfl ?_
      exact ⟨l', rfl, HL.out, HOK.out, Below.setRow HB.out (by omega) _⟩

/-- the reference's answer -/
def AmpS (n : Int) (l : List Nat) (m : Nat) (w : World) (e : Ending) (w' : World) : Prop :=
  ∃ (l' : List Nat) (k n' : Int), e = .returned (.tuple #[.agg (pic n' l'), .int .i64 k]) ∧ l'.length = 64 ∧ (if isPic n l then k = 0 ∧ n' = n ∧ ampOk l l' m else k = 1 ∧ n' = 0 ∧ l' = zeros) ∧ Below w.heap.size w w'


set_option maxRecDepth 10000 in
set_option maxHeartbeats 2000000 in
theorem rawAmp_any (n : Int) (l : List Nat) (hl : l.length = 64) (m : Nat) (hm : n.toNat * n.toNat = m) (w : World) :
    Calls Try.prog 61 #[.agg (pic n l)] w (AmpS n l m w) := by
  have hz := (zero_of_info Try.infoP).1
  obtain ⟨W0, hW⟩ : ∃ W0, W0 = (w.alloc (.cells (pic n l) 47)).alloc (.cells (pic 0 zeros) 47) := ⟨_, rfl⟩
  have hb0 : Below w.heap.size w W0 := by rw [hW]; exact ((Below.refl _ _).alloc (Nat.le_refl _) _).alloc (by simp) _
  have h3 := blk2 w (.cells (pic n l) 47) (.cells (pic 0 zeros) 47)
  rw [← hW] at h3
  have b0 : Blk W0 w.heap.size (pic n l) 47 := h3.1
  have b1 : Blk W0 (w.heap.size + 1) (pic 0 zeros) 47 := h3.2
  have B0 := Lib.hid b0
  have B1 := Lib.hid b1
  have BW := Lib.hid hb0
  have HM := Lib.hid hm
  clear hb0 h3 b0 b1 hm
  cases hp : isPic n l with
  | false =>
    go_enter Try.func61, Try.ntmps61
    go_upto_region 1 with (fail)
    rw [← hW]
    clear hW
    go_wp2_with (refine wpList_load_row rfl 47 (.tmp 1) rfl w.heap.size rfl 47 (pic n l) (0, 0) _ B0.out Try.underlying47 rfl (Try.sizeP hl) ?_)
    refine (l01Shown_any n l hl _).mono ?_
    rintro e w1 ⟨rfl, hb1⟩
    rw [hp]
    have B11 := Lib.hid (B1.out.below hb1)
    have BW1 := Lib.hid (BW.out.trans (hb1.mono BW.out.size))
    clear hb1
    go_wp2_with (first | (refine wpList_build0 rfl rfl ?_) | (refine wpList_store_row rfl 47 (.tmp 2) (.tmp 7) rfl (w.heap.size + 1) (pic 0 zeros) rfl rfl 47 (pic 0 zeros) B11.out ?c1 ?c2 (pic_one 0 zeros) ?_; (case c1 => exact Try.sizeP zeros_length); (case c2 => rfl)))
    refine bodyPost_ret (v := .tuple #[.agg (pic 0 zeros), .int .i64 1]) (results_cell_row2 Try.results61 _ _ (w.heap.size + 1) 47 (pic 0 zeros) (0, 0) _ _ rfl rfl (B11.out.row _) Try.underlying47 rfl (Try.sizeP zeros_length)) rfl ?_
    exact ⟨zeros, 1, 0, rfl, rfl, by rw [hp]; exact ⟨rfl, rfl, rfl⟩, Below.setRow BW1.out (by omega) _⟩
  | true =>
    obtain ⟨nn, m', rfl, hn1, hn2, hmul, hm64, hm'⟩ := side_nat (isPic_sd hp)
    obtain rfl : m' = m := by rw [← HM.out, hm']
    have HLV : Hid (∀ j, j < m' → Lvl (l.getD j 0)) := fun j hj => okL_lvl (isPic_at hp HM.out j (by omega))
    clear hm'
    go_enter Try.func61, Try.ntmps61
    go_upto_region 1 with (fail)
    rw [← hW]
    clear hW
    go_wp2_with (refine wpList_load_row rfl 47 (.tmp 1) rfl w.heap.size rfl 47 (pic nn l) (0, 0) _ B0.out Try.underlying47 rfl (Try.sizeP hl) ?_)
    refine (l01Shown_any nn l hl _).mono ?_
    rintro e w1 ⟨rfl, hb1⟩
    rw [hp]
    have B01 := Lib.hid (B0.out.below hb1)
    have B11 := Lib.hid (B1.out.below hb1)
    have BW1 := Lib.hid (BW.out.trans (hb1.mono BW.out.size))
    have HP := Lib.hid hp
    clear hb1 hp
    go_wp2_with (refine wpList_load_row rfl 47 (.tmp 1) rfl w.heap.size rfl 47 (pic nn l) (0, 0) _ B01.out Try.underlying47 rfl (Try.sizeP hl) ?_)
    refine (l06Amp_any nn m' l hl hn1 hn2 hmul hm64 HLV.out w1).mono ?_
    rintro e w4 ⟨l', rfl, hl', hok, hb4⟩
    have B14 := Lib.hid (B11.out.below hb4)
    have BW4 := Lib.hid (BW1.out.trans (hb4.mono BW1.out.size))
    have HL := Lib.hid hl'
    have HOK := Lib.hid hok
    clear hb4 hl' hok
    go_wp2_with (refine wpList_store_row rfl 47 (.tmp 2) (.tmp 9) rfl (w.heap.size + 1) (pic nn l') rfl rfl 47 (pic 0 zeros) B14.out ?c1 ?c2 (pic_one nn l') ?_; (case c1 => exact Try.sizeP HL.out); (case c2 => (rw [pic_size, pic_size, HL.out]; rfl)))
    refine bodyPost_ret (v := .tuple #[.agg (pic nn l'), .int .i64 0]) (results_cell_row2 Try.results61 _ _ (w.heap.size + 1) 47 (pic nn l') (0, 0) _ _ rfl rfl (B14.out.row _) Try.underlying47 rfl (Try.sizeP HL.out)) rfl ?_
    exact ⟨l', 0, nn, rfl, HL.out, by rw [HP.out]; exact ⟨rfl, rfl, HOK.out⟩, Below.setRow BW4.out (by omega) _⟩
end Go.Proofs.Ytficghohflmdeaa
