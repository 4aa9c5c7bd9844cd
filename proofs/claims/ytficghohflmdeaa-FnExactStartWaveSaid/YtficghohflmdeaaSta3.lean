/- StartWave: the program's side. -/
import Derived.Test.YtficghohflmdeaaSta4
namespace Go.Proofs.Ytficghohflmdeaa
open Go.RowKit
set_option linter.unusedVariables false
set_option maxRecDepth 10000 in
set_option maxHeartbeats 2000000 in
theorem waveBy_sta (caps : Array Value) (n : Nat) (hn : 1 ≤ n) (hn2 : n ≤ 8) (G : Nat → Nat × Nat) (w : World)
    (hf : ∀ (i : Nat) (wr : World), i < n * n → Below w.heap.size w wr → Calls Try.prog 139 (#[.int .i64 ((i : Int) / n), .int .i64 ((i : Int) % n), .int .i64 i] ++ caps) wr fun e w' => e = .returned (.complex .f32 (G i).1 (G i).2) ∧ Below wr.heap.size wr w') :
    Calls Try.prog 93 #[.int .i64 n, .func (.func 139) #[] caps] w fun e w' => e = .returned (.agg (wav n (fillL (n * n) G))) ∧ Below w.heap.size w w' := by
  have hz := (zero_of_info Try.infoW).1
  have hnn : n * n ≤ 64 := by have := Nat.mul_le_mul hn2 hn2; omega
  obtain ⟨m, hm⟩ : ∃ m, m = n * n := ⟨_, rfl⟩
  have hmul : (n : Int) * n = m := by rw [hm, Int.natCast_mul]
  have h0 : ¬ (n : Int) = 0 := by omega
  have hm64 : m ≤ 64 := by omega
  rw [← hm] at hf ⊢
  have HF := Lib.hid hf
  have HM := Lib.hid hm
  clear hf hm hnn
  go_enter Try.func93, Try.ntmps93
  have h2 := blk2 w (.cells (wav 0 zerosC) 29) (.cells (wav 0 zerosC) 29)
  have hs1 : ((w.alloc (.cells (wav 0 zerosC) 29)).alloc (.cells (wav 0 zerosC) 29)).heap[w.heap.size + 1]? = some (.cells (wav 0 zerosC) 29) := h2.2
  have H0 := Lib.hid h2.1
  have H1 := Lib.hid hs1
  clear h2 hs1
  go_wp2_with (first | (refine wpList_wbuild1 rfl (.tmp 7) n rfl rfl ?_) | (refine wpList_store_row rfl 29 (.tmp 5) (.tmp 8) rfl (w.heap.size + 1) (wav n zerosC) rfl rfl 29 (wav 0 zerosC) H1.out ?c1 ?c2 (wav_one n zerosC) ?_; (case c1 => exact Try.sizeW zerosC_length); (case c2 => rfl)))
  go_loopw [6, 12] (fun _ i wr => ∃ k : Nat, k ≤ m ∧ i = .int .i64 k ∧ Below w.heap.size w wr ∧ Hid (Blk wr w.heap.size (wav 0 zerosC) 29 ∧ Blk wr (w.heap.size + 1) (wav n (fillL k G)) 29)) (fun _ i _ => m - (intOf i).toNat)
  case atStart =>
    refine ⟨0, Nat.zero_le _, rfl, ?_, Blk.rowOther H0.out (by omega) _, Blk.row H1.out _⟩
    · exact Below.setRow (((Below.refl _ _).alloc (Nat.le_refl _) _).alloc (by simp) _) (by omega) _
  case round =>
    obtain ⟨k, hk, rfl, hbl, hcur⟩ := hrel
    have HB := Lib.hid hbl; clear hbl
    obtain ⟨hz1, hc⟩ := hcur.out
    clear hcur hz
    have hl := fillL_length G (by omega : k ≤ 64)
    by_cases hlt : k < m
    · have hcf := HF.out k wr.drew hlt (below_drewN' HB.out 1)
      obtain ⟨p, hp⟩ : ∃ p, p = G k := ⟨_, rfl⟩
      rw [← hp] at hcf
      have HCF := Lib.hid hcf
      have HP := Lib.hid hp
      have HC := Lib.hid hc
      have HZ := Lib.hid hz1
      have HL := Lib.hid hl
      clear hc hz1 hl hcf hp
      have hwr : IntKind.i64.wrap ((k : Int) / n) = (k : Int) / n := by
        have h1 := Int.ediv_nonneg (by omega : (0 : Int) ≤ k) (by omega : (0 : Int) ≤ n)
        have h2 := Int.ediv_le_self (b := (n : Int)) (by omega : (0 : Int) ≤ k)
        exact IntWalk.i64_in _ (by omega)
      have c0 := HC.out.wavCell (by rw [HL.out]; omega : k < (fillL k G).length)
      have f0 := HC.out.frozen (1 + k)
      obtain ⟨y, hy⟩ : ∃ y, y = (fillL k G).getD k (0, 0) := ⟨_, rfl⟩
      rw [← hy] at c0
      clear hy
      go_wp2
      go_region_with (((try rw [hwr]); refine HCF.out.mono ?_; rintro e w' ⟨rfl, hb⟩; have HC2 := Lib.hid ((HC.out.drewN 1).below hb); have HZ2 := Lib.hid ((HZ.out.drewN 1).below hb); have HB2 := Lib.hid (Below.drewTrans HB.out hb HB.out.size); have c1 := HC2.out.wavCell (by rw [HL.out]; omega : k < (fillL k G).length); have f1 := HC2.out.frozen (1 + k); obtain ⟨y2, hy2⟩ : ∃ y2, y2 = (fillL k G).getD k (0, 0) := ⟨_, rfl⟩; rw [← hy2] at c1; clear hb hy2))
      all_goals
        go_wp2
        go_roundw
        case rel =>
          refine ⟨k + 1, by omega, by go_num, HB2.out.setCell (by exact (by omega : w.heap.size ≤ w.heap.size + 1)) _, HZ2.out.other (by omega) _ _, ?_⟩
          rw [← fillL_set G (by omega : k < 64), ← HP.out]
          exact HC2.out.wavSet k p.1 p.2
        case measure => simp [intOf]; omega
    · have ek : k = m := by omega
      subst ek
      have HC := Lib.hid hc
      have HZ := Lib.hid hz1
      have HL := Lib.hid hl
      clear hc hz1 hl
      go_wp2_with (first | (refine wpList_load_row rfl 29 (.tmp 5) rfl (w.heap.size + 1) rfl 29 (wav n (fillL k G)) (0, 0) _ HC.out Try.underlying29 rfl (Try.sizeW HL.out) ?_) | (refine wpList_store_row rfl 29 (.tmp 4) (.tmp 28) rfl w.heap.size (wav n (fillL k G)) rfl rfl 29 (wav 0 zerosC) HZ.out (Try.sizeW HL.out) (by rw [wav_size, wav_size, HL.out]; rfl) (wav_one n _) ?_))
      refine bodyPost_ret (v := .agg (wav n (fillL k G))) (results_cell_row Try.results93 _ _ w.heap.size 29 (wav n (fillL k G)) (0, 0) _ rfl (HZ.out.row _) Try.underlying29 rfl (Try.sizeW HL.out)) rfl ?_
      exact ⟨rfl, Below.setRow HB.out (Nat.le_refl _) _⟩

def staI (n : Int) (l : List Nat) (k : Int) (i : Nat) : Nat × Nat := (mulR (rtI (l.getD i 0)) (phaseP (staZ k ((i : Int) / n) ((i : Int) % n))).1, mulR (rtI (l.getD i 0)) (phaseP (staZ k ((i : Int) / n) ((i : Int) % n))).2)
theorem rtI_num {x : Nat} (hx : Lvl x) : rootV x = some (rtI x) := by
  obtain ⟨R, S, hR, _⟩ := roots hx
  unfold rtI; rw [hR]; rfl
theorem rootV_lt {x m : Nat} {e : Int} (hx : Ieee.single.read x = .number false m e) (h0 : 0 < m) (hm : m < 2 ^ 24) (he1 : -149 ≤ e) (he2 : e ≤ 104) :
    ∃ R, rootV x = some R ∧ R < 2139095040 := by
  obtain ⟨a, ha, hra, haw⟩ := up_num hx h0 hm he1 he2
  have hl : m.log2 ≤ 23 := by
    have := (Nat.log2_lt (by omega : m ≠ 0)).2 hm
    omega
  obtain ⟨hM1, hM2⟩ := up_bounds (n := 52) h0 (by omega)
  obtain ⟨c, hc⟩ : ∃ c, c = 52 - m.log2 := ⟨_, rfl⟩
  rw [← hc] at hra haw hM1 hM2
  have hc1 : 29 ≤ c := by omega
  have hc2 : c ≤ 52 := by omega
  obtain ⟨D, hD⟩ : ∃ D, D = m * 2 ^ c := ⟨_, rfl⟩
  rw [← hD] at hra haw hM1 hM2
  have hDg : Dg D := ⟨hM1, hM2⟩
  obtain ⟨q0, hq0⟩ : ∃ q0 : Nat, q0 = (e - (c : Int) + 1074).toNat := ⟨_, rfl⟩
  rw [← hq0] at haw
  have haw' : a = dw q0 D := haw
  have hq0b : 873 ≤ q0 ∧ q0 ≤ 1149 := by omega
  obtain ⟨U, hU⟩ : ∃ U, U = (1071 - q0) / 2 := ⟨_, rfl⟩
  obtain ⟨q1, hq1⟩ : ∃ q1, q1 = q0 + 2 * U := ⟨_, rfl⟩
  obtain ⟨V, hV⟩ : ∃ V, V = (q1 - 1070) / 2 := ⟨_, rfl⟩
  obtain ⟨q2, hq2⟩ : ∃ q2, q2 = q1 - 2 * V := ⟨_, rfl⟩
  have hq2b : q2 = 1070 ∨ q2 = 1071 := by omega
  obtain ⟨A, hA⟩ : ∃ A, A = c + q2 - 1074 := ⟨_, rfl⟩
  obtain ⟨n, hn⟩ : ∃ n, n = m * 2 ^ A := ⟨_, rfl⟩
  have hnD : n * 2 ^ (1074 - q2) = D := by
    rw [hn, hD, Nat.mul_assoc, ← Nat.pow_add]
    congr 2; omega
  have hn1 : 2 ^ 48 ≤ n := by
    have h1 : 2 ^ 48 * 2 ^ (1074 - q2) ≤ n * 2 ^ (1074 - q2) := by
      rw [hnD, ← Nat.pow_add]
      exact Nat.le_trans (Nat.pow_le_pow_right (by decide) (by omega)) hM1
    exact Nat.le_of_mul_le_mul_right h1 (Nat.two_pow_pos _)
  have hn2 : n < 2 ^ 50 := by
    have h1 : n * 2 ^ (1074 - q2) < 2 ^ 50 * 2 ^ (1074 - q2) := by
      rw [hnD, ← Nat.pow_add]
      exact Nat.lt_of_lt_of_le hM2 (Nat.pow_le_pow_right (by decide) (by omega))
    exact Nat.lt_of_mul_lt_mul_right h1
  obtain ⟨k, hk⟩ : ∃ k : Int, k = (U : Int) - V := ⟨_, rfl⟩
  have hAk : (A : Int) = e + 2 * k := by omega
  have hkb : -40 ≤ k ∧ k ≤ 99 := by omega
  -- the whole root
  obtain ⟨r0, hr0⟩ : ∃ r0, r0 = Ieee.Datum.rootFrom n (n.log2 / 2 + 1) 0 := ⟨_, rfl⟩
  have hrs := root_spec n
  simp only [← hr0] at hrs
  obtain ⟨F, hF, hE⟩ := rootV_num hx h0 hm he1 he2 hAk (by rw [← hn]; exact hn1) (by rw [← hn]; exact hn2) (by rw [← hn]; exact hrs.1) (by rw [← hn]; exact hrs.2)
  rw [← hn] at hE
  obtain ⟨hre1, hre2, hre3, hre4⟩ := rootEnd_facts hn1 hn2 hrs.1 hrs.2 hE
  refine ⟨_, hF, ?_⟩
  have e23 : (2 : Nat) ^ 23 = 8388608 := by decide
  rw [e23]
  have : (150 - k).toNat ≤ 190 := by omega
  omega
theorem word_num {r : Nat} (h : r < 2139095040) : isNum r = true := by
  have hd : ∃ s m e, FloatKind.f32.decode r = .number s m e := by
    show ∃ s m e, Ieee.single.read r = _
    unfold Ieee.Format.read
    have einf : Ieee.single.infRung = 2139095040 := rfl
    have esw : Ieee.single.signWeight = 2147483648 := rfl
    simp only [einf, esw]
    have h2 : r % 2147483648 = r := by omega
    rw [h2]
    split
    · exact ⟨_, _, _, rfl⟩
    · first | exact ⟨_, _, _, rfl⟩ | (rw [if_pos h]; exact ⟨_, _, _, rfl⟩)
  obtain ⟨s, m, e, hd⟩ := hd
  exact fin_num.2 ⟨r, s, m, e, ab_some (by rw [hd]; rfl), hd⟩
theorem rtI_isNum {x : Nat} (hx : Lvl x) : isNum (rtI x) = true := by
  obtain ⟨s, m, e, hr, hm, he1, he2, hv⟩ := num_read hx.1
  by_cases h0 : m = 0
  · obtain ⟨R, S, hR, hab, hS, hpn, _⟩ := roots hx
    subst h0
    have hup : up x = some (Ieee.double.word s 0) := by
      unfold up floatToFloatBits
      rw [if_neg (by decide)]
      have hd : FloatKind.f32.decode x = .number s 0 e := hr
      rw [hd]
      simp only
      have he : FloatKind.f64.encode (.number s 0 e) = Ieee.double.word s 0 := by
        show Ieee.double.nearest s 0 e = _
        unfold Ieee.Format.nearest; simp
      rw [he, if_neg (by cases s <;> decide +kernel)]
    have hsq : sqrtD (Ieee.double.word s 0) = some (Ieee.double.word s 0) := by cases s <;> decide +kernel
    have hdn : down (Ieee.double.word s 0) = some (Ieee.single.word s 0) := by cases s <;> decide +kernel
    unfold rtI
    rw [rootV_of hup hsq hdn]
    show isNum (Ieee.single.word s 0) = true
    cases s <;> decide +kernel
  · obtain rfl : s = false := by
      rcases signed_nonneg (by rw [← hv]; exact hx.2) with h | h
      · exact h
      · exact absurd h h0
    obtain ⟨R, hR, hlt⟩ := rootV_lt hr (by omega) hm he1 he2
    unfold rtI
    rw [hR]
    exact word_num hlt
set_option maxRecDepth 10000 in
set_option maxHeartbeats 4000000 in
theorem staCl_any (nn : Nat) (l : List Nat) (hl : l.length = 64) (kk y x : Int) (i g2 g3 : Nat) (w : World) (hi : i < 64) (hlv : Lvl (l.getD i 0)) (hrn : isNum (rtI (l.getD i 0)) = true) (hk : 0 ≤ kk ∧ kk ≤ 63) (hy : 0 ≤ y ∧ y ≤ 8) (hx : 0 ≤ x ∧ x ≤ 8) (h2 : Blk w g2 (pic nn l) 47) (h3 : w.cell? ⟨g3, 0, none⟩ = some (.int .i64 kk)) :
    Calls Try.prog 139 #[.int .i64 y, .int .i64 x, .int .i64 i, .pointer (some ⟨g2, 0, none⟩), .pointer (some ⟨g3, 0, none⟩)] w fun e w' => e = .returned (.complex .f32 (mulR (rtI (l.getD i 0)) (phaseP (staZ kk y x)).1) (mulR (rtI (l.getD i 0)) (phaseP (staZ kk y x)).2)) ∧ Below w.heap.size w w' := by
  have c0 := h2.picCell (by omega : i < l.length)
  have hR := rtI_num hlv
  obtain ⟨lv, hlv0⟩ : ∃ lv, lv = l.getD i 0 := ⟨_, rfl⟩
  rw [← hlv0] at c0 hR hrn ⊢
  obtain ⟨R, hRe⟩ : ∃ R, R = rtI lv := ⟨_, rfl⟩
  rw [← hRe] at hR hrn ⊢
  have hroot := fun w => root_any lv R hR w
  -- the phase's number
  have hyy0 := mulB y y 8 8 (by omega) (by omega)
  have hxy0 := mulB (3 * x) y 24 8 (by omega) (by omega)
  have hz : staZ kk y x = kk * (y * y + 3 * x * y + 2 * x) := rfl
  obtain ⟨yy, hyy⟩ : ∃ yy, yy = y * y := ⟨_, rfl⟩
  obtain ⟨xy, hxy⟩ : ∃ xy, xy = 3 * x * y := ⟨_, rfl⟩
  rw [← hyy] at hyy0 hz
  rw [← hxy] at hxy0 hz
  obtain ⟨s, hs⟩ : ∃ s, s = yy + xy + 2 * x := ⟨_, rfl⟩
  rw [← hs] at hz
  have hzb := mulB kk s 63 300 (by omega) (by omega)
  rw [← hz] at hzb
  obtain ⟨z, hze⟩ : ∃ z, z = staZ kk y x := ⟨_, rfl⟩
  rw [← hze] at hz hzb ⊢
  obtain ⟨c, hc⟩ : ∃ c, c = phaseP z := ⟨_, rfl⟩
  have hcn := phaseP_num z
  have hph := implPhase_any z (by omega)
  rw [← hc] at hcn hph ⊢
  have HT := Lib.hid (fun w => times_any R c.1 c.2 hrn hcn.1 hcn.2 w)
  have HRT := Lib.hid hroot
  have HPH := Lib.hid hph
  have HB := Lib.hid h2
  have hyy2 : y * y = yy := hyy.symm
  have hxy2 : 3 * x * y = xy := hxy.symm
  have hs2 : yy + xy + 2 * x = s := hs.symm
  have hz2 : kk * s = z := hz.symm
  have w1 : IntKind.i64.wrap yy = yy := IntWalk.i64_in _ (by omega)
  have w2 : IntKind.i64.wrap xy = xy := IntWalk.i64_in _ (by omega)
  have w3 : IntKind.i64.wrap z = z := IntWalk.i64_in _ (by omega)
  have w4 : IntKind.i64.wrap s = s := IntWalk.i64_in _ (by omega)
  have w5 : IntKind.i64.wrap (3 * x) = 3 * x := IntWalk.i64_in _ (by omega)
  have w6 : IntKind.i64.wrap (2 * x) = 2 * x := IntWalk.i64_in _ (by omega)
  have w7 : IntKind.i64.wrap (yy + xy) = yy + xy := IntWalk.i64_in _ (by omega)
  have hlt := h2.lt
  have hl3 := block_lt_of_cell h3
  clear hroot hph hyy hxy hs hz hze hc hcn hrn hR hRe hlv0 hlv h2
  go_enter Try.func139, Try.ntmps139
  go_wp2
  go_region_with (first | (go_at_call 113; refine (HRT.out _).mono ?_; rintro e w' ⟨rfl, rfl⟩) | (go_at_call 140; refine (HT.out _).mono ?_; rintro e w' ⟨rfl, rfl⟩) | (go_at_call 13; refine (HPH.out _).mono ?_; rintro e w' ⟨rfl, hb⟩; have HBB := Lib.hid hb; have c0b := c0; rw [show w.cell? ⟨g2, 1 + i, none⟩ = w'.cell? ⟨g2, 1 + i, none⟩ from (hb.cell (by exact hlt)).symm] at c0b; clear hb))
  all_goals
    go_wp2
    go_ret
    exact ⟨rfl, Below.drewTrans (Below.refl _ _) HBB.out (Nat.le_refl _)⟩
end Go.Proofs.Ytficghohflmdeaa
