/- Roots: the reference's root is the program's. -/
import Derived.Test.YtficghohflmdeaaRt5
namespace Go.Proofs.Ytficghohflmdeaa
open Go.RowKit
set_option linter.unusedVariables false

theorem four_up {q D : Nat} (hD : Dg D) (h1 : 800 ≤ q) (h2 : q ≤ 1200) : floatBits .mul .f64 (dw q D) 4616189618054758400 = some (dw (q + 2) D) := by
  have e : ((q : Int) + (-50) + 52).toNat = q + 2 := by omega
  rw [mul_exact hD (by omega) read_four (by omega) (by omega), e]
theorem four_down {q D : Nat} (hD : Dg D) (h1 : 800 ≤ q) (h2 : q ≤ 1200) : floatBits .quo .f64 (dw q D) 4616189618054758400 = some (dw (q - 2) D) := by
  have e : ((q : Int) - (-50) - 52).toNat = q - 2 := by omega
  rw [quo_exact hD (by omega) read_four (by omega) (by omega), e]
theorem lt_48 {q D : Nat} (hD : Dg D) (h2 : q ≤ 1200) : (FloatKind.f64.format.order (dw q D) 4823355200913801216 == some .lt) = decide (q < 1070) := by
  obtain ⟨a, b⟩ := order_pow (q := q) (t := 1070) hD (by omega) read_48
  by_cases h : q < 1070
  · rw [a h, decide_eq_true h]; rfl
  · obtain ⟨o, ho, hne⟩ := b (by omega)
    rw [ho, decide_eq_false h]
    cases o <;> first | rfl | exact absurd rfl hne
theorem ge_50 {q D : Nat} (hD : Dg D) (h2 : q ≤ 1200) : (FloatKind.f64.format.order (dw q D) 4832362400168542208 == some .gt || FloatKind.f64.format.order (dw q D) 4832362400168542208 == some .eq) = decide (1072 ≤ q) := by
  obtain ⟨a, b⟩ := order_pow (q := q) (t := 1072) hD (by omega) read_50
  by_cases h : q < 1072
  · rw [a h, decide_eq_false (by omega)]; rfl
  · obtain ⟨o, ho, hne⟩ := b (by omega)
    rw [ho, decide_eq_true (by omega)]
    cases o <;> first | rfl | exact absurd rfl hne

def bitT (t : Nat) : Nat := if t = 0 then 0 else 2 ^ (t - 1)
theorem bitT_succ (u : Nat) : bitT (u + 1) = 2 ^ u := by simp [bitT]
theorem bitT_half (u : Nat) : bitT (u + 1) / 2 = bitT u := by
  rw [bitT_succ]
  cases u with
  | zero => rfl
  | succ v => rw [bitT_succ, Nat.pow_succ, Nat.mul_div_cancel _ (by decide)]
theorem bitT_le {u : Nat} (h : u ≤ 25) : bitT u ≤ 16777216 := by
  cases u with
  | zero => decide
  | succ v =>
    rw [bitT_succ]
    have : (2 : Nat) ^ 24 = 16777216 := by decide
    rw [← this]
    exact Nat.pow_le_pow_right (by decide) (by omega)

theorem isqrt_unique {n a b : Nat} (h1 : a * a ≤ n) (h2 : n < (a + 1) * (a + 1)) (h3 : b * b ≤ n) (h4 : n < (b + 1) * (b + 1)) : a = b := by
  have h5 := Nat.mul_self_lt_mul_self_iff.1 (Nat.lt_of_le_of_lt h1 h4)
  have h6 := Nat.mul_self_lt_mul_self_iff.1 (Nat.lt_of_le_of_lt h3 h2)
  omega
theorem sq_bound {s : Nat} (h : s ≤ 50331648) : s * s ≤ 2533274790395904 := by
  have := Nat.mul_le_mul h h
  omega
theorem root_lt {r n : Nat} (h1 : r * r ≤ n) (h2 : n < 2 ^ 50) : r < 33554432 := by
  have a2 : (2 : Nat) ^ 50 = 33554432 * 33554432 := by decide
  apply Nat.mul_self_lt_mul_self_iff.1
  rw [← a2]
  exact Nat.lt_of_le_of_lt h1 h2
/-- the last steps: from the whole number on -/
theorem rootEnd_facts {n r F : Nat} (hn1 : 2 ^ 48 ≤ n) (hn2 : n < 2 ^ 50) (hr1 : r * r ≤ n) (hr2 : n < (r + 1) * (r + 1)) (hE : evenR n r = 2 * F) : 16777216 ≤ r ∧ r < 33554432 ∧ 16777216 ≤ evenR n r ∧ evenR n r ≤ 33554432 := by
  have a1 : (2 : Nat) ^ 48 = 16777216 * 16777216 := by decide
  have a2 : (2 : Nat) ^ 50 = 33554432 * 33554432 := by decide
  have h1 : 16777216 ≤ r := by
    apply Nat.le_of_lt_succ
    apply Nat.mul_self_lt_mul_self_iff.1
    rw [← a1]
    exact Nat.lt_of_le_of_lt hn1 hr2
  have h2 : r < 33554432 := by
    apply Nat.mul_self_lt_mul_self_iff.1
    rw [← a2]
    exact Nat.lt_of_le_of_lt hr1 hn2
  refine ⟨h1, h2, ?_, ?_⟩
  · unfold evenR; split <;> omega
  · unfold evenR; split <;> omega

set_option maxRecDepth 10000 in
set_option maxHeartbeats 4000000 in
theorem l01Root_num {x m : Nat} {e : Int} (hx : Ieee.single.read x = .number false m e) (h0 : 0 < m) (hm : m < 2 ^ 24) (he1 : -149 ≤ e) (he2 : e ≤ 104) :
    ∃ R, rootV x = some R ∧ ∀ w, Calls Try.prog 131 #[.float .f32 x] w fun e w' => e = .returned (.float .f32 R) ∧ w = w' := by
  obtain ⟨a, ha, hra, haw⟩ := up_num hx h0 hm he1 he2
  have hl : m.log2 ≤ 23 := by
    have := (Nat.log2_lt (by omega : m ≠ 0)).2 hm
    omega
  obtain ⟨hM1, hM2⟩ := up_bounds (n := 52) h0 (by omega)
  obtain ⟨c, hc⟩ : ∃ c, c = 52 - m.log2 := ⟨_, rfl⟩
  rw [← hc] at hra haw hM1 hM2
  have hc1 : 29 ≤ c := by omega
  have hc2 : c ≤ 52 := by omega
  obtain ⟨D, hD⟩ : ∃ D, D = m * 2 ^ c := ⟨_, rfl⟩
  rw [← hD] at hra haw hM1 hM2
  have hDg : Dg D := ⟨hM1, hM2⟩
  obtain ⟨q0, hq0⟩ : ∃ q0 : Nat, q0 = (e - (c : Int) + 1074).toNat := ⟨_, rfl⟩
  rw [← hq0] at haw
  have haw' : a = dw q0 D := haw
  have hq0b : 873 ≤ q0 ∧ q0 ≤ 1149 := by omega
  obtain ⟨U, hU⟩ : ∃ U, U = (1071 - q0) / 2 := ⟨_, rfl⟩
  obtain ⟨q1, hq1⟩ : ∃ q1, q1 = q0 + 2 * U := ⟨_, rfl⟩
  obtain ⟨V, hV⟩ : ∃ V, V = (q1 - 1070) / 2 := ⟨_, rfl⟩
  obtain ⟨q2, hq2⟩ : ∃ q2, q2 = q1 - 2 * V := ⟨_, rfl⟩
  have hq2b : q2 = 1070 ∨ q2 = 1071 := by omega
  obtain ⟨A, hA⟩ : ∃ A, A = c + q2 - 1074 := ⟨_, rfl⟩
  obtain ⟨n, hn⟩ : ∃ n, n = m * 2 ^ A := ⟨_, rfl⟩
  have hnD : n * 2 ^ (1074 - q2) = D := by
    rw [hn, hD, Nat.mul_assoc, ← Nat.pow_add]
    congr 2; omega
  have hn1 : 2 ^ 48 ≤ n := by
    have h1 : 2 ^ 48 * 2 ^ (1074 - q2) ≤ n * 2 ^ (1074 - q2) := by
      rw [hnD, ← Nat.pow_add]
      exact Nat.le_trans (Nat.pow_le_pow_right (by decide) (by omega)) hM1
    exact Nat.le_of_mul_le_mul_right h1 (Nat.two_pow_pos _)
  have hn2 : n < 2 ^ 50 := by
    have h1 : n * 2 ^ (1074 - q2) < 2 ^ 50 * 2 ^ (1074 - q2) := by
      rw [hnD, ← Nat.pow_add]
      exact Nat.lt_of_lt_of_le hM2 (Nat.pow_le_pow_right (by decide) (by omega))
    exact Nat.lt_of_mul_lt_mul_right h1
  obtain ⟨k, hk⟩ : ∃ k : Int, k = (U : Int) - V := ⟨_, rfl⟩
  have hAk : (A : Int) = e + 2 * k := by omega
  have hkb : -40 ≤ k ∧ k ≤ 99 := by omega
  -- the whole root
  obtain ⟨r0, hr0⟩ : ∃ r0, r0 = Ieee.Datum.rootFrom n (n.log2 / 2 + 1) 0 := ⟨_, rfl⟩
  have hrs := root_spec n
  simp only [← hr0] at hrs
  obtain ⟨F, hF, hE⟩ := rootV_num hx h0 hm he1 he2 hAk (by rw [← hn]; exact hn1) (by rw [← hn]; exact hn2) (by rw [← hn]; exact hrs.1) (by rw [← hn]; exact hrs.2)
  rw [← hn] at hE
  refine ⟨_, hF, fun w => ?_⟩
  obtain ⟨R, hR⟩ : ∃ R, R = (150 - k).toNat * 2 ^ 23 + F := ⟨_, rfl⟩
  rw [← hR]
  obtain ⟨hre1, hre2, hre3, hre4⟩ := rootEnd_facts hn1 hn2 hrs.1 hrs.2 hE
  -- what the walk needs
  have hxz : (FloatKind.f32.format.order x 0 == some .eq) = false := by
    have ho : FloatKind.f32.format.order x 0 = (Ieee.Datum.number false m e).order (.number false 0 (-149)) := by
      show (Ieee.single.read x).order (Ieee.single.read 0) = _
      rw [hx, show Ieee.single.read 0 = .number false 0 (-149) by decide +kernel]
    rw [ho]
    simp only [Ieee.Datum.order, Ieee.signed, Bool.false_eq_true, if_false, Nat.shiftLeft_eq, Nat.zero_mul]
    rw [Int.compare_eq_ite_lt]
    have hp : 0 < m * 2 ^ (e - min e (-149)).toNat := Nat.mul_pos h0 (Nat.two_pow_pos _)
    rw [if_neg (by omega), if_pos (by exact_mod_cast hp)]
    rfl
  have ew := wres_some ha
  have nw0 := nw_some ha
  have HAW := Lib.hid haw'
  have HX := Lib.hid hx
  have HDG := Lib.hid hDg
  have HN := Lib.hid hnD
  have HR := Lib.hid hR
  have HE := Lib.hid hE
  have HRS := Lib.hid hrs
  have HN1 := Lib.hid hn1
  have HN2 := Lib.hid hn2
  have hnlt : n ≤ 1125899906842624 := by
    have : (2 : Nat) ^ 50 = 1125899906842624 := by decide
    omega
  have HU1 : Hid (∀ i, i < U → q0 + 2 * i < 1070) := fun i hi => by omega
  have HU2 : Hid (1070 ≤ q0 + 2 * U) := by show _ ≤ _; omega
  have HV1 : Hid (∀ i, i < V → 1072 ≤ q1 - 2 * i) := fun i hi => by omega
  have HV2 : Hid (q1 - 2 * V < 1072) := by show _ < _; omega
  have hUb : U ≤ 99 := by omega
  have HU3 : Hid (q0 + 2 * U ≤ 1200) := by show _ ≤ _; omega
  have hVb : V ≤ 40 := by omega
  have hq1b : 873 ≤ q1 ∧ q1 ≤ 1149 := by omega
  have HV3 : Hid (∀ i, i ≤ V → 873 ≤ q1 - 2 * i) := fun i hi => by omega
  have HQ1 := Lib.hid hq1
  have HQ2 := Lib.hid hq2
  have HK := Lib.hid hk
  have HQ2B := Lib.hid hq2b
  clear hx ha hra haw haw' hM1 hM2 hD hDg hnD hR hE hrs hn1 hn2 hF hr0 hn hm hAk hl hU hV hq1 hq2 hk hq0 hc hA hq2b hc1 hc2 he1 he2 h0
  go_enter Try.func131, Try.ntmps131
  go_wp2
  go_loopw [3, 4] (fun yv kv wr => ∃ i : Nat, i ≤ U ∧ kv = .int .i64 i ∧ (∃ b, yv = .float .f64 b ∧ Hid (b = dw (q0 + 2 * i) D)) ∧ w = wr) (fun _ kv _ => U - (intOf kv).toNat)
  case atStart => exact ⟨0, Nat.zero_le _, rfl, ⟨_, rfl, HAW.out⟩, rfl⟩
  case round =>
    obtain ⟨i, hi, rfl, ⟨b, rfl, hb⟩, rfl⟩ := hrel
    by_cases hlt : i < U
    · have hu1 := HU1.out i hlt
      have hm := four_up HDG.out (q := q0 + 2 * i) (by omega) (by omega)
      have ho := lt_48 HDG.out (q := q0 + 2 * i) (by omega)
      rw [← hb.out] at hm ho
      rw [decide_eq_true hu1] at ho
      clear hu1
      obtain ⟨b', hb'⟩ : ∃ b', b' = dw (q0 + 2 * i + 2) D := ⟨_, rfl⟩
      rw [← hb'] at hm
      have e1 := fres_some hm
      have n1 := nd_some hm
      have HB' : Hid (b' = dw (q0 + 2 * (i + 1)) D) := by show _ = _; rw [hb']; congr 1
      clear hm hb'
      go_wp2
      go_roundw
      case rel => exact ⟨i + 1, by omega, by go_num, ⟨_, rfl, HB'.out⟩, by first | rfl | trivial⟩
      case measure => simp [intOf]; omega
    · have ei : i = U := by omega
      subst ei
      have ho := lt_48 HDG.out (q := q0 + 2 * i) HU3.out
      rw [← hb.out, decide_eq_false (by have := HU2.out; omega)] at ho
      rw [← HQ1.out] at hb
      go_wp2
      go_loopw [3, 4] (fun yv kv wr => ∃ i2 : Nat, i2 ≤ V ∧ kv = .int .i64 ((i : Int) - i2) ∧ (∃ b, yv = .float .f64 b ∧ Hid (b = dw (q1 - 2 * i2) D)) ∧ w = wr) (fun _ kv _ => ((intOf kv) + V - i).toNat)
      case atStart => exact ⟨0, Nat.zero_le _, by simp, ⟨_, rfl, hb.out⟩, rfl⟩
      case round =>
        clear ho hb
        obtain ⟨i2, hi2, rfl, ⟨b, rfl, hb⟩, rfl⟩ := hrel
        by_cases hlt2 : i2 < V
        · have hv1 := HV1.out i2 hlt2
          have hm := four_down HDG.out (q := q1 - 2 * i2) (by omega) (by omega)
          have ho := ge_50 HDG.out (q := q1 - 2 * i2) (by omega)
          rw [← hb.out] at hm ho
          rw [decide_eq_true (by omega)] at ho
          clear hv1
          obtain ⟨b', hb'⟩ : ∃ b', b' = dw (q1 - 2 * i2 - 2) D := ⟨_, rfl⟩
          rw [← hb'] at hm
          have e1 := fres_some hm
          have n1 := nd_some hm
          have HB' : Hid (b' = dw (q1 - 2 * (i2 + 1)) D) := by show _ = _; rw [hb', show q1 - 2 * i2 - 2 = q1 - 2 * (i2 + 1) by omega]
          clear hm hb'
          go_wp2
          go_roundw
          case rel => exact ⟨i2 + 1, by omega, by go_num, ⟨_, rfl, HB'.out⟩, by first | rfl | trivial⟩
          case measure => simp [intOf]; omega
        · have ei2 : i2 = V := by omega
          subst ei2
          have ho := ge_50 HDG.out (q := q1 - 2 * i2) (by omega)
          rw [← hb.out, decide_eq_false (by have := HV2.out; omega)] at ho
          have hwd := whole_double HDG.out HQ2B.out HN.out
          rw [HQ2.out, ← hb.out] at hwd
          have k1 : ∀ w, (convert 67 2 (.float .f64 b)).run Try.prog w = .ok (.int .i64 n) w := fun w => run_convert_float_int w 67 2 .f64 .i64 b n (by rw [Try.underlying67]; rfl) Try.underlying2 hwd
          have hk2 : (i : Int) - i2 = k := HK.out.symm
          clear hwd hb
          go_wp2
          go_loopw [6, 7] (fun rv bv wr => ∃ (t r : Nat), t ≤ 25 ∧ rv = .int .i64 r ∧ bv = .int .i64 (bitT t : Nat) ∧ w = wr ∧ Hid (r * r ≤ n ∧ n < (r + 2 ^ t) * (r + 2 ^ t))) (fun _ bv _ => (intOf bv).toNat)
          case atStart =>
            refine ⟨25, 0, Nat.le_refl _, rfl, by rw [show bitT 25 = 16777216 by decide +kernel]; rfl, rfl, Nat.zero_le _, ?_⟩
            have a2 : (0 + 2 ^ 25) * (0 + 2 ^ 25) = 2 ^ 50 := by decide
            rw [a2]; exact HN2.out
          case round =>
            obtain ⟨t, r, ht, rfl, rfl, rfl, hinv⟩ := hrel
            have hr25 := root_lt hinv.out.1 HN2.out
            cases t with
            | zero =>
              have hb0 : bitT 0 = 0 := rfl
              rw [hb0]
              have hinv2 : r = r0 := isqrt_unique hinv.out.1 (by have := hinv.out.2; rwa [Nat.pow_zero] at this) HRS.out.1 HRS.out.2
              subst hinv2
              obtain ⟨rr, hrr⟩ : ∃ rr, rr = r % 2 := ⟨_, rfl⟩
              have hrr1 : rr ≤ 1 := by omega
              have hrr2 : Int.tmod (r : Int) 2 = rr := by rw [Int.tmod_eq_emod_of_nonneg (by omega)]; omega
              have hrr3 : (r : Int) % 2 = rr := by omega
              obtain ⟨ev, hev⟩ : ∃ ev, ev = r - rr := ⟨_, rfl⟩
              have hev2 : (r : Int) - rr = ev := by omega
              have hevb : ev ≤ 33554432 := by omega
              obtain ⟨z2, hz2⟩ : ∃ z2, z2 = (ev + 1) * (ev + 1) := ⟨_, rfl⟩
              have hz2i : ((ev : Int) + 1) * ((ev : Int) + 1) = z2 := by rw [hz2, Int.natCast_mul, Int.natCast_add]; rfl
              have hz2b : z2 ≤ 2533274790395904 := by rw [hz2]; exact sq_bound (by omega)
              obtain ⟨E, hEe⟩ : ∃ E, E = evenR n r := ⟨_, rfl⟩
              have hEv : E = if z2 < n then ev + 2 else ev := by rw [hEe, hz2, hev, hrr]; rfl
              have hEF : E = 2 * F := by rw [hEe]; exact HE.out
              obtain ⟨y, hy1, hy2⟩ := last_word (k := k) hEF (by have : (2 : Nat) ^ 24 = 16777216 := by decide
                                                                 rw [this, hEe]; exact hre3) (by have : (2 : Nat) ^ 25 = 33554432 := by decide
                                                                                                 rw [this, hEe]; exact hre4) hkb
              rw [← HR.out] at hy2
              obtain ⟨tw, htw⟩ : ∃ tw, tw = dw (1022 - k).toNat (2 ^ 52) := ⟨_, rfl⟩
              rw [← htw] at hy1
              obtain ⟨fE, hfE⟩ : ∃ fE, fE = floatOfInt .f64 (E : Int) := ⟨_, rfl⟩
              rw [← hfE] at hy1
              have ey := fres_some hy1
              have ny := nd_some hy1
              have kd : ∀ w, (convert 67 43 (.float .f64 y)).run Try.prog w = .ok (.float .f32 R) w := fun w => run_convert_float_float w 67 43 .f64 .f32 y R (by rw [Try.underlying67]; rfl) Try.underlying43 hy2
              have HTW := Lib.hid htw
              have HT := Lib.hid (fun w => Two_any (-k) (by omega) w)
              have htk : (1022 + -k).toNat = (1022 - k).toNat := by omega
              rw [htk] at HT
              rw [← HTW.out] at HT
              clear hy1 hy2 htw hEe hEF hrr hev hz2 hinv htk
              by_cases hc : z2 < n
              · rw [if_pos hc] at hEv
                have hfe : floatOfInt .f64 ((ev : Int) + 2) = fE := by rw [hfE, hEv, Int.natCast_add]; rfl
                clear hfE hEv
                go_wp2_with fail
                refine (HT.out w).mono ?_
                rintro e w1 ⟨rfl, rfl⟩
                go_wp2
                go_ret
                exact ⟨rfl, rfl⟩
              · rw [if_neg hc] at hEv
                have hfe : floatOfInt .f64 (ev : Int) = fE := by rw [hfE, hEv]
                clear hfE hEv
                go_wp2_with fail
                refine (HT.out w).mono ?_
                rintro e w1 ⟨rfl, rfl⟩
                go_wp2
                go_ret
                exact ⟨rfl, rfl⟩
            | succ u =>
              have hhalf := bitT_half u
              have hbl := bitT_le (u := u + 1) ht
              have hbp : 1 ≤ bitT (u + 1) := by rw [bitT_succ]; exact Nat.two_pow_pos u
              have hbs := bitT_succ u
              obtain ⟨B, hB⟩ : ∃ B, B = bitT (u + 1) := ⟨_, rfl⟩
              obtain ⟨B2, hB2⟩ : ∃ B2, B2 = bitT u := ⟨_, rfl⟩
              rw [← hB] at hhalf hbl hbp hbs ⊢
              rw [← hB2] at hhalf
              have hd1 : Int.tdiv (B : Int) 2 = B2 := by rw [Int.tdiv_eq_ediv_of_nonneg (by omega)]; omega
              have hd2 : (B : Int) / 2 = B2 := by omega
              obtain ⟨z, hz⟩ : ∃ z, z = (r + B) * (r + B) := ⟨_, rfl⟩
              have hzi : ((r : Int) + B) * ((r : Int) + B) = z := by rw [hz, Int.natCast_mul, Int.natCast_add]
              have hzb : z ≤ 2533274790395904 := by rw [hz]; exact sq_bound (by omega)
              have HZ := Lib.hid hz
              have HB2 := Lib.hid hB2
              have HBS := Lib.hid hbs
              clear hz hB2 hbs hhalf hB
              by_cases hc : z ≤ n
              · go_wp2
                go_roundw
                case rel =>
                  refine ⟨u, r + B, by omega, by go_num, by rw [← HB2.out], by first | rfl | trivial, ?_, ?_⟩
                  · rw [← HZ.out]; exact hc
                  · have h := hinv.out.2
                    rw [Nat.pow_succ] at h
                    rw [HBS.out]
                    have e : r + 2 ^ u + 2 ^ u = r + 2 ^ u * 2 := by omega
                    rw [e]; exact h
                case measure => simp [intOf]; omega
              · go_wp2
                go_roundw
                case rel =>
                  refine ⟨u, r, by omega, rfl, by rw [← HB2.out], by first | rfl | trivial, hinv.out.1, ?_⟩
                  rw [← HBS.out, ← HZ.out]; omega
                case measure => simp [intOf]; omega
end Go.Proofs.Ytficghohflmdeaa
