/- Steps: the plain facts on a level's step. -/
import Derived.Test.YtphbjfijipcpnaaFlo2
namespace Go.Proofs.Ytphbjfijipcpnaa
open Go.RowKit
set_option linter.unusedVariables false

theorem cut_floor (n d : Nat) : n / (1 <<< min d (n.log2 + 2)) = n / 2 ^ d := by
  rw [Nat.one_shiftLeft]
  by_cases hd : d ≤ n.log2 + 2
  · rw [Nat.min_eq_left hd]
  · rw [Nat.min_eq_right (by omega)]
    have h1 := @Nat.lt_log2_self n
    have h2 : 2 ^ (n.log2 + 1) ≤ 2 ^ (n.log2 + 2) := Nat.pow_le_pow_right (by omega) (by omega)
    have h3 : 2 ^ (n.log2 + 1) ≤ 2 ^ d := Nat.pow_le_pow_right (by omega) (by omega)
    rw [Nat.div_eq_of_lt (by omega), Nat.div_eq_of_lt (by omega)]
theorem cut_way {way : Ieee.Toward} (h : way = .zero ∨ way = .down) (n d : Nat) : way.cut false n d = n / 2 ^ d := by
  rcases h with rfl | rfl <;> simp only [Ieee.Toward.cut, Bool.false_and, Bool.toNat_false, Nat.add_zero, cut_floor]

/-- a number of at least 0 made whole -/
def flr (m : Nat) (e : Int) : Nat := (m * 2 ^ e.toNat) / 2 ^ (-e).toNat
theorem flr_scale (m c : Nat) (e : Int) : flr (m * 2 ^ c) (e - c) = flr m e := by
  unfold flr
  have hx : (m * 2 ^ c * 2 ^ (e - c).toNat) * 2 ^ (-e).toNat = (m * 2 ^ e.toNat) * 2 ^ (-(e - c)).toNat := by
    rw [Nat.mul_assoc, Nat.mul_assoc, Nat.mul_assoc, ← Nat.pow_add, ← Nat.pow_add, ← Nat.pow_add]
    congr 2
    omega
  have hp1 : 0 < 2 ^ (-e).toNat := Nat.two_pow_pos _
  have hp2 : 0 < 2 ^ (-(e - c)).toNat := Nat.two_pow_pos _
  rw [← Nat.mul_div_mul_right _ _ hp1, hx, Nat.mul_comm (2 ^ (-(e - (c : Int))).toNat) (2 ^ (-e).toNat), Nat.mul_div_mul_right _ _ hp2]
theorem toInt_zero {m : Nat} {e : Int} : (Ieee.Datum.number false m e).toInt .zero = some (flr m e : Int) := by
  simp only [Ieee.Datum.toInt, Ieee.Datum.integral, cut_way (.inl rfl), Nat.shiftLeft_eq]
  simp [Ieee.signed, flr]
theorem integral_down {m : Nat} {e : Int} : (Ieee.Datum.number false m e).integral .down = .number false (flr m e) 0 := by
  simp only [Ieee.Datum.integral, cut_way (.inr rfl), Nat.shiftLeft_eq]
  rfl
theorem small_whole : ∀ k : Nat, k ≤ 256 → floatToIntVal .f64 (FloatKind.f64.encode (.number false k 0)) .i64 = some (k : Int) := by
  have h : (List.range 257).all (fun k => decide (floatToIntVal .f64 (FloatKind.f64.encode (.number false k 0)) .i64 = some (k : Int))) = true := by decide +kernel
  intro k hk
  rw [List.all_eq_true] at h
  exact of_decide_eq_true (h k (by simp; omega))
theorem small_notNaN : ∀ k : Nat, k ≤ 256 → (FloatKind.f64.decode (FloatKind.f64.encode (.number false k 0))).isNaN = false := by
  have h : (List.range 257).all (fun k => !(FloatKind.f64.decode (FloatKind.f64.encode (.number false k 0))).isNaN) = true := by decide +kernel
  intro k hk
  rw [List.all_eq_true] at h
  simpa using h k (by simp; omega)

/-- the sum's way to a whole number, both ways -/
theorem both_whole {s : Nat} {m : Nat} {e : Int} (hs : FloatKind.f32.decode s = .number false m e) (hk : flr m e ≤ 256) :
    floatToIntVal .f32 s .i64 = some (flr m e : Int) ∧ ∃ d, floatToFloatBits .f32 s .f64 = some d ∧ (FloatKind.f64.decode d).isNaN = false ∧ (FloatKind.f64.decode d).integral .down = .number false (flr m e) 0 := by
  constructor
  · unfold floatToIntVal
    rw [hs, toInt_zero]
    simp only
    rw [if_pos]
    simp [IntKind.min, IntKind.max, IntKind.signed, IntKind.bits]
    omega
  · have hr : Ieee.single.read s = .number false m e := hs
    have hb : m < 2 ^ 24 ∧ -149 ≤ e ∧ e ≤ 104 := by
      rcases single_read s with ⟨s', m', e', h, h1, h2, h3⟩ | ⟨s', h⟩ | ⟨s', t', h⟩ <;> rw [h] at hr <;> cases hr
      exact ⟨h1, h2, h3⟩
    by_cases h0 : m = 0
    · subst h0
      have e0 : FloatKind.f64.encode (.number false 0 e) = 0 := by
        show Ieee.double.nearest false 0 e = _
        unfold Ieee.Format.nearest; simp [Ieee.Format.word]
      refine ⟨0, ?_, by decide +kernel, ?_⟩
      · unfold floatToFloatBits
        rw [if_neg (by decide), hs]
        simp only [e0]
        rw [if_neg (by decide +kernel)]
      · have hf : flr 0 e = 0 := by unfold flr; simp
        rw [hf]; decide +kernel
    · have hz := (double_exact false m e (by omega) (by omega) hb.2.1 (by omega)).1
      have hi : FloatKind.f64.decode (FloatKind.f64.encode (.number false m e)) = .number false (m * 2 ^ (52 - m.log2)) (e - (52 - m.log2 : Nat)) := hz
      refine ⟨FloatKind.f64.encode (.number false m e), ?_, by rw [hi]; rfl, ?_⟩
      · unfold floatToFloatBits
        rw [if_neg (by decide), hs]
        simp only
        rw [hi]
        rfl
      · rw [hi, integral_down, flr_scale]

/-- a number of less than 2 ^ 8 is met by one of at most 2 ^ 8 -/
theorem nearest_small (mag : Nat) (place : Int) (hm : 0 < mag) (h : place + mag.log2 ≤ 7) : ∃ m e, Ieee.single.read (Ieee.single.nearest false mag place) = .number false m e ∧ flr m e ≤ 256 := by
  obtain ⟨last, hlast⟩ : ∃ last : Int, last = max (place + (mag.log2 : Int) - (23 : Nat)) (-149) := ⟨_, rfl⟩
  have e : Ieee.single.nearest false mag place = Ieee.single.word false (min ((last - -149).toNat * 8388608 + Ieee.Toward.even.cut false (mag <<< (place - last).toNat) (last - place).toNat) 2139095040) := by
    unfold Ieee.Format.nearest
    rw [if_neg (by omega), hlast]
    rfl
  rw [e]
  have hc := cut_bound false mag place last (by omega)
  obtain ⟨r, hr⟩ : ∃ r, r = min ((last - -149).toNat * 8388608 + Ieee.Toward.even.cut false (mag <<< (place - last).toNat) (last - place).toNat) 2139095040 := ⟨_, rfl⟩
  rw [← hr]
  have hr2 : r ≤ 135 * 8388608 := by
    have e2 : (2 : Nat) ^ 24 = 16777216 := by decide
    rw [e2] at hc
    have : (last - -149).toNat ≤ 133 := by omega
    omega
  unfold Ieee.Format.read
  have einf : Ieee.single.infRung = 2139095040 := rfl
  have esw : Ieee.single.signWeight = 2147483648 := rfl
  have ebn : Ieee.single.binade = 8388608 := rfl
  have elp : Ieee.single.leastPlace = -149 := rfl
  have hw : Ieee.single.word false r = r := rfl
  rw [hw]
  simp only [einf, esw, ebn, elp]
  have h1 : r / 2147483648 % 2 = 0 := by omega
  have h2 : r % 2147483648 = r := by omega
  rw [h1, h2]
  by_cases hr3 : r < 8388608
  · rw [if_pos hr3]
    refine ⟨_, _, rfl, ?_⟩
    unfold flr
    have : r * 2 ^ (-149 : Int).toNat / 2 ^ (-(-149 : Int)).toNat = 0 := by
      have e1 : (-149 : Int).toNat = 0 := rfl
      have e2 : (-(-149 : Int)).toNat = 149 := rfl
      rw [e1, e2, Nat.pow_zero, Nat.mul_one]
      exact Nat.div_eq_of_lt (Nat.lt_trans hr3 (by decide))
    rw [this]; omega
  · rw [if_neg hr3, if_pos (by omega)]
    refine ⟨_, _, rfl, ?_⟩
    obtain ⟨q, hq⟩ : ∃ q, q = r / 8388608 := ⟨_, rfl⟩
    have hq1 : 1 ≤ q := by omega
    have hq2 : q ≤ 135 := by omega
    have hm24 : 8388608 + r % 8388608 < 2 ^ 24 := by
      have : (2 : Nat) ^ 24 = 16777216 := by decide
      omega
    rw [← hq]
    unfold flr
    have e1 : (-149 + ((q - 1 : Nat) : Int)).toNat = 0 := by omega
    have e2 : (-(-149 + ((q - 1 : Nat) : Int))).toNat = 150 - q := by omega
    rw [e1, e2, Nat.pow_zero, Nat.mul_one]
    by_cases hq3 : q = 135
    · have hr0 : r % 8388608 = 0 := by omega
      rw [hr0, hq3]; decide
    · have h5 : 2 ^ 16 ≤ 2 ^ (150 - q) := Nat.pow_le_pow_right (by omega) (by omega)
      have h6 : (8388608 + r % 8388608) / 2 ^ (150 - q) ≤ (8388608 + r % 8388608) / 2 ^ 16 := Nat.div_le_div_left h5 (by decide)
      have h7 : (8388608 + r % 8388608) / 2 ^ 16 < 2 ^ 8 := by
        rw [Nat.div_lt_iff_lt_mul (by decide), ← Nat.pow_add]; exact hm24
      have : (2 : Nat) ^ 8 = 256 := by decide
      omega
end Go.Proofs.Ytphbjfijipcpnaa
