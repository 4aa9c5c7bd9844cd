/- Roots: the reference's steps on doubles. -/
import Derived.Test.YtficghohflmdeaaRt3
namespace Go.Proofs.Ytficghohflmdeaa
open Go
set_option linter.unusedVariables false

/-- a double's word with all its digits -/
def dw (q D : Nat) : Nat := q * 2 ^ 52 + D
def Dg (D : Nat) : Prop := 2 ^ 52 ≤ D ∧ D < 2 ^ 53
theorem dw_read {q D : Nat} (hD : Dg D) (hq : q ≤ 2000) : Ieee.double.read (dw q D) = .number false D ((q : Int) - 1074) := read_double q D hD.1 hD.2 hq
theorem dg_one : Dg (2 ^ 52) := ⟨Nat.le_refl _, by decide⟩

theorem cut_exact2 (s : Bool) (a d : Nat) (h : d ≤ (a * 2 ^ d).log2 + 2) : Ieee.Toward.even.cut s (a * 2 ^ d) d = a := by
  unfold Ieee.Toward.cut
  simp only [Nat.one_shiftLeft, Nat.min_eq_left h]
  have hp : 0 < 2 ^ d := Nat.pow_pos (by omega)
  have h0 : ¬ (2 ^ d = 0) := by omega
  rw [Nat.mul_div_cancel _ hp, Nat.mul_mod_left]
  simp [h0]

theorem mul_exact {q D b : Nat} {j : Int} (hD : Dg D) (hq : q ≤ 2000) (hb : Ieee.double.read b = .number false (2 ^ 52) j) (h1 : -1000 ≤ (q : Int) - 1074 + j + 52) (h2 : (q : Int) - 1074 + j + 52 ≤ 900) :
    floatBits .mul .f64 (dw q D) b = some (dw ((q : Int) + j + 52).toNat D) := by
  show ((Ieee.double.read (dw q D)).product (Ieee.double.read b)).map Ieee.double.write = _
  rw [dw_read hD hq, hb]
  have hm1 : 2 ^ (52 + 52) ≤ D * 2 ^ 52 := by rw [Nat.pow_add]; exact Nat.mul_le_mul_right _ hD.1
  have hm2 : D * 2 ^ 52 < 2 ^ (53 + 52) := by rw [Nat.pow_add]; exact Nat.mul_lt_mul_of_pos_right hD.2 (Nat.two_pow_pos _)
  obtain ⟨hn, hl⟩ := nearest_double (D * 2 ^ 52) ((q : Int) - 1074 + j) 52 hm1 hm2 (by omega) (by omega)
  have hc := cut_exact2 false D 52 (by rw [hl]; omega)
  rw [hc] at hn
  have e : ((q : Int) - 1074 + j + ((52 : Nat) : Int) + 1074).toNat = ((q : Int) + j + 52).toNat := by omega
  rw [e] at hn
  show some (Ieee.double.nearest false (D * 2 ^ 52) ((q : Int) - 1074 + j)) = _
  rw [hn]; rfl

theorem quo_datum {D B : Nat} {i j : Int} (hD : D.log2 = 52) (hB : B.log2 = 52) (h0 : ¬ B = 0) (hm : D <<< 54 = D * 4 * B) (hp : 0 < B) : (Ieee.Datum.number false D i).quotient 54 (.number false B j) = some (.number false (D * 2 ^ 3) (i - j - 55)) := by
  have hdv : D * 4 * B / B = D * 4 := Nat.mul_div_cancel _ hp
  have hmd : D * 4 * B % B = 0 := Nat.mul_mod_left _ _
  have hmore : 54 + B.log2 - D.log2 = 54 := by omega
  have hmag : 2 * (D * 4) + ((0 : Nat) != 0).toNat = D * 2 ^ 3 := by
    have : ((0 : Nat) != 0).toNat = 0 := rfl
    rw [this]; omega
  have hpl : (i - j - ((54 : Nat) : Int) - 1) = i - j - 55 := by omega
  have e : (Ieee.Datum.number false D i).quotient 54 (.number false B j) = if B = 0 then (if D = 0 then none else some (.infinity (false ^^ false))) else some (.number (false ^^ false) (2 * (D <<< (54 + B.log2 - D.log2) / B) + (D <<< (54 + B.log2 - D.log2) % B != 0).toNat) (i - j - (54 + B.log2 - D.log2 : Nat) - 1)) := rfl
  rw [e, if_neg h0, hmore, hm, hdv, hmd, hmag, hpl]
  rfl
theorem quo_exact {q D b : Nat} {j : Int} (hD : Dg D) (hq : q ≤ 2000) (hb : Ieee.double.read b = .number false (2 ^ 52) j) (h1 : -1000 ≤ (q : Int) - 1074 - j - 52) (h2 : (q : Int) - 1074 - j - 52 ≤ 900) :
    floatBits .quo .f64 (dw q D) b = some (dw ((q : Int) - j - 52).toNat D) := by
  show ((Ieee.double.read (dw q D)).quotient (Ieee.double.fractionBits + 2) (Ieee.double.read b)).map Ieee.double.write = _
  have hl0 : D.log2 = 52 := log2_eq hD.1 hD.2
  have hl1 : (2 ^ 52 : Nat).log2 = 52 := log2_eq (Nat.le_refl _) (by decide)
  have efb : Ieee.double.fractionBits + 2 = 54 := rfl
  have hsh : D <<< 54 = D * 4 * 2 ^ 52 := by
    rw [Nat.shiftLeft_eq, Nat.mul_assoc, show (2 : Nat) ^ 54 = 4 * 2 ^ 52 by decide]
  rw [dw_read hD hq, hb, efb, quo_datum hl0 hl1 (by decide) hsh (Nat.two_pow_pos _)]
  have hm1 : 2 ^ (52 + 3) ≤ D * 2 ^ 3 := by rw [Nat.pow_add]; exact Nat.mul_le_mul_right _ hD.1
  have hm2 : D * 2 ^ 3 < 2 ^ (53 + 3) := by rw [Nat.pow_add]; exact Nat.mul_lt_mul_of_pos_right hD.2 (Nat.two_pow_pos _)
  obtain ⟨hn, hl⟩ := nearest_double (D * 2 ^ 3) ((q : Int) - 1074 - j - 55) 3 hm1 hm2 (by omega) (by omega)
  have hc := cut_exact2 false D 3 (by rw [hl]; omega)
  rw [hc] at hn
  have e : ((q : Int) - 1074 - j - 55 + ((3 : Nat) : Int) + 1074).toNat = ((q : Int) - j - 52).toNat := by omega
  rw [e] at hn
  show some (Ieee.double.nearest false (D * 2 ^ 3) ((q : Int) - 1074 - j - 55)) = _
  rw [hn]; rfl

theorem read_four : Ieee.double.read 4616189618054758400 = .number false (2 ^ 52) (-50) := by decide +kernel
theorem read_two : Ieee.double.read 4611686018427387904 = .number false (2 ^ 52) (-51) := by decide +kernel
theorem read_48 : Ieee.double.read 4823355200913801216 = .number false (2 ^ 52) (-4) := by decide +kernel
theorem read_50 : Ieee.double.read 4832362400168542208 = .number false (2 ^ 52) (-2) := by decide +kernel

/-- a double against a power of two -/
theorem order_pow {q D b t : Nat} (hD : Dg D) (hq : q ≤ 2000) (hb : Ieee.double.read b = .number false (2 ^ 52) ((t : Int) - 1074)) :
    (q < t → FloatKind.f64.format.order (dw q D) b = some .lt) ∧ (t ≤ q → ∃ o, FloatKind.f64.format.order (dw q D) b = some o ∧ o ≠ .lt) := by
  have ho : FloatKind.f64.format.order (dw q D) b = some (compare (Ieee.signed false D ((q : Int) - 1074 - min ((q : Int) - 1074) ((t : Int) - 1074)).toNat) (Ieee.signed false (2 ^ 52) ((t : Int) - 1074 - min ((q : Int) - 1074) ((t : Int) - 1074)).toNat)) := by
    show (Ieee.double.read (dw q D)).order (Ieee.double.read b) = _
    rw [dw_read hD hq, hb]; rfl
  simp only [Ieee.signed, Bool.false_eq_true, if_false, Nat.shiftLeft_eq] at ho
  constructor
  · intro h
    have e1 : ((q : Int) - 1074 - min ((q : Int) - 1074) ((t : Int) - 1074)).toNat = 0 := by omega
    have e2 : ((t : Int) - 1074 - min ((q : Int) - 1074) ((t : Int) - 1074)).toNat = t - q := by omega
    rw [e1, e2, Nat.pow_zero, Nat.mul_one] at ho
    rw [ho, Int.compare_eq_ite_lt, if_pos]
    have h1 : (2 : Nat) ^ 52 * 2 ^ 1 ≤ 2 ^ 52 * 2 ^ (t - q) := Nat.mul_le_mul_left _ (Nat.pow_le_pow_right (by decide) (by omega))
    have h2 : (2 : Nat) ^ 52 * 2 ^ 1 = 2 ^ 53 := by decide
    rw [h2] at h1
    exact_mod_cast Nat.lt_of_lt_of_le hD.2 h1
  · intro h
    refine ⟨_, ho, ?_⟩
    have e1 : ((q : Int) - 1074 - min ((q : Int) - 1074) ((t : Int) - 1074)).toNat = q - t := by omega
    have e2 : ((t : Int) - 1074 - min ((q : Int) - 1074) ((t : Int) - 1074)).toNat = 0 := by omega
    rw [e1, e2, Nat.pow_zero, Nat.mul_one, Int.compare_eq_ite_lt, if_neg]
    · split <;> simp
    · have h1 : (2 : Nat) ^ 52 * 1 ≤ D * 2 ^ (q - t) := Nat.mul_le_mul hD.1 (Nat.two_pow_pos _)
      rw [Nat.mul_one] at h1
      exact Int.not_lt.2 (by exact_mod_cast h1)

theorem toInt_of {b n : Nat} {d : Ieee.Datum} (hd : Ieee.double.read b = d) (ht : d.toInt .zero = some (n : Int)) (hn : n < 1125899906842624) : floatToIntVal .f64 b .i64 = some (n : Int) := by
  unfold floatToIntVal
  have hd2 : FloatKind.f64.decode b = d := hd
  rw [hd2, ht]
  simp only
  rw [if_pos]
  simp [IntKind.min, IntKind.max, IntKind.signed, IntKind.bits]
  omega
/-- the whole number that a double of 49 or 50 bits is -/
theorem whole_double {q D n : Nat} (hD : Dg D) (hq : q = 1070 ∨ q = 1071) (hn : n * 2 ^ (1074 - q) = D) : floatToIntVal .f64 (dw q D) .i64 = some (n : Int) := by
  have hr := dw_read hD (by omega : q ≤ 2000)
  have hb : n < 2 ^ 50 := by
    have h2 := hD.2
    rw [← hn] at h2
    rcases hq with rfl | rfl
    · have : (2 : Nat) ^ 53 = 2 ^ 49 * 2 ^ (1074 - 1070) := by decide
      rw [this] at h2
      exact Nat.lt_trans (Nat.lt_of_mul_lt_mul_right h2) (by decide)
    · have : (2 : Nat) ^ 53 = 2 ^ 50 * 2 ^ (1074 - 1071) := by decide
      rw [this] at h2
      exact Nat.lt_of_mul_lt_mul_right h2
  have ht : (Ieee.Datum.number false D ((q : Int) - 1074)).toInt .zero = some (n : Int) := by
    simp only [Ieee.Datum.toInt, Ieee.Datum.integral]
    have e1 : ((q : Int) - 1074).toNat = 0 := by omega
    have e2 : (-((q : Int) - 1074)).toNat = 1074 - q := by omega
    rw [e1, e2, Nat.shiftLeft_zero]
    have hc : Ieee.Toward.zero.cut false D (1074 - q) = n := by
      unfold Ieee.Toward.cut
      have hl : D.log2 = 52 := log2_eq hD.1 hD.2
      rw [hl, Nat.min_eq_left (by omega)]
      simp only [Nat.one_shiftLeft, Bool.toNat_false, Nat.add_zero]
      rw [← hn, Nat.mul_div_cancel _ (Nat.two_pow_pos _)]
    rw [hc]
    simp [Ieee.signed]
  have e50 : (2 : Nat) ^ 50 = 1125899906842624 := by decide
  rw [e50] at hb
  exact toInt_of hr ht hb

/-- the reference's last steps -/
theorem near_unique {D c F d : Nat} (hD : D = F * 2 ^ d) (h1 : 2 * (c * 2 ^ d) ≤ 2 * D + 2 ^ d) (h2 : 2 * D ≤ 2 * (c * 2 ^ d) + 2 ^ d) : c = F := by
  have hp := Nat.two_pow_pos d
  rw [hD] at h1 h2
  generalize 2 ^ d = g at hp h1 h2
  rcases Nat.lt_trichotomy c F with h | h | h
  · have h3 : (c + 1) * g ≤ F * g := Nat.mul_le_mul_right _ h
    rw [Nat.add_mul, Nat.one_mul] at h3
    omega
  · exact h
  · have h3 : (F + 1) * g ≤ c * g := Nat.mul_le_mul_right _ h
    rw [Nat.add_mul, Nat.one_mul] at h3
    omega
theorem last_word {E F : Nat} {k : Int} (hE : E = 2 * F) (h1 : 2 ^ 24 ≤ E) (h2 : E ≤ 2 ^ 25) (hk : -40 ≤ k ∧ k ≤ 99) :
    ∃ y, floatBits .mul .f64 (floatOfInt .f64 (E : Int)) (dw (1022 - k).toNat (2 ^ 52)) = some y ∧ down y = some ((150 - k).toNat * 2 ^ 23 + F) := by
  have e24 : (2 : Nat) ^ 24 = 16777216 := by decide
  have e25 : (2 : Nat) ^ 25 = 33554432 := by decide
  have hE0 : 0 < E := by rw [e24] at h1; omega
  have hfi : floatOfInt .f64 (E : Int) = Ieee.double.nearest false E 0 := by
    show Ieee.double.write (.number (decide ((E : Int) < 0)) (E : Int).natAbs 0) = _
    rw [decide_eq_false (by omega), Int.natAbs_natCast]; rfl
  have hEm : E < 2 ^ 53 := Nat.lt_of_le_of_lt h2 (by decide)
  have hz := double_exact false E 0 hE0 hEm (by omega) (by omega)
  have hl : E.log2 ≤ 52 := by
    have := (Nat.log2_lt (by omega : E ≠ 0)).2 hEm
    omega
  obtain ⟨hM1, hM2⟩ := up_bounds hE0 hl
  have hbr : Ieee.double.read (dw (1022 - k).toNat (2 ^ 52)) = .number false (2 ^ 52) (-k - 52) := by
    have e9 : (((1022 - k).toNat : Nat) : Int) - 1074 = -k - 52 := by omega
    rw [dw_read dg_one (by omega), e9]
  by_cases he : E = 2 ^ 25
  · have hlog : E.log2 = 25 := by rw [he]; decide +kernel
    rw [hlog] at hz hM1 hM2
    have hw : floatOfInt .f64 (E : Int) = dw 1047 (2 ^ 52) := by rw [he]; decide +kernel
    refine ⟨dw (1047 - k).toNat (2 ^ 52), ?_, ?_⟩
    · have e9 : (((1047 : Nat) : Int) + (-k - 52) + 52).toNat = (1047 - k).toNat := by omega
      rw [hw, mul_exact dg_one (by omega) hbr (by omega) (by omega), e9]
    · obtain ⟨F', hF0, hF1, hF2⟩ := down_near (1047 - k).toNat (2 ^ 52) (Nat.le_refl _) (by decide) (by omega) (by omega)
      have hF' : F' = 2 ^ 23 := near_unique (d := 29) (by decide) hF1 hF2
      show down ((1047 - k).toNat * 2 ^ 52 + 2 ^ 52) = _
      rw [hF0, hF']
      refine congrArg some ?_
      have hF2 : F = 2 ^ 24 := by rw [e24]; rw [e25] at he; omega
      rw [hF2]
      have e3 := down_aux (q := (1046 - k).toNat) (by omega)
      have e4 : (1047 - k).toNat - 896 = (1046 - k).toNat - 895 := by omega
      have e5 : (150 - k).toNat = (1046 - k).toNat - 896 := by omega
      rw [e4, e5]; exact e3
  · have hlog : E.log2 = 24 := log2_eq h1 (Nat.lt_of_le_of_ne h2 he)
    rw [hlog] at hz hM1 hM2
    have hD : Dg (E * 2 ^ 28) := ⟨hM1, hM2⟩
    have hw : floatOfInt .f64 (E : Int) = dw 1046 (E * 2 ^ 28) := by
      rw [hfi, hz.2]; rfl
    refine ⟨dw (1046 - k).toNat (E * 2 ^ 28), ?_, ?_⟩
    · have e9 : (((1046 : Nat) : Int) + (-k - 52) + 52).toNat = (1046 - k).toNat := by omega
      rw [hw, mul_exact hD (by omega) hbr (by omega) (by omega), e9]
    · obtain ⟨F', hF0, hF1, hF2⟩ := down_near (1046 - k).toNat (E * 2 ^ 28) hD.1 (Nat.le_of_lt hD.2) (by omega) (by omega)
      have hEF : E * 2 ^ 28 = F * 2 ^ 29 := by
        have e29 : (2 : Nat) ^ 29 = 2 * 2 ^ 28 := by decide
        rw [hE, e29, Nat.mul_comm 2 F, Nat.mul_assoc]
      have hF' : F' = F := near_unique hEF hF1 hF2
      show down ((1046 - k).toNat * 2 ^ 52 + E * 2 ^ 28) = _
      have e5 : (1046 - k).toNat - 896 = (150 - k).toNat := by omega
      rw [hF0, hF', e5]
end Go.Proofs.Ytficghohflmdeaa
