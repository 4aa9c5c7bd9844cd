/- Roots: what the program's root gives. -/
import Derived.Test.YtficghohflmdeaaRt1
import Derived.Test.YtficghohflmdeaaPh1
namespace Go.Proofs.Ytficghohflmdeaa
open Go
set_option linter.unusedVariables false

theorem log2_eq {n a : Nat} (h1 : 2 ^ a ≤ n) (h2 : n < 2 ^ (a + 1)) : n.log2 = a := by
  have hn : n ≠ 0 := by have := Nat.two_pow_pos a; omega
  have h3 := (Nat.le_log2 hn).2 h1
  have h4 := (Nat.log2_lt hn).2 h2
  omega

/-- a double's word with all its digits -/
theorem read_double (q D : Nat) (h1 : 2 ^ 52 ≤ D) (h2 : D < 2 ^ 53) (hq : q ≤ 2000) : Ieee.double.read (q * 2 ^ 52 + D) = .number false D ((q : Int) - 1074) := by
  have e52 : (2 : Nat) ^ 52 = 4503599627370496 := by decide
  have e53 : (2 : Nat) ^ 53 = 9007199254740992 := by decide
  rw [e52] at h1 ⊢
  rw [e53] at h2
  unfold Ieee.Format.read
  have einf : Ieee.double.infRung = 9218868437227405312 := rfl
  have esw : Ieee.double.signWeight = 9223372036854775808 := rfl
  have ebn : Ieee.double.binade = 4503599627370496 := rfl
  have elp : Ieee.double.leastPlace = -1074 := rfl
  simp only [einf, esw, ebn, elp]
  obtain ⟨w, hw⟩ : ∃ w, w = q * 4503599627370496 + D := ⟨_, rfl⟩
  rw [← hw]
  have b1 : w / 9223372036854775808 % 2 = 0 := by omega
  have b2 : w % 9223372036854775808 = w := by omega
  rw [b1, b2, if_neg (by omega), if_pos (by omega)]
  have b3 : w / 4503599627370496 = q + 1 := by omega
  have b4 : w % 4503599627370496 = D - 4503599627370496 := by omega
  rw [b3, b4]
  have b5 : 4503599627370496 + (D - 4503599627370496) = D := by omega
  have b6 : (-1074 : Int) + ((q + 1 - 1 : Nat) : Int) = (q : Int) - 1074 := by omega
  rw [b5, b6]
  rfl

/-- the nearest double, of a number with digits enough -/
theorem nearest_double (mag : Nat) (p : Int) (d : Nat) (h1 : 2 ^ (52 + d) ≤ mag) (h2 : mag < 2 ^ (53 + d)) (hp1 : -1000 ≤ p + d) (hp2 : p + d ≤ 900) :
    Ieee.double.nearest false mag p = (p + d + 1074).toNat * 2 ^ 52 + Ieee.Toward.even.cut false mag d ∧ mag.log2 = 52 + d := by
  have hlog : mag.log2 = 52 + d := log2_eq h1 (by rw [show 52 + d + 1 = 53 + d by omega]; exact h2)
  refine ⟨?_, hlog⟩
  have hm : 0 < mag := by have := Nat.two_pow_pos (52 + d); omega
  unfold Ieee.Format.nearest
  rw [if_neg (by omega), hlog]
  have elp : Ieee.double.leastPlace = -1074 := rfl
  have efb : Ieee.double.fractionBits = 52 := rfl
  have ebn : Ieee.double.binade = 2 ^ 52 := rfl
  have einf : Ieee.double.infRung = 9218868437227405312 := rfl
  simp only [elp, efb, ebn, einf]
  have elast : max (p + ((52 + d : Nat) : Int) - ((52 : Nat) : Int)) (-1074) = p + d := by omega
  simp only [elast]
  have e1 : (p - (p + d)).toNat = 0 := by omega
  have e2 : ((p + d) - p).toNat = d := by omega
  have e3 : (p + (d : Int) - -1074) = p + d + 1074 := by omega
  rw [e1, e2, e3, Nat.shiftLeft_zero]
  have hc := (cut_near false mag d (by omega)).1
  have hcb : Ieee.Toward.even.cut false mag d ≤ 2 ^ 53 := by
    have h3 : 2 ^ (53 + d) = 2 ^ 53 * 2 ^ d := Nat.pow_add _ _ _
    rw [h3] at h2
    exact near_down hc (by omega)
  have e53 : (2 : Nat) ^ 53 = 9007199254740992 := by decide
  have e52 : (2 : Nat) ^ 52 = 4503599627370496 := by decide
  rw [e53] at hcb
  rw [e52]
  unfold Ieee.Format.word
  simp only [Bool.false_eq_true, if_false]
  have hq : (p + (d : Int) + 1074).toNat ≤ 1974 := by omega
  apply Nat.min_eq_left
  omega

/-- the nearest single, of a number of 53 digits -/
theorem nearest_single (mag : Nat) (p : Int) (h1 : 2 ^ 52 ≤ mag) (h2 : mag < 2 ^ 53) (hp1 : -100 ≤ p + 29) (hp2 : p + 29 ≤ 100) :
    Ieee.single.nearest false mag p = (p + 29 + 149).toNat * 2 ^ 23 + Ieee.Toward.even.cut false mag 29 := by
  have hlog : mag.log2 = 52 := log2_eq h1 h2
  have hm : 0 < mag := by have := Nat.two_pow_pos 52; omega
  unfold Ieee.Format.nearest
  rw [if_neg (by omega), hlog]
  have elp : Ieee.single.leastPlace = -149 := rfl
  have efb : Ieee.single.fractionBits = 23 := rfl
  have ebn : Ieee.single.binade = 2 ^ 23 := rfl
  have einf : Ieee.single.infRung = 2139095040 := rfl
  simp only [elp, efb, ebn, einf]
  have elast : max (p + ((52 : Nat) : Int) - ((23 : Nat) : Int)) (-149) = p + 29 := by omega
  simp only [elast]
  have e1 : (p - (p + 29)).toNat = 0 := by omega
  have e2 : ((p + 29) - p).toNat = 29 := by omega
  have e3 : (p + 29 - -149) = p + 29 + 149 := by omega
  rw [e1, e2, e3, Nat.shiftLeft_zero]
  have hc := (cut_near false mag 29 (by omega)).1
  have hcb : Ieee.Toward.even.cut false mag 29 ≤ 2 ^ 24 := near_down hc (by omega)
  have e24 : (2 : Nat) ^ 24 = 16777216 := by decide
  have e23 : (2 : Nat) ^ 23 = 8388608 := by decide
  rw [e24] at hcb
  rw [e23]
  unfold Ieee.Format.word
  simp only [Bool.false_eq_true, if_false]
  have hq : (p + 29 + 149).toNat ≤ 249 := by omega
  apply Nat.min_eq_left
  omega

/-- a single's word is no infinity -/
theorem single_finite (r : Nat) (h : r < 2139095040) : (FloatKind.f32.decode r).isInfinity = false := by
  show (Ieee.single.read r).isInfinity = false
  unfold Ieee.Format.read
  have einf : Ieee.single.infRung = 2139095040 := rfl
  have esw : Ieee.single.signWeight = 2147483648 := rfl
  simp only [einf, esw]
  have h2 : r % 2147483648 = r := by omega
  rw [h2]
  split
  · rfl
  · first | rfl | (rw [if_pos h]; rfl)

theorem down_aux {q : Nat} (h : 945 ≤ q) : (q - 895) * 2 ^ 23 + 2 ^ 23 = (q - 896) * 2 ^ 23 + 2 ^ 24 := by
  obtain ⟨t, rfl⟩ : ∃ t, q = t + 896 := ⟨q - 896, by omega⟩
  have e : (2 : Nat) ^ 24 = 2 ^ 23 * 2 := Nat.pow_succ 2 23
  rw [e, show t + 896 - 895 = t + 1 by omega, show t + 896 - 896 = t by omega]
  generalize (2 : Nat) ^ 23 = K
  rw [Nat.add_mul, Nat.one_mul]
  omega
/-- the narrowing of a double with all its digits: its word, and how near it is -/
theorem down_near (q D : Nat) (h1 : 2 ^ 52 ≤ D) (h2 : D ≤ 2 ^ 53) (hq1 : 945 ≤ q) (hq2 : q ≤ 1140) :
    ∃ F, down (q * 2 ^ 52 + D) = some ((q - 896) * 2 ^ 23 + F) ∧ 2 * (F * 2 ^ 29) ≤ 2 * D + 2 ^ 29 ∧ 2 * D ≤ 2 * (F * 2 ^ 29) + 2 ^ 29 := by
  by_cases h3 : D < 2 ^ 53
  · have hr := read_double q D h1 h3 (by omega)
    have hs := nearest_single D ((q : Int) - 1074) h1 h3 (by omega) (by omega)
    have hc := cut_near false D 29 (by rw [log2_eq h1 h3]; omega)
    have hF : Ieee.Toward.even.cut false D 29 ≤ 2 ^ 24 := near_down hc.1 (by omega)
    refine ⟨Ieee.Toward.even.cut false D 29, ?_, hc.1, hc.2⟩
    have hq : ((q : Int) - 1074 + 29 + 149).toNat = q - 896 := by omega
    rw [hq] at hs
    have e24 : (2 : Nat) ^ 24 = 16777216 := by decide
    have e23 : (2 : Nat) ^ 23 = 8388608 := by decide
    unfold down floatToFloatBits
    rw [if_neg (by decide)]
    have hd : FloatKind.f64.decode (q * 2 ^ 52 + D) = .number false D ((q : Int) - 1074) := hr
    rw [hd]
    simp only
    have he : FloatKind.f32.encode (.number false D ((q : Int) - 1074)) = (q - 896) * 2 ^ 23 + Ieee.Toward.even.cut false D 29 := hs
    rw [he, single_finite _ (by rw [e23]; rw [e24] at hF; omega)]
    rfl
  · have hD : D = 2 ^ 53 := by omega
    subst hD
    refine ⟨2 ^ 24, ?_, by decide +kernel, by decide +kernel⟩
    have e : q * 2 ^ 52 + 2 ^ 53 = (q + 1) * 2 ^ 52 + 2 ^ 52 := by
      have : (2 : Nat) ^ 53 = 2 ^ 52 + 2 ^ 52 := by decide
      rw [this, Nat.add_mul, Nat.one_mul, Nat.add_assoc]
    rw [e]
    have hr := read_double (q + 1) (2 ^ 52) (Nat.le_refl _) (by decide) (by omega)
    have hs := nearest_single (2 ^ 52) (((q + 1 : Nat) : Int) - 1074) (Nat.le_refl _) (by decide) (by omega) (by omega)
    have hq : ((((q + 1 : Nat) : Int) - 1074 + 29 + 149)).toNat = q - 895 := by omega
    rw [hq, show Ieee.Toward.even.cut false (2 ^ 52) 29 = 2 ^ 23 by decide +kernel] at hs
    have e2 : (q - 895) * 2 ^ 23 + 2 ^ 23 = (q - 896) * 2 ^ 23 + 2 ^ 24 := down_aux (by omega)
    rw [e2] at hs
    unfold down floatToFloatBits
    rw [if_neg (by decide)]
    have hd : FloatKind.f64.decode ((q + 1) * 2 ^ 52 + 2 ^ 52) = .number false (2 ^ 52) (((q + 1 : Nat) : Int) - 1074) := hr
    rw [hd]
    simp only
    have he : FloatKind.f32.encode (.number false (2 ^ 52) (((q + 1 : Nat) : Int) - 1074)) = (q - 896) * 2 ^ 23 + 2 ^ 24 := hs
    have e24 : (2 : Nat) ^ 24 = 16777216 := by decide
    have e23 : (2 : Nat) ^ 23 = 8388608 := by decide
    rw [he, single_finite _ (by rw [e23, e24]; omega)]
    rfl
end Go.Proofs.Ytficghohflmdeaa
