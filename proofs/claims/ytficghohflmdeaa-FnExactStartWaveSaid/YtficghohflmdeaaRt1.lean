/- Roots: a number's root rounded twice is its root rounded once. Plain arithmetic. -/
import Derived.Test.YtficghohflmdeaaFlo
namespace Go.Proofs.Ytficghohflmdeaa
open Go

theorem rootFrom_spec (n : Nat) : ∀ (todo root : Nat), root * root ≤ n → n < (root + 2 ^ todo) * (root + 2 ^ todo) →
    Ieee.Datum.rootFrom n todo root * Ieee.Datum.rootFrom n todo root ≤ n ∧ n < (Ieee.Datum.rootFrom n todo root + 1) * (Ieee.Datum.rootFrom n todo root + 1)
  | 0, root, h1, h2 => ⟨h1, by simpa [Ieee.Datum.rootFrom] using h2⟩
  | todo + 1, root, h1, h2 => by
    unfold Ieee.Datum.rootFrom
    simp only [Nat.one_shiftLeft]
    by_cases h : (root + 2 ^ todo) * (root + 2 ^ todo) ≤ n
    · rw [if_pos h]
      refine rootFrom_spec n todo _ h ?_
      have e : root + 2 ^ todo + 2 ^ todo = root + 2 ^ (todo + 1) := by rw [Nat.pow_succ]; omega
      rw [e]; exact h2
    · rw [if_neg h]
      exact rootFrom_spec n todo root h1 (by omega)
theorem root_spec (n : Nat) : let w := Ieee.Datum.rootFrom n (n.log2 / 2 + 1) 0
    w * w ≤ n ∧ n < (w + 1) * (w + 1) := by
  refine rootFrom_spec n _ 0 (by omega) ?_
  rw [Nat.zero_add, ← Nat.pow_add]
  have h1 := @Nat.lt_log2_self n
  have h2 : 2 ^ (n.log2 + 1) ≤ 2 ^ (n.log2 / 2 + 1 + (n.log2 / 2 + 1)) := Nat.pow_le_pow_right (by omega) (by omega)
  omega

/-- a number cut to the nearest: at most half a unit off -/
theorem cut_near (s : Bool) (n d : Nat) (hd : d ≤ n.log2 + 2) : 2 * (Ieee.Toward.even.cut s n d * 2 ^ d) ≤ 2 * n + 2 ^ d ∧ 2 * n ≤ 2 * (Ieee.Toward.even.cut s n d * 2 ^ d) + 2 ^ d := by
  unfold Ieee.Toward.cut
  rw [Nat.min_eq_left hd]
  simp only [Nat.one_shiftLeft]
  have hp : 0 < 2 ^ d := Nat.two_pow_pos d
  generalize 2 ^ d = g at hp ⊢
  have hdm := Nat.div_add_mod n g
  have hlt := Nat.mod_lt n hp
  generalize n / g = q at hdm ⊢
  generalize n % g = t at hdm hlt ⊢
  have hc : q * g = g * q := Nat.mul_comm _ _
  cases hb : (decide (g < 2 * t) || g == 2 * t && q % 2 == 1) with
  | true =>
    have h2 : g ≤ 2 * t := by
      simp only [Bool.or_eq_true, decide_eq_true_eq, Bool.and_eq_true, beq_iff_eq] at hb
      omega
    simp only [Bool.toNat_true, Nat.add_mul, Nat.one_mul]
    omega
  | false =>
    have h2 : 2 * t ≤ g := by
      simp only [Bool.or_eq_false_iff, decide_eq_false_iff_not] at hb
      omega
    simp only [Bool.toNat_false, Nat.add_zero]
    omega

theorem near_up {n c d K : Nat} (h1 : 2 * n ≤ 2 * (c * 2 ^ d) + 2 ^ d) (h : 2 * (K * 2 ^ d) + 2 ^ d < 2 * n) : K < c := by
  have h2 : K * 2 ^ d < c * 2 ^ d := by omega
  exact Nat.lt_of_mul_lt_mul_right h2
theorem near_down {n c d K : Nat} (h1 : 2 * (c * 2 ^ d) ≤ 2 * n + 2 ^ d) (h : 2 * n < 2 * (K * 2 ^ d) + 2 ^ d) : c ≤ K := by
  have h2 : c * 2 ^ d < (K + 1) * 2 ^ d := by rw [Nat.add_mul, Nat.one_mul]; omega
  exact Nat.le_of_lt_succ (Nat.lt_of_mul_lt_mul_right h2)

theorem aux_o {o : Nat} (h : o < 33554432) : o * 32212254720 + 225 < 1152921504606846976 := by
  have h1 : o * 32212254720 ≤ 33554431 * 32212254720 := Nat.mul_le_mul_right _ (by omega)
  exact Nat.lt_of_le_of_lt (Nat.add_le_add_right h1 225) (by decide)
theorem aux_c {a b c n C : Nat} (h2 : (a + 1) * C ≤ n * C) (h3 : b + c < C) : a * C + b + c < n * C := by
  rw [Nat.add_mul, Nat.one_mul] at h2
  omega
/-- the root of an even number of 49 or 50 bits, rounded to 53 bits and then to 24: that of the reference -/
theorem sqrt_round {n r W t D F : Nat} (hn1 : 2 ^ 48 ≤ n) (hn2 : n < 2 ^ 50) (hne : n % 2 = 0) (hr1 : r * r ≤ n) (hr2 : n < (r + 1) * (r + 1)) (hw1 : W * W ≤ n * 2 ^ 60) (hw2 : n * 2 ^ 60 < (W + 1) * (W + 1)) (ht : t ≤ 1)
    (hD1 : 2 * (D * 2 ^ 3) ≤ 2 * (2 * W + t) + 2 ^ 3) (hD2 : 2 * (2 * W + t) ≤ 2 * (D * 2 ^ 3) + 2 ^ 3) (hF1 : 2 * (F * 2 ^ 29) ≤ 2 * D + 2 ^ 29) (hF2 : 2 * D ≤ 2 * (F * 2 ^ 29) + 2 ^ 29) :
    (if (r - r % 2 + 1) * (r - r % 2 + 1) < n then r - r % 2 + 2 else r - r % 2) = 2 * F := by
  obtain ⟨h, hh⟩ : ∃ h, h = r / 2 := ⟨_, rfl⟩
  have he : r - r % 2 = 2 * h := by omega
  have hr3 : r ≤ 2 * h + 1 := by omega
  have hr4 : 2 * h ≤ r := by omega
  rw [he]
  have hb : h < 2 ^ 24 := by
    have h1 : (2 * h) * (2 * h) ≤ r * r := Nat.mul_le_mul hr4 hr4
    have h2 : (2 * h) * (2 * h) < 2 ^ 25 * 2 ^ 25 := by
      have : (2 : Nat) ^ 25 * 2 ^ 25 = 2 ^ 50 := by decide
      omega
    have h3 := Nat.mul_self_lt_mul_self_iff.1 h2
    omega
  -- the root of n, scaled: between 2h and 2h + 2
  have hlow : 2 * h * 2 ^ 30 ≤ W := by
    apply Nat.le_of_lt_succ
    apply Nat.mul_self_lt_mul_self_iff.1
    refine Nat.lt_of_le_of_lt ?_ hw2
    have h1 : (2 * h) * (2 * h) ≤ n := Nat.le_trans (Nat.mul_le_mul hr4 hr4) hr1
    have h2 : 2 * h * 2 ^ 30 * (2 * h * 2 ^ 30) = (2 * h) * (2 * h) * 2 ^ 60 := by
      rw [show (2 : Nat) ^ 60 = 2 ^ 30 * 2 ^ 30 by decide]
      simp only [Nat.mul_comm, Nat.mul_left_comm, Nat.mul_assoc]
    rw [h2]
    exact Nat.mul_le_mul_right _ h1
  have hhigh : W < (2 * h + 2) * 2 ^ 30 := by
    apply Nat.mul_self_lt_mul_self_iff.1
    refine Nat.lt_of_le_of_lt hw1 ?_
    have h1 : n < (2 * h + 2) * (2 * h + 2) := Nat.lt_of_lt_of_le hr2 (Nat.mul_le_mul (by omega) (by omega))
    have h2 : (2 * h + 2) * 2 ^ 30 * ((2 * h + 2) * 2 ^ 30) = (2 * h + 2) * (2 * h + 2) * 2 ^ 60 := by
      rw [show (2 : Nat) ^ 60 = 2 ^ 30 * 2 ^ 30 by decide]
      simp only [Nat.mul_comm, Nat.mul_left_comm, Nat.mul_assoc]
    rw [h2]
    exact Nat.mul_lt_mul_of_pos_right h1 (by decide)
  obtain ⟨o, ho⟩ : ∃ o, o = 2 * h + 1 := ⟨_, rfl⟩
  have e30 : (2 : Nat) ^ 30 = 1073741824 := by decide
  have e60 : (2 : Nat) ^ 60 = 1152921504606846976 := by decide
  have e29 : (2 : Nat) ^ 29 = 536870912 := by decide
  have e24 : (2 : Nat) ^ 24 = 16777216 := by decide
  have e3 : (2 : Nat) ^ 3 = 8 := by decide
  rw [e30] at hlow hhigh
  rw [e29] at hF1 hF2
  rw [e3] at hD1 hD2
  rw [e24] at hb
  rw [← ho]
  have hodd : n ≠ o * o := by
    intro hno
    have h1 : o * o = 2 * (2 * h * h + 2 * h) + 1 := by
      rw [ho, Nat.add_mul, Nat.mul_add, Nat.one_mul, Nat.mul_one]
      have : 2 * h * (2 * h) = 2 * (2 * h * h) := by simp only [Nat.mul_comm, Nat.mul_left_comm]
      omega
    omega
  by_cases hc : o * o < n
  · rw [if_pos hc]
    -- W ≥ o * 2^30 + 15
    have hW : o * 1073741824 + 15 ≤ W := by
      apply Nat.le_of_lt_succ
      apply Nat.mul_self_lt_mul_self_iff.1
      refine Nat.lt_of_le_of_lt ?_ hw2
      rw [e60]
      have h1 : (o * 1073741824 + 15) * (o * 1073741824 + 15) = o * o * 1152921504606846976 + o * 32212254720 + 225 := by
        rw [Nat.add_mul, Nat.mul_add, Nat.mul_add]
        have a1 : o * 1073741824 * (o * 1073741824) = o * o * 1152921504606846976 := by
          rw [Nat.mul_mul_mul_comm]
        have a2 : o * 1073741824 * 15 = o * 16106127360 := by omega
        have a3 : 15 * (o * 1073741824) = o * 16106127360 := by omega
        rw [a1, a2, a3]; omega
      rw [h1]
      have h2 : (o * o + 1) * 1152921504606846976 ≤ n * 1152921504606846976 := Nat.mul_le_mul_right _ hc
      exact Nat.le_of_lt (aux_c (a := o * o) (b := o * 32212254720) (c := 225) (n := n) (C := 1152921504606846976) h2 (aux_o (by omega)))
    have hF : F = h + 1 := by omega
    omega
  · rw [if_neg hc]
    have hlt : n + 1 ≤ o * o := by omega
    have hW : W + 15 < o * 1073741824 := by
      apply Nat.lt_of_not_le
      intro hge
      have h0 : o * 1073741824 ≤ W + 15 := hge
      have h00 : (o * 1073741824) * (o * 1073741824) ≤ (W + 15) * (W + 15) := Nat.mul_le_mul h0 h0
      have a1 : o * 1073741824 * (o * 1073741824) = o * o * 1152921504606846976 := by rw [Nat.mul_mul_mul_comm]
      rw [a1] at h00
      have h2 : (n + 1) * 1152921504606846976 ≤ o * o * 1152921504606846976 := Nat.mul_le_mul_right _ hlt
      rw [Nat.add_mul] at h2
      rw [e60] at hw1
      have h3 : (W + 15) * (W + 15) = W * W + W * 30 + 225 := by
        rw [Nat.add_mul, Nat.mul_add, Nat.mul_add]; omega
      rw [h3] at h00
      have h4 : W * 30 + 225 < 1152921504606846976 := by omega
      omega
    have hF : F = h := by omega
    omega
end Go.Proofs.Ytficghohflmdeaa
