/- Roots: the program's root of a number of more than 0. -/
import Derived.Test.YtficghohflmdeaaRt2
namespace Go.Proofs.Ytficghohflmdeaa
open Go
set_option linter.unusedVariables false

theorem pow_exp_eq {m u v : Nat} (h1 : 2 ^ 108 ≤ m * 2 ^ u) (h2 : m * 2 ^ u < 2 ^ 110) (h3 : 2 ^ 108 ≤ m * 2 ^ v) (h4 : m * 2 ^ v < 2 ^ 110) (hp : u % 2 = v % 2) : u = v := by
  rcases Nat.lt_trichotomy u v with h | h | h
  · exfalso
    obtain ⟨d, rfl⟩ : ∃ d, v = u + 2 + d := ⟨v - (u + 2), by omega⟩
    have e : m * 2 ^ (u + 2 + d) = m * 2 ^ u * (2 ^ 2 * 2 ^ d) := by rw [Nat.pow_add, Nat.pow_add]; simp only [Nat.mul_assoc]
    rw [e] at h4
    have h5 : 2 ^ 108 * (2 ^ 2 * 1) ≤ m * 2 ^ u * (2 ^ 2 * 2 ^ d) := Nat.mul_le_mul h1 (Nat.mul_le_mul_left _ (Nat.two_pow_pos d))
    have h6 : (2 : Nat) ^ 110 = 2 ^ 108 * (2 ^ 2 * 1) := by decide
    rw [h6] at h4
    exact absurd h4 (Nat.not_lt.2 h5)
  · exact h
  · exfalso
    obtain ⟨d, rfl⟩ : ∃ d, u = v + 2 + d := ⟨u - (v + 2), by omega⟩
    have e : m * 2 ^ (v + 2 + d) = m * 2 ^ v * (2 ^ 2 * 2 ^ d) := by rw [Nat.pow_add, Nat.pow_add]; simp only [Nat.mul_assoc]
    rw [e] at h2
    have h5 : 2 ^ 108 * (2 ^ 2 * 1) ≤ m * 2 ^ v * (2 ^ 2 * 2 ^ d) := Nat.mul_le_mul h3 (Nat.mul_le_mul_left _ (Nat.two_pow_pos d))
    have h6 : (2 : Nat) ^ 110 = 2 ^ 108 * (2 ^ 2 * 1) := by decide
    rw [h6] at h2
    exact absurd h2 (Nat.not_lt.2 h5)

theorem up_num {x m : Nat} {e : Int} (hx : Ieee.single.read x = .number false m e) (h0 : 0 < m) (hm : m < 2 ^ 24) (he1 : -149 ≤ e) (he2 : e ≤ 104) :
    ∃ a, up x = some a ∧ Ieee.double.read a = .number false (m * 2 ^ (52 - m.log2)) (e - (52 - m.log2 : Nat)) ∧ a = ((e - (52 - m.log2 : Nat)) + 1074).toNat * 2 ^ 52 + m * 2 ^ (52 - m.log2) := by
  have hz := double_exact false m e h0 (Nat.lt_trans hm (by decide)) he1 (by omega)
  refine ⟨Ieee.double.nearest false m e, ?_, hz.1, hz.2⟩
  unfold up floatToFloatBits
  rw [if_neg (by decide)]
  have hd : FloatKind.f32.decode x = .number false m e := hx
  rw [hd]
  simp only
  have hi : FloatKind.f64.decode (FloatKind.f64.encode (.number false m e)) = .number false (m * 2 ^ (52 - m.log2)) (e - (52 - m.log2 : Nat)) := hz.1
  rw [hi]
  rfl

theorem sqrt_bits {W t : Nat} (h1 : 2 ^ 54 ≤ W) (h2 : W < 2 ^ 55) (ht : t ≤ 1) : 2 ^ (52 + 3) ≤ 2 * W + t ∧ 2 * W + t < 2 ^ (53 + 3) := by
  have e54 : (2 : Nat) ^ 54 = 18014398509481984 := by decide
  have e55 : (2 : Nat) ^ 55 = 36028797018963968 := by decide
  have e55' : (2 : Nat) ^ (52 + 3) = 36028797018963968 := by decide
  have e56 : (2 : Nat) ^ (53 + 3) = 72057594037927936 := by decide
  rw [e54] at h1; rw [e55] at h2; rw [e55', e56]
  omega
theorem whole_bits {N W : Nat} (h1 : 2 ^ 108 ≤ N) (h2 : N < 2 ^ 110) (hw1 : W * W ≤ N) (hw2 : N < (W + 1) * (W + 1)) : 2 ^ 54 ≤ W ∧ W < 2 ^ 55 := by
  constructor
  · apply Nat.le_of_lt_succ
    apply Nat.mul_self_lt_mul_self_iff.1
    refine Nat.lt_of_le_of_lt ?_ hw2
    have : (2 : Nat) ^ 54 * 2 ^ 54 = 2 ^ 108 := by decide
    rw [this]; exact h1
  · apply Nat.mul_self_lt_mul_self_iff.1
    refine Nat.lt_of_le_of_lt hw1 ?_
    have : (2 : Nat) ^ 55 * 2 ^ 55 = 2 ^ 110 := by decide
    rw [this]; exact h2

theorem rootV_of {x a s r : Nat} (h1 : up x = some a) (h2 : sqrtD a = some s) (h3 : down s = some r) : rootV x = some r := by
  unfold rootV
  rw [h1]
  show (sqrtD a).bind down = _
  rw [h2]
  exact h3
/-- the even number that the reference takes for twice the root -/
def evenR (n r : Nat) : Nat := if (r - r % 2 + 1) * (r - r % 2 + 1) < n then r - r % 2 + 2 else r - r % 2

theorem rootV_num {x m : Nat} {e k : Int} {A r : Nat} (hx : Ieee.single.read x = .number false m e) (h0 : 0 < m) (hm : m < 2 ^ 24) (he1 : -149 ≤ e) (he2 : e ≤ 104) (hA : (A : Int) = e + 2 * k)
    (hn1 : 2 ^ 48 ≤ m * 2 ^ A) (hn2 : m * 2 ^ A < 2 ^ 50) (hr1 : r * r ≤ m * 2 ^ A) (hr2 : m * 2 ^ A < (r + 1) * (r + 1)) :
    ∃ F, rootV x = some ((150 - k).toNat * 2 ^ 23 + F) ∧ evenR (m * 2 ^ A) r = 2 * F := by
  -- the exponents' bounds
  have hA1 : 25 ≤ A := by
    apply Nat.le_of_not_lt
    intro h
    have h1 : m * 2 ^ A ≤ 2 ^ 24 * 2 ^ 24 := Nat.mul_le_mul (Nat.le_of_lt hm) (Nat.pow_le_pow_right (by decide) (by omega))
    have h2 : m * 2 ^ A < 2 ^ 24 * 2 ^ 24 := Nat.lt_of_lt_of_le (Nat.mul_lt_mul_of_pos_right hm (Nat.two_pow_pos A)) (Nat.mul_le_mul_left _ (Nat.pow_le_pow_right (by decide) (by omega)))
    have h3 : (2 : Nat) ^ 24 * 2 ^ 24 = 2 ^ 48 := by decide
    rw [h3] at h2
    exact absurd hn1 (Nat.not_le.2 h2)
  have hA2 : A ≤ 49 := by
    apply Nat.le_of_not_lt
    intro h
    have h1 : 1 * 2 ^ 50 ≤ m * 2 ^ A := Nat.mul_le_mul h0 (Nat.pow_le_pow_right (by decide) (by omega))
    rw [Nat.one_mul] at h1
    exact absurd hn2 (Nat.not_lt.2 h1)
  have hk : -40 ≤ k ∧ k ≤ 99 := by omega
  obtain ⟨a, ha, hra, _⟩ := up_num hx h0 hm he1 he2
  have hl : m.log2 ≤ 52 := by
    have := (Nat.log2_lt (by omega : m ≠ 0)).2 hm
    omega
  obtain ⟨hM1, hM2⟩ := up_bounds h0 hl
  obtain ⟨c, hc⟩ : ∃ c, c = 52 - m.log2 := ⟨_, rfl⟩
  rw [← hc] at hra hM1 hM2
  have hM2' : m * 2 ^ c < 2 ^ (52 + 1) := hM2
  have hlogM : (m * 2 ^ c).log2 = 52 := log2_eq hM1 hM2'
  obtain ⟨par, hpar⟩ : ∃ par, par = ((e - (c : Int) - ((56 : Nat) : Int)) % 2).toNat := ⟨_, rfl⟩
  have hpar2 : par ≤ 1 := by omega
  -- the number under the root
  have hu : c + (56 + par) = A + 60 := by
    refine pow_exp_eq (m := m) ?_ ?_ ?_ ?_ (by omega)
    · rw [Nat.pow_add, ← Nat.mul_assoc]
      have : (2 : Nat) ^ 108 = 2 ^ 52 * 2 ^ 56 := by decide
      rw [this]
      exact Nat.mul_le_mul hM1 (Nat.pow_le_pow_right (by decide) (by omega))
    · rw [Nat.pow_add, ← Nat.mul_assoc]
      have : (2 : Nat) ^ 110 = 2 ^ 53 * 2 ^ 57 := by decide
      rw [this]
      exact Nat.lt_of_lt_of_le (Nat.mul_lt_mul_of_pos_right hM2 (Nat.two_pow_pos _)) (Nat.mul_le_mul_left _ (Nat.pow_le_pow_right (by decide) (by omega)))
    · rw [Nat.pow_add, ← Nat.mul_assoc]
      have : (2 : Nat) ^ 108 = 2 ^ 48 * 2 ^ 60 := by decide
      rw [this]
      exact Nat.mul_le_mul_right _ hn1
    · rw [Nat.pow_add, ← Nat.mul_assoc]
      have : (2 : Nat) ^ 110 = 2 ^ 50 * 2 ^ 60 := by decide
      rw [this]
      exact Nat.mul_lt_mul_of_pos_right hn2 (Nat.two_pow_pos _)
  have hN : (m * 2 ^ c) <<< (56 + par) = m * 2 ^ A * 2 ^ 60 := by
    rw [Nat.shiftLeft_eq, Nat.mul_assoc, Nat.mul_assoc, ← Nat.pow_add, ← Nat.pow_add, hu]
  obtain ⟨n, hn⟩ : ∃ n, n = m * 2 ^ A := ⟨_, rfl⟩
  have hne : n % 2 = 0 := by
    obtain ⟨A', rfl⟩ : ∃ A', A = A' + 1 := ⟨A - 1, by omega⟩
    rw [hn, Nat.pow_succ, ← Nat.mul_assoc]
    exact Nat.mul_mod_left _ _
  rw [← hn] at hN hn1 hn2 hr1 hr2 ⊢
  obtain ⟨W, hW⟩ : ∃ W, W = Ieee.Datum.rootFrom (n * 2 ^ 60) ((n * 2 ^ 60).log2 / 2 + 1) 0 := ⟨_, rfl⟩
  have hWs := root_spec (n * 2 ^ 60)
  simp only [← hW] at hWs
  obtain ⟨hw1, hw2⟩ := hWs
  have hNb : 2 ^ 108 ≤ n * 2 ^ 60 ∧ n * 2 ^ 60 < 2 ^ 110 := by
    have e1 : (2 : Nat) ^ 108 = 2 ^ 48 * 2 ^ 60 := by decide
    have e2 : (2 : Nat) ^ 110 = 2 ^ 50 * 2 ^ 60 := by decide
    rw [e1, e2]
    exact ⟨Nat.mul_le_mul_right _ hn1, Nat.mul_lt_mul_of_pos_right hn2 (Nat.two_pow_pos _)⟩
  obtain ⟨hb1, hb2⟩ := whole_bits hNb.1 hNb.2 hw1 hw2
  obtain ⟨t, ht⟩ : ∃ t, t = (W * W != n * 2 ^ 60).toNat := ⟨_, rfl⟩
  have ht1 : t ≤ 1 := by rw [ht]; cases (W * W != n * 2 ^ 60) <;> simp
  obtain ⟨hs1, hs2⟩ := sqrt_bits hb1 hb2 ht1
  have hP : (e - (c : Int) - ((56 + par : Nat) : Int)) / 2 - 1 = -k - 31 := by omega
  obtain ⟨hnd, hlogW⟩ := nearest_double (2 * W + t) (-k - 31) 3 hs1 hs2 (by omega) (by omega)
  have hsq : sqrtD a = some ((-k - 31 + (3 : Nat) + 1074).toNat * 2 ^ 52 + Ieee.Toward.even.cut false (2 * W + t) 3) := by
    unfold sqrtD
    show ((Ieee.double.read a).root (Ieee.double.fractionBits + 2)).map Ieee.double.write = _
    rw [hra]
    unfold Ieee.Datum.root
    have efb : Ieee.double.fractionBits + 2 = 54 := rfl
    rw [efb]
    have hmz : ¬ (m * 2 ^ c = 0) := by
      have := Nat.two_pow_pos 52
      omega
    simp only [if_neg hmz, Bool.false_eq_true, if_false, hlogM, Option.map_some]
    have e108 : 2 * 54 - 52 = 56 := rfl
    rw [e108, ← hpar, hN, ← hW, ← ht, hP]
    show some (Ieee.double.nearest false (2 * W + t) (-k - 31)) = _
    rw [hnd]
  have hcn := cut_near false (2 * W + t) 3 (by rw [hlogW]; omega)
  obtain ⟨D, hD⟩ : ∃ D, D = Ieee.Toward.even.cut false (2 * W + t) 3 := ⟨_, rfl⟩
  rw [← hD] at hsq hcn
  have hD1 : 2 ^ 52 ≤ D := by
    have e55' : (2 : Nat) ^ (52 + 3) = 36028797018963968 := by decide
    have e52 : (2 : Nat) ^ 52 = 4503599627370496 := by decide
    have e3 : (2 : Nat) ^ 3 = 8 := by decide
    rw [e3] at hcn
    rw [e55'] at hs1
    rw [e52]
    omega
  have hD2 : D ≤ 2 ^ 53 := by
    have e56 : (2 : Nat) ^ (53 + 3) = 72057594037927936 := by decide
    have e53 : (2 : Nat) ^ 53 = 9007199254740992 := by decide
    have e3 : (2 : Nat) ^ 3 = 8 := by decide
    rw [e3] at hcn
    rw [e56] at hs2
    rw [e53]
    omega
  have hq : (-k - 31 + ((3 : Nat) : Int) + 1074).toNat = (1046 - k).toNat := by congr 1; omega
  rw [hq] at hsq
  obtain ⟨F, hF0, hF1, hF2⟩ := down_near (1046 - k).toNat D hD1 hD2 (by omega) (by omega)
  have hq2 : (1046 - k).toNat - 896 = (150 - k).toNat := by omega
  rw [hq2] at hF0
  refine ⟨F, ?_, ?_⟩
  · exact rootV_of ha hsq hF0
  · exact sqrt_round hn1 hn2 hne hr1 hr2 hw1 hw2 ht1 hcn.1 hcn.2 hF1 hF2
end Go.Proofs.Ytficghohflmdeaa
