/- Plain facts on floats: quotients that stay finite. -/
import Derived.Test.YtphbjfijipcpnaaFlo
namespace Go.Proofs.Ytphbjfijipcpnaa
open Go

theorem cut_le (s : Bool) (mag drop : Nat) (h : mag < 2 ^ (24 + drop)) : Ieee.Toward.even.cut s mag drop ≤ 2 ^ 24 := by
  unfold Ieee.Toward.cut
  simp only [Nat.one_shiftLeft]
  have hm : ∀ b : Bool, b.toNat ≤ 1 := fun b => by cases b <;> simp
  have hlow : mag / 2 ^ min drop (mag.log2 + 2) < 2 ^ 24 := by
    by_cases hd : drop ≤ mag.log2 + 2
    · rw [Nat.min_eq_left hd]
      rw [Nat.div_lt_iff_lt_mul (Nat.pow_pos (by omega)), ← Nat.pow_add]; exact h
    · rw [Nat.min_eq_right (by omega)]
      have : mag < 2 ^ (mag.log2 + 2) := by
        have h1 := @Nat.lt_log2_self mag
        have h2 : 2 ^ (mag.log2 + 1) ≤ 2 ^ (mag.log2 + 2) := Nat.pow_le_pow_right (by omega) (by omega)
        omega
      rw [Nat.div_eq_of_lt this]; decide
  have := hm (decide (2 ^ min drop (mag.log2 + 2) < 2 * (mag % 2 ^ min drop (mag.log2 + 2))) || 2 ^ min drop (mag.log2 + 2) == 2 * (mag % 2 ^ min drop (mag.log2 + 2)) && mag / 2 ^ min drop (mag.log2 + 2) % 2 == 1)
  omega

theorem single_word_number (s : Bool) (r : Nat) (h : r < 2139095040) : ∃ s' m e, Ieee.single.read (Ieee.single.word s r) = .number s' m e := by
  unfold Ieee.Format.read
  have einf : Ieee.single.infRung = 2139095040 := rfl
  have esw : Ieee.single.signWeight = 2147483648 := rfl
  simp only [word_mod Ieee.single s r (by rw [esw]; omega), einf]
  split
  · exact ⟨_, _, _, rfl⟩
  · first | exact ⟨_, _, _, rfl⟩ | (rw [if_pos h]; exact ⟨_, _, _, rfl⟩)

theorem cut_bound (s : Bool) (mag : Nat) (place last : Int) (hl3 : place + mag.log2 - 23 ≤ last) : Ieee.Toward.even.cut s (mag <<< (place - last).toNat) (last - place).toNat ≤ 2 ^ 24 := by
  have hup : mag < 2 ^ (mag.log2 + 1) := Nat.lt_log2_self
  apply cut_le
  rw [Nat.shiftLeft_eq]
  by_cases hp : place ≤ last
  · have e1 : (place - last).toNat = 0 := by omega
    rw [e1, Nat.pow_zero, Nat.mul_one]
    refine Nat.lt_of_lt_of_le hup (Nat.pow_le_pow_right (by omega) ?_)
    omega
  · have e1 : (last - place).toNat = 0 := by omega
    rw [e1, Nat.add_zero]
    have h2 : mag * 2 ^ (place - last).toNat < 2 ^ (mag.log2 + 1) * 2 ^ (place - last).toNat := Nat.mul_lt_mul_of_pos_right hup (Nat.pow_pos (by omega))
    rw [← Nat.pow_add] at h2
    refine Nat.lt_of_lt_of_le h2 (Nat.pow_le_pow_right (by omega) ?_)
    omega

theorem rung_small (q kept : Nat) (hq : q ≤ 252) (hk : kept ≤ 2 ^ 24) : min (q * 8388608 + kept) 2139095040 < 2139095040 := by
  have e2 : (2 : Nat) ^ 24 = 16777216 := by decide
  rw [e2] at hk
  omega

/-- a number that is less than 2 ^ 127 is met by a finite one -/
theorem nearest_finite (s : Bool) (mag : Nat) (place : Int) (hm : 0 < mag) (h : place + mag.log2 ≤ 126) : ∃ s' m e, Ieee.single.read (Ieee.single.nearest s mag place) = .number s' m e := by
  obtain ⟨last, hlast⟩ : ∃ last : Int, last = max (place + (mag.log2 : Int) - (23 : Nat)) (-149) := ⟨_, rfl⟩
  have e : Ieee.single.nearest s mag place = Ieee.single.word s (min ((last - -149).toNat * 8388608 + Ieee.Toward.even.cut s (mag <<< (place - last).toNat) (last - place).toNat) 2139095040) := by
    unfold Ieee.Format.nearest
    rw [if_neg (by omega), hlast]
    rfl
  rw [e]
  exact single_word_number _ _ (rung_small _ _ (by omega) (cut_bound s mag place last (by omega)))

theorem nearest_zero (s : Bool) (place : Int) : ∃ s' m e, Ieee.single.read (Ieee.single.nearest s 0 place) = .number s' m e := by
  have e : Ieee.single.nearest s 0 place = Ieee.single.word s 0 := by unfold Ieee.Format.nearest; rfl
  rw [e]; exact single_word_number s 0 (by omega)

theorem quo_digits (m n more : Nat) (b : Bool) (hm : 0 < m) (hml : m.log2 ≤ 23) (hmore : more = 48 - m.log2) (hn : 2 ^ 23 ≤ n) : (2 * ((m <<< more) / n) + b.toNat).log2 ≤ 26 := by
  have hb : b.toNat ≤ 1 := by cases b <;> simp
  have h1 : m * 2 ^ more < 2 ^ 49 := by
    have hup : m < 2 ^ (m.log2 + 1) := Nat.lt_log2_self
    have h2 : m * 2 ^ more < 2 ^ (m.log2 + 1) * 2 ^ more := Nat.mul_lt_mul_of_pos_right hup (Nat.pow_pos (by omega))
    rw [← Nat.pow_add] at h2
    have e : m.log2 + 1 + more = 49 := by omega
    rw [e] at h2; exact h2
  rw [Nat.shiftLeft_eq]
  have h3 : m * 2 ^ more / n < 2 ^ 26 := by
    rw [Nat.div_lt_iff_lt_mul (by omega)]
    refine Nat.lt_of_lt_of_le h1 ?_
    have : 2 ^ 26 * 2 ^ 23 ≤ 2 ^ 26 * n := Nat.mul_le_mul_left _ hn
    have e : (2 : Nat) ^ 26 * 2 ^ 23 = 2 ^ 49 := by decide
    rw [e] at this; exact this
  generalize m * 2 ^ more / n = q at *
  by_cases h0 : 2 * q + b.toNat = 0
  · rw [h0]; decide
  · have : (2 * q + b.toNat).log2 < 27 := (Nat.log2_lt h0).2 (by
      have e : (2 : Nat) ^ 27 = 2 * 2 ^ 26 := by decide
      omega)
    omega

theorem single_log2 {m : Nat} (h : m < 2 ^ 24) : m.log2 ≤ 23 := by
  by_cases h0 : m = 0
  · subst h0; decide
  · have := (Nat.log2_lt h0).2 h; omega

theorem quo_write (x c : Nat) {s : Bool} {m n : Nat} {i j : Int} (hx : Ieee.single.read x = .number s m i) (hc : Ieee.single.read c = .number false n j) (hn : 2 ^ 23 ≤ n) (hnl : n.log2 = 23) :
    floatBits .quo .f32 x c = some (Ieee.single.nearest s (2 * ((m <<< (48 - m.log2)) / n) + ((m <<< (48 - m.log2)) % n != 0).toNat) (i - j - (48 - m.log2 : Nat) - 1)) := by
  show FloatKind.f32.format.div x c = _
  unfold Ieee.Format.div
  have hx' : FloatKind.f32.format.read x = .number s m i := hx
  have hc' : FloatKind.f32.format.read c = .number false n j := hc
  have hn0 : ¬ n = 0 := by omega
  rw [hx', hc']
  simp only [Ieee.Datum.quotient, if_neg hn0, Option.map_some, Bool.xor_false]
  rw [hnl]
  rfl

theorem fin_of_read {b : Nat} (h : ∃ s m e, Ieee.single.read b = .number s m e) : fin (some b) = true := by
  obtain ⟨s, m, e, h⟩ := h
  exact fin_num.2 ⟨b, s, m, e, rfl, h⟩

theorem fin_quo_back {x : FV} {c : Nat} {n : Nat} {j : Int} (hc : Ieee.single.read c = .number false n j) (h : fin (arith .quo .f32 x (some c)) = true) : fin x = true := by
  cases x with
  | none => simp [arith, lift2, fin_none] at h
  | some a =>
    cases hf : fin (some a) with
    | true => rfl
    | false =>
      have e : arith .quo .f32 (some a) (some c) = Ieee.single.div a c := rfl
      rw [e] at h
      unfold Ieee.Format.div at h
      rcases fin_of_datum hf with ⟨s, hd⟩ | hd
      · have hd' : Ieee.single.read a = .infinity s := hd
        rw [hd', hc] at h
        simp only [Ieee.Datum.quotient, Option.map_some] at h
        rw [fin_inf] at h; cases h
      · have hd' : (Ieee.single.read a).isNaN = true := hd
        rw [read_nan_quotient (.inl hd')] at h
        cases h

theorem fin_quo {x : FV} {c : Nat} {n : Nat} {j : Int} (hc : Ieee.single.read c = .number false n j) (hn : 2 ^ 23 ≤ n) (hnl : n.log2 = 23) (hj : -22 ≤ j) : fin (arith .quo .f32 x (some c)) = fin x := by
  cases hf : fin x with
  | false =>
    cases hq : fin (arith .quo .f32 x (some c)) with
    | false => rfl
    | true => rw [fin_quo_back hc hq] at hf; cases hf
  | true =>
    obtain ⟨a, s, m, i, rfl, hd⟩ := fin_num.1 hf
    have hd' : Ieee.single.read a = .number s m i := hd
    have hb : m < 2 ^ 24 ∧ -149 ≤ i ∧ i ≤ 104 := by
      rcases single_read a with ⟨s', m', e', h', b⟩ | ⟨s', h'⟩ | ⟨s', t', h'⟩
      · rw [hd'] at h'; cases h'; exact b
      · rw [hd'] at h'; cases h'
      · rw [hd'] at h'; cases h'
    have e : arith .quo .f32 (some a) (some c) = floatBits .quo .f32 a c := rfl
    rw [e, quo_write a c hd' hc hn hnl]
    apply fin_of_read
    by_cases hz : 2 * ((m <<< (48 - m.log2)) / n) + ((m <<< (48 - m.log2)) % n != 0).toNat = 0
    · rw [hz]; exact nearest_zero _ _
    · apply nearest_finite _ _ _ (by omega)
      have hml := single_log2 hb.1
      by_cases hm0 : m = 0
      · subst hm0
        exfalso; apply hz
        simp
      · have := quo_digits m n (48 - m.log2) ((m <<< (48 - m.log2)) % n != 0) (by omega) hml rfl hn
        omega

theorem rung_small2 (q kept : Nat) (hq : q ≤ 253) (hk : kept < 16777216) : min (q * 8388608 + kept) 2139095040 < 2139095040 := by omega

theorem cut_exact (s : Bool) (a d : Nat) (h : d ≤ (a * 2 ^ d).log2 + 2) : Ieee.Toward.even.cut s (a * 2 ^ d) d = a := by
  unfold Ieee.Toward.cut
  simp only [Nat.one_shiftLeft, Nat.min_eq_left h]
  have hp : 0 < 2 ^ d := Nat.pow_pos (by omega)
  have h0 : ¬ (2 ^ d = 0) := by omega
  rw [Nat.mul_div_cancel _ hp, Nat.mul_mod_left]
  simp [h0]

theorem fin_quo_one {x : FV} : fin (arith .quo .f32 x (some 1065353216)) = fin x := by
  have hc : Ieee.single.read 1065353216 = .number false (2 ^ 23) (-23) := by decide
  cases hf : fin x with
  | false =>
    cases hq : fin (arith .quo .f32 x (some 1065353216)) with
    | false => rfl
    | true => rw [fin_quo_back hc hq] at hf; cases hf
  | true =>
    obtain ⟨a, s, m, i, rfl, hd⟩ := fin_num.1 hf
    have hd' : Ieee.single.read a = .number s m i := hd
    have hb : m < 2 ^ 24 ∧ -149 ≤ i ∧ i ≤ 104 := by
      rcases single_read a with ⟨s', m', e', h', b⟩ | ⟨s', h'⟩ | ⟨s', t', h'⟩
      · rw [hd'] at h'; cases h'; exact b
      · rw [hd'] at h'; cases h'
      · rw [hd'] at h'; cases h'
    have e : arith .quo .f32 (some a) (some 1065353216) = floatBits .quo .f32 a 1065353216 := rfl
    rw [e, quo_write a 1065353216 hd' hc (Nat.le_refl _) (by decide)]
    apply fin_of_read
    by_cases hm0 : m = 0
    · subst hm0
      have hz : 2 * ((0 <<< (48 - Nat.log2 0)) / 2 ^ 23) + ((0 <<< (48 - Nat.log2 0)) % 2 ^ 23 != 0).toNat = 0 := by simp
      rw [hz]; exact nearest_zero _ _
    · have hml := single_log2 hb.1
      obtain ⟨l, hl⟩ : ∃ l, l = m.log2 := ⟨_, rfl⟩
      rw [← hl] at hml ⊢
      have hlo : 2 ^ l ≤ m := by rw [hl]; exact Nat.log2_self_le hm0
      have hup : m < 2 ^ (l + 1) := by rw [hl]; exact Nat.lt_log2_self
      have e1 : m <<< (48 - l) = (m * 2 ^ (25 - l)) * 2 ^ 23 := by
        rw [Nat.shiftLeft_eq, Nat.mul_assoc, ← Nat.pow_add]; congr 2; omega
      have e2 : 2 * ((m <<< (48 - l)) / 2 ^ 23) + ((m <<< (48 - l)) % 2 ^ 23 != 0).toNat = m * 2 ^ (26 - l) := by
        rw [e1, Nat.mul_div_cancel _ (by decide), Nat.mul_mod_left]
        have : 26 - l = (25 - l) + 1 := by omega
        rw [this, Nat.pow_succ]
        simp; rw [Nat.mul_comm 2, Nat.mul_assoc]
      rw [e2]
      have hlog : (m * 2 ^ (26 - l)).log2 = 26 := by
        have h1 : 2 ^ 26 ≤ m * 2 ^ (26 - l) := by
          have : 2 ^ l * 2 ^ (26 - l) ≤ m * 2 ^ (26 - l) := Nat.mul_le_mul_right _ hlo
          rw [← Nat.pow_add] at this
          have e : l + (26 - l) = 26 := by omega
          rw [e] at this; exact this
        have h2 : m * 2 ^ (26 - l) < 2 ^ 27 := by
          have : m * 2 ^ (26 - l) < 2 ^ (l + 1) * 2 ^ (26 - l) := Nat.mul_lt_mul_of_pos_right hup (Nat.pow_pos (by omega))
          rw [← Nat.pow_add] at this
          have e : l + 1 + (26 - l) = 27 := by omega
          rw [e] at this; exact this
        have h0 : m * 2 ^ (26 - l) ≠ 0 := by have : 0 < 2 ^ 26 := by decide
                                             omega
        have a1 := (Nat.log2_lt h0).2 h2
        have a2 := (Nat.le_log2 h0).2 h1
        omega
      have hp : i - -23 - (48 - l : Nat) - 1 = i + l - 26 := by omega
      rw [hp]
      obtain ⟨last, hlast⟩ : ∃ last : Int, last = max (i + l - 26 + (26 : Nat) - (23 : Nat)) (-149) := ⟨_, rfl⟩
      have en : Ieee.single.nearest s (m * 2 ^ (26 - l)) (i + l - 26) = Ieee.single.word s (min ((last - -149).toNat * 8388608 + Ieee.Toward.even.cut s ((m * 2 ^ (26 - l)) <<< (i + l - 26 - last).toNat) (last - (i + l - 26)).toNat) 2139095040) := by
        unfold Ieee.Format.nearest
        have h0 : ¬ m * 2 ^ (26 - l) = 0 := by
          intro e0; rw [e0] at hlog; revert hlog; decide
        rw [if_neg h0, hlog, hlast]
        rfl
      rw [en]
      have z1 : (i + l - 26 - last).toNat = 0 := by omega
      obtain ⟨d, hd3⟩ : ∃ d, d = (last - (i + l - 26)).toNat := ⟨_, rfl⟩
      have hd1 : 3 ≤ d := by omega
      have hd2 : d ≤ 26 - l := by omega
      rw [z1, ← hd3, Nat.shiftLeft_zero]
      have ek : m * 2 ^ (26 - l) = (m * 2 ^ (26 - l - d)) * 2 ^ d := by
        rw [Nat.mul_assoc, ← Nat.pow_add]; congr 2; omega
      rw [ek, cut_exact s _ d (by rw [← ek, hlog]; omega)]
      have hk : m * 2 ^ (26 - l - d) < 16777216 := by
        have : m * 2 ^ (26 - l - d) < 2 ^ (l + 1) * 2 ^ (26 - l - d) := Nat.mul_lt_mul_of_pos_right hup (Nat.pow_pos (by omega))
        rw [← Nat.pow_add] at this
        have h24 : 2 ^ (l + 1 + (26 - l - d)) ≤ 2 ^ 24 := Nat.pow_le_pow_right (by omega) (by omega)
        have e24 : (2 : Nat) ^ 24 = 16777216 := by decide
        omega
      exact single_word_number _ _ (rung_small2 _ _ (by omega) hk)
end Go.Proofs.Ytphbjfijipcpnaa
