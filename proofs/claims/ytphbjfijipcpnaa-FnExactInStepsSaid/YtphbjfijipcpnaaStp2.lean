/- Steps: a level's step is the same, both ways. -/
import Derived.Test.YtphbjfijipcpnaaStp1
import Derived.Test.YtphbjfijipcpnaaNo1
namespace Go.Proofs.Ytphbjfijipcpnaa
open Go.RowKit
set_option linter.unusedVariables false

theorem num_parts {b : Nat} (h : isNum b = true) : ∃ s m e, FloatKind.f32.decode b = .number s m e ∧ -149 ≤ e ∧ valF b = Ieee.signed s m (e + 149).toNat := by
  obtain ⟨b', s, m, e, h1, h2⟩ := fin_num.1 h
  obtain ⟨rfl, _⟩ := ab_eq_some h1
  refine ⟨s, m, e, h2, ?_, by unfold valF; rw [h2]⟩
  have h2' : Ieee.single.read b = .number s m e := h2
  rcases single_read b with ⟨s', m', e', h, _, hle, _⟩ | ⟨s', h⟩ | ⟨s', t', h⟩ <;> rw [h] at h2' <;> cases h2'
  exact hle
theorem signed_nonneg {s : Bool} {m k : Nat} (h : 0 ≤ Ieee.signed s m k) : s = false ∨ m = 0 := by
  cases s with
  | false => exact .inl rfl
  | true =>
    right
    unfold Ieee.signed at h
    simp only [if_true] at h
    have h2 : m <<< k = 0 := by
      have : (0 : Int) ≤ ((m <<< k : Nat) : Int) := Int.natCast_nonneg _
      have h3 : ((m <<< k : Nat) : Int) ≤ 0 := Int.neg_nonneg.1 h
      exact_mod_cast Int.le_antisymm h3 this
    rw [Nat.shiftLeft_eq] at h2
    rcases Nat.mul_eq_zero.1 h2 with h | h
    · exact h
    · exact absurd h (Nat.ne_of_gt (Nat.two_pow_pos k))

/-- the quotient: a zero, or a word with no sign -/
theorem quo_word {x q : Nat} (hx : Lvl x) (hq : isNum q = true) (hq0 : 0 < valF q) : ∃ p, floatBits .quo .f32 x q = some p ∧ ((∃ s, p = Ieee.single.word s 0) ∨ ∃ r, r ≤ 2139095040 ∧ p = r) := by
  obtain ⟨s, m, i, h2, _, hv⟩ := num_parts hx.1
  obtain ⟨u, n, j, h4, _, hw⟩ := num_parts hq
  have hs := signed_nonneg (by rw [← hv]; exact hx.2)
  have hu := signed_nonneg (by rw [← hw]; omega)
  have hn : n ≠ 0 := by
    intro h
    rw [hw, h] at hq0
    cases u <;> simp [Ieee.signed] at hq0
  obtain rfl : u = false := by rcases hu with h | h; exact h; exact absurd h hn
  have h2' : Ieee.single.read x = .number s m i := h2
  have h4' : Ieee.single.read q = .number false n j := h4
  have e : floatBits .quo .f32 x q = ((Ieee.Datum.number s m i).quotient (Ieee.single.fractionBits + 2) (.number false n j)).map Ieee.single.write := by
    show ((Ieee.single.read x).quotient (Ieee.single.fractionBits + 2) (Ieee.single.read q)).map Ieee.single.write = _
    rw [h2', h4']
  by_cases hm : m = 0
  · subst hm
    refine ⟨Ieee.single.word (s ^^ false) 0, ?_, .inl ⟨_, rfl⟩⟩
    rw [e]
    simp only [Ieee.Datum.quotient, if_neg hn, Nat.zero_shiftLeft, Nat.zero_div, Nat.zero_mod, Option.map_some]
    rfl
  · obtain rfl : s = false := by rcases hs with h | h; exact h; exact absurd h hm
    simp only [Ieee.Datum.quotient, if_neg hn, Option.map_some] at e
    obtain ⟨r, hr, hwd⟩ := nearest_word Ieee.single (false ^^ false) (2 * (m <<< (Ieee.single.fractionBits + 2 + n.log2 - m.log2) / n) + (m <<< (Ieee.single.fractionBits + 2 + n.log2 - m.log2) % n != 0).toNat) (i - j - (Ieee.single.fractionBits + 2 + n.log2 - m.log2 : Nat) - 1)
    refine ⟨r, ?_, .inr ⟨r, hr, rfl⟩⟩
    rw [e]
    show some (Ieee.single.nearest _ _ _) = _
    rw [hwd]; rfl

/-- a word with no sign below the infinity, and a zero: numbers of at least 0 -/
theorem word_lvl {p : Nat} (h : (∃ s, p = Ieee.single.word s 0) ∨ ∃ r, r ≤ 2139095040 ∧ p = r) : (isNum p = true ∧ 0 ≤ valF p) ∨ p = 2139095040 := by
  rcases h with ⟨s, rfl⟩ | ⟨r, hr, rfl⟩
  · left
    cases s <;> decide +kernel
  · by_cases he : p = 2139095040
    · exact .inr he
    · left
      have hd : ∃ m e, FloatKind.f32.decode p = .number false m e := by
        show ∃ m e, Ieee.single.read p = _
        unfold Ieee.Format.read
        have einf : Ieee.single.infRung = 2139095040 := rfl
        have esw : Ieee.single.signWeight = 2147483648 := rfl
        have ebn : Ieee.single.binade = 8388608 := rfl
        simp only [einf, esw, ebn]
        have h1 : p / 2147483648 % 2 = 0 := by omega
        have h2 : p % 2147483648 = p := by omega
        rw [h1, h2]
        split
        · exact ⟨_, _, rfl⟩
        · rw [if_pos (by omega)]; exact ⟨_, _, rfl⟩
      obtain ⟨m, e, hd⟩ := hd
      refine ⟨?_, ?_⟩
      · exact fin_num.2 ⟨p, false, m, e, ab_some (by rw [hd]; rfl), hd⟩
      · unfold valF
        rw [hd]
        simp only [Ieee.signed, Bool.false_eq_true, if_false]
        exact Int.natCast_nonneg _

theorem whole_val : ∀ k : Nat, k ≤ 256 → isNum (floatOfInt .f32 (k : Int)) = true ∧ valF (floatOfInt .f32 (k : Int)) = (k : Int) * 2 ^ 149 := by
  have h : (List.range 257).all (fun k => isNum (floatOfInt .f32 ((k : Nat) : Int)) && decide (valF (floatOfInt .f32 ((k : Nat) : Int)) = (k : Int) * 2 ^ 149)) = true := by decide +kernel
  intro k hk
  rw [List.all_eq_true] at h
  have := h k (by simp; omega)
  rw [Bool.and_eq_true] at this
  exact ⟨this.1, of_decide_eq_true this.2⟩

def half : Nat := 1056964608
/-- a half added to a number of less than 255: a whole number, both ways -/
theorem add_half {p : Nat} (hp : isNum p = true) (h0 : 0 ≤ valF p) (h1 : valF p < 255 * 2 ^ 149) :
    ∃ (s K : Nat), floatBits .add .f32 p half = some s ∧ K ≤ 256 ∧ floatToIntVal .f32 s .i64 = some (K : Int) ∧ ∃ d, floatToFloatBits .f32 s .f64 = some d ∧ (FloatKind.f64.decode d).isNaN = false ∧ (FloatKind.f64.decode d).integral .down = .number false K 0 := by
  obtain ⟨t, n, j, hd, hj, hv⟩ := num_parts hp
  have hh : Ieee.single.read half = .number false 8388608 (-24) := by decide +kernel
  obtain ⟨base, hbase⟩ : ∃ base, base = min j (-24) := ⟨_, rfl⟩
  obtain ⟨total, htot⟩ : ∃ total, total = Ieee.signed t n (j - base).toNat + Ieee.signed false 8388608 (-24 - base).toNat := ⟨_, rfl⟩
  have e : floatBits .add .f32 p half = some (Ieee.single.write (.number (if total = 0 then t && false else total < 0) total.natAbs base)) := by
    show ((Ieee.single.read p).sum (Ieee.single.read half)).map Ieee.single.write = _
    have hd' : Ieee.single.read p = .number t n j := hd
    rw [hd', hh, htot, hbase]
    rfl
  have hval : total * (2 ^ (base + 149).toNat : Nat) = valF p + 2 ^ 148 := by
    have ej : (j + 149).toNat = (j - base).toNat + (base + 149).toNat := by omega
    have ek : (125 : Nat) = (-24 - base).toNat + (base + 149).toNat := by omega
    rw [hv, ej, signed_shift, htot, Int.add_mul]
    congr 1
    rw [← signed_shift, ← ek]
    decide +kernel
  have hpos : (0 : Int) < (2 ^ (base + 149).toNat : Nat) := by exact_mod_cast Nat.two_pow_pos _
  have ht0 : 0 < total := by
    have h2 : (0 : Int) < total * (2 ^ (base + 149).toNat : Nat) := by
      rw [hval]
      have : (0 : Int) < 2 ^ 148 := by decide
      omega
    exact Int.pos_of_mul_pos_left h2 hpos
  have hlog : base + (total.natAbs.log2 : Int) ≤ 7 := by
    have hlt : total * (2 ^ (base + 149).toNat : Nat) < 2 ^ 157 := by
      rw [hval]
      have : (255 : Int) * 2 ^ 149 + 2 ^ 148 < 2 ^ 157 := by decide
      omega
    have hna : ((total.natAbs : Nat) : Int) = total := by omega
    rw [← hna, ← Int.natCast_mul] at hlt
    have hlt2 : total.natAbs * 2 ^ (base + 149).toNat < 2 ^ 157 := by exact_mod_cast hlt
    have hlg : 2 ^ total.natAbs.log2 ≤ total.natAbs := Nat.log2_self_le (by omega)
    have h3 : 2 ^ total.natAbs.log2 * 2 ^ (base + 149).toNat ≤ total.natAbs * 2 ^ (base + 149).toNat := Nat.mul_le_mul_right _ hlg
    rw [← Nat.pow_add] at h3
    have h4 := Nat.lt_of_le_of_lt h3 hlt2
    have h5 := (Nat.pow_lt_pow_iff_right (by decide : 1 < 2)).1 h4
    omega
  rw [if_neg (by omega), decide_eq_false (by omega)] at e
  obtain ⟨m, ex, hr, hk⟩ := nearest_small total.natAbs base (by omega) hlog
  have e2 : floatBits .add .f32 p half = some (Ieee.single.nearest false total.natAbs base) := e
  have hdec : FloatKind.f32.decode (Ieee.single.nearest false total.natAbs base) = .number false m ex := hr
  obtain ⟨w1, d, w2, w3, w4⟩ := both_whole hdec hk
  exact ⟨_, flr m ex, e2, hk, w1, d, w2, w3, w4⟩
end Go.Proofs.Ytphbjfijipcpnaa
