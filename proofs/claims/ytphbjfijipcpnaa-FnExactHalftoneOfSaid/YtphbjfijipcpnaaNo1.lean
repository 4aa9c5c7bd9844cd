/- Floats of at least 0: the greatest of a list, both ways; zeros divided. -/
import Derived.Test.YtphbjfijipcpnaaPic4
namespace Go.Proofs.Ytphbjfijipcpnaa
open Go.RowKit
set_option linter.unusedVariables false

/-- a finite number's value, in units of the least place -/
def valF (b : Nat) : Int := match FloatKind.f32.decode b with | .number s m e => Ieee.signed s m (e + 149).toNat | _ => 0

theorem signed_shift (s : Bool) (m a c : Nat) : Ieee.signed s m (a + c) = Ieee.signed s m a * (2 ^ c : Nat) := by
  unfold Ieee.signed
  cases s with
  | true => simp only [if_true, Nat.shiftLeft_eq, Nat.pow_add, Int.natCast_mul, Int.neg_mul, Int.mul_assoc]
  | false => simp only [Bool.false_eq_true, if_false, Nat.shiftLeft_eq, Nat.pow_add, Int.natCast_mul, Int.mul_assoc]
theorem compare_scale (x y : Int) (c : Nat) : compare (x * (2 ^ c : Nat)) (y * (2 ^ c : Nat)) = compare x y := by
  have h : (0 : Int) < (2 ^ c : Nat) := by exact_mod_cast Nat.two_pow_pos c
  rw [Int.compare_eq_ite_lt, Int.compare_eq_ite_lt]
  have e1 : (x * ((2 ^ c : Nat) : Int) < y * ((2 ^ c : Nat) : Int)) ↔ x < y := Int.mul_lt_mul_right h
  have e2 : (y * ((2 ^ c : Nat) : Int) < x * ((2 ^ c : Nat) : Int)) ↔ y < x := Int.mul_lt_mul_right h
  simp only [e1, e2]

theorem order_val {a b : Nat} (ha : isNum a = true) (hb : isNum b = true) : FloatKind.f32.format.order a b = some (compare (valF a) (valF b)) := by
  obtain ⟨a', s, m, i, h1, h2⟩ := fin_num.1 ha
  obtain ⟨b', t, n, j, h3, h4⟩ := fin_num.1 hb
  obtain ⟨rfl, _⟩ := ab_eq_some h1
  obtain ⟨rfl, _⟩ := ab_eq_some h3
  have r1 := single_read a
  have r2 := single_read b
  have hi : -149 ≤ i := by
    unfold FloatKind.decode at h2
    have h2' : Ieee.single.read a = .number s m i := h2
    rcases r1 with ⟨s', m', e', h, _, hle, _⟩ | ⟨s', h⟩ | ⟨s', t', h⟩ <;> rw [h] at h2' <;> cases h2'
    exact hle
  have hj : -149 ≤ j := by
    unfold FloatKind.decode at h4
    have h4' : Ieee.single.read b = .number t n j := h4
    rcases r2 with ⟨s', m', e', h, _, hle, _⟩ | ⟨s', h⟩ | ⟨s', t', h⟩ <;> rw [h] at h4' <;> cases h4'
    exact hle
  have ho : FloatKind.f32.format.order a b = some (compare (Ieee.signed s m (i - min i j).toNat) (Ieee.signed t n (j - min i j).toNat)) := by
    unfold Ieee.Format.order
    unfold FloatKind.decode at h2 h4
    rw [h2, h4]; rfl
  rw [ho]
  unfold valF
  rw [h2, h4]
  simp only
  have e1 : (i + 149).toNat = (i - min i j).toNat + (min i j + 149).toNat := by omega
  have e2 : (j + 149).toNat = (j - min i j).toNat + (min i j + 149).toNat := by omega
  rw [e1, e2, signed_shift, signed_shift, compare_scale]

theorem num_zero : isNum 0 = true := by decide +kernel
theorem val_zero : valF 0 = 0 := by decide +kernel
theorem lt0_val {b : Nat} (h : isNum b = true) : lt0 b = decide (valF b < 0) := by
  unfold lt0
  rw [order_val h num_zero, val_zero]
  rw [Int.compare_eq_ite_lt]
  by_cases h1 : valF b < 0
  · rw [if_pos h1, decide_eq_true h1]; rfl
  · rw [if_neg h1, decide_eq_false h1]; split <;> rfl
theorem eq0_val {b : Nat} (h : isNum b = true) : eq0 b = decide (valF b = 0) := by
  unfold eq0
  rw [order_val h num_zero, val_zero]
  rw [Int.compare_eq_ite_lt]
  by_cases h1 : valF b < 0
  · rw [if_pos h1, decide_eq_false (by omega)]; rfl
  · rw [if_neg h1]
    by_cases h2 : 0 < valF b
    · rw [if_pos h2, decide_eq_false (by omega)]; rfl
    · rw [if_neg h2, decide_eq_true (by omega)]; rfl
theorem neg_val {b : Nat} (h : 0 < valF b) : (FloatKind.f32.decode b).neg = false := by
  unfold valF at h
  cases hd : FloatKind.f32.decode b with
  | number s m e =>
    rw [hd] at h
    cases s with
    | false => rfl
    | true =>
      unfold Ieee.signed at h
      simp only [if_true] at h
      have h2 : (0 : Int) ≤ ((m <<< (e + 149).toNat : Nat) : Int) := Int.natCast_nonneg _
      exact absurd h (by omega)
  | infinity s => rw [hd] at h; simp at h
  | nan s t => rw [hd] at h; simp at h

/-- the greater of two, as the builtin has it, and as a scan has it -/
def mx (x y : Nat) : Nat := match FloatKind.f32.format.order x y with | some .lt => y | some .gt => x | _ => if (FloatKind.f32.decode x).neg then y else x
def sc (t y : Nat) : Nat := if FloatKind.f32.format.order y t == some .gt then y else t
def Lvl (b : Nat) : Prop := isNum b = true ∧ 0 ≤ valF b
def Same (t s : Nat) : Prop := Lvl t ∧ Lvl s ∧ (t = s ∨ (valF t = 0 ∧ valF s = 0))

theorem Same.step {t s y : Nat} (h : Same t s) (hy : Lvl y) : Same (mx t y) (sc s y) := by
  obtain ⟨ht, hs, h⟩ := h
  unfold mx sc
  rw [order_val ht.1 hy.1, order_val hy.1 hs.1, Int.compare_eq_ite_lt, Int.compare_eq_ite_lt]
  have ht2 := ht.2
  have hs2 := hs.2
  have hy2 := hy.2
  by_cases h1 : valF t < valF y
  · rw [if_pos h1]
    have h2 : valF s < valF y := by rcases h with rfl | ⟨a, b⟩ <;> omega
    rw [if_neg (by omega : ¬ valF y < valF s), if_pos h2]
    exact ⟨hy, hy, .inl rfl⟩
  · rw [if_neg h1]
    by_cases h2 : valF y < valF t
    · rw [if_pos h2]
      rcases h with rfl | ⟨a, b⟩
      · rw [if_pos h2]; exact ⟨ht, ht, .inl rfl⟩
      · omega
    · rw [if_neg h2]
      have h3 : ¬ valF y < valF s := by rcases h with rfl | ⟨a, b⟩ <;> omega
      have h4 : ¬ valF s < valF y := by rcases h with rfl | ⟨a, b⟩ <;> omega
      rw [if_neg h3, if_neg h4]
      simp only [show (some Ordering.eq == some Ordering.gt) = false from rfl, Bool.false_eq_true, if_false]
      by_cases hz : valF t = 0
      · have hy0 : valF y = 0 := by omega
        have hs0 : valF s = 0 := by rcases h with rfl | ⟨a, b⟩ <;> omega
        split
        · exact ⟨hy, hs, .inr ⟨hy0, hs0⟩⟩
        · exact ⟨ht, hs, .inr ⟨hz, hs0⟩⟩
      · rw [neg_val (by omega : 0 < valF t)]
        simp only [Bool.false_eq_true, if_false]
        rcases h with rfl | ⟨a, b⟩
        · exact ⟨ht, ht, .inl rfl⟩
        · omega

/-- the greatest of the first k levels -/
def topI (l : List Nat) : Nat → Nat
  | 0 => l.getD 0 0
  | k + 1 => mx (topI l k) (l.getD (k + 1) 0)
def topS (l : List Nat) : Nat → Nat
  | 0 => l.getD 0 0
  | k + 1 => sc (topS l k) (l.getD (k + 1) 0)
theorem tops_same (l : List Nat) : ∀ k, (∀ j, j ≤ k → Lvl (l.getD j 0)) → Same (topI l k) (topS l k)
  | 0, h => ⟨h 0 (Nat.le_refl _), h 0 (Nat.le_refl _), .inl rfl⟩
  | k + 1, h => (tops_same l k (fun j hj => h j (by omega))).step (h (k + 1) (Nat.le_refl _))
theorem okL_lvl {m k b : Nat} (h : okL m k b = true) : Lvl b := by
  simp only [okL, Bool.and_eq_true, Bool.not_eq_true'] at h
  refine ⟨h.1.1, ?_⟩
  have := lt0_val h.1.1
  rw [h.1.2] at this
  have := of_decide_eq_false this.symm
  omega
theorem isPic_at {n : Int} {l : List Nat} {m : Nat} (h : isPic n l = true) (hm : n.toNat * n.toNat = m) (k : Nat) (hk : k < 64) : okL m k (l.getD k 0) = true := by
  unfold isPic at h
  rw [Bool.and_eq_true, List.all_eq_true] at h
  rw [← hm]
  exact h.2 k (by simpa using hk)
theorem isPic_sd {n : Int} {l : List Nat} (h : isPic n l = true) : isSd n = true := by
  unfold isPic at h
  rw [Bool.and_eq_true] at h; exact h.1
/-- no question is asked of numbers -/
theorem mx_mres {x y : Nat} (hx : isNum x = true) (hy : isNum y = true) (w : World) : mres .f32 x y w = mx x y ∧ nm .f32 x y = 0 := by
  have h := order_val hx hy
  constructor
  · unfold mres mx
    rw [h]
    cases compare (valF x) (valF y) <;> rfl
  · unfold nm; rw [h]; rfl
theorem mx_num {x y : Nat} (hx : isNum x = true) (hy : isNum y = true) : isNum (mx x y) = true := by
  unfold mx
  rw [order_val hx hy]
  cases compare (valF x) (valF y) <;> simp only
  · exact hy
  · split
    · exact hy
    · exact hx
  · exact hx
theorem topI_num (l : List Nat) : ∀ k, (∀ j, j ≤ k → Lvl (l.getD j 0)) → isNum (topI l k) = true
  | 0, h => (h 0 (Nat.le_refl _)).1
  | k + 1, h => mx_num (topI_num l k (fun j hj => h j (by omega))) (h (k + 1) (Nat.le_refl _)).1

/-- a zero divided by a number of more than 0 is a zero -/
theorem zero_quo {x t : Nat} (hx : isNum x = true) (h0 : eq0 x = true) (ht : isNum t = true) (ht0 : 0 < valF t) : ∃ z, floatBits .quo .f32 x t = some z ∧ isNum z = true ∧ valF z = 0 := by
  rw [eq0_val hx] at h0
  have h0' := of_decide_eq_true h0
  obtain ⟨a', s, m, i, h1, h2⟩ := fin_num.1 hx
  obtain ⟨b', u, n, j, h3, h4⟩ := fin_num.1 ht
  obtain ⟨rfl, _⟩ := ab_eq_some h1
  obtain ⟨rfl, _⟩ := ab_eq_some h3
  have hm : m = 0 := by
    unfold valF at h0'
    rw [h2] at h0'
    simp only [Ieee.signed] at h0'
    have hpos := Nat.two_pow_pos (i + 149).toNat
    cases s with
    | true =>
      simp only [if_true, Nat.shiftLeft_eq] at h0'
      have : m * 2 ^ (i + 149).toNat = 0 := by omega
      rcases Nat.mul_eq_zero.1 this with h | h
      · exact h
      · omega
    | false =>
      simp only [Bool.false_eq_true, if_false, Nat.shiftLeft_eq] at h0'
      have : m * 2 ^ (i + 149).toNat = 0 := by omega
      rcases Nat.mul_eq_zero.1 this with h | h
      · exact h
      · omega
  have hn : n ≠ 0 := by
    intro h
    unfold valF at ht0
    rw [h4, h] at ht0
    cases u <;> simp [Ieee.signed] at ht0
  subst hm
  have e : floatBits .quo .f32 x t = some (Ieee.single.word (s ^^ u) 0) := by
    show ((Ieee.single.read x).quotient (Ieee.single.fractionBits + 2) (Ieee.single.read t)).map Ieee.single.write = _
    have h2' : Ieee.single.read x = .number s 0 i := h2
    have h4' : Ieee.single.read t = .number u n j := h4
    rw [h2', h4']
    simp only [Ieee.Datum.quotient, if_neg hn, Nat.zero_shiftLeft, Nat.zero_div, Nat.zero_mod, Option.map_some]
    rfl
  refine ⟨_, e, ?_, ?_⟩
  · cases (s ^^ u) <;> decide +kernel
  · cases (s ^^ u) <;> decide +kernel
end Go.Proofs.Ytphbjfijipcpnaa
