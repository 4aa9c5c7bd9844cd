/- StartWave: the plain facts. -/
import Derived.Test.YtficghohflmdeaaAmp
namespace Go.Proofs.Ytficghohflmdeaa
open Go.RowKit
set_option linter.unusedVariables false

def mulR (a b : Nat) : Nat := (floatBits .mul .f32 a b).getD 0
theorem isNum_ab {b : Nat} (h : isNum b = true) : ab .f32 b = some b := by
  obtain ⟨b', s, m, e, h1, h2⟩ := fin_num.1 h
  obtain ⟨rfl, _⟩ := ab_eq_some h1
  exact h1
theorem num_of_ab {b : Nat} {s : Bool} {m : Nat} {e : Int} (h : Ieee.single.read b = .number s m e) : isNum b = true :=
  fin_num.2 ⟨b, s, m, e, ab_some (by show (Ieee.single.read b).isNaN = false; rw [h]; rfl), h⟩
theorem mul_some {a b : Nat} (ha : isNum a = true) (hb : isNum b = true) : floatBits .mul .f32 a b = some (mulR a b) ∧ (FloatKind.f32.decode (mulR a b)).isNaN = false := by
  obtain ⟨s, m, e, h1, _⟩ := num_read ha
  obtain ⟨t, n, j, h2, _⟩ := num_read hb
  have h : ∃ z, floatBits .mul .f32 a b = some z := by
    refine ⟨Ieee.single.write (.number (s ^^ t) (m * n) (e + j)), ?_⟩
    show ((Ieee.single.read a).product (Ieee.single.read b)).map Ieee.single.write = _
    rw [h1, h2]; rfl
  obtain ⟨z, hz⟩ := h
  have e1 : mulR a b = z := by unfold mulR; rw [hz]; rfl
  rw [e1]
  exact ⟨hz, floatBits_notNaN hz⟩
theorem val_signed_zero {s : Bool} {m k : Nat} (h : Ieee.signed s m k = 0) : m = 0 := by
  have h2 : m <<< k = 0 := by
    unfold Ieee.signed at h
    cases s with
    | true => simp only [if_true] at h; omega
    | false => simp only [Bool.false_eq_true, if_false] at h; omega
  rw [Nat.shiftLeft_eq] at h2
  rcases Nat.mul_eq_zero.1 h2 with h | h
  · exact h
  · exact absurd h (Nat.ne_of_gt (Nat.two_pow_pos k))
theorem mul_zero_pn {a b : Nat} (ha : isNum a = true) (hb : isNum b = true) (h0 : valF a = 0 ∨ valF b = 0) : pn (mulR a b) = 0 := by
  obtain ⟨s, m, e, h1, _, _, _, hv⟩ := num_read ha
  obtain ⟨t, n, j, h2, _, _, _, hw⟩ := num_read hb
  have hmn : m * n = 0 := by
    rcases h0 with h | h
    · rw [hv] at h; rw [val_signed_zero h, Nat.zero_mul]
    · rw [hw] at h; rw [val_signed_zero h, Nat.mul_zero]
  have hz : floatBits .mul .f32 a b = some (Ieee.single.word (s ^^ t) 0) := by
    show ((Ieee.single.read a).product (Ieee.single.read b)).map Ieee.single.write = _
    rw [h1, h2]
    show some (Ieee.single.nearest (s ^^ t) (m * n) (e + j)) = _
    rw [hmn]
    unfold Ieee.Format.nearest
    simp
  have e1 : mulR a b = Ieee.single.word (s ^^ t) 0 := by unfold mulR; rw [hz]; rfl
  rw [e1]
  cases (s ^^ t) <;> decide +kernel
theorem pn_zero {b : Nat} (h : isNum b = true) (h0 : valF b = 0) : pn b = 0 := by
  have h1 := eq0_val h
  unfold eq0 at h1
  unfold pn
  rw [h1, h0]; rfl
theorem pn_keep {b : Nat} (h : isNum b = true) (h0 : valF b ≠ 0) : pn b = b := by
  have h1 := eq0_val h
  unfold eq0 at h1
  unfold pn
  rw [h1, decide_eq_false h0]; rfl
theorem val_pn {b : Nat} (h : isNum b = true) : valF (pn b) = valF b := by
  by_cases h0 : valF b = 0
  · rw [pn_zero h h0, h0, val_zero]
  · rw [pn_keep h h0]
theorem isNum_pn (b : Nat) : isNum (pn b) = isNum b := by
  unfold pn
  cases h : (FloatKind.f32.format.order b 0 == some .eq) with
  | false => rfl
  | true =>
    simp only [if_true]
    rw [num_zero]
    cases hn : isNum b with
    | true => rfl
    | false =>
      exfalso
      have h0 : FloatKind.f32.format.read 0 = .number false 0 (-149) := by decide +kernel
      cases hnan : (FloatKind.f32.decode b).isNaN with
      | true =>
        have ho : FloatKind.f32.format.order b 0 = none := read_nan_order (.inl hnan)
        rw [ho] at h; cases h
      | false =>
        have hf : fin (some b) = false := by
          unfold isNum at hn
          rw [ab_some hnan] at hn; exact hn
        rcases fin_of_datum hf with ⟨s, hd⟩ | hd
        · have ho : FloatKind.f32.format.order b 0 = (Ieee.Datum.infinity s).order (.number false 0 (-149)) := by
            unfold Ieee.Format.order
            have hd' : FloatKind.f32.format.read b = .infinity s := hd
            rw [hd', h0]
          rw [ho] at h
          cases s <;> cases h
        · rw [hd] at hnan; cases hnan
/-- both sides' products are alike behind plain -/
theorem mul_alike {R S c : Nat} (hR : isNum R = true) (hS : isNum S = true) (hc : isNum c = true) (h : pn R = pn S) : pn (mulR R (pn c)) = pn (mulR S c) := by
  have hcp : isNum (pn c) = true := by rw [isNum_pn]; exact hc
  by_cases h0 : valF R = 0
  · have hS0 : valF S = 0 := by rw [← val_pn hS, ← h, val_pn hR, h0]
    rw [mul_zero_pn hR hcp (.inl h0), mul_zero_pn hS hc (.inl hS0)]
  · have hS0 : valF S ≠ 0 := by rw [← val_pn hS, ← h, val_pn hR]; exact h0
    have e : R = S := by rw [← pn_keep hR h0, h, pn_keep hS hS0]
    subst e
    by_cases hc0 : valF c = 0
    · rw [mul_zero_pn hR hcp (.inr (by rw [val_pn hc]; exact hc0)), mul_zero_pn hS hc (.inr hc0)]
    · rw [pn_keep hc hc0]
theorem phase_num : ∀ r : Nat, r < 64 → isNum (phaseV r).1 = true ∧ isNum (phaseV r).2 = true := by
  have h : (List.range 64).all (fun r => isNum (phaseV r).1 && isNum (phaseV r).2) = true := by decide +kernel
  intro r hr
  rw [List.all_eq_true] at h
  have := h r (by simp; exact hr)
  rwa [Bool.and_eq_true] at this
theorem raw_num (x : Int) : isNum (rawP x).1 = true ∧ isNum (rawP x).2 = true := phase_num _ (by omega)
theorem phaseP_num (x : Int) : isNum (phaseP x).1 = true ∧ isNum (phaseP x).2 = true := by
  rw [← pn2_raw]
  exact ⟨by show isNum (pn _) = true; rw [isNum_pn]; exact (raw_num x).1, by show isNum (pn _) = true; rw [isNum_pn]; exact (raw_num x).2⟩

/-- all of the first m are finite -/
def allFin (m : Nat) (G : Nat → Nat × Nat) : Bool := (List.range m).all fun i => isNum (G i).1 && isNum (G i).2
theorem allFin_yes {m : Nat} {G : Nat → Nat × Nat} (h : ∀ j, j < m → (isNum (G j).1 && isNum (G j).2) = true) : allFin m G = true := by
  unfold allFin
  rw [List.all_eq_true]
  intro j hj
  exact h j (by simpa using hj)
theorem allFin_no {m k : Nat} {G : Nat → Nat × Nat} (hk : k < m) (h : (isNum (G k).1 && isNum (G k).2) = false) : allFin m G = false := by
  unfold allFin
  rw [List.all_eq_false]
  exact ⟨k, by simpa using hk, by rw [h]; simp⟩
theorem allFin_at {m : Nat} {G : Nat → Nat × Nat} (h : allFin m G = true) (j : Nat) (hj : j < m) : isNum (G j).1 = true ∧ isNum (G j).2 = true := by
  unfold allFin at h
  rw [List.all_eq_true] at h
  have := h j (by simpa using hj)
  rwa [Bool.and_eq_true] at this
theorem allFin_pn (m : Nat) (G : Nat → Nat × Nat) : allFin m (fun i => pn2 (G i)) = allFin m G := by
  unfold allFin pn2
  simp only [isNum_pn]
/-- a wave with a code: the limit where a cell is not finite -/
def limW (n : Int) (m : Nat) (G : Nat → Nat × Nat) : Int × Int × List (Nat × Nat) := if allFin m G then (0, n, fillL m G) else (3, 0, zerosC)
theorem limW_alike (n : Int) (m : Nat) {G H : Nat → Nat × Nat} (h : ∀ i, i < m → pn2 (G i) = pn2 (H i)) : plusR (limW n m G) = plusR (limW n m H) := by
  have ha : allFin m G = allFin m H := by
    rw [← allFin_pn m G, ← allFin_pn m H]
    unfold allFin
    rw [Bool.eq_iff_iff, List.all_eq_true, List.all_eq_true]
    refine forall_congr' fun j => forall_congr' fun hj => ?_
    simp only [h j (by simpa using hj)]
  unfold limW
  rw [ha]
  cases allFin m H with
  | false => rfl
  | true =>
    simp only [if_true, plusR, fillL_map]
    rw [fillL_congr h]
theorem limW_length (n : Int) {m : Nat} (hm : m ≤ 64) (G : Nat → Nat × Nat) : (limW n m G).2.2.length = 64 := by
  unfold limW
  split
  · exact fillL_length G hm
  · rfl
theorem conv_num {a b : Nat} (ha : isNum a = true) (hb : isNum b = true) : ∃ z : Nat × Nat, cConvBits .f32 a b .f64 = some (z.1, z.2) := by
  have h1 := isNum_ab ha
  have h2 := isNum_ab hb
  obtain ⟨_, n1⟩ := ab_eq_some h1
  obtain ⟨_, n2⟩ := ab_eq_some h2
  obtain ⟨x, hx, _⟩ := floatToFloat_up a n1
  obtain ⟨y, hy, _⟩ := floatToFloat_up b n2
  refine ⟨(x, y), ?_⟩
  unfold cConvBits
  rw [hx, hy]; rfl
theorem canF64_lim (n : Int) (m : Nat) (G : Nat → Nat × Nat) : canF64 (plusR (limW n m G)).2.2 := by
  unfold limW
  cases ha : allFin m G with
  | false => simp only [Bool.false_eq_true, if_false, plusR, zerosC_pn]; exact canF64_zeros
  | true =>
    simp only [if_true, plusR, fillL_map]
    intro j
    rw [fillL_get]
    by_cases h : j < m
    · rw [if_pos h]
      have h2 := allFin_at ha j h
      exact conv_num (by show isNum (pn _) = true; rw [isNum_pn]; exact h2.1) (by show isNum (pn _) = true; rw [isNum_pn]; exact h2.2)
    · rw [if_neg h]; exact conv_zero
end Go.Proofs.Ytficghohflmdeaa
