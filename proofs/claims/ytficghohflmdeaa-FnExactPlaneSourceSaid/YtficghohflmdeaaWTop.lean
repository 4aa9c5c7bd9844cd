/- Waves of phases: the answers' form. -/
import Derived.Test.YtficghohflmdeaaWav2
namespace Go.Proofs.Ytficghohflmdeaa
open Go.RowKit
set_option linter.unusedVariables false

def rawP (x : Int) : Nat × Nat := ((phaseV (x % 64).toNat).1, (phaseV (x % 64).toNat).2)
theorem pn2_raw (x : Int) : pn2 (rawP x) = phaseP x := rfl
theorem pn2_phase (x : Int) : pn2 (phaseP x) = phaseP x := by rw [← pn2_raw, pn2_pn2]

/-- a wave with a code: the code, the side, the cells -/
def wRes (ok : Bool) (k n : Int) (F : Nat → Nat × Nat) : Int × Int × List (Nat × Nat) := if ok then (0, n, fillL (n.toNat * n.toNat) F) else (k, 0, zerosC)
def WavPost (r : Int × Int × List (Nat × Nat)) (w : World) (e : Ending) (w' : World) : Prop :=
  e = .returned (.tuple #[.agg (wav r.2.1 r.2.2), .int .i64 r.1]) ∧ Below w.heap.size w w'
def plusR (r : Int × Int × List (Nat × Nat)) : Int × Int × List (Nat × Nat) := (r.1, r.2.1, r.2.2.map pn2)
theorem zerosC_pn : zerosC.map pn2 = zerosC := by decide +kernel
theorem plusR_wRes (ok : Bool) (k n : Int) (F : Nat → Nat × Nat) : plusR (wRes ok k n F) = wRes ok k n (fun i => pn2 (F i)) := by
  unfold wRes
  cases ok with
  | true => simp only [if_true, plusR, fillL_map]
  | false => simp only [Bool.false_eq_true, if_false, plusR, zerosC_pn]
theorem wRes_congr (ok : Bool) (k n : Int) {F G : Nat → Nat × Nat} (h : ok = true → ∀ i, i < n.toNat * n.toNat → F i = G i) : wRes ok k n F = wRes ok k n G := by
  unfold wRes
  cases ok with
  | true => simp only [if_true]; rw [fillL_congr (h rfl)]
  | false => rfl
theorem isSd_nat {n : Int} (h : isSd n = true) : ∃ m : Nat, n = (m : Int) ∧ 1 ≤ m ∧ m ≤ 8 := by
  rcases isSd_cases h with e | e | e | e <;> subst e
  · exact ⟨1, rfl, by omega, by omega⟩
  · exact ⟨2, rfl, by omega, by omega⟩
  · exact ⟨4, rfl, by omega, by omega⟩
  · exact ⟨8, rfl, by omega, by omega⟩
theorem sq64 {m : Nat} (h : m ≤ 8) : m * m ≤ 64 := by have := Nat.mul_le_mul h h; omega
theorem wRes_length {ok : Bool} {n : Int} (h : ok = true → isSd n = true) (k : Int) (F : Nat → Nat × Nat) : (wRes ok k n F).2.2.length = 64 := by
  unfold wRes
  cases ok with
  | true =>
    obtain ⟨m, rfl, h1, h2⟩ := isSd_nat (h rfl)
    simp only [if_true, Int.toNat_natCast]
    exact fillL_length F (sq64 h2)
  | false => rfl
theorem conv_zero : ∃ z : Nat × Nat, cConvBits .f32 0 0 .f64 = some (z.1, z.2) := by
  have h : (cConvBits .f32 0 0 .f64).isSome = true := by decide +kernel
  exact Option.isSome_iff_exists.1 h
theorem conv_phase (x : Int) : ∃ z : Nat × Nat, cConvBits .f32 (phaseP x).1 (phaseP x).2 .f64 = some (z.1, z.2) :=
  Option.isSome_iff_exists.1 (conv_all (x % 64).toNat (by omega))
theorem canF64_fill (k : Nat) (f : Nat → Int) : canF64 (fillL k (fun i => phaseP (f i))) := by
  intro j
  rw [fillL_get]
  by_cases h : j < k
  · rw [if_pos h]; exact conv_phase _
  · rw [if_neg h]; exact conv_zero
theorem canF64_zeros : canF64 zerosC := canF64_fill 0 (fun _ => 0)
theorem canF64_wRes (ok : Bool) (k n : Int) (f : Nat → Int) : canF64 (wRes ok k n (fun i => phaseP (f i))).2.2 := by
  unfold wRes
  cases ok with
  | true => exact canF64_fill _ f
  | false => exact canF64_zeros
theorem mulB (a b A B : Int) (ha : -A ≤ a ∧ a ≤ A) (hb : -B ≤ b ∧ b ≤ B) : -(A * B) ≤ a * b ∧ a * b ≤ A * B := by
  have hA : 0 ≤ A := by omega
  have hB : 0 ≤ B := by omega
  have h1 : (a.natAbs : Int) ≤ A := by omega
  have h2 : (b.natAbs : Int) ≤ B := by omega
  have h3 : (a.natAbs : Int) * (b.natAbs : Int) ≤ A * B := Int.mul_le_mul h1 h2 (by omega) hA
  have h4 : (a.natAbs : Int) * (b.natAbs : Int) = ((a * b).natAbs : Int) := by rw [Int.natAbs_mul, Int.natCast_mul]
  rw [h4] at h3
  omega
theorem WavPost.err {r : Int × Int × List (Nat × Nat)} {w w' : World} {k : Int} (h : r = (k, 0, zerosC)) (hb : Below w.heap.size w w') : WavPost r w (.returned (.tuple #[.agg (wav 0 zerosC), .int .i64 k])) w' :=
  ⟨by rw [h], hb⟩
theorem idx_div {n y x : Nat} (hx : x < n) : (((n * y + x : Nat) : Int) / n = y) ∧ (((n * y + x : Nat) : Int) % n = x) := by
  have h1 : (n * y + x) / n = y := by rw [Nat.mul_add_div (by omega), Nat.div_eq_of_lt hx, Nat.add_zero]
  have h2 : (n * y + x) % n = x := by rw [Nat.mul_add_mod, Nat.mod_eq_of_lt hx]
  constructor
  · rw [← Int.natCast_ediv, h1]
  · rw [← Int.natCast_emod, h2]
theorem blk4 (w : World) (a b c d : Obj) : ((((w.alloc a).alloc b).alloc c).alloc d).heap[w.heap.size]? = some a ∧ ((((w.alloc a).alloc b).alloc c).alloc d).heap[w.heap.size + 1]? = some b ∧ ((((w.alloc a).alloc b).alloc c).alloc d).heap[w.heap.size + 1 + 1]? = some c ∧ ((((w.alloc a).alloc b).alloc c).alloc d).heap[w.heap.size + 1 + 1 + 1]? = some d := by
  have h := blk3 w a b c
  have e1 : (((w.alloc a).alloc b).alloc c).heap.size = w.heap.size + 1 + 1 + 1 := by simp
  refine ⟨?_, ?_, ?_, ?_⟩
  · rw [heap_alloc_old _ _ (by omega)]; exact h.1
  · rw [heap_alloc_old _ _ (by omega)]; exact h.2.1
  · rw [heap_alloc_old _ _ (by omega)]; exact h.2.2
  · rw [← e1]; exact heap_alloc_new _ d
end Go.Proofs.Ytficghohflmdeaa
