/- Phases: the program's side. -/
import Derived.Test.YtficghohflmdeaaPh2
namespace Go.Proofs.Ytficghohflmdeaa
open Go.RowKit
set_option linter.unusedVariables false

theorem modulo_any (x : Int) (hx : -9223372036854775808 ≤ x ∧ x ≤ 9223372036854775807) (w : World) : Calls Try.prog 84 #[.int .i64 x, .int .i64 64] w fun e w' => e = .returned (.int .i64 (x % 64)) ∧ w = w' := by
  have h1 : -64 < x.tmod 64 ∧ x.tmod 64 < 64 := by
    constructor
    · have := Int.lt_tmod_of_pos x (show (0 : Int) < 64 by omega); omega
    · exact Int.tmod_lt_of_pos x (by omega)
  have h2 : (x.tmod 64 + 64).tmod 64 = x % 64 := by
    rw [Int.tmod_eq_emod_of_nonneg (by omega)]
    have hq := Int.mul_tdiv_add_tmod x 64
    omega
  obtain ⟨t, ht⟩ : ∃ t, t = x.tmod 64 := ⟨_, rfl⟩
  rw [← ht] at h1 h2
  have HT := Lib.hid ht.symm
  have ht' := ht.symm
  clear ht
  go_enter Try.func84, Try.ntmps84
  go_wp2
  go_ret
  exact ⟨rfl, rfl⟩

/-- the bit of the phase that round i looks at -/
def bitAt (r i : Nat) : Bool := (r >>> (3 - i)) &&& 1 == 1
/-- the product ahead of round i -/
def zAt (r : Nat) : Nat → Nat × Nat
  | 0 => (1065353216, 0)
  | i + 1 => if bitAt r i then (prodV (zAt r i).1 (zAt r i).2 (cAt (i + 1)) (sAt (i + 1))).getD (0, 0) else zAt r i
theorem zAt_some : ∀ r : Nat, r < 64 → ∀ i : Nat, i < 4 → bitAt r i = true → (prodV (zAt r i).1 (zAt r i).2 (cAt (i + 1)) (sAt (i + 1))).isSome = true := by decide +kernel
theorem zAt_yes {r i : Nat} (hr : r < 64) (hi : i < 4) (hb : bitAt r i = true) : prodV (zAt r i).1 (zAt r i).2 (cAt (i + 1)) (sAt (i + 1)) = some ((zAt r (i + 1)).1, (zAt r (i + 1)).2) := by
  obtain ⟨z, hz⟩ := Option.isSome_iff_exists.1 (zAt_some r hr i hi hb)
  show _ = some ((if bitAt r i then _ else _ : Nat × Nat).1, (if bitAt r i then _ else _ : Nat × Nat).2)
  rw [if_pos hb, hz]; rfl
theorem zAt_no {r i : Nat} (hb : bitAt r i = false) : zAt r (i + 1) = zAt r i := by
  show (if bitAt r i then _ else _) = _
  rw [hb]; rfl

set_option maxRecDepth 100000 in
theorem bit_all : ∀ r : Nat, r < 64 → ∀ k : Nat, k < 4 → (bits .and .i64 ((r : Int) / 2 ^ (3 - k)) 1 == 1) = bitAt r k := by decide +kernel

set_option maxRecDepth 100000 in
theorem index_cells (k : Nat) (hk : k < 4) (w : World) : (Instr.index 95 (.agg (cellsAt 4)) (.int .i64 (k : Int))).run Try.prog w = .ok (.complex .f32 (cAt (k + 1)) (sAt (k + 1))) w := by
  have h : k = 0 ∨ k = 1 ∨ k = 2 ∨ k = 3 := by omega
  rcases h with rfl | rfl | rfl | rfl
  · exact (by kernel_rfl : (Instr.index 95 (.agg (cellsAt 4)) (.int .i64 0)).run Try.prog w = .ok (.complex .f32 (cAt 1) (sAt 1)) w)
  · exact (by kernel_rfl : (Instr.index 95 (.agg (cellsAt 4)) (.int .i64 1)).run Try.prog w = .ok (.complex .f32 (cAt 2) (sAt 2)) w)
  · exact (by kernel_rfl : (Instr.index 95 (.agg (cellsAt 4)) (.int .i64 2)).run Try.prog w = .ok (.complex .f32 (cAt 3) (sAt 3)) w)
  · exact (by kernel_rfl : (Instr.index 95 (.agg (cellsAt 4)) (.int .i64 3)).run Try.prog w = .ok (.complex .f32 (cAt 4) (sAt 4)) w)

def negB (b : Nat) : Nat := Op.negFloat .f32 b
@[go_sem] theorem run_negF {P : Program} (b : Nat) (w : World) : (Op.unary .neg (.float .f32 b)).run P w = .ok (.float .f32 (negB b)) w := rfl
/-- quarter turns -/
def rotV : Nat → Nat × Nat → Nat × Nat
  | 0, z => z
  | j + 1, z => (negB (rotV j z).2, (rotV j z).1)

def phaseV (r : Nat) : Nat × Nat := rotV (r / 16) (zAt r 4)

set_option maxRecDepth 10000 in
set_option maxHeartbeats 1000000 in
theorem signedPhase_any (x : Int) (hx : -9223372036854775808 ≤ x ∧ x ≤ 9223372036854775807) (w : World) :
    Calls Try.prog 46 #[.int .i64 x] w fun e w' => e = .returned (.complex .f32 (phaseV (x % 64).toNat).1 (phaseV (x % 64).toNat).2) ∧ Below w.heap.size w w' := by
  obtain ⟨r, hr⟩ : ∃ r : Nat, (r : Int) = x % 64 := ⟨(x % 64).toNat, by omega⟩
  have hr64 : r < 64 := by omega
  have er : (x % 64).toNat = r := by omega
  rw [er]
  clear er
  go_enter Try.func46, Try.ntmps46
  go_wp2_with fail
  refine (modulo_any x hx w).mono ?_
  rintro e w1 ⟨rfl, rfl⟩
  rw [← hr]
  clear hr
  go_wp2_with fail
  refine (halved_any w).mono ?_
  rintro e w1 ⟨rfl, hb⟩
  have HB := Lib.hid hb
  clear hb
  go_wp2
  go_loopw [3, 4, 5, 9] (fun z _ _ i wr => ∃ k : Nat, k ≤ 4 ∧ i = .int .i64 k ∧ z = .complex .f32 (zAt r k).1 (zAt r k).2 ∧ wr = w1) (fun _ _ _ i _ => 4 - (intOf i).toNat)
  case atStart => exact ⟨0, Nat.zero_le _, rfl, rfl, rfl⟩
  case round =>
    obtain ⟨k, hk, rfl, rfl, rfl⟩ := hrel
    by_cases hlt : k < 4
    · have hidx := index_cells k hlt
      cases hb : bitAt r k with
      | true =>
        have hbit := (bit_all r hr64 k hlt).trans hb
        have HZ := Lib.hid (zAt_yes hr64 hlt hb)
        clear hb
        go_wp2_with (go_at_call 86; refine (product_any _ _ _ _ _ _ HZ.out _).mono ?_; rintro e w' ⟨rfl, rfl⟩)
        go_roundw
        case rel => exact ⟨k + 1, by omega, by go_num, rfl, trivial⟩
        case measure => simp [intOf]; omega
      | false =>
        have hbit := (bit_all r hr64 k hlt).trans hb
        have HZ := Lib.hid (zAt_no hb)
        clear hb
        go_wp2
        go_roundw
        case rel => exact ⟨k + 1, by omega, by go_num, by rw [HZ.out], trivial⟩
        case measure => simp [intOf]; omega
    · have e4 : k = 4 := by omega
      obtain ⟨z, hz⟩ : ∃ z, z = zAt r k := ⟨_, rfl⟩
      rw [← hz]
      rw [e4] at hz
      have HZ4 := Lib.hid hz
      clear hz e4
      obtain ⟨q, hq⟩ : ∃ q : Nat, q = r / 16 := ⟨_, rfl⟩
      have hq4 : q < 4 := by omega
      have hdv : (r : Int) / 16 = q := by omega
      have HP : Hid (phaseV r = rotV q z) := by show _ = _; unfold phaseV; rw [← hq, HZ4.out]
      clear hq
      go_wp2
      go_loopw [3, 25] (fun z2 i wx => ∃ j : Nat, j ≤ q ∧ i = .int .i64 j ∧ z2 = .complex .f32 (rotV j z).1 (rotV j z).2 ∧ wx = wr) (fun _ i _ => q - (intOf i).toNat)
      case atStart => exact ⟨0, Nat.zero_le _, rfl, rfl, rfl⟩
      case round =>
        obtain ⟨j, hj, rfl, rfl, rfl⟩ := hrel
        by_cases hjlt : j < q
        · go_wp2
          go_roundw
          case rel => exact ⟨j + 1, by omega, by go_num, rfl, trivial⟩
          case measure => simp [intOf]; omega
        · have e : j = q := by omega
          rw [e]
          clear e
          go_wp2
          go_ret
          exact ⟨by rw [HP.out]; rfl, HB.out⟩
end Go.Proofs.Ytficghohflmdeaa
