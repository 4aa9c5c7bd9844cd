/- Phases: the reference's side. -/
import Derived.Test.YtficghohflmdeaaPh5
namespace Go.Proofs.Ytficghohflmdeaa
open Go.RowKit
set_option linter.unusedVariables false

set_option maxRecDepth 10000 in
set_option maxHeartbeats 1000000 in
theorem l01Half_any (k : Nat) (hk : k < 4) (w : World) :
    Calls Try.prog 119 #[.float .f32 (cAt k), .float .f32 (sAt k)] w fun e w' => e = .returned (.tuple #[.float .f32 (cAt (k + 1)), .float .f32 (sAt (k + 1))]) ∧ w = w' := by
  have h : k = 0 ∨ k = 1 ∨ k = 2 ∨ k = 3 := by omega
  rcases h with rfl | rfl | rfl | rfl
  · show Calls Try.prog 119 #[.float .f32 0, .float .f32 1065353216] w _
    go_enter Try.func119, Try.ntmps119
    go_wp2_with (go_at_call 131; refine (l01Root0 _).mono ?_; rintro e w' ⟨rfl, rfl⟩)
    go_ret2
    exact ⟨rfl, rfl⟩
  · show Calls Try.prog 119 #[.float .f32 1060439283, .float .f32 1060439283] w _
    go_enter Try.func119, Try.ntmps119
    go_wp2_with (go_at_call 131; refine (l01Root1 _).mono ?_; rintro e w' ⟨rfl, rfl⟩)
    go_ret2
    exact ⟨rfl, rfl⟩
  · show Calls Try.prog 119 #[.float .f32 1064076127, .float .f32 1053028117] w _
    go_enter Try.func119, Try.ntmps119
    go_wp2_with (go_at_call 131; refine (l01Root2 _).mono ?_; rintro e w' ⟨rfl, rfl⟩)
    go_ret2
    exact ⟨rfl, rfl⟩
  · show Calls Try.prog 119 #[.float .f32 1065030847, .float .f32 1044891073] w _
    go_enter Try.func119, Try.ntmps119
    go_wp2_with (go_at_call 131; refine (l01Root3 _).mono ?_; rintro e w' ⟨rfl, rfl⟩)
    go_ret2
    exact ⟨rfl, rfl⟩

def bitN (k : Nat) : Nat := [8, 4, 2, 1, 0].getD k 0
theorem bitN_half : ∀ k : Nat, k < 4 → ((bitN k : Nat) : Int) / 2 = bitN (k + 1) := by decide
theorem bitN_pos : ∀ k : Nat, k < 4 → (0 : Int) < bitN k ∧ (bitN k : Int) ≤ 8 := by decide
theorem band_all : ∀ r : Nat, r < 64 → ∀ k : Nat, k < 4 → (bits .and .i64 ((r : Int) % 16) (bitN k : Nat) == 0) = !bitAt r k := by decide +kernel
theorem zAt_zero : ∀ r : Nat, r < 64 → r % 16 = 0 → zAt r 4 = (1065353216, 0) := by decide +kernel

set_option maxRecDepth 10000 in
set_option maxHeartbeats 1000000 in
theorem l01Phase_any (x : Int) (hx : -9223372036854775808 ≤ x ∧ x ≤ 9223372036854775807) (w : World) :
    Calls Try.prog 76 #[.int .i64 x] w fun e w' => e = .returned (.complex .f32 (phaseV (x % 64).toNat).1 (phaseV (x % 64).toNat).2) ∧ w = w' := by
  have h1 : -64 < x.tmod 64 ∧ x.tmod 64 < 64 := by
    constructor
    · have := Int.lt_tmod_of_pos x (show (0 : Int) < 64 by omega); omega
    · exact Int.tmod_lt_of_pos x (by omega)
  have h2 : (x.tmod 64 + 64).tmod 64 = x % 64 := by
    rw [Int.tmod_eq_emod_of_nonneg (by omega)]
    have hq := Int.mul_tdiv_add_tmod x 64
    omega
  obtain ⟨r, hr⟩ : ∃ r : Nat, (r : Int) = x % 64 := ⟨(x % 64).toNat, by omega⟩
  have hr64 : r < 64 := by omega
  have er : (x % 64).toNat = r := by omega
  rw [er]
  rw [← hr] at h2
  clear er hr
  obtain ⟨t, ht⟩ : ∃ t, t = x.tmod 64 := ⟨_, rfl⟩
  rw [← ht] at h1 h2
  have ht' := ht.symm
  clear ht
  obtain ⟨q, hq⟩ : ∃ q : Nat, q = r / 16 := ⟨_, rfl⟩
  have hq4 : q < 4 := by omega
  have hdv : (r : Int) / 16 = q := by omega
  have HQ := Lib.hid hq
  clear hq
  go_enter Try.func76, Try.ntmps76
  go_wp2
  go_loopw [3, 4, 5, 6, 7, 8] (fun z c s b _ _ wr => ∃ k : Nat, k ≤ 4 ∧ b = .int .i64 (bitN k : Nat) ∧ c = .float .f32 (cAt k) ∧ s = .float .f32 (sAt k) ∧ z = .complex .f32 (zAt r k).1 (zAt r k).2 ∧ wr = w ∧ (r % 16 = 0 → k = 0)) (fun _ _ _ b _ _ _ => (intOf b).toNat)
  case atStart => exact ⟨0, Nat.zero_le _, rfl, rfl, rfl, rfl, rfl, fun _ => rfl⟩
  case round =>
    obtain ⟨k, hk, rfl, rfl, rfl, rfl, rfl, h0⟩ := hrel
    by_cases hgo : k < 4 ∧ ¬ r % 16 = 0
    · obtain ⟨hlt, hne⟩ := hgo
      have hne2 : ¬ (r : Int) % 16 = 0 := by omega
      obtain ⟨b, hb⟩ : ∃ b, b = bitN k := ⟨_, rfl⟩
      obtain ⟨b2, hb2⟩ : ∃ b, b = bitN (k + 1) := ⟨_, rfl⟩
      have hh := bitN_half k hlt
      have hp := bitN_pos k hlt
      have hband := band_all r hr64 k hlt
      rw [← hb] at hh hp hband ⊢
      rw [← hb2] at hh
      have HB2 := Lib.hid hb2
      have h01 := Lib.hid (by omega : b2 < b)
      clear hb hb2 h0
      cases hbit : bitAt r k with
      | true =>
        rw [hbit] at hband
        simp only [Bool.not_true] at hband
        have HZ := Lib.hid (zAt_exact r hr64 k hlt hbit)
        clear hbit
        go_wp2_with fail
        refine (l01Half_any k hlt _).mono ?_
        rintro e w1 ⟨rfl, rfl⟩
        go_wp2_with fail
        refine (l01Times_any _ _ _ _ _ _ HZ.out.1 HZ.out.2 _).mono ?_
        rintro e w1 ⟨rfl, rfl⟩
        go_wp2
        go_roundw
        case rel => exact ⟨k + 1, by omega, by rw [HB2.out], rfl, rfl, rfl, (by first | rfl | trivial), fun h => absurd h (by omega)⟩
        case measure => have := h01.out; simp [intOf]; omega
      | false =>
        rw [hbit] at hband
        simp only [Bool.not_false] at hband
        have HZ := Lib.hid (zAt_no hbit)
        clear hbit
        go_wp2_with fail
        refine (l01Half_any k hlt _).mono ?_
        rintro e w1 ⟨rfl, rfl⟩
        go_wp2
        go_roundw
        case rel => exact ⟨k + 1, by omega, by rw [HB2.out], rfl, rfl, (by rw [HZ.out]), (by first | rfl | trivial), fun h => absurd h (by omega)⟩
        case measure => have := h01.out; simp [intOf]; omega
    · have hz : zAt r k = zAt r 4 := by
        by_cases h : r % 16 = 0
        · rw [h0 h, zAt_zero r hr64 h]; rfl
        · have : k = 4 := by omega
          rw [this]
      rw [hz]
      obtain ⟨z, hz4⟩ : ∃ z, z = zAt r 4 := ⟨_, rfl⟩
      rw [← hz4]
      have HP : Hid (phaseV r = rotV q z) := by show _ = _; unfold phaseV; rw [← HQ.out, hz4]
      clear hz hz4
      have hdone : ¬ ((0 : Int) < bitN k ∧ ¬ (r : Int) % 16 = 0) := by
        intro ⟨h1, h2⟩
        have : k = 4 := by omega
        rw [this] at h1
        exact absurd h1 (by decide)
      by_cases hb0 : (0 : Int) < bitN k
      · have he : (r : Int) % 16 = 0 := by
          by_cases h : (r : Int) % 16 = 0
          · exact h
          · exact absurd ⟨hb0, h⟩ hdone
        obtain ⟨b, hb⟩ : ∃ b, b = bitN k := ⟨_, rfl⟩
        rw [← hb] at hb0 ⊢
        clear hb hdone hgo h0
        go_wp2
        go_loopw [3, 9] (fun z2 i wx => ∃ j : Nat, j ≤ q ∧ i = .int .i64 ((q : Int) - j) ∧ z2 = .complex .f32 (rotV j z).1 (rotV j z).2 ∧ wx = wr) (fun _ i _ => (intOf i).toNat)
        case atStart => exact ⟨0, Nat.zero_le _, by simp, rfl, rfl⟩
        case round =>
          obtain ⟨j, hj, rfl, rfl, rfl⟩ := hrel
          by_cases hjlt : j < q
          · go_wp2
            go_roundw
            case rel => exact ⟨j + 1, by omega, by go_num, rfl, (by first | rfl | trivial)⟩
            case measure => simp [intOf]; omega
          · have e : j = q := by omega
            rw [e]
            clear e
            go_wp2
            go_ret
            exact ⟨by rw [HP.out]; rfl, rfl⟩
      · obtain ⟨b, hb⟩ : ∃ b, b = bitN k := ⟨_, rfl⟩
        rw [← hb] at hb0 ⊢
        clear hb hdone hgo h0
        go_wp2
        go_loopw [3, 9] (fun z2 i wx => ∃ j : Nat, j ≤ q ∧ i = .int .i64 ((q : Int) - j) ∧ z2 = .complex .f32 (rotV j z).1 (rotV j z).2 ∧ wx = wr) (fun _ i _ => (intOf i).toNat)
        case atStart => exact ⟨0, Nat.zero_le _, by simp, rfl, rfl⟩
        case round =>
          obtain ⟨j, hj, rfl, rfl, rfl⟩ := hrel
          by_cases hjlt : j < q
          · go_wp2
            go_roundw
            case rel => exact ⟨j + 1, by omega, by go_num, rfl, (by first | rfl | trivial)⟩
            case measure => simp [intOf]; omega
          · have e : j = q := by omega
            rw [e]
            clear e
            go_wp2
            go_ret
            exact ⟨by rw [HP.out]; rfl, rfl⟩
end Go.Proofs.Ytficghohflmdeaa
