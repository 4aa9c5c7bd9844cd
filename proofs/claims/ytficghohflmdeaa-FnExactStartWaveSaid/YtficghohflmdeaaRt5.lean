/- Roots: the reference's walks. -/
import Derived.Test.YtficghohflmdeaaRt4
import Derived.Test.YtficghohflmdeaaPh4
namespace Go.Proofs.Ytficghohflmdeaa
open Go.RowKit
set_option linter.unusedVariables false

theorem one_dw : (4607182418800017408 : Nat) = dw 1022 (2 ^ 52) := by decide +kernel
theorem two_up {i : Nat} (h : i ≤ 100) : floatBits .mul .f64 (dw (1022 + i) (2 ^ 52)) 4611686018427387904 = some (dw (1022 + (i + 1)) (2 ^ 52)) := by
  have e : (((1022 + i : Nat) : Int) + (-51) + 52).toNat = 1022 + (i + 1) := by omega
  rw [mul_exact dg_one (by omega) read_two (by omega) (by omega), e]
theorem two_down {i : Nat} (h : i ≤ 100) : floatBits .quo .f64 (dw (1022 - i) (2 ^ 52)) 4611686018427387904 = some (dw (1022 - (i + 1)) (2 ^ 52)) := by
  have e : (((1022 - i : Nat) : Int) - (-51) - 52).toNat = 1022 - (i + 1) := by omega
  rw [quo_exact dg_one (by omega) read_two (by omega) (by omega), e]

set_option maxHeartbeats 1000000 in
theorem Two_any (j : Int) (hj : -99 ≤ j ∧ j ≤ 99) (w : World) :
    Calls Try.prog 143 #[.int .i64 j] w fun e w' => e = .returned (.float .f64 (dw (1022 + j).toNat (2 ^ 52))) ∧ w = w' := by
  by_cases h0 : 0 ≤ j
  · obtain ⟨J, rfl⟩ : ∃ J : Nat, j = J := ⟨j.toNat, by omega⟩
    have hJ : J ≤ 99 := by omega
    clear hj
    go_enter Try.func143, Try.ntmps143
    go_wp2
    go_loopw [0, 3] (fun kv ov wr => ∃ i : Nat, i ≤ J ∧ kv = .int .i64 ((J : Int) - i) ∧ (∃ b, ov = .float .f64 b ∧ Hid (b = dw (1022 + i) (2 ^ 52))) ∧ w = wr) (fun kv _ _ => (intOf kv).toNat)
    case atStart => exact ⟨0, Nat.zero_le _, by simp, ⟨_, rfl, one_dw⟩, rfl⟩
    case round =>
      obtain ⟨i, hi, rfl, ⟨b, rfl, hb⟩, rfl⟩ := hrel
      by_cases hlt : i < J
      · have hm := two_up (i := i) (by omega)
        rw [← hb.out] at hm
        obtain ⟨b', hb'⟩ : ∃ b', b' = dw (1022 + (i + 1)) (2 ^ 52) := ⟨_, rfl⟩
        rw [← hb'] at hm
        have e1 := fres_some hm
        have n1 := nd_some hm
        have HB' := Lib.hid hb'
        clear hm hb'
        go_wp2
        go_roundw
        case rel => exact ⟨i + 1, by omega, by go_num, ⟨_, rfl, HB'.out⟩, by first | rfl | trivial⟩
        case measure => simp [intOf]; omega
      · obtain rfl : i = J := by omega
        go_wp2
        go_loopw [0, 3] (fun kv ov wr => kv = .int .i64 0 ∧ ov = .float .f64 b ∧ w = wr) (fun _ _ _ => 0)
        case atStart => exact ⟨by simp, rfl, rfl⟩
        case round =>
          obtain ⟨rfl, rfl, rfl⟩ := hrel
          go_wp2
          go_ret
          exact ⟨by rw [hb.out]; rfl, rfl⟩
  · obtain ⟨J, rfl⟩ : ∃ J : Nat, j = -(J : Int) := ⟨(-j).toNat, by omega⟩
    have hJ : J ≤ 99 := by omega
    have hJ1 : 1 ≤ J := by omega
    clear hj
    have hw : (1022 + -(J : Int)).toNat = 1022 - J := by omega
    rw [hw]
    clear hw h0
    go_enter Try.func143, Try.ntmps143
    go_wp2
    go_loopw [0, 3] (fun kv ov wr => kv = .int .i64 (-(J : Int)) ∧ ov = .float .f64 4607182418800017408 ∧ w = wr) (fun _ _ _ => 0)
    case atStart => exact ⟨rfl, rfl, rfl⟩
    case round =>
      obtain ⟨rfl, rfl, rfl⟩ := hrel
      go_wp2
      go_loopw [0, 3] (fun kv ov wr => ∃ i : Nat, i ≤ J ∧ kv = .int .i64 ((i : Int) - J) ∧ (∃ b, ov = .float .f64 b ∧ Hid (b = dw (1022 - i) (2 ^ 52))) ∧ w = wr) (fun kv _ _ => (-(intOf kv)).toNat)
      case atStart => exact ⟨0, Nat.zero_le _, by simp, ⟨_, rfl, one_dw⟩, rfl⟩
      case round =>
        obtain ⟨i, hi, rfl, ⟨b, rfl, hb⟩, rfl⟩ := hrel
        by_cases hlt : i < J
        · have hm := two_down (i := i) (by omega)
          rw [← hb.out] at hm
          obtain ⟨b', hb'⟩ : ∃ b', b' = dw (1022 - (i + 1)) (2 ^ 52) := ⟨_, rfl⟩
          rw [← hb'] at hm
          have e1 := fres_some hm
          have n1 := nd_some hm
          have HB' := Lib.hid hb'
          clear hm hb'
          go_wp2
          go_roundw
          case rel => exact ⟨i + 1, by omega, by go_num, ⟨_, rfl, HB'.out⟩, by first | rfl | trivial⟩
          case measure => simp [intOf]; omega
        · obtain rfl : i = J := by omega
          go_wp2
          go_ret
          exact ⟨by rw [hb.out]; rfl, rfl⟩
end Go.Proofs.Ytficghohflmdeaa
