/- PhaseOf: the law. -/
import Derived.Test.YtficghohflmdeaaPh7
namespace Go.Proofs.Ytficghohflmdeaa
open Go.RowKit
set_option linter.unusedVariables false

def phaseP (x : Int) : Nat × Nat := (pn (phaseV (x % 64).toNat).1, pn (phaseV (x % 64).toNat).2)

theorem implPhase_any (x : Int) (hx : -9223372036854775808 ≤ x ∧ x ≤ 9223372036854775807) (w : World) :
    Calls Try.prog 13 #[.int .i64 x] w fun e w' => e = .returned (.complex .f32 (phaseP x).1 (phaseP x).2) ∧ Below w.heap.size w w' := by
  go_enter Try.func13, Try.ntmps13
  go_wp2_with fail
  refine (signedPhase_any x hx w).mono ?_
  rintro e w1 ⟨rfl, hb⟩
  have HB := Lib.hid hb
  clear hb
  go_wp2_with fail
  refine (plainC_any _ _ w1).mono ?_
  rintro e w2 ⟨rfl, hb⟩
  have HB2 := Lib.hid (HB.out.trans (hb.mono HB.out.size))
  clear hb
  go_wp2
  go_ret
  exact ⟨rfl, HB2.out⟩

theorem rawPhase_any (x : Int) (hx : -9223372036854775808 ≤ x ∧ x ≤ 9223372036854775807) (w : World) :
    Calls Try.prog 44 #[.int .i64 x] w fun e w' => e = .returned (.complex .f32 (phaseV (x % 64).toNat).1 (phaseV (x % 64).toNat).2) ∧ w = w' := by
  go_enter Try.func44, Try.ntmps44
  go_wp2_with fail
  refine (l01Phase_any x hx w).mono ?_
  rintro e w1 ⟨rfl, rfl⟩
  go_wp2
  go_ret
  exact ⟨rfl, rfl⟩

theorem specPhase_any (x : Int) (hx : -9223372036854775808 ≤ x ∧ x ≤ 9223372036854775807) (w : World) :
    Calls Try.prog 12 #[.int .i64 x] w fun e w' => e = .returned (.complex .f32 (phaseP x).1 (phaseP x).2) ∧ w = w' := by
  go_enter Try.func12, Try.ntmps12
  go_wp2_with fail
  refine (rawPhase_any x hx w).mono ?_
  rintro e w1 ⟨rfl, rfl⟩
  go_wp2_with fail
  refine (plusC_any _ _ w).mono ?_
  rintro e w1 ⟨rfl, rfl⟩
  go_wp2
  go_ret
  exact ⟨rfl, rfl⟩

theorem conv_all : ∀ r : Nat, r < 64 → (cConvBits .f32 (pn (phaseV r).1) (pn (phaseV r).2) .f64).isSome = true := by decide +kernel

theorem sameComplex_any (a b : Nat) (w : World) : Calls Try.prog 14 #[.complex .f64 a b, .complex .f64 a b] w fun e w' => e = .returned (.bool true) ∧ Quiet w w' := by
  go_enter Try.func14, Try.ntmps14
  go_wp2_with (go_at_call 47; refine (sameFloat_eq _ _ _ rfl).mono ?_; rintro e w' ⟨rfl, n, rfl⟩)
  go_ret
  exact ⟨rfl, _, rfl⟩

set_option maxRecDepth 100000 in
theorem law_PhaseOf (x : Int) (hx : -9223372036854775808 ≤ x ∧ x ≤ 9223372036854775807) (w : World) :
    Calls Try.prog 3 #[.int .i64 x] w fun e w' => e = .returned (.bool true) ∧ Below w.heap.size w w' := by
  obtain ⟨p, hp⟩ : ∃ p, p = phaseP x := ⟨_, rfl⟩
  obtain ⟨z, hz⟩ := Option.isSome_iff_exists.1 (conv_all (x % 64).toNat (by omega))
  have hz2 : cConvBits .f32 p.1 p.2 .f64 = some (z.1, z.2) := by rw [hp]; exact hz
  have hcv : ∀ w, (convert 22 25 (.complex .f32 p.1 p.2)).run Try.prog w = .ok (.complex .f64 z.1 z.2) w := fun w => run_convert_complex (P := Try.prog) (w := w) 22 25 .f32 .f64 p.1 p.2 z.1 z.2 (by rw [Try.underlying22]; rfl) Try.underlying25 hz2
  clear hz hz2
  have CI := implPhase_any x hx
  have CS := specPhase_any x hx
  rw [← hp] at CI CS
  have HCI := Lib.hid CI; have HCS := Lib.hid CS; clear CI CS hp
  go_enter Try.func3, Try.ntmps3
  go_wp2_with fail
  refine (HCS.out w).mono ?_
  rintro e w1 ⟨rfl, rfl⟩
  go_wp2_with fail
  refine (HCI.out w).mono ?_
  rintro e w1 ⟨rfl, hb⟩
  have HB := Lib.hid hb
  clear hb
  go_wp2_with fail
  refine (sameComplex_any _ _ w1).mono ?_
  rintro e w2 ⟨rfl, n, rfl⟩
  go_wp2
  go_ret
  exact ⟨rfl, below_drewN' HB.out n⟩
end Go.Proofs.Ytficghohflmdeaa
