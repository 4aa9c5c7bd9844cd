/- Phases: the reference's products and halvings. -/
import Derived.Test.YtficghohflmdeaaPh3
namespace Go.Proofs.Ytficghohflmdeaa
open Go.RowKit
set_option linter.unusedVariables false

/-- a b + c d, where no number is too great -/
def exactV (a b c d : Nat) : Option Nat :=
  match up a, up b, up c, up d with
  | some a', some b', some c', some d' =>
    match mulD a' b', mulD c' d' with
    | some p, some q =>
      match floatBits .add .f64 p q with
      | some x => down x
      | none => none
    | _, _ => none
  | _, _, _, _ => none
theorem exactV_parts {a b c d u : Nat} (h : exactV a b c d = some u) : ∃ a' b' c' d' p q x, up a = some a' ∧ up b = some b' ∧ up c = some c' ∧ up d = some d' ∧ mulD a' b' = some p ∧ mulD c' d' = some q ∧ floatBits .add .f64 p q = some x ∧ down x = some u := by
  unfold exactV at h
  split at h
  · rename_i a' b' c' d' h1 h2 h3 h4
    split at h
    · rename_i p q h5 h6
      split at h
      · rename_i x h7
        exact ⟨a', b', c', d', p, q, x, h1, h2, h3, h4, h5, h6, h7, h⟩
      · cases h
    · cases h
  · cases h

set_option maxHeartbeats 1000000 in
theorem l01Exact_any (a b c d u : Nat) (h : exactV a b c d = some u) (w : World) :
    Calls Try.prog 141 #[.float .f32 a, .float .f32 b, .float .f32 c, .float .f32 d] w fun e w' => e = .returned (.float .f32 u) ∧ w = w' := by
  obtain ⟨a', b', c', d', p, q, x, h1, h2, h3, h4, h5, h6, h7, h8⟩ := exactV_parts h
  have e1 := wres_some h1; have e2 := wres_some h2; have e3 := wres_some h3; have e4 := wres_some h4
  have n1 := nw_some h1; have n2 := nw_some h2; have n3 := nw_some h3; have n4 := nw_some h4
  have e5 := fres_some h5; have e6 := fres_some h6; have e7 := fres_some h7
  have n5 := nd_some h5; have n6 := nd_some h6; have n7 := nd_some h7
  have k1 : ∀ w, (convert 67 43 (.float .f64 x)).run Try.prog w = .ok (.float .f32 u) w := fun w => run_convert_float_float w 67 43 .f64 .f32 x u (by rw [Try.underlying67]; rfl) Try.underlying43 h8
  clear h1 h2 h3 h4 h5 h6 h7 h8 h
  go_enter Try.func141, Try.ntmps141
  go_wp2
  go_ret
  exact ⟨rfl, rfl⟩

theorem l01Times_any (a b c d u v : Nat) (h1 : exactV a c (negB b) d = some u) (h2 : exactV a d b c = some v) (w : World) :
    Calls Try.prog 120 #[.complex .f32 a b, .complex .f32 c d] w fun e w' => e = .returned (.complex .f32 u v) ∧ w = w' := by
  have H1 := Lib.hid h1
  have H2 := Lib.hid h2
  clear h1 h2
  go_enter Try.func120, Try.ntmps120
  go_wp2_with fail
  refine (l01Exact_any _ _ _ _ u H1.out _).mono ?_
  rintro e w1 ⟨rfl, rfl⟩
  go_wp2_with fail
  refine (l01Exact_any _ _ _ _ v H2.out _).mono ?_
  rintro e w1 ⟨rfl, rfl⟩
  go_wp2
  go_ret
  exact ⟨rfl, rfl⟩

/-- the two sides' products are the same, of the numbers that are met -/
theorem zAt_exact : ∀ r : Nat, r < 64 → ∀ i : Nat, i < 4 → bitAt r i = true →
    exactV (zAt r i).1 (cAt (i + 1)) (negB (zAt r i).2) (sAt (i + 1)) = some (zAt r (i + 1)).1 ∧ exactV (zAt r i).1 (sAt (i + 1)) (zAt r i).2 (cAt (i + 1)) = some (zAt r (i + 1)).2 := by decide +kernel
end Go.Proofs.Ytficghohflmdeaa
