/- Phases: products and roots of given numbers. -/
import Derived.Test.YtficghohflmdeaaRows
import Derived.Test.YtficghohflmdeaaFlo
import Derived.WalkKit
import Derived.WalkLawsBesides
import Derived.WalkSpells
import Derived.Deep.QuietTactic
import Derived.BigQuiet
import Derived.Handy
import Derived.Outline
import Derived.Deep.RegionWith
import Derived.Deep.Cut
import Derived.Deep.CutRange
import Derived.Deep.LoopGhost
import Derived.Lib.Hide
import Derived.IntWalk
namespace Go.Proofs.Ytficghohflmdeaa
open Go.RowKit
set_option linter.unusedVariables false

def mulD (x y : Nat) : Option Nat := floatBits .mul .f64 x y
def up (x : Nat) : Option Nat := floatToFloatBits .f32 x .f64
def down (x : Nat) : Option Nat := floatToFloatBits .f64 x .f32
theorem fres_some {op : BinOp} {k : FloatKind} {x y r : Nat} (h : floatBits op k x y = some r) (w : World) : fres op k x y w = r := by unfold fres; rw [h]; rfl
theorem nd_some {op : BinOp} {k : FloatKind} {x y r : Nat} (h : floatBits op k x y = some r) : nd op k x y = 0 := by unfold nd; rw [h]; rfl
theorem wres_some {x r : Nat} (h : floatToFloatBits .f32 x .f64 = some r) (w : World) : wres x w = r := by unfold wres; rw [h]; rfl
theorem nw_some {x r : Nat} (h : floatToFloatBits .f32 x .f64 = some r) : nw x = 0 := by unfold nw; rw [h]; rfl

/-- the product's parts, where no number is too great -/
def prodV (a b c d : Nat) : Option (Nat × Nat) :=
  match up a, up b, up c, up d with
  | some a', some b', some c', some d' =>
    match mulD a' c', mulD b' d', mulD a' d', mulD b' c' with
    | some p, some q, some r, some s =>
      match floatBits .sub .f64 p q, floatBits .add .f64 r s with
      | some x, some y =>
        match down x, down y with
        | some u, some v => some (u, v)
        | _, _ => none
      | _, _ => none
    | _, _, _, _ => none
  | _, _, _, _ => none

theorem prodV_parts {a b c d u v : Nat} (h : prodV a b c d = some (u, v)) : ∃ a' b' c' d' p q r s x y, up a = some a' ∧ up b = some b' ∧ up c = some c' ∧ up d = some d' ∧ mulD a' c' = some p ∧ mulD b' d' = some q ∧ mulD a' d' = some r ∧ mulD b' c' = some s ∧
    floatBits .sub .f64 p q = some x ∧ floatBits .add .f64 r s = some y ∧ down x = some u ∧ down y = some v := by
  unfold prodV at h
  split at h
  · rename_i a' b' c' d' h1 h2 h3 h4
    split at h
    · rename_i p q r s h5 h6 h7 h8
      split at h
      · rename_i x y h9 h10
        split at h
        · rename_i u' v' h11 h12
          cases h
          exact ⟨a', b', c', d', p, q, r, s, x, y, h1, h2, h3, h4, h5, h6, h7, h8, h9, h10, h11, h12⟩
        · cases h
      · cases h
    · cases h
  · cases h

set_option maxHeartbeats 1000000 in
theorem product_any (a b c d u v : Nat) (h : prodV a b c d = some (u, v)) (w : World) :
    Calls Try.prog 86 #[.complex .f32 a b, .complex .f32 c d] w fun e w' => e = .returned (.complex .f32 u v) ∧ w = w' := by
  obtain ⟨a', b', c', d', p, q, r, s, x, y, h1, h2, h3, h4, h5, h6, h7, h8, h9, h10, h11, h12⟩ := prodV_parts h
  have e1 := wres_some h1; have e2 := wres_some h2; have e3 := wres_some h3; have e4 := wres_some h4
  have n1 := nw_some h1; have n2 := nw_some h2; have n3 := nw_some h3; have n4 := nw_some h4
  have e5 := fres_some h5; have e6 := fres_some h6; have e7 := fres_some h7; have e8 := fres_some h8; have e9 := fres_some h9; have e10 := fres_some h10
  have n5 := nd_some h5; have n6 := nd_some h6; have n7 := nd_some h7; have n8 := nd_some h8; have n9 := nd_some h9; have n10 := nd_some h10
  have k1 : ∀ w, (convert 67 43 (.float .f64 x)).run Try.prog w = .ok (.float .f32 u) w := fun w => run_convert_float_float w 67 43 .f64 .f32 x u (by rw [Try.underlying67]; rfl) Try.underlying43 h11
  have k2 : ∀ w, (convert 67 43 (.float .f64 y)).run Try.prog w = .ok (.float .f32 v) w := fun w => run_convert_float_float w 67 43 .f64 .f32 y v (by rw [Try.underlying67]; rfl) Try.underlying43 h12
  clear h1 h2 h3 h4 h5 h6 h7 h8 h9 h10 h11 h12 h
  go_enter Try.func86, Try.ntmps86
  go_wp2
  go_ret
  exact ⟨rfl, rfl⟩

def sqrtD (x : Nat) : Option Nat := FloatKind.f64.format.sqrt x
def rootV (x : Nat) : Option Nat := (up x).bind fun a => (sqrtD a).bind down
theorem rootV_parts {x r : Nat} (h : rootV x = some r) : ∃ a s, up x = some a ∧ sqrtD a = some s ∧ down s = some r := by
  unfold rootV at h
  cases h1 : up x with
  | none => rw [h1] at h; cases h
  | some a =>
    rw [h1] at h
    simp only [Option.bind_some] at h
    cases h2 : sqrtD a with
    | none => rw [h2] at h; cases h
    | some s => rw [h2] at h; exact ⟨a, s, rfl, h2, h⟩

theorem sqrt_call (a s : Nat) (hs : FloatKind.f64.format.sqrt a = some s) (w : World) : (callFunc 144 #[.float .f64 a]).run Try.prog w = .ok (.value (.float .f64 s)) w := by
  rw [run_callFunc_extern (e := Extern.MathSqrt.sqrt) Try.func144 (by kernel_rfl) (by kernel_rfl) (by kernel_rfl) (by kernel_rfl)]
  have e : (Extern.MathSqrt.sqrt #[.float .f64 a]).run Try.prog w = .ok (.float .f64 s) w := by
    have e0 : Extern.MathSqrt.sqrt #[.float .f64 a] = (match FloatKind.f64.format.sqrt a with | some r => pure (Value.float .f64 r) | none => do pure (Value.float .f64 (← choose (.nanBits .f64 a a)))) := rfl
    rw [e0, hs]
    rfl
  rw [e]; rfl

set_option maxRecDepth 100000 in
theorem Sqrt_any (a s : Nat) (hs : FloatKind.f64.format.sqrt a = some s) (w : World) :
    Calls Try.prog 135 #[.float .f64 a] w fun e w' => e = .returned (.float .f64 s) ∧ w = w' := by
  have hc := sqrt_call a s hs
  clear hs
  go_enter Try.func135, Try.ntmps135
  go_wp2
  go_ret
  exact ⟨rfl, rfl⟩

theorem root_any (x r : Nat) (h : rootV x = some r) (w : World) :
    Calls Try.prog 113 #[.float .f32 x] w fun e w' => e = .returned (.float .f32 r) ∧ w = w' := by
  obtain ⟨a, s, h1, h2, h3⟩ := rootV_parts h
  have e1 := wres_some h1
  have n1 := nw_some h1
  have hs : FloatKind.f64.format.sqrt a = some s := h2
  have k1 : ∀ w, (convert 67 43 (.float .f64 s)).run Try.prog w = .ok (.float .f32 r) w := fun w => run_convert_float_float w 67 43 .f64 .f32 s r (by rw [Try.underlying67]; rfl) Try.underlying43 h3
  clear h h1 h2 h3
  go_enter Try.func113, Try.ntmps113
  go_wp2_with fail
  refine (Sqrt_any a s hs _).mono ?_
  rintro e w1 ⟨rfl, rfl⟩
  go_wp2
  go_ret
  exact ⟨rfl, rfl⟩

/-! ### the four phases of parts of a turn -/
def c8 : Nat := 1060439283
def s8 : Nat := 1060439283
def c4 : Nat := 1064076127
def s4 : Nat := 1053028117
def c2 : Nat := 1065030847
def s2 : Nat := 1044891073
def c1 : Nat := 1065272429
def s1 : Nat := 1036565813
/-- one halving -/
theorem halve1 : ∃ a b d, floatBits .add .f32 1065353216 0 = some a ∧ floatBits .quo .f32 a 1073741824 = some b ∧ rootV b = some c8 ∧ floatBits .mul .f32 1073741824 c8 = some d ∧ floatBits .quo .f32 1065353216 d = some s8 := ⟨1065353216, 1056964608, 1068827891, by decide +kernel, by decide +kernel, by decide +kernel, by decide +kernel, by decide +kernel⟩
end Go.Proofs.Ytficghohflmdeaa
