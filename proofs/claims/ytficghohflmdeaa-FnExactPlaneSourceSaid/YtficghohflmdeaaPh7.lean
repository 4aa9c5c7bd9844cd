/- Phases: plain, same. -/
import Derived.Test.YtficghohflmdeaaPh6
namespace Go.Proofs.Ytficghohflmdeaa
open Go.RowKit
set_option linter.unusedVariables false

set_option maxHeartbeats 1000000 in
theorem sameFloat_eq (a b : Nat) (w : World) (h : ab .f64 a = ab .f64 b) :
    Calls Try.prog 47 #[.float .f64 a, .float .f64 b] w fun e w' => e = .returned (.bool true) ∧ Quiet w w' := by
  cases hn : (FloatKind.f64.decode a).isNaN with
  | true =>
    have hb : (FloatKind.f64.decode b).isNaN = true := by
      rw [ab_none hn] at h
      cases hb : (FloatKind.f64.decode b).isNaN with
      | true => rfl
      | false => rw [ab_some hb] at h; cases h
    have h1 : FloatKind.f64.format.order a a = none := read_nan_order (.inl hn)
    have h2 : FloatKind.f64.format.order b b = none := read_nan_order (.inl hb)
    clear hn hb h
    go_enter Try.func47, Try.ntmps47
    go_wp2
    go_ret
    exact ⟨rfl, Quiet.refl _⟩
  | false =>
    rw [ab_some hn] at h
    obtain ⟨rfl, _⟩ := ab_eq_some h.symm
    have h1 := order_self hn
    obtain ⟨r, hr⟩ := one_div hn
    have hrun := fun w => run_float_arith (P := Try.prog) w .quo 67 .f64 4607182418800017408 b r hr
    clear hn h hr
    cases h0 : (FloatKind.f64.format.order b 0 == some .eq) with
    | true =>
      go_enter Try.func47, Try.ntmps47
      go_wp2
      go_ret
      exact ⟨ret_bool (by simp), Quiet.refl _⟩
    | false =>
      go_enter Try.func47, Try.ntmps47
      go_wp2
      go_ret
      exact ⟨ret_bool (by simp), Quiet.refl _⟩


/-- a zero is made positive -/
def pn (b : Nat) : Nat := if FloatKind.f32.format.order b 0 == some .eq then 0 else b

theorem plainNumber_any (b : Nat) (w : World) : Calls Try.prog 77 #[.float .f32 b] w fun e w' => e = .returned (.float .f32 (pn b)) ∧ w = w' := by
  cases h : (FloatKind.f32.format.order b 0 == some .eq) with
  | true =>
    go_enter Try.func77, Try.ntmps77
    go_wp2
    go_ret
    exact ⟨by unfold pn; rw [h]; rfl, rfl⟩
  | false =>
    go_enter Try.func77, Try.ntmps77
    go_wp2
    go_ret
    exact ⟨by unfold pn; rw [h]; rfl, rfl⟩

theorem l01PlusNumber_any (b : Nat) (w : World) : Calls Try.prog 75 #[.float .f32 b] w fun e w' => e = .returned (.float .f32 (pn b)) ∧ w = w' := by
  cases h : (FloatKind.f32.format.order b 0 == some .eq) with
  | true =>
    go_enter Try.func75, Try.ntmps75
    go_wp2
    go_ret
    exact ⟨by unfold pn; rw [h]; rfl, rfl⟩
  | false =>
    go_enter Try.func75, Try.ntmps75
    go_wp2
    go_ret
    exact ⟨by unfold pn; rw [h]; rfl, rfl⟩

/-! ### type switches -/
@[go_sem] theorem as_77_77 (v : Value) (w : World) : (Instr.typeAssert (.iface 77 v) 20 77 true).run Try.prog w = .ok (.tuple #[v, .bool true]) w := by kernel_rfl
@[go_sem] theorem as_76_77 (v : Value) (w : World) : (Instr.typeAssert (.iface 76 v) 20 77 true).run Try.prog w = .ok (.tuple #[.pointer none, .bool false]) w := by kernel_rfl
@[go_sem] theorem as_76_76 (v : Value) (w : World) : (Instr.typeAssert (.iface 76 v) 20 76 true).run Try.prog w = .ok (.tuple #[v, .bool true]) w := by kernel_rfl
@[go_sem] theorem as_78_77 (v : Value) (w : World) : (Instr.typeAssert (.iface 78 v) 20 77 true).run Try.prog w = .ok (.tuple #[.pointer none, .bool false]) w := by kernel_rfl
@[go_sem] theorem as_78_76 (v : Value) (w : World) : (Instr.typeAssert (.iface 78 v) 20 76 true).run Try.prog w = .ok (.tuple #[.pointer none, .bool false]) w := by kernel_rfl
@[go_sem] theorem as_78_78 (v : Value) (w : World) : (Instr.typeAssert (.iface 78 v) 20 78 true).run Try.prog w = .ok (.tuple #[v, .bool true]) w := by kernel_rfl
@[go_sem] theorem as_79_77 (v : Value) (w : World) : (Instr.typeAssert (.iface 79 v) 20 77 true).run Try.prog w = .ok (.tuple #[.pointer none, .bool false]) w := by kernel_rfl
@[go_sem] theorem as_79_76 (v : Value) (w : World) : (Instr.typeAssert (.iface 79 v) 20 76 true).run Try.prog w = .ok (.tuple #[.pointer none, .bool false]) w := by kernel_rfl
@[go_sem] theorem as_79_78 (v : Value) (w : World) : (Instr.typeAssert (.iface 79 v) 20 78 true).run Try.prog w = .ok (.tuple #[.pointer none, .bool false]) w := by kernel_rfl
@[go_sem] theorem as_79_79 (v : Value) (w : World) : (Instr.typeAssert (.iface 79 v) 20 79 true).run Try.prog w = .ok (.tuple #[v, .bool true]) w := by kernel_rfl
@[go_sem] theorem as_80_77 (v : Value) (w : World) : (Instr.typeAssert (.iface 80 v) 20 77 true).run Try.prog w = .ok (.tuple #[.pointer none, .bool false]) w := by kernel_rfl
@[go_sem] theorem as_80_76 (v : Value) (w : World) : (Instr.typeAssert (.iface 80 v) 20 76 true).run Try.prog w = .ok (.tuple #[.pointer none, .bool false]) w := by kernel_rfl
@[go_sem] theorem as_80_78 (v : Value) (w : World) : (Instr.typeAssert (.iface 80 v) 20 78 true).run Try.prog w = .ok (.tuple #[.pointer none, .bool false]) w := by kernel_rfl
@[go_sem] theorem as_80_79 (v : Value) (w : World) : (Instr.typeAssert (.iface 80 v) 20 79 true).run Try.prog w = .ok (.tuple #[.pointer none, .bool false]) w := by kernel_rfl
@[go_sem] theorem as_80_80 (v : Value) (w : World) : (Instr.typeAssert (.iface 80 v) 20 80 true).run Try.prog w = .ok (.tuple #[v, .bool true]) w := by kernel_rfl


set_option maxRecDepth 100000 in
theorem plainNumF_any (a : Nat) (w : World) : Calls Try.prog 121 #[.float .f32 a] w fun e w' => e = .returned (.float .f32 (pn a)) ∧ Below w.heap.size w w' := by
  go_enter Try.func121, Try.ntmps121
  go_wp2_with (go_at_call 77; refine (plainNumber_any _ _).mono ?_; rintro e w' ⟨rfl, rfl⟩)
  go_ret
  exact ⟨rfl, by go_grown⟩
theorem plainComplex_any (a b : Nat) (w : World) : Calls Try.prog 78 #[.complex .f32 a b] w fun e w' => e = .returned (.complex .f32 (pn a) (pn b)) ∧ w = w' := by
  go_enter Try.func78, Try.ntmps78
  go_wp2_with (go_at_call 77; refine (plainNumber_any _ _).mono ?_; rintro e w' ⟨rfl, rfl⟩)
  go_ret
  exact ⟨rfl, rfl⟩

set_option maxRecDepth 100000 in
theorem plainC_any (a b : Nat) (w : World) : Calls Try.prog 45 #[.complex .f32 a b] w fun e w' => e = .returned (.complex .f32 (pn a) (pn b)) ∧ Below w.heap.size w w' := by
  go_enter Try.func45, Try.ntmps45
  go_wp2_with (go_at_call 78; refine (plainComplex_any _ _ _).mono ?_; rintro e w' ⟨rfl, rfl⟩)
  go_ret
  exact ⟨rfl, by go_grown⟩

theorem plusC_any (a b : Nat) (w : World) : Calls Try.prog 43 #[.complex .f32 a b] w fun e w' => e = .returned (.complex .f32 (pn a) (pn b)) ∧ w = w' := by
  go_enter Try.func43, Try.ntmps43
  go_wp2_with (go_at_call 75; refine (l01PlusNumber_any _ _).mono ?_; rintro e w' ⟨rfl, rfl⟩)
  go_ret
  exact ⟨rfl, rfl⟩
end Go.Proofs.Ytficghohflmdeaa
