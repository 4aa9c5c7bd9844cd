/- Steps: the walks of one level. -/
import Derived.Test.YtphbjfijipcpnaaStp2
import Derived.Test.YtphbjfijipcpnaaLv2
namespace Go.Proofs.Ytphbjfijipcpnaa
open Go.RowKit
set_option linter.unusedVariables false

theorem fres_some {op : BinOp} {k : FloatKind} {x y r : Nat} (h : floatBits op k x y = some r) (w : World) : fres op k x y w = r := by unfold fres; rw [h]; rfl
theorem nd_some {op : BinOp} {k : FloatKind} {x y r : Nat} (h : floatBits op k x y = some r) : nd op k x y = 0 := by unfold nd; rw [h]; rfl
theorem wres_some {x r : Nat} (h : floatToFloatBits .f32 x .f64 = some r) (w : World) : wres x w = r := by unfold wres; rw [h]; rfl
theorem nw_some {x r : Nat} (h : floatToFloatBits .f32 x .f64 = some r) : nw x = 0 := by unfold nw; rw [h]; rfl

set_option maxRecDepth 100000 in
theorem floor_call (a : Nat) (d : Ieee.Datum) (hn : (FloatKind.f64.decode a).isNaN = false) (hd : (FloatKind.f64.decode a).integral .down = d) (w : World) :
    (callFunc 139 #[.float .f64 a]).run Try.prog w = .ok (.value (.float .f64 (FloatKind.f64.encode d))) w := by
  rw [run_callFunc_extern (e := Extern.MathFloor.toIntegral "math.archFloor" .down) Try.func139 (by kernel_rfl) (by kernel_rfl) (by kernel_rfl) (by kernel_rfl)]
  have e : (Extern.MathFloor.toIntegral "math.archFloor" .down #[.float .f64 a]).run Try.prog w = .ok (.float .f64 (FloatKind.f64.encode d)) w := by
    have e0 : Extern.MathFloor.toIntegral "math.archFloor" .down #[.float .f64 a] = (match FloatKind.f64.decode a with
      | .nan s t => if FloatKind.f64.format.quiet t = t then pure (.float .f64 a) else do
          let kept ← choose (.extern "math.Floor,Ceil,Trunc,RoundToEven.signallingNaN kept" 2)
          pure (.float .f64 (if kept == 1 then a else FloatKind.f64.encode (.nan s (FloatKind.f64.format.quiet t))))
      | d => pure (.float .f64 (FloatKind.f64.encode (d.integral .down)))) := rfl
    rw [e0, ← hd]
    cases h : FloatKind.f64.decode a with
    | number s m e => rfl
    | infinity s => rfl
    | nan s t => rw [h] at hn; cases hn
  rw [e]; rfl

set_option maxRecDepth 100000 in
theorem Floor_any (a : Nat) (d : Ieee.Datum) (hn : (FloatKind.f64.decode a).isNaN = false) (hd : (FloatKind.f64.decode a).integral .down = d) (w : World) :
    Calls Try.prog 135 #[.float .f64 a] w fun e w' => e = .returned (.float .f64 (FloatKind.f64.encode d)) ∧ w = w' := by
  have hc := floor_call a d hn hd
  obtain ⟨z, hz⟩ : ∃ z, z = FloatKind.f64.encode d := ⟨_, rfl⟩
  rw [← hz] at hc ⊢
  clear hn hd hz
  go_enter Try.func135, Try.ntmps135
  go_wp2
  go_ret
  exact ⟨rfl, rfl⟩

/-- a level's step -/
def stepV (x q : Nat) (m : Int) : Int :=
  match floatBits .quo .f32 x q with
  | none => 0
  | some p => if FloatKind.f32.format.order p (floatOfInt .f32 (m - 1)) = some .lt then (match floatBits .add .f32 p half with | none => 0 | some s => (floatToIntVal .f32 s .i64).getD 0) else m - 1

/-- how a step comes -/
theorem step_ways {x q : Nat} {m : Int} (hx : Lvl x) (hq : isNum q = true) (hq0 : 0 < valF q) (hm : 2 ≤ m ∧ m ≤ 256) :
    ∃ p, floatBits .quo .f32 x q = some p ∧
      ((∃ o, FloatKind.f32.format.order p (floatOfInt .f32 (m - 1)) = some o ∧ o ≠ .lt ∧ stepV x q m = m - 1) ∨
       (FloatKind.f32.format.order p (floatOfInt .f32 (m - 1)) = some .lt ∧ ∃ (s K d : Nat), floatBits .add .f32 p half = some s ∧ K ≤ 256 ∧ floatToIntVal .f32 s .i64 = some (K : Int) ∧ floatToFloatBits .f32 s .f64 = some d ∧ (FloatKind.f64.decode d).isNaN = false ∧ (FloatKind.f64.decode d).integral .down = .number false K 0 ∧ stepV x q m = K)) := by
  obtain ⟨p, hp, hw⟩ := quo_word hx hq hq0
  refine ⟨p, hp, ?_⟩
  obtain ⟨k, hk, hk2⟩ : ∃ k : Nat, m - 1 = (k : Int) ∧ k ≤ 255 := ⟨(m - 1).toNat, by omega, by omega⟩
  obtain ⟨hcn, hcv⟩ := whole_val k (by omega)
  rw [hk]
  rcases word_lvl hw with ⟨hpn, hp0⟩ | hinf
  · have ho := order_val hpn hcn
    by_cases hlt : valF p < valF (floatOfInt .f32 (k : Int))
    · right
      have ho2 : FloatKind.f32.format.order p (floatOfInt .f32 (k : Int)) = some .lt := by
        rw [ho, Int.compare_eq_ite_lt, if_pos hlt]
      have hb : valF p < 255 * 2 ^ 149 := by
        rw [hcv] at hlt
        refine Int.lt_of_lt_of_le hlt ?_
        exact Int.mul_le_mul_of_nonneg_right (by omega) (by decide)
      obtain ⟨s, K, h1, h2, h3, d, h4, h5, h6⟩ := add_half hpn hp0 hb
      refine ⟨ho2, s, K, d, h1, h2, h3, h4, h5, h6, ?_⟩
      unfold stepV
      rw [hp]
      simp only
      rw [hk, if_pos ho2, h1]
      simp only
      rw [h3]; rfl
    · left
      refine ⟨_, ho, ?_, ?_⟩
      · rw [Int.compare_eq_ite_lt, if_neg hlt]; split <;> simp
      · unfold stepV
        rw [hp]
        simp only
        rw [hk, if_neg]
        rw [ho, Int.compare_eq_ite_lt, if_neg hlt]; split <;> simp
  · left
    have ho : FloatKind.f32.format.order p (floatOfInt .f32 (k : Int)) = some .gt := by
      obtain ⟨s, m', e, hd, _, _⟩ := num_parts hcn
      unfold Ieee.Format.order
      have h1 : FloatKind.f32.format.read p = .infinity false := by rw [hinf]; decide +kernel
      have h2 : FloatKind.f32.format.read (floatOfInt .f32 (k : Int)) = .number s m' e := hd
      rw [h1, h2]; rfl
    refine ⟨_, ho, by simp, ?_⟩
    unfold stepV
    rw [hp]
    simp only
    rw [hk, if_neg]
    rw [ho]; simp

set_option maxHeartbeats 1000000 in
theorem l05Step_any (x q : Nat) (m : Int) (hx : Lvl x) (hq : isNum q = true) (hq0 : 0 < valF q) (hm : 2 ≤ m ∧ m ≤ 256) (w : World) :
    Calls Try.prog 117 #[.float .f32 x, .float .f32 q, .int .i64 m] w fun e w' => e = .returned (.int .i64 (stepV x q m)) ∧ w = w' := by
  obtain ⟨p, hp, hw⟩ := step_ways hx hq hq0 hm
  have e1 := fres_some hp
  have n1 := nd_some hp
  obtain ⟨c, hc⟩ : ∃ c, c = floatOfInt .f32 (m - 1) := ⟨_, rfl⟩
  rw [← hc] at hw
  have hc2 : floatOfInt .f32 (m - 1) = c := hc.symm
  clear hp hx hq hq0 hc
  rcases hw with ⟨o, ho, hne, hst⟩ | ⟨ho, s, K, d, h1, h2, h3, h4, h5, h6, hst⟩
  · rw [hst]
    have hge : (FloatKind.f32.format.order p c == some .gt || FloatKind.f32.format.order p c == some .eq) = true := by rw [ho]; cases o <;> first | rfl | exact absurd rfl hne
    clear ho hst
    go_enter Try.func117, Try.ntmps117
    go_wp2
    go_ret
    exact ⟨rfl, rfl⟩
  · rw [hst]
    have hge : (FloatKind.f32.format.order p c == some .gt || FloatKind.f32.format.order p c == some .eq) = false := by rw [ho]; rfl
    have e2 := fres_some h1
    have n2 := nd_some h1
    unfold half at e2 n2
    have k1 : ∀ w, (convert 28 2 (.float .f32 s)).run Try.prog w = .ok (.int .i64 K) w := fun w => run_convert_float_int w 28 2 .f32 .i64 s K (by rw [Try.underlying28]; rfl) Try.underlying2 h3
    clear ho hst h1 h2 h3 h4 h5 h6
    go_enter Try.func117, Try.ntmps117
    go_wp2
    go_ret
    exact ⟨rfl, rfl⟩

set_option maxHeartbeats 1000000 in
theorem stepOf_any (x q : Nat) (m : Int) (hx : Lvl x) (hq : isNum q = true) (hq0 : 0 < valF q) (hm : 2 ≤ m ∧ m ≤ 256) (w : World) :
    Calls Try.prog 120 #[.float .f32 x, .float .f32 q, .int .i64 m] w fun e w' => e = .returned (.int .i64 (stepV x q m)) ∧ w = w' := by
  obtain ⟨p, hp, hw⟩ := step_ways hx hq hq0 hm
  have e1 := fres_some hp
  have n1 := nd_some hp
  obtain ⟨c, hc⟩ : ∃ c, c = floatOfInt .f32 (m - 1) := ⟨_, rfl⟩
  rw [← hc] at hw
  have hc2 : floatOfInt .f32 (m - 1) = c := hc.symm
  clear hp hx hq hq0 hc
  rcases hw with ⟨o, ho, hne, hst⟩ | ⟨ho, s, K, d, h1, h2, h3, h4, h5, h6, hst⟩
  · rw [hst]
    have hge : (FloatKind.f32.format.order p c == some .gt || FloatKind.f32.format.order p c == some .eq) = true := by rw [ho]; cases o <;> first | rfl | exact absurd rfl hne
    clear ho hst
    go_enter Try.func120, Try.ntmps120
    go_wp2
    go_ret
    exact ⟨rfl, rfl⟩
  · rw [hst]
    have hge : (FloatKind.f32.format.order p c == some .gt || FloatKind.f32.format.order p c == some .eq) = false := by rw [ho]; rfl
    have e2 := fres_some h1
    have n2 := nd_some h1
    unfold half at e2 n2
    have e3 := wres_some h4
    have n3 := nw_some h4
    obtain ⟨z, hz⟩ : ∃ z, z = FloatKind.f64.encode (.number false K 0) := ⟨_, rfl⟩
    have hF := Floor_any d _ h5 h6
    have hkz := small_whole K h2
    rw [← hz] at hF hkz
    have k1 : ∀ w, (convert 53 2 (.float .f64 z)).run Try.prog w = .ok (.int .i64 K) w := fun w => run_convert_float_int w 53 2 .f64 .i64 z K (by rw [Try.underlying53]; rfl) Try.underlying2 hkz
    have HF := Lib.hid hF
    clear ho hst h1 h2 h3 h4 h5 h6 hz hF hkz
    go_enter Try.func120, Try.ntmps120
    go_wp2_with fail
    refine (HF.out _).mono ?_
    rintro e w1 ⟨rfl, rfl⟩
    go_wp2
    go_ret
    exact ⟨rfl, rfl⟩
end Go.Proofs.Ytphbjfijipcpnaa
