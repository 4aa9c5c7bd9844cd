/- Sums by codes of Walsh: codes, and the functions. -/
import Derived.Test.YtphbjfijipcpnaaSum
import Derived.Test.YtphbjfijipcpnaaCor
namespace Go.Proofs.Ytphbjfijipcpnaa
open Go.RowKit
set_option linter.unusedVariables false

/-- the lengths of codes of Walsh -/
def isL (n : Nat) : Bool := n == 1 || n == 2 || n == 4 || n == 8 || n == 16 || n == 32 || n == 64
theorem isL_and : ∀ n : Nat, n < 65 → 1 ≤ n → (bits .and .i64 (n : Int) ((n : Int) - 1) == 0) = isL n := by decide
theorem isL_pow {n : Nat} (h : isL n = true) : n.log2 ≤ 6 ∧ n = 2 ^ n.log2 := by
  simp only [isL, Bool.or_eq_true, beq_iff_eq] at h
  rcases h with (((((h | h) | h) | h) | h) | h) | h <;> subst h <;> decide
theorem isL_le {n : Nat} (h : isL n = true) : n ≤ 64 := by
  simp only [isL, Bool.or_eq_true, beq_iff_eq] at h; omega

theorem isLength_any (n : Nat) (w : World) (hn : n ≤ 9223372036854775807) : Calls Try.prog 99 #[.int .i64 n] w fun e w' => e = .returned (.bool (isL n)) ∧ w = w' := by
  by_cases h : 1 ≤ n ∧ n ≤ 64
  · have hr : inR (n : Int) 1 64 = true := by simp [inR]; omega
    have ha := isL_and n (by omega) h.1
    obtain ⟨b, hb⟩ : ∃ b, b = isL n := ⟨_, rfl⟩
    rw [← hb] at ha ⊢
    clear hb
    cases b
    all_goals
      go_enter Try.func99, Try.ntmps99
      go_wp2_with fail
      refine (within_any _ _ _ _).mono ?_
      rintro e w' ⟨rfl, rfl⟩
      rw [hr]
      go_wp2
      go_ret
      exact ⟨rfl, rfl⟩
  · have hr : inR (n : Int) 1 64 = false := by simp [inR]; omega
    have hb : isL n = false := by simp [isL]; omega
    rw [hb]
    go_enter Try.func99, Try.ntmps99
    go_wp2_with fail
    refine (within_any _ _ _ _).mono ?_
    rintro e w' ⟨rfl, rfl⟩
    rw [hr]
    go_wp2
    go_ret
    exact ⟨rfl, rfl⟩

theorem l10Length_any (n : Nat) (w : World) (hn : n ≤ 9223372036854775807) : Calls Try.prog 96 #[.int .i64 n] w fun e w' => e = .returned (.bool (isL n)) ∧ w = w' := by
  cases hb : isL n with
  | true =>
    simp only [isL, Bool.or_eq_true, beq_iff_eq] at hb
    rcases hb with (((((h | h) | h) | h) | h) | h) | h
    all_goals
      subst h
      go_enter Try.func96, Try.ntmps96
      go_wp2
      go_rounds 8
      go_ret
      exact ⟨rfl, rfl⟩
  | false =>
    simp only [isL, Bool.or_eq_false_iff, beq_eq_false_iff_ne] at hb
    obtain ⟨⟨⟨⟨⟨⟨h1, h2⟩, h3⟩, h4⟩, h5⟩, h6⟩, h7⟩ := hb
    have g1 : ¬ (n : Int) = 1 := by omega
    have g2 : ¬ (n : Int) = 2 := by omega
    have g3 : ¬ (n : Int) = 4 := by omega
    have g4 : ¬ (n : Int) = 8 := by omega
    have g5 : ¬ (n : Int) = 16 := by omega
    have g6 : ¬ (n : Int) = 32 := by omega
    have g7 : ¬ (n : Int) = 64 := by omega
    clear h1 h2 h3 h4 h5 h6 h7
    go_enter Try.func96, Try.ntmps96
    go_wp2
    go_rounds 8
    all_goals go_ret
    all_goals exact ⟨rfl, rfl⟩

theorem listCode_isLength (bs : List Nat) (a : Option Addr) (c : Nat) (w : World) (hrd : RdF w a bs) (hl : bs.length ≤ 9223372036854775807) :
    Calls Try.prog 69 #[.slice a bs.length c, .func (.func 99) #[] #[]] w fun e w' => e = .returned (.int .i64 (lcode (allNum bs) (isL bs.length))) ∧ Quiet w w' := by
  have HR := Lib.hid hrd; clear hrd
  cases hn : allNum bs with
  | true =>
    cases hd : isL bs.length with
    | true =>
      go_enter Try.func69, Try.ntmps69
      go_wp2_with (first | (go_at_call 121; refine (areNumbers_any _ _ _ _ HR.out hl).mono ?_; rintro e w' ⟨rfl, n, rfl⟩) | (go_at_call 99; refine (isLength_any _ _ hl).mono ?_; rintro e w' ⟨rfl, rfl⟩))
      go_ret
      exact ⟨rfl, _, rfl⟩
    | false =>
      go_enter Try.func69, Try.ntmps69
      go_wp2_with (first | (go_at_call 121; refine (areNumbers_any _ _ _ _ HR.out hl).mono ?_; rintro e w' ⟨rfl, n, rfl⟩) | (go_at_call 99; refine (isLength_any _ _ hl).mono ?_; rintro e w' ⟨rfl, rfl⟩))
      go_ret
      exact ⟨rfl, _, rfl⟩
  | false =>
    go_enter Try.func69, Try.ntmps69
    go_wp2_with (first | (go_at_call 121; refine (areNumbers_any _ _ _ _ HR.out hl).mono ?_; rintro e w' ⟨rfl, n, rfl⟩) | (go_at_call 99; refine (isLength_any _ _ hl).mono ?_; rintro e w' ⟨rfl, rfl⟩))
    go_ret
    exact ⟨rfl, _, rfl⟩

theorem l10Told_any (bs : List Nat) (a : Option Addr) (c : Nat) (w : World) (hrd : RdF w a bs) (hl : bs.length ≤ 9223372036854775807) :
    Calls Try.prog 97 #[.slice a bs.length c] w fun e w' => e = .returned (if allNum bs = true then .tuple #[.slice a bs.length c, .int .i64 0] else .tuple #[.slice none 0 0, .int .i64 3]) ∧ Quiet w w' := by
  have HR := Lib.hid hrd; clear hrd
  cases hn : allNum bs with
  | true =>
    go_enter Try.func97, Try.ntmps97
    go_wp2_with (go_at_call 65; refine (l10Fine_any _ _ _ _ HR.out hl).mono ?_; rintro e w' ⟨rfl, n, rfl⟩)
    go_ret2
    exact ⟨rfl, _, rfl⟩
  | false =>
    go_enter Try.func97, Try.ntmps97
    go_wp2_with (go_at_call 65; refine (l10Fine_any _ _ _ _ HR.out hl).mono ?_; rintro e w' ⟨rfl, n, rfl⟩)
    go_ret2
    exact ⟨rfl, _, rfl⟩

theorem inner_length (h : Nat) (l : List FV) (k : Nat) : (inner h k l).length = l.length := by
  induction k with
  | zero => rfl
  | succ k ih => simp only [inner, bstep]; split <;> simp [ih]
theorem outer_length (n : Nat) (l : List FV) (e : Nat) : (outer n e l).length = l.length := by
  induction e with
  | zero => rfl
  | succ e ih => simp only [outer, inner_length, ih]
theorem sumsV_length (m : Nat) (l : List FV) : (sumsV m l).length = l.length := outer_length _ _ _

/-- the sums' list if all are finite -/
def toldV (l : List FV) : Int × List FV := if l.all fin then (0, l) else (3, [])
def sumsRes (xs : List Nat) : Int × List FV :=
  if allNum xs then (if isL xs.length then toldV (sumsV xs.length.log2 (xs.map (ab .f32))) else (2, [])) else (1, [])
theorem toldV_length (l : List FV) : (toldV l).2.length ≤ l.length := by unfold toldV; split <;> simp
theorem sumsRes_length (xs : List Nat) : (sumsRes xs).2.length ≤ 64 := by
  unfold sumsRes
  split
  · split
    · rename_i h
      have := toldV_length (sumsV xs.length.log2 (xs.map (ab .f32)))
      rw [sumsV_length, List.length_map] at this
      have := isL_le h
      omega
    · simp
  · simp

set_option maxHeartbeats 1000000 in
theorem signedSums_any (xs : List Nat) (a : Option Addr) (c : Nat) (w : World) (hx : RdF w a xs) (hl : xs.length ≤ 4611686018427387903) :
    Calls Try.prog 54 #[.slice a xs.length c] w (ListPost (sumsRes xs) w) := by
  have HX := Lib.hid hx; clear hx
  have hl' : xs.length ≤ 9223372036854775807 := by omega
  cases hna : allNum xs with
  | false =>
    have R : Hid (sumsRes xs = (1, [])) := by show _ = _; simp [sumsRes, hna]
    go_enter Try.func54, Try.ntmps54
    go_wp2_with fail
    refine (listCode_isLength xs a c w HX.out hl').mono ?_
    rintro e w1 ⟨rfl, n1, rfl⟩
    rw [hna]
    simp only [lcode, Bool.false_eq_true, if_false]
    go_wp2
    go_ret2
    exact ListPost.err R.out
  | true =>
    cases hd : isL xs.length with
    | false =>
      have R : Hid (sumsRes xs = (2, [])) := by show _ = _; simp [sumsRes, hna, hd]
      go_enter Try.func54, Try.ntmps54
      go_wp2_with fail
      refine (listCode_isLength xs a c w HX.out hl').mono ?_
      rintro e w1 ⟨rfl, n1, rfl⟩
      rw [hna, hd]
      simp only [lcode, Bool.false_eq_true, if_false, if_true]
      go_wp2
      go_ret2
      exact ListPost.err R.out
    | true =>
      have R : Hid (sumsRes xs = toldV (sumsV xs.length.log2 (xs.map (ab .f32)))) := by show _ = _; unfold sumsRes; rw [hna, hd]; rfl
      obtain ⟨hm, hp⟩ := isL_pow hd
      have HP := Lib.hid hp; clear hp
      go_enter Try.func54, Try.ntmps54
      go_wp2_with fail
      refine (listCode_isLength xs a c w HX.out hl').mono ?_
      rintro e w1 ⟨rfl, n1, rfl⟩
      rw [hna, hd]
      simp only [lcode, if_true]
      clear hna hd
      go_wp2_with fail
      refine (sums_any xs.length.log2 hm xs a c (w.drewN n1) HX.out HP.out).mono ?_
      rintro e w1 ⟨v, outs, rfl, h1, h2, h3⟩
      obtain ⟨a3, c3, rfl⟩ := h1.slice
      have hlo : outs.length ≤ 9223372036854775807 := by have := h1.len; unfold maxLen at this; exact this
      have hrd := h1.rd.2
      have H1 := Lib.hid h1
      have H2 := Lib.hid h2
      have H3 := Lib.hid (below_drewN' (Below.refl w.heap.size w) n1 |>.trans h3)
      have H4 := Lib.hid hrd
      clear h1 h2 h3 hrd
      go_wp2_with fail
      refine (finite_any outs a3 c3 w1 H4.out hlo).mono ?_
      rintro e w2 ⟨rfl, n3, rfl⟩
      cases hf : allNum outs with
      | true =>
        have R2 : Hid (sumsRes xs = (0, outs.map (ab .f32))) := by show _ = _; rw [R.out, ← H2.out]; unfold toldV; rw [← allNum_fin, hf]; rfl
        simp only [if_true]
        go_wp2
        go_ret2
        exact ⟨_, outs, by rw [R2.out]; rfl, H1.out, by rw [R2.out], below_drewN' H3.out _⟩
      | false =>
        have R2 : Hid (sumsRes xs = (3, [])) := by show _ = _; rw [R.out, ← H2.out]; unfold toldV; rw [← allNum_fin, hf]; rfl
        simp only [Bool.false_eq_true, if_false]
        go_wp2
        go_ret2
        exact ⟨_, [], by rw [R2.out]; rfl, OwnF.nil _ _, by rw [R2.out]; rfl, below_drewN' H3.out _⟩

set_option maxHeartbeats 1000000 in
theorem l10RawSums_any (xs : List Nat) (a : Option Addr) (c : Nat) (w : World) (hx : RdF w a xs) (hl : xs.length ≤ 4611686018427387903) :
    Calls Try.prog 53 #[.slice a xs.length c] w (ListPost (sumsRes xs) w) := by
  have HX := Lib.hid hx; clear hx
  have hl' : xs.length ≤ 9223372036854775807 := by omega
  cases hna : allNum xs with
  | false =>
    have R : Hid (sumsRes xs = (1, [])) := by show _ = _; simp [sumsRes, hna]
    go_enter Try.func53, Try.ntmps53
    go_wp2_with fail
    refine (l10Fine_any xs a c w HX.out hl').mono ?_
    rintro e w1 ⟨rfl, n1, rfl⟩
    rw [hna]
    go_wp2
    go_ret2
    exact ListPost.err R.out
  | true =>
    cases hd : isL xs.length with
    | false =>
      have R : Hid (sumsRes xs = (2, [])) := by show _ = _; simp [sumsRes, hna, hd]
      go_enter Try.func53, Try.ntmps53
      go_wp2_with fail
      refine (l10Fine_any xs a c w HX.out hl').mono ?_
      rintro e w1 ⟨rfl, n1, rfl⟩
      rw [hna]
      go_wp2_with fail
      refine (l10Length_any _ _ hl').mono ?_
      rintro e w1 ⟨rfl, rfl⟩
      rw [hd]
      go_wp2
      go_ret2
      exact ListPost.err R.out
    | true =>
      have R : Hid (sumsRes xs = toldV (sumsV xs.length.log2 (xs.map (ab .f32)))) := by show _ = _; unfold sumsRes; rw [hna, hd]; rfl
      obtain ⟨hm, hp⟩ := isL_pow hd
      have HP := Lib.hid hp; clear hp
      go_enter Try.func53, Try.ntmps53
      go_wp2_with fail
      refine (l10Fine_any xs a c w HX.out hl').mono ?_
      rintro e w1 ⟨rfl, n1, rfl⟩
      rw [hna]
      go_wp2_with fail
      refine (l10Length_any _ _ hl').mono ?_
      rintro e w1 ⟨rfl, rfl⟩
      rw [hd]
      clear hna hd
      go_wp2_with fail
      refine (l10Sums_any xs.length.log2 hm xs a c (w.drewN n1) HX.out HP.out).mono ?_
      rintro e w1 ⟨v, outs, rfl, h1, h2, h3⟩
      obtain ⟨a3, c3, rfl⟩ := h1.slice
      have hlo : outs.length ≤ 9223372036854775807 := by have := h1.len; unfold maxLen at this; exact this
      have hrd := h1.rd.2
      have H1 := Lib.hid h1
      have H2 := Lib.hid h2
      have H3 := Lib.hid (below_drewN' (Below.refl w.heap.size w) n1 |>.trans h3)
      have H4 := Lib.hid hrd
      clear h1 h2 h3 hrd
      go_wp2_with fail
      refine (l10Told_any outs a3 c3 w1 H4.out hlo).mono ?_
      rintro e w2 ⟨rfl, n3, rfl⟩
      cases hf : allNum outs with
      | true =>
        have R2 : Hid (sumsRes xs = (0, outs.map (ab .f32))) := by show _ = _; rw [R.out, ← H2.out]; unfold toldV; rw [← allNum_fin, hf]; rfl
        simp only [if_true]
        go_wp2
        go_ret2
        exact ⟨_, outs, by rw [R2.out]; rfl, H1.out, by rw [R2.out], below_drewN' H3.out _⟩
      | false =>
        have R2 : Hid (sumsRes xs = (3, [])) := by show _ = _; rw [R.out, ← H2.out]; unfold toldV; rw [← allNum_fin, hf]; rfl
        simp only [Bool.false_eq_true, if_false]
        go_wp2
        go_ret2
        exact ⟨_, [], by rw [R2.out]; rfl, OwnF.nil _ _, by rw [R2.out]; rfl, below_drewN' H3.out _⟩
end Go.Proofs.Ytphbjfijipcpnaa
