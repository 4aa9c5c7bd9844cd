/- The laws' helpers on lists of the call's own, the lists as values. -/
import Derived.Test.YtphbjfijipcpnaaB6
namespace Go.Proofs.Ytphbjfijipcpnaa
open Go.RowKit
set_option linter.unusedVariables false

theorem toF_own (bs : List Nat) (a : Option Addr) (c : Nat) (w : World) (hrd : RdF w a bs) (hl : bs.length * 4 ≤ 140737488351232) :
    Calls Try.prog 13 #[.slice a bs.length c] w fun e w' => ∃ v, e = .returned v ∧ OwnF w' w.heap.size v bs ∧ Below w.heap.size w w' :=
  (toFloat32S_any bs a c w hrd hl).mono fun _ _ ⟨h1, h2, h3⟩ => ⟨_, h1, h2, h3⟩

theorem eq_own (xs ys : List Nat) (v1 v2 : Value) (b1 b2 : Nat) (w : World) (h1 : OwnF w b1 v1 xs) (h2 : OwnF w b2 v2 ys) (h : xs.map (ab .f32) = ys.map (ab .f32)) :
    Calls Try.prog 15 #[v1, v2] w fun e w' => e = .returned (.bool true) ∧ ∃ n, w' = w.drewN n := by
  have hl := h1.len
  unfold maxLen at hl
  obtain ⟨a, c, rfl⟩ := h1.slice
  obtain ⟨a2, c2, rfl⟩ := h2.slice
  have hlen : xs.length = ys.length := by simpa using congrArg List.length h
  rw [← hlen]
  exact eqFloat32S_eq xs ys a a2 c c2 w h1.rd.2 h2.rd.2 hl h

theorem held_own (n : Nat) (k0 : Int) (v : Value) (base : Nat) (w : World) (h : OwnF w base v (marks k0 n)) (h0 : 0 ≤ k0) (hk0 : k0 ≤ 4611686018427387904) (hl : n ≤ 4611686018427387903) :
    Calls Try.prog 17 #[v, .int .i64 k0] w fun e w' => e = .returned (.int .i64 (k0 + n)) ∧ w = w' := by
  obtain ⟨a, c, rfl⟩ := h.slice
  have e : (marks k0 n).length = n := marks_length k0 n
  rw [e]
  exact held_any n k0 a c w h.rd.2 h0 hk0 hl

/-- lists of the call's own that were made one after the other do not meet -/
theorem OwnF.apart {w w' : World} {b1 b2 : Nat} {v1 v2 : Value} {l1 l2 : List Nat} (h1 : OwnF w b1 v1 l1) (h2 : OwnF w' b2 v2 l2) (hb : w.heap.size ≤ b2) : v2.ownBlock = none ∨ v2.ownBlock ≠ v1.ownBlock := by
  cases hv : v2.ownBlock with
  | none => exact .inl rfl
  | some k =>
    refine .inr fun e => ?_
    have := (h1.ltOf k e.symm).2
    have := (h2.ltOf k hv).1
    omega
theorem OwnF.apart' {w w' : World} {b1 b2 : Nat} {v1 v2 : Value} {l1 l2 : List Nat} (h1 : OwnF w b1 v1 l1) (h2 : OwnF w' b2 v2 l2) (hb : w.heap.size ≤ b2) : v1.ownBlock = none ∨ v1.ownBlock ≠ v2.ownBlock := by
  cases hv : v1.ownBlock with
  | none => exact .inl rfl
  | some k =>
    refine .inr fun e => ?_
    have := (h1.ltOf k hv).2
    have := (h2.ltOf k e.symm).1
    omega
theorem OwnF.drew {w : World} {base : Nat} {v : Value} {bs : List Nat} (h : OwnF w base v bs) (n : Nat) : OwnF (w.drewN n) base v bs := h
theorem OwnF.kept' {w w' : World} {base : Nat} {v : Value} {bs : List Nat} {r : Option Nat} (h : OwnF w base v bs) (hne : v.ownBlock = none ∨ v.ownBlock ≠ r) (hg : w.grownBy w' r) : OwnF w' base v bs := h.keptBy hg hne
theorem below_of_drew {a b : World} {n : Nat} (h : b = a.drewN n) : Below a.heap.size a b := by rw [h]; exact below_drewN' (Below.refl _ _) n
end Go.Proofs.Ytphbjfijipcpnaa
