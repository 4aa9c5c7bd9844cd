/- Contracts: ranges, codes of lists, sums of products. -/
import Derived.Test.YtphbjfijipcpnaaB5
namespace Go.Proofs.Ytphbjfijipcpnaa
open Go.RowKit
set_option linter.unusedVariables false

def inR (n lo hi : Int) : Bool := decide (lo ≤ n) && decide (n ≤ hi)

theorem within_any (n lo hi : Int) (w : World) : Calls Try.prog 122 #[.int .i64 n, .int .i64 lo, .int .i64 hi] w fun e w' => e = .returned (.bool (inR n lo hi)) ∧ w = w' := by
  by_cases h1 : lo ≤ n
  · by_cases h2 : n ≤ hi
    · go_enter Try.func122, Try.ntmps122
      go_wp2
      go_ret
      exact ⟨ret_bool (by simp [inR, h1, h2]), rfl⟩
    · go_enter Try.func122, Try.ntmps122
      go_wp2
      go_ret
      exact ⟨ret_bool (by simp [inR, h1, h2]), rfl⟩
  · have h1' : decide (lo ≤ n) = false := by simpa using h1
    go_enter Try.func122, Try.ntmps122
    go_wp2
    go_ret
    exact ⟨ret_bool (by unfold inR; rw [h1']; rfl), rfl⟩

theorem l01In_any (n lo hi : Int) (w : World) : Calls Try.prog 66 #[.int .i64 n, .int .i64 lo, .int .i64 hi] w fun e w' => e = .returned (.bool (inR n lo hi)) ∧ w = w' := by
  by_cases h1 : lo ≤ n
  · by_cases h2 : n ≤ hi
    · go_enter Try.func66, Try.ntmps66
      go_wp2
      go_ret
      exact ⟨ret_bool (by simp [inR, h1, h2]), rfl⟩
    · go_enter Try.func66, Try.ntmps66
      go_wp2
      go_ret
      exact ⟨ret_bool (by simp [inR, h1, h2]), rfl⟩
  · have h1' : decide (lo ≤ n) = false := by simpa using h1
    go_enter Try.func66, Try.ntmps66
    go_wp2
    go_ret
    exact ⟨ret_bool (by unfold inR; rw [h1']; rfl), rfl⟩

theorem finite_any (bs : List Nat) (a : Option Addr) (c : Nat) (w : World) (hrd : RdF w a bs) (hl : bs.length ≤ 9223372036854775807) :
    Calls Try.prog 71 #[.slice a bs.length c] w fun e w' => e = .returned (if allNum bs = true then .tuple #[.slice a bs.length c, .int .i64 0] else .tuple #[.slice none 0 0, .int .i64 3]) ∧ Quiet w w' := by
  have HR := Lib.hid hrd; clear hrd
  cases hn : allNum bs with
  | true =>
    go_enter Try.func71, Try.ntmps71
    go_wp2_with (go_at_call 121; refine (areNumbers_any _ _ _ _ HR.out hl).mono ?_; rintro e w' ⟨rfl, n, rfl⟩)
    go_ret2
    exact ⟨rfl, _, rfl⟩
  | false =>
    go_enter Try.func71, Try.ntmps71
    go_wp2_with (go_at_call 121; refine (areNumbers_any _ _ _ _ HR.out hl).mono ?_; rintro e w' ⟨rfl, n, rfl⟩)
    go_ret2
    exact ⟨rfl, _, rfl⟩

/-- the sum from the left, beginning with 0, of n numbers -/
def dot (f : Nat → FV) : Nat → FV
  | 0 => some 0
  | j + 1 => arith .add .f32 (dot f j) (f j)
theorem ab_zero : ab .f32 0 = some 0 := by decide

theorem OwnF.mono {w : World} {base base' : Nat} {v : Value} {bs : List Nat} (h : OwnF w base v bs) (hb : base' ≤ base) : OwnF w base' v bs := by
  obtain ⟨h1, h2⟩ := h
  refine ⟨h1, ?_⟩
  rcases h2 with h2 | ⟨g, cap, cur, hv, hg, r⟩
  · exact .inl h2
  · exact .inr ⟨g, cap, cur, hv, Nat.le_trans hb hg, r⟩
theorem OwnF.nil (w : World) (base : Nat) : OwnF w base (.slice none 0 0) [] := World.ownsRow_nil w base _ _
theorem allNum_fin (bs : List Nat) : allNum bs = (bs.map (ab .f32)).all fin := by
  unfold allNum; rw [List.all_map]; rfl
theorem below_drewN' {B : Nat} {a w : World} (h : Below B a w) (n : Nat) : Below B a (w.drewN n) := ⟨h.os, h.tape, h.output, h.size, h.block⟩
/-- behind a list's own functions nothing that was there has turned -/
theorem grown_below {a b : World} {base : Nat} {v : Value} {bs : List Nat} {w : World} (h : Below base w a) (hg : a.grownBy b v.ownBlock) (ho : OwnF a base v bs) (hs : base ≤ a.heap.size) : Below base w b :=
  h.grown hg hs (fun j hj => (ho.ltOf j hj).1)

def pnV (x : FV) : FV := if cmpF .f32 x (some 0) == some .eq then some 0 else x
theorem ab_pn (b : Nat) : ab .f32 (pn b) = pnV (ab .f32 b) := by
  unfold pn pnV
  rw [cmp_ab, ab_zero]
  split <;> first | rfl | exact ab_zero
theorem map_ab_pn (bs : List Nat) : (bs.map pn).map (ab .f32) = (bs.map (ab .f32)).map pnV := by
  rw [List.map_map, List.map_map]
  exact List.map_congr_left fun b _ => ab_pn b

theorem dot_fin {f : Nat → FV} {n : Nat} (h : fin (dot f n) = true) : ∀ j, j ≤ n → fin (dot f j) = true := by
  induction n with
  | zero => intro j hj; rw [Nat.le_zero.1 hj]; exact h
  | succ n ih =>
    intro j hj
    by_cases e : j = n + 1
    · rw [e]; exact h
    · exact ih (fin_add h).1 j (by omega)
theorem range_all_fin (g : Nat → FV) (n : Nat) : ((List.range n).map g).all fin = true ↔ ∀ k, k < n → fin (g k) = true := by
  simp [List.all_eq_true]
end Go.Proofs.Ytphbjfijipcpnaa
