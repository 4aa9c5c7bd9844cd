/- Contracts of small functions. -/
import Derived.Test.YtphbjfijipcpnaaRows
import Derived.Test.YtphbjfijipcpnaaFlo
import Derived.WalkKit
import Derived.WalkLawsBesides
import Derived.WalkSpells
import Derived.Deep.QuietTactic
import Derived.BigQuiet
import Derived.Handy
import Derived.Outline
import Derived.Deep.RegionWith
import Derived.Deep.Cut
import Derived.Deep.CutRange
import Derived.Deep.LoopGhost
import Derived.Lib.Hide
namespace Go.Proofs.Ytphbjfijipcpnaa
open Go.RowKit
set_option linter.unusedVariables false

def RdF (w : World) (a : Option Addr) (bs : List Nat) : Prop := ∀ i, i < bs.length → ∃ b off, a = some ⟨b, off, none⟩ ∧ w.cell? ⟨b, off + i, none⟩ = some (.float .f32 (bs.getD i 0))

def isNum (b : Nat) : Bool := fin (ab .f32 b)

theorem ret_bool {a b : Bool} (h : a = b) : Ending.returned (.bool a) = .returned (.bool b) := by rw [h]
theorem ret_int {k : IntKind} {a b : Int} (h : a = b) : Ending.returned (.int k a) = .returned (.int k b) := by rw [h]

def Quiet (w w' : World) : Prop := ∃ n, w' = w.drewN n
theorem Quiet.refl (w : World) : Quiet w w := ⟨0, rfl⟩

theorem isNumber_any (b : Nat) (w : World) :
    Calls Try.prog 92 #[.float .f32 b] w fun e w' => e = .returned (.bool (isNum b)) ∧ Quiet w w' := by
  obtain ⟨r, n, hrun, hr, _⟩ := run_arith (P := Try.prog) w .sub (.inr (.inl rfl)) 28 .f32 b b
  go_enter Try.func92, Try.ntmps92
  go_wp2
  go_ret
  refine ⟨?_, n, rfl⟩
  unfold isNum fin
  rw [← hr, cmp_ab]
  rfl

theorem areNumbers1_any (b : Nat) (w : World) :
    Calls Try.prog 137 #[.float .f32 b] w fun e w' => e = .returned (.bool (!isNum b)) ∧ Quiet w w' := by
  go_enter Try.func137, Try.ntmps137
  go_wp2_with (go_at_call 92; refine (isNumber_any _ _).mono ?_; rintro e w' ⟨rfl, n, rfl⟩)
  go_ret
  exact ⟨rfl, n, rfl⟩

/-- the first number that is none -/
def idx (bs : List Nat) : Int := match bs.findIdx? (fun b => !isNum b) with | some i => i | none => -1

theorem idx_found {bs : List Nat} {k : Nat} (hk : k < bs.length) (h : ∀ j, j < k → isNum (bs.getD j 0) = true) (hn : isNum (bs.getD k 0) = false) : idx bs = k := by
  have e : bs.findIdx? (fun b => !isNum b) = some k := by
    rw [List.findIdx?_eq_some_iff_getElem]
    refine ⟨hk, by simpa [hk] using hn, fun j hj => ?_⟩
    have := h j hj
    simpa [show j < bs.length by omega] using this
  unfold idx; rw [e]
theorem idx_none {bs : List Nat} (h : ∀ j, j < bs.length → isNum (bs.getD j 0) = true) : idx bs = -1 := by
  have e : bs.findIdx? (fun b => !isNum b) = none := by
    rw [List.findIdx?_eq_none_iff]
    intro x hx
    obtain ⟨j, hj, rfl⟩ := List.getElem_of_mem hx
    have := h j hj
    simpa [hj] using this
  unfold idx; rw [e]
theorem idx_nonneg (bs : List Nat) : decide (0 ≤ idx bs) = bs.any fun b => !isNum b := by
  unfold idx
  cases e : bs.findIdx? (fun b => !isNum b) with
  | none =>
    rw [List.findIdx?_eq_none_iff] at e
    have : bs.any (fun b => !isNum b) = false := by rw [List.any_eq_false]; intro x hx; simpa using e x hx
    rw [this]; rfl
  | some i =>
    rw [List.findIdx?_eq_some_iff_getElem] at e
    obtain ⟨hi, hn, _⟩ := e
    have : bs.any (fun b => !isNum b) = true := by rw [List.any_eq_true]; exact ⟨_, List.getElem_mem hi, hn⟩
    rw [this]; simp

theorem idxf_any (bs : List Nat) (a : Option Addr) (c : Nat) (w : World) (hrd : RdF w a bs) (hl : bs.length ≤ 9223372036854775807) :
    Calls Try.prog 141 #[.slice a bs.length c, .func (.func 137) #[] #[]] w fun e w' => e = .returned (.int .i64 (idx bs)) ∧ Quiet w w' := by
  go_enter Try.func141, Try.ntmps141
  go_wp2
  go_loopw [8] (fun i wr => ∃ k : Nat, k ≤ bs.length ∧ i = .int .i64 k ∧ Quiet w wr ∧ (∀ j, j < k → isNum (bs.getD j 0) = true)) (fun i _ => bs.length - (intOf i).toNat)
  case atStart => exact ⟨0, Nat.zero_le _, rfl, Quiet.refl _, fun j h => by omega⟩
  case round =>
    obtain ⟨k, hk, rfl, ⟨q, rfl⟩, hall⟩ := hrel
    by_cases hlt : k < bs.length
    · obtain ⟨b, off, rfl, hc⟩ := hrd k hlt
      obtain ⟨x, hx⟩ : ∃ x, x = bs.getD k 0 := ⟨_, rfl⟩
      rw [← hx] at hc
      have HX := Lib.hid hx; clear hx
      have HA := Lib.hid hall; clear hall
      have HR := Lib.hid hrd; clear hrd
      cases hn : isNum x with
      | true =>
        go_wp2_with (go_at_call 137; refine (areNumbers1_any _ _).mono ?_; rintro e w' ⟨rfl, n, rfl⟩)
        go_roundw
        case rel =>
          refine ⟨k + 1, by omega, by go_num, ⟨_, rfl⟩, fun j hj => ?_⟩
          by_cases e : j = k
          · rw [e, ← HX.out]; exact hn
          · exact HA.out j (by omega)
        case measure => simp [intOf]; omega
      | false =>
        go_wp2_with (go_at_call 137; refine (areNumbers1_any _ _).mono ?_; rintro e w' ⟨rfl, n, rfl⟩)
        go_ret
        exact ⟨by rw [idx_found hlt HA.out (by rw [← HX.out]; exact hn)]; rfl, _, rfl⟩
    · have e : k = bs.length := by omega
      have HN := Lib.hid (idx_none (bs := bs) (fun j hj => hall j (by omega)))
      clear hall hrd
      go_wp2
      go_ret
      exact ⟨by rw [HN.out]; rfl, _, rfl⟩

/-- all of them are numbers -/
def allNum (bs : List Nat) : Bool := bs.all isNum
theorem any_all (bs : List Nat) : (!bs.any fun b => !isNum b) = allNum bs := by
  unfold allNum
  induction bs with
  | nil => rfl
  | cons x r ih => simp only [List.any_cons, List.all_cons, Bool.not_or, Bool.not_not, ih]

theorem containsf_any (bs : List Nat) (a : Option Addr) (c : Nat) (w : World) (hrd : RdF w a bs) (hl : bs.length ≤ 9223372036854775807) :
    Calls Try.prog 136 #[.slice a bs.length c, .func (.func 137) #[] #[]] w fun e w' => e = .returned (.bool (!allNum bs)) ∧ Quiet w w' := by
  have HR := Lib.hid hrd; clear hrd
  go_enter Try.func136, Try.ntmps136
  go_wp2_with (go_at_call 141; refine (idxf_any _ _ _ _ HR.out hl).mono ?_; rintro e w' ⟨rfl, n, rfl⟩)
  go_ret
  exact ⟨ret_bool (by rw [idx_nonneg, ← any_all, Bool.not_not]), _, rfl⟩

theorem areNumbers_any (bs : List Nat) (a : Option Addr) (c : Nat) (w : World) (hrd : RdF w a bs) (hl : bs.length ≤ 9223372036854775807) :
    Calls Try.prog 121 #[.slice a bs.length c] w fun e w' => e = .returned (.bool (allNum bs)) ∧ Quiet w w' := by
  have HR := Lib.hid hrd; clear hrd
  go_enter Try.func121, Try.ntmps121
  go_wp2_with (go_at_call 136; refine (containsf_any _ _ _ _ HR.out hl).mono ?_; rintro e w' ⟨rfl, n, rfl⟩)
  go_ret
  exact ⟨ret_bool (by simp), _, rfl⟩

theorem l01Fine_any (b : Nat) (w : World) :
    Calls Try.prog 88 #[.float .f32 b] w fun e w' => e = .returned (.bool (isNum b)) ∧ Quiet w w' := by
  obtain ⟨r, n, hrun, hr, _⟩ := run_arith (P := Try.prog) w .sub (.inr (.inl rfl)) 28 .f32 b b
  go_enter Try.func88, Try.ntmps88
  go_wp2
  go_ret
  refine ⟨?_, n, rfl⟩
  unfold isNum fin
  rw [← hr, cmp_ab]
  rfl

theorem allNum_of {bs : List Nat} (h : ∀ j, j < bs.length → isNum (bs.getD j 0) = true) : allNum bs = true := by
  unfold allNum
  rw [List.all_eq_true]
  intro x hx
  obtain ⟨j, hj, rfl⟩ := List.getElem_of_mem hx
  have := h j hj
  simpa [hj] using this
theorem allNum_not {bs : List Nat} {k : Nat} (hk : k < bs.length) (hn : isNum (bs.getD k 0) = false) : allNum bs = false := by
  unfold allNum
  rw [List.all_eq_false]
  exact ⟨bs[k], List.getElem_mem hk, by simpa [hk] using hn⟩

theorem l10Fine_any (bs : List Nat) (a : Option Addr) (c : Nat) (w : World) (hrd : RdF w a bs) (hl : bs.length ≤ 9223372036854775807) :
    Calls Try.prog 65 #[.slice a bs.length c] w fun e w' => e = .returned (.bool (allNum bs)) ∧ Quiet w w' := by
  go_enter Try.func65, Try.ntmps65
  go_wp2
  go_loopw [3] (fun i wr => ∃ k : Nat, k ≤ bs.length ∧ i = .int .i64 k ∧ Quiet w wr ∧ (∀ j, j < k → isNum (bs.getD j 0) = true)) (fun i _ => bs.length - (intOf i).toNat)
  case atStart => exact ⟨0, Nat.zero_le _, rfl, Quiet.refl _, fun j h => by omega⟩
  case round =>
    obtain ⟨k, hk, rfl, ⟨q, rfl⟩, hall⟩ := hrel
    by_cases hlt : k < bs.length
    · obtain ⟨b, off, rfl, hc⟩ := hrd k hlt
      obtain ⟨x, hx⟩ : ∃ x, x = bs.getD k 0 := ⟨_, rfl⟩
      rw [← hx] at hc
      have HX := Lib.hid hx; clear hx
      have HA := Lib.hid hall; clear hall
      have HR := Lib.hid hrd; clear hrd
      cases hn : isNum x with
      | true =>
        go_wp2_with (go_at_call 88; refine (l01Fine_any _ _).mono ?_; rintro e w' ⟨rfl, n, rfl⟩)
        go_roundw
        case rel =>
          refine ⟨k + 1, by omega, by go_num, ⟨_, rfl⟩, fun j hj => ?_⟩
          by_cases e : j = k
          · rw [e, ← HX.out]; exact hn
          · exact HA.out j (by omega)
        case measure => simp [intOf]; omega
      | false =>
        go_wp2_with (go_at_call 88; refine (l01Fine_any _ _).mono ?_; rintro e w' ⟨rfl, n, rfl⟩)
        go_ret
        exact ⟨ret_bool (by rw [allNum_not hlt (by rw [← HX.out]; exact hn)]), _, rfl⟩
    · have e : k = bs.length := by omega
      have HN := Lib.hid (allNum_of (bs := bs) (fun j hj => hall j (by omega)))
      clear hall hrd
      go_wp2
      go_ret
      exact ⟨ret_bool (by rw [HN.out]), _, rfl⟩
end Go.Proofs.Ytphbjfijipcpnaa
