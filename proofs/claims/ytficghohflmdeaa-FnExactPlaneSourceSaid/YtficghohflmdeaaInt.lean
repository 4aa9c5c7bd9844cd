/- Lists of int64: read, owned, copied, compared. -/
import Derived.Test.YtficghohflmdeaaWTop
import Derived.Laws.OwnMore
namespace Go.Proofs.Ytficghohflmdeaa
open Go.RowKit
set_option linter.unusedVariables false

def itv (b : Int) : Value := .int .i64 b
def RdI (w : World) (a : Option Addr) (bs : List Int) : Prop := ∀ i, i < bs.length → ∃ b off, a = some ⟨b, off, none⟩ ∧ w.cell? ⟨b, off + i, none⟩ = some (.int .i64 (bs.getD i 0))
def OwnI (w : World) (base : Nat) (v : Value) (bs : List Int) : Prop := w.ownsRow base 2 1 v bs.length (bs.map itv)

theorem OwnI.rd {w : World} {base : Nat} {a : Option Addr} {n c : Nat} {bs : List Int} (h : OwnI w base (.slice a n c) bs) : n = bs.length ∧ RdI w a bs := by
  obtain ⟨hl, h⟩ := h
  rcases h with ⟨h1, h2⟩ | ⟨g, cap, cur, h1, hb, hg, hn, hc, hs, ht⟩
  · simp only [Value.slice.injEq] at h1
    obtain ⟨rfl, rfl, rfl⟩ := h1
    exact ⟨h2.symm, fun i hi => by omega⟩
  · simp only [Value.slice.injEq] at h1
    obtain ⟨rfl, rfl, rfl⟩ := h1
    refine ⟨rfl, fun i hi => ⟨g, 0, rfl, ?_⟩⟩
    rw [Nat.zero_add, cell_of_row w g i cur _ _ hg]
    have : cur.toList[i]? = (bs.map itv)[i]? := by rw [← ht, List.getElem?_take, if_pos (by omega)]
    rw [← Array.getElem?_toList, this]
    simp [hi, itv]
theorem RdI.below {w w' : World} {a : Option Addr} {bs : List Int} (h : RdI w a bs) (hb : Below w.heap.size w w') : RdI w' a bs := by
  intro i hi
  obtain ⟨b, off, ha, hc⟩ := h i hi
  exact ⟨b, off, ha, by rw [hb.cell (by exact block_lt_of_cell hc)]; exact hc⟩
theorem OwnI.slice {w : World} {base : Nat} {v : Value} {bs : List Int} (h : OwnI w base v bs) : ∃ a c, v = .slice a bs.length c := by
  rcases h.2 with ⟨h1, h2⟩ | ⟨g, cap, cur, h1, _⟩
  · exact ⟨none, 0, by rw [h1, h2]⟩
  · exact ⟨_, _, h1⟩
theorem ints_set (bs : List Int) (k : Nat) (hk : k < bs.length) :
    ((bs.take k).map itv ++ List.replicate (bs.length - k) (itv 0)).set k (itv (bs.getD k 0)) = (bs.take (k + 1)).map itv ++ List.replicate (bs.length - (k + 1)) (itv 0) := by
  have e : bs.length - k = (bs.length - (k + 1)) + 1 := by omega
  have e2 : ((bs.take k).map itv).length = k := by simp; omega
  rw [e, List.replicate_succ, List.take_succ_eq_append_getElem hk, List.set_append, if_neg (by omega), e2]
  simp only [Nat.sub_self, List.set_cons_zero, List.map_append, List.map_cons, List.map_nil, List.append_assoc, List.singleton_append, List.getD_eq_getElem?_getD, List.getElem?_eq_getElem hk, Option.getD_some]

theorem Try.infoI : (Try.prog.info? 2).map (fun i => (i.zero, i.size, i.bytes)) = some (some (.int .i64 0), 1, 8) := by kernel_rfl

set_option maxHeartbeats 400000 in
theorem toI_any (bs : List Int) (a : Option Addr) (c : Nat) (w : World) (hrd : RdI w a bs) (hl : bs.length * 8 ≤ 140737488351232) :
    Calls Try.prog 25 #[.slice a bs.length c] w fun e w' => e = .returned (.slice (some ⟨w.heap.size, 0, none⟩) bs.length bs.length) ∧
      OwnI w' w.heap.size (.slice (some ⟨w.heap.size, 0, none⟩) bs.length bs.length) bs ∧ Below w.heap.size w w' := by
  obtain ⟨i0, hi, hz0, hz1, hz2⟩ := info_parts Try.infoI
  obtain ⟨w1, hmk, hown, hg⟩ := run_make_full (P := Try.prog) w w.heap.size 38 2 i0 (.int .i64 0) 1 Try.underlying38 hi hz0 hz1 .i64 .i64 bs.length (by rw [hz2]; omega) (by unfold maxLen; omega) (Nat.le_refl _)
  have hb1 : Below w.heap.size w w1 := (Below.refl _ _).grown hg (Nat.le_refl _) (fun k h => by cases h)
  have hl2 : bs.length ≤ 9223372036854775807 := by omega
  have hown1 : Hid (w1.ownsRow w.heap.size 2 1 (.slice (some ⟨w.heap.size, 0, none⟩) bs.length bs.length) bs.length ((bs.take 0).map itv ++ List.replicate (bs.length - 0) (itv 0))) := by
    have e : (madeCells (Value.int .i64 0).cells (bs.length * 1)).toList = (bs.take 0).map itv ++ List.replicate (bs.length - 0) (itv 0) := by
      rw [Nat.mul_one]; exact toList_madeCells_one _ _
    rw [← e]; exact hown
  have HR := Lib.hid hrd; clear hrd
  clear hown hg hi hz0 hz1 hz2
  go_enter Try.func25, Try.ntmps25
  go_wp2
  go_loopw [4] (fun i wr => ∃ k : Nat, k ≤ bs.length ∧ i = .int .i64 k ∧ Below w.heap.size w wr ∧ Hid (wr.ownsRow w.heap.size 2 1 (.slice (some ⟨w.heap.size, 0, none⟩) bs.length bs.length) bs.length ((bs.take k).map itv ++ List.replicate (bs.length - k) (itv 0)))) (fun i _ => bs.length - (intOf i).toNat)
  case atStart => exact ⟨0, Nat.zero_le _, rfl, hb1, hown1⟩
  case round =>
    clear hmk hb1 hown1
    obtain ⟨k, hk, rfl, hbl, hown⟩ := hrel
    by_cases hlt : k < bs.length
    · obtain ⟨b, off, rfl, hc⟩ := HR.out k hlt
      have hc' := hc
      rw [← hbl.cell (by exact block_lt_of_cell hc)] at hc'
      clear hc
      obtain ⟨x, hx⟩ : ∃ x, x = bs.getD k 0 := ⟨_, rfl⟩
      rw [← hx] at hc'
      have HX := Lib.hid hx; clear hx
      have hcell := hown.out.cellAt k (by omega)
      rw [List.getElem?_eq_getElem (by simp; omega)] at hcell
      obtain ⟨y, hy⟩ : ∃ y, y = ((bs.take k).map itv ++ List.replicate (bs.length - k) (itv 0))[k]'(by simp; omega) := ⟨_, rfl⟩
      rw [← hy] at hcell
      clear hy
      have hfz := hown.out.frozenAt k
      have HB := Lib.hid hbl; clear hbl
      go_wp2
      go_roundw
      case rel =>
        refine ⟨k + 1, by omega, by go_num, HB.out.setCell (Nat.le_refl _) _, ?_⟩
        have hs := (hown.out.stored k (itv x)).1
        rw [HX.out, ints_set bs k hlt] at hs
        rw [HX.out]; exact hs
      case measure => simp [intOf]; omega
    · have e : k = bs.length := by omega
      have HB := Lib.hid hbl; clear hbl
      have hO : Hid (OwnI wr w.heap.size (.slice (some ⟨w.heap.size, 0, none⟩) bs.length bs.length) bs) := by
        have h := hown.out
        rw [e] at h
        show OwnI _ _ _ _
        unfold OwnI
        simpa using h
      clear e hown
      go_wp2
      go_ret
      exact ⟨rfl, hO.out, HB.out⟩

theorem eqI_any (xs : List Int) (a b : Option Addr) (c d : Nat) (w : World) (hx : RdI w a xs) (hy : RdI w b xs) (hl : xs.length ≤ 9223372036854775807) :
    Calls Try.prog 27 #[.slice a xs.length c, .slice b xs.length d] w fun e w' => e = .returned (.bool true) ∧ Quiet w w' := by
  go_enter Try.func27, Try.ntmps27
  go_wp2
  go_loopw [5] (fun i wr => ∃ k : Nat, k ≤ xs.length ∧ i = .int .i64 k ∧ Quiet w wr) (fun i _ => xs.length - (intOf i).toNat)
  case atStart => exact ⟨0, Nat.zero_le _, rfl, Quiet.refl _⟩
  case round =>
    obtain ⟨k, hk, rfl, ⟨q, rfl⟩⟩ := hrel
    by_cases hlt : k < xs.length
    · obtain ⟨b1, o1, rfl, hc⟩ := hx k hlt
      obtain ⟨b2, o2, rfl, hd⟩ := hy k hlt
      obtain ⟨x, hx0⟩ : ∃ x, x = xs.getD k 0 := ⟨_, rfl⟩
      rw [← hx0] at hc hd
      clear hx0 hx hy
      go_wp2
      go_quiet (fail)
      go_wp2
      go_roundw
      case rel => exact ⟨k + 1, by omega, by go_num, _, rfl⟩
      case measure => simp [intOf]; omega
    · clear hx hy
      go_wp2
      go_ret
      exact ⟨rfl, _, rfl⟩

/-! ### height maps -/
def hgt (b : Int) : Bool := inR b (-100000) 100000
theorem isHeight_any (b : Int) (w : World) : Calls Try.prog 129 #[.int .i64 b] w fun e w' => e = .returned (.bool (hgt b)) ∧ w = w' := by
  go_enter Try.func129, Try.ntmps129
  go_wp2_with (go_at_call 91; refine (within_any _ _ _ _).mono ?_; rintro e w' ⟨rfl, rfl⟩)
  go_ret
  exact ⟨rfl, rfl⟩
theorem notHeight_any (b : Int) (w : World) : Calls Try.prog 128 #[.int .i64 b] w fun e w' => e = .returned (.bool (!hgt b)) ∧ w = w' := by
  go_enter Try.func128, Try.ntmps128
  go_wp2_with (go_at_call 129; refine (isHeight_any _ _).mono ?_; rintro e w' ⟨rfl, rfl⟩)
  go_ret
  exact ⟨rfl, rfl⟩
def allH (bs : List Int) : Bool := bs.all hgt
theorem allH_true {bs : List Int} (h : ∀ j, j < bs.length → hgt (bs.getD j 0) = true) : allH bs = true := by
  rw [allH, List.all_eq_true]
  intro x hx
  obtain ⟨j, hj, rfl⟩ := List.getElem_of_mem hx
  have := h j hj
  simpa [hj] using this
theorem allH_false {bs : List Int} {k : Nat} (hk : k < bs.length) (h : hgt (bs.getD k 0) = false) : allH bs = false := by
  rw [allH, List.all_eq_false]
  exact ⟨bs[k], List.getElem_mem hk, by simpa [hk] using h⟩
theorem allH_at {bs : List Int} (h : allH bs = true) (k : Nat) (hk : k < bs.length) : -100000 ≤ bs.getD k 0 ∧ bs.getD k 0 ≤ 100000 := by
  rw [allH, List.all_eq_true] at h
  have := inR_true (h bs[k] (List.getElem_mem hk))
  simpa [hk] using this

theorem idxH_any (bs : List Int) (a : Option Addr) (c : Nat) (w : World) (hrd : RdI w a bs) (hl : bs.length ≤ 9223372036854775807) :
    Calls Try.prog 142 #[.slice a bs.length c, .func (.func 128) #[] #[]] w fun e w' => (∃ r : Int, e = .returned (.int .i64 r) ∧ decide (0 ≤ r) = !allH bs) ∧ w = w' := by
  go_enter Try.func142, Try.ntmps142
  go_wp2
  go_loopw [5, 8] (fun _ i wr => ∃ k : Nat, k ≤ bs.length ∧ i = .int .i64 k ∧ wr = w ∧ (∀ j, j < k → hgt (bs.getD j 0) = true)) (fun _ i _ => bs.length - (intOf i).toNat)
  case atStart => exact ⟨0, Nat.zero_le _, rfl, rfl, fun j h => by omega⟩
  case round =>
    obtain ⟨k, hk, rfl, rfl, hall⟩ := hrel
    by_cases hlt : k < bs.length
    · obtain ⟨b, off, rfl, hc⟩ := hrd k hlt
      obtain ⟨x, hx⟩ : ∃ x, x = bs.getD k 0 := ⟨_, rfl⟩
      rw [← hx] at hc
      have HX := Lib.hid hx; clear hx
      have HA := Lib.hid hall; clear hall
      have HR := Lib.hid hrd; clear hrd
      cases hn : hgt x with
      | true =>
        go_wp2_with (go_at_call 128; refine (notHeight_any _ _).mono ?_; rintro e w' ⟨rfl, rfl⟩; rw [hn])
        go_roundw
        case rel =>
          refine ⟨k + 1, by omega, by go_num, trivial, fun j hj => ?_⟩
          by_cases e : j = k
          · rw [e, ← HX.out]; exact hn
          · exact HA.out j (by omega)
        case measure => simp [intOf]; omega
      | false =>
        go_wp2_with (go_at_call 128; refine (notHeight_any _ _).mono ?_; rintro e w' ⟨rfl, rfl⟩; rw [hn])
        go_ret
        exact ⟨⟨_, rfl, by rw [allH_false hlt (by rw [← HX.out]; exact hn)]; simp⟩, rfl⟩
    · have e : k = bs.length := by omega
      have HN := Lib.hid (allH_true (bs := bs) (fun j hj => hall j (by omega)))
      clear hall hrd
      go_wp2
      go_ret
      exact ⟨⟨_, rfl, by rw [HN.out]; rfl⟩, rfl⟩
theorem containsH_any (bs : List Int) (a : Option Addr) (c : Nat) (w : World) (hrd : RdI w a bs) (hl : bs.length ≤ 9223372036854775807) :
    Calls Try.prog 127 #[.slice a bs.length c, .func (.func 128) #[] #[]] w fun e w' => e = .returned (.bool (!allH bs)) ∧ w = w' := by
  have HR := Lib.hid hrd; clear hrd
  go_enter Try.func127, Try.ntmps127
  go_wp2_with fail
  refine (idxH_any _ _ _ _ HR.out hl).mono ?_
  rintro e w' ⟨⟨r, rfl, hr⟩, rfl⟩
  have H := Lib.hid hr
  clear hr
  go_wp2
  go_ret
  exact ⟨ret_bool H.out, rfl⟩
def okHgt (n : Int) (bs : List Int) : Bool := isSd n && (decide ((bs.length : Int) = n * n) && allH bs)

theorem isHM_any (n : Int) (bs : List Int) (a : Option Addr) (c : Nat) (w : World) (hrd : RdI w a bs) (hl : bs.length ≤ 9223372036854775807) :
    Calls Try.prog 107 #[.int .i64 n, .slice a bs.length c] w fun e w' => e = .returned (.bool (okHgt n bs)) ∧ w = w' := by
  have HR := Lib.hid hrd; clear hrd
  cases h1 : isSd n with
  | false =>
    go_enter Try.func107, Try.ntmps107
    go_wp2_with (go_at_call 90; refine (isSide_any _ _).mono ?_; rintro e w' ⟨rfl, rfl⟩; rw [h1])
    go_ret
    exact ⟨ret_bool (by simp [okHgt, h1]), rfl⟩
  | true =>
    obtain ⟨m, hm⟩ : ∃ m, m = n * n := ⟨_, rfl⟩
    have hmb : 0 ≤ m ∧ m ≤ 64 := by rcases isSd_cases h1 with e | e | e | e <;> subst e <;> omega
    have hm2 : n * n = m := hm.symm
    have hR : okHgt n bs = (decide ((bs.length : Int) = m) && allH bs) := by rw [okHgt, h1, hm]; rfl
    clear hm
    by_cases h2 : (bs.length : Int) = m
    · rw [decide_eq_true h2] at hR
      have HRR := Lib.hid hR
      clear hR
      have h2b : ((bs.length : Int) == m) = true := by simp [h2]
      go_enter Try.func107, Try.ntmps107
      go_wp2_with (first | (go_at_call 90; refine (isSide_any _ _).mono ?_; rintro e w' ⟨rfl, rfl⟩; rw [h1]) | (go_at_call 127; refine (containsH_any bs a c _ HR.out hl).mono ?_; rintro e w' ⟨rfl, rfl⟩))
      go_ret
      exact ⟨ret_bool (by rw [HRR.out]; simp), rfl⟩
    · rw [decide_eq_false h2] at hR
      have HRR := Lib.hid hR
      clear hR
      go_enter Try.func107, Try.ntmps107
      go_wp2_with (first | (go_at_call 90; refine (isSide_any _ _).mono ?_; rintro e w' ⟨rfl, rfl⟩; rw [h1]) | (go_at_call 127; refine (containsH_any bs a c _ HR.out hl).mono ?_; rintro e w' ⟨rfl, rfl⟩))
      go_ret
      exact ⟨ret_bool (by rw [HRR.out]; simp), rfl⟩

theorem l07Is_any (n : Int) (bs : List Int) (a : Option Addr) (c : Nat) (w : World) (hrd : RdI w a bs) (hl : bs.length ≤ 9223372036854775807) :
    Calls Try.prog 106 #[.int .i64 n, .slice a bs.length c] w fun e w' => e = .returned (.bool (okHgt n bs)) ∧ w = w' := by
  have HR := Lib.hid hrd; clear hrd
  cases h1 : isSd n with
  | false =>
    go_enter Try.func106, Try.ntmps106
    go_wp2_with (go_at_call 87; refine (l01Side_any _ _).mono ?_; rintro e w' ⟨rfl, rfl⟩; rw [h1])
    go_ret
    exact ⟨ret_bool (by simp [okHgt, h1]), rfl⟩
  | true =>
    obtain ⟨m, hm⟩ : ∃ m, m = n * n := ⟨_, rfl⟩
    have hmb : 0 ≤ m ∧ m ≤ 64 := by rcases isSd_cases h1 with e | e | e | e <;> subst e <;> omega
    have hm2 : n * n = m := hm.symm
    have hR : okHgt n bs = (decide ((bs.length : Int) = m) && allH bs) := by rw [okHgt, h1, hm]; rfl
    clear hm
    by_cases h2 : (bs.length : Int) = m
    · rw [decide_eq_true h2, Bool.true_and] at hR
      have HRR := Lib.hid hR
      clear hR
      go_enter Try.func106, Try.ntmps106
      go_wp2_with (first | (go_at_call 87; refine (l01Side_any _ _).mono ?_; rintro e w' ⟨rfl, rfl⟩; rw [h1]))
      go_loopw [5] (fun i wr => ∃ k : Nat, k ≤ bs.length ∧ i = .int .i64 k ∧ wr = w ∧ Hid (∀ j, j < k → hgt (bs.getD j 0) = true)) (fun i _ => bs.length - (intOf i).toNat)
      case atStart => exact ⟨0, Nat.zero_le _, rfl, rfl, fun j h => by omega⟩
      case round =>
        obtain ⟨k, hk, rfl, rfl, hall⟩ := hrel
        by_cases hlt : k < bs.length
        · obtain ⟨b, off, rfl, hc⟩ := HR.out k hlt
          obtain ⟨x, hx⟩ : ∃ x, x = bs.getD k 0 := ⟨_, rfl⟩
          rw [← hx] at hc
          have HX := Lib.hid hx; clear hx
          cases hn : hgt x with
          | true =>
            go_wp2_with (go_at_call 88; refine (l01In_any _ _ _ _).mono ?_; rintro e w' ⟨rfl, rfl⟩; rw [show inR x (-100000) 100000 = true from hn])
            go_roundw
            case rel =>
              refine ⟨k + 1, by omega, by go_num, trivial, fun j hj => ?_⟩
              by_cases e : j = k
              · rw [e, ← HX.out]; exact hn
              · exact hall.out j (by omega)
            case measure => simp [intOf]; omega
          | false =>
            go_wp2_with (go_at_call 88; refine (l01In_any _ _ _ _).mono ?_; rintro e w' ⟨rfl, rfl⟩; rw [show inR x (-100000) 100000 = false from hn])
            go_ret
            exact ⟨ret_bool (by rw [HRR.out, allH_false hlt (by rw [← HX.out]; exact hn)]), rfl⟩
        · have e : k = bs.length := by omega
          have HN := Lib.hid (allH_true (bs := bs) (fun j hj => hall.out j (by omega)))
          clear hall
          go_wp2
          go_ret
          exact ⟨ret_bool (by rw [HRR.out, HN.out]), rfl⟩
    · rw [decide_eq_false h2] at hR
      have HRR := Lib.hid hR
      clear hR
      go_enter Try.func106, Try.ntmps106
      go_wp2_with (first | (go_at_call 87; refine (l01Side_any _ _).mono ?_; rintro e w' ⟨rfl, rfl⟩; rw [h1]))
      go_ret
      exact ⟨ret_bool (by rw [HRR.out]; simp), rfl⟩
end Go.Proofs.Ytficghohflmdeaa
