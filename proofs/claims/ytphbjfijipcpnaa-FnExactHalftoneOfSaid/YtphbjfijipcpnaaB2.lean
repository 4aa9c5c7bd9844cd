/- Contracts: the laws' own helpers on lists of floats. -/
import Derived.Test.YtphbjfijipcpnaaB1
namespace Go.Proofs.Ytphbjfijipcpnaa
open Go.RowKit
set_option linter.unusedVariables false

theorem sameFloat_eq (a b : Nat) (w : World) (h : ab .f64 a = ab .f64 b) :
    Calls Try.prog 41 #[.float .f64 a, .float .f64 b] w fun e w' => e = .returned (.bool true) ∧ Quiet w w' := by
  cases hn : (FloatKind.f64.decode a).isNaN with
  | true =>
    have hb : (FloatKind.f64.decode b).isNaN = true := by
      rw [ab_none hn] at h
      cases hb : (FloatKind.f64.decode b).isNaN with
      | true => rfl
      | false => rw [ab_some hb] at h; cases h
    have h1 : FloatKind.f64.format.order a a = none := read_nan_order (.inl hn)
    have h2 : FloatKind.f64.format.order b b = none := read_nan_order (.inl hb)
    clear hn hb h
    go_enter Try.func41, Try.ntmps41
    go_wp2
    go_ret
    exact ⟨rfl, Quiet.refl _⟩
  | false =>
    rw [ab_some hn] at h
    obtain ⟨rfl, _⟩ := ab_eq_some h.symm
    have h1 := order_self hn
    obtain ⟨r, hr⟩ := one_div hn
    have hrun := fun w => run_float_arith (P := Try.prog) w .quo 53 .f64 4607182418800017408 b r hr
    clear hn h hr
    cases h0 : (FloatKind.f64.format.order b 0 == some .eq) with
    | true =>
      go_enter Try.func41, Try.ntmps41
      go_wp2
      go_ret
      exact ⟨ret_bool (by simp), Quiet.refl _⟩
    | false =>
      go_enter Try.func41, Try.ntmps41
      go_wp2
      go_ret
      exact ⟨ret_bool (by simp), Quiet.refl _⟩

def flt (b : Nat) : Value := .float .f32 b
/-- a slice of the call's own that holds these floats -/
def OwnF (w : World) (base : Nat) (v : Value) (bs : List Nat) : Prop := w.ownsRow base 28 1 v bs.length (bs.map flt)

theorem OwnF.rd {w : World} {base : Nat} {a : Option Addr} {n c : Nat} {bs : List Nat} (h : OwnF w base (.slice a n c) bs) : n = bs.length ∧ RdF w a bs := by
  obtain ⟨hl, h⟩ := h
  rcases h with ⟨h1, h2⟩ | ⟨g, cap, cur, h1, hb, hg, hn, hc, hs, ht⟩
  · simp only [Value.slice.injEq] at h1
    obtain ⟨rfl, rfl, rfl⟩ := h1
    exact ⟨h2.symm, fun i hi => by omega⟩
  · simp only [Value.slice.injEq] at h1
    obtain ⟨rfl, rfl, rfl⟩ := h1
    refine ⟨rfl, fun i hi => ⟨g, 0, rfl, ?_⟩⟩
    rw [Nat.zero_add, cell_of_row w g i cur _ _ hg]
    have : cur.toList[i]? = (bs.map flt)[i]? := by rw [← ht, List.getElem?_take, if_pos (by omega)]
    rw [← Array.getElem?_toList, this]
    simp [hi, flt]

theorem OwnF.len {w : World} {base : Nat} {v : Value} {bs : List Nat} (h : OwnF w base v bs) : bs.length ≤ maxLen := by
  obtain ⟨hl, h⟩ := h
  rcases h with ⟨h1, h2⟩ | ⟨g, cap, cur, h1, hb, hg, hn, hc, hs, ht⟩
  · rw [h2]; exact Nat.zero_le _
  · exact Nat.le_trans hn hc

theorem OwnF.slice {w : World} {base : Nat} {v : Value} {bs : List Nat} (h : OwnF w base v bs) : ∃ a c, v = .slice a bs.length c := by
  rcases h.2 with ⟨h1, h2⟩ | ⟨g, cap, cur, h1, _⟩
  · exact ⟨none, 0, by rw [h1, h2]⟩
  · exact ⟨_, _, h1⟩

theorem RdF.below {w w' : World} {a : Option Addr} {bs : List Nat} (h : RdF w a bs) (hb : Below w.heap.size w w') : RdF w' a bs := by
  intro i hi
  obtain ⟨b, off, ha, hc⟩ := h i hi
  exact ⟨b, off, ha, by rw [hb.cell (by exact block_lt_of_cell hc)]; exact hc⟩

theorem flts_set (bs : List Nat) (k : Nat) (hk : k < bs.length) :
    ((bs.take k).map flt ++ List.replicate (bs.length - k) (flt 0)).set k (flt (bs.getD k 0)) = (bs.take (k + 1)).map flt ++ List.replicate (bs.length - (k + 1)) (flt 0) := by
  have e : bs.length - k = (bs.length - (k + 1)) + 1 := by omega
  have e2 : ((bs.take k).map flt).length = k := by simp; omega
  rw [e, List.replicate_succ, List.take_succ_eq_append_getElem hk, List.set_append, if_neg (by omega), e2]
  simp only [Nat.sub_self, List.set_cons_zero, List.map_append, List.map_cons, List.map_nil, List.append_assoc, List.singleton_append, List.getD_eq_getElem?_getD, List.getElem?_eq_getElem hk, Option.getD_some]

theorem Try.infoF : (Try.prog.info? 28).map (fun i => (i.zero, i.size, i.bytes)) = some (some (.float .f32 0), 1, 4) := by kernel_rfl

set_option maxHeartbeats 400000 in
theorem toFloat32S_any (bs : List Nat) (a : Option Addr) (c : Nat) (w : World) (hrd : RdF w a bs) (hl : bs.length * 4 ≤ 140737488351232) :
    Calls Try.prog 13 #[.slice a bs.length c] w fun e w' => e = .returned (.slice (some ⟨w.heap.size, 0, none⟩) bs.length bs.length) ∧
      OwnF w' w.heap.size (.slice (some ⟨w.heap.size, 0, none⟩) bs.length bs.length) bs ∧ Below w.heap.size w w' := by
  obtain ⟨i0, hi, hz0, hz1, hz2⟩ := info_parts Try.infoF
  obtain ⟨w1, hmk, hown, hg⟩ := run_make_full (P := Try.prog) w w.heap.size 22 28 i0 (.float .f32 0) 1 Try.underlying22 hi hz0 hz1 .i64 .i64 bs.length (by rw [hz2]; omega) (by unfold maxLen; omega) (Nat.le_refl _)
  have hb1 : Below w.heap.size w w1 := (Below.refl _ _).grown hg (Nat.le_refl _) (fun k h => by cases h)
  have hl2 : bs.length ≤ 9223372036854775807 := by omega
  have hown1 : Hid (w1.ownsRow w.heap.size 28 1 (.slice (some ⟨w.heap.size, 0, none⟩) bs.length bs.length) bs.length ((bs.take 0).map flt ++ List.replicate (bs.length - 0) (flt 0))) := by
    have e : (madeCells (Value.float .f32 0).cells (bs.length * 1)).toList = (bs.take 0).map flt ++ List.replicate (bs.length - 0) (flt 0) := by
      rw [Nat.mul_one]; exact toList_madeCells_one _ _
    rw [← e]; exact hown
  have HR := Lib.hid hrd; clear hrd
  clear hown hg hi hz0 hz1 hz2
  go_enter Try.func13, Try.ntmps13
  go_wp2
  go_loopw [4] (fun i wr => ∃ k : Nat, k ≤ bs.length ∧ i = .int .i64 k ∧ Below w.heap.size w wr ∧ Hid (wr.ownsRow w.heap.size 28 1 (.slice (some ⟨w.heap.size, 0, none⟩) bs.length bs.length) bs.length ((bs.take k).map flt ++ List.replicate (bs.length - k) (flt 0)))) (fun i _ => bs.length - (intOf i).toNat)
  case atStart => exact ⟨0, Nat.zero_le _, rfl, hb1, hown1⟩
  case round =>
    clear hmk hb1 hown1
    obtain ⟨k, hk, rfl, hbl, hown⟩ := hrel
    by_cases hlt : k < bs.length
    · obtain ⟨b, off, rfl, hc⟩ := HR.out k hlt
      have hc' := hc
      rw [← hbl.cell (by exact block_lt_of_cell hc)] at hc'
      clear hc
      obtain ⟨x, hx⟩ : ∃ x, x = bs.getD k 0 := ⟨_, rfl⟩
      rw [← hx] at hc'
      have HX := Lib.hid hx; clear hx
      have hcell := hown.out.cellAt k (by omega)
      rw [List.getElem?_eq_getElem (by simp; omega)] at hcell
      obtain ⟨y, hy⟩ : ∃ y, y = ((bs.take k).map flt ++ List.replicate (bs.length - k) (flt 0))[k]'(by simp; omega) := ⟨_, rfl⟩
      rw [← hy] at hcell
      clear hy
      have hfz := hown.out.frozenAt k
      have HB := Lib.hid hbl; clear hbl
      go_wp2
      go_roundw
      case rel =>
        refine ⟨k + 1, by omega, by go_num, HB.out.setCell (Nat.le_refl _) _, ?_⟩
        have hs := (hown.out.stored k (flt x)).1
        rw [HX.out, flts_set bs k hlt] at hs
        rw [HX.out]; exact hs
      case measure => simp [intOf]; omega
    · have e : k = bs.length := by omega
      have HB := Lib.hid hbl; clear hbl
      have hO : Hid (OwnF wr w.heap.size (.slice (some ⟨w.heap.size, 0, none⟩) bs.length bs.length) bs) := by
        have h := hown.out
        rw [e] at h
        show OwnF _ _ _ _
        unfold OwnF
        simpa using h
      clear e hown
      go_wp2
      go_ret
      exact ⟨rfl, hO.out, HB.out⟩

theorem ab_eq_of_map {xs ys : List Nat} (h : xs.map (ab .f32) = ys.map (ab .f32)) (k : Nat) : ab .f32 (xs.getD k 0) = ab .f32 (ys.getD k 0) := by
  have hl : xs.length = ys.length := by simpa using congrArg List.length h
  by_cases hk : k < xs.length
  · have := congrArg (fun l => l[k]?) h
    simp only [List.getElem?_map] at this
    rw [List.getElem?_eq_getElem hk, List.getElem?_eq_getElem (by omega)] at this
    simpa [hk, show k < ys.length by omega] using this
  · rw [List.getD_eq_getElem?_getD, List.getD_eq_getElem?_getD, List.getElem?_eq_none (by omega), List.getElem?_eq_none (by omega)]

set_option maxHeartbeats 1000000 in
theorem eqFloat32S_eq (xs ys : List Nat) (a b : Option Addr) (c d : Nat) (w : World) (hx : RdF w a xs) (hy : RdF w b ys) (hl : xs.length ≤ 9223372036854775807) (h : xs.map (ab .f32) = ys.map (ab .f32)) :
    Calls Try.prog 15 #[.slice a xs.length c, .slice b xs.length d] w fun e w' => e = .returned (.bool true) ∧ Quiet w w' := by
  have hlen : xs.length = ys.length := by simpa using congrArg List.length h
  have H := Lib.hid h; clear h
  have HL := Lib.hid hlen; clear hlen
  go_enter Try.func15, Try.ntmps15
  go_wp2
  go_loopw [5] (fun i wr => ∃ k : Nat, k ≤ xs.length ∧ i = .int .i64 k ∧ Quiet w wr) (fun i _ => xs.length - (intOf i).toNat)
  case atStart => exact ⟨0, Nat.zero_le _, rfl, Quiet.refl _⟩
  case round =>
    obtain ⟨k, hk, rfl, ⟨q, rfl⟩⟩ := hrel
    by_cases hlt : k < xs.length
    · obtain ⟨b1, o1, rfl, hc⟩ := hx k hlt
      obtain ⟨b2, o2, rfl, hd⟩ := hy k (by rw [← HL.out]; exact hlt)
      have hab := ab_eq_of_map H.out k
      obtain ⟨x, hx0⟩ : ∃ x, x = xs.getD k 0 := ⟨_, rfl⟩
      obtain ⟨y, hy0⟩ : ∃ y, y = ys.getD k 0 := ⟨_, rfl⟩
      rw [← hx0] at hc hab
      rw [← hy0] at hd hab
      have HA := Lib.hid hab
      clear hx0 hy0 hx hy hab
      go_wp2
      go_region_with ((go_at_call 41; refine (sameFloat_eq _ _ _ (by rw [ab_wres, ab_wres, HA.out])).mono ?_; rintro e w' ⟨rfl, n, rfl⟩))
      all_goals
        go_wp2
        go_roundw
        case rel => exact ⟨k + 1, by omega, by go_num, _, rfl⟩
        case measure => simp [intOf]; omega
    · clear hx hy
      go_wp2
      go_ret
      exact ⟨rfl, _, rfl⟩
end Go.Proofs.Ytphbjfijipcpnaa
