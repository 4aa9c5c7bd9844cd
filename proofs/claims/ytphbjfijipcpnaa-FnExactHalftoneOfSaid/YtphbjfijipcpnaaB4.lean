/- Contracts: zeros made positive. -/
import Derived.Test.YtphbjfijipcpnaaB3
namespace Go.Proofs.Ytphbjfijipcpnaa
open Go.RowKit
set_option linter.unusedVariables false

/-- a zero is made positive -/
def pn (b : Nat) : Nat := if FloatKind.f32.format.order b 0 == some .eq then 0 else b

theorem plainNumber_any (b : Nat) (w : World) : Calls Try.prog 73 #[.float .f32 b] w fun e w' => e = .returned (.float .f32 (pn b)) ∧ w = w' := by
  cases h : (FloatKind.f32.format.order b 0 == some .eq) with
  | true =>
    go_enter Try.func73, Try.ntmps73
    go_wp2
    go_ret
    exact ⟨by unfold pn; rw [h]; rfl, rfl⟩
  | false =>
    go_enter Try.func73, Try.ntmps73
    go_wp2
    go_ret
    exact ⟨by unfold pn; rw [h]; rfl, rfl⟩

theorem l01PlusNumber_any (b : Nat) (w : World) : Calls Try.prog 68 #[.float .f32 b] w fun e w' => e = .returned (.float .f32 (pn b)) ∧ w = w' := by
  cases h : (FloatKind.f32.format.order b 0 == some .eq) with
  | true =>
    go_enter Try.func68, Try.ntmps68
    go_wp2
    go_ret
    exact ⟨by unfold pn; rw [h]; rfl, rfl⟩
  | false =>
    go_enter Try.func68, Try.ntmps68
    go_wp2
    go_ret
    exact ⟨by unfold pn; rw [h]; rfl, rfl⟩

/-! ### type switches -/
@[go_sem] theorem as_65_65 (v : Value) (w : World) : (Instr.typeAssert (.iface 65 v) 20 65 true).run Try.prog w = .ok (.tuple #[v, .bool true]) w := by kernel_rfl
@[go_sem] theorem as_66_65 (v : Value) (w : World) : (Instr.typeAssert (.iface 66 v) 20 65 true).run Try.prog w = .ok (.tuple #[.pointer none, .bool false]) w := by kernel_rfl
@[go_sem] theorem as_66_66 (v : Value) (w : World) : (Instr.typeAssert (.iface 66 v) 20 66 true).run Try.prog w = .ok (.tuple #[v, .bool true]) w := by kernel_rfl
@[go_sem] theorem as_68_65 (v : Value) (w : World) : (Instr.typeAssert (.iface 68 v) 20 65 true).run Try.prog w = .ok (.tuple #[.pointer none, .bool false]) w := by kernel_rfl
@[go_sem] theorem as_68_66 (v : Value) (w : World) : (Instr.typeAssert (.iface 68 v) 20 66 true).run Try.prog w = .ok (.tuple #[.pointer none, .bool false]) w := by kernel_rfl
@[go_sem] theorem as_68_68 (v : Value) (w : World) : (Instr.typeAssert (.iface 68 v) 20 68 true).run Try.prog w = .ok (.tuple #[v, .bool true]) w := by kernel_rfl
@[go_sem] theorem as_69_65 (v : Value) (w : World) : (Instr.typeAssert (.iface 69 v) 20 65 true).run Try.prog w = .ok (.tuple #[.pointer none, .bool false]) w := by kernel_rfl
@[go_sem] theorem as_69_66 (v : Value) (w : World) : (Instr.typeAssert (.iface 69 v) 20 66 true).run Try.prog w = .ok (.tuple #[.pointer none, .bool false]) w := by kernel_rfl
@[go_sem] theorem as_69_68 (v : Value) (w : World) : (Instr.typeAssert (.iface 69 v) 20 68 true).run Try.prog w = .ok (.tuple #[.pointer none, .bool false]) w := by kernel_rfl
@[go_sem] theorem as_69_69 (v : Value) (w : World) : (Instr.typeAssert (.iface 69 v) 20 69 true).run Try.prog w = .ok (.tuple #[v, .bool true]) w := by kernel_rfl
@[go_sem] theorem as_64_65 (v : Value) (w : World) : (Instr.typeAssert (.iface 64 v) 20 65 true).run Try.prog w = .ok (.tuple #[.pointer none, .bool false]) w := by kernel_rfl
@[go_sem] theorem as_64_66 (v : Value) (w : World) : (Instr.typeAssert (.iface 64 v) 20 66 true).run Try.prog w = .ok (.tuple #[.pointer none, .bool false]) w := by kernel_rfl
@[go_sem] theorem as_64_68 (v : Value) (w : World) : (Instr.typeAssert (.iface 64 v) 20 68 true).run Try.prog w = .ok (.tuple #[.pointer none, .bool false]) w := by kernel_rfl
@[go_sem] theorem as_64_69 (v : Value) (w : World) : (Instr.typeAssert (.iface 64 v) 20 69 true).run Try.prog w = .ok (.tuple #[.pointer none, .bool false]) w := by kernel_rfl
@[go_sem] theorem as_64_64 (v : Value) (w : World) : (Instr.typeAssert (.iface 64 v) 20 64 true).run Try.prog w = .ok (.tuple #[v, .bool true]) w := by kernel_rfl

set_option maxRecDepth 100000 in
theorem plainF_any (b : Nat) (w : World) : Calls Try.prog 124 #[.float .f32 b] w fun e w' => e = .returned (.float .f32 (pn b)) ∧ Below w.heap.size w w' := by
  go_enter Try.func124, Try.ntmps124
  go_wp2_with (go_at_call 73; refine (plainNumber_any _ _).mono ?_; rintro e w' ⟨rfl, rfl⟩)
  go_ret
  exact ⟨rfl, by go_grown⟩

theorem OwnF.grownBelow {w w' : World} {base : Nat} {v : Value} {bs : List Nat} (h : OwnF w base v bs) (hb : Below w.heap.size w w') : OwnF w' base v bs := by
  obtain ⟨h1, h2⟩ := h
  refine ⟨h1, ?_⟩
  rcases h2 with h2 | ⟨g, cap, cur, hv, hg, hh, r⟩
  · exact .inl h2
  · refine .inr ⟨g, cap, cur, hv, hg, ?_, r⟩
    have : g < w.heap.size := by
      by_cases hlt : g < w.heap.size
      · exact hlt
      · rw [Array.getElem?_eq_none (by omega)] at hh; cases hh
    rw [hb.block g this]; exact hh

theorem grownBy_refl (w : World) (r : Option Nat) : w.grownBy w r := ⟨rfl, rfl, rfl, Nat.le_refl _, fun _ _ _ => rfl⟩
theorem grownBy_trans {a b c : World} {r : Option Nat} (h : a.grownBy b r) (k : b.grownBy c r) : a.grownBy c r :=
  ⟨k.os.trans h.os, k.tape.trans h.tape, k.output.trans h.output, Nat.le_trans h.size k.size, fun j hj hne => (k.block j (Nat.lt_of_lt_of_le hj h.size) hne).trans (h.block j hj hne)⟩
theorem grownBy_below {a b : World} (r : Option Nat) (h : Below a.heap.size a b) : a.grownBy b r :=
  ⟨h.os, h.tape, h.output, h.size, fun j hj _ => h.block j hj⟩
theorem below_grownBy {a b : World} (h : a.grownBy b none) : Below a.heap.size a b :=
  ⟨h.os, h.tape, h.output, h.size, fun j hj => h.block j hj (by simp)⟩
theorem grownBy_drewN {a b : World} {r : Option Nat} (h : a.grownBy b r) (n : Nat) : a.grownBy (b.drewN n) r := ⟨h.os, h.tape, h.output, h.size, h.block⟩

theorem map_set_pn (bs : List Nat) (i : Nat) (hi : i < bs.length) :
    (((bs.take i).map pn).map flt ++ (bs.drop i).map flt).set i (flt (pn (bs.getD i 0))) = ((bs.take (i + 1)).map pn).map flt ++ (bs.drop (i + 1)).map flt := by
  have e2 : (((bs.take i).map pn).map flt).length = i := by simp; omega
  rw [List.set_append, if_neg (by omega), e2, List.drop_eq_getElem_cons hi, List.take_succ_eq_append_getElem hi]
  simp only [Nat.sub_self, List.set_cons_zero, List.map_append, List.map_cons, List.map_nil, List.append_assoc, List.singleton_append, List.getD_eq_getElem?_getD, List.getElem?_eq_getElem hi, Option.getD_some]

set_option maxHeartbeats 400000 in
theorem plainListF_some (bs : List Nat) (g cap base : Nat) (w : World) (hown : OwnF w base (.slice (some ⟨g, 0, none⟩) bs.length cap) bs) (hl : bs.length ≤ 4611686018427387903) :
    Calls Try.prog 75 #[.slice (some ⟨g, 0, none⟩) bs.length cap] w fun e w' => e = .returned (.slice (some ⟨g, 0, none⟩) bs.length cap) ∧
      OwnF w' base (.slice (some ⟨g, 0, none⟩) bs.length cap) (bs.map pn) ∧ w.grownBy w' (some g) := by
  have hown0 : Hid (w.ownsRow base 28 1 (.slice (some ⟨g, 0, none⟩) bs.length cap) bs.length (((bs.take 0).map pn).map flt ++ (bs.drop 0).map flt)) := by
    show World.ownsRow _ _ _ _ _ _ _
    simpa [OwnF] using hown
  clear hown
  go_enter Try.func75, Try.ntmps75
  go_wp2
  go_loopw [7] (fun i wr => ∃ k : Nat, k ≤ bs.length ∧ i = .int .i64 k ∧ w.grownBy wr (some g) ∧ Hid (wr.ownsRow base 28 1 (.slice (some ⟨g, 0, none⟩) bs.length cap) bs.length (((bs.take k).map pn).map flt ++ (bs.drop k).map flt))) (fun i _ => bs.length - (intOf i).toNat)
  case atStart => exact ⟨0, Nat.zero_le _, rfl, grownBy_refl _ _, hown0⟩
  case round =>
    clear hown0
    obtain ⟨k, hk, rfl, hgr, hown⟩ := hrel
    by_cases hlt : k < bs.length
    · have hcell : wr.cell? ⟨g, k, none⟩ = some (.float .f32 (bs.getD k 0)) := by
        rw [hown.out.cellAt k (by omega), List.getElem?_append_right (by simp; omega)]
        simp [Nat.min_eq_left (Nat.le_of_lt hlt), hlt, flt]
      obtain ⟨x, hx⟩ : ∃ x, x = bs.getD k 0 := ⟨_, rfl⟩
      rw [← hx] at hcell
      have HX := Lib.hid hx; clear hx
      have HG := Lib.hid hgr; clear hgr
      have hgl : g < wr.heap.size := (hown.out.lt g rfl).2
      go_wp2_with fail
      refine (plainF_any _ _).mono ?_
      rintro e w1 ⟨rfl, hb⟩
      have hown1 : Hid (w1.ownsRow base 28 1 (.slice (some ⟨g, 0, none⟩) bs.length cap) bs.length (((bs.take k).map pn).map flt ++ (bs.drop k).map flt)) :=
        hown.out.kept (grownBy_below none hb) (.inr (by simp [Value.ownBlock]))
      have hc1 : w1.cell? ⟨g, k, none⟩ = some (.float .f32 x) := by rw [hb.cell (by exact hgl)]; exact hcell
      have hfz := hown1.out.frozenAt k
      have HB := Lib.hid hb; clear hb hcell hgl hown
      go_wp2
      go_roundw
      case rel =>
        refine ⟨k + 1, by omega, by go_num, ?_, ?_⟩
        · exact grownBy_trans (grownBy_trans HG.out (grownBy_below _ HB.out)) (hown1.out.stored k (flt (pn x))).2
        · have hs := (hown1.out.stored k (flt (pn x))).1
          rw [HX.out, map_set_pn bs k hlt] at hs
          rw [HX.out]; exact hs
      case measure => simp [intOf]; omega
    · have e : k = bs.length := by omega
      have HG := Lib.hid hgr; clear hgr
      have hO : Hid (OwnF wr base (.slice (some ⟨g, 0, none⟩) bs.length cap) (bs.map pn)) := by
        have h := hown.out
        rw [e] at h
        show OwnF _ _ _ _
        unfold OwnF
        simpa using h
      clear e hown
      go_wp2
      go_ret
      exact ⟨rfl, hO.out, HG.out⟩

theorem plainListF_nil (w : World) : Calls Try.prog 75 #[.slice none 0 0] w fun e w' => e = .returned (.slice none 0 0) ∧ w = w' := by
  go_enter Try.func75, Try.ntmps75
  go_wp2
  go_rounds 1
  go_ret
  exact ⟨rfl, rfl⟩

theorem plainListF_any (bs : List Nat) (v : Value) (base : Nat) (w : World) (hown : OwnF w base v bs) (hl : bs.length ≤ 4611686018427387903) :
    Calls Try.prog 75 #[v] w fun e w' => e = .returned v ∧ OwnF w' base v (bs.map pn) ∧ w.grownBy w' v.ownBlock := by
  rcases hown.own with ⟨rfl, rfl⟩ | ⟨g, cap, rfl, _⟩
  · refine (plainListF_nil w).mono ?_
    rintro e w' ⟨rfl, rfl⟩
    exact ⟨rfl, hown, grownBy_refl _ _⟩
  · exact plainListF_some bs g cap base w hown hl

set_option maxRecDepth 100000 in
theorem plainS_any (bs : List Nat) (v : Value) (base : Nat) (w : World) (hown : OwnF w base v bs) (hl : bs.length ≤ 4611686018427387903) :
    Calls Try.prog 40 #[v] w fun e w' => e = .returned v ∧ OwnF w' base v (bs.map pn) ∧ w.grownBy w' v.ownBlock := by
  obtain ⟨a, c, rfl⟩ := hown.slice
  have hO := Lib.hid (hown.grownBelow ((Below.refl w.heap.size w).alloc (Nat.le_refl _) (.cells #[.slice a bs.length c] 22)))
  have hne : Hid (∀ k, (Value.slice a bs.length c).ownBlock = some k → k < w.heap.size) := fun k hk => (hown.lt k hk).2
  clear hown
  go_enter Try.func40, Try.ntmps40
  go_wp2_with fail
  refine (plainListF_any bs _ base _ hO.out hl).mono ?_
  rintro e w1 ⟨rfl, hO1, hg1⟩
  have hnb : some w.heap.size ≠ (Value.slice a bs.length c).ownBlock := fun e => Nat.lt_irrefl _ (hne.out _ e.symm)
  have hblk : w1.heap[w.heap.size]? = some (.cells #[.slice a bs.length c] 22) := by
    rw [hg1.block w.heap.size (by simp) hnb]; exact heap_alloc_new w _
  have hc1 : w1.cell? ⟨w.heap.size, 0, none⟩ = some (.slice a bs.length c) := by
    rw [cell_of_row w1 _ 0 _ _ _ hblk]; rfl
  have hf1 : w1.frozen? ⟨w.heap.size, 0, none⟩ = false := frozen_of_row w1 _ 0 _ _ hblk
  have HB := Lib.hid hblk
  have H1 := Lib.hid hO1
  have H2 := Lib.hid hg1
  have H3 := Lib.hid hnb
  clear hblk hO1 hg1 hnb
  go_wp2
  go_ret
  have hg3 : w1.grownBy (w1.setCell ⟨w.heap.size, 0, none⟩ (.slice a bs.length c)) (some w.heap.size) := ⟨rfl, rfl, rfl, by simp, fun j hj hne => Below.heap_setCell _ _ _ _ (fun e => hne (by rw [e]))⟩
  refine ⟨rfl, H1.out.kept hg3 ?_, ⟨H2.out.os, H2.out.tape, H2.out.output, ?_, fun j hj hne' => ?_⟩⟩
  · cases a with
    | none => exact .inl rfl
    | some p => exact .inr (fun e => H3.out e.symm)
  · have := H2.out.size
    simp only [World.size_alloc] at this
    simp only [World.size_setCell]; omega
  · rw [Below.heap_setCell _ _ _ _ (by exact Nat.ne_of_lt hj), H2.out.block j (by simp; omega) hne', Below.heap_alloc w _ j hj]
end Go.Proofs.Ytphbjfijipcpnaa
