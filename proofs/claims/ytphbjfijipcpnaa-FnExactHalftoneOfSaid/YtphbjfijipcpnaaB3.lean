/- Contracts: marks that are laid into lists and held. -/
import Derived.Test.YtphbjfijipcpnaaB2
namespace Go.Proofs.Ytphbjfijipcpnaa
open Go.RowKit
set_option linter.unusedVariables false

def mark (k : Int) (i : Nat) : Nat := floatOfInt .f32 (k + i)
def marks (k : Int) (n : Nat) : List Nat := (List.range n).map (mark k)
theorem marks_length (k : Int) (n : Nat) : (marks k n).length = n := by simp [marks]
theorem marks_getD (k : Int) (n i : Nat) (h : i < n) : (marks k n).getD i 0 = mark k i := by simp [marks, h]

theorem OwnF.own {w : World} {base : Nat} {v : Value} {bs : List Nat} (h : OwnF w base v bs) :
    (v = .slice none 0 0 ∧ bs = []) ∨ ∃ g cap, v = .slice (some ⟨g, 0, none⟩) bs.length cap ∧ base ≤ g := by
  rcases h.2 with ⟨h1, h2⟩ | ⟨g, cap, cur, h1, hb, _⟩
  · exact .inl ⟨h1, List.length_eq_zero_iff.1 h2⟩
  · exact .inr ⟨g, cap, h1, hb⟩

theorem mark_set (k : Int) (bs : List Nat) (i : Nat) (hi : i < bs.length) :
    (((List.range i).map (mark k)).map flt ++ (bs.drop i).map flt).set i (flt (mark k i)) = ((List.range (i + 1)).map (mark k)).map flt ++ (bs.drop (i + 1)).map flt := by
  have e2 : (((List.range i).map (mark k)).map flt).length = i := by simp
  rw [List.set_append, if_neg (by omega), e2, List.drop_eq_getElem_cons hi, List.range_succ]
  simp only [Nat.sub_self, List.set_cons_zero, List.map_append, List.map_cons, List.map_nil, List.append_assoc, List.singleton_append]

set_option maxHeartbeats 400000 in
theorem mark_some (bs : List Nat) (k0 : Int) (g cap base : Nat) (w : World) (hown : OwnF w base (.slice (some ⟨g, 0, none⟩) bs.length cap) bs) (h0 : 0 ≤ k0) (hk0 : k0 ≤ 4611686018427387904) (hl : bs.length ≤ 4611686018427387903) :
    Calls Try.prog 16 #[.slice (some ⟨g, 0, none⟩) bs.length cap, .int .i64 k0] w fun e w' => e = .returned (.int .i64 (k0 + bs.length)) ∧
      OwnF w' base (.slice (some ⟨g, 0, none⟩) bs.length cap) (marks k0 bs.length) ∧ w.grownBy w' (some g) := by
  have hown0 : Hid (w.ownsRow base 28 1 (.slice (some ⟨g, 0, none⟩) bs.length cap) bs.length (((List.range 0).map (mark k0)).map flt ++ (bs.drop 0).map flt)) := by
    show World.ownsRow _ _ _ _ _ _ _
    simpa [OwnF] using hown
  clear hown
  go_enter Try.func16, Try.ntmps16
  go_wp2
  go_loopw [1, 5] (fun kv i wr => ∃ k : Nat, k ≤ bs.length ∧ i = .int .i64 k ∧ kv = .int .i64 (k0 + k) ∧ w.grownBy wr (some g) ∧ Hid (wr.ownsRow base 28 1 (.slice (some ⟨g, 0, none⟩) bs.length cap) bs.length (((List.range k).map (mark k0)).map flt ++ (bs.drop k).map flt))) (fun _ i _ => bs.length - (intOf i).toNat)
  case atStart => exact ⟨0, Nat.zero_le _, rfl, by simp, ⟨rfl, rfl, rfl, Nat.le_refl _, fun _ _ _ => rfl⟩, hown0⟩
  case round =>
    clear hown0
    obtain ⟨k, hk, rfl, rfl, hgr, hown⟩ := hrel
    by_cases hlt : k < bs.length
    · have hcell := hown.out.cellAt k (by omega)
      rw [List.getElem?_eq_getElem (by simp; omega)] at hcell
      obtain ⟨y, hy⟩ : ∃ y, y = (((List.range k).map (mark k0)).map flt ++ (bs.drop k).map flt)[k]'(by simp; omega) := ⟨_, rfl⟩
      rw [← hy] at hcell
      clear hy
      have hfz := hown.out.frozenAt k
      have HG := Lib.hid hgr; clear hgr
      go_wp2
      go_roundw
      case rel =>
        refine ⟨k + 1, by omega, by go_num, by go_num, ?_, ?_⟩
        · have h2 := (hown.out.stored k (flt (mark k0 k))).2
          exact ⟨h2.os.trans HG.out.os, h2.tape.trans HG.out.tape, h2.output.trans HG.out.output, Nat.le_trans HG.out.size h2.size, fun j hj hne => (h2.block j (Nat.lt_of_lt_of_le hj HG.out.size) hne).trans (HG.out.block j hj hne)⟩
        · have hs := (hown.out.stored k (flt (mark k0 k))).1
          rw [mark_set k0 bs k hlt] at hs
          exact hs
      case measure => simp [intOf]; omega
    · have e : k = bs.length := by omega
      have HG := Lib.hid hgr; clear hgr
      have hO : Hid (OwnF wr base (.slice (some ⟨g, 0, none⟩) bs.length cap) (marks k0 bs.length)) := by
        have h := hown.out
        rw [e] at h
        show OwnF _ _ _ _
        unfold OwnF
        rw [marks_length]
        simpa [marks] using h
      have HE := Lib.hid e
      clear e hown
      go_wp2
      go_ret
      exact ⟨by rw [HE.out]; rfl, hO.out, HG.out⟩

theorem mark_nil (k0 : Int) (w : World) (h0 : 0 ≤ k0) (hk0 : k0 ≤ 4611686018427387904) :
    Calls Try.prog 16 #[.slice none 0 0, .int .i64 k0] w fun e w' => e = .returned (.int .i64 k0) ∧ w = w' := by
  go_enter Try.func16, Try.ntmps16
  go_wp2
  go_rounds 1
  go_ret
  exact ⟨rfl, rfl⟩

theorem mark_any (bs : List Nat) (k0 : Int) (v : Value) (base : Nat) (w : World) (hown : OwnF w base v bs) (h0 : 0 ≤ k0) (hk0 : k0 ≤ 4611686018427387904) (hl : bs.length ≤ 4611686018427387903) :
    Calls Try.prog 16 #[v, .int .i64 k0] w fun e w' => e = .returned (.int .i64 (k0 + bs.length)) ∧
      OwnF w' base v (marks k0 bs.length) ∧ w.grownBy w' v.ownBlock := by
  rcases hown.own with ⟨rfl, rfl⟩ | ⟨g, cap, rfl, _⟩
  · refine (mark_nil k0 w h0 hk0).mono ?_
    rintro e w' ⟨rfl, rfl⟩
    exact ⟨by simp, hown, ⟨rfl, rfl, rfl, Nat.le_refl _, fun _ _ _ => rfl⟩⟩
  · exact mark_some bs k0 g cap base w hown h0 hk0 hl

theorem mark_notNaN (k : Int) (i : Nat) : (FloatKind.f32.decode (mark k i)).isNaN = false := write_notNaN Ieee.single (.number (decide (k + i < 0)) (k + i).natAbs 0) rfl

theorem held_any (n : Nat) (k0 : Int) (a : Option Addr) (c : Nat) (w : World) (hrd : RdF w a (marks k0 n)) (h0 : 0 ≤ k0) (hk0 : k0 ≤ 4611686018427387904) (hl : n ≤ 4611686018427387903) :
    Calls Try.prog 17 #[.slice a n c, .int .i64 k0] w fun e w' => e = .returned (.int .i64 (k0 + n)) ∧ w = w' := by
  go_enter Try.func17, Try.ntmps17
  go_wp2
  go_loop [1, 5] (fun kv i => ∃ k : Nat, k ≤ n ∧ i = .int .i64 k ∧ kv = .int .i64 (k0 + k)) (fun _ i => n - (intOf i).toNat)
  case atStart => exact ⟨0, Nat.zero_le _, rfl, by simp⟩
  case round =>
    obtain ⟨k, hk, rfl, rfl⟩ := hrel
    by_cases hlt : k < n
    · obtain ⟨b, off, rfl, hc⟩ := hrd k (by rw [marks_length]; exact hlt)
      rw [marks_getD _ _ _ hlt] at hc
      have hcmp : FloatKind.f32.format.order (floatOfInt .f32 (k0 + k)) (floatOfInt .f32 (k0 + k)) = some .eq := order_self (mark_notNaN k0 k)
      unfold mark at hc
      clear hrd
      go_wp2
      go_round
      case rel => exact ⟨k + 1, by omega, by go_num, by go_num⟩
      case measure => simp [intOf]; omega
    · have e : k = n := by omega
      have HE := Lib.hid e
      clear e hrd
      go_wp2
      go_ret
      exact ⟨by rw [HE.out]; rfl, rfl⟩
end Go.Proofs.Ytphbjfijipcpnaa
