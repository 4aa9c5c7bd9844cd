/- Contracts: lists that grow. -/
import Derived.Test.YtphbjfijipcpnaaB4
import Derived.OwnWalk
namespace Go.Proofs.Ytphbjfijipcpnaa
open Go.RowKit
set_option linter.unusedVariables false

theorem OwnF.made (w : World) : OwnF (w.alloc (.cells #[] 28)) w.heap.size (.slice (some ⟨w.heap.size, 0, none⟩) 0 0) [] :=
  World.ownsRow_made w #[] 0 (Nat.le_refl _) (Nat.zero_le _) rfl

theorem OwnF.keptBy {w w' : World} {base : Nat} {v : Value} {bs : List Nat} {r : Option Nat} (h : OwnF w base v bs) (hg : w.grownBy w' r) (hne : v.ownBlock = none ∨ v.ownBlock ≠ r) : OwnF w' base v bs := World.ownsRow.kept h hg hne
theorem OwnF.ltOf {w : World} {base : Nat} {v : Value} {bs : List Nat} (h : OwnF w base v bs) : ∀ k, v.ownBlock = some k → base ≤ k ∧ k < w.heap.size := World.ownsRow.lt h

/-- 'append(v, x)' of one float to a list of the call's own: the float lies in the block that was laid last -/
theorem appendF {w0 : World} {ops : Array Oper} {rest : List Oper} {o : Oper} {a : Act} {Q : Exit → Act → World → Prop} (hgd : o.guard = none) (s x : Operand)
    (ho : o.op = .call { callee := .builtin .append, args := #[s, x], argTypes := #[22, 22] }) (base : Nat) (v : Value) (bs : List Nat) (f : Nat)
    (hs : a.eval s = v) (hown : OwnF w0 base v bs) (hx : a.eval x = .slice (some ⟨w0.heap.size, 0, none⟩) 1 1) (hl : (bs.length + 1) * 4 ≤ 140737488355328) (hb : base ≤ w0.heap.size)
    (h : ∀ v' w', OwnF w' base v' (bs ++ [f]) → w0.grownBy w' v.ownBlock → wpList Try.prog ops Q rest (a.put o.dst v') w') :
    wpList Try.prog ops Q (o :: rest) a (w0.alloc (.cells #[.float .f32 f] 28)) := by
  obtain ⟨i0, hi, hz0, hz1, hz2⟩ := info_parts Try.infoF
  refine wpList_append_own _ hgd s x 22 ho base 28 i0 (.float .f32 0) 1 4 Try.underlying22 hi hz0 hz1 hz2 rfl (by decide) v bs.length (bs.map flt) hs (World.ownsRow.alloc hown _) ⟨w0.heap.size, 0, none⟩ 1 1 [.float .f32 f] hx rfl (cell_one_new _ _ _) (by simp [Value.oneCell']) (by unfold maxLen; omega) hl (by simp; omega) ?_
  intro v' w' h1 h2 _
  refine h v' w' ?_ (grownBy_trans (World.grownBy_alloc w0 _ _) h2)
  show World.ownsRow _ _ _ _ _ _ _
  rw [List.length_append, List.map_append]; exact h1

theorem map_take_succ {α : Type} (f : Nat → α) {bs : List Nat} {k : Nat} (h : k < bs.length) : (bs.take (k + 1)).map f = (bs.take k).map f ++ [f (bs.getD k 0)] := by
  rw [List.take_succ_eq_append_getElem h, List.map_append]
  simp only [List.map_cons, List.map_nil, List.getD_eq_getElem?_getD, List.getElem?_eq_getElem h, Option.getD_some]

set_option maxHeartbeats 400000 in
theorem l01PlusNumbers_any (bs : List Nat) (a : Option Addr) (c : Nat) (w : World) (hrd : RdF w a bs) (hl : bs.length * 4 ≤ 140737488351232) :
    Calls Try.prog 38 #[.slice a bs.length c] w fun e w' => ∃ v, e = .returned v ∧ OwnF w' w.heap.size v (bs.map pn) ∧ Below w.heap.size w w' := by
  have hl2 : bs.length ≤ 9223372036854775807 := by omega
  have HR := Lib.hid hrd; clear hrd
  go_enter Try.func38, Try.ntmps38
  go_wp2
  go_loopw [3, 4] (fun v i wr => ∃ k : Nat, k ≤ bs.length ∧ i = .int .i64 k ∧ Below w.heap.size w wr ∧ Hid (OwnF wr w.heap.size v ((bs.take k).map pn))) (fun _ i _ => bs.length - (intOf i).toNat)
  case atStart => exact ⟨0, Nat.zero_le _, rfl, (Below.refl _ _).alloc (Nat.le_refl _) _, OwnF.made w⟩
  case round =>
    obtain ⟨k, hk, rfl, hbl, hown⟩ := hrel
    by_cases hlt : k < bs.length
    · obtain ⟨b, off, rfl, hc⟩ := HR.out k hlt
      have hc' := hc
      rw [← hbl.cell (by exact block_lt_of_cell hc)] at hc'
      clear hc
      obtain ⟨x, hx⟩ : ∃ x, x = bs.getD k 0 := ⟨_, rfl⟩
      rw [← hx] at hc'
      have HX := Lib.hid hx; clear hx
      have HB := Lib.hid hbl; clear hbl
      have hsz := HB.out.size
      go_wp2_with (first | (go_at_call 68; refine (l01PlusNumber_any _ _).mono ?_; rintro e w' ⟨rfl, rfl⟩) | (at_builtin; refine appendF (w0 := wr) rfl (.tmp 12) (.tmp 18) ?h3 w.heap.size u3 ((bs.take k).map pn) (pn x) ?h4 hown.out ?h5 ?c1 hsz ?_; (case h3 => rfl); (case h4 => rfl); (case h5 => rfl); (case c1 => (simp; omega)); intro v' w1 hO hG; have HO := Lib.hid hO; have HG := Lib.hid hG; clear hO hG))
      go_roundw
      case rel =>
        refine ⟨k + 1, by omega, by go_num, HB.out.grown HG.out hsz (fun j hj => (hown.out.ltOf j hj).1), ?_⟩
        have e : (bs.take (k + 1)).map pn = (bs.take k).map pn ++ [pn x] := by
          rw [HX.out]; exact map_take_succ pn hlt
        rw [e]; exact HO.out
      case measure => simp [intOf]; omega
    · have e : k = bs.length := by omega
      have HB := Lib.hid hbl; clear hbl
      have hO : Hid (OwnF wr w.heap.size u3 (bs.map pn)) := by
        have h := hown.out
        rw [e, List.take_length] at h
        exact h
      clear e hown
      go_wp2
      go_ret
      exact ⟨u3, rfl, hO.out, HB.out⟩
end Go.Proofs.Ytphbjfijipcpnaa
