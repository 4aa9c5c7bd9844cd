/- The statement on CorrelateLists: the walk through the law. -/
import Derived.Test.YtphbjfijipcpnaaCor
namespace Go.Proofs.Ytphbjfijipcpnaa
open Go.RowKit
set_option linter.unusedVariables false

theorem impl_CorrelateLists (xs ys : List Nat) (v1 v2 : Value) (b1 b2 : Nat) (w : World) (h1 : OwnF w b1 v1 xs) (h2 : OwnF w b2 v2 ys) (hl1 : xs.length ≤ 4611686018427387903) (hl2 : ys.length ≤ 4611686018427387903) :
    Calls Try.prog 14 #[v1, v2] w (ListPost ((corrRes xs ys).1, (corrRes xs ys).2.map pnV) w) := by
  obtain ⟨a, c, rfl⟩ := h1.slice
  obtain ⟨a2, c2, rfl⟩ := h2.slice
  exact implCorrelateListsC_any xs ys a a2 c c2 w h1.rd.2 h2.rd.2 hl1 hl2
theorem spec_CorrelateLists (xs ys : List Nat) (v1 v2 : Value) (b1 b2 : Nat) (w : World) (h1 : OwnF w b1 v1 xs) (h2 : OwnF w b2 v2 ys) (hl1 : xs.length ≤ 4611686018427387903) (hl2 : ys.length ≤ 4611686018427387903) :
    Calls Try.prog 12 #[v1, v2] w (ListPost ((corrRes xs ys).1, (corrRes xs ys).2.map pnV) w) := by
  obtain ⟨a, c, rfl⟩ := h1.slice
  obtain ⟨a2, c2, rfl⟩ := h2.slice
  exact specCorrelateListsC_any xs ys a a2 c c2 w h1.rd.2 h2.rd.2 hl1 hl2

set_option maxHeartbeats 4000000 in
theorem law_CorrelateLists (xs ys : List Nat) (a a2 : Option Addr) (c c2 : Nat) (w : World) (hxs : RdF w a xs) (hys : RdF w a2 ys)  :
    Calls Try.prog 3 #[.slice a xs.length c, .slice a2 ys.length c2] w fun e w' => e = .returned (.bool true) ∧ Below w.heap.size w w' := by
  have HX := Lib.hid hxs; clear hxs
  have HY := Lib.hid hys; clear hys
  by_cases hbig0 : 1048576 < xs.length
  · go_enter Try.func3, Try.ntmps3
    go_wp2
    go_ret
    exact ⟨rfl, Below.refl _ _⟩
  by_cases hbig1 : 1048576 < ys.length
  · go_enter Try.func3, Try.ntmps3
    go_wp2
    go_ret
    exact ⟨rfl, Below.refl _ _⟩
  have hl : xs.length * 4 ≤ 140737488351232 := by omega
  have hl2 : ys.length * 4 ≤ 140737488351232 := by omega
  obtain ⟨rc, hrc⟩ : ∃ rc : Int × List FV, rc = ((corrRes xs ys).1, (corrRes xs ys).2.map pnV) := ⟨_, rfl⟩
  have hrl : rc.2.length ≤ 64 := by rw [hrc, List.length_map]; exact corrRes_length xs ys
  have CI := impl_CorrelateLists xs ys
  have CS := spec_CorrelateLists xs ys
  rw [← hrc] at CI CS
  have HCI := Lib.hid CI
  have HCS := Lib.hid CS
  clear hrc CI CS
  have HB := Lib.hid (Below.refl w.heap.size w)
  go_enter Try.func3, Try.ntmps3
  go_wp2_with fail
  refine (toF_own xs a c w (HX.out.below HB.out) hl).mono ?_
  rintro e w1 ⟨v_s1, rfl, o, b⟩
  have S_s1 := Lib.hid HB.out.size
  replace HB := Lib.hid (HB.out.trans (b.mono HB.out.size))
  have O_s1 := Lib.hid o; clear o b
  go_wp2_with fail
  refine (toF_own ys a2 c2 w1 (HY.out.below HB.out) hl2).mono ?_
  rintro e w2 ⟨v_s2, rfl, o, b⟩
  have A_s1_s2 := Lib.hid (O_s1.out.apart' o (Nat.le_refl _)); have A_s2_s1 := Lib.hid (O_s1.out.apart o (Nat.le_refl _))
  have S_s2 := Lib.hid HB.out.size
  replace HB := Lib.hid (HB.out.trans (b.mono HB.out.size))
  replace O_s1 := Lib.hid (O_s1.out.grownBelow b)
  have O_s2 := Lib.hid o; clear o b
  go_wp2_with fail
  refine (HCS.out v_s1 v_s2 _ _ w2 O_s1.out O_s2.out (by omega) (by omega)).mono ?_
  rintro e w3 ⟨v_w, l_w, rfl, o, e1, b⟩
  have A_s1_w := Lib.hid (O_s1.out.apart' o (Nat.le_refl _)); have A_w_s1 := Lib.hid (O_s1.out.apart o (Nat.le_refl _))
  have A_s2_w := Lib.hid (O_s2.out.apart' o (Nat.le_refl _)); have A_w_s2 := Lib.hid (O_s2.out.apart o (Nat.le_refl _))
  have S_w := Lib.hid HB.out.size
  have E_w := Lib.hid e1; clear e1
  have N_w : l_w.length ≤ 64 := by have := congrArg List.length E_w.out; simp only [List.length_map] at this; omega
  replace HB := Lib.hid (HB.out.trans (b.mono HB.out.size))
  replace O_s1 := Lib.hid (O_s1.out.grownBelow b)
  replace O_s2 := Lib.hid (O_s2.out.grownBelow b)
  have O_w := Lib.hid o; clear o b
  clear O_s1
  clear A_s1_s2 A_s2_s1
  clear A_s1_w A_w_s1
  clear S_s1
  clear O_s2
  clear A_s2_w A_w_s2
  clear S_s2
  go_wp2_with fail
  refine (toF_own xs a c w3 (HX.out.below HB.out) hl).mono ?_
  rintro e w4 ⟨v_x1, rfl, o, b⟩
  have A_w_x1 := Lib.hid (O_w.out.apart' o (Nat.le_refl _)); have A_x1_w := Lib.hid (O_w.out.apart o (Nat.le_refl _))
  have S_x1 := Lib.hid HB.out.size
  replace HB := Lib.hid (HB.out.trans (b.mono HB.out.size))
  replace O_w := Lib.hid (O_w.out.grownBelow b)
  have O_x1 := Lib.hid o; clear o b
  go_wp2_with fail
  refine (toF_own ys a2 c2 w4 (HY.out.below HB.out) hl2).mono ?_
  rintro e w5 ⟨v_x2, rfl, o, b⟩
  have A_w_x2 := Lib.hid (O_w.out.apart' o (Nat.le_refl _)); have A_x2_w := Lib.hid (O_w.out.apart o (Nat.le_refl _))
  have A_x1_x2 := Lib.hid (O_x1.out.apart' o (Nat.le_refl _)); have A_x2_x1 := Lib.hid (O_x1.out.apart o (Nat.le_refl _))
  have S_x2 := Lib.hid HB.out.size
  replace HB := Lib.hid (HB.out.trans (b.mono HB.out.size))
  replace O_w := Lib.hid (O_w.out.grownBelow b)
  replace O_x1 := Lib.hid (O_x1.out.grownBelow b)
  have O_x2 := Lib.hid o; clear o b
  go_wp2_with fail
  refine (HCI.out v_x1 v_x2 _ _ w5 O_x1.out O_x2.out (by omega) (by omega)).mono ?_
  rintro e w6 ⟨v_g, l_g, rfl, o, e1, b⟩
  have A_w_g := Lib.hid (O_w.out.apart' o (Nat.le_refl _)); have A_g_w := Lib.hid (O_w.out.apart o (Nat.le_refl _))
  have A_x1_g := Lib.hid (O_x1.out.apart' o (Nat.le_refl _)); have A_g_x1 := Lib.hid (O_x1.out.apart o (Nat.le_refl _))
  have A_x2_g := Lib.hid (O_x2.out.apart' o (Nat.le_refl _)); have A_g_x2 := Lib.hid (O_x2.out.apart o (Nat.le_refl _))
  have S_g := Lib.hid HB.out.size
  have E_g := Lib.hid e1; clear e1
  have N_g : l_g.length ≤ 64 := by have := congrArg List.length E_g.out; simp only [List.length_map] at this; omega
  replace HB := Lib.hid (HB.out.trans (b.mono HB.out.size))
  replace O_w := Lib.hid (O_w.out.grownBelow b)
  replace O_x1 := Lib.hid (O_x1.out.grownBelow b)
  replace O_x2 := Lib.hid (O_x2.out.grownBelow b)
  have O_g := Lib.hid o; clear o b
  go_wp2_with fail
  refine (eq_own _ _ v_g v_w _ _ w6 O_g.out O_w.out (by rw [E_g.out, E_w.out])).mono ?_
  rintro e w7 ⟨rfl, nn, hw⟩
  have b := below_of_drew hw; clear hw nn
  replace HB := Lib.hid (HB.out.trans (b.mono HB.out.size))
  replace O_w := Lib.hid (O_w.out.grownBelow b)
  replace O_x1 := Lib.hid (O_x1.out.grownBelow b)
  replace O_x2 := Lib.hid (O_x2.out.grownBelow b)
  replace O_g := Lib.hid (O_g.out.grownBelow b)
  clear b
  go_wp2_with fail
  refine (toF_own xs a c w7 (HX.out.below HB.out) hl).mono ?_
  rintro e w8 ⟨v_z1, rfl, o, b⟩
  have A_w_z1 := Lib.hid (O_w.out.apart' o (Nat.le_refl _)); have A_z1_w := Lib.hid (O_w.out.apart o (Nat.le_refl _))
  have A_x1_z1 := Lib.hid (O_x1.out.apart' o (Nat.le_refl _)); have A_z1_x1 := Lib.hid (O_x1.out.apart o (Nat.le_refl _))
  have A_x2_z1 := Lib.hid (O_x2.out.apart' o (Nat.le_refl _)); have A_z1_x2 := Lib.hid (O_x2.out.apart o (Nat.le_refl _))
  have A_g_z1 := Lib.hid (O_g.out.apart' o (Nat.le_refl _)); have A_z1_g := Lib.hid (O_g.out.apart o (Nat.le_refl _))
  have S_z1 := Lib.hid HB.out.size
  replace HB := Lib.hid (HB.out.trans (b.mono HB.out.size))
  replace O_w := Lib.hid (O_w.out.grownBelow b)
  replace O_x1 := Lib.hid (O_x1.out.grownBelow b)
  replace O_x2 := Lib.hid (O_x2.out.grownBelow b)
  replace O_g := Lib.hid (O_g.out.grownBelow b)
  have O_z1 := Lib.hid o; clear o b
  go_wp2_with fail
  refine (eq_own _ _ v_x1 v_z1 _ _ w8 O_x1.out O_z1.out rfl).mono ?_
  rintro e w9 ⟨rfl, nn, hw⟩
  have b := below_of_drew hw; clear hw nn
  replace HB := Lib.hid (HB.out.trans (b.mono HB.out.size))
  replace O_w := Lib.hid (O_w.out.grownBelow b)
  replace O_x1 := Lib.hid (O_x1.out.grownBelow b)
  replace O_x2 := Lib.hid (O_x2.out.grownBelow b)
  replace O_g := Lib.hid (O_g.out.grownBelow b)
  replace O_z1 := Lib.hid (O_z1.out.grownBelow b)
  clear b
  clear O_z1
  clear A_w_z1 A_z1_w
  clear A_x1_z1 A_z1_x1
  clear A_x2_z1 A_z1_x2
  clear A_g_z1 A_z1_g
  clear S_z1
  go_wp2_with fail
  refine (toF_own ys a2 c2 w9 (HY.out.below HB.out) hl2).mono ?_
  rintro e w10 ⟨v_z2, rfl, o, b⟩
  have A_w_z2 := Lib.hid (O_w.out.apart' o (Nat.le_refl _)); have A_z2_w := Lib.hid (O_w.out.apart o (Nat.le_refl _))
  have A_x1_z2 := Lib.hid (O_x1.out.apart' o (Nat.le_refl _)); have A_z2_x1 := Lib.hid (O_x1.out.apart o (Nat.le_refl _))
  have A_x2_z2 := Lib.hid (O_x2.out.apart' o (Nat.le_refl _)); have A_z2_x2 := Lib.hid (O_x2.out.apart o (Nat.le_refl _))
  have A_g_z2 := Lib.hid (O_g.out.apart' o (Nat.le_refl _)); have A_z2_g := Lib.hid (O_g.out.apart o (Nat.le_refl _))
  have S_z2 := Lib.hid HB.out.size
  replace HB := Lib.hid (HB.out.trans (b.mono HB.out.size))
  replace O_w := Lib.hid (O_w.out.grownBelow b)
  replace O_x1 := Lib.hid (O_x1.out.grownBelow b)
  replace O_x2 := Lib.hid (O_x2.out.grownBelow b)
  replace O_g := Lib.hid (O_g.out.grownBelow b)
  have O_z2 := Lib.hid o; clear o b
  go_wp2_with fail
  refine (eq_own _ _ v_x2 v_z2 _ _ w10 O_x2.out O_z2.out rfl).mono ?_
  rintro e w11 ⟨rfl, nn, hw⟩
  have b := below_of_drew hw; clear hw nn
  replace HB := Lib.hid (HB.out.trans (b.mono HB.out.size))
  replace O_w := Lib.hid (O_w.out.grownBelow b)
  replace O_x1 := Lib.hid (O_x1.out.grownBelow b)
  replace O_x2 := Lib.hid (O_x2.out.grownBelow b)
  replace O_g := Lib.hid (O_g.out.grownBelow b)
  replace O_z2 := Lib.hid (O_z2.out.grownBelow b)
  clear b
  clear O_z2
  clear A_w_z2 A_z2_w
  clear A_x1_z2 A_z2_x1
  clear A_x2_z2 A_z2_x2
  clear A_g_z2 A_z2_g
  clear S_z2
  go_wp2_with fail
  refine (mark_any _ 1 v_x1 _ w11 O_x1.out (by omega) (by omega) (by omega)).mono ?_
  rintro e w12 ⟨rfl, o, gr⟩
  replace HB := Lib.hid (grown_below HB.out gr (O_x1.out.mono S_x1.out) HB.out.size)
  replace O_w := Lib.hid (O_w.out.kept' A_w_x1.out gr)
  replace O_x2 := Lib.hid (O_x2.out.kept' A_x2_x1.out gr)
  replace O_g := Lib.hid (O_g.out.kept' A_g_x1.out gr)
  replace O_x1 := Lib.hid o; clear o gr
  go_wp2_with fail
  refine (mark_any _ (1 + xs.length) v_x2 _ w12 O_x2.out (by omega) (by omega) (by omega)).mono ?_
  rintro e w13 ⟨rfl, o, gr⟩
  replace HB := Lib.hid (grown_below HB.out gr (O_x2.out.mono S_x2.out) HB.out.size)
  replace O_w := Lib.hid (O_w.out.kept' A_w_x2.out gr)
  replace O_x1 := Lib.hid (O_x1.out.kept' A_x1_x2.out gr)
  replace O_g := Lib.hid (O_g.out.kept' A_g_x2.out gr)
  replace O_x2 := Lib.hid o; clear o gr
  clear O_x1
  clear A_w_x1 A_x1_w
  clear A_x1_x2 A_x2_x1
  clear A_x1_g A_g_x1
  clear S_x1
  clear O_x2
  clear A_w_x2 A_x2_w
  clear A_x2_g A_g_x2
  clear S_x2
  go_wp2_with fail
  refine (eq_own _ _ v_g v_w _ _ w13 O_g.out O_w.out (by rw [E_g.out, E_w.out])).mono ?_
  rintro e w14 ⟨rfl, nn, hw⟩
  have b := below_of_drew hw; clear hw nn
  replace HB := Lib.hid (HB.out.trans (b.mono HB.out.size))
  replace O_w := Lib.hid (O_w.out.grownBelow b)
  replace O_g := Lib.hid (O_g.out.grownBelow b)
  clear b
  go_wp2_with fail
  refine (mark_any _ 1 v_g _ w14 O_g.out (by omega) (by omega) (by omega)).mono ?_
  rintro e w15 ⟨rfl, o, gr⟩
  replace HB := Lib.hid (grown_below HB.out gr (O_g.out.mono S_g.out) HB.out.size)
  replace O_w := Lib.hid (O_w.out.kept' A_w_g.out gr)
  replace O_g := Lib.hid o; clear o gr
  go_wp2_with fail
  refine (held_own l_g.length 1 v_g _ w15 O_g.out (by omega) (by omega) (by omega)).mono ?_
  rintro e wz ⟨rfl, rfl⟩
  go_wp2_with fail
  refine (toF_own xs a c w15 (HX.out.below HB.out) hl).mono ?_
  rintro e w16 ⟨v_t1, rfl, o, b⟩
  have A_w_t1 := Lib.hid (O_w.out.apart' o (Nat.le_refl _)); have A_t1_w := Lib.hid (O_w.out.apart o (Nat.le_refl _))
  have A_g_t1 := Lib.hid (O_g.out.apart' o (Nat.le_refl _)); have A_t1_g := Lib.hid (O_g.out.apart o (Nat.le_refl _))
  have S_t1 := Lib.hid HB.out.size
  replace HB := Lib.hid (HB.out.trans (b.mono HB.out.size))
  replace O_w := Lib.hid (O_w.out.grownBelow b)
  replace O_g := Lib.hid (O_g.out.grownBelow b)
  have O_t1 := Lib.hid o; clear o b
  go_wp2_with fail
  refine (toF_own ys a2 c2 w16 (HY.out.below HB.out) hl2).mono ?_
  rintro e w17 ⟨v_t2, rfl, o, b⟩
  have A_w_t2 := Lib.hid (O_w.out.apart' o (Nat.le_refl _)); have A_t2_w := Lib.hid (O_w.out.apart o (Nat.le_refl _))
  have A_g_t2 := Lib.hid (O_g.out.apart' o (Nat.le_refl _)); have A_t2_g := Lib.hid (O_g.out.apart o (Nat.le_refl _))
  have A_t1_t2 := Lib.hid (O_t1.out.apart' o (Nat.le_refl _)); have A_t2_t1 := Lib.hid (O_t1.out.apart o (Nat.le_refl _))
  have S_t2 := Lib.hid HB.out.size
  replace HB := Lib.hid (HB.out.trans (b.mono HB.out.size))
  replace O_w := Lib.hid (O_w.out.grownBelow b)
  replace O_g := Lib.hid (O_g.out.grownBelow b)
  replace O_t1 := Lib.hid (O_t1.out.grownBelow b)
  have O_t2 := Lib.hid o; clear o b
  go_wp2_with fail
  refine (HCI.out v_t1 v_t2 _ _ w17 O_t1.out O_t2.out (by omega) (by omega)).mono ?_
  rintro e w18 ⟨v_h, l_h, rfl, o, e1, b⟩
  have A_w_h := Lib.hid (O_w.out.apart' o (Nat.le_refl _)); have A_h_w := Lib.hid (O_w.out.apart o (Nat.le_refl _))
  have A_g_h := Lib.hid (O_g.out.apart' o (Nat.le_refl _)); have A_h_g := Lib.hid (O_g.out.apart o (Nat.le_refl _))
  have A_t1_h := Lib.hid (O_t1.out.apart' o (Nat.le_refl _)); have A_h_t1 := Lib.hid (O_t1.out.apart o (Nat.le_refl _))
  have A_t2_h := Lib.hid (O_t2.out.apart' o (Nat.le_refl _)); have A_h_t2 := Lib.hid (O_t2.out.apart o (Nat.le_refl _))
  have S_h := Lib.hid HB.out.size
  have E_h := Lib.hid e1; clear e1
  have N_h : l_h.length ≤ 64 := by have := congrArg List.length E_h.out; simp only [List.length_map] at this; omega
  replace HB := Lib.hid (HB.out.trans (b.mono HB.out.size))
  replace O_w := Lib.hid (O_w.out.grownBelow b)
  replace O_g := Lib.hid (O_g.out.grownBelow b)
  replace O_t1 := Lib.hid (O_t1.out.grownBelow b)
  replace O_t2 := Lib.hid (O_t2.out.grownBelow b)
  have O_h := Lib.hid o; clear o b
  clear O_t1
  clear A_w_t1 A_t1_w
  clear A_g_t1 A_t1_g
  clear A_t1_t2 A_t2_t1
  clear A_t1_h A_h_t1
  clear S_t1
  clear O_t2
  clear A_w_t2 A_t2_w
  clear A_g_t2 A_t2_g
  clear A_t2_h A_h_t2
  clear S_t2
  go_wp2_with fail
  refine (eq_own _ _ v_h v_w _ _ w18 O_h.out O_w.out (by rw [E_h.out, E_w.out])).mono ?_
  rintro e w19 ⟨rfl, nn, hw⟩
  have b := below_of_drew hw; clear hw nn
  replace HB := Lib.hid (HB.out.trans (b.mono HB.out.size))
  replace O_w := Lib.hid (O_w.out.grownBelow b)
  replace O_g := Lib.hid (O_g.out.grownBelow b)
  replace O_h := Lib.hid (O_h.out.grownBelow b)
  clear b
  go_wp2_with fail
  refine (held_own l_g.length 1 v_g _ w19 O_g.out (by omega) (by omega) (by omega)).mono ?_
  rintro e wz ⟨rfl, rfl⟩
  go_wp2
  go_ret
  exact ⟨rfl, HB.out⟩
end Go.Proofs.Ytphbjfijipcpnaa
