/- The statement on DecodeShadow: the walk through the law. -/
import Derived.Test.YtphbjfijipcpnaaDec
namespace Go.Proofs.Ytphbjfijipcpnaa
open Go.RowKit
set_option linter.unusedVariables false

theorem implDecodeShadowC_any (xs : List Nat) (a : Option Addr) (c : Nat) (w : World) (hxs : RdF w a xs) (hl : xs.length ≤ 4611686018427387903) :
    Calls Try.prog 32 #[.slice a xs.length c] w (ListPost ((decRes xs).1, (decRes xs).2.map pnV) w) := by
  have HX := Lib.hid hxs; clear hxs
  go_enter Try.func32, Try.ntmps32
  go_wp2_with fail
  refine (signedDec_any xs a c w HX.out hl).mono ?_
  rintro e w1 ⟨v, outs, rfl, h1, h2, h3⟩
  have H1 := Lib.hid h1
  have H2 := Lib.hid h2
  have H3 := Lib.hid h3
  have hlo : outs.length ≤ 64 := by have := congrArg List.length h2; simp only [List.length_map] at this; have h64 := decRes_length xs; omega
  clear h1 h2 h3
  go_wp2_with fail
  refine (plainS_any outs v w.heap.size w1 H1.out (by omega)).mono ?_
  rintro e w2 ⟨rfl, h4, h5⟩
  have H4 := Lib.hid h4
  have H5 := Lib.hid h5
  clear h4 h5
  go_wp2
  go_ret2
  exact ⟨v, outs.map pn, rfl, H4.out, by rw [map_ab_pn, H2.out], grown_below H3.out H5.out H1.out H3.out.size⟩

theorem specDecodeShadowC_any (xs : List Nat) (a : Option Addr) (c : Nat) (w : World) (hxs : RdF w a xs) (hl : xs.length ≤ 4611686018427387903) :
    Calls Try.prog 31 #[.slice a xs.length c] w (ListPost ((decRes xs).1, (decRes xs).2.map pnV) w) := by
  have HX := Lib.hid hxs; clear hxs
  go_enter Try.func31, Try.ntmps31
  go_wp2_with fail
  refine (l10RawDec_any xs a c w HX.out hl).mono ?_
  rintro e w1 ⟨v, outs, rfl, h1, h2, h3⟩
  obtain ⟨a3, c3, rfl⟩ := h1.slice
  have hrd := h1.rd.2
  have HR := Lib.hid hrd
  have H1 := Lib.hid h1
  have H2 := Lib.hid h2
  have H3 := Lib.hid h3
  have hlo : outs.length ≤ 64 := by have := congrArg List.length h2; simp only [List.length_map] at this; have h64 := decRes_length xs; omega
  clear h1 h2 h3 hrd
  go_wp2_with fail
  refine (l01PlusNumbers_any outs a3 c3 w1 HR.out (by omega)).mono ?_
  rintro e w2 ⟨v2, rfl, h4, h5⟩
  have H4 := Lib.hid h4
  have H5 := Lib.hid h5
  clear h4 h5
  go_wp2
  go_ret2
  exact ⟨v2, outs.map pn, rfl, H4.out.mono H3.out.size, by rw [map_ab_pn, H2.out], H3.out.trans (H5.out.mono H3.out.size)⟩

theorem impl_DecodeShadow (xs : List Nat) (v1 : Value) (b1 : Nat) (w : World) (h1 : OwnF w b1 v1 xs) (hl1 : xs.length ≤ 4611686018427387903) :
    Calls Try.prog 32 #[v1] w (ListPost ((decRes xs).1, (decRes xs).2.map pnV) w) := by
  obtain ⟨a, c, rfl⟩ := h1.slice
  exact implDecodeShadowC_any xs a c w h1.rd.2 hl1
theorem spec_DecodeShadow (xs : List Nat) (v1 : Value) (b1 : Nat) (w : World) (h1 : OwnF w b1 v1 xs) (hl1 : xs.length ≤ 4611686018427387903) :
    Calls Try.prog 31 #[v1] w (ListPost ((decRes xs).1, (decRes xs).2.map pnV) w) := by
  obtain ⟨a, c, rfl⟩ := h1.slice
  exact specDecodeShadowC_any xs a c w h1.rd.2 hl1

set_option maxHeartbeats 4000000 in
theorem law_DecodeShadow (xs : List Nat) (a : Option Addr) (c : Nat) (w : World) (hxs : RdF w a xs)  :
    Calls Try.prog 9 #[.slice a xs.length c] w fun e w' => e = .returned (.bool true) ∧ Below w.heap.size w w' := by
  have HX := Lib.hid hxs; clear hxs
  by_cases hbig0 : 1048576 < xs.length
  · go_enter Try.func9, Try.ntmps9
    go_wp2
    go_ret
    exact ⟨rfl, Below.refl _ _⟩
  have hl : xs.length * 4 ≤ 140737488351232 := by omega
  obtain ⟨rc, hrc⟩ : ∃ rc : Int × List FV, rc = ((decRes xs).1, (decRes xs).2.map pnV) := ⟨_, rfl⟩
  have hrl : rc.2.length ≤ 64 := by rw [hrc, List.length_map]; exact decRes_length xs
  have CI := impl_DecodeShadow xs
  have CS := spec_DecodeShadow xs
  rw [← hrc] at CI CS
  have HCI := Lib.hid CI
  have HCS := Lib.hid CS
  clear hrc CI CS
  have HB := Lib.hid (Below.refl w.heap.size w)
  go_enter Try.func9, Try.ntmps9
  go_wp2_with fail
  refine (toF_own xs a c w (HX.out.below HB.out) hl).mono ?_
  rintro e w1 ⟨v_s1, rfl, o, b⟩
  have S_s1 := Lib.hid HB.out.size
  replace HB := Lib.hid (HB.out.trans (b.mono HB.out.size))
  have O_s1 := Lib.hid o; clear o b
  go_wp2_with fail
  refine (HCS.out v_s1 _ w1 O_s1.out (by omega)).mono ?_
  rintro e w2 ⟨v_w, l_w, rfl, o, e1, b⟩
  have A_s1_w := Lib.hid (O_s1.out.apart' o (Nat.le_refl _)); have A_w_s1 := Lib.hid (O_s1.out.apart o (Nat.le_refl _))
  have S_w := Lib.hid HB.out.size
  have E_w := Lib.hid e1; clear e1
  have N_w : l_w.length ≤ 64 := by have := congrArg List.length E_w.out; simp only [List.length_map] at this; omega
  replace HB := Lib.hid (HB.out.trans (b.mono HB.out.size))
  replace O_s1 := Lib.hid (O_s1.out.grownBelow b)
  have O_w := Lib.hid o; clear o b
  clear O_s1
  clear A_s1_w A_w_s1
  clear S_s1
  go_wp2_with fail
  refine (toF_own xs a c w2 (HX.out.below HB.out) hl).mono ?_
  rintro e w3 ⟨v_x1, rfl, o, b⟩
  have A_w_x1 := Lib.hid (O_w.out.apart' o (Nat.le_refl _)); have A_x1_w := Lib.hid (O_w.out.apart o (Nat.le_refl _))
  have S_x1 := Lib.hid HB.out.size
  replace HB := Lib.hid (HB.out.trans (b.mono HB.out.size))
  replace O_w := Lib.hid (O_w.out.grownBelow b)
  have O_x1 := Lib.hid o; clear o b
  go_wp2_with fail
  refine (HCI.out v_x1 _ w3 O_x1.out (by omega)).mono ?_
  rintro e w4 ⟨v_g, l_g, rfl, o, e1, b⟩
  have A_w_g := Lib.hid (O_w.out.apart' o (Nat.le_refl _)); have A_g_w := Lib.hid (O_w.out.apart o (Nat.le_refl _))
  have A_x1_g := Lib.hid (O_x1.out.apart' o (Nat.le_refl _)); have A_g_x1 := Lib.hid (O_x1.out.apart o (Nat.le_refl _))
  have S_g := Lib.hid HB.out.size
  have E_g := Lib.hid e1; clear e1
  have N_g : l_g.length ≤ 64 := by have := congrArg List.length E_g.out; simp only [List.length_map] at this; omega
  replace HB := Lib.hid (HB.out.trans (b.mono HB.out.size))
  replace O_w := Lib.hid (O_w.out.grownBelow b)
  replace O_x1 := Lib.hid (O_x1.out.grownBelow b)
  have O_g := Lib.hid o; clear o b
  go_wp2_with fail
  refine (eq_own _ _ v_g v_w _ _ w4 O_g.out O_w.out (by rw [E_g.out, E_w.out])).mono ?_
  rintro e w5 ⟨rfl, nn, hw⟩
  have b := below_of_drew hw; clear hw nn
  replace HB := Lib.hid (HB.out.trans (b.mono HB.out.size))
  replace O_w := Lib.hid (O_w.out.grownBelow b)
  replace O_x1 := Lib.hid (O_x1.out.grownBelow b)
  replace O_g := Lib.hid (O_g.out.grownBelow b)
  clear b
  go_wp2_with fail
  refine (toF_own xs a c w5 (HX.out.below HB.out) hl).mono ?_
  rintro e w6 ⟨v_z1, rfl, o, b⟩
  have A_w_z1 := Lib.hid (O_w.out.apart' o (Nat.le_refl _)); have A_z1_w := Lib.hid (O_w.out.apart o (Nat.le_refl _))
  have A_x1_z1 := Lib.hid (O_x1.out.apart' o (Nat.le_refl _)); have A_z1_x1 := Lib.hid (O_x1.out.apart o (Nat.le_refl _))
  have A_g_z1 := Lib.hid (O_g.out.apart' o (Nat.le_refl _)); have A_z1_g := Lib.hid (O_g.out.apart o (Nat.le_refl _))
  have S_z1 := Lib.hid HB.out.size
  replace HB := Lib.hid (HB.out.trans (b.mono HB.out.size))
  replace O_w := Lib.hid (O_w.out.grownBelow b)
  replace O_x1 := Lib.hid (O_x1.out.grownBelow b)
  replace O_g := Lib.hid (O_g.out.grownBelow b)
  have O_z1 := Lib.hid o; clear o b
  go_wp2_with fail
  refine (eq_own _ _ v_x1 v_z1 _ _ w6 O_x1.out O_z1.out rfl).mono ?_
  rintro e w7 ⟨rfl, nn, hw⟩
  have b := below_of_drew hw; clear hw nn
  replace HB := Lib.hid (HB.out.trans (b.mono HB.out.size))
  replace O_w := Lib.hid (O_w.out.grownBelow b)
  replace O_x1 := Lib.hid (O_x1.out.grownBelow b)
  replace O_g := Lib.hid (O_g.out.grownBelow b)
  replace O_z1 := Lib.hid (O_z1.out.grownBelow b)
  clear b
  clear O_z1
  clear A_w_z1 A_z1_w
  clear A_x1_z1 A_z1_x1
  clear A_g_z1 A_z1_g
  clear S_z1
  go_wp2_with fail
  refine (mark_any _ 1 v_x1 _ w7 O_x1.out (by omega) (by omega) (by omega)).mono ?_
  rintro e w8 ⟨rfl, o, gr⟩
  replace HB := Lib.hid (grown_below HB.out gr (O_x1.out.mono S_x1.out) HB.out.size)
  replace O_w := Lib.hid (O_w.out.kept' A_w_x1.out gr)
  replace O_g := Lib.hid (O_g.out.kept' A_g_x1.out gr)
  replace O_x1 := Lib.hid o; clear o gr
  clear O_x1
  clear A_w_x1 A_x1_w
  clear A_x1_g A_g_x1
  clear S_x1
  go_wp2_with fail
  refine (eq_own _ _ v_g v_w _ _ w8 O_g.out O_w.out (by rw [E_g.out, E_w.out])).mono ?_
  rintro e w9 ⟨rfl, nn, hw⟩
  have b := below_of_drew hw; clear hw nn
  replace HB := Lib.hid (HB.out.trans (b.mono HB.out.size))
  replace O_w := Lib.hid (O_w.out.grownBelow b)
  replace O_g := Lib.hid (O_g.out.grownBelow b)
  clear b
  go_wp2_with fail
  refine (mark_any _ 1 v_g _ w9 O_g.out (by omega) (by omega) (by omega)).mono ?_
  rintro e w10 ⟨rfl, o, gr⟩
  replace HB := Lib.hid (grown_below HB.out gr (O_g.out.mono S_g.out) HB.out.size)
  replace O_w := Lib.hid (O_w.out.kept' A_w_g.out gr)
  replace O_g := Lib.hid o; clear o gr
  go_wp2_with fail
  refine (held_own l_g.length 1 v_g _ w10 O_g.out (by omega) (by omega) (by omega)).mono ?_
  rintro e wz ⟨rfl, rfl⟩
  go_wp2_with fail
  refine (toF_own xs a c w10 (HX.out.below HB.out) hl).mono ?_
  rintro e w11 ⟨v_t1, rfl, o, b⟩
  have A_w_t1 := Lib.hid (O_w.out.apart' o (Nat.le_refl _)); have A_t1_w := Lib.hid (O_w.out.apart o (Nat.le_refl _))
  have A_g_t1 := Lib.hid (O_g.out.apart' o (Nat.le_refl _)); have A_t1_g := Lib.hid (O_g.out.apart o (Nat.le_refl _))
  have S_t1 := Lib.hid HB.out.size
  replace HB := Lib.hid (HB.out.trans (b.mono HB.out.size))
  replace O_w := Lib.hid (O_w.out.grownBelow b)
  replace O_g := Lib.hid (O_g.out.grownBelow b)
  have O_t1 := Lib.hid o; clear o b
  go_wp2_with fail
  refine (HCI.out v_t1 _ w11 O_t1.out (by omega)).mono ?_
  rintro e w12 ⟨v_h, l_h, rfl, o, e1, b⟩
  have A_w_h := Lib.hid (O_w.out.apart' o (Nat.le_refl _)); have A_h_w := Lib.hid (O_w.out.apart o (Nat.le_refl _))
  have A_g_h := Lib.hid (O_g.out.apart' o (Nat.le_refl _)); have A_h_g := Lib.hid (O_g.out.apart o (Nat.le_refl _))
  have A_t1_h := Lib.hid (O_t1.out.apart' o (Nat.le_refl _)); have A_h_t1 := Lib.hid (O_t1.out.apart o (Nat.le_refl _))
  have S_h := Lib.hid HB.out.size
  have E_h := Lib.hid e1; clear e1
  have N_h : l_h.length ≤ 64 := by have := congrArg List.length E_h.out; simp only [List.length_map] at this; omega
  replace HB := Lib.hid (HB.out.trans (b.mono HB.out.size))
  replace O_w := Lib.hid (O_w.out.grownBelow b)
  replace O_g := Lib.hid (O_g.out.grownBelow b)
  replace O_t1 := Lib.hid (O_t1.out.grownBelow b)
  have O_h := Lib.hid o; clear o b
  clear O_t1
  clear A_w_t1 A_t1_w
  clear A_g_t1 A_t1_g
  clear A_t1_h A_h_t1
  clear S_t1
  go_wp2_with fail
  refine (eq_own _ _ v_h v_w _ _ w12 O_h.out O_w.out (by rw [E_h.out, E_w.out])).mono ?_
  rintro e w13 ⟨rfl, nn, hw⟩
  have b := below_of_drew hw; clear hw nn
  replace HB := Lib.hid (HB.out.trans (b.mono HB.out.size))
  replace O_w := Lib.hid (O_w.out.grownBelow b)
  replace O_g := Lib.hid (O_g.out.grownBelow b)
  replace O_h := Lib.hid (O_h.out.grownBelow b)
  clear b
  go_wp2_with fail
  refine (held_own l_g.length 1 v_g _ w13 O_g.out (by omega) (by omega) (by omega)).mono ?_
  rintro e wz ⟨rfl, rfl⟩
  go_wp2
  go_ret
  exact ⟨rfl, HB.out⟩
end Go.Proofs.Ytphbjfijipcpnaa
