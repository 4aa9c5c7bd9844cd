/- Sums by codes back. -/
import Derived.Test.YtphbjfijipcpnaaSum2
import Derived.Test.YtphbjfijipcpnaaFlo2
namespace Go.Proofs.Ytphbjfijipcpnaa
open Go.RowKit
set_option linter.unusedVariables false

theorem int_notNaN (n : Int) : (FloatKind.f32.decode (floatOfInt .f32 n)).isNaN = false := write_notNaN Ieee.single (.number (decide (n < 0)) n.natAbs 0) rfl
theorem ab_int (n : Int) : ab .f32 (floatOfInt .f32 n) = some (floatOfInt .f32 n) := ab_some (int_notNaN n)
/-- all are divided by the list's length -/
def quoV (c : Nat) (l : List FV) : List FV := l.map fun x => arith .quo .f32 x (some c)
def cst (n : Nat) : Nat := floatOfInt .f32 n

theorem cst_read {n : Nat} (h : isL n = true) : n = 1 ∨ ∃ k j, Ieee.single.read (cst n) = .number false k j ∧ 2 ^ 23 ≤ k ∧ k.log2 = 23 ∧ -22 ≤ j := by
  simp only [isL, Bool.or_eq_true, beq_iff_eq] at h
  rcases h with (((((h | h) | h) | h) | h) | h) | h <;> subst h
  · exact .inl rfl
  · exact .inr ⟨2 ^ 23, -22, by decide, by decide, by decide, by decide⟩
  · exact .inr ⟨2 ^ 23, -21, by decide, by decide, by decide, by decide⟩
  · exact .inr ⟨2 ^ 23, -20, by decide, by decide, by decide, by decide⟩
  · exact .inr ⟨2 ^ 23, -19, by decide, by decide, by decide, by decide⟩
  · exact .inr ⟨2 ^ 23, -18, by decide, by decide, by decide, by decide⟩
  · exact .inr ⟨2 ^ 23, -17, by decide, by decide, by decide, by decide⟩

theorem quo_fin {n : Nat} (h : isL n = true) (x : FV) : fin (arith .quo .f32 x (some (cst n))) = fin x := by
  rcases cst_read h with rfl | ⟨k, j, h1, h2, h3, h4⟩
  · exact fin_quo_one
  · exact fin_quo h1 h2 h3 h4

theorem quoV_fin {n : Nat} (h : isL n = true) (l : List FV) : (quoV (cst n) l).all fin = l.all fin := by
  unfold quoV
  rw [List.all_map]
  congr 1
  funext x
  exact quo_fin h x

theorem quo_set (cur : List Nat) (c k r : Nat) (l : List FV) (hk : k < cur.length) (hl : cur.map (ab .f32) = quoV c (l.take k) ++ l.drop k) (hkl : k < l.length)
    (hr : ab .f32 r = arith .quo .f32 (ab .f32 (cur.getD k 0)) (some c)) : (cur.set k r).map (ab .f32) = quoV c (l.take (k + 1)) ++ l.drop (k + 1) := by
  have hx : ab .f32 (cur.getD k 0) = l[k] := by
    have := congrArg (fun z => z[k]?) hl
    simp only [List.getElem?_map] at this
    rw [List.getElem?_eq_getElem hk, List.getElem?_append_right (by simp [quoV]; omega), List.getElem?_drop] at this
    have e : (quoV c (l.take k)).length = k := by simp [quoV]; omega
    rw [e] at this
    simp only [Nat.sub_self, Nat.add_zero, Option.map_some, List.getElem?_eq_getElem hkl, Option.some.injEq] at this
    simpa [hk] using this
  have e : (quoV c (l.take k)).length = k := by simp [quoV]; omega
  have e3 : quoV c (l.take (k + 1)) = quoV c (l.take k) ++ [arith .quo .f32 l[k] (some c)] := by
    rw [List.take_succ_eq_append_getElem hkl]; unfold quoV; rw [List.map_append]; rfl
  have e4 : (l.drop k).set 0 (arith .quo .f32 l[k] (some c)) = arith .quo .f32 l[k] (some c) :: l.drop (k + 1) := by
    rw [List.drop_eq_getElem_cons hkl]; rfl
  rw [List.map_set, hl, hr, hx, List.set_append, if_neg (by omega), e, Nat.sub_self, e3, e4, List.append_assoc]
  rfl

set_option maxHeartbeats 1000000 in
theorem sumsBack_any (m : Nat) (hm : m ≤ 6) (xs : List Nat) (a : Option Addr) (c : Nat) (w : World) (hrd : RdF w a xs) (hn : xs.length = 2 ^ m) :
    Calls Try.prog 102 #[.slice a xs.length c] w fun e w' => ∃ v outs, e = .returned v ∧ OwnF w' w.heap.size v outs ∧ outs.map (ab .f32) = quoV (cst xs.length) (sumsV m (xs.map (ab .f32))) ∧ Below w.heap.size w w' := by
  have h64 : 2 ^ m ≤ 64 := Nat.pow_le_pow_right (n := 2) (by omega) hm
  have hp : 0 < 2 ^ m := Nat.pow_pos (by omega)
  have HR := Lib.hid hrd; clear hrd
  have HN := Lib.hid hn
  have hxl : xs.length ≤ 64 := by omega
  have hxp : 0 < xs.length := by omega
  clear hn
  obtain ⟨L, hL⟩ : ∃ L, L = sumsV m (xs.map (ab .f32)) := ⟨_, rfl⟩
  have hLl : L.length = xs.length := by rw [hL, sumsV_length, List.length_map]
  have HL := Lib.hid hL
  rw [← hL]
  clear hL
  obtain ⟨cc, hcc⟩ : ∃ cc, cc = cst xs.length := ⟨_, rfl⟩
  rw [← hcc]
  have HCC := Lib.hid hcc
  clear hcc
  go_enter Try.func102, Try.ntmps102
  go_wp2_with fail
  refine (sums_any m hm xs a c w HR.out HN.out).mono ?_
  rintro e w1 ⟨v, outs, rfl, ho, hom, hb⟩
  rw [← HL.out] at hom
  have hol : outs.length = xs.length := by have := congrArg List.length hom; rw [List.length_map] at this; omega
  obtain ⟨g, cap, rfl⟩ : ∃ g cap, v = .slice (some ⟨g, 0, none⟩) outs.length cap := by
    rcases ho.own with ⟨_, h⟩ | ⟨g, cap, h, _⟩
    · rw [h] at hol; simp at hol; omega
    · exact ⟨g, cap, h⟩
  rw [hol] at ho ⊢
  have HO := Lib.hid ho
  have HB := Lib.hid hb
  have HOM := Lib.hid hom
  have HOL := Lib.hid hol
  clear ho hb hom hol
  go_wp2
  go_loopw [9] (fun i wr => ∃ k : Nat, k ≤ xs.length ∧ i = .int .i64 k ∧ Below w.heap.size w wr ∧ Hid (∃ cur, cur.length = xs.length ∧ OwnF wr w.heap.size (.slice (some ⟨g, 0, none⟩) xs.length cap) cur ∧ cur.map (ab .f32) = quoV cc (L.take k) ++ L.drop k)) (fun i _ => xs.length - (intOf i).toNat)
  case atStart => exact ⟨0, Nat.zero_le _, rfl, HB.out, ⟨outs, HOL.out, HO.out, by rw [HOM.out]; simp [quoV]⟩⟩
  case round =>
    clear HO HB
    obtain ⟨k, hk, rfl, hbl, hcur⟩ := hrel
    by_cases hlt : k < xs.length
    · have HB := Lib.hid hbl; clear hbl
      obtain ⟨cur, hcl, hco, hcm⟩ := hcur.out
      have c1 := hco.at k (by omega)
      have f1 := hco.fz k
      obtain ⟨x, hx⟩ : ∃ x, x = cur.getD k 0 := ⟨_, rfl⟩
      rw [← hx] at c1
      have HX := Lib.hid hx
      have HCL := Lib.hid hcl
      have HCO := Lib.hid hco
      have HCM := Lib.hid hcm
      clear hx hcl hco hcm hcur
      go_wp2
      go_roundw
      case rel =>
        refine ⟨k + 1, by omega, by go_num, (below_drewN' HB.out _).setCell (HCO.out.ltOf g rfl).1 _, ?_⟩
        refine ⟨cur.set k _, by rw [List.length_set]; exact HCL.out, (HCO.out.drew _).set HCL.out.symm k _, ?_⟩
        refine quo_set cur cc k _ L (by rw [HCL.out]; exact hlt) HCM.out (by omega) ?_
        rw [ab_fres, ab_int, HX.out, HCC.out]
        rfl
      case measure => simp [intOf]; omega
    · have ek : k = xs.length := by omega
      have HB := Lib.hid hbl; clear hbl
      have HK := Lib.hid ek
      clear ek
      go_wp2
      go_ret
      obtain ⟨cur, h1, h2, h3⟩ := hcur.out
      refine ⟨_, cur, rfl, h2, ?_, HB.out⟩
      rw [h3, HK.out, ← hLl]; simp

def backV (m : Nat) (xs : List Nat) : Int × List FV := if (sumsV m (xs.map (ab .f32))).all fin then (0, quoV (cst xs.length) (sumsV m (xs.map (ab .f32)))) else (3, [])
theorem backV_told {xs : List Nat} (h : isL xs.length = true) (m : Nat) : toldV (quoV (cst xs.length) (sumsV m (xs.map (ab .f32)))) = backV m xs := by
  unfold toldV backV
  rw [quoV_fin h]

set_option maxHeartbeats 1000000 in
theorem l10Back_any (m : Nat) (hm : m ≤ 6) (xs : List Nat) (a : Option Addr) (c : Nat) (w : World) (hrd : RdF w a xs) (hn : xs.length = 2 ^ m) :
    Calls Try.prog 101 #[.slice a xs.length c] w (ListPost (backV m xs) w) := by
  have h64 : 2 ^ m ≤ 64 := Nat.pow_le_pow_right (n := 2) (by omega) hm
  have hp : 0 < 2 ^ m := Nat.pow_pos (by omega)
  have HR := Lib.hid hrd; clear hrd
  have HN := Lib.hid hn
  have hxl : xs.length ≤ 64 := by omega
  have hxp : 0 < xs.length := by omega
  clear hn
  obtain ⟨L, hL⟩ : ∃ L, L = sumsV m (xs.map (ab .f32)) := ⟨_, rfl⟩
  have hLl : L.length = xs.length := by rw [hL, sumsV_length, List.length_map]
  have HBV : Hid (backV m xs = if L.all fin then (0, quoV (cst xs.length) L) else (3, [])) := by show _ = _; unfold backV; rw [← hL]
  have HL := Lib.hid hL
  clear hL
  obtain ⟨cc, hcc⟩ : ∃ cc, cc = cst xs.length := ⟨_, rfl⟩
  have HCC := Lib.hid hcc
  clear hcc
  go_enter Try.func101, Try.ntmps101
  go_wp2_with fail
  refine (l10Sums_any m hm xs a c w HR.out HN.out).mono ?_
  rintro e w1 ⟨v, outs, rfl, ho, hom, hb⟩
  rw [← HL.out] at hom
  have hol : outs.length = xs.length := by have := congrArg List.length hom; rw [List.length_map] at this; omega
  obtain ⟨g, cap, rfl⟩ : ∃ g cap, v = .slice (some ⟨g, 0, none⟩) outs.length cap := by
    rcases ho.own with ⟨_, h⟩ | ⟨g, cap, h, _⟩
    · rw [h] at hol; simp at hol; omega
    · exact ⟨g, cap, h⟩
  have hrd := ho.rd.2
  have HRD := Lib.hid hrd
  have HO := Lib.hid ho
  have HB := Lib.hid hb
  have HOM := Lib.hid hom
  have HOL := Lib.hid hol
  have hol9 : outs.length ≤ 9223372036854775807 := by omega
  clear ho hb hom hol hrd
  go_wp2_with fail
  refine (l10Told_any outs (some ⟨g, 0, none⟩) cap w1 HRD.out hol9).mono ?_
  rintro e w2 ⟨rfl, n3, rfl⟩
  cases hf : allNum outs with
  | false =>
    have R2 : Hid (backV m xs = (3, [])) := by show _ = _; rw [HBV.out, ← HOM.out, ← allNum_fin, hf]; rfl
    simp only [Bool.false_eq_true, if_false]
    go_wp2
    go_ret2
    exact ⟨_, [], by rw [R2.out]; rfl, OwnF.nil _ _, by rw [R2.out]; rfl, below_drewN' HB.out _⟩
  | true =>
    have R2 : Hid (backV m xs = (0, quoV cc L)) := by show _ = _; rw [HBV.out, ← HOM.out, ← allNum_fin, hf, HCC.out]; rfl
    have HF := Lib.hid hf
    clear hf
    simp only [if_true]
    rw [HOL.out] at HO ⊢
    go_wp2
    go_loopw [6] (fun i wr => ∃ k : Nat, k ≤ xs.length ∧ i = .int .i64 k ∧ Below w.heap.size w wr ∧ Hid (∃ cur, cur.length = xs.length ∧ OwnF wr w.heap.size (.slice (some ⟨g, 0, none⟩) xs.length cap) cur ∧ cur.map (ab .f32) = quoV cc (L.take k) ++ L.drop k)) (fun i _ => xs.length - (intOf i).toNat)
    case atStart => exact ⟨0, Nat.zero_le _, rfl, below_drewN' HB.out _, ⟨outs, HOL.out, HO.out.drew _, by rw [HOM.out]; simp [quoV]⟩⟩
    case round =>
      clear HO HB
      obtain ⟨k, hk, rfl, hbl, hcur⟩ := hrel
      by_cases hlt : k < xs.length
      · have HB := Lib.hid hbl; clear hbl
        obtain ⟨cur, hcl, hco, hcm⟩ := hcur.out
        have c1 := hco.at k (by omega)
        have f1 := hco.fz k
        obtain ⟨x, hx⟩ : ∃ x, x = cur.getD k 0 := ⟨_, rfl⟩
        rw [← hx] at c1
        have HX := Lib.hid hx
        have HCL := Lib.hid hcl
        have HCO := Lib.hid hco
        have HCM := Lib.hid hcm
        clear hx hcl hco hcm hcur
        go_wp2
        go_roundw
        case rel =>
          refine ⟨k + 1, by omega, by go_num, (below_drewN' HB.out _).setCell (HCO.out.ltOf g rfl).1 _, ?_⟩
          refine ⟨cur.set k _, by rw [List.length_set]; exact HCL.out, (HCO.out.drew _).set HCL.out.symm k _, ?_⟩
          refine quo_set cur cc k _ L (by rw [HCL.out]; exact hlt) HCM.out (by omega) ?_
          rw [ab_fres, ab_int, HX.out, HCC.out]
          rfl
        case measure => simp [intOf]; omega
      · have ek : k = xs.length := by omega
        have HB := Lib.hid hbl; clear hbl
        have HK := Lib.hid ek
        clear ek
        go_wp2
        go_ret2
        obtain ⟨cur, h1, h2, h3⟩ := hcur.out
        refine ⟨_, cur, by rw [R2.out]; rfl, h2, ?_, HB.out⟩
        rw [R2.out, h3, HK.out, ← hLl]; simp

def backRes (xs : List Nat) : Int × List FV :=
  if allNum xs then (if isL xs.length then backV xs.length.log2 xs else (2, [])) else (1, [])
theorem backV_length (m : Nat) (xs : List Nat) : (backV m xs).2.length ≤ xs.length := by unfold backV; split <;> simp [quoV, sumsV_length]
theorem backRes_length (xs : List Nat) : (backRes xs).2.length ≤ 64 := by
  unfold backRes
  split
  · split
    · rename_i h
      have := backV_length xs.length.log2 xs
      have := isL_le h
      omega
    · simp
  · simp

set_option maxHeartbeats 1000000 in
theorem signedBack_any (xs : List Nat) (a : Option Addr) (c : Nat) (w : World) (hx : RdF w a xs) (hl : xs.length ≤ 4611686018427387903) :
    Calls Try.prog 56 #[.slice a xs.length c] w (ListPost (backRes xs) w) := by
  have HX := Lib.hid hx; clear hx
  have hl' : xs.length ≤ 9223372036854775807 := by omega
  cases hna : allNum xs with
  | false =>
    have R : Hid (backRes xs = (1, [])) := by show _ = _; simp [backRes, hna]
    go_enter Try.func56, Try.ntmps56
    go_wp2_with fail
    refine (listCode_isLength xs a c w HX.out hl').mono ?_
    rintro e w1 ⟨rfl, n1, rfl⟩
    rw [hna]
    simp only [lcode, Bool.false_eq_true, if_false]
    go_wp2
    go_ret2
    exact ListPost.err R.out
  | true =>
    cases hd : isL xs.length with
    | false =>
      have R : Hid (backRes xs = (2, [])) := by show _ = _; simp [backRes, hna, hd]
      go_enter Try.func56, Try.ntmps56
      go_wp2_with fail
      refine (listCode_isLength xs a c w HX.out hl').mono ?_
      rintro e w1 ⟨rfl, n1, rfl⟩
      rw [hna, hd]
      simp only [lcode, Bool.false_eq_true, if_false, if_true]
      go_wp2
      go_ret2
      exact ListPost.err R.out
    | true =>
      have R : Hid (backRes xs = toldV (quoV (cst xs.length) (sumsV xs.length.log2 (xs.map (ab .f32))))) := by show _ = _; rw [backV_told hd]; unfold backRes; rw [hna, hd]; rfl
      obtain ⟨hm, hp⟩ := isL_pow hd
      have HP := Lib.hid hp; clear hp
      go_enter Try.func56, Try.ntmps56
      go_wp2_with fail
      refine (listCode_isLength xs a c w HX.out hl').mono ?_
      rintro e w1 ⟨rfl, n1, rfl⟩
      rw [hna, hd]
      simp only [lcode, if_true]
      clear hna hd
      go_wp2_with fail
      refine (sumsBack_any xs.length.log2 hm xs a c (w.drewN n1) HX.out HP.out).mono ?_
      rintro e w1 ⟨v, outs, rfl, h1, h2, h3⟩
      obtain ⟨a3, c3, rfl⟩ := h1.slice
      have hlo : outs.length ≤ 9223372036854775807 := by have := h1.len; unfold maxLen at this; exact this
      have hrd := h1.rd.2
      have H1 := Lib.hid h1
      have H2 := Lib.hid h2
      have H3 := Lib.hid (below_drewN' (Below.refl w.heap.size w) n1 |>.trans h3)
      have H4 := Lib.hid hrd
      clear h1 h2 h3 hrd
      go_wp2_with fail
      refine (finite_any outs a3 c3 w1 H4.out hlo).mono ?_
      rintro e w2 ⟨rfl, n3, rfl⟩
      cases hf : allNum outs with
      | true =>
        have R2 : Hid (backRes xs = (0, outs.map (ab .f32))) := by show _ = _; rw [R.out, ← H2.out]; unfold toldV; rw [← allNum_fin, hf]; rfl
        simp only [if_true]
        go_wp2
        go_ret2
        exact ⟨_, outs, by rw [R2.out]; rfl, H1.out, by rw [R2.out], below_drewN' H3.out _⟩
      | false =>
        have R2 : Hid (backRes xs = (3, [])) := by show _ = _; rw [R.out, ← H2.out]; unfold toldV; rw [← allNum_fin, hf]; rfl
        simp only [Bool.false_eq_true, if_false]
        go_wp2
        go_ret2
        exact ⟨_, [], by rw [R2.out]; rfl, OwnF.nil _ _, by rw [R2.out]; rfl, below_drewN' H3.out _⟩

set_option maxHeartbeats 1000000 in
theorem l10RawBack_any (xs : List Nat) (a : Option Addr) (c : Nat) (w : World) (hx : RdF w a xs) (hl : xs.length ≤ 4611686018427387903) :
    Calls Try.prog 55 #[.slice a xs.length c] w (ListPost (backRes xs) w) := by
  have HX := Lib.hid hx; clear hx
  have hl' : xs.length ≤ 9223372036854775807 := by omega
  cases hna : allNum xs with
  | false =>
    have R : Hid (backRes xs = (1, [])) := by show _ = _; simp [backRes, hna]
    go_enter Try.func55, Try.ntmps55
    go_wp2_with fail
    refine (l10Fine_any xs a c w HX.out hl').mono ?_
    rintro e w1 ⟨rfl, n1, rfl⟩
    rw [hna]
    go_wp2
    go_ret2
    exact ListPost.err R.out
  | true =>
    cases hd : isL xs.length with
    | false =>
      have R : Hid (backRes xs = (2, [])) := by show _ = _; simp [backRes, hna, hd]
      go_enter Try.func55, Try.ntmps55
      go_wp2_with fail
      refine (l10Fine_any xs a c w HX.out hl').mono ?_
      rintro e w1 ⟨rfl, n1, rfl⟩
      rw [hna]
      go_wp2_with fail
      refine (l10Length_any _ _ hl').mono ?_
      rintro e w1 ⟨rfl, rfl⟩
      rw [hd]
      go_wp2
      go_ret2
      exact ListPost.err R.out
    | true =>
      have R : Hid (backRes xs = backV xs.length.log2 xs) := by show _ = _; unfold backRes; rw [hna, hd]; rfl
      obtain ⟨hm, hp⟩ := isL_pow hd
      have HP := Lib.hid hp; clear hp
      go_enter Try.func55, Try.ntmps55
      go_wp2_with fail
      refine (l10Fine_any xs a c w HX.out hl').mono ?_
      rintro e w1 ⟨rfl, n1, rfl⟩
      rw [hna]
      go_wp2_with fail
      refine (l10Length_any _ _ hl').mono ?_
      rintro e w1 ⟨rfl, rfl⟩
      rw [hd]
      clear hna hd
      go_wp2_with fail
      refine (l10Back_any xs.length.log2 hm xs a c (w.drewN n1) HX.out HP.out).mono ?_
      rintro e w1 ⟨v, outs, rfl, h1, h2, h3⟩
      have H1 := Lib.hid h1
      have H2 := Lib.hid h2
      have H3 := Lib.hid (below_drewN' (Below.refl w.heap.size w) n1 |>.trans h3)
      clear h1 h2 h3
      go_wp2
      go_ret2
      exact ⟨v, outs, by rw [R.out]; rfl, H1.out, by rw [R.out]; exact H2.out, H3.out⟩
end Go.Proofs.Ytphbjfijipcpnaa
