/- DecodeShadow: the walks. -/
import Derived.Deep.RegionHeld
import Derived.Test.YtphbjfijipcpnaaSha
import Derived.Test.YtphbjfijipcpnaaLeg
import Derived.Test.YtphbjfijipcpnaaApp
import Derived.Test.YtphbjfijipcpnaaBack
namespace Go.Proofs.Ytphbjfijipcpnaa
open Go.RowKit
set_option linter.unusedVariables false

def decF (xs : List Nat) (k j : Nat) : FV := arith .mul .f32 (ab .f32 (xs.getD j 0)) (ab .f32 ((legL xs.length).getD (ix xs.length j k) 0))

set_option maxHeartbeats 1000000 in
theorem dec1_any (L : List Nat) (a : Option Addr) (c g1 g2 : Nat) (j k : Nat) (w : World) (hb1 : w.cell? ⟨g1, 0, none⟩ = some (.slice a L.length c)) (hb2 : w.cell? ⟨g2, 0, none⟩ = some (.int .i64 L.length)) (hrd : RdF w a L)
    (hl : L.length ≤ 64) (hm : 0 < L.length) (hj : j < L.length) (hk : k < L.length) :
    Calls Try.prog 110 #[.int .i64 j, .int .i64 k, .pointer (some ⟨g1, 0, none⟩), .pointer (some ⟨g2, 0, none⟩)] w fun e w' => ∃ y, e = .returned (.float .f32 y) ∧ ab .f32 y = ab .f32 (L.getD (ix L.length j k) 0) ∧ Quiet w w' := by
  obtain ⟨i, hi⟩ : ∃ i, i = ix L.length j k := ⟨_, rfl⟩
  have hlt : i < L.length := by rw [hi]; exact ix_lt _ _ _ hm
  have hmod : ((j : Int) - k + L.length).tmod L.length = i := by rw [hi]; exact ix_int _ _ _ (by omega)
  rw [← hi]
  clear hi
  obtain ⟨b, off, rfl, hc⟩ := hrd _ hlt
  obtain ⟨x, hx⟩ : ∃ x, x = L.getD i 0 := ⟨_, rfl⟩
  rw [← hx] at hc ⊢
  clear hx hrd
  have hx1 : -(L.length : Int) < (j : Int) - k := by omega
  have hx2 : (j : Int) - k < L.length := by omega
  have hwr : IntKind.i64.wrap ((j : Int) - k) = (j : Int) - k := IntWalk.i64_in _ ⟨by omega, by omega⟩
  go_enter Try.func110, Try.ntmps110
  go_wp2

  go_region_with ((go_at_call 109; (try rw [hwr]); refine (modulo_any ((j : Int) - k) L.length i _ hm hl hx1 hx2 hmod).mono ?_; rintro e w' ⟨rfl, rfl⟩))
  all_goals go_wp2
  all_goals go_ret
  all_goals refine ⟨_, rfl, rfl, _, rfl⟩

set_option maxHeartbeats 1000000 in
theorem sumsWith_dec (xs : List Nat) (a a2 : Option Addr) (c c2 g1 g2 : Nat) (w : World) (hx : RdF w a xs) (hb1 : w.cell? ⟨g1, 0, none⟩ = some (.slice a2 xs.length c2)) (hb2 : w.cell? ⟨g2, 0, none⟩ = some (.int .i64 xs.length)) (hy : RdF w a2 (legL xs.length))
    (hl : xs.length ≤ 64) (hm : 0 < xs.length) :
    Calls Try.prog 107 #[.slice a xs.length c, .func (.func 110) #[] #[.pointer (some ⟨g1, 0, none⟩), .pointer (some ⟨g2, 0, none⟩)]] w fun e w' => ∃ v outs, e = .returned v ∧ OwnF w' w.heap.size v outs ∧
      outs.map (ab .f32) = rows (decF xs) xs.length xs.length ∧ Below w.heap.size w w' := by
  have HX := Lib.hid hx; clear hx
  have HY := Lib.hid hy; clear hy
  have HG1 := Lib.hid hb1; clear hb1
  have HG2 := Lib.hid hb2; clear hb2
  have hll : (legL xs.length).length = xs.length := legL_length _
  obtain ⟨L, hL⟩ : ∃ L, L = legL xs.length := ⟨_, rfl⟩
  rw [← hL] at HY hll
  have HL0 := Lib.hid hL; clear hL
  have HLL := Lib.hid hll; clear hll
  go_enter Try.func107, Try.ntmps107
  go_wp2
  go_loopw [5, 13] (fun v i wr => ∃ k : Nat, k ≤ xs.length ∧ i = .int .i64 k ∧ Below w.heap.size w wr ∧ Hid (∃ outs, OwnF wr w.heap.size v outs ∧ outs.map (ab .f32) = rows (decF xs) xs.length k)) (fun _ i _ => xs.length - (intOf i).toNat)
  case atStart => exact ⟨0, Nat.zero_le _, rfl, (Below.refl _ _).alloc (Nat.le_refl _) _, ⟨[], OwnF.made w, rfl⟩⟩
  case round =>
    obtain ⟨k, hk, rfl, hbl, hown⟩ := hrel
    by_cases hlt : k < xs.length
    · have HB := Lib.hid hbl; clear hbl
      obtain ⟨wo, hwo⟩ : ∃ wo : World, wo = wr := ⟨_, rfl⟩
      subst hwo
      have hgc1 : Hid (wo.cell? ⟨g1, 0, none⟩ = some (.slice a2 L.length c2)) := by
        show _ = _
        rw [HB.out.cell (by exact block_lt_of_cell HG1.out), HLL.out]; exact HG1.out
      have hgc2 : Hid (wo.cell? ⟨g2, 0, none⟩ = some (.int .i64 L.length)) := by
        show _ = _
        rw [HB.out.cell (by exact block_lt_of_cell HG2.out), HLL.out]; exact HG2.out
      have hyo : Hid (RdF wo a2 L) := HY.out.below HB.out
      go_wp2
      go_loopw [7, 18] (fun s j wi => ∃ (jn : Nat) (sb : Nat), jn ≤ xs.length ∧ j = .int .i64 jn ∧ s = .float .f32 sb ∧ Hid (ab .f32 sb = dot (decF xs k) jn) ∧ Quiet wo wi) (fun _ j _ => xs.length - (intOf j).toNat)
      case atStart => exact ⟨0, 0, Nat.zero_le _, rfl, rfl, ab_zero, Quiet.refl _⟩
      case round =>
        obtain ⟨jn, sb, hj, rfl, rfl, hs, ⟨q, rfl⟩⟩ := hrel
        by_cases hjlt : jn < xs.length
        · obtain ⟨b, off, rfl, hc⟩ := HX.out jn hjlt
          have hc' := hc
          rw [← HB.out.cell (by exact block_lt_of_cell hc)] at hc'
          clear hc
          obtain ⟨x, hx⟩ : ∃ x, x = xs.getD jn 0 := ⟨_, rfl⟩
          rw [← hx] at hc'
          have HX0 := Lib.hid hx; clear hx
          have HJ : Hid (jn < L.length) := by show _; rw [HLL.out]; exact hjlt
          have HK : Hid (k < L.length) := by show _; rw [HLL.out]; exact hlt
          have HM : Hid (0 < L.length ∧ L.length ≤ 64) := by show _; rw [HLL.out]; exact ⟨hm, hl⟩
          go_wp2_with (go_at_call 110; refine (dec1_any L a2 c2 g1 g2 jn k (wo.drewN q) hgc1.out hgc2.out hyo.out HM.out.2 HM.out.1 HJ.out HK.out).mono ?_; rintro e w' ⟨y, rfl, hy, n, rfl⟩; have HY1 := Lib.hid hy; clear hy)
          go_roundw
          case rel =>
            refine ⟨jn + 1, _, by omega, by go_num, rfl, ?_, _, rfl⟩
            show ab .f32 _ = _
            rw [ab_fres, ab_fres, hs.out, HX0.out, HY1.out, HL0.out, legL_length]
            rfl
          case measure => simp [intOf]; omega
        · have e : jn = xs.length := by omega
          rw [e] at hs
          clear e
          have hsz := HB.out.size
          obtain ⟨outs, ho1, ho2⟩ := hown.out
          have hlen : outs.length = k := by have := congrArg List.length ho2; simpa [rows] using this
          have hO : Hid (OwnF (wo.drewN q) w.heap.size u5 outs) := ho1
          have HL := Lib.hid hlen
          have H2 := Lib.hid ho2
          clear ho1 ho2 hown hlen
          go_wp2_with (at_builtin; refine appendF (w0 := wo.drewN q) rfl (.tmp 32) (.tmp 34) ?h3 w.heap.size u5 outs sb ?h4 hO.out ?h5 ?c1 hsz ?_; (case h3 => rfl); (case h4 => rfl); (case h5 => rfl); (case c1 => (rw [HL.out]; omega)); intro v' w1 hO' hG; have HO := Lib.hid hO'; have HG3 := Lib.hid hG; clear hO' hG)
          go_roundw
          case rel =>
            refine ⟨k + 1, by omega, by go_num, ?_, ⟨outs ++ [sb], HO.out, ?_⟩⟩
            · exact (HB.out.trans ⟨rfl, rfl, rfl, Nat.le_refl _, fun _ _ => rfl⟩ : Below w.heap.size w (wo.drewN q)).grown HG3.out hsz (fun j hj => (hO.out.ltOf j hj).1)
            · rw [List.map_append, H2.out, rows_succ, ← hs.out]; rfl
          case measure => simp [intOf]; omega
    · have e : k = xs.length := by omega
      have HB := Lib.hid hbl; clear hbl
      rw [e] at hown
      clear e
      go_wp2
      go_ret
      obtain ⟨outs, h1, h2⟩ := hown.out
      exact ⟨_, outs, rfl, h1, h2, HB.out⟩

theorem quoV_append (c : Nat) (l : List FV) (x : FV) : quoV c (l ++ [x]) = quoV c l ++ [arith .quo .f32 x (some c)] := by simp [quoV]
/-- half of the length and one, as a number -/
def hcst (n : Nat) : Nat := cst ((n + 1) / 2)
theorem hcst_read {n : Nat} (h : isP n = true) : ∃ k j, Ieee.single.read (hcst n) = .number false k j ∧ 2 ^ 23 ≤ k ∧ k.log2 = 23 ∧ -22 ≤ j := by
  simp only [isP, Bool.or_eq_true, beq_iff_eq] at h
  rcases h with ((((h | h) | h) | h) | h) | h <;> subst h
  · exact ⟨2 ^ 23, -22, by decide, by decide, by decide, by decide⟩
  · exact ⟨2 ^ 23, -21, by decide, by decide, by decide, by decide⟩
  · exact ⟨12582912, -21, by decide, by decide, by decide, by decide⟩
  · exact ⟨10485760, -20, by decide, by decide, by decide, by decide⟩
  · exact ⟨12582912, -20, by decide, by decide, by decide, by decide⟩
  · exact ⟨2 ^ 23, -19, by decide, by decide, by decide, by decide⟩
theorem hquo_fin {n : Nat} (h : isP n = true) (x : FV) : fin (arith .quo .f32 x (some (hcst n))) = fin x := by
  obtain ⟨k, j, h1, h2, h3, h4⟩ := hcst_read h
  exact fin_quo h1 h2 h3 h4
theorem hquoV_fin {n : Nat} (h : isP n = true) (l : List FV) : (quoV (hcst n) l).all fin = l.all fin := by
  unfold quoV
  rw [List.all_map]
  congr 1
  funext x
  exact hquo_fin h x

def decIn (xs : List Nat) : Int × List FV := if (rows (decF xs) xs.length xs.length).all fin then (0, quoV (hcst xs.length) (rows (decF xs) xs.length xs.length)) else (3, [])
def decRes (xs : List Nat) : Int × List FV := if allNum xs then (if isP xs.length then decIn xs else (2, [])) else (1, [])
theorem decRes_length (xs : List Nat) : (decRes xs).2.length ≤ 64 := by
  unfold decRes
  split
  · split
    · rename_i h
      have := (isP_le h).2
      unfold decIn
      split
      · simp [rows, quoV]; omega
      · simp
    · simp
  · simp
theorem decIn_told {xs : List Nat} (h : isP xs.length = true) : decIn xs = toldV (quoV (hcst xs.length) (rows (decF xs) xs.length xs.length)) := by
  unfold decIn toldV
  rw [hquoV_fin h]


set_option maxHeartbeats 1000000 in
theorem signedDec_any (xs : List Nat) (a : Option Addr) (c : Nat) (w : World) (hx : RdF w a xs) (hl : xs.length ≤ 4611686018427387903) :
    Calls Try.prog 60 #[.slice a xs.length c] w (ListPost (decRes xs) w) := by
  have HX := Lib.hid hx; clear hx
  have hl' : xs.length ≤ 9223372036854775807 := by omega
  cases hna : allNum xs with
  | false =>
    have R : Hid (decRes xs = (1, [])) := by show _ = _; simp [decRes, hna]
    go_enter Try.func60, Try.ntmps60
    go_wp2_with fail
    refine (listCode_isLegendre xs a c w HX.out hl').mono ?_
    rintro e w1 ⟨rfl, hb⟩
    have HB := Lib.hid hb; clear hb
    rw [hna]
    simp only [lcode, Bool.false_eq_true, if_false]
    go_wp2
    go_ret2
    exact ListPost.errB R.out HB.out
  | true =>
    cases hd : isP xs.length with
    | false =>
      have R : Hid (decRes xs = (2, [])) := by show _ = _; simp [decRes, hna, hd]
      go_enter Try.func60, Try.ntmps60
      go_wp2_with fail
      refine (listCode_isLegendre xs a c w HX.out hl').mono ?_
      rintro e w1 ⟨rfl, hb⟩
      have HB := Lib.hid hb; clear hb
      rw [hna, hd]
      simp only [lcode, Bool.false_eq_true, if_false, if_true]
      go_wp2
      go_ret2
      exact ListPost.errB R.out HB.out
    | true =>
      have R : Hid (decRes xs = toldV (quoV (hcst xs.length) (rows (decF xs) xs.length xs.length))) := by show _ = _; rw [← decIn_told hd]; unfold decRes; rw [hna, hd]; rfl
      have HP := Lib.hid hd
      obtain ⟨hp, hp2⟩ := isP_le hd
      have hp3 : xs.length ≤ 64 := by omega
      go_enter Try.func60, Try.ntmps60
      go_wp2_with fail
      refine (listCode_isLegendre xs a c w HX.out hl').mono ?_
      rintro e w1 ⟨rfl, hb⟩
      rw [hna, hd]
      simp only [lcode, if_true]
      clear hna hd
      have HB0 := Lib.hid hb
      have hbn := hb.alloc hb.size (.cells #[.int .i64 xs.length] 2)
      have hnew : (w1.alloc (.cells #[.int .i64 xs.length] 2)).cell? ⟨w1.heap.size, 0, none⟩ = some (.int .i64 xs.length) := by rw [World.cell?_alloc_new]; rfl
      have HB := Lib.hid hbn
      have HN := Lib.hid hnew
      have hsz : (w1.alloc (.cells #[.int .i64 xs.length] 2)).heap.size = w1.heap.size + 1 := by simp
      clear hb hbn hnew
      go_wp2_with fail
      refine (legendre_any xs.length hp hp3 (w1.alloc (.cells #[.int .i64 xs.length] 2))).mono ?_
      rintro e w2 ⟨rfl, ho, hb2⟩
      have hrd := ho.rd.2
      have hs2 := hb2.size
      rw [hsz] at ho hrd hb2 hs2 ⊢
      have hbv := hb2.alloc hs2 (.cells #[.slice (some ⟨w1.heap.size + 1, 0, none⟩) xs.length xs.length] 22)
      have hc1 : (w2.alloc (.cells #[.slice (some ⟨w1.heap.size + 1, 0, none⟩) xs.length xs.length] 22)).cell? ⟨w2.heap.size, 0, none⟩ = some (.slice (some ⟨w1.heap.size + 1, 0, none⟩) xs.length xs.length) := by rw [World.cell?_alloc_new]; rfl
      have hc2 : (w2.alloc (.cells #[.slice (some ⟨w1.heap.size + 1, 0, none⟩) xs.length xs.length] 22)).cell? ⟨w1.heap.size, 0, none⟩ = some (.int .i64 xs.length) := by
        rw [hbv.cell (by show w1.heap.size < w1.heap.size + 1; omega)]; exact HN.out
      have hrv := hrd.below ((Below.refl w2.heap.size w2).alloc (Nat.le_refl _) (.cells #[.slice (some ⟨w1.heap.size + 1, 0, none⟩) xs.length xs.length] 22))
      have hbw := HB.out.trans (hbv.mono (by have := HB0.out.size; omega))
      have HC1 := Lib.hid hc1
      have HC2 := Lib.hid hc2
      have HRV := Lib.hid hrv
      have HBW := Lib.hid hbw
      clear ho hrd hs2 hb2 hbv hc1 hc2 hrv hbw hsz HB HN HB0
      go_wp2_with fail
      refine (sumsWith_dec xs a (some ⟨w1.heap.size + 1, 0, none⟩) c xs.length w2.heap.size w1.heap.size (w2.alloc (.cells #[.slice (some ⟨w1.heap.size + 1, 0, none⟩) xs.length xs.length] 22)) (HX.out.below HBW.out) HC1.out HC2.out HRV.out hp3 hp).mono ?_
      rintro e w4 ⟨v, outs, rfl, h1, h2, h3⟩
      have hown4 := h1
      replace h1 := h1.mono HBW.out.size
      obtain ⟨Lv, hLv⟩ : ∃ L, L = rows (decF xs) xs.length xs.length := ⟨_, rfl⟩
      have hLl : Lv.length = xs.length := by rw [hLv, rows_length]
      rw [← hLv] at h2 R
      have hol : outs.length = xs.length := by have := congrArg List.length h2; rw [List.length_map] at this; omega
      obtain ⟨g, cap, rfl⟩ : ∃ g cap, v = .slice (some ⟨g, 0, none⟩) outs.length cap := by
        rcases h1.own with ⟨_, h⟩ | ⟨g, cap, h, _⟩
        · rw [h] at hol; simp at hol; omega
        · exact ⟨g, cap, h⟩
      rw [hol] at h1 ⊢
      have HO := Lib.hid h1
      have HOM := Lib.hid h2
      have HOL := Lib.hid hol
      have HB := Lib.hid (HBW.out.trans (h3.mono HBW.out.size))
      obtain ⟨cc, hcc⟩ : ∃ cc, cc = hcst xs.length := ⟨_, rfl⟩
      rw [← hcc] at R
      have HCC : Hid (cc = floatOfInt .f32 ((((xs.length + 1) / 2 : Nat) : Int))) := hcc
      obtain ⟨hp1, hhp1⟩ : ∃ h : Nat, h = (xs.length + 1) / 2 := ⟨_, rfl⟩
      have hdv : ((xs.length : Int) + 1) / 2 = hp1 := by rw [hhp1]; omega
      have hdl : hp1 ≤ 64 := by omega
      rw [← hhp1] at HCC
      have hc2' : Hid (w4.cell? ⟨w1.heap.size, 0, none⟩ = some (.int .i64 xs.length)) := by
        show _ = _
        rw [h3.cell (by exact block_lt_of_cell HC2.out)]; exact HC2.out
      have hsb : Hid (w1.heap.size < w4.heap.size) := block_lt_of_cell hc2'.out
      have hgo : Hid (g ≠ w1.heap.size) := by
        have := (hown4.ltOf g rfl).1
        have h5 := block_lt_of_cell HC2.out
        show _ ≠ _
        intro e
        simp only at h5
        omega
      clear h1 h2 h3 hol hLv hcc hhp1 HC1 HC2 HRV hown4
      go_wp2
      go_loopw [8, 23] (fun _ i wr => ∃ k : Nat, k ≤ xs.length ∧ i = .int .i64 k ∧ Below w.heap.size w wr ∧ Hid (wr.cell? ⟨w1.heap.size, 0, none⟩ = some (.int .i64 xs.length)) ∧ Hid (∃ cur, cur.length = xs.length ∧ OwnF wr w.heap.size (.slice (some ⟨g, 0, none⟩) xs.length cap) cur ∧ cur.map (ab .f32) = quoV cc (Lv.take k) ++ Lv.drop k)) (fun _ i _ => xs.length - (intOf i).toNat)
      case atStart => exact ⟨0, Nat.zero_le _, rfl, HB.out, hc2', ⟨outs, HOL.out, HO.out, by rw [HOM.out]; simp [quoV]⟩⟩
      case round =>
        clear HO HB
        obtain ⟨k, hk, rfl, hbl, hcp, hcur⟩ := hrel
        by_cases hlt : k < xs.length
        · have HB := Lib.hid hbl; clear hbl
          obtain ⟨cur, hcl, hco, hcm⟩ := hcur.out
          have c1 := hco.at k (by omega)
          have f1 := hco.fz k
          obtain ⟨x, hx⟩ : ∃ x, x = cur.getD k 0 := ⟨_, rfl⟩
          rw [← hx] at c1
          have HX2 := Lib.hid hx
          have HCL := Lib.hid hcl
          have HCO := Lib.hid hco
          have HCM := Lib.hid hcm
          have c2 := hcp.out
          clear hx hcl hco hcm hcur
          go_wp2
          go_region
          all_goals
            go_wp2
            go_roundw
            case rel =>
              refine ⟨k + 1, by omega, by go_num, (below_drewN' HB.out _).setCell (HCO.out.ltOf g rfl).1 _, ?_, ?_⟩
              · show _ = _
                rw [World.cell?_setCell_far _ _ _ _ (by exact hgo.out)]
                exact c2
              · refine ⟨cur.set k _, by rw [List.length_set]; exact HCL.out, (HCO.out.drew _).set HCL.out.symm k _, ?_⟩
                refine quo_set cur cc k _ Lv (by rw [HCL.out]; exact hlt) HCM.out (by omega) ?_
                rw [ab_fres, ab_int, HX2.out, HCC.out]
            case measure => simp [intOf]; omega
        · have ek : k = xs.length := by omega
          have HB := Lib.hid hbl; clear hbl
          have HK := Lib.hid ek
          clear ek
          obtain ⟨cur, h1, h2, h3⟩ := hcur.out
          have e3 : cur.map (ab .f32) = quoV cc Lv := by rw [h3, HK.out, ← hLl]; simp
          have hrd := h2.rd.2
          have HCU := Lib.hid h2
          have HC3 := Lib.hid e3
          have HCL := Lib.hid h1
          have HRD := Lib.hid hrd
          have hlo : cur.length ≤ 9223372036854775807 := by omega
          clear h1 h2 h3 e3 hrd hcur hcp
          go_wp2_with fail
          rw [← HCL.out]
          refine (finite_any cur (some ⟨g, 0, none⟩) cap wr HRD.out hlo).mono ?_
          rintro e w5 ⟨rfl, n3, rfl⟩
          cases hf : allNum cur with
          | true =>
            have R2 : Hid (decRes xs = (0, cur.map (ab .f32))) := by show _ = _; rw [R.out, ← HC3.out]; unfold toldV; rw [← allNum_fin, hf]; rfl
            simp only [if_true]
            go_wp2
            go_ret2
            exact ⟨_, cur, by rw [R2.out]; rfl, by rw [HCL.out]; exact HCU.out, by rw [R2.out], below_drewN' HB.out _⟩
          | false =>
            have R2 : Hid (decRes xs = (3, [])) := by show _ = _; rw [R.out, ← HC3.out]; unfold toldV; rw [← allNum_fin, hf]; rfl
            simp only [Bool.false_eq_true, if_false]
            go_wp2
            go_ret2
            exact ⟨_, [], by rw [R2.out]; rfl, OwnF.nil _ _, by rw [R2.out]; rfl, below_drewN' HB.out _⟩

set_option maxHeartbeats 1000000 in
theorem l10RawDec_any (xs : List Nat) (a : Option Addr) (c : Nat) (w : World) (hx : RdF w a xs) (hl : xs.length ≤ 4611686018427387903) :
    Calls Try.prog 59 #[.slice a xs.length c] w (ListPost (decRes xs) w) := by
  have HX := Lib.hid hx; clear hx
  have hl' : xs.length ≤ 9223372036854775807 := by omega
  cases hna : allNum xs with
  | false =>
    have R : Hid (decRes xs = (1, [])) := by show _ = _; simp [decRes, hna]
    go_enter Try.func59, Try.ntmps59
    go_wp2_with fail
    refine (l10Code_any xs a c w HX.out hl').mono ?_
    rintro e w1 ⟨rfl, n1, rfl⟩
    rw [hna]
    simp only [lcode, Bool.false_eq_true, if_false]
    go_wp2
    go_ret2
    exact ListPost.err R.out
  | true =>
    cases hd : isP xs.length with
    | false =>
      have R : Hid (decRes xs = (2, [])) := by show _ = _; simp [decRes, hna, hd]
      go_enter Try.func59, Try.ntmps59
      go_wp2_with fail
      refine (l10Code_any xs a c w HX.out hl').mono ?_
      rintro e w1 ⟨rfl, n1, rfl⟩
      rw [hna, hd]
      simp only [lcode, Bool.false_eq_true, if_false, if_true]
      go_wp2
      go_ret2
      exact ListPost.err R.out
    | true =>
      have RI : Hid (decRes xs = decIn xs) := by show _ = _; unfold decRes; rw [hna, hd]; rfl
      have HP := Lib.hid hd
      obtain ⟨hp, hp2⟩ := isP_le hd
      have hp3 : xs.length ≤ 64 := by omega
      have h0 : ¬ ((xs.length : Int) = 0) := by omega
      go_enter Try.func59, Try.ntmps59
      go_wp2_with fail
      refine (l10Code_any xs a c w HX.out hl').mono ?_
      rintro e w1 ⟨rfl, n1, rfl⟩
      rw [hna, hd]
      simp only [lcode, if_true]
      clear hna hd
      have hb0 := (below_drewN' (Below.refl w.heap.size w) n1).alloc (Nat.le_refl _) (.cells #[] 28)
      have ho0 := OwnF.made (w.drewN n1)
      have HB0 := Lib.hid hb0
      have HO0 := Lib.hid ho0
      have hsz : ((w.drewN n1).alloc (.cells #[] 28)).heap.size = w.heap.size + 1 := by simp
      clear hb0 ho0
      go_wp2_with fail
      refine (l10Legendre_any xs.length HP.out ((w.drewN n1).alloc (.cells #[] 28))).mono ?_
      rintro e w2 ⟨v2, rfl, ho, hb2⟩
      have hll : (legL xs.length).length = xs.length := legL_length _
      obtain ⟨L, hL⟩ : ∃ L, L = legL xs.length := ⟨_, rfl⟩
      rw [← hL] at ho hll
      obtain ⟨a2, c2, rfl⟩ := ho.slice
      have hrd := ho.rd.2
      rw [hll] at ho ⊢
      have HL0 := Lib.hid hL
      have HRD := Lib.hid hrd
      have hbb := HB0.out.trans (hb2.mono (by rw [hsz]; omega))
      have HBB := Lib.hid hbb
      have HO1 := Lib.hid (HO0.out.grownBelow hb2)
      have hap : ∀ k, (Value.slice a2 xs.length c2).ownBlock = some k → (Value.slice (some ⟨w.heap.size, 0, none⟩) 0 0).ownBlock ≠ some k := by
        intro k hk e
        have h1 := (ho.ltOf k hk).1
        rw [hsz] at h1
        simp [Value.ownBlock] at e
        omega
      have HOL := Lib.hid (ho.mono (by rw [hsz]; omega : w.heap.size ≤ ((w.drewN n1).alloc (.cells #[] 28)).heap.size))
      have HAP := Lib.hid hap
      obtain ⟨hp1, hhp1⟩ : ∃ h : Nat, h = (xs.length + 1) / 2 := ⟨_, rfl⟩
      have hdv : ((xs.length : Int) + 1) / 2 = hp1 := by rw [hhp1]; omega
      have hdl : hp1 ≤ 64 := by omega
      have HCC : Hid (hcst xs.length = floatOfInt .f32 (hp1 : Int)) := by show _ = _; rw [hhp1]; rfl
      clear hhp1
      clear hap hL ho hb2 hrd hbb HB0 HO0 hsz HRD
      go_wp2
      go_loopw [6, 8] (fun v i wr => ∃ k : Nat, k ≤ xs.length ∧ i = .int .i64 k ∧ Below w.heap.size w wr ∧ Hid (∃ outs, OwnF wr w.heap.size v outs ∧ outs.map (ab .f32) = quoV (hcst xs.length) (rows (decF xs) xs.length k)) ∧ Hid (∀ k', k' < k → fin (dot (decF xs k') xs.length) = true) ∧ Hid (OwnF wr w.heap.size (.slice a2 xs.length c2) L) ∧ Hid (∀ k, (Value.slice a2 xs.length c2).ownBlock = some k → v.ownBlock ≠ some k)) (fun _ i _ => xs.length - (intOf i).toNat)
      case atStart => exact ⟨0, Nat.zero_le _, rfl, HBB.out, ⟨[], HO1.out, rfl⟩, (fun k' h => by omega), HOL.out, HAP.out⟩
      case round =>
        clear HOL HAP HO1 HBB
        obtain ⟨k, hk, rfl, hbl, hown, hall, hol, hap⟩ := hrel
        by_cases hlt : k < xs.length
        · have HB := Lib.hid hbl; clear hbl
          obtain ⟨wo, hwo⟩ : ∃ wo : World, wo = wr := ⟨_, rfl⟩
          subst hwo
          have hyo : Hid (RdF wo a2 L) := hol.out.rd.2
          go_wp2
          go_loopw [9, 10] (fun s j wi => ∃ (jn : Nat) (sb : Nat), jn ≤ xs.length ∧ j = .int .i64 jn ∧ s = .float .f32 sb ∧ Hid (ab .f32 sb = dot (decF xs k) jn) ∧ Hid (fin (dot (decF xs k) jn) = true) ∧ Quiet wo wi) (fun _ j _ => xs.length - (intOf j).toNat)
          case atStart => exact ⟨0, 0, Nat.zero_le _, rfl, rfl, ab_zero, by show fin (some 0) = true; decide, Quiet.refl _⟩
          case round =>
            obtain ⟨jn, sb, hj, rfl, rfl, hs, hf, ⟨q, rfl⟩⟩ := hrel
            by_cases hjlt : jn < xs.length
            · obtain ⟨b, off, rfl, hc⟩ := HX.out jn hjlt
              have hc' := hc
              rw [← HB.out.cell (by exact block_lt_of_cell hc)] at hc'
              clear hc
              obtain ⟨x, hx⟩ : ∃ x, x = xs.getD jn 0 := ⟨_, rfl⟩
              rw [← hx] at hc'
              have HX0 := Lib.hid hx; clear hx
              obtain ⟨i, hi⟩ : ∃ i, i = ix xs.length jn k := ⟨_, rfl⟩
              have hilt : i < L.length := by rw [hi, hll]; exact ix_lt _ _ _ hp
              have hilt2 : i < xs.length := by rw [hi]; exact ix_lt _ _ _ hp
              have hmod : ((jn : Int) - k + xs.length) % xs.length = i := by rw [hi]; exact ix_int2 _ _ _ (by omega)
              obtain ⟨b2, off2, rfl, hc2⟩ := hyo.out i hilt
              obtain ⟨y, hy⟩ : ∃ y, y = L.getD i 0 := ⟨_, rfl⟩
              rw [← hy] at hc2
              rw [hi, HL0.out] at hy
              have HY0 := Lib.hid hy; clear hy hi
              go_wp2
              go_region
              all_goals
                go_wp2_with fail
                refine (l01Fine_any _ _).mono ?_
                rintro e w' ⟨rfl, n, rfl⟩
                obtain ⟨s1, hs1⟩ : ∃ s1 : Nat, s1 = fres .add .f32 sb (fres .mul .f32 x y (wo.drewN (q + 1))) ((wo.drewN (q + 1)).drewN (nd .mul .f32 x y)) := ⟨_, rfl⟩
                simp only [World.drewN_drewN] at hs1
                rw [← hs1]
                have hdot : Hid (ab .f32 s1 = dot (decF xs k) (jn + 1)) := by
                  show _ = _
                  rw [hs1, ab_fres, ab_fres, hs.out, HX0.out, HY0.out]; rfl
                clear hs1
                cases hn : isNum s1 with
                | true =>
                  go_wp2
                  go_roundw
                  case rel => exact ⟨jn + 1, s1, by omega, by go_num, rfl, hdot, by show fin _ = true; rw [← hdot.out]; exact hn, _, rfl⟩
                  case measure => simp [intOf]; omega
                | false =>
                  have R : Hid (decIn xs = (3, [])) := by
                    show _ = _
                    unfold decIn
                    rw [if_neg]
                    intro h
                    have h1 := (range_all_fin _ _).1 h k hlt
                    have h2 := dot_fin h1 (jn + 1) (by omega)
                    rw [← hdot.out] at h2
                    have h3 : fin (ab .f32 s1) = false := hn
                    rw [h3] at h2; cases h2
                  go_wp2
                  go_ret2
                  exact ⟨_, [], by rw [RI.out, R.out]; rfl, OwnF.nil _ _, by rw [RI.out, R.out]; rfl, below_drewN' HB.out _⟩
            · have e : jn = xs.length := by omega
              rw [e] at hs hf
              clear e
              have hsz := HB.out.size
              obtain ⟨outs, ho1, ho2⟩ := hown.out
              have hlen : outs.length = k := by have := congrArg List.length ho2; simpa [rows, quoV] using this
              have hO : Hid (OwnF (wo.drewN q) w.heap.size u6 outs) := ho1
              have HL := Lib.hid hlen
              have H2 := Lib.hid ho2
              clear ho1 ho2 hown hlen hll
              go_wp2_with (at_builtin; refine appendFs (w0 := wo.drewN (q + nd .quo .f32 sb (floatOfInt .f32 hp1))) rfl (.tmp 51) (.tmp 58) ?h3 w.heap.size u6 outs _ ?h4 hO.out ?h5 ?c1 hsz ?_; (case h3 => rfl); (case h4 => rfl); (case h5 => rfl); (case c1 => (rw [HL.out]; omega)); intro v' w1 hO' hG hN'; have HO := Lib.hid hO'; have HG3 := Lib.hid hG; have HN := Lib.hid hN'; clear hO' hG hN')
              go_roundw
              case rel =>
                refine ⟨k + 1, by omega, by go_num, ?_, ⟨outs ++ [_], HO.out, ?_⟩, ?_, ?_, ?_⟩
                · exact (below_drewN' HB.out _).grown HG3.out hsz (fun j hj => (hO.out.ltOf j hj).1)
                · rw [List.map_append, H2.out, rows_succ, quoV_append, ← hs.out, HCC.out, List.map_singleton, ab_fres, ab_int]
                · intro k' hk'
                  by_cases e : k' = k
                  · rw [e]; exact hf.out
                  · exact hall.out k' (by omega)
                · exact (hol.out.drew _).keptUp HG3.out hap.out
                · intro k' hk'
                  rcases HN.out with e | ⟨k2, e, hk2⟩
                  · rw [e]; exact hap.out k' hk'
                  · rw [e]
                    have := (hol.out.ltOf k' hk').2
                    intro e2
                    cases e2
                    have hk3 : wo.heap.size ≤ k' := hk2
                    omega
              case measure => simp [intOf]; omega
        · have e : k = xs.length := by omega
          have HB := Lib.hid hbl; clear hbl
          rw [e] at hown hall
          clear e
          have R : Hid (decIn xs = (0, quoV (hcst xs.length) (rows (decF xs) xs.length xs.length))) := by
            show _ = _
            unfold decIn
            exact if_pos ((range_all_fin _ _).2 hall.out)
          go_wp2
          go_ret2
          obtain ⟨outs, h1, h2⟩ := hown.out
          exact ⟨_, outs, by rw [RI.out, R.out]; rfl, h1, by rw [RI.out, R.out]; exact h2, HB.out⟩
end Go.Proofs.Ytphbjfijipcpnaa

