/- ShadowOf: the walks. -/
import Derived.Test.YtphbjfijipcpnaaLeg
import Derived.Test.YtphbjfijipcpnaaApp
import Derived.Test.YtphbjfijipcpnaaBack
namespace Go.Proofs.Ytphbjfijipcpnaa
open Go.RowKit
set_option linter.unusedVariables false

/-- the place (a - b) modulo p -/
def ix (p a b : Nat) : Nat := (a + p - b) % p
theorem ix_int (p a b : Nat) (hb : b ≤ p) : ((a : Int) - b + p).tmod p = ix p a b := by
  have e : (a : Int) - b + p = ((a + p - b : Nat) : Int) := by omega
  rw [e]; rfl
theorem ix_int2 (p a b : Nat) (hb : b ≤ p) : ((a : Int) - b + p) % p = ix p a b := by
  have e : (a : Int) - b + p = ((a + p - b : Nat) : Int) := by omega
  rw [e]; rfl
theorem ix_lt (p a b : Nat) (hp : 0 < p) : ix p a b < p := Nat.mod_lt _ hp

def rows (F : Nat → Nat → FV) (n m : Nat) : List FV := (List.range m).map fun k => dot (F k) n
theorem rows_succ (F : Nat → Nat → FV) (n m : Nat) : rows F n (m + 1) = rows F n m ++ [dot (F m) n] := by simp [rows, List.range_succ]
theorem rows_length (F : Nat → Nat → FV) (n m : Nat) : (rows F n m).length = m := by simp [rows]

def shaF (xs : List Nat) (k j : Nat) : FV := arith .mul .f32 (ab .f32 (xs.getD j 0)) (maxV .f32 (ab .f32 ((legL xs.length).getD (ix xs.length k j) 0)) (some 0))

set_option maxHeartbeats 1000000 in
theorem sha1_any (L : List Nat) (a : Option Addr) (c g1 g2 : Nat) (j k : Nat) (w : World) (hb1 : w.cell? ⟨g1, 0, none⟩ = some (.slice a L.length c)) (hb2 : w.cell? ⟨g2, 0, none⟩ = some (.int .i64 L.length)) (hrd : RdF w a L)
    (hl : L.length ≤ 64) (hm : 0 < L.length) (hj : j < L.length) (hk : k < L.length) :
    Calls Try.prog 108 #[.int .i64 j, .int .i64 k, .pointer (some ⟨g1, 0, none⟩), .pointer (some ⟨g2, 0, none⟩)] w fun e w' => ∃ y, e = .returned (.float .f32 y) ∧ ab .f32 y = maxV .f32 (ab .f32 (L.getD (ix L.length k j) 0)) (some 0) ∧ Quiet w w' := by
  obtain ⟨i, hi⟩ : ∃ i, i = ix L.length k j := ⟨_, rfl⟩
  have hlt : i < L.length := by rw [hi]; exact ix_lt _ _ _ hm
  have hmod : ((k : Int) - j + L.length).tmod L.length = i := by rw [hi]; exact ix_int _ _ _ (by omega)
  rw [← hi]
  clear hi
  obtain ⟨b, off, rfl, hc⟩ := hrd _ hlt
  obtain ⟨x, hx⟩ : ∃ x, x = L.getD i 0 := ⟨_, rfl⟩
  rw [← hx] at hc ⊢
  clear hx hrd
  have hx1 : -(L.length : Int) < (k : Int) - j := by omega
  have hx2 : (k : Int) - j < L.length := by omega
  have hwr : IntKind.i64.wrap ((k : Int) - j) = (k : Int) - j := IntWalk.i64_in _ ⟨by omega, by omega⟩
  go_enter Try.func108, Try.ntmps108
  go_wp2

  go_region_with ((go_at_call 109; (try rw [hwr]); refine (modulo_any ((k : Int) - j) L.length i _ hm hl hx1 hx2 hmod).mono ?_; rintro e w' ⟨rfl, rfl⟩))
  all_goals go_wp2
  all_goals go_ret
  all_goals refine ⟨_, rfl, ?_, _, rfl⟩
  all_goals rw [ab_mres]
  all_goals rw [ab_zero]

set_option maxHeartbeats 1000000 in
theorem sumsWith_sha (xs : List Nat) (a a2 : Option Addr) (c c2 g1 g2 : Nat) (w : World) (hx : RdF w a xs) (hb1 : w.cell? ⟨g1, 0, none⟩ = some (.slice a2 xs.length c2)) (hb2 : w.cell? ⟨g2, 0, none⟩ = some (.int .i64 xs.length)) (hy : RdF w a2 (legL xs.length))
    (hl : xs.length ≤ 64) (hm : 0 < xs.length) :
    Calls Try.prog 107 #[.slice a xs.length c, .func (.func 108) #[] #[.pointer (some ⟨g1, 0, none⟩), .pointer (some ⟨g2, 0, none⟩)]] w fun e w' => ∃ v outs, e = .returned v ∧ OwnF w' w.heap.size v outs ∧
      outs.map (ab .f32) = rows (shaF xs) xs.length xs.length ∧ Below w.heap.size w w' := by
  have HX := Lib.hid hx; clear hx
  have HY := Lib.hid hy; clear hy
  have HG1 := Lib.hid hb1; clear hb1
  have HG2 := Lib.hid hb2; clear hb2
  have hll : (legL xs.length).length = xs.length := legL_length _
  obtain ⟨L, hL⟩ : ∃ L, L = legL xs.length := ⟨_, rfl⟩
  rw [← hL] at HY hll
  have HL0 := Lib.hid hL; clear hL
  have HLL := Lib.hid hll; clear hll
  go_enter Try.func107, Try.ntmps107
  go_wp2
  go_loopw [5, 13] (fun v i wr => ∃ k : Nat, k ≤ xs.length ∧ i = .int .i64 k ∧ Below w.heap.size w wr ∧ Hid (∃ outs, OwnF wr w.heap.size v outs ∧ outs.map (ab .f32) = rows (shaF xs) xs.length k)) (fun _ i _ => xs.length - (intOf i).toNat)
  case atStart => exact ⟨0, Nat.zero_le _, rfl, (Below.refl _ _).alloc (Nat.le_refl _) _, ⟨[], OwnF.made w, rfl⟩⟩
  case round =>
    obtain ⟨k, hk, rfl, hbl, hown⟩ := hrel
    by_cases hlt : k < xs.length
    · have HB := Lib.hid hbl; clear hbl
      obtain ⟨wo, hwo⟩ : ∃ wo : World, wo = wr := ⟨_, rfl⟩
      subst hwo
      have hgc1 : Hid (wo.cell? ⟨g1, 0, none⟩ = some (.slice a2 L.length c2)) := by
        show _ = _
        rw [HB.out.cell (by exact block_lt_of_cell HG1.out), HLL.out]; exact HG1.out
      have hgc2 : Hid (wo.cell? ⟨g2, 0, none⟩ = some (.int .i64 L.length)) := by
        show _ = _
        rw [HB.out.cell (by exact block_lt_of_cell HG2.out), HLL.out]; exact HG2.out
      have hyo : Hid (RdF wo a2 L) := HY.out.below HB.out
      go_wp2
      go_loopw [7, 18] (fun s j wi => ∃ (jn : Nat) (sb : Nat), jn ≤ xs.length ∧ j = .int .i64 jn ∧ s = .float .f32 sb ∧ Hid (ab .f32 sb = dot (shaF xs k) jn) ∧ Quiet wo wi) (fun _ j _ => xs.length - (intOf j).toNat)
      case atStart => exact ⟨0, 0, Nat.zero_le _, rfl, rfl, ab_zero, Quiet.refl _⟩
      case round =>
        obtain ⟨jn, sb, hj, rfl, rfl, hs, ⟨q, rfl⟩⟩ := hrel
        by_cases hjlt : jn < xs.length
        · obtain ⟨b, off, rfl, hc⟩ := HX.out jn hjlt
          have hc' := hc
          rw [← HB.out.cell (by exact block_lt_of_cell hc)] at hc'
          clear hc
          obtain ⟨x, hx⟩ : ∃ x, x = xs.getD jn 0 := ⟨_, rfl⟩
          rw [← hx] at hc'
          have HX0 := Lib.hid hx; clear hx
          have HJ : Hid (jn < L.length) := by show _; rw [HLL.out]; exact hjlt
          have HK : Hid (k < L.length) := by show _; rw [HLL.out]; exact hlt
          have HM : Hid (0 < L.length ∧ L.length ≤ 64) := by show _; rw [HLL.out]; exact ⟨hm, hl⟩
          go_wp2_with (go_at_call 108; refine (sha1_any L a2 c2 g1 g2 jn k (wo.drewN q) hgc1.out hgc2.out hyo.out HM.out.2 HM.out.1 HJ.out HK.out).mono ?_; rintro e w' ⟨y, rfl, hy, n, rfl⟩; have HY1 := Lib.hid hy; clear hy)
          go_roundw
          case rel =>
            refine ⟨jn + 1, _, by omega, by go_num, rfl, ?_, _, rfl⟩
            show ab .f32 _ = _
            rw [ab_fres, ab_fres, hs.out, HX0.out, HY1.out, HL0.out, legL_length]
            rfl
          case measure => simp [intOf]; omega
        · have e : jn = xs.length := by omega
          rw [e] at hs
          clear e
          have hsz := HB.out.size
          obtain ⟨outs, ho1, ho2⟩ := hown.out
          have hlen : outs.length = k := by have := congrArg List.length ho2; simpa [rows] using this
          have hO : Hid (OwnF (wo.drewN q) w.heap.size u5 outs) := ho1
          have HL := Lib.hid hlen
          have H2 := Lib.hid ho2
          clear ho1 ho2 hown hlen
          go_wp2_with (at_builtin; refine appendF (w0 := wo.drewN q) rfl (.tmp 32) (.tmp 34) ?h3 w.heap.size u5 outs sb ?h4 hO.out ?h5 ?c1 hsz ?_; (case h3 => rfl); (case h4 => rfl); (case h5 => rfl); (case c1 => (rw [HL.out]; omega)); intro v' w1 hO' hG; have HO := Lib.hid hO'; have HG3 := Lib.hid hG; clear hO' hG)
          go_roundw
          case rel =>
            refine ⟨k + 1, by omega, by go_num, ?_, ⟨outs ++ [sb], HO.out, ?_⟩⟩
            · exact (HB.out.trans ⟨rfl, rfl, rfl, Nat.le_refl _, fun _ _ => rfl⟩ : Below w.heap.size w (wo.drewN q)).grown HG3.out hsz (fun j hj => (hO.out.ltOf j hj).1)
            · rw [List.map_append, H2.out, rows_succ, ← hs.out]; rfl
          case measure => simp [intOf]; omega
    · have e : k = xs.length := by omega
      have HB := Lib.hid hbl; clear hbl
      rw [e] at hown
      clear e
      go_wp2
      go_ret
      obtain ⟨outs, h1, h2⟩ := hown.out
      exact ⟨_, outs, rfl, h1, h2, HB.out⟩

def shaIn (xs : List Nat) : Int × List FV := if (rows (shaF xs) xs.length xs.length).all fin then (0, rows (shaF xs) xs.length xs.length) else (3, [])
def shaRes (xs : List Nat) : Int × List FV := if allNum xs then (if isP xs.length then shaIn xs else (2, [])) else (1, [])
theorem shaRes_length (xs : List Nat) : (shaRes xs).2.length ≤ 64 := by
  unfold shaRes
  split
  · split
    · rename_i h
      have := (isP_le h).2
      unfold shaIn
      split
      · simp [rows]; omega
      · simp
    · simp
  · simp
theorem shaIn_told {xs : List Nat} (h : isP xs.length = true) : shaIn xs = toldV (rows (shaF xs) xs.length xs.length) := by
  unfold shaIn toldV
  rfl

theorem ListPost.errB {r : Int × List FV} {w w' : World} {k : Int} (h : r = (k, [])) (hb : Below w.heap.size w w') : ListPost r w (.returned (.tuple #[.slice none 0 0, .int .i64 k])) w' :=
  ⟨.slice none 0 0, [], by rw [h], OwnF.nil _ _, by rw [h]; rfl, hb⟩

set_option maxHeartbeats 1000000 in
theorem signedSha_any (xs : List Nat) (a : Option Addr) (c : Nat) (w : World) (hx : RdF w a xs) (hl : xs.length ≤ 4611686018427387903) :
    Calls Try.prog 58 #[.slice a xs.length c] w (ListPost (shaRes xs) w) := by
  have HX := Lib.hid hx; clear hx
  have hl' : xs.length ≤ 9223372036854775807 := by omega
  cases hna : allNum xs with
  | false =>
    have R : Hid (shaRes xs = (1, [])) := by show _ = _; simp [shaRes, hna]
    go_enter Try.func58, Try.ntmps58
    go_wp2_with fail
    refine (listCode_isLegendre xs a c w HX.out hl').mono ?_
    rintro e w1 ⟨rfl, hb⟩
    have HB := Lib.hid hb; clear hb
    rw [hna]
    simp only [lcode, Bool.false_eq_true, if_false]
    go_wp2
    go_ret2
    exact ListPost.errB R.out HB.out
  | true =>
    cases hd : isP xs.length with
    | false =>
      have R : Hid (shaRes xs = (2, [])) := by show _ = _; simp [shaRes, hna, hd]
      go_enter Try.func58, Try.ntmps58
      go_wp2_with fail
      refine (listCode_isLegendre xs a c w HX.out hl').mono ?_
      rintro e w1 ⟨rfl, hb⟩
      have HB := Lib.hid hb; clear hb
      rw [hna, hd]
      simp only [lcode, Bool.false_eq_true, if_false, if_true]
      go_wp2
      go_ret2
      exact ListPost.errB R.out HB.out
    | true =>
      have R : Hid (shaRes xs = toldV (rows (shaF xs) xs.length xs.length)) := by show _ = _; rw [← shaIn_told hd]; unfold shaRes; rw [hna, hd]; rfl
      have HP := Lib.hid hd
      obtain ⟨hp, hp2⟩ := isP_le hd
      have hp3 : xs.length ≤ 64 := by omega
      go_enter Try.func58, Try.ntmps58
      go_wp2_with fail
      refine (listCode_isLegendre xs a c w HX.out hl').mono ?_
      rintro e w1 ⟨rfl, hb⟩
      rw [hna, hd]
      simp only [lcode, if_true]
      clear hna hd
      have HB0 := Lib.hid hb
      have hbn := hb.alloc hb.size (.cells #[.int .i64 xs.length] 2)
      have hnew : (w1.alloc (.cells #[.int .i64 xs.length] 2)).cell? ⟨w1.heap.size, 0, none⟩ = some (.int .i64 xs.length) := by rw [World.cell?_alloc_new]; rfl
      have HB := Lib.hid hbn
      have HN := Lib.hid hnew
      have hsz : (w1.alloc (.cells #[.int .i64 xs.length] 2)).heap.size = w1.heap.size + 1 := by simp
      clear hb hbn hnew
      go_wp2_with fail
      refine (legendre_any xs.length hp hp3 (w1.alloc (.cells #[.int .i64 xs.length] 2))).mono ?_
      rintro e w2 ⟨rfl, ho, hb2⟩
      have hrd := ho.rd.2
      have hs2 := hb2.size
      rw [hsz] at ho hrd hb2 hs2 ⊢
      have hbv := hb2.alloc hs2 (.cells #[.slice (some ⟨w1.heap.size + 1, 0, none⟩) xs.length xs.length] 22)
      have hc1 : (w2.alloc (.cells #[.slice (some ⟨w1.heap.size + 1, 0, none⟩) xs.length xs.length] 22)).cell? ⟨w2.heap.size, 0, none⟩ = some (.slice (some ⟨w1.heap.size + 1, 0, none⟩) xs.length xs.length) := by rw [World.cell?_alloc_new]; rfl
      have hc2 : (w2.alloc (.cells #[.slice (some ⟨w1.heap.size + 1, 0, none⟩) xs.length xs.length] 22)).cell? ⟨w1.heap.size, 0, none⟩ = some (.int .i64 xs.length) := by
        rw [hbv.cell (by show w1.heap.size < w1.heap.size + 1; omega)]; exact HN.out
      have hrv := hrd.below ((Below.refl w2.heap.size w2).alloc (Nat.le_refl _) (.cells #[.slice (some ⟨w1.heap.size + 1, 0, none⟩) xs.length xs.length] 22))
      have hbw := HB.out.trans (hbv.mono (by have := HB0.out.size; omega))
      have HC1 := Lib.hid hc1
      have HC2 := Lib.hid hc2
      have HRV := Lib.hid hrv
      have HBW := Lib.hid hbw
      clear ho hrd hs2 hb2 hbv hc1 hc2 hrv hbw hsz HB HN HB0
      go_wp2_with fail
      refine (sumsWith_sha xs a (some ⟨w1.heap.size + 1, 0, none⟩) c xs.length w2.heap.size w1.heap.size (w2.alloc (.cells #[.slice (some ⟨w1.heap.size + 1, 0, none⟩) xs.length xs.length] 22)) (HX.out.below HBW.out) HC1.out HC2.out HRV.out hp3 hp).mono ?_
      rintro e w4 ⟨v, outs, rfl, h1, h2, h3⟩
      have hown4 := h1
      replace h1 := h1.mono HBW.out.size
      obtain ⟨a3, c3, rfl⟩ := h1.slice
      have hlo : outs.length ≤ 9223372036854775807 := by have := h1.len; unfold maxLen at this; exact this
      have hrd := h1.rd.2
      have H1 := Lib.hid h1
      have H2 := Lib.hid h2
      have H3 := Lib.hid (HBW.out.trans (h3.mono HBW.out.size))
      have H4 := Lib.hid hrd
      clear h1 h2 h3 hrd
      go_wp2_with fail
      refine (finite_any outs a3 c3 w4 H4.out hlo).mono ?_
      rintro e w5 ⟨rfl, n3, rfl⟩
      cases hf : allNum outs with
      | true =>
        have R2 : Hid (shaRes xs = (0, outs.map (ab .f32))) := by show _ = _; rw [R.out, ← H2.out]; unfold toldV; rw [← allNum_fin, hf]; rfl
        simp only [if_true]
        go_wp2
        go_ret2
        exact ⟨_, outs, by rw [R2.out]; rfl, H1.out, by rw [R2.out], below_drewN' H3.out _⟩
      | false =>
        have R2 : Hid (shaRes xs = (3, [])) := by show _ = _; rw [R.out, ← H2.out]; unfold toldV; rw [← allNum_fin, hf]; rfl
        simp only [Bool.false_eq_true, if_false]
        go_wp2
        go_ret2
        exact ⟨_, [], by rw [R2.out]; rfl, OwnF.nil _ _, by rw [R2.out]; rfl, below_drewN' H3.out _⟩

set_option maxHeartbeats 1000000 in
theorem l10RawSha_any (xs : List Nat) (a : Option Addr) (c : Nat) (w : World) (hx : RdF w a xs) (hl : xs.length ≤ 4611686018427387903) :
    Calls Try.prog 57 #[.slice a xs.length c] w (ListPost (shaRes xs) w) := by
  have HX := Lib.hid hx; clear hx
  have hl' : xs.length ≤ 9223372036854775807 := by omega
  cases hna : allNum xs with
  | false =>
    have R : Hid (shaRes xs = (1, [])) := by show _ = _; simp [shaRes, hna]
    go_enter Try.func57, Try.ntmps57
    go_wp2_with fail
    refine (l10Code_any xs a c w HX.out hl').mono ?_
    rintro e w1 ⟨rfl, n1, rfl⟩
    rw [hna]
    simp only [lcode, Bool.false_eq_true, if_false]
    go_wp2
    go_ret2
    exact ListPost.err R.out
  | true =>
    cases hd : isP xs.length with
    | false =>
      have R : Hid (shaRes xs = (2, [])) := by show _ = _; simp [shaRes, hna, hd]
      go_enter Try.func57, Try.ntmps57
      go_wp2_with fail
      refine (l10Code_any xs a c w HX.out hl').mono ?_
      rintro e w1 ⟨rfl, n1, rfl⟩
      rw [hna, hd]
      simp only [lcode, Bool.false_eq_true, if_false, if_true]
      go_wp2
      go_ret2
      exact ListPost.err R.out
    | true =>
      have RI : Hid (shaRes xs = shaIn xs) := by show _ = _; unfold shaRes; rw [hna, hd]; rfl
      have HP := Lib.hid hd
      obtain ⟨hp, hp2⟩ := isP_le hd
      have hp3 : xs.length ≤ 64 := by omega
      have h0 : ¬ ((xs.length : Int) = 0) := by omega
      go_enter Try.func57, Try.ntmps57
      go_wp2_with fail
      refine (l10Code_any xs a c w HX.out hl').mono ?_
      rintro e w1 ⟨rfl, n1, rfl⟩
      rw [hna, hd]
      simp only [lcode, if_true]
      clear hna hd
      have hb0 := (below_drewN' (Below.refl w.heap.size w) n1).alloc (Nat.le_refl _) (.cells #[] 28)
      have ho0 := OwnF.made (w.drewN n1)
      have HB0 := Lib.hid hb0
      have HO0 := Lib.hid ho0
      have hsz : ((w.drewN n1).alloc (.cells #[] 28)).heap.size = w.heap.size + 1 := by simp
      clear hb0 ho0
      go_wp2_with fail
      refine (l10Legendre_any xs.length HP.out ((w.drewN n1).alloc (.cells #[] 28))).mono ?_
      rintro e w2 ⟨v2, rfl, ho, hb2⟩
      have hll : (legL xs.length).length = xs.length := legL_length _
      obtain ⟨L, hL⟩ : ∃ L, L = legL xs.length := ⟨_, rfl⟩
      rw [← hL] at ho hll
      obtain ⟨a2, c2, rfl⟩ := ho.slice
      have hrd := ho.rd.2
      rw [hll] at ho ⊢
      have HL0 := Lib.hid hL
      have HRD := Lib.hid hrd
      have hbb := HB0.out.trans (hb2.mono (by rw [hsz]; omega))
      have HBB := Lib.hid hbb
      have HO1 := Lib.hid (HO0.out.grownBelow hb2)
      have hap : ∀ k, (Value.slice a2 xs.length c2).ownBlock = some k → (Value.slice (some ⟨w.heap.size, 0, none⟩) 0 0).ownBlock ≠ some k := by
        intro k hk e
        have h1 := (ho.ltOf k hk).1
        rw [hsz] at h1
        simp [Value.ownBlock] at e
        omega
      have HOL := Lib.hid (ho.mono (by rw [hsz]; omega : w.heap.size ≤ ((w.drewN n1).alloc (.cells #[] 28)).heap.size))
      have HAP := Lib.hid hap
      clear hap hL ho hb2 hrd hbb HB0 HO0 hsz HRD
      go_wp2
      go_loopw [6, 8] (fun v i wr => ∃ k : Nat, k ≤ xs.length ∧ i = .int .i64 k ∧ Below w.heap.size w wr ∧ Hid (∃ outs, OwnF wr w.heap.size v outs ∧ outs.map (ab .f32) = rows (shaF xs) xs.length k) ∧ Hid (∀ k', k' < k → fin (dot (shaF xs k') xs.length) = true) ∧ Hid (OwnF wr w.heap.size (.slice a2 xs.length c2) L) ∧ Hid (∀ k, (Value.slice a2 xs.length c2).ownBlock = some k → v.ownBlock ≠ some k)) (fun _ i _ => xs.length - (intOf i).toNat)
      case atStart => exact ⟨0, Nat.zero_le _, rfl, HBB.out, ⟨[], HO1.out, rfl⟩, (fun k' h => by omega), HOL.out, HAP.out⟩
      case round =>
        clear HOL HAP HO1 HBB
        obtain ⟨k, hk, rfl, hbl, hown, hall, hol, hap⟩ := hrel
        by_cases hlt : k < xs.length
        · have HB := Lib.hid hbl; clear hbl
          obtain ⟨wo, hwo⟩ : ∃ wo : World, wo = wr := ⟨_, rfl⟩
          subst hwo
          have hyo : Hid (RdF wo a2 L) := hol.out.rd.2
          go_wp2
          go_loopw [9, 10] (fun s j wi => ∃ (jn : Nat) (sb : Nat), jn ≤ xs.length ∧ j = .int .i64 jn ∧ s = .float .f32 sb ∧ Hid (ab .f32 sb = dot (shaF xs k) jn) ∧ Hid (fin (dot (shaF xs k) jn) = true) ∧ Quiet wo wi) (fun _ j _ => xs.length - (intOf j).toNat)
          case atStart => exact ⟨0, 0, Nat.zero_le _, rfl, rfl, ab_zero, by show fin (some 0) = true; decide, Quiet.refl _⟩
          case round =>
            obtain ⟨jn, sb, hj, rfl, rfl, hs, hf, ⟨q, rfl⟩⟩ := hrel
            by_cases hjlt : jn < xs.length
            · obtain ⟨b, off, rfl, hc⟩ := HX.out jn hjlt
              have hc' := hc
              rw [← HB.out.cell (by exact block_lt_of_cell hc)] at hc'
              clear hc
              obtain ⟨x, hx⟩ : ∃ x, x = xs.getD jn 0 := ⟨_, rfl⟩
              rw [← hx] at hc'
              have HX0 := Lib.hid hx; clear hx
              obtain ⟨i, hi⟩ : ∃ i, i = ix xs.length k jn := ⟨_, rfl⟩
              have hilt : i < L.length := by rw [hi, hll]; exact ix_lt _ _ _ hp
              have hilt2 : i < xs.length := by rw [hi]; exact ix_lt _ _ _ hp
              have hmod : ((k : Int) - jn + xs.length) % xs.length = i := by rw [hi]; exact ix_int2 _ _ _ (by omega)
              obtain ⟨b2, off2, rfl, hc2⟩ := hyo.out i hilt
              obtain ⟨y, hy⟩ : ∃ y, y = L.getD i 0 := ⟨_, rfl⟩
              rw [← hy] at hc2
              rw [hi, HL0.out] at hy
              have HY0 := Lib.hid hy; clear hy hi
              go_wp2
              go_region
              all_goals
                go_wp2_with fail
                refine (l01Fine_any _ _).mono ?_
                rintro e w' ⟨rfl, n, rfl⟩
                obtain ⟨s1, hs1⟩ : ∃ s1 : Nat, s1 = fres .add .f32 sb (fres .mul .f32 x (mres .f32 y 0 (wo.drewN (q + 1))) ((wo.drewN (q + 1)).drewN (nm .f32 y 0))) (((wo.drewN (q + 1)).drewN (nm .f32 y 0)).drewN (nd .mul .f32 x (mres .f32 y 0 (wo.drewN (q + 1))))) := ⟨_, rfl⟩
                simp only [World.drewN_drewN] at hs1
                rw [← hs1]
                have hdot : Hid (ab .f32 s1 = dot (shaF xs k) (jn + 1)) := by
                  show _ = _
                  rw [hs1, ab_fres, ab_fres, ab_mres, ab_zero, hs.out, HX0.out, HY0.out]; rfl
                clear hs1
                cases hn : isNum s1 with
                | true =>
                  go_wp2
                  go_roundw
                  case rel => exact ⟨jn + 1, s1, by omega, by go_num, rfl, hdot, by show fin _ = true; rw [← hdot.out]; exact hn, _, rfl⟩
                  case measure => simp [intOf]; omega
                | false =>
                  have R : Hid (shaIn xs = (3, [])) := by
                    show _ = _
                    unfold shaIn
                    rw [if_neg]
                    intro h
                    have h1 := (range_all_fin _ _).1 h k hlt
                    have h2 := dot_fin h1 (jn + 1) (by omega)
                    rw [← hdot.out] at h2
                    have h3 : fin (ab .f32 s1) = false := hn
                    rw [h3] at h2; cases h2
                  go_wp2
                  go_ret2
                  exact ⟨_, [], by rw [RI.out, R.out]; rfl, OwnF.nil _ _, by rw [RI.out, R.out]; rfl, below_drewN' HB.out _⟩
            · have e : jn = xs.length := by omega
              rw [e] at hs hf
              clear e
              have hsz := HB.out.size
              obtain ⟨outs, ho1, ho2⟩ := hown.out
              have hlen : outs.length = k := by have := congrArg List.length ho2; simpa [rows] using this
              have hO : Hid (OwnF (wo.drewN q) w.heap.size u6 outs) := ho1
              have HL := Lib.hid hlen
              have H2 := Lib.hid ho2
              clear ho1 ho2 hown hlen hll
              go_wp2_with (at_builtin; refine appendFs (w0 := wo.drewN q) rfl (.tmp 52) (.tmp 54) ?h3 w.heap.size u6 outs sb ?h4 hO.out ?h5 ?c1 hsz ?_; (case h3 => rfl); (case h4 => rfl); (case h5 => rfl); (case c1 => (rw [HL.out]; omega)); intro v' w1 hO' hG hN'; have HO := Lib.hid hO'; have HG3 := Lib.hid hG; have HN := Lib.hid hN'; clear hO' hG hN')
              go_roundw
              case rel =>
                refine ⟨k + 1, by omega, by go_num, ?_, ⟨outs ++ [_], HO.out, ?_⟩, ?_, ?_, ?_⟩
                · exact (below_drewN' HB.out _).grown HG3.out hsz (fun j hj => (hO.out.ltOf j hj).1)
                · rw [List.map_append, H2.out, rows_succ, ← hs.out]; rfl
                · intro k' hk'
                  by_cases e : k' = k
                  · rw [e]; exact hf.out
                  · exact hall.out k' (by omega)
                · exact (hol.out.drew _).keptUp HG3.out hap.out
                · intro k' hk'
                  rcases HN.out with e | ⟨k2, e, hk2⟩
                  · rw [e]; exact hap.out k' hk'
                  · rw [e]
                    have := (hol.out.ltOf k' hk').2
                    intro e2
                    cases e2
                    have hk3 : wo.heap.size ≤ k' := hk2
                    omega
              case measure => simp [intOf]; omega
        · have e : k = xs.length := by omega
          have HB := Lib.hid hbl; clear hbl
          rw [e] at hown hall
          clear e
          have R : Hid (shaIn xs = (0, rows (shaF xs) xs.length xs.length)) := by
            show _ = _
            unfold shaIn
            exact if_pos ((range_all_fin _ _).2 hall.out)
          go_wp2
          go_ret2
          obtain ⟨outs, h1, h2⟩ := hown.out
          exact ⟨_, outs, by rw [RI.out, R.out]; rfl, h1, by rw [RI.out, R.out]; exact h2, HB.out⟩
end Go.Proofs.Ytphbjfijipcpnaa

