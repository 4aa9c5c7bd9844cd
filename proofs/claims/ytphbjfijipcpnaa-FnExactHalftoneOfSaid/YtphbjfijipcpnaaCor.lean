/- Correlations of lists. -/
import Derived.Test.YtphbjfijipcpnaaB7
namespace Go.Proofs.Ytphbjfijipcpnaa
open Go.RowKit
set_option linter.unusedVariables false

theorem isList_any (n : Int) (w : World) : Calls Try.prog 70 #[.int .i64 n] w fun e w' => e = .returned (.bool (inR n 1 64)) ∧ w = w' := by
  go_enter Try.func70, Try.ntmps70
  go_wp2_with (go_at_call 122; refine (within_any _ _ _ _).mono ?_; rintro e w' ⟨rfl, rfl⟩)
  go_ret
  exact ⟨rfl, rfl⟩

/-- the code of a list of numbers whose length must do -/
def lcode (num does : Bool) : Int := if num then (if does then 0 else 2) else 1

theorem listCode_isList (bs : List Nat) (a : Option Addr) (c : Nat) (w : World) (hrd : RdF w a bs) (hl : bs.length ≤ 9223372036854775807) :
    Calls Try.prog 69 #[.slice a bs.length c, .func (.func 70) #[] #[]] w fun e w' => e = .returned (.int .i64 (lcode (allNum bs) (inR bs.length 1 64))) ∧ Quiet w w' := by
  have HR := Lib.hid hrd; clear hrd
  cases hn : allNum bs with
  | true =>
    cases hd : inR bs.length 1 64 with
    | true =>
      go_enter Try.func69, Try.ntmps69
      go_wp2_with (first | (go_at_call 121; refine (areNumbers_any _ _ _ _ HR.out hl).mono ?_; rintro e w' ⟨rfl, n, rfl⟩) | (go_at_call 70; refine (isList_any _ _).mono ?_; rintro e w' ⟨rfl, rfl⟩))
      go_ret
      exact ⟨rfl, _, rfl⟩
    | false =>
      go_enter Try.func69, Try.ntmps69
      go_wp2_with (first | (go_at_call 121; refine (areNumbers_any _ _ _ _ HR.out hl).mono ?_; rintro e w' ⟨rfl, n, rfl⟩) | (go_at_call 70; refine (isList_any _ _).mono ?_; rintro e w' ⟨rfl, rfl⟩))
      go_ret
      exact ⟨rfl, _, rfl⟩
  | false =>
    go_enter Try.func69, Try.ntmps69
    go_wp2_with (first | (go_at_call 121; refine (areNumbers_any _ _ _ _ HR.out hl).mono ?_; rintro e w' ⟨rfl, n, rfl⟩) | (go_at_call 70; refine (isList_any _ _).mono ?_; rintro e w' ⟨rfl, rfl⟩))
    go_ret
    exact ⟨rfl, _, rfl⟩

theorem corr1_any (ys : List Nat) (a : Option Addr) (c g : Nat) (j k : Nat) (w : World) (hb : w.cell? ⟨g, 0, none⟩ = some (.slice a ys.length c)) (hrd : RdF w a ys)
    (hl : ys.length ≤ 64) (hm : 0 < ys.length) (hj : j ≤ 64) (hk : k ≤ 64) :
    Calls Try.prog 123 #[.int .i64 j, .int .i64 k, .pointer (some ⟨g, 0, none⟩)] w fun e w' => e = .returned (.float .f32 (ys.getD ((j + k) % ys.length) 0)) ∧ Quiet w w' := by
  have hlt : (j + k) % ys.length < ys.length := Nat.mod_lt _ hm
  obtain ⟨i, hi⟩ : ∃ i, i = (j + k) % ys.length := ⟨_, rfl⟩
  have hmod : ((j : Int) + k) % ys.length = i := by rw [hi, Int.natCast_emod, Int.natCast_add]
  rw [← hi] at hlt ⊢
  clear hi
  obtain ⟨b, off, rfl, hc⟩ := hrd _ hlt
  obtain ⟨x, hx⟩ : ∃ x, x = ys.getD i 0 := ⟨_, rfl⟩
  rw [← hx] at hc ⊢
  have h0 : ¬ ((ys.length : Int) = 0) := by omega
  clear hx hrd
  go_enter Try.func123, Try.ntmps123
  go_wp2
  go_quiet (fail)
  go_wp2
  go_ret
  exact ⟨rfl, _, rfl⟩

/-- the products that are summed at place k -/
def cprod (xs ys : List Nat) (k j : Nat) : FV := arith .mul .f32 (ab .f32 (xs.getD j 0)) (ab .f32 (ys.getD ((j + k) % ys.length) 0))
/-- the correlation, up to the bits of NaNs -/
def corr (xs ys : List Nat) (m : Nat) : List FV := (List.range m).map fun k => dot (cprod xs ys k) xs.length
theorem corr_succ (xs ys : List Nat) (m : Nat) : corr xs ys (m + 1) = corr xs ys m ++ [dot (cprod xs ys m) xs.length] := by simp [corr, List.range_succ]

set_option maxHeartbeats 1000000 in
theorem sumsWith_corr (xs ys : List Nat) (a a2 : Option Addr) (c c2 g : Nat) (w : World) (hx : RdF w a xs) (hb : w.cell? ⟨g, 0, none⟩ = some (.slice a2 ys.length c2)) (hy : RdF w a2 ys)
    (hl : xs.length ≤ 64) (hm : 0 < ys.length) (hl2 : ys.length ≤ 64) :
    Calls Try.prog 107 #[.slice a xs.length c, .func (.func 123) #[] #[.pointer (some ⟨g, 0, none⟩)]] w fun e w' => ∃ v outs, e = .returned v ∧ OwnF w' w.heap.size v outs ∧
      outs.map (ab .f32) = corr xs ys xs.length ∧ Below w.heap.size w w' := by
  have HX := Lib.hid hx; clear hx
  have HY := Lib.hid hy; clear hy
  have HG := Lib.hid hb; clear hb
  go_enter Try.func107, Try.ntmps107
  go_wp2
  go_loopw [5, 13] (fun v i wr => ∃ k : Nat, k ≤ xs.length ∧ i = .int .i64 k ∧ Below w.heap.size w wr ∧ Hid (∃ outs, OwnF wr w.heap.size v outs ∧ outs.map (ab .f32) = corr xs ys k)) (fun _ i _ => xs.length - (intOf i).toNat)
  case atStart => exact ⟨0, Nat.zero_le _, rfl, (Below.refl _ _).alloc (Nat.le_refl _) _, ⟨[], OwnF.made w, rfl⟩⟩
  case round =>
    obtain ⟨k, hk, rfl, hbl, hown⟩ := hrel
    by_cases hlt : k < xs.length
    · have HB := Lib.hid hbl; clear hbl
      obtain ⟨wo, hwo⟩ : ∃ wo : World, wo = wr := ⟨_, rfl⟩
      subst hwo
      have hgc : Hid (wo.cell? ⟨g, 0, none⟩ = some (.slice a2 ys.length c2)) := by
        show _ = _
        rw [HB.out.cell (by exact block_lt_of_cell HG.out)]; exact HG.out
      have hyo : Hid (RdF wo a2 ys) := HY.out.below HB.out
      go_wp2
      go_loopw [7, 18] (fun s j wi => ∃ (jn : Nat) (sb : Nat), jn ≤ xs.length ∧ j = .int .i64 jn ∧ s = .float .f32 sb ∧ Hid (ab .f32 sb = dot (cprod xs ys k) jn) ∧ Quiet wo wi) (fun _ j _ => xs.length - (intOf j).toNat)
      case atStart => exact ⟨0, 0, Nat.zero_le _, rfl, rfl, ab_zero, Quiet.refl _⟩
      case round =>
        obtain ⟨jn, sb, hj, rfl, rfl, hs, ⟨q, rfl⟩⟩ := hrel
        by_cases hjlt : jn < xs.length
        · obtain ⟨b, off, rfl, hc⟩ := HX.out jn hjlt
          have hc' := hc
          rw [← HB.out.cell (by exact block_lt_of_cell hc)] at hc'
          clear hc
          obtain ⟨x, hx⟩ : ∃ x, x = xs.getD jn 0 := ⟨_, rfl⟩
          rw [← hx] at hc'
          have HX0 := Lib.hid hx; clear hx
          go_wp2_with (go_at_call 123; refine (corr1_any ys a2 c2 g jn k (wo.drewN q) hgc.out hyo.out hl2 hm (by omega) (by omega)).mono ?_; rintro e w' ⟨rfl, n, rfl⟩)
          go_roundw
          case rel =>
            refine ⟨jn + 1, _, by omega, by go_num, rfl, ?_, _, rfl⟩
            show ab .f32 _ = _
            rw [ab_fres, ab_fres, hs.out, HX0.out]
            rfl
          case measure => simp [intOf]; omega
        · have e : jn = xs.length := by omega
          rw [e] at hs
          clear e
          have hsz := HB.out.size
          obtain ⟨outs, ho1, ho2⟩ := hown.out
          have hlen : outs.length = k := by have := congrArg List.length ho2; simpa [corr] using this
          have hO : Hid (OwnF (wo.drewN q) w.heap.size u5 outs) := ho1
          have HL := Lib.hid hlen
          have H2 := Lib.hid ho2
          clear ho1 ho2 hown hlen
          go_wp2_with (at_builtin; refine appendF (w0 := wo.drewN q) rfl (.tmp 32) (.tmp 34) ?h3 w.heap.size u5 outs sb ?h4 hO.out ?h5 ?c1 hsz ?_; (case h3 => rfl); (case h4 => rfl); (case h5 => rfl); (case c1 => (rw [HL.out]; omega)); intro v' w1 hO' hG; have HO := Lib.hid hO'; have HG1 := Lib.hid hG; clear hO' hG)
          go_roundw
          case rel =>
            refine ⟨k + 1, by omega, by go_num, ?_, ⟨outs ++ [sb], HO.out, ?_⟩⟩
            · exact (HB.out.trans ⟨rfl, rfl, rfl, Nat.le_refl _, fun _ _ => rfl⟩ : Below w.heap.size w (wo.drewN q)).grown HG1.out hsz (fun j hj => (hO.out.ltOf j hj).1)
            · rw [List.map_append, H2.out, corr_succ, ← hs.out]; rfl
          case measure => simp [intOf]; omega
    · have e : k = xs.length := by omega
      have HB := Lib.hid hbl; clear hbl
      rw [e] at hown
      clear e
      go_wp2
      go_ret
      obtain ⟨outs, h1, h2⟩ := hown.out
      exact ⟨_, outs, rfl, h1, h2, HB.out⟩

theorem correlation_any (xs ys : List Nat) (a a2 : Option Addr) (c c2 : Nat) (w : World) (hx : RdF w a xs) (hy : RdF w a2 ys) (hl : xs.length ≤ 64) (hm : 0 < ys.length) (hl2 : ys.length ≤ 64) :
    Calls Try.prog 72 #[.slice a xs.length c, .slice a2 ys.length c2] w fun e w' => ∃ v outs, e = .returned v ∧ OwnF w' w.heap.size v outs ∧ outs.map (ab .f32) = corr xs ys xs.length ∧ Below w.heap.size w w' := by
  have hb : Below w.heap.size w (w.alloc (.cells #[.slice a2 ys.length c2] 22)) := (Below.refl _ _).alloc (Nat.le_refl _) _
  have HX := Lib.hid (hx.below hb)
  have HY := Lib.hid (hy.below hb)
  have HB := Lib.hid hb
  clear hx hy hb
  go_enter Try.func72, Try.ntmps72
  go_wp2_with fail
  refine (sumsWith_corr xs ys a a2 c c2 w.heap.size _ HX.out (by rw [World.cell?_alloc_new]; rfl) HY.out hl hm hl2).mono ?_
  rintro e w1 ⟨v, outs, rfl, h1, h2, h3⟩
  have H1 := Lib.hid h1
  have H2 := Lib.hid h2
  have H3 := Lib.hid h3
  clear h1 h2 h3
  go_wp2
  go_ret
  exact ⟨v, outs, rfl, H1.out.mono (by simp), H2.out, HB.out.trans (H3.out.mono (by simp))⟩

/-- the answer: a code, and a list up to the bits of NaNs -/
def corrRes (xs ys : List Nat) : Int × List FV :=
  if allNum xs && allNum ys then
    if inR xs.length 1 64 && inR ys.length 1 64 && decide (xs.length = ys.length) then
      if (corr xs ys xs.length).all fin then (0, corr xs ys xs.length) else (3, [])
    else (2, [])
  else (1, [])

def CorPost (xs ys : List Nat) (w : World) (e : Ending) (w' : World) : Prop :=
  ∃ v outs, e = .returned (.tuple #[v, .int .i64 (corrRes xs ys).1]) ∧ OwnF w' w.heap.size v outs ∧ outs.map (ab .f32) = (corrRes xs ys).2 ∧ Below w.heap.size w w'

theorem CorPost.err {xs ys : List Nat} {w : World} {n : Nat} {k : Int} (h : corrRes xs ys = (k, [])) : CorPost xs ys w (.returned (.tuple #[.slice none 0 0, .int .i64 k])) (w.drewN n) :=
  ⟨.slice none 0 0, [], by rw [h], OwnF.nil _ _, by rw [h]; rfl, below_drewN' (Below.refl _ _) n⟩

theorem inR_le {n : Nat} (h : inR n 1 64 = true) : 0 < n ∧ n ≤ 64 := by
  simp only [inR, Bool.and_eq_true, decide_eq_true_eq] at h; omega

set_option maxHeartbeats 1000000 in
theorem signedCor_any (xs ys : List Nat) (a a2 : Option Addr) (c c2 : Nat) (w : World) (hx : RdF w a xs) (hy : RdF w a2 ys) (hl : xs.length ≤ 4611686018427387903) (hl2 : ys.length ≤ 4611686018427387903) :
    Calls Try.prog 39 #[.slice a xs.length c, .slice a2 ys.length c2] w (CorPost xs ys w) := by
  have HX := Lib.hid hx; clear hx
  have HY := Lib.hid hy; clear hy
  have hl' : xs.length ≤ 9223372036854775807 := by omega
  have hl2' : ys.length ≤ 9223372036854775807 := by omega
  cases hna : allNum xs with
  | false =>
    have R : Hid (corrRes xs ys = (1, [])) := by show _ = _; simp [corrRes, hna]
    go_enter Try.func39, Try.ntmps39
    go_wp2_with fail
    refine (listCode_isList xs a c w HX.out hl').mono ?_
    rintro e w1 ⟨rfl, n1, rfl⟩
    rw [hna]
    go_wp2_with fail
    refine (listCode_isList ys a2 c2 (w.drewN n1) HY.out hl2').mono ?_
    rintro e w1 ⟨rfl, n2, rfl⟩
    obtain ⟨q2, hq2⟩ : ∃ q, q = lcode (allNum ys) (inR ys.length 1 64) := ⟨_, rfl⟩
    rw [← hq2]
    clear hq2
    simp only [lcode, Bool.false_eq_true, if_false]
    go_wp2
    all_goals go_ret2
    all_goals exact CorPost.err R.out
  | true =>
    cases hnb : allNum ys with
    | false =>
      have R : Hid (corrRes xs ys = (1, [])) := by show _ = _; simp [corrRes, hnb]
      go_enter Try.func39, Try.ntmps39
      go_wp2_with fail
      refine (listCode_isList xs a c w HX.out hl').mono ?_
      rintro e w1 ⟨rfl, n1, rfl⟩
      obtain ⟨q1, hq1⟩ : ∃ q, q = lcode (allNum xs) (inR xs.length 1 64) := ⟨_, rfl⟩
      rw [← hq1]
      clear hq1
      go_wp2_with fail
      refine (listCode_isList ys a2 c2 (w.drewN n1) HY.out hl2').mono ?_
      rintro e w1 ⟨rfl, n2, rfl⟩
      rw [hnb]
      simp only [lcode, Bool.false_eq_true, if_false]
      go_wp2
      all_goals go_ret2
      all_goals exact CorPost.err R.out
    | true =>
      by_cases hd : (inR xs.length 1 64 && inR ys.length 1 64 && decide (xs.length = ys.length)) = true
      · have hd' := hd
        simp only [Bool.and_eq_true, decide_eq_true_eq] at hd'
        obtain ⟨⟨hda, hdb⟩, hlen⟩ := hd'
        have R : Hid (corrRes xs ys = if (corr xs ys xs.length).all fin then (0, corr xs ys xs.length) else (3, [])) := by show _ = _; unfold corrRes; rw [hna, hnb, hd]; rfl
        have h64 := inR_le hda
        have h642 := inR_le hdb
        have HL := Lib.hid hlen
        clear hlen hd
        go_enter Try.func39, Try.ntmps39
        go_wp2_with fail
        refine (listCode_isList xs a c w HX.out hl').mono ?_
        rintro e w1 ⟨rfl, n1, rfl⟩
        rw [hna, hda]
        go_wp2_with fail
        refine (listCode_isList ys a2 c2 (w.drewN n1) HY.out hl2').mono ?_
        rintro e w1 ⟨rfl, n2, rfl⟩
        rw [hnb, hdb]
        simp only [lcode, if_true]
        have hne : ((xs.length : Int) != (ys.length : Int)) = false := by rw [HL.out]; simp
        have hne2 : decide ((xs.length : Int) = (ys.length : Int)) = true := by rw [HL.out]; simp
        clear hna hnb hda hdb
        go_wp2_with fail
        refine (correlation_any xs ys a a2 c c2 (w.drewN (n1 + n2)) HX.out HY.out h64.2 h642.1 h642.2).mono ?_
        rintro e w1 ⟨v, outs, rfl, h1, h2, h3⟩
        obtain ⟨a3, c3, rfl⟩ := h1.slice
        have hlo : outs.length ≤ 9223372036854775807 := by have := h1.len; unfold maxLen at this; exact this
        have hrd := h1.rd.2
        have H1 := Lib.hid h1
        have H2 := Lib.hid h2
        have H3 := Lib.hid (below_drewN' (Below.refl w.heap.size w) (n1 + n2) |>.trans h3)
        have H4 := Lib.hid hrd
        clear h1 h2 h3 hrd
        go_wp2_with fail
        refine (finite_any outs a3 c3 w1 H4.out hlo).mono ?_
        rintro e w2 ⟨rfl, n3, rfl⟩
        cases hf : allNum outs with
        | true =>
          have R2 : Hid (corrRes xs ys = (0, corr xs ys xs.length)) := by show _ = _; rw [R.out, ← H2.out, ← allNum_fin, hf]; rfl
          simp only [if_true]
          go_wp2
          go_ret2
          exact ⟨_, outs, by rw [R2.out]; rfl, H1.out, by rw [R2.out]; exact H2.out, below_drewN' H3.out _⟩
        | false =>
          have R2 : Hid (corrRes xs ys = (3, [])) := by show _ = _; rw [R.out, ← H2.out, ← allNum_fin, hf]; rfl
          simp only [Bool.false_eq_true, if_false]
          go_wp2
          go_ret2
          exact ⟨_, [], by rw [R2.out]; rfl, OwnF.nil _ _, by rw [R2.out]; rfl, below_drewN' H3.out _⟩
      · have R : Hid (corrRes xs ys = (2, [])) := by show _ = _; unfold corrRes; rw [hna, hnb, if_neg hd]; rfl
        cases hda : inR xs.length 1 64 with
        | false =>
          clear hd
          go_enter Try.func39, Try.ntmps39
          go_wp2_with fail
          refine (listCode_isList xs a c w HX.out hl').mono ?_
          rintro e w1 ⟨rfl, n1, rfl⟩
          rw [hna, hda]
          go_wp2_with fail
          refine (listCode_isList ys a2 c2 (w.drewN n1) HY.out hl2').mono ?_
          rintro e w1 ⟨rfl, n2, rfl⟩
          rw [hnb]
          obtain ⟨q2, hq2⟩ : ∃ q, q = inR ys.length 1 64 := ⟨_, rfl⟩
          rw [← hq2]
          clear hq2 hna hnb hda
          cases q2
          all_goals simp only [lcode, Bool.false_eq_true, if_false, if_true]
          all_goals go_wp2
          all_goals go_ret2
          all_goals exact CorPost.err R.out
        | true =>
          cases hdb : inR ys.length 1 64 with
          | false =>
            clear hd
            go_enter Try.func39, Try.ntmps39
            go_wp2_with fail
            refine (listCode_isList xs a c w HX.out hl').mono ?_
            rintro e w1 ⟨rfl, n1, rfl⟩
            rw [hna, hda]
            go_wp2_with fail
            refine (listCode_isList ys a2 c2 (w.drewN n1) HY.out hl2').mono ?_
            rintro e w1 ⟨rfl, n2, rfl⟩
            rw [hnb, hdb]
            clear hna hnb hda hdb
            simp only [lcode, Bool.false_eq_true, if_false, if_true]
            go_wp2
            go_ret2
            exact CorPost.err R.out
          | true =>
            have hne : ¬ xs.length = ys.length := by
              intro e; apply hd; simp [hda, hdb, e]
            have hne2 : ¬ ((xs.length : Int) = (ys.length : Int)) := by omega
            clear hd hne
            go_enter Try.func39, Try.ntmps39
            go_wp2_with fail
            refine (listCode_isList xs a c w HX.out hl').mono ?_
            rintro e w1 ⟨rfl, n1, rfl⟩
            rw [hna, hda]
            go_wp2_with fail
            refine (listCode_isList ys a2 c2 (w.drewN n1) HY.out hl2').mono ?_
            rintro e w1 ⟨rfl, n2, rfl⟩
            rw [hnb, hdb]
            clear hna hnb hda hdb
            simp only [lcode, if_true]
            go_wp2
            all_goals go_ret2
            all_goals exact CorPost.err R.out

theorem corrRes_length (xs ys : List Nat) : (corrRes xs ys).2.length ≤ 64 := by
  unfold corrRes
  split
  · split
    · rename_i h
      simp only [Bool.and_eq_true] at h
      have := inR_le h.1.1
      split
      · simp only [corr, List.length_map, List.length_range]; exact this.2
      · simp
    · simp
  · simp

/-- what a function answers that gives a list and a code: up to the bits of NaNs -/
def ListPost (r : Int × List FV) (w : World) (e : Ending) (w' : World) : Prop :=
  ∃ v outs, e = .returned (.tuple #[v, .int .i64 r.1]) ∧ OwnF w' w.heap.size v outs ∧ outs.map (ab .f32) = r.2 ∧ Below w.heap.size w w'

theorem implCorrelateListsC_any (xs ys : List Nat) (a a2 : Option Addr) (c c2 : Nat) (w : World) (hx : RdF w a xs) (hy : RdF w a2 ys) (hl : xs.length ≤ 4611686018427387903) (hl2 : ys.length ≤ 4611686018427387903) :
    Calls Try.prog 14 #[.slice a xs.length c, .slice a2 ys.length c2] w (ListPost ((corrRes xs ys).1, (corrRes xs ys).2.map pnV) w) := by
  have HX := Lib.hid hx; clear hx
  have HY := Lib.hid hy; clear hy
  go_enter Try.func14, Try.ntmps14
  go_wp2_with fail
  refine (signedCor_any xs ys a a2 c c2 w HX.out HY.out hl hl2).mono ?_
  rintro e w1 ⟨v, outs, rfl, h1, h2, h3⟩
  have H1 := Lib.hid h1
  have H2 := Lib.hid h2
  have H3 := Lib.hid h3
  have hlo : outs.length ≤ 4611686018427387903 := by
    have := congrArg List.length h2
    simp only [List.length_map] at this
    have h64 := corrRes_length xs ys
    omega
  clear h1 h2 h3
  go_wp2_with fail
  refine (plainS_any outs v w.heap.size w1 H1.out hlo).mono ?_
  rintro e w2 ⟨rfl, h4, h5⟩
  have H4 := Lib.hid h4
  have H5 := Lib.hid h5
  clear h4 h5
  go_wp2
  go_ret2
  refine ⟨v, outs.map pn, rfl, H4.out, by rw [map_ab_pn, H2.out], ?_⟩
  exact grown_below H3.out H5.out H1.out H3.out.size

def corrIn (xs ys : List Nat) : Int × List FV := if (corr xs ys xs.length).all fin then (0, corr xs ys xs.length) else (3, [])

set_option maxHeartbeats 1000000 in
theorem l10Correlate_any (xs ys : List Nat) (a a2 : Option Addr) (c c2 : Nat) (w : World) (hx : RdF w a xs) (hy : RdF w a2 ys)
    (hl : xs.length ≤ 64) (hm : 0 < ys.length) (hl2 : ys.length ≤ 64) :
    Calls Try.prog 67 #[.slice a xs.length c, .slice a2 ys.length c2] w (ListPost (corrIn xs ys) w) := by
  have HX := Lib.hid hx; clear hx
  have HY := Lib.hid hy; clear hy
  go_enter Try.func67, Try.ntmps67
  go_wp2
  go_loopw [6, 7] (fun v i wr => ∃ k : Nat, k ≤ xs.length ∧ i = .int .i64 k ∧ Below w.heap.size w wr ∧ Hid (∃ outs, OwnF wr w.heap.size v outs ∧ outs.map (ab .f32) = corr xs ys k) ∧ Hid (∀ k', k' < k → fin (dot (cprod xs ys k') xs.length) = true)) (fun _ i _ => xs.length - (intOf i).toNat)
  case atStart => exact ⟨0, Nat.zero_le _, rfl, (Below.refl _ _).alloc (Nat.le_refl _) _, ⟨[], OwnF.made w, rfl⟩, fun k' h => by omega⟩
  case round =>
    obtain ⟨k, hk, rfl, hbl, hown, hall⟩ := hrel
    by_cases hlt : k < xs.length
    · have HB := Lib.hid hbl; clear hbl
      obtain ⟨wo, hwo⟩ : ∃ wo : World, wo = wr := ⟨_, rfl⟩
      subst hwo
      have hyo : Hid (RdF wo a2 ys) := HY.out.below HB.out
      go_wp2
      go_loopw [8, 9] (fun s j wi => ∃ (jn : Nat) (sb : Nat), jn ≤ xs.length ∧ j = .int .i64 jn ∧ s = .float .f32 sb ∧ Hid (ab .f32 sb = dot (cprod xs ys k) jn) ∧ Hid (fin (dot (cprod xs ys k) jn) = true) ∧ Quiet wo wi) (fun _ j _ => xs.length - (intOf j).toNat)
      case atStart => exact ⟨0, 0, Nat.zero_le _, rfl, rfl, ab_zero, by show fin (some 0) = true; decide, Quiet.refl _⟩
      case round =>
        obtain ⟨jn, sb, hj, rfl, rfl, hs, hf, ⟨q, rfl⟩⟩ := hrel
        by_cases hjlt : jn < xs.length
        · obtain ⟨b, off, rfl, hc⟩ := HX.out jn hjlt
          have hc' := hc
          rw [← HB.out.cell (by exact block_lt_of_cell hc)] at hc'
          clear hc
          obtain ⟨x, hx⟩ : ∃ x, x = xs.getD jn 0 := ⟨_, rfl⟩
          rw [← hx] at hc'
          have HX0 := Lib.hid hx; clear hx
          have hmlt : (jn + k) % ys.length < ys.length := Nat.mod_lt _ hm
          obtain ⟨i, hi⟩ : ∃ i, i = (jn + k) % ys.length := ⟨_, rfl⟩
          have hmod : ((jn : Int) + k) % ys.length = i := by rw [hi, Int.natCast_emod, Int.natCast_add]
          rw [← hi] at hmlt
          obtain ⟨b2, off2, rfl, hc2⟩ := hyo.out i hmlt
          obtain ⟨y, hy⟩ : ∃ y, y = ys.getD i 0 := ⟨_, rfl⟩
          rw [← hy] at hc2
          rw [hi] at hy
          have HY0 := Lib.hid hy; clear hy hi
          have h0 : ¬ ((ys.length : Int) = 0) := by omega
          go_wp2
          go_region
          all_goals
            go_wp2_with fail
            refine (l01Fine_any _ _).mono ?_
            rintro e w' ⟨rfl, n, rfl⟩
            obtain ⟨s1, hs1⟩ : ∃ s1 : Nat, s1 = fres .add .f32 sb (fres .mul .f32 x y (wo.drewN (q + 1))) ((wo.drewN (q + 1)).drewN (nd .mul .f32 x y)) := ⟨_, rfl⟩
            simp only [World.drewN_drewN] at hs1
            rw [← hs1]
            have hdot : Hid (ab .f32 s1 = dot (cprod xs ys k) (jn + 1)) := by
              show _ = _
              rw [hs1, ab_fres, ab_fres, hs.out, HX0.out, HY0.out]; rfl
            clear hs1
            cases hn : isNum s1 with
            | true =>
              go_wp2
              go_roundw
              case rel => exact ⟨jn + 1, s1, by omega, by go_num, rfl, hdot, by show fin _ = true; rw [← hdot.out]; exact hn, _, rfl⟩
              case measure => simp [intOf]; omega
            | false =>
              have R : Hid (corrIn xs ys = (3, [])) := by
                show _ = _
                unfold corrIn
                rw [if_neg]
                intro h
                have h1 := (range_all_fin _ _).1 h k hlt
                have h2 := dot_fin h1 (jn + 1) (by omega)
                rw [← hdot.out] at h2
                have h3 : fin (ab .f32 s1) = false := hn
                rw [h3] at h2; cases h2
              go_wp2
              go_ret2
              exact ⟨_, [], by rw [R.out]; rfl, OwnF.nil _ _, by rw [R.out]; rfl, below_drewN' HB.out _⟩
        · have e : jn = xs.length := by omega
          rw [e] at hs hf
          clear e
          have hsz := HB.out.size
          obtain ⟨outs, ho1, ho2⟩ := hown.out
          have hlen : outs.length = k := by have := congrArg List.length ho2; simpa [corr] using this
          have hO : Hid (OwnF (wo.drewN q) w.heap.size u6 outs) := ho1
          have HL := Lib.hid hlen
          have H2 := Lib.hid ho2
          clear ho1 ho2 hown hlen
          go_wp2_with (at_builtin; refine appendF (w0 := wo.drewN q) rfl (.tmp 42) (.tmp 44) ?h3 w.heap.size u6 outs sb ?h4 hO.out ?h5 ?c1 hsz ?_; (case h3 => rfl); (case h4 => rfl); (case h5 => rfl); (case c1 => (rw [HL.out]; omega)); intro v' w1 hO' hG; have HO := Lib.hid hO'; have HG1 := Lib.hid hG; clear hO' hG)
          go_roundw
          case rel =>
            refine ⟨k + 1, by omega, by go_num, ?_, ⟨outs ++ [sb], HO.out, ?_⟩, ?_⟩
            · exact (below_drewN' HB.out q).grown HG1.out hsz (fun j hj => (hO.out.ltOf j hj).1)
            · rw [List.map_append, H2.out, corr_succ, ← hs.out]; rfl
            · intro k' hk'
              by_cases e : k' = k
              · rw [e]; exact hf.out
              · exact hall.out k' (by omega)
          case measure => simp [intOf]; omega
    · have e : k = xs.length := by omega
      have HB := Lib.hid hbl; clear hbl
      rw [e] at hown hall
      clear e
      have R : Hid (corrIn xs ys = (0, corr xs ys xs.length)) := by
        show _ = _
        unfold corrIn
        exact if_pos ((range_all_fin _ _).2 hall.out)
      go_wp2
      go_ret2
      obtain ⟨outs, h1, h2⟩ := hown.out
      exact ⟨_, outs, by rw [R.out]; rfl, h1, by rw [R.out]; exact h2, HB.out⟩

theorem ListPost.err {r : Int × List FV} {w : World} {n : Nat} {k : Int} (h : r = (k, [])) : ListPost r w (.returned (.tuple #[.slice none 0 0, .int .i64 k])) (w.drewN n) :=
  ⟨.slice none 0 0, [], by rw [h], OwnF.nil _ _, by rw [h]; rfl, below_drewN' (Below.refl _ _) n⟩

set_option maxHeartbeats 1000000 in
theorem l10RawCor_any (xs ys : List Nat) (a a2 : Option Addr) (c c2 : Nat) (w : World) (hx : RdF w a xs) (hy : RdF w a2 ys) (hl : xs.length ≤ 4611686018427387903) (hl2 : ys.length ≤ 4611686018427387903) :
    Calls Try.prog 37 #[.slice a xs.length c, .slice a2 ys.length c2] w (ListPost (corrRes xs ys) w) := by
  have HX := Lib.hid hx; clear hx
  have HY := Lib.hid hy; clear hy
  have hl' : xs.length ≤ 9223372036854775807 := by omega
  have hl2' : ys.length ≤ 9223372036854775807 := by omega
  cases hna : allNum xs with
  | false =>
    have R : Hid (corrRes xs ys = (1, [])) := by show _ = _; simp [corrRes, hna]
    go_enter Try.func37, Try.ntmps37
    go_wp2_with fail
    refine (l10Fine_any xs a c w HX.out hl').mono ?_
    rintro e w1 ⟨rfl, n1, rfl⟩
    rw [hna]
    go_wp2
    go_ret2
    exact ListPost.err R.out
  | true =>
    cases hnb : allNum ys with
    | false =>
      have R : Hid (corrRes xs ys = (1, [])) := by show _ = _; simp [corrRes, hnb]
      go_enter Try.func37, Try.ntmps37
      go_wp2_with fail
      refine (l10Fine_any xs a c w HX.out hl').mono ?_
      rintro e w1 ⟨rfl, n1, rfl⟩
      rw [hna]
      go_wp2_with fail
      refine (l10Fine_any ys a2 c2 (w.drewN n1) HY.out hl2').mono ?_
      rintro e w1 ⟨rfl, n2, rfl⟩
      rw [hnb]
      go_wp2
      go_ret2
      exact ListPost.err R.out
    | true =>
      by_cases hlen : xs.length = ys.length
      · cases hda : inR xs.length 1 64 with
        | true =>
          have hdb : inR ys.length 1 64 = true := by rw [← hlen]; exact hda
          have R : Hid (corrRes xs ys = corrIn xs ys) := by show _ = _; unfold corrRes corrIn; rw [hna, hnb, hda, hdb, decide_eq_true hlen]; rfl
          have h64 := inR_le hda
          have h642 := inR_le hdb
          have hne : ((xs.length : Int) != (ys.length : Int)) = false := by rw [hlen]; simp
          clear hlen
          go_enter Try.func37, Try.ntmps37
          go_wp2_with fail
          refine (l10Fine_any xs a c w HX.out hl').mono ?_
          rintro e w1 ⟨rfl, n1, rfl⟩
          rw [hna]
          go_wp2_with fail
          refine (l10Fine_any ys a2 c2 (w.drewN n1) HY.out hl2').mono ?_
          rintro e w1 ⟨rfl, n2, rfl⟩
          rw [hnb]
          go_wp2_with fail
          refine (l01In_any _ _ _ _).mono ?_
          rintro e w1 ⟨rfl, rfl⟩
          rw [hda]
          clear hna hnb hda hdb
          go_wp2_with fail
          refine (l10Correlate_any xs ys a a2 c c2 (w.drewN (n1 + n2)) HX.out HY.out h64.2 h642.1 h642.2).mono ?_
          rintro e w1 ⟨v, outs, rfl, h1, h2, h3⟩
          have H1 := Lib.hid h1
          have H2 := Lib.hid h2
          have H3 := Lib.hid (below_drewN' (Below.refl w.heap.size w) (n1 + n2) |>.trans h3)
          clear h1 h2 h3
          go_wp2
          go_ret2
          exact ⟨v, outs, by rw [R.out]; rfl, H1.out, by rw [R.out]; exact H2.out, H3.out⟩
        | false =>
          have R : Hid (corrRes xs ys = (2, [])) := by show _ = _; unfold corrRes; rw [hna, hnb, hda]; rfl
          have hne : ((xs.length : Int) != (ys.length : Int)) = false := by rw [hlen]; simp
          clear hlen
          go_enter Try.func37, Try.ntmps37
          go_wp2_with fail
          refine (l10Fine_any xs a c w HX.out hl').mono ?_
          rintro e w1 ⟨rfl, n1, rfl⟩
          rw [hna]
          go_wp2_with fail
          refine (l10Fine_any ys a2 c2 (w.drewN n1) HY.out hl2').mono ?_
          rintro e w1 ⟨rfl, n2, rfl⟩
          rw [hnb]
          go_wp2_with fail
          refine (l01In_any _ _ _ _).mono ?_
          rintro e w1 ⟨rfl, rfl⟩
          rw [hda]
          go_wp2
          go_ret2
          exact ListPost.err R.out
      · have R : Hid (corrRes xs ys = (2, [])) := by show _ = _; unfold corrRes; rw [hna, hnb, decide_eq_false hlen]; simp
        have hne : ((xs.length : Int) != (ys.length : Int)) = true := by simp; omega
        clear hlen
        go_enter Try.func37, Try.ntmps37
        go_wp2_with fail
        refine (l10Fine_any xs a c w HX.out hl').mono ?_
        rintro e w1 ⟨rfl, n1, rfl⟩
        rw [hna]
        go_wp2_with fail
        refine (l10Fine_any ys a2 c2 (w.drewN n1) HY.out hl2').mono ?_
        rintro e w1 ⟨rfl, n2, rfl⟩
        rw [hnb]
        go_wp2
        go_ret2
        exact ListPost.err R.out

theorem specCorrelateListsC_any (xs ys : List Nat) (a a2 : Option Addr) (c c2 : Nat) (w : World) (hx : RdF w a xs) (hy : RdF w a2 ys) (hl : xs.length ≤ 4611686018427387903) (hl2 : ys.length ≤ 4611686018427387903) :
    Calls Try.prog 12 #[.slice a xs.length c, .slice a2 ys.length c2] w (ListPost ((corrRes xs ys).1, (corrRes xs ys).2.map pnV) w) := by
  have HX := Lib.hid hx; clear hx
  have HY := Lib.hid hy; clear hy
  go_enter Try.func12, Try.ntmps12
  go_wp2_with fail
  refine (l10RawCor_any xs ys a a2 c c2 w HX.out HY.out hl hl2).mono ?_
  rintro e w1 ⟨v, outs, rfl, h1, h2, h3⟩
  obtain ⟨a3, c3, rfl⟩ := h1.slice
  have hrd := h1.rd.2
  have H1 := Lib.hid h1
  have H2 := Lib.hid h2
  have H3 := Lib.hid h3
  have HR := Lib.hid hrd
  have hlo : outs.length * 4 ≤ 140737488351232 := by
    have := congrArg List.length h2
    simp only [List.length_map] at this
    have h64 := corrRes_length xs ys
    omega
  clear h1 h2 h3 hrd
  go_wp2_with fail
  refine (l01PlusNumbers_any outs a3 c3 w1 HR.out hlo).mono ?_
  rintro e w2 ⟨v2, rfl, h4, h5⟩
  have H4 := Lib.hid h4
  have H5 := Lib.hid h5
  clear h4 h5
  go_wp2
  go_ret2
  exact ⟨v2, outs.map pn, rfl, H4.out.mono H3.out.size, by rw [map_ab_pn, H2.out], H3.out.trans (H5.out.mono H3.out.size)⟩
end Go.Proofs.Ytphbjfijipcpnaa
