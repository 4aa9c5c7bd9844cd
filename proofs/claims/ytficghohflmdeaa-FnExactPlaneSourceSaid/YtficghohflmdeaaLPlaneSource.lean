/- PlaneSource: the tops of both sides, the law. -/
import Derived.Test.YtficghohflmdeaaPs8
namespace Go.Proofs.Ytficghohflmdeaa
open Go.RowKit
set_option linter.unusedVariables false

/-- an answer with a list of waves of one's own -/
def PsP (cd : Int) (ps : WL) (w : World) (e : Ending) (w' : World) : Prop := ∃ v, e = .returned (.tuple #[v, .int .i64 cd]) ∧ OwnW w' w.heap.size v ps ∧ Below w.heap.size w w'
def psCd (n : Int) (rows : List (List Int)) : Int := if okPS n rows then 0 else 2
def psL (F : Int → Nat × Nat) (n : Int) (rows : List (List Int)) : WL := if okPS n rows then psF F n.toNat rows else []
theorem psL_plain {F : Int → Nat × Nat} (hF : ∀ x, pn2 (F x) = phaseP x) (n : Int) (rows : List (List Int)) : (psL F n rows).map plP = psL phaseP n rows := by
  unfold psL
  cases okPS n rows with
  | false => rfl
  | true =>
    simp only [if_true]
    unfold psF
    rw [List.map_map]
    apply List.map_congr_left
    intro r _
    show (_, (fillL _ _).map pn2) = _
    rw [fillL_map]
    simp only [hF]
theorem psL_len (F : Int → Nat × Nat) (n : Int) (rows : List (List Int)) : (psL F n rows).length ≤ 16 := by
  unfold psL
  cases h : okPS n rows with
  | false => simp
  | true =>
    simp only [if_true, psF_length]
    unfold okPS at h
    simp only [Bool.and_eq_true] at h
    have := inR_true h.2.1
    omega
theorem psL_can (n : Int) (rows : List (List Int)) : canPs (psL phaseP n rows) := by
  unfold psL
  cases h : okPS n rows with
  | false => intro p hp; cases hp
  | true =>
    simp only [if_true]
    intro p hp
    obtain ⟨r, _, rfl⟩ := List.mem_map.1 hp
    exact canF64_fill _ _

theorem implPS_any (n : Int) (rows : List (List Int)) (a : Option Addr) (c : Nat) (w : World) (hrd : RdII w a rows) (hl : rows.length ≤ 9223372036854775807) :
    Calls Try.prog 37 #[.int .i64 n, .slice a rows.length c] w (PsP (psCd n rows) (psL phaseP n rows) w) := by
  have hs := signedPS_any n rows a c w hrd hl
  have hlen := psL_len phaseP n rows
  have hpl := psL_plain (F := phaseP) pn2_phase n rows
  obtain ⟨cd, hcd⟩ : ∃ cd, cd = psCd n rows := ⟨_, rfl⟩
  obtain ⟨ps, hps⟩ : ∃ ps, ps = psL phaseP n rows := ⟨_, rfl⟩
  have hs2 : Calls Try.prog 72 #[.int .i64 n, .slice a rows.length c] w (PsP cd ps w) := by rw [hcd, hps]; exact hs
  rw [← hps] at hlen hpl ⊢
  rw [← hcd]
  have HS := Lib.hid hs2
  have HPL := Lib.hid hpl
  clear hs hs2 hcd hps hpl hrd
  go_enter Try.func37, Try.ntmps37
  go_wp2_with fail
  refine HS.out.mono ?_
  rintro e w1 ⟨v, rfl, ho, hb⟩
  have HO := Lib.hid ho
  have HB := Lib.hid hb
  clear ho hb
  go_wp2_with fail
  refine (plainWS_any ps v w.heap.size w1 HO.out (by omega)).mono ?_
  rintro e w2 ⟨rfl, ho2, hg⟩
  have HO2 := Lib.hid ho2
  have HG := Lib.hid hg
  clear ho2 hg
  go_wp2_with fail
  go_ret2
  exact ⟨v, rfl, by rw [← HPL.out]; exact HO2.out, HB.out.grown HG.out HB.out.size (fun j hj => (HO.out.lt j hj).1)⟩

theorem specPS_any (n : Int) (rows : List (List Int)) (a : Option Addr) (c : Nat) (w : World) (hrd : RdII w a rows) (hl : rows.length ≤ 9223372036854775807) :
    Calls Try.prog 35 #[.int .i64 n, .slice a rows.length c] w (PsP (psCd n rows) (psL phaseP n rows) w) := by
  have hs := rawPS_any n rows a c w hrd hl
  have hlen := psL_len rawP n rows
  have hpl := psL_plain (F := rawP) pn2_raw n rows
  obtain ⟨cd, hcd⟩ : ∃ cd, cd = psCd n rows := ⟨_, rfl⟩
  obtain ⟨ps, hps⟩ : ∃ ps, ps = psL rawP n rows := ⟨_, rfl⟩
  obtain ⟨qs, hqs⟩ : ∃ qs, qs = psL phaseP n rows := ⟨_, rfl⟩
  have hs2 : Calls Try.prog 70 #[.int .i64 n, .slice a rows.length c] w (PsP cd ps w) := by rw [hcd, hps]; exact hs
  rw [← hps, ← hqs] at hpl
  rw [← hps] at hlen
  rw [← hcd, ← hqs]
  have HS := Lib.hid hs2
  have HPL := Lib.hid hpl
  clear hs hs2 hcd hps hpl hrd hqs
  go_enter Try.func35, Try.ntmps35
  go_wp2_with fail
  refine HS.out.mono ?_
  rintro e w1 ⟨v, rfl, ho, hb⟩
  have HO := Lib.hid ho
  have HB := Lib.hid hb
  clear ho hb
  go_wp2_with fail
  refine (plusWS_any ps v w.heap.size w1 HO.out (by omega)).mono ?_
  rintro e w2 ⟨v2, rfl, ho2, hb2⟩
  have HO2 := Lib.hid ho2
  have HB2 := Lib.hid hb2
  clear ho2 hb2
  go_wp2_with fail
  go_ret2
  exact ⟨v2, rfl, by rw [← HPL.out]; exact HO2.out.mono HB.out.size, HB.out.trans (HB2.out.mono HB.out.size)⟩

theorem lens_of {rows : List (List Int)} (h : rows.length + tot rows ≤ 1048576) : ∀ i, i < rows.length → (rows.getD i []).length ≤ 1048576 := by
  intro i hi
  have h1 := tot_take hi
  have h2 := tot_le rows (i + 1)
  omega

set_option maxRecDepth 100000 in
set_option maxHeartbeats 4000000 in
theorem law_PlaneSource (n : Int) (rows : List (List Int)) (a : Option Addr) (c : Nat) (w : World) (hrd : RdII w a rows) (hl : rows.length ≤ 9223372036854775807) :
    Calls Try.prog 11 #[.int .i64 n, .slice a rows.length c] w fun e w' => e = .returned (.bool true) ∧ Below w.heap.size w w' := by
  have CI := fun a c w h => implPS_any n rows a c w h hl
  have CS := fun a c w h => specPS_any n rows a c w h hl
  have hplen := psL_len phaseP n rows
  have hcan := psL_can n rows
  obtain ⟨cd, hcd⟩ : ∃ cd, cd = psCd n rows := ⟨_, rfl⟩
  obtain ⟨ps, hps⟩ : ∃ ps, ps = psL phaseP n rows := ⟨_, rfl⟩
  rw [← hps] at CI CS hplen hcan
  rw [← hcd] at CI CS
  have HCI := Lib.hid CI
  have HCS := Lib.hid CS
  have HCAN := Lib.hid hcan
  have HR := Lib.hid hrd
  clear CI CS hcan hcd hps hrd
  go_enter Try.func11, Try.ntmps11
  go_wp2_with fail
  refine (szII_any rows a c w HR.out hl).mono ?_
  rintro e w' ⟨r, rfl, hr, rfl⟩
  rcases hr with hr | ⟨hr0, htot⟩
  · go_wp2_with fail
    go_ret
    exact ⟨rfl, Below.refl _ _⟩
  have hr1 : ¬ r < 0 := by omega
  have hl20 : rows.length ≤ 1048576 := by omega
  have HLN := Lib.hid (lens_of htot)
  have HLN2 : Hid (∀ i, i < rows.length → (rows.getD i []).length ≤ 9223372036854775807) := fun i hi => by have := lens_of htot i hi; omega
  have HTOT := Lib.hid htot
  have htot2 : tot rows ≤ 1048576 := by omega
  clear hr0 htot
  go_wp2_with fail
  -- the reference on a copy
  refine (toII_any rows a c w HR.out hl20 HLN.out).mono ?_
  rintro e w1 ⟨rfl, ho1, hb1⟩
  have O1 := Lib.hid (ho1.rd HLN2.out)
  have B1 := Lib.hid hb1
  clear ho1 hb1
  go_wp2_with fail
  refine (HCS.out _ _ w1 O1.out).mono ?_
  rintro e w2 ⟨v0, rfl, ho2, hb2⟩
  have V0 := Lib.hid ho2
  have B2 := Lib.hid (B1.out.trans (hb2.mono B1.out.size))
  have hlt0 := ho2.lt
  have HLT0 := Lib.hid hlt0
  clear ho2 hb2 hlt0
  go_wp2_with fail
  -- the program on a copy
  refine (toII_any rows a c w2 (HR.out.below B2.out) hl20 HLN.out).mono ?_
  rintro e w3 ⟨rfl, ho3, hb3⟩
  have X3 := Lib.hid ho3.bound
  have V03 := Lib.hid (V0.out.below hb3)
  have B3 := Lib.hid (B2.out.trans (hb3.mono B2.out.size))
  have S23 := Lib.hid hb3.size
  clear ho3 hb3
  go_wp2_with fail
  refine (HCI.out _ _ w3 (X3.out.rd HLN2.out)).mono ?_
  rintro e w4 ⟨v1, rfl, ho4, hb4⟩
  have V14 := Lib.hid ho4
  have V04 := Lib.hid (V03.out.below hb4)
  have X4 := Lib.hid (X3.out.below hb4)
  have B4 := Lib.hid (B3.out.trans (hb4.mono B3.out.size))
  have HLT1 : Hid (∀ g, v1.ownBlock = some g → w3.heap.size ≤ g) := fun g hg => (ho4.lt g hg).1
  clear ho4 hb4
  go_wp2_with fail
  refine (eqWS_any ps v1 v0 _ _ w4 V14.out V04.out HCAN.out (by omega)).mono ?_
  rintro e w5 ⟨rfl, hb5⟩
  have V15 := Lib.hid (V14.out.below hb5)
  have V05 := Lib.hid (V04.out.below hb5)
  have X5 := Lib.hid (X4.out.below hb5)
  have B5 := Lib.hid (B4.out.trans (hb5.mono B4.out.size))
  clear hb5
  go_wp2_with fail
  -- the argument as it was
  refine (toII_any rows a c w5 (HR.out.below B5.out) hl20 HLN.out).mono ?_
  rintro e w6 ⟨rfl, ho6, hb6⟩
  have Z6 := Lib.hid (ho6.rd HLN2.out)
  have V16 := Lib.hid (V15.out.below hb6)
  have V06 := Lib.hid (V05.out.below hb6)
  have X6 := Lib.hid (X5.out.below hb6)
  have B6 := Lib.hid (B5.out.trans (hb6.mono B5.out.size))
  clear ho6 hb6
  go_wp2_with fail
  refine (eqII_any rows _ _ _ _ w6 (X6.out.rd HLN2.out) Z6.out hl20).mono ?_
  rintro e w7 ⟨rfl, q7, hq7⟩
  have hb7 : Below w6.heap.size w6 w7 := by rw [hq7]; exact below_drewN' (Below.refl _ _) _
  have V17 := Lib.hid (V16.out.below hb7)
  have V07 := Lib.hid (V06.out.below hb7)
  have X7 := Lib.hid (X6.out.below hb7)
  have B7 := Lib.hid (B6.out.trans (hb7.mono B6.out.size))
  clear hb7 hq7
  go_wp2_with fail
  -- marks in the argument
  refine (markII_any rows _ _ _ _ w7 X7.out hl20 HTOT.out).mono ?_
  rintro e w8 ⟨rfl, hout⟩
  have V18 := Lib.hid (V17.out.out hout (fun g hg => .inr (HLT1.out g hg)))
  have V08 := Lib.hid (V07.out.out hout (fun g hg => .inl (HLT0.out g hg).2))
  have B8 := Lib.hid (B7.out.trans (hout.below B2.out.size B7.out.size))
  have hk1 : ¬ (1 + (tot rows : Int)) < 0 := by omega
  clear hout
  go_wp2_with fail
  refine (eqWS_any ps v1 v0 _ _ w8 V18.out V08.out HCAN.out (by omega)).mono ?_
  rintro e w9 ⟨rfl, hb9⟩
  have V19 := Lib.hid (V18.out.below hb9)
  have V09 := Lib.hid (V08.out.below hb9)
  have B9 := Lib.hid (B8.out.trans (hb9.mono B8.out.size))
  clear hb9
  go_wp2_with fail
  -- marks in the answer
  refine (markWS_any ps v1 _ w9 V19.out hplen).mono ?_
  rintro e w10 ⟨rfl, hm10, hg10⟩
  have M10 := Lib.hid hm10
  have V010 := Lib.hid (V09.out.kept hg10 (by
    cases h0 : v0.ownBlock with
    | none => exact .inl rfl
    | some g0 =>
      refine .inr (fun e => ?_)
      have h1 := (HLT0.out g0 h0).2
      have h2 := HLT1.out g0 e.symm
      have h3 := S23.out
      omega))
  have B10 := Lib.hid (B9.out.grown hg10 B9.out.size (fun j hj => Nat.le_trans B3.out.size (HLT1.out j hj)))
  obtain ⟨mm, hmm⟩ : ∃ mm, mm = 1 + ps.length * 65 := ⟨_, rfl⟩
  have HMM := Lib.hid hmm
  rw [← hmm]
  have hm0 : ¬ (mm : Int) < 0 := by omega
  clear hm10 hg10 hmm
  go_wp2_with fail
  refine (heldWS_any ps.length v1 _ w10 M10.out hplen).mono ?_
  rintro e w' ⟨rfl, rfl⟩
  rw [← HMM.out]
  go_wp2_with fail
  -- the program again
  refine (toII_any rows a c w10 (HR.out.below B10.out) hl20 HLN.out).mono ?_
  rintro e w11 ⟨rfl, ho11, hb11⟩
  have Y11 := Lib.hid (ho11.rd HLN2.out)
  have M11 := Lib.hid (M10.out.below hb11)
  have V011 := Lib.hid (V010.out.below hb11)
  have B11 := Lib.hid (B10.out.trans (hb11.mono B10.out.size))
  clear ho11 hb11
  go_wp2_with fail
  refine (HCI.out _ _ w11 Y11.out).mono ?_
  rintro e w12 ⟨v2, rfl, ho12, hb12⟩
  have V212 := Lib.hid ho12
  have M12 := Lib.hid (M11.out.below hb12)
  have V012 := Lib.hid (V011.out.below hb12)
  have B12 := Lib.hid (B11.out.trans (hb12.mono B11.out.size))
  clear ho12 hb12
  go_wp2_with fail
  refine (eqWS_any ps v2 v0 _ _ w12 V212.out V012.out HCAN.out (by omega)).mono ?_
  rintro e w13 ⟨rfl, hb13⟩
  have M13 := Lib.hid (M12.out.below hb13)
  have B13 := Lib.hid (B12.out.trans (hb13.mono B12.out.size))
  clear hb13
  go_wp2_with fail
  refine (heldWS_any ps.length v1 _ w13 M13.out hplen).mono ?_
  rintro e w' ⟨rfl, rfl⟩
  rw [← HMM.out]
  go_wp2_with fail
  go_ret
  exact ⟨rfl, B13.out⟩
end Go.Proofs.Ytficghohflmdeaa
