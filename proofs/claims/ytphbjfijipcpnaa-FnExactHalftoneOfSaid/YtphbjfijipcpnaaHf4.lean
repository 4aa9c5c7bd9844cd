/- HalftoneOf: the reference's walk. -/
import Derived.Test.YtphbjfijipcpnaaHf3
namespace Go.Proofs.Ytphbjfijipcpnaa
open Go.RowKit
set_option linter.unusedVariables false

/-- what is there behind the region -/
def HfS (n : Nat) (l : List Nat) (b : Nat) (w0 : World) (s6 s7 s8 : Value) (wx : World) : Prop :=
  ∃ g7 g8 : Nat, s6 = .int .i64 n ∧ s7 = .pointer (some ⟨g7, 0, none⟩) ∧ s8 = .pointer (some ⟨g8, 0, none⟩) ∧ Below b w0 wx ∧ Blk wx (b + 1) (wav 0 zerosC) 41 ∧ Blk wx g7 (wav n zerosC) 41 ∧ Blk wx g8 (arr l) 29 ∧ b + 1 < g7 ∧ b + 1 < g8 ∧ g7 ≠ g8

theorem fin_sub {x y : FV} (h : fin (arith .sub .f32 x y) = true) : fin x = true := by
  cases x with
  | none => simp [arith, lift2, fin_none] at h
  | some a =>
    cases y with
    | none => simp [arith, lift2, fin_none] at h
    | some b =>
      have e : arith .sub .f32 (some a) (some b) = Ieee.single.sub a b := rfl
      rw [e] at h
      unfold Ieee.Format.sub at h
      have key : ∀ (u v : Ieee.Datum), ((∃ s, u = .infinity s) ∨ u.isNaN = true) → fin ((u.sum v).map Ieee.single.write) = false := by
        intro u v hh
        cases u <;> cases v <;> simp_all [Ieee.Datum.sum, Ieee.Datum.isNaN, fin_none, fin_inf]
        split <;> simp [fin_none, fin_inf]
      cases hf : fin (some a) with
      | true => rfl
      | false => have k := key (Ieee.single.read a) (Ieee.single.read b).opposite (fin_of_datum hf); rw [k] at h; cases h
theorem hS_next {n t k x y r : Nat} {S : List FV} {l l3 : List Nat} (hm : l.map (ab .f32) = hS n t S k) (hr : r = l.getD k 0) (hx : x = k % n) (hy : y = k / n)
    (h : l3.map (ab .f32) = (if y + 1 < n then hAdd (if x + 1 < n then hAdd (l.map (ab .f32)) (k + 1) (hHalf (ab .f32 r) t) else l.map (ab .f32)) (k + n) (hHalf (ab .f32 r) t) else (if x + 1 < n then hAdd (l.map (ab .f32)) (k + 1) (hHalf (ab .f32 r) t) else l.map (ab .f32)))) : l3.map (ab .f32) = hS n t S (k + 1) := by
  rw [h]
  show _ = hStep n t (hS n t S k) k
  unfold hStep
  rw [← hm, map_get, ← hr, ← hx, ← hy]
theorem fin_inf_not {b : Nat} (h : isNum b = false) (t : Nat) : fin (hRest (ab .f32 b) t) = false := by
  unfold hRest
  cases ho : hOpen (ab .f32 b) t with
  | false => simp only [Bool.false_eq_true, if_false]; exact h
  | true =>
    simp only [if_true]
    cases hf : fin (arith .sub .f32 (ab .f32 b) (arith .mul .f32 (ab .f32 1073741824) (ab .f32 t))) with
    | false => rfl
    | true => rw [← h]; exact (fin_sub hf).symm
theorem hC_bad {n t : Nat} {S : List FV} {k m : Nat} (hk : k < m) (h : hBad n t S k = true) : hC n t S m = true := by
  induction m with
  | zero => omega
  | succ m ih =>
    show (hC n t S m || hBad n t S m) = true
    by_cases e : k = m
    · subst e; rw [h]; simp
    · rw [ih (by omega)]; rfl
theorem hC_step {n t : Nat} {S : List FV} {k : Nat} (hc : hC n t S k = false) (h : hBad n t S k = false) : hC n t S (k + 1) = false := by
  show (hC n t S k || hBad n t S k) = false
  rw [hc, h]; rfl
theorem hBad_of {n t : Nat} {S : List FV} {k : Nat} {l : List Nat} {r : Nat} {v : Bool} (hl : l.map (ab .f32) = hS n t S k) (hr : r = l.getD k 0) (h : fin (hRest (ab .f32 r) t) = !v) : hBad n t S k = v := by
  unfold hBad
  rw [← hl, map_get, ← hr, h]; simp
theorem hG_of {n t : Nat} {S : List FV} {k : Nat} {l : List Nat} {r : Nat} {v : Bool} (hl : l.map (ab .f32) = hS n t S k) (hr : r = l.getD k 0) (h : hOpen (ab .f32 r) t = v) : hG n t S k = if v then (1065353216, 0) else (0, 0) := by
  unfold hG
  rw [← hl, map_get, ← hr, h]
theorem fillL_skip {k : Nat} (G : Nat → Nat × Nat) (h : k < 64) (hG : G k = (0, 0)) : fillL (k + 1) G = fillL k G := by
  rw [← fillL_set G h, hG]
  apply List.ext_getElem?
  intro j
  by_cases e : k = j
  · subst e
    rw [List.getElem?_set_self (by rw [fillL_length G (by omega)]; exact h)]
    have := fillL_get G (k := k) k
    rw [if_neg (by omega), List.getD_eq_getElem?_getD] at this
    rw [List.getElem?_eq_getElem (by rw [fillL_length G (by omega)]; exact h)] at this ⊢
    simpa using this.symm
  · rw [List.getElem?_set_ne e]

set_option maxRecDepth 10000 in
set_option maxHeartbeats 8000000 in
theorem rawHf_go (n t : Nat) (l : List Nat) (hl : l.length = 64) (m : Nat) (hn1 : 1 ≤ n) (hn2 : n ≤ 8) (hmul : (n : Int) * n = m) (hm : n * n = m) (hm64 : m ≤ 64) (hp : isPic n l = true) (ht : isNum t = true) (h3 : leZ t = false) (w : World) :
    Calls Try.prog 48 #[.agg (pic n l), .float .f32 t] w (WavPost (hfR n l t m) w) := by
  have hz := (zero_of_info Try.infoW).1
  have hzA := (zero_of_info Try.infoA).1
  obtain ⟨W0, hW⟩ : ∃ W0, W0 = (w.alloc (.cells (pic n l) 32)).alloc (.cells (wav 0 zerosC) 41) := ⟨_, rfl⟩
  have hb0 : Below w.heap.size w W0 := by rw [hW]; exact ((Below.refl _ _).alloc (Nat.le_refl _) _).alloc (by simp) _
  have hh := blk2 w (.cells (pic n l) 32) (.cells (wav 0 zerosC) 41)
  rw [← hW] at hh
  have b0 : Blk W0 w.heap.size (pic n l) 32 := hh.1
  have b1 : Blk W0 (w.heap.size + 1) (wav 0 zerosC) 41 := hh.2
  have B0 := Lib.hid b0
  have BR := Lib.hid b1
  have BW := Lib.hid hb0
  have HM := Lib.hid hm
  have HR : Hid (hfR n l t m = (if hC n t (l.map (ab .f32)) m then (3, 0, zerosC) else (0, (n : Int), fillL m (hG n t (l.map (ab .f32)))))) := by
    show _ = _
    unfold hfR
    rw [hp, ht, h3, Int.toNat_natCast]
    rfl
  unfold leZ at h3
  clear hb0 hh b0 b1 hm
  go_enter Try.func48, Try.ntmps48
  go_upto_region 1 with (fail)
  rw [← hW]
  clear hW
  go_wp2_with (refine wpList_load_row rfl 32 (.tmp 2) rfl w.heap.size rfl 32 (pic n l) (0, 0) _ B0.out Try.underlying32 rfl (Try.sizeP hl) ?_)
  refine (l01Shown_any n l hl _).mono ?_
  rintro e w1 ⟨rfl, hb1⟩
  rw [hp]
  have B0a := Lib.hid (B0.out.below hb1)
  have BRa := Lib.hid (BR.out.below hb1)
  have BWa := Lib.hid (BW.out.trans (hb1.mono BW.out.size))
  clear hb1 B0 BR BW
  go_upto_region 5 with (go_at_call 88; refine (l01Fine_any _ _).mono ?_; rintro e w' ⟨rfl, n1, rfl⟩; rw [ht])
  have P0' : Hid (Blk (w1.drewN n1) w.heap.size (pic n l) 32) := B0a.out.drewN n1
  have R0' : Hid (Blk (w1.drewN n1) (w.heap.size + 1) (wav 0 zerosC) 41) := BRa.out.drewN n1
  have D0' := Lib.hid (below_drewN' BWa.out n1)
  obtain ⟨U, hU⟩ : ∃ U, U = w1.drewN n1 := ⟨_, rfl⟩
  rw [← hU] at P0' R0' D0' ⊢
  clear hU B0a BRa BWa h3
  go_cut [6, 7, 8] from 25 to 31 (fun s6 s7 s8 wx => HfS n l w.heap.size w s6 s7 s8 wx)
  case first =>
    refine wp_region_held (S := fun w' => Blk w' w.heap.size (pic n l) 32) (by kernel_rfl) ?_
    change wpAnyH _ _ _ _ _ _ _ _ (World.drew _)
    obtain ⟨V0, hV0⟩ : ∃ V0, V0 = U.drew := ⟨_, rfl⟩
    have P0 : Hid (Blk V0 w.heap.size (pic n l) 32) := by show Blk _ _ _ _; rw [hV0]; exact P0'.out.drewN 1
    have R0 : Hid (Blk V0 (w.heap.size + 1) (wav 0 zerosC) 41) := by show Blk _ _ _ _; rw [hV0]; exact R0'.out.drewN 1
    have D0 : Hid (Below w.heap.size w V0) := by show Below _ _ _; rw [hV0]; exact below_drewN' D0'.out 1
    rw [← hV0]
    clear P0' R0' D0' hV0
    refine wpAnyH_take (i := 0) (v := .pointer (some ⟨w.heap.size, 0, none⟩)) rfl (by kernel_rfl) (by kernel_rfl) (by kernel_rfl) (fun _ _ _ h => h) (.inl ⟨by rfl, fun w' hS => ?_⟩) P0.out ?_
    · go_simp
    refine wpAnyH_take (i := 2) (v := .pointer (some ⟨w.heap.size, 0, none⟩)) rfl (by kernel_rfl) (by kernel_rfl) (by kernel_rfl) (fun _ _ _ h => h) (.inl ⟨by rfl, fun w' hS => ?_⟩) P0.out ?_
    · go_simp
    refine wpAnyH_take (i := 1) (v := .int .i64 n) rfl (by kernel_rfl) (by kernel_rfl) (by kernel_rfl) (fun _ _ _ h => h) (.inl ⟨by rfl, fun w' hS => ?_⟩) P0.out ?_
    · have h1 := Blk.picSide hS
      clear hS
      go_simp
    refine wpAnyH_take (i := 3) (v := .int .i64 n) rfl (by kernel_rfl) (by kernel_rfl) (by kernel_rfl) (fun _ _ _ h => h) (.inl ⟨by rfl, fun w' hS => ?_⟩) P0.out ?_
    · have h1 := Blk.picSide hS
      clear hS
      go_simp
    refine wpAnyH_take (i := 5) (v := .pointer (some ⟨w.heap.size, 1, none⟩)) rfl (by kernel_rfl) (by kernel_rfl) (by kernel_rfl) (fun _ _ _ h => h) (.inl ⟨by rfl, fun w' hS => ?_⟩) P0.out ?_
    · go_simp
    refine wpAnyH_take (i := 6) (v := .agg (arr l)) rfl (by kernel_rfl) (by kernel_rfl) (by kernel_rfl) (fun _ _ _ h => h) (.inl ⟨by rfl, fun w' hS => ?_⟩) P0.out ?_
    · exact exec_load_mid 29 _ rfl w.heap.size 1 rfl (l.map flt) _ (Blk.picMid hS) Try.underlying29 rfl (Try.sizeA' hl)
    refine wpAnyH_ready (rs := [4, 7, 8]) (by kernel_rfl) (by simp) ?_
    refine AllReadyH.cons rfl (fun K hK => ?_) ?_
    · go_simp
      refine (l01Empty_any n V0).mono ?_
      rintro e V1 ⟨rfl, hb⟩
      have P1 := Lib.hid (P0.out.below hb)
      have R1 := Lib.hid (R0.out.below hb)
      have D1 := Lib.hid (D0.out.trans (hb.mono D0.out.size))
      clear hb P0 R0 D0
      try go_simp
      refine hK.out _ _ P1.out (fun _ => ?_)
      clear hK K
      refine wpAnyH_ready (rs := [7, 8]) (by kernel_rfl) (by simp) ?_
      refine AllReadyH.cons rfl (fun K hK => ?_) ?_
      · go_simp
        obtain ⟨V2, hV2⟩ : ∃ V2, V2 = V1.alloc (.cells (wav 0 zerosC) 41) := ⟨_, rfl⟩
        have hb : Below V1.heap.size V1 V2 := by rw [hV2]; exact (Below.refl _ _).alloc (Nat.le_refl _) _
        have hltR := R1.out.lt
        have P2 := Lib.hid (P1.out.below hb)
        have R2 := Lib.hid (R1.out.below hb)
        have D2 := Lib.hid (D1.out.trans (hb.mono D1.out.size))
        obtain ⟨g7, hg7⟩ : ∃ g7, g7 = V1.heap.size := ⟨_, rfl⟩
        have B2 : Hid (Blk V2 g7 (wav 0 zerosC) 41) := by show Blk _ _ _ _; rw [hV2, hg7]; exact Blk.new V1 _ _
        have ng7 : w.heap.size + 1 < g7 := by omega
        rw [← hV2, ← hg7]
        clear hb hV2 hg7 P1 R1 D1 hltR 
        refine hK.out _ _ P2.out (fun _ => ?_)
        clear hK K
        refine wpAnyH_ready (rs := [8]) (by kernel_rfl) (by simp) ?_
        refine AllReadyH.cons rfl (fun K hK => ?_) ?_
        · go_simp
          obtain ⟨V3, hV3⟩ : ∃ V3, V3 = V2.alloc (.cells (arr zeros) 29) := ⟨_, rfl⟩
          have hb : Below V2.heap.size V2 V3 := by rw [hV3]; exact (Below.refl _ _).alloc (Nat.le_refl _) _
          have hltR := R2.out.lt
          have hlt7 := B2.out.lt
          have P3 := Lib.hid (P2.out.below hb)
          have R3 := Lib.hid (R2.out.below hb)
          have B3 := Lib.hid (B2.out.below hb)
          have D3 := Lib.hid (D2.out.trans (hb.mono D2.out.size))
          obtain ⟨g8, hg8⟩ : ∃ g8, g8 = V2.heap.size := ⟨_, rfl⟩
          have C3 : Hid (Blk V3 g8 (arr zeros) 29) := by show Blk _ _ _ _; rw [hV3, hg8]; exact Blk.new V2 _ _
          have ng8 : w.heap.size + 1 < g8 := by omega
          have n78 : g7 ≠ g8 := by omega
          rw [← hV3, ← hg8]
          clear hb hV3 hg8 P2 R2 B2 D2 hltR hlt7
          refine hK.out _ _ P3.out (fun _ => ?_)
          clear hK K
          refine wpAnyH_ready (rs := [9]) (by kernel_rfl) (by simp) ?_
          refine AllReadyH.cons rfl (fun K hK => ?_) AllReadyH.nil
          go_simp
          refine hK.out _ _ P3.out (fun _ => ?_)
          clear hK K
          refine wpAnyH_ready (rs := [10]) (by kernel_rfl) (by simp) ?_
          refine AllReadyH.cons rfl (fun K hK => ?_) AllReadyH.nil
          rw [if_pos (by rfl)]
          refine wp_store_row 41 _ _ rfl g7 (wav n zerosC) rfl rfl 41 (wav 0 zerosC) B3.out (Try.sizeW zerosC_length) rfl (wav_one _ _) ?_
          obtain ⟨V4, hV4⟩ : ∃ V4, V4 = V3.setRow g7 (wav n zerosC) := ⟨_, rfl⟩
          have P4 : Hid (Blk V4 w.heap.size (pic n l) 32) := by show Blk _ _ _ _; rw [hV4]; exact P3.out.rowOther (by omega) _
          have R4 : Hid (Blk V4 (w.heap.size + 1) (wav 0 zerosC) 41) := by show Blk _ _ _ _; rw [hV4]; exact R3.out.rowOther (by omega) _
          have D4 : Hid (Below w.heap.size w V4) := by show Below _ _ _; rw [hV4]; exact Below.setRow D3.out (by omega) _
          have B4 : Hid (Blk V4 g7 (wav n zerosC) 41) := by show Blk _ _ _ _; rw [hV4]; exact B3.out.row _
          have C4 : Hid (Blk V4 g8 (arr zeros) 29) := by show Blk _ _ _ _; rw [hV4]; exact C3.out.rowOther (by omega) _
          rw [← hV4]
          clear hV4 P3 R3 B3 C3 D3
          refine hK.out _ _ P4.out (fun _ => ?_)
          clear hK K
          refine wpAnyH_ready (rs := [11]) (by kernel_rfl) (by simp) ?_
          refine AllReadyH.cons rfl (fun K hK => ?_) AllReadyH.nil
          rw [if_pos (by rfl)]
          refine wp_store_row 29 _ _ rfl g8 (arr l) rfl rfl 29 (arr zeros) C4.out (Try.sizeA hl) (by rw [arr_size, arr_size, hl]; rfl) (arr_one _) ?_
          obtain ⟨V5, hV5⟩ : ∃ V5, V5 = V4.setRow g8 (arr l) := ⟨_, rfl⟩
          have P5 : Hid (Blk V5 w.heap.size (pic n l) 32) := by show Blk _ _ _ _; rw [hV5]; exact P4.out.rowOther (by omega) _
          have R5 : Hid (Blk V5 (w.heap.size + 1) (wav 0 zerosC) 41) := by show Blk _ _ _ _; rw [hV5]; exact R4.out.rowOther (by omega) _
          have D5 : Hid (Below w.heap.size w V5) := by show Below _ _ _; rw [hV5]; exact Below.setRow D4.out (by omega) _
          have B5 : Hid (Blk V5 g7 (wav n zerosC) 41) := by show Blk _ _ _ _; rw [hV5]; exact B4.out.rowOther (by omega) _
          have C5 : Hid (Blk V5 g8 (arr l) 29) := by show Blk _ _ _ _; rw [hV5]; exact C4.out.row _
          rw [← hV5]
          clear hV5 P4 R4 B4 C4 D4
          refine hK.out _ _ P5.out (fun _ => ?_)
          clear hK K
          refine wpAnyH_done (by kernel_rfl) ?_ _
          go_wp2_with fail
          go_meet
          case rel => exact ⟨g7, g8, rfl, rfl, rfl, D5.out, R5.out, B5.out, C5.out, ng7, ng8, n78⟩
        exact AllReadyH.nil
      refine AllReadyH.cons rfl (fun K hK => ?_) ?_
      · go_simp
        obtain ⟨V2, hV2⟩ : ∃ V2, V2 = V1.alloc (.cells (arr zeros) 29) := ⟨_, rfl⟩
        have hb : Below V1.heap.size V1 V2 := by rw [hV2]; exact (Below.refl _ _).alloc (Nat.le_refl _) _
        have hltR := R1.out.lt
        have P2 := Lib.hid (P1.out.below hb)
        have R2 := Lib.hid (R1.out.below hb)
        have D2 := Lib.hid (D1.out.trans (hb.mono D1.out.size))
        obtain ⟨g8, hg8⟩ : ∃ g8, g8 = V1.heap.size := ⟨_, rfl⟩
        have C2 : Hid (Blk V2 g8 (arr zeros) 29) := by show Blk _ _ _ _; rw [hV2, hg8]; exact Blk.new V1 _ _
        have ng8 : w.heap.size + 1 < g8 := by omega
        rw [← hV2, ← hg8]
        clear hb hV2 hg8 P1 R1 D1 hltR 
        refine hK.out _ _ P2.out (fun _ => ?_)
        clear hK K
        refine wpAnyH_ready (rs := [7]) (by kernel_rfl) (by simp) ?_
        refine AllReadyH.cons rfl (fun K hK => ?_) ?_
        · go_simp
          obtain ⟨V3, hV3⟩ : ∃ V3, V3 = V2.alloc (.cells (wav 0 zerosC) 41) := ⟨_, rfl⟩
          have hb : Below V2.heap.size V2 V3 := by rw [hV3]; exact (Below.refl _ _).alloc (Nat.le_refl _) _
          have hltR := R2.out.lt
          have hlt8 := C2.out.lt
          have P3 := Lib.hid (P2.out.below hb)
          have R3 := Lib.hid (R2.out.below hb)
          have C3 := Lib.hid (C2.out.below hb)
          have D3 := Lib.hid (D2.out.trans (hb.mono D2.out.size))
          obtain ⟨g7, hg7⟩ : ∃ g7, g7 = V2.heap.size := ⟨_, rfl⟩
          have B3 : Hid (Blk V3 g7 (wav 0 zerosC) 41) := by show Blk _ _ _ _; rw [hV3, hg7]; exact Blk.new V2 _ _
          have ng7 : w.heap.size + 1 < g7 := by omega
          have n78 : g7 ≠ g8 := by omega
          rw [← hV3, ← hg7]
          clear hb hV3 hg7 P2 R2 C2 D2 hltR hlt8
          refine hK.out _ _ P3.out (fun _ => ?_)
          clear hK K
          refine wpAnyH_ready (rs := [9]) (by kernel_rfl) (by simp) ?_
          refine AllReadyH.cons rfl (fun K hK => ?_) AllReadyH.nil
          go_simp
          refine hK.out _ _ P3.out (fun _ => ?_)
          clear hK K
          refine wpAnyH_ready (rs := [10]) (by kernel_rfl) (by simp) ?_
          refine AllReadyH.cons rfl (fun K hK => ?_) AllReadyH.nil
          rw [if_pos (by rfl)]
          refine wp_store_row 41 _ _ rfl g7 (wav n zerosC) rfl rfl 41 (wav 0 zerosC) B3.out (Try.sizeW zerosC_length) rfl (wav_one _ _) ?_
          obtain ⟨V4, hV4⟩ : ∃ V4, V4 = V3.setRow g7 (wav n zerosC) := ⟨_, rfl⟩
          have P4 : Hid (Blk V4 w.heap.size (pic n l) 32) := by show Blk _ _ _ _; rw [hV4]; exact P3.out.rowOther (by omega) _
          have R4 : Hid (Blk V4 (w.heap.size + 1) (wav 0 zerosC) 41) := by show Blk _ _ _ _; rw [hV4]; exact R3.out.rowOther (by omega) _
          have D4 : Hid (Below w.heap.size w V4) := by show Below _ _ _; rw [hV4]; exact Below.setRow D3.out (by omega) _
          have B4 : Hid (Blk V4 g7 (wav n zerosC) 41) := by show Blk _ _ _ _; rw [hV4]; exact B3.out.row _
          have C4 : Hid (Blk V4 g8 (arr zeros) 29) := by show Blk _ _ _ _; rw [hV4]; exact C3.out.rowOther (by omega) _
          rw [← hV4]
          clear hV4 P3 R3 B3 C3 D3
          refine hK.out _ _ P4.out (fun _ => ?_)
          clear hK K
          refine wpAnyH_ready (rs := [11]) (by kernel_rfl) (by simp) ?_
          refine AllReadyH.cons rfl (fun K hK => ?_) AllReadyH.nil
          rw [if_pos (by rfl)]
          refine wp_store_row 29 _ _ rfl g8 (arr l) rfl rfl 29 (arr zeros) C4.out (Try.sizeA hl) (by rw [arr_size, arr_size, hl]; rfl) (arr_one _) ?_
          obtain ⟨V5, hV5⟩ : ∃ V5, V5 = V4.setRow g8 (arr l) := ⟨_, rfl⟩
          have P5 : Hid (Blk V5 w.heap.size (pic n l) 32) := by show Blk _ _ _ _; rw [hV5]; exact P4.out.rowOther (by omega) _
          have R5 : Hid (Blk V5 (w.heap.size + 1) (wav 0 zerosC) 41) := by show Blk _ _ _ _; rw [hV5]; exact R4.out.rowOther (by omega) _
          have D5 : Hid (Below w.heap.size w V5) := by show Below _ _ _; rw [hV5]; exact Below.setRow D4.out (by omega) _
          have B5 : Hid (Blk V5 g7 (wav n zerosC) 41) := by show Blk _ _ _ _; rw [hV5]; exact B4.out.rowOther (by omega) _
          have C5 : Hid (Blk V5 g8 (arr l) 29) := by show Blk _ _ _ _; rw [hV5]; exact C4.out.row _
          rw [← hV5]
          clear hV5 P4 R4 B4 C4 D4
          refine hK.out _ _ P5.out (fun _ => ?_)
          clear hK K
          refine wpAnyH_done (by kernel_rfl) ?_ _
          go_wp2_with fail
          go_meet
          case rel => exact ⟨g7, g8, rfl, rfl, rfl, D5.out, R5.out, B5.out, C5.out, ng7, ng8, n78⟩
        exact AllReadyH.nil
      exact AllReadyH.nil
    refine AllReadyH.cons rfl (fun K hK => ?_) ?_
    · go_simp
      obtain ⟨V1, hV1⟩ : ∃ V1, V1 = V0.alloc (.cells (wav 0 zerosC) 41) := ⟨_, rfl⟩
      have hb : Below V0.heap.size V0 V1 := by rw [hV1]; exact (Below.refl _ _).alloc (Nat.le_refl _) _
      have hltR := R0.out.lt
      have P1 := Lib.hid (P0.out.below hb)
      have R1 := Lib.hid (R0.out.below hb)
      have D1 := Lib.hid (D0.out.trans (hb.mono D0.out.size))
      obtain ⟨g7, hg7⟩ : ∃ g7, g7 = V0.heap.size := ⟨_, rfl⟩
      have B1 : Hid (Blk V1 g7 (wav 0 zerosC) 41) := by show Blk _ _ _ _; rw [hV1, hg7]; exact Blk.new V0 _ _
      have ng7 : w.heap.size + 1 < g7 := by omega
      rw [← hV1, ← hg7]
      clear hb hV1 hg7 P0 R0 D0 hltR 
      refine hK.out _ _ P1.out (fun _ => ?_)
      clear hK K
      refine wpAnyH_ready (rs := [4, 8]) (by kernel_rfl) (by simp) ?_
      refine AllReadyH.cons rfl (fun K hK => ?_) ?_
      · go_simp
        refine (l01Empty_any n V1).mono ?_
        rintro e V2 ⟨rfl, hb⟩
        have P2 := Lib.hid (P1.out.below hb)
        have R2 := Lib.hid (R1.out.below hb)
        have B2 := Lib.hid (B1.out.below hb)
        have D2 := Lib.hid (D1.out.trans (hb.mono D1.out.size))
        clear hb P1 R1 B1 D1
        try go_simp
        refine hK.out _ _ P2.out (fun _ => ?_)
        clear hK K
        refine wpAnyH_ready (rs := [8]) (by kernel_rfl) (by simp) ?_
        refine AllReadyH.cons rfl (fun K hK => ?_) ?_
        · go_simp
          obtain ⟨V3, hV3⟩ : ∃ V3, V3 = V2.alloc (.cells (arr zeros) 29) := ⟨_, rfl⟩
          have hb : Below V2.heap.size V2 V3 := by rw [hV3]; exact (Below.refl _ _).alloc (Nat.le_refl _) _
          have hltR := R2.out.lt
          have hlt7 := B2.out.lt
          have P3 := Lib.hid (P2.out.below hb)
          have R3 := Lib.hid (R2.out.below hb)
          have B3 := Lib.hid (B2.out.below hb)
          have D3 := Lib.hid (D2.out.trans (hb.mono D2.out.size))
          obtain ⟨g8, hg8⟩ : ∃ g8, g8 = V2.heap.size := ⟨_, rfl⟩
          have C3 : Hid (Blk V3 g8 (arr zeros) 29) := by show Blk _ _ _ _; rw [hV3, hg8]; exact Blk.new V2 _ _
          have ng8 : w.heap.size + 1 < g8 := by omega
          have n78 : g7 ≠ g8 := by omega
          rw [← hV3, ← hg8]
          clear hb hV3 hg8 P2 R2 B2 D2 hltR hlt7
          refine hK.out _ _ P3.out (fun _ => ?_)
          clear hK K
          refine wpAnyH_ready (rs := [9]) (by kernel_rfl) (by simp) ?_
          refine AllReadyH.cons rfl (fun K hK => ?_) AllReadyH.nil
          go_simp
          refine hK.out _ _ P3.out (fun _ => ?_)
          clear hK K
          refine wpAnyH_ready (rs := [10]) (by kernel_rfl) (by simp) ?_
          refine AllReadyH.cons rfl (fun K hK => ?_) AllReadyH.nil
          rw [if_pos (by rfl)]
          refine wp_store_row 41 _ _ rfl g7 (wav n zerosC) rfl rfl 41 (wav 0 zerosC) B3.out (Try.sizeW zerosC_length) rfl (wav_one _ _) ?_
          obtain ⟨V4, hV4⟩ : ∃ V4, V4 = V3.setRow g7 (wav n zerosC) := ⟨_, rfl⟩
          have P4 : Hid (Blk V4 w.heap.size (pic n l) 32) := by show Blk _ _ _ _; rw [hV4]; exact P3.out.rowOther (by omega) _
          have R4 : Hid (Blk V4 (w.heap.size + 1) (wav 0 zerosC) 41) := by show Blk _ _ _ _; rw [hV4]; exact R3.out.rowOther (by omega) _
          have D4 : Hid (Below w.heap.size w V4) := by show Below _ _ _; rw [hV4]; exact Below.setRow D3.out (by omega) _
          have B4 : Hid (Blk V4 g7 (wav n zerosC) 41) := by show Blk _ _ _ _; rw [hV4]; exact B3.out.row _
          have C4 : Hid (Blk V4 g8 (arr zeros) 29) := by show Blk _ _ _ _; rw [hV4]; exact C3.out.rowOther (by omega) _
          rw [← hV4]
          clear hV4 P3 R3 B3 C3 D3
          refine hK.out _ _ P4.out (fun _ => ?_)
          clear hK K
          refine wpAnyH_ready (rs := [11]) (by kernel_rfl) (by simp) ?_
          refine AllReadyH.cons rfl (fun K hK => ?_) AllReadyH.nil
          rw [if_pos (by rfl)]
          refine wp_store_row 29 _ _ rfl g8 (arr l) rfl rfl 29 (arr zeros) C4.out (Try.sizeA hl) (by rw [arr_size, arr_size, hl]; rfl) (arr_one _) ?_
          obtain ⟨V5, hV5⟩ : ∃ V5, V5 = V4.setRow g8 (arr l) := ⟨_, rfl⟩
          have P5 : Hid (Blk V5 w.heap.size (pic n l) 32) := by show Blk _ _ _ _; rw [hV5]; exact P4.out.rowOther (by omega) _
          have R5 : Hid (Blk V5 (w.heap.size + 1) (wav 0 zerosC) 41) := by show Blk _ _ _ _; rw [hV5]; exact R4.out.rowOther (by omega) _
          have D5 : Hid (Below w.heap.size w V5) := by show Below _ _ _; rw [hV5]; exact Below.setRow D4.out (by omega) _
          have B5 : Hid (Blk V5 g7 (wav n zerosC) 41) := by show Blk _ _ _ _; rw [hV5]; exact B4.out.rowOther (by omega) _
          have C5 : Hid (Blk V5 g8 (arr l) 29) := by show Blk _ _ _ _; rw [hV5]; exact C4.out.row _
          rw [← hV5]
          clear hV5 P4 R4 B4 C4 D4
          refine hK.out _ _ P5.out (fun _ => ?_)
          clear hK K
          refine wpAnyH_done (by kernel_rfl) ?_ _
          go_wp2_with fail
          go_meet
          case rel => exact ⟨g7, g8, rfl, rfl, rfl, D5.out, R5.out, B5.out, C5.out, ng7, ng8, n78⟩
        exact AllReadyH.nil
      refine AllReadyH.cons rfl (fun K hK => ?_) ?_
      · go_simp
        obtain ⟨V2, hV2⟩ : ∃ V2, V2 = V1.alloc (.cells (arr zeros) 29) := ⟨_, rfl⟩
        have hb : Below V1.heap.size V1 V2 := by rw [hV2]; exact (Below.refl _ _).alloc (Nat.le_refl _) _
        have hltR := R1.out.lt
        have hlt7 := B1.out.lt
        have P2 := Lib.hid (P1.out.below hb)
        have R2 := Lib.hid (R1.out.below hb)
        have B2 := Lib.hid (B1.out.below hb)
        have D2 := Lib.hid (D1.out.trans (hb.mono D1.out.size))
        obtain ⟨g8, hg8⟩ : ∃ g8, g8 = V1.heap.size := ⟨_, rfl⟩
        have C2 : Hid (Blk V2 g8 (arr zeros) 29) := by show Blk _ _ _ _; rw [hV2, hg8]; exact Blk.new V1 _ _
        have ng8 : w.heap.size + 1 < g8 := by omega
        have n78 : g7 ≠ g8 := by omega
        rw [← hV2, ← hg8]
        clear hb hV2 hg8 P1 R1 B1 D1 hltR hlt7
        refine hK.out _ _ P2.out (fun _ => ?_)
        clear hK K
        refine wpAnyH_ready (rs := [4]) (by kernel_rfl) (by simp) ?_
        refine AllReadyH.cons rfl (fun K hK => ?_) ?_
        · go_simp
          refine (l01Empty_any n V2).mono ?_
          rintro e V3 ⟨rfl, hb⟩
          have P3 := Lib.hid (P2.out.below hb)
          have R3 := Lib.hid (R2.out.below hb)
          have B3 := Lib.hid (B2.out.below hb)
          have C3 := Lib.hid (C2.out.below hb)
          have D3 := Lib.hid (D2.out.trans (hb.mono D2.out.size))
          clear hb P2 R2 B2 C2 D2
          try go_simp
          refine hK.out _ _ P3.out (fun _ => ?_)
          clear hK K
          refine wpAnyH_ready (rs := [9]) (by kernel_rfl) (by simp) ?_
          refine AllReadyH.cons rfl (fun K hK => ?_) AllReadyH.nil
          go_simp
          refine hK.out _ _ P3.out (fun _ => ?_)
          clear hK K
          refine wpAnyH_ready (rs := [10]) (by kernel_rfl) (by simp) ?_
          refine AllReadyH.cons rfl (fun K hK => ?_) AllReadyH.nil
          rw [if_pos (by rfl)]
          refine wp_store_row 41 _ _ rfl g7 (wav n zerosC) rfl rfl 41 (wav 0 zerosC) B3.out (Try.sizeW zerosC_length) rfl (wav_one _ _) ?_
          obtain ⟨V4, hV4⟩ : ∃ V4, V4 = V3.setRow g7 (wav n zerosC) := ⟨_, rfl⟩
          have P4 : Hid (Blk V4 w.heap.size (pic n l) 32) := by show Blk _ _ _ _; rw [hV4]; exact P3.out.rowOther (by omega) _
          have R4 : Hid (Blk V4 (w.heap.size + 1) (wav 0 zerosC) 41) := by show Blk _ _ _ _; rw [hV4]; exact R3.out.rowOther (by omega) _
          have D4 : Hid (Below w.heap.size w V4) := by show Below _ _ _; rw [hV4]; exact Below.setRow D3.out (by omega) _
          have B4 : Hid (Blk V4 g7 (wav n zerosC) 41) := by show Blk _ _ _ _; rw [hV4]; exact B3.out.row _
          have C4 : Hid (Blk V4 g8 (arr zeros) 29) := by show Blk _ _ _ _; rw [hV4]; exact C3.out.rowOther (by omega) _
          rw [← hV4]
          clear hV4 P3 R3 B3 C3 D3
          refine hK.out _ _ P4.out (fun _ => ?_)
          clear hK K
          refine wpAnyH_ready (rs := [11]) (by kernel_rfl) (by simp) ?_
          refine AllReadyH.cons rfl (fun K hK => ?_) AllReadyH.nil
          rw [if_pos (by rfl)]
          refine wp_store_row 29 _ _ rfl g8 (arr l) rfl rfl 29 (arr zeros) C4.out (Try.sizeA hl) (by rw [arr_size, arr_size, hl]; rfl) (arr_one _) ?_
          obtain ⟨V5, hV5⟩ : ∃ V5, V5 = V4.setRow g8 (arr l) := ⟨_, rfl⟩
          have P5 : Hid (Blk V5 w.heap.size (pic n l) 32) := by show Blk _ _ _ _; rw [hV5]; exact P4.out.rowOther (by omega) _
          have R5 : Hid (Blk V5 (w.heap.size + 1) (wav 0 zerosC) 41) := by show Blk _ _ _ _; rw [hV5]; exact R4.out.rowOther (by omega) _
          have D5 : Hid (Below w.heap.size w V5) := by show Below _ _ _; rw [hV5]; exact Below.setRow D4.out (by omega) _
          have B5 : Hid (Blk V5 g7 (wav n zerosC) 41) := by show Blk _ _ _ _; rw [hV5]; exact B4.out.rowOther (by omega) _
          have C5 : Hid (Blk V5 g8 (arr l) 29) := by show Blk _ _ _ _; rw [hV5]; exact C4.out.row _
          rw [← hV5]
          clear hV5 P4 R4 B4 C4 D4
          refine hK.out _ _ P5.out (fun _ => ?_)
          clear hK K
          refine wpAnyH_done (by kernel_rfl) ?_ _
          go_wp2_with fail
          go_meet
          case rel => exact ⟨g7, g8, rfl, rfl, rfl, D5.out, R5.out, B5.out, C5.out, ng7, ng8, n78⟩
        exact AllReadyH.nil
      exact AllReadyH.nil
    refine AllReadyH.cons rfl (fun K hK => ?_) ?_
    · go_simp
      obtain ⟨V1, hV1⟩ : ∃ V1, V1 = V0.alloc (.cells (arr zeros) 29) := ⟨_, rfl⟩
      have hb : Below V0.heap.size V0 V1 := by rw [hV1]; exact (Below.refl _ _).alloc (Nat.le_refl _) _
      have hltR := R0.out.lt
      have P1 := Lib.hid (P0.out.below hb)
      have R1 := Lib.hid (R0.out.below hb)
      have D1 := Lib.hid (D0.out.trans (hb.mono D0.out.size))
      obtain ⟨g8, hg8⟩ : ∃ g8, g8 = V0.heap.size := ⟨_, rfl⟩
      have C1 : Hid (Blk V1 g8 (arr zeros) 29) := by show Blk _ _ _ _; rw [hV1, hg8]; exact Blk.new V0 _ _
      have ng8 : w.heap.size + 1 < g8 := by omega
      rw [← hV1, ← hg8]
      clear hb hV1 hg8 P0 R0 D0 hltR 
      refine hK.out _ _ P1.out (fun _ => ?_)
      clear hK K
      refine wpAnyH_ready (rs := [4, 7]) (by kernel_rfl) (by simp) ?_
      refine AllReadyH.cons rfl (fun K hK => ?_) ?_
      · go_simp
        refine (l01Empty_any n V1).mono ?_
        rintro e V2 ⟨rfl, hb⟩
        have P2 := Lib.hid (P1.out.below hb)
        have R2 := Lib.hid (R1.out.below hb)
        have C2 := Lib.hid (C1.out.below hb)
        have D2 := Lib.hid (D1.out.trans (hb.mono D1.out.size))
        clear hb P1 R1 C1 D1
        try go_simp
        refine hK.out _ _ P2.out (fun _ => ?_)
        clear hK K
        refine wpAnyH_ready (rs := [7]) (by kernel_rfl) (by simp) ?_
        refine AllReadyH.cons rfl (fun K hK => ?_) ?_
        · go_simp
          obtain ⟨V3, hV3⟩ : ∃ V3, V3 = V2.alloc (.cells (wav 0 zerosC) 41) := ⟨_, rfl⟩
          have hb : Below V2.heap.size V2 V3 := by rw [hV3]; exact (Below.refl _ _).alloc (Nat.le_refl _) _
          have hltR := R2.out.lt
          have hlt8 := C2.out.lt
          have P3 := Lib.hid (P2.out.below hb)
          have R3 := Lib.hid (R2.out.below hb)
          have C3 := Lib.hid (C2.out.below hb)
          have D3 := Lib.hid (D2.out.trans (hb.mono D2.out.size))
          obtain ⟨g7, hg7⟩ : ∃ g7, g7 = V2.heap.size := ⟨_, rfl⟩
          have B3 : Hid (Blk V3 g7 (wav 0 zerosC) 41) := by show Blk _ _ _ _; rw [hV3, hg7]; exact Blk.new V2 _ _
          have ng7 : w.heap.size + 1 < g7 := by omega
          have n78 : g7 ≠ g8 := by omega
          rw [← hV3, ← hg7]
          clear hb hV3 hg7 P2 R2 C2 D2 hltR hlt8
          refine hK.out _ _ P3.out (fun _ => ?_)
          clear hK K
          refine wpAnyH_ready (rs := [9]) (by kernel_rfl) (by simp) ?_
          refine AllReadyH.cons rfl (fun K hK => ?_) AllReadyH.nil
          go_simp
          refine hK.out _ _ P3.out (fun _ => ?_)
          clear hK K
          refine wpAnyH_ready (rs := [10]) (by kernel_rfl) (by simp) ?_
          refine AllReadyH.cons rfl (fun K hK => ?_) AllReadyH.nil
          rw [if_pos (by rfl)]
          refine wp_store_row 41 _ _ rfl g7 (wav n zerosC) rfl rfl 41 (wav 0 zerosC) B3.out (Try.sizeW zerosC_length) rfl (wav_one _ _) ?_
          obtain ⟨V4, hV4⟩ : ∃ V4, V4 = V3.setRow g7 (wav n zerosC) := ⟨_, rfl⟩
          have P4 : Hid (Blk V4 w.heap.size (pic n l) 32) := by show Blk _ _ _ _; rw [hV4]; exact P3.out.rowOther (by omega) _
          have R4 : Hid (Blk V4 (w.heap.size + 1) (wav 0 zerosC) 41) := by show Blk _ _ _ _; rw [hV4]; exact R3.out.rowOther (by omega) _
          have D4 : Hid (Below w.heap.size w V4) := by show Below _ _ _; rw [hV4]; exact Below.setRow D3.out (by omega) _
          have B4 : Hid (Blk V4 g7 (wav n zerosC) 41) := by show Blk _ _ _ _; rw [hV4]; exact B3.out.row _
          have C4 : Hid (Blk V4 g8 (arr zeros) 29) := by show Blk _ _ _ _; rw [hV4]; exact C3.out.rowOther (by omega) _
          rw [← hV4]
          clear hV4 P3 R3 B3 C3 D3
          refine hK.out _ _ P4.out (fun _ => ?_)
          clear hK K
          refine wpAnyH_ready (rs := [11]) (by kernel_rfl) (by simp) ?_
          refine AllReadyH.cons rfl (fun K hK => ?_) AllReadyH.nil
          rw [if_pos (by rfl)]
          refine wp_store_row 29 _ _ rfl g8 (arr l) rfl rfl 29 (arr zeros) C4.out (Try.sizeA hl) (by rw [arr_size, arr_size, hl]; rfl) (arr_one _) ?_
          obtain ⟨V5, hV5⟩ : ∃ V5, V5 = V4.setRow g8 (arr l) := ⟨_, rfl⟩
          have P5 : Hid (Blk V5 w.heap.size (pic n l) 32) := by show Blk _ _ _ _; rw [hV5]; exact P4.out.rowOther (by omega) _
          have R5 : Hid (Blk V5 (w.heap.size + 1) (wav 0 zerosC) 41) := by show Blk _ _ _ _; rw [hV5]; exact R4.out.rowOther (by omega) _
          have D5 : Hid (Below w.heap.size w V5) := by show Below _ _ _; rw [hV5]; exact Below.setRow D4.out (by omega) _
          have B5 : Hid (Blk V5 g7 (wav n zerosC) 41) := by show Blk _ _ _ _; rw [hV5]; exact B4.out.rowOther (by omega) _
          have C5 : Hid (Blk V5 g8 (arr l) 29) := by show Blk _ _ _ _; rw [hV5]; exact C4.out.row _
          rw [← hV5]
          clear hV5 P4 R4 B4 C4 D4
          refine hK.out _ _ P5.out (fun _ => ?_)
          clear hK K
          refine wpAnyH_done (by kernel_rfl) ?_ _
          go_wp2_with fail
          go_meet
          case rel => exact ⟨g7, g8, rfl, rfl, rfl, D5.out, R5.out, B5.out, C5.out, ng7, ng8, n78⟩
        exact AllReadyH.nil
      refine AllReadyH.cons rfl (fun K hK => ?_) ?_
      · go_simp
        obtain ⟨V2, hV2⟩ : ∃ V2, V2 = V1.alloc (.cells (wav 0 zerosC) 41) := ⟨_, rfl⟩
        have hb : Below V1.heap.size V1 V2 := by rw [hV2]; exact (Below.refl _ _).alloc (Nat.le_refl _) _
        have hltR := R1.out.lt
        have hlt8 := C1.out.lt
        have P2 := Lib.hid (P1.out.below hb)
        have R2 := Lib.hid (R1.out.below hb)
        have C2 := Lib.hid (C1.out.below hb)
        have D2 := Lib.hid (D1.out.trans (hb.mono D1.out.size))
        obtain ⟨g7, hg7⟩ : ∃ g7, g7 = V1.heap.size := ⟨_, rfl⟩
        have B2 : Hid (Blk V2 g7 (wav 0 zerosC) 41) := by show Blk _ _ _ _; rw [hV2, hg7]; exact Blk.new V1 _ _
        have ng7 : w.heap.size + 1 < g7 := by omega
        have n78 : g7 ≠ g8 := by omega
        rw [← hV2, ← hg7]
        clear hb hV2 hg7 P1 R1 C1 D1 hltR hlt8
        refine hK.out _ _ P2.out (fun _ => ?_)
        clear hK K
        refine wpAnyH_ready (rs := [4]) (by kernel_rfl) (by simp) ?_
        refine AllReadyH.cons rfl (fun K hK => ?_) ?_
        · go_simp
          refine (l01Empty_any n V2).mono ?_
          rintro e V3 ⟨rfl, hb⟩
          have P3 := Lib.hid (P2.out.below hb)
          have R3 := Lib.hid (R2.out.below hb)
          have B3 := Lib.hid (B2.out.below hb)
          have C3 := Lib.hid (C2.out.below hb)
          have D3 := Lib.hid (D2.out.trans (hb.mono D2.out.size))
          clear hb P2 R2 B2 C2 D2
          try go_simp
          refine hK.out _ _ P3.out (fun _ => ?_)
          clear hK K
          refine wpAnyH_ready (rs := [9]) (by kernel_rfl) (by simp) ?_
          refine AllReadyH.cons rfl (fun K hK => ?_) AllReadyH.nil
          go_simp
          refine hK.out _ _ P3.out (fun _ => ?_)
          clear hK K
          refine wpAnyH_ready (rs := [10]) (by kernel_rfl) (by simp) ?_
          refine AllReadyH.cons rfl (fun K hK => ?_) AllReadyH.nil
          rw [if_pos (by rfl)]
          refine wp_store_row 41 _ _ rfl g7 (wav n zerosC) rfl rfl 41 (wav 0 zerosC) B3.out (Try.sizeW zerosC_length) rfl (wav_one _ _) ?_
          obtain ⟨V4, hV4⟩ : ∃ V4, V4 = V3.setRow g7 (wav n zerosC) := ⟨_, rfl⟩
          have P4 : Hid (Blk V4 w.heap.size (pic n l) 32) := by show Blk _ _ _ _; rw [hV4]; exact P3.out.rowOther (by omega) _
          have R4 : Hid (Blk V4 (w.heap.size + 1) (wav 0 zerosC) 41) := by show Blk _ _ _ _; rw [hV4]; exact R3.out.rowOther (by omega) _
          have D4 : Hid (Below w.heap.size w V4) := by show Below _ _ _; rw [hV4]; exact Below.setRow D3.out (by omega) _
          have B4 : Hid (Blk V4 g7 (wav n zerosC) 41) := by show Blk _ _ _ _; rw [hV4]; exact B3.out.row _
          have C4 : Hid (Blk V4 g8 (arr zeros) 29) := by show Blk _ _ _ _; rw [hV4]; exact C3.out.rowOther (by omega) _
          rw [← hV4]
          clear hV4 P3 R3 B3 C3 D3
          refine hK.out _ _ P4.out (fun _ => ?_)
          clear hK K
          refine wpAnyH_ready (rs := [11]) (by kernel_rfl) (by simp) ?_
          refine AllReadyH.cons rfl (fun K hK => ?_) AllReadyH.nil
          rw [if_pos (by rfl)]
          refine wp_store_row 29 _ _ rfl g8 (arr l) rfl rfl 29 (arr zeros) C4.out (Try.sizeA hl) (by rw [arr_size, arr_size, hl]; rfl) (arr_one _) ?_
          obtain ⟨V5, hV5⟩ : ∃ V5, V5 = V4.setRow g8 (arr l) := ⟨_, rfl⟩
          have P5 : Hid (Blk V5 w.heap.size (pic n l) 32) := by show Blk _ _ _ _; rw [hV5]; exact P4.out.rowOther (by omega) _
          have R5 : Hid (Blk V5 (w.heap.size + 1) (wav 0 zerosC) 41) := by show Blk _ _ _ _; rw [hV5]; exact R4.out.rowOther (by omega) _
          have D5 : Hid (Below w.heap.size w V5) := by show Below _ _ _; rw [hV5]; exact Below.setRow D4.out (by omega) _
          have B5 : Hid (Blk V5 g7 (wav n zerosC) 41) := by show Blk _ _ _ _; rw [hV5]; exact B4.out.rowOther (by omega) _
          have C5 : Hid (Blk V5 g8 (arr l) 29) := by show Blk _ _ _ _; rw [hV5]; exact C4.out.row _
          rw [← hV5]
          clear hV5 P4 R4 B4 C4 D4
          refine hK.out _ _ P5.out (fun _ => ?_)
          clear hK K
          refine wpAnyH_done (by kernel_rfl) ?_ _
          go_wp2_with fail
          go_meet
          case rel => exact ⟨g7, g8, rfl, rfl, rfl, D5.out, R5.out, B5.out, C5.out, ng7, ng8, n78⟩
        exact AllReadyH.nil
      exact AllReadyH.nil
    exact AllReadyH.nil
  case rest =>
    clear P0' R0' D0'
    obtain ⟨g7, g8, rfl, rfl, rfl, hD, hR, h7, h8, n7, n8, n78⟩ := hcut
    have HD := Lib.hid hD
    have HRR := Lib.hid hR
    have H7 := Lib.hid h7
    have H8 := Lib.hid h8
    have hn0 : ¬ (n : Int) = 0 := by omega
    obtain ⟨S, hS⟩ : ∃ S, S = l.map (ab .f32) := ⟨_, rfl⟩
    rw [← hS] at HR
    have HS := Lib.hid hS
    clear hD hR h7 h8 hS
    go_wp2_with fail
    go_loopw [9, 10] (fun kv _ wr => ∃ k : Nat, k ≤ m ∧ kv = .int .i64 k ∧ Below w.heap.size w wr ∧ Hid (Blk wr (w.heap.size + 1) (wav 0 zerosC) 41 ∧ Blk wr g7 (wav n (fillL k (hG n t S))) 41 ∧ hC n t S k = false ∧ ∃ l' : List Nat, l'.length = 64 ∧ l'.map (ab .f32) = hS n t S k ∧ Blk wr g8 (arr l') 29)) (fun kv _ _ => m - (intOf kv).toNat)
    case atStart => exact ⟨0, Nat.zero_le _, rfl, HD.out, HRR.out, H7.out, rfl, l, hl, HS.out.symm, H8.out⟩
    case round =>
      clear HD HRR H7 H8
      obtain ⟨k, hk, rfl, hbl, hcur⟩ := hrel
      have HB := Lib.hid hbl; clear hbl
      obtain ⟨hR, h7, hcf, l', hl', hm', h8⟩ := hcur.out
      clear hcur
      by_cases hlt : k < m
      · have c0 := h8.arrCell (by omega : k < l'.length)
        obtain ⟨r, hr⟩ : ∃ r, r = l'.getD k 0 := ⟨_, rfl⟩
        rw [← hr] at c0
        have hfl := fillL_length (hG n t S) (by omega : k ≤ 64)
        have c7 := h7.wavCell (by omega : k < (fillL k (hG n t S)).length)
        have f7 := h7.frozen (1 + k)
        obtain ⟨y0, hy0⟩ : ∃ y0, y0 = (fillL k (hG n t S)).getD k (0, 0) := ⟨_, rfl⟩
        rw [← hy0] at c7
        obtain ⟨y, hy⟩ : ∃ y, y = k / n := ⟨_, rfl⟩
        obtain ⟨x, hx⟩ : ∃ x, x = k % n := ⟨_, rfl⟩
        have hxn : x < n := by rw [hx]; exact Nat.mod_lt _ (by omega)
        have hyn : y < n := by rw [hy]; exact Nat.div_lt_of_lt_mul (by rw [HM.out]; exact hlt)
        have hyi : ((k : Int) / n) = (y : Int) := by rw [hy]; rfl
        have hxi : ((k : Int) % n) = (x : Int) := by rw [hx]; rfl
        have hidx : n * y + x = k := by rw [hy, hx]; exact idx_of n k hn1
        have hk64 : k < 64 := by omega
        have hk64i : (k : Int) < 64 := by omega
        have HRx := Lib.hid hR
        have H7 := Lib.hid h7
        have H8 := Lib.hid h8
        have HCF := Lib.hid hcf
        have HL := Lib.hid hl'
        have HMM := Lib.hid hm'
        have HRV := Lib.hid hr
        have HY := Lib.hid hy
        have HX := Lib.hid hx
        have HID := Lib.hid hidx
        clear hR h7 h8 hcf hl' hm' hr hy hx hidx hy0 hfl
        cases h1 : isNum r with
        | false =>
          have HBAD := Lib.hid (hC_bad hlt (hBad_of (v := true) HMM.out HRV.out (fin_inf_not h1 t)))
          clear hyi hxi
          go_wp2_with (first | (go_at_call 88; refine (l01Fine_any _ _).mono ?_; rintro e w' ⟨rfl, n1, rfl⟩; rw [h1]) | (refine wpList_wbuild0 rfl rfl ?_) | (refine wpList_store_row rfl 41 (.tmp 4) (.tmp 45) rfl (w.heap.size + 1) (wav 0 zerosC) rfl rfl 41 (wav 0 zerosC) (HRx.out.drewN _) ?c1 ?c2 (wav_one 0 zerosC) ?_; (case c1 => exact Try.sizeW zerosC_length); (case c2 => rfl)))
          refine bodyPost_ret (v := .tuple #[.agg (wav 0 zerosC), .int .i64 3]) (results_cell_row2 Try.results48 _ _ (w.heap.size + 1) 41 (wav 0 zerosC) (0, 0) _ _ rfl rfl (Blk.row (HRx.out.drewN _) _) Try.underlying41 rfl (Try.sizeW zerosC_length)) rfl ?_
          exact WavPost.err (by rw [HR.out, HBAD.out]; rfl) (Below.setRow (below_drewN' HB.out _) (by omega) _)
        | true =>
          cases ho : (FloatKind.f32.format.order r t == some .gt || FloatKind.f32.format.order r t == some .eq) with
          | true =>
            have HO : Hid (hOpen (ab .f32 r) t = true) := by show _ = _; unfold hOpen; rw [← cmp_ab]; exact ho
            go_upto_region 15 with (go_at_call 88; refine (l01Fine_any _ _).mono ?_; rintro e w' ⟨rfl, n1, rfl⟩; rw [h1])
            obtain ⟨Wa, hWa⟩ : ∃ Wa, Wa = (wr.drewN n1).setCell ⟨g7, 1 + k, none⟩ (.complex .f32 1065353216 0) := ⟨_, rfl⟩
            rw [← hWa]
            obtain ⟨rr, hrr⟩ : ∃ rr, rr = fres .sub .f32 r (fres .mul .f32 1073741824 t Wa) (Wa.drewN (nd .mul .f32 1073741824 t)) := ⟨_, rfl⟩
            rw [← hrr]
            have HRX : Hid (ab .f32 rr = hRest (ab .f32 r) t) := by show _ = _; rw [hrr, ab_fres, ab_fres]; unfold hRest; rw [HO.out]; rfl
            obtain ⟨V0, hV0⟩ : ∃ V0, V0 = Wa.drewN (nd .mul .f32 1073741824 t + nd .sub .f32 r (fres .mul .f32 1073741824 t Wa)) := ⟨_, rfl⟩
            rw [← hV0]
            have R0 : Hid (Blk V0 (w.heap.size + 1) (wav 0 zerosC) 41) := by show Blk _ _ _ _; rw [hV0, hWa]; exact ((HRx.out.drewN _).other (by omega) _ _).drewN _
            have B0 : Hid (Blk V0 g7 (wav n (fillL (k + 1) (hG n t S))) 41) := by
              show Blk _ _ _ _
              rw [hV0, hWa, ← fillL_set _ hk64, hG_of HMM.out HRV.out HO.out]
              exact ((H7.out.drewN _).wavSet k _ _).drewN _
            have C0 : Hid (Blk V0 g8 (arr l') 29) := by show Blk _ _ _ _; rw [hV0, hWa]; exact ((H8.out.drewN _).other (Ne.symm n78) _ _).drewN _
            have D0 : Hid (Below w.heap.size w V0) := by show Below _ _ _; rw [hV0, hWa]; exact below_drewN' ((below_drewN' HB.out _).setCell (by exact (by omega : w.heap.size ≤ g7)) _) _
            clear hV0 hWa hrr
            clear HRx H7 H8 HB c0 c7 f7 ho
            cases h2 : isNum rr with
            | false =>
              have HBAD := Lib.hid (hC_bad hlt (hBad_of (v := true) HMM.out HRV.out (by rw [← HRX.out]; exact h2)))
              clear hyi hxi
              go_wp2_with (first | (go_at_call 88; refine (l01Fine_any _ _).mono ?_; rintro e w' ⟨rfl, n2, rfl⟩; rw [h2]) | (refine wpList_wbuild0 rfl rfl ?_) | (refine wpList_store_row rfl 41 (.tmp 4) (.tmp 59) rfl (w.heap.size + 1) (wav 0 zerosC) rfl rfl 41 (wav 0 zerosC) (R0.out.drewN _) ?c1 ?c2 (wav_one 0 zerosC) ?_; (case c1 => exact Try.sizeW zerosC_length); (case c2 => rfl)))
              refine bodyPost_ret (v := .tuple #[.agg (wav 0 zerosC), .int .i64 3]) (results_cell_row2 Try.results48 _ _ (w.heap.size + 1) 41 (wav 0 zerosC) (0, 0) _ _ rfl rfl (Blk.row (R0.out.drewN _) _) Try.underlying41 rfl (Try.sizeW zerosC_length)) rfl ?_
              exact WavPost.err (by rw [HR.out, HBAD.out]; rfl) (Below.setRow (below_drewN' D0.out _) (by omega) _)
            | true =>
              have HBD := Lib.hid (hBad_of (v := false) HMM.out HRV.out (by rw [← HRX.out]; exact h2))
              go_upto_region 17 with (go_at_call 88; refine (l01Fine_any _ _).mono ?_; rintro e w' ⟨rfl, n2, rfl⟩; rw [h2])
              obtain ⟨V1, hV1⟩ : ∃ V1, V1 = V0.drewN n2 := ⟨_, rfl⟩
              rw [← hV1]
              have R1 : Hid (Blk V1 (w.heap.size + 1) (wav 0 zerosC) 41) := by show Blk _ _ _ _; rw [hV1]; exact R0.out.drewN _
              have B1 : Hid (Blk V1 g7 (wav n (fillL (k + 1) (hG n t S))) 41) := by show Blk _ _ _ _; rw [hV1]; exact B0.out.drewN _
              have C1 : Hid (Blk V1 g8 (arr l') 29) := by show Blk _ _ _ _; rw [hV1]; exact C0.out.drewN _
              have D1 : Hid (Below w.heap.size w V1) := by show Below _ _ _; rw [hV1]; exact below_drewN' D0.out _
              obtain ⟨j1, hj1e⟩ : ∃ j1, j1 = k + 1 := ⟨_, rfl⟩
              have hj1i : (k : Int) + 1 = j1 := by omega
              have HJ1 := Lib.hid hj1e
              clear hV1 hj1e R0 B0 C0 D0 h1 h2
              by_cases hxr : x + 1 < n
              · have HXR := Lib.hid hxr
                have hlt1 : (x : Int) < (n : Int) - 1 := by omega
                have hj164 : j1 < 64 := by
                  have := Nat.mul_le_mul (Nat.le_refl n) (by omega : y + 1 ≤ n)
                  rw [Nat.mul_succ] at this
                  have h1 := HID.out
                  have h2 := HM.out
                  have h3 := HJ1.out
                  omega
                have e1 := C1.out.arrCell (by rw [HL.out]; exact hj164 : j1 < l'.length)
                have f1 := C1.out.frozen j1
                obtain ⟨s1, hs1⟩ : ∃ s1, s1 = l'.getD j1 0 := ⟨_, rfl⟩
                rw [← hs1] at e1
                have HS1 := Lib.hid hs1
                clear hs1 hxr
                go_upto_region 19 with (fail)
                obtain ⟨hb, hhb⟩ : ∃ hb, hb = fres .quo .f32 rr 1073741824 V1 := ⟨_, rfl⟩
                rw [← hhb]
                have HHB : Hid (ab .f32 hb = hHalf (ab .f32 r) t) := by show _ = _; rw [hhb, ab_fres]; unfold hHalf; rw [← HRX.out]
                obtain ⟨bb, hbb⟩ : ∃ bb, bb = fres .add .f32 s1 hb (V1.drewN (nd .quo .f32 rr 1073741824)) := ⟨_, rfl⟩
                rw [← hbb]
                obtain ⟨V2, hV2⟩ : ∃ V2, V2 = (V1.drewN (nd .quo .f32 rr 1073741824 + nd .add .f32 s1 hb)).setCell ⟨g8, j1, none⟩ (.float .f32 bb) := ⟨_, rfl⟩
                rw [← hV2]
                obtain ⟨l2, hl2⟩ : ∃ l2, l2 = l'.set j1 bb := ⟨_, rfl⟩
                have HL2 : Hid (l2.length = 64) := by show _ = _; rw [hl2, List.length_set]; exact HL.out
                have HM2 : Hid (l2.map (ab .f32) = hAdd (l'.map (ab .f32)) (k + 1) (hHalf (ab .f32 r) t)) := by
                  show _ = _
                  rw [hl2, ← HJ1.out]
                  refine hAdd_map _ _ _ _ ?_
                  rw [hbb, ab_fres, HHB.out, HS1.out]
                have R2 : Hid (Blk V2 (w.heap.size + 1) (wav 0 zerosC) 41) := by show Blk _ _ _ _; rw [hV2]; exact (R1.out.drewN _).other (by omega) _ _
                have B2 : Hid (Blk V2 g7 (wav n (fillL (k + 1) (hG n t S))) 41) := by show Blk _ _ _ _; rw [hV2]; exact (B1.out.drewN _).other n78 _ _
                have C2 : Hid (Blk V2 g8 (arr l2) 29) := by show Blk _ _ _ _; rw [hV2, hl2]; exact (C1.out.drewN _).arrSet j1 bb
                have D2 : Hid (Below w.heap.size w V2) := by show Below _ _ _; rw [hV2]; exact (below_drewN' D1.out _).setCell (by exact (by omega : w.heap.size ≤ g8)) _
                clear hV2 hl2 hbb hhb e1 f1 R1 B1 C1 D1
                by_cases hyb : y + 1 < n
                · have HYB := Lib.hid hyb
                  have hlt2 : (y : Int) < (n : Int) - 1 := by omega
                  obtain ⟨j2, hj2e⟩ : ∃ j2, j2 = k + n := ⟨_, rfl⟩
                  have hj2i : (k : Int) + n = j2 := by omega
                  have hj264 : j2 < 64 := by
                    have := Nat.mul_le_mul (Nat.le_refl n) (by omega : y + 1 + 1 ≤ n)
                    rw [Nat.mul_succ, Nat.mul_succ] at this
                    have h1 := HID.out
                    have h2 := HM.out
                    omega
                  have e2 := C2.out.arrCell (by rw [HL2.out]; exact hj264 : j2 < l2.length)
                  have f2 := C2.out.frozen j2
                  obtain ⟨s2, hs2⟩ : ∃ s2, s2 = l2.getD j2 0 := ⟨_, rfl⟩
                  rw [← hs2] at e2
                  have HS2 := Lib.hid hs2
                  have HJ2 := Lib.hid hj2e
                  clear hs2 hj2e
                  go_wp2
                  obtain ⟨hb2, hhb2⟩ : ∃ hb2, hb2 = fres .quo .f32 rr 1073741824 V2 := ⟨_, rfl⟩
                  try rw [← hhb2]
                  have HHB2 : Hid (ab .f32 hb2 = hHalf (ab .f32 r) t) := by show _ = _; rw [hhb2, ab_fres]; unfold hHalf; rw [← HRX.out]
                  obtain ⟨bb2, hbb2⟩ : ∃ bb2, bb2 = fres .add .f32 s2 hb2 (V2.drewN (nd .quo .f32 rr 1073741824)) := ⟨_, rfl⟩
                  try rw [← hbb2]
                  obtain ⟨V3, hV3⟩ : ∃ V3, V3 = (V2.drewN (nd .quo .f32 rr 1073741824 + nd .add .f32 s2 hb2)).setCell ⟨g8, j2, none⟩ (.float .f32 bb2) := ⟨_, rfl⟩
                  try rw [← hV3]
                  have R3 : Hid (Blk V3 (w.heap.size + 1) (wav 0 zerosC) 41) := by show Blk _ _ _ _; rw [hV3]; exact (R2.out.drewN _).other (by omega) _ _
                  have B3 : Hid (Blk V3 g7 (wav n (fillL (k + 1) (hG n t S))) 41) := by show Blk _ _ _ _; rw [hV3]; exact (B2.out.drewN _).other n78 _ _
                  have C3 : Hid (Blk V3 g8 (arr (l2.set j2 bb2)) 29) := by show Blk _ _ _ _; rw [hV3]; exact (C2.out.drewN _).arrSet j2 bb2
                  have D3 : Hid (Below w.heap.size w V3) := by show Below _ _ _; rw [hV3]; exact (below_drewN' D2.out _).setCell (by exact (by omega : w.heap.size ≤ g8)) _
                  have HB3 : Hid (ab .f32 bb2 = arith .add .f32 (ab .f32 (l2.getD j2 0)) (hHalf (ab .f32 r) t)) := by show _ = _; rw [hbb2, ab_fres, HHB2.out, HS2.out]
                  clear hV3 hhb2 hbb2 e2 f2
                  go_roundw
                  case rel =>
                    refine ⟨j1, by have := HJ1.out; omega, rfl, D3.out, R3.out, ?_, ?_, l2.set j2 bb2, by rw [List.length_set]; exact HL2.out, ?_, C3.out⟩
                    · rw [HJ1.out]; exact B3.out
                    · rw [HJ1.out]; exact hC_step HCF.out HBD.out
                    · rw [HJ1.out]
                      refine hS_next HMM.out HRV.out HX.out HY.out ?_
                      rw [if_pos HYB.out, if_pos HXR.out, ← HM2.out, ← HJ2.out]
                      exact hAdd_map _ _ _ _ HB3.out
                  case measure => simp [intOf]; omega
                · have HYB := Lib.hid hyb
                  have hlt2 : ¬ (y : Int) < (n : Int) - 1 := by omega
                  go_wp2
                  go_roundw
                  case rel =>
                    refine ⟨j1, by have := HJ1.out; omega, rfl, D2.out, R2.out, ?_, ?_, l2, HL2.out, ?_, C2.out⟩
                    · rw [HJ1.out]; exact B2.out
                    · rw [HJ1.out]; exact hC_step HCF.out HBD.out
                    · rw [HJ1.out]
                      refine hS_next HMM.out HRV.out HX.out HY.out ?_
                      rw [if_neg HYB.out, if_pos HXR.out, ← HM2.out]
                  case measure => simp [intOf]; omega
              · have HXR := Lib.hid hxr
                have hlt1 : ¬ (x : Int) < (n : Int) - 1 := by omega
                clear hxr
                go_upto_region 19 with (fail)
                obtain ⟨l2, hl2⟩ : ∃ l2, l2 = l' := ⟨_, rfl⟩
                have HL2 : Hid (l2.length = 64) := by show _ = _; rw [hl2]; exact HL.out
                have HM2 : Hid (l2.map (ab .f32) = l'.map (ab .f32)) := by show _ = _; rw [hl2]
                have R2 := R1
                have B2 := B1
                have C2 : Hid (Blk V1 g8 (arr l2) 29) := by show Blk _ _ _ _; rw [hl2]; exact C1.out
                have D2 := D1
                clear hl2 R1 B1 C1 D1
                by_cases hyb : y + 1 < n
                · have HYB := Lib.hid hyb
                  have hlt2 : (y : Int) < (n : Int) - 1 := by omega
                  obtain ⟨j2, hj2e⟩ : ∃ j2, j2 = k + n := ⟨_, rfl⟩
                  have hj2i : (k : Int) + n = j2 := by omega
                  have hj264 : j2 < 64 := by
                    have := Nat.mul_le_mul (Nat.le_refl n) (by omega : y + 1 + 1 ≤ n)
                    rw [Nat.mul_succ, Nat.mul_succ] at this
                    have h1 := HID.out
                    have h2 := HM.out
                    omega
                  have e2 := C2.out.arrCell (by rw [HL2.out]; exact hj264 : j2 < l2.length)
                  have f2 := C2.out.frozen j2
                  obtain ⟨s2, hs2⟩ : ∃ s2, s2 = l2.getD j2 0 := ⟨_, rfl⟩
                  rw [← hs2] at e2
                  have HS2 := Lib.hid hs2
                  have HJ2 := Lib.hid hj2e
                  clear hs2 hj2e
                  go_wp2
                  obtain ⟨hb2, hhb2⟩ : ∃ hb2, hb2 = fres .quo .f32 rr 1073741824 V1 := ⟨_, rfl⟩
                  try rw [← hhb2]
                  have HHB2 : Hid (ab .f32 hb2 = hHalf (ab .f32 r) t) := by show _ = _; rw [hhb2, ab_fres]; unfold hHalf; rw [← HRX.out]
                  obtain ⟨bb2, hbb2⟩ : ∃ bb2, bb2 = fres .add .f32 s2 hb2 (V1.drewN (nd .quo .f32 rr 1073741824)) := ⟨_, rfl⟩
                  try rw [← hbb2]
                  obtain ⟨V3, hV3⟩ : ∃ V3, V3 = (V1.drewN (nd .quo .f32 rr 1073741824 + nd .add .f32 s2 hb2)).setCell ⟨g8, j2, none⟩ (.float .f32 bb2) := ⟨_, rfl⟩
                  try rw [← hV3]
                  have R3 : Hid (Blk V3 (w.heap.size + 1) (wav 0 zerosC) 41) := by show Blk _ _ _ _; rw [hV3]; exact (R2.out.drewN _).other (by omega) _ _
                  have B3 : Hid (Blk V3 g7 (wav n (fillL (k + 1) (hG n t S))) 41) := by show Blk _ _ _ _; rw [hV3]; exact (B2.out.drewN _).other n78 _ _
                  have C3 : Hid (Blk V3 g8 (arr (l2.set j2 bb2)) 29) := by show Blk _ _ _ _; rw [hV3]; exact (C2.out.drewN _).arrSet j2 bb2
                  have D3 : Hid (Below w.heap.size w V3) := by show Below _ _ _; rw [hV3]; exact (below_drewN' D2.out _).setCell (by exact (by omega : w.heap.size ≤ g8)) _
                  have HB3 : Hid (ab .f32 bb2 = arith .add .f32 (ab .f32 (l2.getD j2 0)) (hHalf (ab .f32 r) t)) := by show _ = _; rw [hbb2, ab_fres, HHB2.out, HS2.out]
                  clear hV3 hhb2 hbb2 e2 f2
                  go_roundw
                  case rel =>
                    refine ⟨j1, by have := HJ1.out; omega, rfl, D3.out, R3.out, ?_, ?_, l2.set j2 bb2, by rw [List.length_set]; exact HL2.out, ?_, C3.out⟩
                    · rw [HJ1.out]; exact B3.out
                    · rw [HJ1.out]; exact hC_step HCF.out HBD.out
                    · rw [HJ1.out]
                      refine hS_next HMM.out HRV.out HX.out HY.out ?_
                      rw [if_pos HYB.out, if_neg HXR.out, ← HM2.out, ← HJ2.out]
                      exact hAdd_map _ _ _ _ HB3.out
                  case measure => simp [intOf]; omega
                · have HYB := Lib.hid hyb
                  have hlt2 : ¬ (y : Int) < (n : Int) - 1 := by omega
                  go_wp2
                  go_roundw
                  case rel =>
                    refine ⟨j1, by have := HJ1.out; omega, rfl, D2.out, R2.out, ?_, ?_, l2, HL2.out, ?_, C2.out⟩
                    · rw [HJ1.out]; exact B2.out
                    · rw [HJ1.out]; exact hC_step HCF.out HBD.out
                    · rw [HJ1.out]
                      refine hS_next HMM.out HRV.out HX.out HY.out ?_
                      rw [if_neg HYB.out, if_neg HXR.out, ← HM2.out]
                  case measure => simp [intOf]; omega
          | false =>
            have HO : Hid (hOpen (ab .f32 r) t = false) := by show _ = _; unfold hOpen; rw [← cmp_ab]; exact ho
            go_upto_region 15 with (go_at_call 88; refine (l01Fine_any _ _).mono ?_; rintro e w' ⟨rfl, n1, rfl⟩; rw [h1])
            obtain ⟨rr, hrr⟩ : ∃ rr, rr = r := ⟨_, rfl⟩
            rw [← hrr]
            have HRX : Hid (ab .f32 rr = hRest (ab .f32 r) t) := by show _ = _; rw [hrr]; unfold hRest; rw [HO.out]; rfl
            obtain ⟨V0, hV0⟩ : ∃ V0, V0 = wr.drewN n1 := ⟨_, rfl⟩
            rw [← hV0]
            have R0 : Hid (Blk V0 (w.heap.size + 1) (wav 0 zerosC) 41) := by show Blk _ _ _ _; rw [hV0]; exact HRx.out.drewN _
            have B0 : Hid (Blk V0 g7 (wav n (fillL (k + 1) (hG n t S))) 41) := by
              show Blk _ _ _ _
              rw [hV0, fillL_skip _ hk64 (hG_of HMM.out HRV.out HO.out)]
              exact H7.out.drewN _
            have C0 : Hid (Blk V0 g8 (arr l') 29) := by show Blk _ _ _ _; rw [hV0]; exact H8.out.drewN _
            have D0 : Hid (Below w.heap.size w V0) := by show Below _ _ _; rw [hV0]; exact below_drewN' HB.out _
            clear hV0 hrr
            clear HRx H7 H8 HB c0 c7 f7 ho
            cases h2 : isNum rr with
            | false =>
              have HBAD := Lib.hid (hC_bad hlt (hBad_of (v := true) HMM.out HRV.out (by rw [← HRX.out]; exact h2)))
              clear hyi hxi
              go_wp2_with (first | (go_at_call 88; refine (l01Fine_any _ _).mono ?_; rintro e w' ⟨rfl, n2, rfl⟩; rw [h2]) | (refine wpList_wbuild0 rfl rfl ?_) | (refine wpList_store_row rfl 41 (.tmp 4) (.tmp 59) rfl (w.heap.size + 1) (wav 0 zerosC) rfl rfl 41 (wav 0 zerosC) (R0.out.drewN _) ?c1 ?c2 (wav_one 0 zerosC) ?_; (case c1 => exact Try.sizeW zerosC_length); (case c2 => rfl)))
              refine bodyPost_ret (v := .tuple #[.agg (wav 0 zerosC), .int .i64 3]) (results_cell_row2 Try.results48 _ _ (w.heap.size + 1) 41 (wav 0 zerosC) (0, 0) _ _ rfl rfl (Blk.row (R0.out.drewN _) _) Try.underlying41 rfl (Try.sizeW zerosC_length)) rfl ?_
              exact WavPost.err (by rw [HR.out, HBAD.out]; rfl) (Below.setRow (below_drewN' D0.out _) (by omega) _)
            | true =>
              have HBD := Lib.hid (hBad_of (v := false) HMM.out HRV.out (by rw [← HRX.out]; exact h2))
              go_upto_region 17 with (go_at_call 88; refine (l01Fine_any _ _).mono ?_; rintro e w' ⟨rfl, n2, rfl⟩; rw [h2])
              obtain ⟨V1, hV1⟩ : ∃ V1, V1 = V0.drewN n2 := ⟨_, rfl⟩
              rw [← hV1]
              have R1 : Hid (Blk V1 (w.heap.size + 1) (wav 0 zerosC) 41) := by show Blk _ _ _ _; rw [hV1]; exact R0.out.drewN _
              have B1 : Hid (Blk V1 g7 (wav n (fillL (k + 1) (hG n t S))) 41) := by show Blk _ _ _ _; rw [hV1]; exact B0.out.drewN _
              have C1 : Hid (Blk V1 g8 (arr l') 29) := by show Blk _ _ _ _; rw [hV1]; exact C0.out.drewN _
              have D1 : Hid (Below w.heap.size w V1) := by show Below _ _ _; rw [hV1]; exact below_drewN' D0.out _
              obtain ⟨j1, hj1e⟩ : ∃ j1, j1 = k + 1 := ⟨_, rfl⟩
              have hj1i : (k : Int) + 1 = j1 := by omega
              have HJ1 := Lib.hid hj1e
              clear hV1 hj1e R0 B0 C0 D0 h1 h2
              by_cases hxr : x + 1 < n
              · have HXR := Lib.hid hxr
                have hlt1 : (x : Int) < (n : Int) - 1 := by omega
                have hj164 : j1 < 64 := by
                  have := Nat.mul_le_mul (Nat.le_refl n) (by omega : y + 1 ≤ n)
                  rw [Nat.mul_succ] at this
                  have h1 := HID.out
                  have h2 := HM.out
                  have h3 := HJ1.out
                  omega
                have e1 := C1.out.arrCell (by rw [HL.out]; exact hj164 : j1 < l'.length)
                have f1 := C1.out.frozen j1
                obtain ⟨s1, hs1⟩ : ∃ s1, s1 = l'.getD j1 0 := ⟨_, rfl⟩
                rw [← hs1] at e1
                have HS1 := Lib.hid hs1
                clear hs1 hxr
                go_upto_region 19 with (fail)
                obtain ⟨hb, hhb⟩ : ∃ hb, hb = fres .quo .f32 rr 1073741824 V1 := ⟨_, rfl⟩
                rw [← hhb]
                have HHB : Hid (ab .f32 hb = hHalf (ab .f32 r) t) := by show _ = _; rw [hhb, ab_fres]; unfold hHalf; rw [← HRX.out]
                obtain ⟨bb, hbb⟩ : ∃ bb, bb = fres .add .f32 s1 hb (V1.drewN (nd .quo .f32 rr 1073741824)) := ⟨_, rfl⟩
                rw [← hbb]
                obtain ⟨V2, hV2⟩ : ∃ V2, V2 = (V1.drewN (nd .quo .f32 rr 1073741824 + nd .add .f32 s1 hb)).setCell ⟨g8, j1, none⟩ (.float .f32 bb) := ⟨_, rfl⟩
                rw [← hV2]
                obtain ⟨l2, hl2⟩ : ∃ l2, l2 = l'.set j1 bb := ⟨_, rfl⟩
                have HL2 : Hid (l2.length = 64) := by show _ = _; rw [hl2, List.length_set]; exact HL.out
                have HM2 : Hid (l2.map (ab .f32) = hAdd (l'.map (ab .f32)) (k + 1) (hHalf (ab .f32 r) t)) := by
                  show _ = _
                  rw [hl2, ← HJ1.out]
                  refine hAdd_map _ _ _ _ ?_
                  rw [hbb, ab_fres, HHB.out, HS1.out]
                have R2 : Hid (Blk V2 (w.heap.size + 1) (wav 0 zerosC) 41) := by show Blk _ _ _ _; rw [hV2]; exact (R1.out.drewN _).other (by omega) _ _
                have B2 : Hid (Blk V2 g7 (wav n (fillL (k + 1) (hG n t S))) 41) := by show Blk _ _ _ _; rw [hV2]; exact (B1.out.drewN _).other n78 _ _
                have C2 : Hid (Blk V2 g8 (arr l2) 29) := by show Blk _ _ _ _; rw [hV2, hl2]; exact (C1.out.drewN _).arrSet j1 bb
                have D2 : Hid (Below w.heap.size w V2) := by show Below _ _ _; rw [hV2]; exact (below_drewN' D1.out _).setCell (by exact (by omega : w.heap.size ≤ g8)) _
                clear hV2 hl2 hbb hhb e1 f1 R1 B1 C1 D1
                by_cases hyb : y + 1 < n
                · have HYB := Lib.hid hyb
                  have hlt2 : (y : Int) < (n : Int) - 1 := by omega
                  obtain ⟨j2, hj2e⟩ : ∃ j2, j2 = k + n := ⟨_, rfl⟩
                  have hj2i : (k : Int) + n = j2 := by omega
                  have hj264 : j2 < 64 := by
                    have := Nat.mul_le_mul (Nat.le_refl n) (by omega : y + 1 + 1 ≤ n)
                    rw [Nat.mul_succ, Nat.mul_succ] at this
                    have h1 := HID.out
                    have h2 := HM.out
                    omega
                  have e2 := C2.out.arrCell (by rw [HL2.out]; exact hj264 : j2 < l2.length)
                  have f2 := C2.out.frozen j2
                  obtain ⟨s2, hs2⟩ : ∃ s2, s2 = l2.getD j2 0 := ⟨_, rfl⟩
                  rw [← hs2] at e2
                  have HS2 := Lib.hid hs2
                  have HJ2 := Lib.hid hj2e
                  clear hs2 hj2e
                  go_wp2
                  obtain ⟨hb2, hhb2⟩ : ∃ hb2, hb2 = fres .quo .f32 rr 1073741824 V2 := ⟨_, rfl⟩
                  try rw [← hhb2]
                  have HHB2 : Hid (ab .f32 hb2 = hHalf (ab .f32 r) t) := by show _ = _; rw [hhb2, ab_fres]; unfold hHalf; rw [← HRX.out]
                  obtain ⟨bb2, hbb2⟩ : ∃ bb2, bb2 = fres .add .f32 s2 hb2 (V2.drewN (nd .quo .f32 rr 1073741824)) := ⟨_, rfl⟩
                  try rw [← hbb2]
                  obtain ⟨V3, hV3⟩ : ∃ V3, V3 = (V2.drewN (nd .quo .f32 rr 1073741824 + nd .add .f32 s2 hb2)).setCell ⟨g8, j2, none⟩ (.float .f32 bb2) := ⟨_, rfl⟩
                  try rw [← hV3]
                  have R3 : Hid (Blk V3 (w.heap.size + 1) (wav 0 zerosC) 41) := by show Blk _ _ _ _; rw [hV3]; exact (R2.out.drewN _).other (by omega) _ _
                  have B3 : Hid (Blk V3 g7 (wav n (fillL (k + 1) (hG n t S))) 41) := by show Blk _ _ _ _; rw [hV3]; exact (B2.out.drewN _).other n78 _ _
                  have C3 : Hid (Blk V3 g8 (arr (l2.set j2 bb2)) 29) := by show Blk _ _ _ _; rw [hV3]; exact (C2.out.drewN _).arrSet j2 bb2
                  have D3 : Hid (Below w.heap.size w V3) := by show Below _ _ _; rw [hV3]; exact (below_drewN' D2.out _).setCell (by exact (by omega : w.heap.size ≤ g8)) _
                  have HB3 : Hid (ab .f32 bb2 = arith .add .f32 (ab .f32 (l2.getD j2 0)) (hHalf (ab .f32 r) t)) := by show _ = _; rw [hbb2, ab_fres, HHB2.out, HS2.out]
                  clear hV3 hhb2 hbb2 e2 f2
                  go_roundw
                  case rel =>
                    refine ⟨j1, by have := HJ1.out; omega, rfl, D3.out, R3.out, ?_, ?_, l2.set j2 bb2, by rw [List.length_set]; exact HL2.out, ?_, C3.out⟩
                    · rw [HJ1.out]; exact B3.out
                    · rw [HJ1.out]; exact hC_step HCF.out HBD.out
                    · rw [HJ1.out]
                      refine hS_next HMM.out HRV.out HX.out HY.out ?_
                      rw [if_pos HYB.out, if_pos HXR.out, ← HM2.out, ← HJ2.out]
                      exact hAdd_map _ _ _ _ HB3.out
                  case measure => simp [intOf]; omega
                · have HYB := Lib.hid hyb
                  have hlt2 : ¬ (y : Int) < (n : Int) - 1 := by omega
                  go_wp2
                  go_roundw
                  case rel =>
                    refine ⟨j1, by have := HJ1.out; omega, rfl, D2.out, R2.out, ?_, ?_, l2, HL2.out, ?_, C2.out⟩
                    · rw [HJ1.out]; exact B2.out
                    · rw [HJ1.out]; exact hC_step HCF.out HBD.out
                    · rw [HJ1.out]
                      refine hS_next HMM.out HRV.out HX.out HY.out ?_
                      rw [if_neg HYB.out, if_pos HXR.out, ← HM2.out]
                  case measure => simp [intOf]; omega
              · have HXR := Lib.hid hxr
                have hlt1 : ¬ (x : Int) < (n : Int) - 1 := by omega
                clear hxr
                go_upto_region 19 with (fail)
                obtain ⟨l2, hl2⟩ : ∃ l2, l2 = l' := ⟨_, rfl⟩
                have HL2 : Hid (l2.length = 64) := by show _ = _; rw [hl2]; exact HL.out
                have HM2 : Hid (l2.map (ab .f32) = l'.map (ab .f32)) := by show _ = _; rw [hl2]
                have R2 := R1
                have B2 := B1
                have C2 : Hid (Blk V1 g8 (arr l2) 29) := by show Blk _ _ _ _; rw [hl2]; exact C1.out
                have D2 := D1
                clear hl2 R1 B1 C1 D1
                by_cases hyb : y + 1 < n
                · have HYB := Lib.hid hyb
                  have hlt2 : (y : Int) < (n : Int) - 1 := by omega
                  obtain ⟨j2, hj2e⟩ : ∃ j2, j2 = k + n := ⟨_, rfl⟩
                  have hj2i : (k : Int) + n = j2 := by omega
                  have hj264 : j2 < 64 := by
                    have := Nat.mul_le_mul (Nat.le_refl n) (by omega : y + 1 + 1 ≤ n)
                    rw [Nat.mul_succ, Nat.mul_succ] at this
                    have h1 := HID.out
                    have h2 := HM.out
                    omega
                  have e2 := C2.out.arrCell (by rw [HL2.out]; exact hj264 : j2 < l2.length)
                  have f2 := C2.out.frozen j2
                  obtain ⟨s2, hs2⟩ : ∃ s2, s2 = l2.getD j2 0 := ⟨_, rfl⟩
                  rw [← hs2] at e2
                  have HS2 := Lib.hid hs2
                  have HJ2 := Lib.hid hj2e
                  clear hs2 hj2e
                  go_wp2
                  obtain ⟨hb2, hhb2⟩ : ∃ hb2, hb2 = fres .quo .f32 rr 1073741824 V1 := ⟨_, rfl⟩
                  try rw [← hhb2]
                  have HHB2 : Hid (ab .f32 hb2 = hHalf (ab .f32 r) t) := by show _ = _; rw [hhb2, ab_fres]; unfold hHalf; rw [← HRX.out]
                  obtain ⟨bb2, hbb2⟩ : ∃ bb2, bb2 = fres .add .f32 s2 hb2 (V1.drewN (nd .quo .f32 rr 1073741824)) := ⟨_, rfl⟩
                  try rw [← hbb2]
                  obtain ⟨V3, hV3⟩ : ∃ V3, V3 = (V1.drewN (nd .quo .f32 rr 1073741824 + nd .add .f32 s2 hb2)).setCell ⟨g8, j2, none⟩ (.float .f32 bb2) := ⟨_, rfl⟩
                  try rw [← hV3]
                  have R3 : Hid (Blk V3 (w.heap.size + 1) (wav 0 zerosC) 41) := by show Blk _ _ _ _; rw [hV3]; exact (R2.out.drewN _).other (by omega) _ _
                  have B3 : Hid (Blk V3 g7 (wav n (fillL (k + 1) (hG n t S))) 41) := by show Blk _ _ _ _; rw [hV3]; exact (B2.out.drewN _).other n78 _ _
                  have C3 : Hid (Blk V3 g8 (arr (l2.set j2 bb2)) 29) := by show Blk _ _ _ _; rw [hV3]; exact (C2.out.drewN _).arrSet j2 bb2
                  have D3 : Hid (Below w.heap.size w V3) := by show Below _ _ _; rw [hV3]; exact (below_drewN' D2.out _).setCell (by exact (by omega : w.heap.size ≤ g8)) _
                  have HB3 : Hid (ab .f32 bb2 = arith .add .f32 (ab .f32 (l2.getD j2 0)) (hHalf (ab .f32 r) t)) := by show _ = _; rw [hbb2, ab_fres, HHB2.out, HS2.out]
                  clear hV3 hhb2 hbb2 e2 f2
                  go_roundw
                  case rel =>
                    refine ⟨j1, by have := HJ1.out; omega, rfl, D3.out, R3.out, ?_, ?_, l2.set j2 bb2, by rw [List.length_set]; exact HL2.out, ?_, C3.out⟩
                    · rw [HJ1.out]; exact B3.out
                    · rw [HJ1.out]; exact hC_step HCF.out HBD.out
                    · rw [HJ1.out]
                      refine hS_next HMM.out HRV.out HX.out HY.out ?_
                      rw [if_pos HYB.out, if_neg HXR.out, ← HM2.out, ← HJ2.out]
                      exact hAdd_map _ _ _ _ HB3.out
                  case measure => simp [intOf]; omega
                · have HYB := Lib.hid hyb
                  have hlt2 : ¬ (y : Int) < (n : Int) - 1 := by omega
                  go_wp2
                  go_roundw
                  case rel =>
                    refine ⟨j1, by have := HJ1.out; omega, rfl, D2.out, R2.out, ?_, ?_, l2, HL2.out, ?_, C2.out⟩
                    · rw [HJ1.out]; exact B2.out
                    · rw [HJ1.out]; exact hC_step HCF.out HBD.out
                    · rw [HJ1.out]
                      refine hS_next HMM.out HRV.out HX.out HY.out ?_
                      rw [if_neg HYB.out, if_neg HXR.out, ← HM2.out]
                  case measure => simp [intOf]; omega
      · have ek : k = m := by omega
        subst ek
        have HFL := Lib.hid (fillL_length (hG n t S) hm64)
        have HRx := Lib.hid hR
        have H7 := Lib.hid h7
        have HCF := Lib.hid hcf
        clear hR h7 h8 hcf hm' hl'
        go_wp2_with (first | (refine wpList_load_row rfl 41 (.tmp 7) rfl g7 rfl 41 (wav n (fillL k (hG n t S))) (0, 0) _ H7.out Try.underlying41 rfl (Try.sizeW HFL.out) ?_) | (refine wpList_store_row rfl 41 (.tmp 4) (.tmp 94) rfl (w.heap.size + 1) (wav n (fillL k (hG n t S))) rfl rfl 41 (wav 0 zerosC) HRx.out (Try.sizeW HFL.out) (by rw [wav_size, wav_size, HFL.out]; rfl) (wav_one _ _) ?_))
        refine bodyPost_ret (v := .tuple #[.agg (wav n (fillL k (hG n t S))), .int .i64 0]) (results_cell_row2 Try.results48 _ _ (w.heap.size + 1) 41 (wav n (fillL k (hG n t S))) (0, 0) _ _ rfl rfl (HRx.out.row _) Try.underlying41 rfl (Try.sizeW HFL.out)) rfl ?_
        exact ⟨by rw [HR.out, HCF.out]; rfl, Below.setRow HB.out (by omega) _⟩
end Go.Proofs.Ytphbjfijipcpnaa
