/- StartWave: the reference's start: its drawing region. -/
import Derived.Test.YtficghohflmdeaaSta2
import Derived.Deep.RegionHeld
namespace Go.Proofs.Ytficghohflmdeaa
open Go.RowKit
set_option linter.unusedVariables false

theorem exec_load_row {P : Program} {o : Oper} {a : Act} {w : World} (ty : TypeId) (x : Operand) (ho : o.op = .load ty x)
    (g : Nat) (hx : a.eval x = .pointer (some ⟨g, 0, none⟩)) (t : TypeId) (cs : Array Value) (fr : Nat × Nat) (d : TypeDesc) (hg : w.heap[g]? = some (.cells cs t fr))
    (hu : P.underlying ty = some d) (hd : (match d with | .struct _ | .array _ _ => true | _ => false) = true) (hi : (P.info? ty).map (·.size) = some cs.size) :
    (execOp a.eval o).run P w = .ok (.value (.agg cs)) w := by
  unfold execOp
  simp only [ho, hx, Instr.loadAt, Instr.sureAddr, Sem.run_bind, Sem.run_pure, Result.andThen_ok, run_loadVar_row w g t ty cs fr d hg hu hd hi]

def staZ (k y x : Int) : Int := k * (y * y + 3 * x * y + 2 * x)
def staS (n : Int) (l' : List Nat) (k : Int) (i : Nat) : Nat × Nat := (mulR (l'.getD i 0) (rawP (staZ k ((i : Int) / n) ((i : Int) % n))).1, mulR (l'.getD i 0) (rawP (staZ k ((i : Int) / n) ((i : Int) % n))).2)
theorem ampOk_num {l l' : List Nat} {m : Nat} (h : ampOk l l' m) (hlv : ∀ j, j < m → isNum (rtI (l.getD j 0)) = true) {j : Nat} (hj : j < m) : isNum (l'.getD j 0) = true := by
  obtain ⟨S, h1, _, h3⟩ := h.1 j hj
  rw [h1, ← isNum_pn S, ← h3, isNum_pn]; exact hlv j hj
/-- what is there behind the region -/
def StaR (nn m : Nat) (l : List Nat) (b : Nat) (w0 : World) (s5 s6 s7 : Value) (wx : World) : Prop :=
  ∃ (g6 g7 : Nat) (l' : List Nat), s5 = .int .i64 nn ∧ s6 = .pointer (some ⟨g6, 0, none⟩) ∧ s7 = .pointer (some ⟨g7, 0, none⟩) ∧ l'.length = 64 ∧ ampOk l l' m ∧ Below b w0 wx ∧ Blk wx (b + 1) (wav 0 zerosC) 29 ∧ Blk wx g6 (pic nn l') 47 ∧ Blk wx g7 (wav nn zerosC) 29 ∧ b + 1 < g6 ∧ b + 1 < g7 ∧ g6 ≠ g7

set_option maxRecDepth 10000 in
set_option maxHeartbeats 8000000 in
theorem l06Start_any (nn m : Nat) (l : List Nat) (k : Int) (hl : l.length = 64) (hn1 : 1 ≤ nn) (hn2 : nn ≤ 8) (hmul : (nn : Int) * nn = m) (hm64 : m ≤ 64) (hlv : ∀ j, j < m → Lvl (l.getD j 0)) (hrn : ∀ j, j < m → isNum (rtI (l.getD j 0)) = true) (hk : 0 ≤ k ∧ k ≤ 63) (hmm : nn * nn = m) (w : World) :
    Calls Try.prog 115 #[.agg (pic nn l), .int .i64 k] w fun e w' => ∃ l' : List Nat, e = .returned (.agg (wav nn (fillL m (staS nn l' k)))) ∧ ampOk l l' m ∧ Below w.heap.size w w' := by
  have hz := (zero_of_info Try.infoW).1
  have hzp := (zero_of_info Try.infoP).1
  obtain ⟨W0, hW⟩ : ∃ W0, W0 = (w.alloc (.cells (pic nn l) 47)).alloc (.cells (wav 0 zerosC) 29) := ⟨_, rfl⟩
  have hb0 : Below w.heap.size w W0 := by rw [hW]; exact ((Below.refl _ _).alloc (Nat.le_refl _) _).alloc (by simp) _
  have h3 := blk2 w (.cells (pic nn l) 47) (.cells (wav 0 zerosC) 29)
  rw [← hW] at h3
  have b0 : Blk W0 w.heap.size (pic nn l) 47 := h3.1
  have b1 : Blk W0 (w.heap.size + 1) (wav 0 zerosC) 29 := h3.2
  have cs0 := b0.picSide
  have P0 := Lib.hid b0
  have R0 := Lib.hid b1
  have D0 := Lib.hid hb0
  have HLV := Lib.hid hlv
  have HRN := Lib.hid hrn
  have HMM := Lib.hid hmm
  clear hb0 h3 b0 b1 hlv hrn hmm
  go_enter Try.func115, Try.ntmps115
  go_upto_region 1 with (fail)
  rw [← hW]
  clear hW
  go_cut [5, 6, 7] from 10 to 16 (fun s5 s6 s7 wx => StaR nn m l w.heap.size w s5 s6 s7 wx)
  case first =>
    refine wp_region_held (S := fun w' => w'.cell? ⟨w.heap.size, 0, none⟩ = some (.int .i64 nn) ∧ Blk w' w.heap.size (pic nn l) 47) (by kernel_rfl) ?_
    change wpAnyH _ _ _ _ _ _ _ _ (World.drew _)
    obtain ⟨V0, hV0⟩ : ∃ V0, V0 = W0.drew := ⟨_, rfl⟩
    have P1 : Hid (Blk V0 w.heap.size (pic nn l) 47) := by show Blk _ _ _ _; rw [hV0]; exact P0.out.drewN 1
    have R1 : Hid (Blk V0 (w.heap.size + 1) (wav 0 zerosC) 29) := by show Blk _ _ _ _; rw [hV0]; exact R0.out.drewN 1
    have D1 : Hid (Below w.heap.size w V0) := by show Below _ _ _; rw [hV0]; exact below_drewN' D0.out 1
    rw [← hV0]
    clear P0 R0 D0 hV0 cs0
    refine wpAnyH_take (i := 0) (v := .pointer (some ⟨w.heap.size, 0, none⟩)) rfl (by kernel_rfl) (by kernel_rfl) (by kernel_rfl) (fun _ _ _ h => h) (.inl ⟨by rfl, fun w' hS => ?_⟩) ⟨P1.out.picSide, P1.out⟩ ?_
    · go_simp
    refine wpAnyH_take (i := 4) (v := .pointer (some ⟨w.heap.size, 0, none⟩)) rfl (by kernel_rfl) (by kernel_rfl) (by kernel_rfl) (fun _ _ _ h => h) (.inl ⟨by rfl, fun w' hS => ?_⟩) ⟨P1.out.picSide, P1.out⟩ ?_
    · go_simp
    refine wpAnyH_take (i := 1) (v := .int .i64 nn) rfl (by kernel_rfl) (by kernel_rfl) (by kernel_rfl) (fun _ _ _ h => h) (.inl ⟨by rfl, fun w' hS => ?_⟩) ⟨P1.out.picSide, P1.out⟩ ?_
    · have h1 := hS.1
      clear hS
      go_simp
    refine wpAnyH_take (i := 5) (v := .int .i64 nn) rfl (by kernel_rfl) (by kernel_rfl) (by kernel_rfl) (fun _ _ _ h => h) (.inl ⟨by rfl, fun w' hS => ?_⟩) ⟨P1.out.picSide, P1.out⟩ ?_
    · have h1 := hS.1
      clear hS
      go_simp
    refine wpAnyH_take (i := 2) (v := .agg (pic nn l)) rfl (by kernel_rfl) (by kernel_rfl) (by kernel_rfl) (fun _ _ _ h => h) (.inl ⟨by rfl, fun w' hS => ?_⟩) ⟨P1.out.picSide, P1.out⟩ ?_
    · exact exec_load_row 47 _ rfl w.heap.size rfl 47 (pic nn l) (0, 0) _ hS.2 Try.underlying47 rfl (Try.sizeP hl)
    refine wpAnyH_ready (rs := [3, 7, 8]) (by kernel_rfl) (by simp) ?_
    refine AllReadyH.cons rfl (fun K hK => ?_) ?_
    · go_simp
      refine (l06Amp_any nn m l hl hn1 hn2 hmul hm64 HLV.out V0).mono ?_
      rintro e V1 ⟨l', rfl, hl', hok, hb⟩
      have P2 := Lib.hid (P1.out.below hb)
      have R2 := Lib.hid (R1.out.below hb)
      have D2 := Lib.hid (D1.out.trans (hb.mono D1.out.size))
      have HLp := Lib.hid hl'
      have HOK := Lib.hid hok
      clear hb hl' hok P1 R1 D1
      try go_simp
      refine hK.out _ _ ⟨P2.out.picSide, P2.out⟩ (fun _ => ?_)
      clear hK K
      refine wpAnyH_ready (rs := [6, 7, 8]) (by kernel_rfl) (by simp) ?_
      refine AllReadyH.cons rfl (fun K hK => ?_) ?_
      · go_simp
        refine (l01Empty_any nn V1).mono ?_
        rintro e V2 ⟨rfl, hb⟩
        have P3 := Lib.hid (P2.out.below hb)
        have R3 := Lib.hid (R2.out.below hb)
        have D3 := Lib.hid (D2.out.trans (hb.mono D2.out.size))
        clear hb P2 R2 D2
        try go_simp
        refine hK.out _ _ ⟨P3.out.picSide, P3.out⟩ (fun _ => ?_)
        clear hK K
        refine wpAnyH_ready (rs := [7, 8]) (by kernel_rfl) (by simp) ?_
        refine AllReadyH.cons rfl (fun K hK => ?_) ?_
        · go_simp
          obtain ⟨V3, hV3⟩ : ∃ V3, V3 = V2.alloc (.cells (pic 0 zeros) 47) := ⟨_, rfl⟩
          have hb : Below V2.heap.size V2 V3 := by rw [hV3]; exact (Below.refl _ _).alloc (Nat.le_refl _) _
          have hlt0 := R3.out.lt
          have P4 := Lib.hid (P3.out.below hb)
          have R4 := Lib.hid (R3.out.below hb)
          have D4 := Lib.hid (D3.out.trans (hb.mono D3.out.size))
          obtain ⟨g6, hg6⟩ : ∃ g6, g6 = V2.heap.size := ⟨_, rfl⟩
          have A4 : Hid (Blk V3 g6 (pic 0 zeros) 47) := by show Blk _ _ _ _; rw [hV3, hg6]; exact Blk.new V2 _ _
          have ng6 : w.heap.size + 1 < g6 := by omega
          rw [← hV3, ← hg6]
          clear hb hV3 hg6 P3 R3 D3 hlt0
          refine hK.out _ _ ⟨P4.out.picSide, P4.out⟩ (fun _ => ?_)
          clear hK K
          refine wpAnyH_ready (rs := [8]) (by kernel_rfl) (by simp) ?_
          refine AllReadyH.cons rfl (fun K hK => ?_) ?_
          · go_simp
            obtain ⟨V4, hV4⟩ : ∃ V4, V4 = V3.alloc (.cells (wav 0 zerosC) 29) := ⟨_, rfl⟩
            have hb : Below V3.heap.size V3 V4 := by rw [hV4]; exact (Below.refl _ _).alloc (Nat.le_refl _) _
            have hlt0 := R4.out.lt
            have hlt6 := A4.out.lt
            have P5 := Lib.hid (P4.out.below hb)
            have R5 := Lib.hid (R4.out.below hb)
            have D5 := Lib.hid (D4.out.trans (hb.mono D4.out.size))
            have A5 := Lib.hid (A4.out.below hb)
            obtain ⟨g7, hg7⟩ : ∃ g7, g7 = V3.heap.size := ⟨_, rfl⟩
            have B5 : Hid (Blk V4 g7 (wav 0 zerosC) 29) := by show Blk _ _ _ _; rw [hV4, hg7]; exact Blk.new V3 _ _
            have ng7 : w.heap.size + 1 < g7 := by omega
            have n67 : g6 ≠ g7 := by omega
            rw [← hV4, ← hg7]
            clear hb hV4 hg7 P4 R4 D4 A4 hlt0
            refine hK.out _ _ ⟨P5.out.picSide, P5.out⟩ (fun _ => ?_)
            clear hK K
            refine wpAnyH_ready (rs := [9]) (by kernel_rfl) (by simp) ?_
            refine AllReadyH.cons rfl (fun K hK => ?_) AllReadyH.nil
            go_simp
            refine hK.out _ _ ⟨P5.out.picSide, P5.out⟩ (fun _ => ?_)
            clear hK K
            refine wpAnyH_ready (rs := [10]) (by kernel_rfl) (by simp) ?_
            refine AllReadyH.cons rfl (fun K hK => ?_) AllReadyH.nil
            rw [if_pos (by rfl)]
            refine wp_store_row 47 _ _ rfl g6 (pic nn l') rfl rfl 47 (pic 0 zeros) A5.out (Try.sizeP HLp.out) (by rw [pic_size, pic_size, HLp.out]; rfl) (pic_one nn _) ?_
            have P6 := Lib.hid (P5.out.rowOther (by omega : w.heap.size ≠ g6) (pic nn l'))
            have R6 := Lib.hid (R5.out.rowOther (by omega : w.heap.size + 1 ≠ g6) (pic nn l'))
            have D6 := Lib.hid (Below.setRow D5.out (by omega : w.heap.size ≤ g6) (pic nn l'))
            have A6 := Lib.hid (A5.out.row (pic nn l'))
            have B6 := Lib.hid (B5.out.rowOther (Ne.symm n67) (pic nn l'))
            refine hK.out _ _ ⟨P6.out.picSide, P6.out⟩ (fun _ => ?_)
            clear hK K
            refine wpAnyH_ready (rs := [11]) (by kernel_rfl) (by simp) ?_
            refine AllReadyH.cons rfl (fun K hK => ?_) AllReadyH.nil
            rw [if_pos (by rfl)]
            refine wp_store_row 29 _ _ rfl g7 (wav nn zerosC) rfl rfl 29 (wav 0 zerosC) B6.out (Try.sizeW zerosC_length) rfl (wav_one nn _) ?_
            have P7 := Lib.hid (P6.out.rowOther (by omega : w.heap.size ≠ g7) (wav nn zerosC))
            have R7 := Lib.hid (R6.out.rowOther (by omega : w.heap.size + 1 ≠ g7) (wav nn zerosC))
            have D7 := Lib.hid (Below.setRow D6.out (by omega : w.heap.size ≤ g7) (wav nn zerosC))
            have A7 := Lib.hid (A6.out.rowOther n67 (wav nn zerosC))
            have B7 := Lib.hid (B6.out.row (wav nn zerosC))
            refine hK.out _ _ ⟨P7.out.picSide, P7.out⟩ (fun _ => ?_)
            clear hK K
            refine wpAnyH_done (by kernel_rfl) ?_ _
            go_wp2_with fail
            go_meet
            case rel => exact ⟨g6, g7, l', rfl, rfl, rfl, HLp.out, HOK.out, D7.out, R7.out, A7.out, B7.out, ng6, ng7, n67⟩
          exact AllReadyH.nil
        refine AllReadyH.cons rfl (fun K hK => ?_) ?_
        · go_simp
          obtain ⟨V3, hV3⟩ : ∃ V3, V3 = V2.alloc (.cells (wav 0 zerosC) 29) := ⟨_, rfl⟩
          have hb : Below V2.heap.size V2 V3 := by rw [hV3]; exact (Below.refl _ _).alloc (Nat.le_refl _) _
          have hlt0 := R3.out.lt
          have P4 := Lib.hid (P3.out.below hb)
          have R4 := Lib.hid (R3.out.below hb)
          have D4 := Lib.hid (D3.out.trans (hb.mono D3.out.size))
          obtain ⟨g7, hg7⟩ : ∃ g7, g7 = V2.heap.size := ⟨_, rfl⟩
          have B4 : Hid (Blk V3 g7 (wav 0 zerosC) 29) := by show Blk _ _ _ _; rw [hV3, hg7]; exact Blk.new V2 _ _
          have ng7 : w.heap.size + 1 < g7 := by omega
          rw [← hV3, ← hg7]
          clear hb hV3 hg7 P3 R3 D3 hlt0
          refine hK.out _ _ ⟨P4.out.picSide, P4.out⟩ (fun _ => ?_)
          clear hK K
          refine wpAnyH_ready (rs := [7]) (by kernel_rfl) (by simp) ?_
          refine AllReadyH.cons rfl (fun K hK => ?_) ?_
          · go_simp
            obtain ⟨V4, hV4⟩ : ∃ V4, V4 = V3.alloc (.cells (pic 0 zeros) 47) := ⟨_, rfl⟩
            have hb : Below V3.heap.size V3 V4 := by rw [hV4]; exact (Below.refl _ _).alloc (Nat.le_refl _) _
            have hlt0 := R4.out.lt
            have hlt7 := B4.out.lt
            have P5 := Lib.hid (P4.out.below hb)
            have R5 := Lib.hid (R4.out.below hb)
            have D5 := Lib.hid (D4.out.trans (hb.mono D4.out.size))
            have B5 := Lib.hid (B4.out.below hb)
            obtain ⟨g6, hg6⟩ : ∃ g6, g6 = V3.heap.size := ⟨_, rfl⟩
            have A5 : Hid (Blk V4 g6 (pic 0 zeros) 47) := by show Blk _ _ _ _; rw [hV4, hg6]; exact Blk.new V3 _ _
            have ng6 : w.heap.size + 1 < g6 := by omega
            have n67 : g6 ≠ g7 := by omega
            rw [← hV4, ← hg6]
            clear hb hV4 hg6 P4 R4 D4 B4 hlt0
            refine hK.out _ _ ⟨P5.out.picSide, P5.out⟩ (fun _ => ?_)
            clear hK K
            refine wpAnyH_ready (rs := [9]) (by kernel_rfl) (by simp) ?_
            refine AllReadyH.cons rfl (fun K hK => ?_) AllReadyH.nil
            go_simp
            refine hK.out _ _ ⟨P5.out.picSide, P5.out⟩ (fun _ => ?_)
            clear hK K
            refine wpAnyH_ready (rs := [10]) (by kernel_rfl) (by simp) ?_
            refine AllReadyH.cons rfl (fun K hK => ?_) AllReadyH.nil
            rw [if_pos (by rfl)]
            refine wp_store_row 47 _ _ rfl g6 (pic nn l') rfl rfl 47 (pic 0 zeros) A5.out (Try.sizeP HLp.out) (by rw [pic_size, pic_size, HLp.out]; rfl) (pic_one nn _) ?_
            have P6 := Lib.hid (P5.out.rowOther (by omega : w.heap.size ≠ g6) (pic nn l'))
            have R6 := Lib.hid (R5.out.rowOther (by omega : w.heap.size + 1 ≠ g6) (pic nn l'))
            have D6 := Lib.hid (Below.setRow D5.out (by omega : w.heap.size ≤ g6) (pic nn l'))
            have A6 := Lib.hid (A5.out.row (pic nn l'))
            have B6 := Lib.hid (B5.out.rowOther (Ne.symm n67) (pic nn l'))
            refine hK.out _ _ ⟨P6.out.picSide, P6.out⟩ (fun _ => ?_)
            clear hK K
            refine wpAnyH_ready (rs := [11]) (by kernel_rfl) (by simp) ?_
            refine AllReadyH.cons rfl (fun K hK => ?_) AllReadyH.nil
            rw [if_pos (by rfl)]
            refine wp_store_row 29 _ _ rfl g7 (wav nn zerosC) rfl rfl 29 (wav 0 zerosC) B6.out (Try.sizeW zerosC_length) rfl (wav_one nn _) ?_
            have P7 := Lib.hid (P6.out.rowOther (by omega : w.heap.size ≠ g7) (wav nn zerosC))
            have R7 := Lib.hid (R6.out.rowOther (by omega : w.heap.size + 1 ≠ g7) (wav nn zerosC))
            have D7 := Lib.hid (Below.setRow D6.out (by omega : w.heap.size ≤ g7) (wav nn zerosC))
            have A7 := Lib.hid (A6.out.rowOther n67 (wav nn zerosC))
            have B7 := Lib.hid (B6.out.row (wav nn zerosC))
            refine hK.out _ _ ⟨P7.out.picSide, P7.out⟩ (fun _ => ?_)
            clear hK K
            refine wpAnyH_done (by kernel_rfl) ?_ _
            go_wp2_with fail
            go_meet
            case rel => exact ⟨g6, g7, l', rfl, rfl, rfl, HLp.out, HOK.out, D7.out, R7.out, A7.out, B7.out, ng6, ng7, n67⟩
          exact AllReadyH.nil
        exact AllReadyH.nil
      refine AllReadyH.cons rfl (fun K hK => ?_) ?_
      · go_simp
        obtain ⟨V2, hV2⟩ : ∃ V2, V2 = V1.alloc (.cells (pic 0 zeros) 47) := ⟨_, rfl⟩
        have hb : Below V1.heap.size V1 V2 := by rw [hV2]; exact (Below.refl _ _).alloc (Nat.le_refl _) _
        have hlt0 := R2.out.lt
        have P3 := Lib.hid (P2.out.below hb)
        have R3 := Lib.hid (R2.out.below hb)
        have D3 := Lib.hid (D2.out.trans (hb.mono D2.out.size))
        obtain ⟨g6, hg6⟩ : ∃ g6, g6 = V1.heap.size := ⟨_, rfl⟩
        have A3 : Hid (Blk V2 g6 (pic 0 zeros) 47) := by show Blk _ _ _ _; rw [hV2, hg6]; exact Blk.new V1 _ _
        have ng6 : w.heap.size + 1 < g6 := by omega
        rw [← hV2, ← hg6]
        clear hb hV2 hg6 P2 R2 D2 hlt0
        refine hK.out _ _ ⟨P3.out.picSide, P3.out⟩ (fun _ => ?_)
        clear hK K
        refine wpAnyH_ready (rs := [6, 8]) (by kernel_rfl) (by simp) ?_
        refine AllReadyH.cons rfl (fun K hK => ?_) ?_
        · go_simp
          refine (l01Empty_any nn V2).mono ?_
          rintro e V3 ⟨rfl, hb⟩
          have P4 := Lib.hid (P3.out.below hb)
          have R4 := Lib.hid (R3.out.below hb)
          have D4 := Lib.hid (D3.out.trans (hb.mono D3.out.size))
          have A4 := Lib.hid (A3.out.below hb)
          clear hb P3 R3 D3 A3
          try go_simp
          refine hK.out _ _ ⟨P4.out.picSide, P4.out⟩ (fun _ => ?_)
          clear hK K
          refine wpAnyH_ready (rs := [8]) (by kernel_rfl) (by simp) ?_
          refine AllReadyH.cons rfl (fun K hK => ?_) ?_
          · go_simp
            obtain ⟨V4, hV4⟩ : ∃ V4, V4 = V3.alloc (.cells (wav 0 zerosC) 29) := ⟨_, rfl⟩
            have hb : Below V3.heap.size V3 V4 := by rw [hV4]; exact (Below.refl _ _).alloc (Nat.le_refl _) _
            have hlt0 := R4.out.lt
            have hlt6 := A4.out.lt
            have P5 := Lib.hid (P4.out.below hb)
            have R5 := Lib.hid (R4.out.below hb)
            have D5 := Lib.hid (D4.out.trans (hb.mono D4.out.size))
            have A5 := Lib.hid (A4.out.below hb)
            obtain ⟨g7, hg7⟩ : ∃ g7, g7 = V3.heap.size := ⟨_, rfl⟩
            have B5 : Hid (Blk V4 g7 (wav 0 zerosC) 29) := by show Blk _ _ _ _; rw [hV4, hg7]; exact Blk.new V3 _ _
            have ng7 : w.heap.size + 1 < g7 := by omega
            have n67 : g6 ≠ g7 := by omega
            rw [← hV4, ← hg7]
            clear hb hV4 hg7 P4 R4 D4 A4 hlt0
            refine hK.out _ _ ⟨P5.out.picSide, P5.out⟩ (fun _ => ?_)
            clear hK K
            refine wpAnyH_ready (rs := [9]) (by kernel_rfl) (by simp) ?_
            refine AllReadyH.cons rfl (fun K hK => ?_) AllReadyH.nil
            go_simp
            refine hK.out _ _ ⟨P5.out.picSide, P5.out⟩ (fun _ => ?_)
            clear hK K
            refine wpAnyH_ready (rs := [10]) (by kernel_rfl) (by simp) ?_
            refine AllReadyH.cons rfl (fun K hK => ?_) AllReadyH.nil
            rw [if_pos (by rfl)]
            refine wp_store_row 47 _ _ rfl g6 (pic nn l') rfl rfl 47 (pic 0 zeros) A5.out (Try.sizeP HLp.out) (by rw [pic_size, pic_size, HLp.out]; rfl) (pic_one nn _) ?_
            have P6 := Lib.hid (P5.out.rowOther (by omega : w.heap.size ≠ g6) (pic nn l'))
            have R6 := Lib.hid (R5.out.rowOther (by omega : w.heap.size + 1 ≠ g6) (pic nn l'))
            have D6 := Lib.hid (Below.setRow D5.out (by omega : w.heap.size ≤ g6) (pic nn l'))
            have A6 := Lib.hid (A5.out.row (pic nn l'))
            have B6 := Lib.hid (B5.out.rowOther (Ne.symm n67) (pic nn l'))
            refine hK.out _ _ ⟨P6.out.picSide, P6.out⟩ (fun _ => ?_)
            clear hK K
            refine wpAnyH_ready (rs := [11]) (by kernel_rfl) (by simp) ?_
            refine AllReadyH.cons rfl (fun K hK => ?_) AllReadyH.nil
            rw [if_pos (by rfl)]
            refine wp_store_row 29 _ _ rfl g7 (wav nn zerosC) rfl rfl 29 (wav 0 zerosC) B6.out (Try.sizeW zerosC_length) rfl (wav_one nn _) ?_
            have P7 := Lib.hid (P6.out.rowOther (by omega : w.heap.size ≠ g7) (wav nn zerosC))
            have R7 := Lib.hid (R6.out.rowOther (by omega : w.heap.size + 1 ≠ g7) (wav nn zerosC))
            have D7 := Lib.hid (Below.setRow D6.out (by omega : w.heap.size ≤ g7) (wav nn zerosC))
            have A7 := Lib.hid (A6.out.rowOther n67 (wav nn zerosC))
            have B7 := Lib.hid (B6.out.row (wav nn zerosC))
            refine hK.out _ _ ⟨P7.out.picSide, P7.out⟩ (fun _ => ?_)
            clear hK K
            refine wpAnyH_done (by kernel_rfl) ?_ _
            go_wp2_with fail
            go_meet
            case rel => exact ⟨g6, g7, l', rfl, rfl, rfl, HLp.out, HOK.out, D7.out, R7.out, A7.out, B7.out, ng6, ng7, n67⟩
          exact AllReadyH.nil
        refine AllReadyH.cons rfl (fun K hK => ?_) ?_
        · go_simp
          obtain ⟨V3, hV3⟩ : ∃ V3, V3 = V2.alloc (.cells (wav 0 zerosC) 29) := ⟨_, rfl⟩
          have hb : Below V2.heap.size V2 V3 := by rw [hV3]; exact (Below.refl _ _).alloc (Nat.le_refl _) _
          have hlt0 := R3.out.lt
          have hlt6 := A3.out.lt
          have P4 := Lib.hid (P3.out.below hb)
          have R4 := Lib.hid (R3.out.below hb)
          have D4 := Lib.hid (D3.out.trans (hb.mono D3.out.size))
          have A4 := Lib.hid (A3.out.below hb)
          obtain ⟨g7, hg7⟩ : ∃ g7, g7 = V2.heap.size := ⟨_, rfl⟩
          have B4 : Hid (Blk V3 g7 (wav 0 zerosC) 29) := by show Blk _ _ _ _; rw [hV3, hg7]; exact Blk.new V2 _ _
          have ng7 : w.heap.size + 1 < g7 := by omega
          have n67 : g6 ≠ g7 := by omega
          rw [← hV3, ← hg7]
          clear hb hV3 hg7 P3 R3 D3 A3 hlt0
          refine hK.out _ _ ⟨P4.out.picSide, P4.out⟩ (fun _ => ?_)
          clear hK K
          refine wpAnyH_ready (rs := [6]) (by kernel_rfl) (by simp) ?_
          refine AllReadyH.cons rfl (fun K hK => ?_) ?_
          · go_simp
            refine (l01Empty_any nn V3).mono ?_
            rintro e V4 ⟨rfl, hb⟩
            have P5 := Lib.hid (P4.out.below hb)
            have R5 := Lib.hid (R4.out.below hb)
            have D5 := Lib.hid (D4.out.trans (hb.mono D4.out.size))
            have A5 := Lib.hid (A4.out.below hb)
            have B5 := Lib.hid (B4.out.below hb)
            clear hb P4 R4 D4 A4 B4
            try go_simp
            refine hK.out _ _ ⟨P5.out.picSide, P5.out⟩ (fun _ => ?_)
            clear hK K
            refine wpAnyH_ready (rs := [9]) (by kernel_rfl) (by simp) ?_
            refine AllReadyH.cons rfl (fun K hK => ?_) AllReadyH.nil
            go_simp
            refine hK.out _ _ ⟨P5.out.picSide, P5.out⟩ (fun _ => ?_)
            clear hK K
            refine wpAnyH_ready (rs := [10]) (by kernel_rfl) (by simp) ?_
            refine AllReadyH.cons rfl (fun K hK => ?_) AllReadyH.nil
            rw [if_pos (by rfl)]
            refine wp_store_row 47 _ _ rfl g6 (pic nn l') rfl rfl 47 (pic 0 zeros) A5.out (Try.sizeP HLp.out) (by rw [pic_size, pic_size, HLp.out]; rfl) (pic_one nn _) ?_
            have P6 := Lib.hid (P5.out.rowOther (by omega : w.heap.size ≠ g6) (pic nn l'))
            have R6 := Lib.hid (R5.out.rowOther (by omega : w.heap.size + 1 ≠ g6) (pic nn l'))
            have D6 := Lib.hid (Below.setRow D5.out (by omega : w.heap.size ≤ g6) (pic nn l'))
            have A6 := Lib.hid (A5.out.row (pic nn l'))
            have B6 := Lib.hid (B5.out.rowOther (Ne.symm n67) (pic nn l'))
            refine hK.out _ _ ⟨P6.out.picSide, P6.out⟩ (fun _ => ?_)
            clear hK K
            refine wpAnyH_ready (rs := [11]) (by kernel_rfl) (by simp) ?_
            refine AllReadyH.cons rfl (fun K hK => ?_) AllReadyH.nil
            rw [if_pos (by rfl)]
            refine wp_store_row 29 _ _ rfl g7 (wav nn zerosC) rfl rfl 29 (wav 0 zerosC) B6.out (Try.sizeW zerosC_length) rfl (wav_one nn _) ?_
            have P7 := Lib.hid (P6.out.rowOther (by omega : w.heap.size ≠ g7) (wav nn zerosC))
            have R7 := Lib.hid (R6.out.rowOther (by omega : w.heap.size + 1 ≠ g7) (wav nn zerosC))
            have D7 := Lib.hid (Below.setRow D6.out (by omega : w.heap.size ≤ g7) (wav nn zerosC))
            have A7 := Lib.hid (A6.out.rowOther n67 (wav nn zerosC))
            have B7 := Lib.hid (B6.out.row (wav nn zerosC))
            refine hK.out _ _ ⟨P7.out.picSide, P7.out⟩ (fun _ => ?_)
            clear hK K
            refine wpAnyH_done (by kernel_rfl) ?_ _
            go_wp2_with fail
            go_meet
            case rel => exact ⟨g6, g7, l', rfl, rfl, rfl, HLp.out, HOK.out, D7.out, R7.out, A7.out, B7.out, ng6, ng7, n67⟩
          exact AllReadyH.nil
        exact AllReadyH.nil
      refine AllReadyH.cons rfl (fun K hK => ?_) ?_
      · go_simp
        obtain ⟨V2, hV2⟩ : ∃ V2, V2 = V1.alloc (.cells (wav 0 zerosC) 29) := ⟨_, rfl⟩
        have hb : Below V1.heap.size V1 V2 := by rw [hV2]; exact (Below.refl _ _).alloc (Nat.le_refl _) _
        have hlt0 := R2.out.lt
        have P3 := Lib.hid (P2.out.below hb)
        have R3 := Lib.hid (R2.out.below hb)
        have D3 := Lib.hid (D2.out.trans (hb.mono D2.out.size))
        obtain ⟨g7, hg7⟩ : ∃ g7, g7 = V1.heap.size := ⟨_, rfl⟩
        have B3 : Hid (Blk V2 g7 (wav 0 zerosC) 29) := by show Blk _ _ _ _; rw [hV2, hg7]; exact Blk.new V1 _ _
        have ng7 : w.heap.size + 1 < g7 := by omega
        rw [← hV2, ← hg7]
        clear hb hV2 hg7 P2 R2 D2 hlt0
        refine hK.out _ _ ⟨P3.out.picSide, P3.out⟩ (fun _ => ?_)
        clear hK K
        refine wpAnyH_ready (rs := [6, 7]) (by kernel_rfl) (by simp) ?_
        refine AllReadyH.cons rfl (fun K hK => ?_) ?_
        · go_simp
          refine (l01Empty_any nn V2).mono ?_
          rintro e V3 ⟨rfl, hb⟩
          have P4 := Lib.hid (P3.out.below hb)
          have R4 := Lib.hid (R3.out.below hb)
          have D4 := Lib.hid (D3.out.trans (hb.mono D3.out.size))
          have B4 := Lib.hid (B3.out.below hb)
          clear hb P3 R3 D3 B3
          try go_simp
          refine hK.out _ _ ⟨P4.out.picSide, P4.out⟩ (fun _ => ?_)
          clear hK K
          refine wpAnyH_ready (rs := [7]) (by kernel_rfl) (by simp) ?_
          refine AllReadyH.cons rfl (fun K hK => ?_) ?_
          · go_simp
            obtain ⟨V4, hV4⟩ : ∃ V4, V4 = V3.alloc (.cells (pic 0 zeros) 47) := ⟨_, rfl⟩
            have hb : Below V3.heap.size V3 V4 := by rw [hV4]; exact (Below.refl _ _).alloc (Nat.le_refl _) _
            have hlt0 := R4.out.lt
            have hlt7 := B4.out.lt
            have P5 := Lib.hid (P4.out.below hb)
            have R5 := Lib.hid (R4.out.below hb)
            have D5 := Lib.hid (D4.out.trans (hb.mono D4.out.size))
            have B5 := Lib.hid (B4.out.below hb)
            obtain ⟨g6, hg6⟩ : ∃ g6, g6 = V3.heap.size := ⟨_, rfl⟩
            have A5 : Hid (Blk V4 g6 (pic 0 zeros) 47) := by show Blk _ _ _ _; rw [hV4, hg6]; exact Blk.new V3 _ _
            have ng6 : w.heap.size + 1 < g6 := by omega
            have n67 : g6 ≠ g7 := by omega
            rw [← hV4, ← hg6]
            clear hb hV4 hg6 P4 R4 D4 B4 hlt0
            refine hK.out _ _ ⟨P5.out.picSide, P5.out⟩ (fun _ => ?_)
            clear hK K
            refine wpAnyH_ready (rs := [9]) (by kernel_rfl) (by simp) ?_
            refine AllReadyH.cons rfl (fun K hK => ?_) AllReadyH.nil
            go_simp
            refine hK.out _ _ ⟨P5.out.picSide, P5.out⟩ (fun _ => ?_)
            clear hK K
            refine wpAnyH_ready (rs := [10]) (by kernel_rfl) (by simp) ?_
            refine AllReadyH.cons rfl (fun K hK => ?_) AllReadyH.nil
            rw [if_pos (by rfl)]
            refine wp_store_row 47 _ _ rfl g6 (pic nn l') rfl rfl 47 (pic 0 zeros) A5.out (Try.sizeP HLp.out) (by rw [pic_size, pic_size, HLp.out]; rfl) (pic_one nn _) ?_
            have P6 := Lib.hid (P5.out.rowOther (by omega : w.heap.size ≠ g6) (pic nn l'))
            have R6 := Lib.hid (R5.out.rowOther (by omega : w.heap.size + 1 ≠ g6) (pic nn l'))
            have D6 := Lib.hid (Below.setRow D5.out (by omega : w.heap.size ≤ g6) (pic nn l'))
            have A6 := Lib.hid (A5.out.row (pic nn l'))
            have B6 := Lib.hid (B5.out.rowOther (Ne.symm n67) (pic nn l'))
            refine hK.out _ _ ⟨P6.out.picSide, P6.out⟩ (fun _ => ?_)
            clear hK K
            refine wpAnyH_ready (rs := [11]) (by kernel_rfl) (by simp) ?_
            refine AllReadyH.cons rfl (fun K hK => ?_) AllReadyH.nil
            rw [if_pos (by rfl)]
            refine wp_store_row 29 _ _ rfl g7 (wav nn zerosC) rfl rfl 29 (wav 0 zerosC) B6.out (Try.sizeW zerosC_length) rfl (wav_one nn _) ?_
            have P7 := Lib.hid (P6.out.rowOther (by omega : w.heap.size ≠ g7) (wav nn zerosC))
            have R7 := Lib.hid (R6.out.rowOther (by omega : w.heap.size + 1 ≠ g7) (wav nn zerosC))
            have D7 := Lib.hid (Below.setRow D6.out (by omega : w.heap.size ≤ g7) (wav nn zerosC))
            have A7 := Lib.hid (A6.out.rowOther n67 (wav nn zerosC))
            have B7 := Lib.hid (B6.out.row (wav nn zerosC))
            refine hK.out _ _ ⟨P7.out.picSide, P7.out⟩ (fun _ => ?_)
            clear hK K
            refine wpAnyH_done (by kernel_rfl) ?_ _
            go_wp2_with fail
            go_meet
            case rel => exact ⟨g6, g7, l', rfl, rfl, rfl, HLp.out, HOK.out, D7.out, R7.out, A7.out, B7.out, ng6, ng7, n67⟩
          exact AllReadyH.nil
        refine AllReadyH.cons rfl (fun K hK => ?_) ?_
        · go_simp
          obtain ⟨V3, hV3⟩ : ∃ V3, V3 = V2.alloc (.cells (pic 0 zeros) 47) := ⟨_, rfl⟩
          have hb : Below V2.heap.size V2 V3 := by rw [hV3]; exact (Below.refl _ _).alloc (Nat.le_refl _) _
          have hlt0 := R3.out.lt
          have hlt7 := B3.out.lt
          have P4 := Lib.hid (P3.out.below hb)
          have R4 := Lib.hid (R3.out.below hb)
          have D4 := Lib.hid (D3.out.trans (hb.mono D3.out.size))
          have B4 := Lib.hid (B3.out.below hb)
          obtain ⟨g6, hg6⟩ : ∃ g6, g6 = V2.heap.size := ⟨_, rfl⟩
          have A4 : Hid (Blk V3 g6 (pic 0 zeros) 47) := by show Blk _ _ _ _; rw [hV3, hg6]; exact Blk.new V2 _ _
          have ng6 : w.heap.size + 1 < g6 := by omega
          have n67 : g6 ≠ g7 := by omega
          rw [← hV3, ← hg6]
          clear hb hV3 hg6 P3 R3 D3 B3 hlt0
          refine hK.out _ _ ⟨P4.out.picSide, P4.out⟩ (fun _ => ?_)
          clear hK K
          refine wpAnyH_ready (rs := [6]) (by kernel_rfl) (by simp) ?_
          refine AllReadyH.cons rfl (fun K hK => ?_) ?_
          · go_simp
            refine (l01Empty_any nn V3).mono ?_
            rintro e V4 ⟨rfl, hb⟩
            have P5 := Lib.hid (P4.out.below hb)
            have R5 := Lib.hid (R4.out.below hb)
            have D5 := Lib.hid (D4.out.trans (hb.mono D4.out.size))
            have A5 := Lib.hid (A4.out.below hb)
            have B5 := Lib.hid (B4.out.below hb)
            clear hb P4 R4 D4 A4 B4
            try go_simp
            refine hK.out _ _ ⟨P5.out.picSide, P5.out⟩ (fun _ => ?_)
            clear hK K
            refine wpAnyH_ready (rs := [9]) (by kernel_rfl) (by simp) ?_
            refine AllReadyH.cons rfl (fun K hK => ?_) AllReadyH.nil
            go_simp
            refine hK.out _ _ ⟨P5.out.picSide, P5.out⟩ (fun _ => ?_)
            clear hK K
            refine wpAnyH_ready (rs := [10]) (by kernel_rfl) (by simp) ?_
            refine AllReadyH.cons rfl (fun K hK => ?_) AllReadyH.nil
            rw [if_pos (by rfl)]
            refine wp_store_row 47 _ _ rfl g6 (pic nn l') rfl rfl 47 (pic 0 zeros) A5.out (Try.sizeP HLp.out) (by rw [pic_size, pic_size, HLp.out]; rfl) (pic_one nn _) ?_
            have P6 := Lib.hid (P5.out.rowOther (by omega : w.heap.size ≠ g6) (pic nn l'))
            have R6 := Lib.hid (R5.out.rowOther (by omega : w.heap.size + 1 ≠ g6) (pic nn l'))
            have D6 := Lib.hid (Below.setRow D5.out (by omega : w.heap.size ≤ g6) (pic nn l'))
            have A6 := Lib.hid (A5.out.row (pic nn l'))
            have B6 := Lib.hid (B5.out.rowOther (Ne.symm n67) (pic nn l'))
            refine hK.out _ _ ⟨P6.out.picSide, P6.out⟩ (fun _ => ?_)
            clear hK K
            refine wpAnyH_ready (rs := [11]) (by kernel_rfl) (by simp) ?_
            refine AllReadyH.cons rfl (fun K hK => ?_) AllReadyH.nil
            rw [if_pos (by rfl)]
            refine wp_store_row 29 _ _ rfl g7 (wav nn zerosC) rfl rfl 29 (wav 0 zerosC) B6.out (Try.sizeW zerosC_length) rfl (wav_one nn _) ?_
            have P7 := Lib.hid (P6.out.rowOther (by omega : w.heap.size ≠ g7) (wav nn zerosC))
            have R7 := Lib.hid (R6.out.rowOther (by omega : w.heap.size + 1 ≠ g7) (wav nn zerosC))
            have D7 := Lib.hid (Below.setRow D6.out (by omega : w.heap.size ≤ g7) (wav nn zerosC))
            have A7 := Lib.hid (A6.out.rowOther n67 (wav nn zerosC))
            have B7 := Lib.hid (B6.out.row (wav nn zerosC))
            refine hK.out _ _ ⟨P7.out.picSide, P7.out⟩ (fun _ => ?_)
            clear hK K
            refine wpAnyH_done (by kernel_rfl) ?_ _
            go_wp2_with fail
            go_meet
            case rel => exact ⟨g6, g7, l', rfl, rfl, rfl, HLp.out, HOK.out, D7.out, R7.out, A7.out, B7.out, ng6, ng7, n67⟩
          exact AllReadyH.nil
        exact AllReadyH.nil
      exact AllReadyH.nil
    refine AllReadyH.cons rfl (fun K hK => ?_) ?_
    · go_simp
      obtain ⟨V1, hV1⟩ : ∃ V1, V1 = V0.alloc (.cells (pic 0 zeros) 47) := ⟨_, rfl⟩
      have hb : Below V0.heap.size V0 V1 := by rw [hV1]; exact (Below.refl _ _).alloc (Nat.le_refl _) _
      have hlt0 := R1.out.lt
      have P2 := Lib.hid (P1.out.below hb)
      have R2 := Lib.hid (R1.out.below hb)
      have D2 := Lib.hid (D1.out.trans (hb.mono D1.out.size))
      obtain ⟨g6, hg6⟩ : ∃ g6, g6 = V0.heap.size := ⟨_, rfl⟩
      have A2 : Hid (Blk V1 g6 (pic 0 zeros) 47) := by show Blk _ _ _ _; rw [hV1, hg6]; exact Blk.new V0 _ _
      have ng6 : w.heap.size + 1 < g6 := by omega
      rw [← hV1, ← hg6]
      clear hb hV1 hg6 P1 R1 D1 hlt0
      refine hK.out _ _ ⟨P2.out.picSide, P2.out⟩ (fun _ => ?_)
      clear hK K
      refine wpAnyH_ready (rs := [3, 8]) (by kernel_rfl) (by simp) ?_
      refine AllReadyH.cons rfl (fun K hK => ?_) ?_
      · go_simp
        refine (l06Amp_any nn m l hl hn1 hn2 hmul hm64 HLV.out V1).mono ?_
        rintro e V2 ⟨l', rfl, hl', hok, hb⟩
        have P3 := Lib.hid (P2.out.below hb)
        have R3 := Lib.hid (R2.out.below hb)
        have D3 := Lib.hid (D2.out.trans (hb.mono D2.out.size))
        have A3 := Lib.hid (A2.out.below hb)
        have HLp := Lib.hid hl'
        have HOK := Lib.hid hok
        clear hb hl' hok P2 R2 D2 A2
        try go_simp
        refine hK.out _ _ ⟨P3.out.picSide, P3.out⟩ (fun _ => ?_)
        clear hK K
        refine wpAnyH_ready (rs := [6, 8]) (by kernel_rfl) (by simp) ?_
        refine AllReadyH.cons rfl (fun K hK => ?_) ?_
        · go_simp
          refine (l01Empty_any nn V2).mono ?_
          rintro e V3 ⟨rfl, hb⟩
          have P4 := Lib.hid (P3.out.below hb)
          have R4 := Lib.hid (R3.out.below hb)
          have D4 := Lib.hid (D3.out.trans (hb.mono D3.out.size))
          have A4 := Lib.hid (A3.out.below hb)
          clear hb P3 R3 D3 A3
          try go_simp
          refine hK.out _ _ ⟨P4.out.picSide, P4.out⟩ (fun _ => ?_)
          clear hK K
          refine wpAnyH_ready (rs := [8]) (by kernel_rfl) (by simp) ?_
          refine AllReadyH.cons rfl (fun K hK => ?_) ?_
          · go_simp
            obtain ⟨V4, hV4⟩ : ∃ V4, V4 = V3.alloc (.cells (wav 0 zerosC) 29) := ⟨_, rfl⟩
            have hb : Below V3.heap.size V3 V4 := by rw [hV4]; exact (Below.refl _ _).alloc (Nat.le_refl _) _
            have hlt0 := R4.out.lt
            have hlt6 := A4.out.lt
            have P5 := Lib.hid (P4.out.below hb)
            have R5 := Lib.hid (R4.out.below hb)
            have D5 := Lib.hid (D4.out.trans (hb.mono D4.out.size))
            have A5 := Lib.hid (A4.out.below hb)
            obtain ⟨g7, hg7⟩ : ∃ g7, g7 = V3.heap.size := ⟨_, rfl⟩
            have B5 : Hid (Blk V4 g7 (wav 0 zerosC) 29) := by show Blk _ _ _ _; rw [hV4, hg7]; exact Blk.new V3 _ _
            have ng7 : w.heap.size + 1 < g7 := by omega
            have n67 : g6 ≠ g7 := by omega
            rw [← hV4, ← hg7]
            clear hb hV4 hg7 P4 R4 D4 A4 hlt0
            refine hK.out _ _ ⟨P5.out.picSide, P5.out⟩ (fun _ => ?_)
            clear hK K
            refine wpAnyH_ready (rs := [9]) (by kernel_rfl) (by simp) ?_
            refine AllReadyH.cons rfl (fun K hK => ?_) AllReadyH.nil
            go_simp
            refine hK.out _ _ ⟨P5.out.picSide, P5.out⟩ (fun _ => ?_)
            clear hK K
            refine wpAnyH_ready (rs := [10]) (by kernel_rfl) (by simp) ?_
            refine AllReadyH.cons rfl (fun K hK => ?_) AllReadyH.nil
            rw [if_pos (by rfl)]
            refine wp_store_row 47 _ _ rfl g6 (pic nn l') rfl rfl 47 (pic 0 zeros) A5.out (Try.sizeP HLp.out) (by rw [pic_size, pic_size, HLp.out]; rfl) (pic_one nn _) ?_
            have P6 := Lib.hid (P5.out.rowOther (by omega : w.heap.size ≠ g6) (pic nn l'))
            have R6 := Lib.hid (R5.out.rowOther (by omega : w.heap.size + 1 ≠ g6) (pic nn l'))
            have D6 := Lib.hid (Below.setRow D5.out (by omega : w.heap.size ≤ g6) (pic nn l'))
            have A6 := Lib.hid (A5.out.row (pic nn l'))
            have B6 := Lib.hid (B5.out.rowOther (Ne.symm n67) (pic nn l'))
            refine hK.out _ _ ⟨P6.out.picSide, P6.out⟩ (fun _ => ?_)
            clear hK K
            refine wpAnyH_ready (rs := [11]) (by kernel_rfl) (by simp) ?_
            refine AllReadyH.cons rfl (fun K hK => ?_) AllReadyH.nil
            rw [if_pos (by rfl)]
            refine wp_store_row 29 _ _ rfl g7 (wav nn zerosC) rfl rfl 29 (wav 0 zerosC) B6.out (Try.sizeW zerosC_length) rfl (wav_one nn _) ?_
            have P7 := Lib.hid (P6.out.rowOther (by omega : w.heap.size ≠ g7) (wav nn zerosC))
            have R7 := Lib.hid (R6.out.rowOther (by omega : w.heap.size + 1 ≠ g7) (wav nn zerosC))
            have D7 := Lib.hid (Below.setRow D6.out (by omega : w.heap.size ≤ g7) (wav nn zerosC))
            have A7 := Lib.hid (A6.out.rowOther n67 (wav nn zerosC))
            have B7 := Lib.hid (B6.out.row (wav nn zerosC))
            refine hK.out _ _ ⟨P7.out.picSide, P7.out⟩ (fun _ => ?_)
            clear hK K
            refine wpAnyH_done (by kernel_rfl) ?_ _
            go_wp2_with fail
            go_meet
            case rel => exact ⟨g6, g7, l', rfl, rfl, rfl, HLp.out, HOK.out, D7.out, R7.out, A7.out, B7.out, ng6, ng7, n67⟩
          exact AllReadyH.nil
        refine AllReadyH.cons rfl (fun K hK => ?_) ?_
        · go_simp
          obtain ⟨V3, hV3⟩ : ∃ V3, V3 = V2.alloc (.cells (wav 0 zerosC) 29) := ⟨_, rfl⟩
          have hb : Below V2.heap.size V2 V3 := by rw [hV3]; exact (Below.refl _ _).alloc (Nat.le_refl _) _
          have hlt0 := R3.out.lt
          have hlt6 := A3.out.lt
          have P4 := Lib.hid (P3.out.below hb)
          have R4 := Lib.hid (R3.out.below hb)
          have D4 := Lib.hid (D3.out.trans (hb.mono D3.out.size))
          have A4 := Lib.hid (A3.out.below hb)
          obtain ⟨g7, hg7⟩ : ∃ g7, g7 = V2.heap.size := ⟨_, rfl⟩
          have B4 : Hid (Blk V3 g7 (wav 0 zerosC) 29) := by show Blk _ _ _ _; rw [hV3, hg7]; exact Blk.new V2 _ _
          have ng7 : w.heap.size + 1 < g7 := by omega
          have n67 : g6 ≠ g7 := by omega
          rw [← hV3, ← hg7]
          clear hb hV3 hg7 P3 R3 D3 A3 hlt0
          refine hK.out _ _ ⟨P4.out.picSide, P4.out⟩ (fun _ => ?_)
          clear hK K
          refine wpAnyH_ready (rs := [6]) (by kernel_rfl) (by simp) ?_
          refine AllReadyH.cons rfl (fun K hK => ?_) ?_
          · go_simp
            refine (l01Empty_any nn V3).mono ?_
            rintro e V4 ⟨rfl, hb⟩
            have P5 := Lib.hid (P4.out.below hb)
            have R5 := Lib.hid (R4.out.below hb)
            have D5 := Lib.hid (D4.out.trans (hb.mono D4.out.size))
            have A5 := Lib.hid (A4.out.below hb)
            have B5 := Lib.hid (B4.out.below hb)
            clear hb P4 R4 D4 A4 B4
            try go_simp
            refine hK.out _ _ ⟨P5.out.picSide, P5.out⟩ (fun _ => ?_)
            clear hK K
            refine wpAnyH_ready (rs := [9]) (by kernel_rfl) (by simp) ?_
            refine AllReadyH.cons rfl (fun K hK => ?_) AllReadyH.nil
            go_simp
            refine hK.out _ _ ⟨P5.out.picSide, P5.out⟩ (fun _ => ?_)
            clear hK K
            refine wpAnyH_ready (rs := [10]) (by kernel_rfl) (by simp) ?_
            refine AllReadyH.cons rfl (fun K hK => ?_) AllReadyH.nil
            rw [if_pos (by rfl)]
            refine wp_store_row 47 _ _ rfl g6 (pic nn l') rfl rfl 47 (pic 0 zeros) A5.out (Try.sizeP HLp.out) (by rw [pic_size, pic_size, HLp.out]; rfl) (pic_one nn _) ?_
            have P6 := Lib.hid (P5.out.rowOther (by omega : w.heap.size ≠ g6) (pic nn l'))
            have R6 := Lib.hid (R5.out.rowOther (by omega : w.heap.size + 1 ≠ g6) (pic nn l'))
            have D6 := Lib.hid (Below.setRow D5.out (by omega : w.heap.size ≤ g6) (pic nn l'))
            have A6 := Lib.hid (A5.out.row (pic nn l'))
            have B6 := Lib.hid (B5.out.rowOther (Ne.symm n67) (pic nn l'))
            refine hK.out _ _ ⟨P6.out.picSide, P6.out⟩ (fun _ => ?_)
            clear hK K
            refine wpAnyH_ready (rs := [11]) (by kernel_rfl) (by simp) ?_
            refine AllReadyH.cons rfl (fun K hK => ?_) AllReadyH.nil
            rw [if_pos (by rfl)]
            refine wp_store_row 29 _ _ rfl g7 (wav nn zerosC) rfl rfl 29 (wav 0 zerosC) B6.out (Try.sizeW zerosC_length) rfl (wav_one nn _) ?_
            have P7 := Lib.hid (P6.out.rowOther (by omega : w.heap.size ≠ g7) (wav nn zerosC))
            have R7 := Lib.hid (R6.out.rowOther (by omega : w.heap.size + 1 ≠ g7) (wav nn zerosC))
            have D7 := Lib.hid (Below.setRow D6.out (by omega : w.heap.size ≤ g7) (wav nn zerosC))
            have A7 := Lib.hid (A6.out.rowOther n67 (wav nn zerosC))
            have B7 := Lib.hid (B6.out.row (wav nn zerosC))
            refine hK.out _ _ ⟨P7.out.picSide, P7.out⟩ (fun _ => ?_)
            clear hK K
            refine wpAnyH_done (by kernel_rfl) ?_ _
            go_wp2_with fail
            go_meet
            case rel => exact ⟨g6, g7, l', rfl, rfl, rfl, HLp.out, HOK.out, D7.out, R7.out, A7.out, B7.out, ng6, ng7, n67⟩
          exact AllReadyH.nil
        exact AllReadyH.nil
      refine AllReadyH.cons rfl (fun K hK => ?_) ?_
      · go_simp
        obtain ⟨V2, hV2⟩ : ∃ V2, V2 = V1.alloc (.cells (wav 0 zerosC) 29) := ⟨_, rfl⟩
        have hb : Below V1.heap.size V1 V2 := by rw [hV2]; exact (Below.refl _ _).alloc (Nat.le_refl _) _
        have hlt0 := R2.out.lt
        have hlt6 := A2.out.lt
        have P3 := Lib.hid (P2.out.below hb)
        have R3 := Lib.hid (R2.out.below hb)
        have D3 := Lib.hid (D2.out.trans (hb.mono D2.out.size))
        have A3 := Lib.hid (A2.out.below hb)
        obtain ⟨g7, hg7⟩ : ∃ g7, g7 = V1.heap.size := ⟨_, rfl⟩
        have B3 : Hid (Blk V2 g7 (wav 0 zerosC) 29) := by show Blk _ _ _ _; rw [hV2, hg7]; exact Blk.new V1 _ _
        have ng7 : w.heap.size + 1 < g7 := by omega
        have n67 : g6 ≠ g7 := by omega
        rw [← hV2, ← hg7]
        clear hb hV2 hg7 P2 R2 D2 A2 hlt0
        refine hK.out _ _ ⟨P3.out.picSide, P3.out⟩ (fun _ => ?_)
        clear hK K
        refine wpAnyH_ready (rs := [3]) (by kernel_rfl) (by simp) ?_
        refine AllReadyH.cons rfl (fun K hK => ?_) ?_
        · go_simp
          refine (l06Amp_any nn m l hl hn1 hn2 hmul hm64 HLV.out V2).mono ?_
          rintro e V3 ⟨l', rfl, hl', hok, hb⟩
          have P4 := Lib.hid (P3.out.below hb)
          have R4 := Lib.hid (R3.out.below hb)
          have D4 := Lib.hid (D3.out.trans (hb.mono D3.out.size))
          have A4 := Lib.hid (A3.out.below hb)
          have B4 := Lib.hid (B3.out.below hb)
          have HLp := Lib.hid hl'
          have HOK := Lib.hid hok
          clear hb hl' hok P3 R3 D3 A3 B3
          try go_simp
          refine hK.out _ _ ⟨P4.out.picSide, P4.out⟩ (fun _ => ?_)
          clear hK K
          refine wpAnyH_ready (rs := [6]) (by kernel_rfl) (by simp) ?_
          refine AllReadyH.cons rfl (fun K hK => ?_) ?_
          · go_simp
            refine (l01Empty_any nn V3).mono ?_
            rintro e V4 ⟨rfl, hb⟩
            have P5 := Lib.hid (P4.out.below hb)
            have R5 := Lib.hid (R4.out.below hb)
            have D5 := Lib.hid (D4.out.trans (hb.mono D4.out.size))
            have A5 := Lib.hid (A4.out.below hb)
            have B5 := Lib.hid (B4.out.below hb)
            clear hb P4 R4 D4 A4 B4
            try go_simp
            refine hK.out _ _ ⟨P5.out.picSide, P5.out⟩ (fun _ => ?_)
            clear hK K
            refine wpAnyH_ready (rs := [9]) (by kernel_rfl) (by simp) ?_
            refine AllReadyH.cons rfl (fun K hK => ?_) AllReadyH.nil
            go_simp
            refine hK.out _ _ ⟨P5.out.picSide, P5.out⟩ (fun _ => ?_)
            clear hK K
            refine wpAnyH_ready (rs := [10]) (by kernel_rfl) (by simp) ?_
            refine AllReadyH.cons rfl (fun K hK => ?_) AllReadyH.nil
            rw [if_pos (by rfl)]
            refine wp_store_row 47 _ _ rfl g6 (pic nn l') rfl rfl 47 (pic 0 zeros) A5.out (Try.sizeP HLp.out) (by rw [pic_size, pic_size, HLp.out]; rfl) (pic_one nn _) ?_
            have P6 := Lib.hid (P5.out.rowOther (by omega : w.heap.size ≠ g6) (pic nn l'))
            have R6 := Lib.hid (R5.out.rowOther (by omega : w.heap.size + 1 ≠ g6) (pic nn l'))
            have D6 := Lib.hid (Below.setRow D5.out (by omega : w.heap.size ≤ g6) (pic nn l'))
            have A6 := Lib.hid (A5.out.row (pic nn l'))
            have B6 := Lib.hid (B5.out.rowOther (Ne.symm n67) (pic nn l'))
            refine hK.out _ _ ⟨P6.out.picSide, P6.out⟩ (fun _ => ?_)
            clear hK K
            refine wpAnyH_ready (rs := [11]) (by kernel_rfl) (by simp) ?_
            refine AllReadyH.cons rfl (fun K hK => ?_) AllReadyH.nil
            rw [if_pos (by rfl)]
            refine wp_store_row 29 _ _ rfl g7 (wav nn zerosC) rfl rfl 29 (wav 0 zerosC) B6.out (Try.sizeW zerosC_length) rfl (wav_one nn _) ?_
            have P7 := Lib.hid (P6.out.rowOther (by omega : w.heap.size ≠ g7) (wav nn zerosC))
            have R7 := Lib.hid (R6.out.rowOther (by omega : w.heap.size + 1 ≠ g7) (wav nn zerosC))
            have D7 := Lib.hid (Below.setRow D6.out (by omega : w.heap.size ≤ g7) (wav nn zerosC))
            have A7 := Lib.hid (A6.out.rowOther n67 (wav nn zerosC))
            have B7 := Lib.hid (B6.out.row (wav nn zerosC))
            refine hK.out _ _ ⟨P7.out.picSide, P7.out⟩ (fun _ => ?_)
            clear hK K
            refine wpAnyH_done (by kernel_rfl) ?_ _
            go_wp2_with fail
            go_meet
            case rel => exact ⟨g6, g7, l', rfl, rfl, rfl, HLp.out, HOK.out, D7.out, R7.out, A7.out, B7.out, ng6, ng7, n67⟩
          exact AllReadyH.nil
        exact AllReadyH.nil
      exact AllReadyH.nil
    refine AllReadyH.cons rfl (fun K hK => ?_) ?_
    · go_simp
      obtain ⟨V1, hV1⟩ : ∃ V1, V1 = V0.alloc (.cells (wav 0 zerosC) 29) := ⟨_, rfl⟩
      have hb : Below V0.heap.size V0 V1 := by rw [hV1]; exact (Below.refl _ _).alloc (Nat.le_refl _) _
      have hlt0 := R1.out.lt
      have P2 := Lib.hid (P1.out.below hb)
      have R2 := Lib.hid (R1.out.below hb)
      have D2 := Lib.hid (D1.out.trans (hb.mono D1.out.size))
      obtain ⟨g7, hg7⟩ : ∃ g7, g7 = V0.heap.size := ⟨_, rfl⟩
      have B2 : Hid (Blk V1 g7 (wav 0 zerosC) 29) := by show Blk _ _ _ _; rw [hV1, hg7]; exact Blk.new V0 _ _
      have ng7 : w.heap.size + 1 < g7 := by omega
      rw [← hV1, ← hg7]
      clear hb hV1 hg7 P1 R1 D1 hlt0
      refine hK.out _ _ ⟨P2.out.picSide, P2.out⟩ (fun _ => ?_)
      clear hK K
      refine wpAnyH_ready (rs := [3, 7]) (by kernel_rfl) (by simp) ?_
      refine AllReadyH.cons rfl (fun K hK => ?_) ?_
      · go_simp
        refine (l06Amp_any nn m l hl hn1 hn2 hmul hm64 HLV.out V1).mono ?_
        rintro e V2 ⟨l', rfl, hl', hok, hb⟩
        have P3 := Lib.hid (P2.out.below hb)
        have R3 := Lib.hid (R2.out.below hb)
        have D3 := Lib.hid (D2.out.trans (hb.mono D2.out.size))
        have B3 := Lib.hid (B2.out.below hb)
        have HLp := Lib.hid hl'
        have HOK := Lib.hid hok
        clear hb hl' hok P2 R2 D2 B2
        try go_simp
        refine hK.out _ _ ⟨P3.out.picSide, P3.out⟩ (fun _ => ?_)
        clear hK K
        refine wpAnyH_ready (rs := [6, 7]) (by kernel_rfl) (by simp) ?_
        refine AllReadyH.cons rfl (fun K hK => ?_) ?_
        · go_simp
          refine (l01Empty_any nn V2).mono ?_
          rintro e V3 ⟨rfl, hb⟩
          have P4 := Lib.hid (P3.out.below hb)
          have R4 := Lib.hid (R3.out.below hb)
          have D4 := Lib.hid (D3.out.trans (hb.mono D3.out.size))
          have B4 := Lib.hid (B3.out.below hb)
          clear hb P3 R3 D3 B3
          try go_simp
          refine hK.out _ _ ⟨P4.out.picSide, P4.out⟩ (fun _ => ?_)
          clear hK K
          refine wpAnyH_ready (rs := [7]) (by kernel_rfl) (by simp) ?_
          refine AllReadyH.cons rfl (fun K hK => ?_) ?_
          · go_simp
            obtain ⟨V4, hV4⟩ : ∃ V4, V4 = V3.alloc (.cells (pic 0 zeros) 47) := ⟨_, rfl⟩
            have hb : Below V3.heap.size V3 V4 := by rw [hV4]; exact (Below.refl _ _).alloc (Nat.le_refl _) _
            have hlt0 := R4.out.lt
            have hlt7 := B4.out.lt
            have P5 := Lib.hid (P4.out.below hb)
            have R5 := Lib.hid (R4.out.below hb)
            have D5 := Lib.hid (D4.out.trans (hb.mono D4.out.size))
            have B5 := Lib.hid (B4.out.below hb)
            obtain ⟨g6, hg6⟩ : ∃ g6, g6 = V3.heap.size := ⟨_, rfl⟩
            have A5 : Hid (Blk V4 g6 (pic 0 zeros) 47) := by show Blk _ _ _ _; rw [hV4, hg6]; exact Blk.new V3 _ _
            have ng6 : w.heap.size + 1 < g6 := by omega
            have n67 : g6 ≠ g7 := by omega
            rw [← hV4, ← hg6]
            clear hb hV4 hg6 P4 R4 D4 B4 hlt0
            refine hK.out _ _ ⟨P5.out.picSide, P5.out⟩ (fun _ => ?_)
            clear hK K
            refine wpAnyH_ready (rs := [9]) (by kernel_rfl) (by simp) ?_
            refine AllReadyH.cons rfl (fun K hK => ?_) AllReadyH.nil
            go_simp
            refine hK.out _ _ ⟨P5.out.picSide, P5.out⟩ (fun _ => ?_)
            clear hK K
            refine wpAnyH_ready (rs := [10]) (by kernel_rfl) (by simp) ?_
            refine AllReadyH.cons rfl (fun K hK => ?_) AllReadyH.nil
            rw [if_pos (by rfl)]
            refine wp_store_row 47 _ _ rfl g6 (pic nn l') rfl rfl 47 (pic 0 zeros) A5.out (Try.sizeP HLp.out) (by rw [pic_size, pic_size, HLp.out]; rfl) (pic_one nn _) ?_
            have P6 := Lib.hid (P5.out.rowOther (by omega : w.heap.size ≠ g6) (pic nn l'))
            have R6 := Lib.hid (R5.out.rowOther (by omega : w.heap.size + 1 ≠ g6) (pic nn l'))
            have D6 := Lib.hid (Below.setRow D5.out (by omega : w.heap.size ≤ g6) (pic nn l'))
            have A6 := Lib.hid (A5.out.row (pic nn l'))
            have B6 := Lib.hid (B5.out.rowOther (Ne.symm n67) (pic nn l'))
            refine hK.out _ _ ⟨P6.out.picSide, P6.out⟩ (fun _ => ?_)
            clear hK K
            refine wpAnyH_ready (rs := [11]) (by kernel_rfl) (by simp) ?_
            refine AllReadyH.cons rfl (fun K hK => ?_) AllReadyH.nil
            rw [if_pos (by rfl)]
            refine wp_store_row 29 _ _ rfl g7 (wav nn zerosC) rfl rfl 29 (wav 0 zerosC) B6.out (Try.sizeW zerosC_length) rfl (wav_one nn _) ?_
            have P7 := Lib.hid (P6.out.rowOther (by omega : w.heap.size ≠ g7) (wav nn zerosC))
            have R7 := Lib.hid (R6.out.rowOther (by omega : w.heap.size + 1 ≠ g7) (wav nn zerosC))
            have D7 := Lib.hid (Below.setRow D6.out (by omega : w.heap.size ≤ g7) (wav nn zerosC))
            have A7 := Lib.hid (A6.out.rowOther n67 (wav nn zerosC))
            have B7 := Lib.hid (B6.out.row (wav nn zerosC))
            refine hK.out _ _ ⟨P7.out.picSide, P7.out⟩ (fun _ => ?_)
            clear hK K
            refine wpAnyH_done (by kernel_rfl) ?_ _
            go_wp2_with fail
            go_meet
            case rel => exact ⟨g6, g7, l', rfl, rfl, rfl, HLp.out, HOK.out, D7.out, R7.out, A7.out, B7.out, ng6, ng7, n67⟩
          exact AllReadyH.nil
        refine AllReadyH.cons rfl (fun K hK => ?_) ?_
        · go_simp
          obtain ⟨V3, hV3⟩ : ∃ V3, V3 = V2.alloc (.cells (pic 0 zeros) 47) := ⟨_, rfl⟩
          have hb : Below V2.heap.size V2 V3 := by rw [hV3]; exact (Below.refl _ _).alloc (Nat.le_refl _) _
          have hlt0 := R3.out.lt
          have hlt7 := B3.out.lt
          have P4 := Lib.hid (P3.out.below hb)
          have R4 := Lib.hid (R3.out.below hb)
          have D4 := Lib.hid (D3.out.trans (hb.mono D3.out.size))
          have B4 := Lib.hid (B3.out.below hb)
          obtain ⟨g6, hg6⟩ : ∃ g6, g6 = V2.heap.size := ⟨_, rfl⟩
          have A4 : Hid (Blk V3 g6 (pic 0 zeros) 47) := by show Blk _ _ _ _; rw [hV3, hg6]; exact Blk.new V2 _ _
          have ng6 : w.heap.size + 1 < g6 := by omega
          have n67 : g6 ≠ g7 := by omega
          rw [← hV3, ← hg6]
          clear hb hV3 hg6 P3 R3 D3 B3 hlt0
          refine hK.out _ _ ⟨P4.out.picSide, P4.out⟩ (fun _ => ?_)
          clear hK K
          refine wpAnyH_ready (rs := [6]) (by kernel_rfl) (by simp) ?_
          refine AllReadyH.cons rfl (fun K hK => ?_) ?_
          · go_simp
            refine (l01Empty_any nn V3).mono ?_
            rintro e V4 ⟨rfl, hb⟩
            have P5 := Lib.hid (P4.out.below hb)
            have R5 := Lib.hid (R4.out.below hb)
            have D5 := Lib.hid (D4.out.trans (hb.mono D4.out.size))
            have A5 := Lib.hid (A4.out.below hb)
            have B5 := Lib.hid (B4.out.below hb)
            clear hb P4 R4 D4 A4 B4
            try go_simp
            refine hK.out _ _ ⟨P5.out.picSide, P5.out⟩ (fun _ => ?_)
            clear hK K
            refine wpAnyH_ready (rs := [9]) (by kernel_rfl) (by simp) ?_
            refine AllReadyH.cons rfl (fun K hK => ?_) AllReadyH.nil
            go_simp
            refine hK.out _ _ ⟨P5.out.picSide, P5.out⟩ (fun _ => ?_)
            clear hK K
            refine wpAnyH_ready (rs := [10]) (by kernel_rfl) (by simp) ?_
            refine AllReadyH.cons rfl (fun K hK => ?_) AllReadyH.nil
            rw [if_pos (by rfl)]
            refine wp_store_row 47 _ _ rfl g6 (pic nn l') rfl rfl 47 (pic 0 zeros) A5.out (Try.sizeP HLp.out) (by rw [pic_size, pic_size, HLp.out]; rfl) (pic_one nn _) ?_
            have P6 := Lib.hid (P5.out.rowOther (by omega : w.heap.size ≠ g6) (pic nn l'))
            have R6 := Lib.hid (R5.out.rowOther (by omega : w.heap.size + 1 ≠ g6) (pic nn l'))
            have D6 := Lib.hid (Below.setRow D5.out (by omega : w.heap.size ≤ g6) (pic nn l'))
            have A6 := Lib.hid (A5.out.row (pic nn l'))
            have B6 := Lib.hid (B5.out.rowOther (Ne.symm n67) (pic nn l'))
            refine hK.out _ _ ⟨P6.out.picSide, P6.out⟩ (fun _ => ?_)
            clear hK K
            refine wpAnyH_ready (rs := [11]) (by kernel_rfl) (by simp) ?_
            refine AllReadyH.cons rfl (fun K hK => ?_) AllReadyH.nil
            rw [if_pos (by rfl)]
            refine wp_store_row 29 _ _ rfl g7 (wav nn zerosC) rfl rfl 29 (wav 0 zerosC) B6.out (Try.sizeW zerosC_length) rfl (wav_one nn _) ?_
            have P7 := Lib.hid (P6.out.rowOther (by omega : w.heap.size ≠ g7) (wav nn zerosC))
            have R7 := Lib.hid (R6.out.rowOther (by omega : w.heap.size + 1 ≠ g7) (wav nn zerosC))
            have D7 := Lib.hid (Below.setRow D6.out (by omega : w.heap.size ≤ g7) (wav nn zerosC))
            have A7 := Lib.hid (A6.out.rowOther n67 (wav nn zerosC))
            have B7 := Lib.hid (B6.out.row (wav nn zerosC))
            refine hK.out _ _ ⟨P7.out.picSide, P7.out⟩ (fun _ => ?_)
            clear hK K
            refine wpAnyH_done (by kernel_rfl) ?_ _
            go_wp2_with fail
            go_meet
            case rel => exact ⟨g6, g7, l', rfl, rfl, rfl, HLp.out, HOK.out, D7.out, R7.out, A7.out, B7.out, ng6, ng7, n67⟩
          exact AllReadyH.nil
        exact AllReadyH.nil
      refine AllReadyH.cons rfl (fun K hK => ?_) ?_
      · go_simp
        obtain ⟨V2, hV2⟩ : ∃ V2, V2 = V1.alloc (.cells (pic 0 zeros) 47) := ⟨_, rfl⟩
        have hb : Below V1.heap.size V1 V2 := by rw [hV2]; exact (Below.refl _ _).alloc (Nat.le_refl _) _
        have hlt0 := R2.out.lt
        have hlt7 := B2.out.lt
        have P3 := Lib.hid (P2.out.below hb)
        have R3 := Lib.hid (R2.out.below hb)
        have D3 := Lib.hid (D2.out.trans (hb.mono D2.out.size))
        have B3 := Lib.hid (B2.out.below hb)
        obtain ⟨g6, hg6⟩ : ∃ g6, g6 = V1.heap.size := ⟨_, rfl⟩
        have A3 : Hid (Blk V2 g6 (pic 0 zeros) 47) := by show Blk _ _ _ _; rw [hV2, hg6]; exact Blk.new V1 _ _
        have ng6 : w.heap.size + 1 < g6 := by omega
        have n67 : g6 ≠ g7 := by omega
        rw [← hV2, ← hg6]
        clear hb hV2 hg6 P2 R2 D2 B2 hlt0
        refine hK.out _ _ ⟨P3.out.picSide, P3.out⟩ (fun _ => ?_)
        clear hK K
        refine wpAnyH_ready (rs := [3]) (by kernel_rfl) (by simp) ?_
        refine AllReadyH.cons rfl (fun K hK => ?_) ?_
        · go_simp
          refine (l06Amp_any nn m l hl hn1 hn2 hmul hm64 HLV.out V2).mono ?_
          rintro e V3 ⟨l', rfl, hl', hok, hb⟩
          have P4 := Lib.hid (P3.out.below hb)
          have R4 := Lib.hid (R3.out.below hb)
          have D4 := Lib.hid (D3.out.trans (hb.mono D3.out.size))
          have A4 := Lib.hid (A3.out.below hb)
          have B4 := Lib.hid (B3.out.below hb)
          have HLp := Lib.hid hl'
          have HOK := Lib.hid hok
          clear hb hl' hok P3 R3 D3 A3 B3
          try go_simp
          refine hK.out _ _ ⟨P4.out.picSide, P4.out⟩ (fun _ => ?_)
          clear hK K
          refine wpAnyH_ready (rs := [6]) (by kernel_rfl) (by simp) ?_
          refine AllReadyH.cons rfl (fun K hK => ?_) ?_
          · go_simp
            refine (l01Empty_any nn V3).mono ?_
            rintro e V4 ⟨rfl, hb⟩
            have P5 := Lib.hid (P4.out.below hb)
            have R5 := Lib.hid (R4.out.below hb)
            have D5 := Lib.hid (D4.out.trans (hb.mono D4.out.size))
            have A5 := Lib.hid (A4.out.below hb)
            have B5 := Lib.hid (B4.out.below hb)
            clear hb P4 R4 D4 A4 B4
            try go_simp
            refine hK.out _ _ ⟨P5.out.picSide, P5.out⟩ (fun _ => ?_)
            clear hK K
            refine wpAnyH_ready (rs := [9]) (by kernel_rfl) (by simp) ?_
            refine AllReadyH.cons rfl (fun K hK => ?_) AllReadyH.nil
            go_simp
            refine hK.out _ _ ⟨P5.out.picSide, P5.out⟩ (fun _ => ?_)
            clear hK K
            refine wpAnyH_ready (rs := [10]) (by kernel_rfl) (by simp) ?_
            refine AllReadyH.cons rfl (fun K hK => ?_) AllReadyH.nil
            rw [if_pos (by rfl)]
            refine wp_store_row 47 _ _ rfl g6 (pic nn l') rfl rfl 47 (pic 0 zeros) A5.out (Try.sizeP HLp.out) (by rw [pic_size, pic_size, HLp.out]; rfl) (pic_one nn _) ?_
            have P6 := Lib.hid (P5.out.rowOther (by omega : w.heap.size ≠ g6) (pic nn l'))
            have R6 := Lib.hid (R5.out.rowOther (by omega : w.heap.size + 1 ≠ g6) (pic nn l'))
            have D6 := Lib.hid (Below.setRow D5.out (by omega : w.heap.size ≤ g6) (pic nn l'))
            have A6 := Lib.hid (A5.out.row (pic nn l'))
            have B6 := Lib.hid (B5.out.rowOther (Ne.symm n67) (pic nn l'))
            refine hK.out _ _ ⟨P6.out.picSide, P6.out⟩ (fun _ => ?_)
            clear hK K
            refine wpAnyH_ready (rs := [11]) (by kernel_rfl) (by simp) ?_
            refine AllReadyH.cons rfl (fun K hK => ?_) AllReadyH.nil
            rw [if_pos (by rfl)]
            refine wp_store_row 29 _ _ rfl g7 (wav nn zerosC) rfl rfl 29 (wav 0 zerosC) B6.out (Try.sizeW zerosC_length) rfl (wav_one nn _) ?_
            have P7 := Lib.hid (P6.out.rowOther (by omega : w.heap.size ≠ g7) (wav nn zerosC))
            have R7 := Lib.hid (R6.out.rowOther (by omega : w.heap.size + 1 ≠ g7) (wav nn zerosC))
            have D7 := Lib.hid (Below.setRow D6.out (by omega : w.heap.size ≤ g7) (wav nn zerosC))
            have A7 := Lib.hid (A6.out.rowOther n67 (wav nn zerosC))
            have B7 := Lib.hid (B6.out.row (wav nn zerosC))
            refine hK.out _ _ ⟨P7.out.picSide, P7.out⟩ (fun _ => ?_)
            clear hK K
            refine wpAnyH_done (by kernel_rfl) ?_ _
            go_wp2_with fail
            go_meet
            case rel => exact ⟨g6, g7, l', rfl, rfl, rfl, HLp.out, HOK.out, D7.out, R7.out, A7.out, B7.out, ng6, ng7, n67⟩
          exact AllReadyH.nil
        exact AllReadyH.nil
      exact AllReadyH.nil
    exact AllReadyH.nil
  case rest =>
    obtain ⟨g6, g7, l', rfl, rfl, rfl, hl', hok, hD, hR, hA, hB, h6, h7, h67⟩ := hcut
    have HD := Lib.hid hD
    have HR := Lib.hid hR
    have HA := Lib.hid hA
    have HBB := Lib.hid hB
    have HL := Lib.hid hl'
    have HOK := Lib.hid hok
    have hn0 : ¬ (nn : Int) = 0 := by omega
    clear hD hR hA hB hl' hok P0 R0 D0 cs0
    go_wp2_with fail
    go_loopw [8, 9] (fun yv _ wr => ∃ y : Nat, y ≤ nn ∧ yv = .int .i64 y ∧ Below w.heap.size w wr ∧ Hid (Blk wr (w.heap.size + 1) (wav 0 zerosC) 29 ∧ Blk wr g6 (pic nn l') 47 ∧ Blk wr g7 (wav nn (fillL (nn * y) (staS nn l' k))) 29)) (fun yv _ _ => nn - (intOf yv).toNat)
    case atStart => exact ⟨0, Nat.zero_le _, rfl, HD.out, HR.out, HA.out, HBB.out⟩
    case round =>
      clear HD HR HA HBB
      obtain ⟨y, hy, rfl, hbl, hcur⟩ := hrel
      have HB := Lib.hid hbl; clear hbl
      obtain ⟨hz1, hp6, hc⟩ := hcur.out
      clear hcur
      by_cases hlty : y < nn
      · obtain ⟨b, hb⟩ : ∃ b, b = nn * y := ⟨_, rfl⟩
        have hbi : (nn : Int) * y = b := by rw [hb, Int.natCast_mul]
        have hbn : b + nn ≤ m := by
          have := Nat.mul_le_mul (Nat.le_refl nn) (by omega : y + 1 ≤ nn)
          rw [Nat.mul_succ, ← hb, HMM.out] at this; omega
        rw [← hb] at hc
        have HBE := Lib.hid hb
        have HC := Lib.hid hc
        have HZ := Lib.hid hz1
        have H6 := Lib.hid hp6
        clear hb hc hz1 hp6
        go_wp2
        go_loopw [9] (fun xv wx => ∃ x : Nat, x ≤ nn ∧ xv = .int .i64 x ∧ Below w.heap.size w wx ∧ Hid (Blk wx (w.heap.size + 1) (wav 0 zerosC) 29 ∧ Blk wx g6 (pic nn l') 47 ∧ Blk wx g7 (wav nn (fillL (b + x) (staS nn l' k))) 29)) (fun xv _ => nn - (intOf xv).toNat)
        case atStart => exact ⟨0, Nat.zero_le _, rfl, HB.out, HZ.out, H6.out, HC.out⟩
        case round =>
          clear HB HZ HC H6
          obtain ⟨x, hx, rfl, hbl, hcur⟩ := hrel
          have HB := Lib.hid hbl; clear hbl
          obtain ⟨hz1, hp6, hc⟩ := hcur.out
          clear hcur
          by_cases hltx : x < nn
          · have hl := fillL_length (staS nn l' k) (by omega : b + x ≤ 64)
            obtain ⟨j, hj⟩ : ∃ j, j = b + x := ⟨_, rfl⟩
            rw [← hj] at hc hl
            have hji : (b : Int) + x = j := by omega
            have hjm : j < m := by omega
            have c0 := hc.wavCell (by omega : j < (fillL j (staS nn l' k)).length)
            have f0 := hc.frozen (1 + j)
            obtain ⟨y0, hy0⟩ : ∃ y0, y0 = (fillL j (staS nn l' k)).getD j (0, 0) := ⟨_, rfl⟩
            rw [← hy0] at c0
            have c6 := hp6.picCell (by rw [HL.out]; omega : j < l'.length)
            have hSn := ampOk_num HOK.out HRN.out hjm
            obtain ⟨S, hS⟩ : ∃ S, S = l'.getD j 0 := ⟨_, rfl⟩
            rw [← hS] at c6 hSn
            have hdm := idx_div (y := y) hltx
            rw [← HBE.out, ← hj] at hdm
            have hyy0 := mulB y y 8 8 (by omega) (by omega)
            have hxy0 := mulB (3 * (x : Int)) y 24 8 (by omega) (by omega)
            have hz : staZ k y x = k * ((y : Int) * y + 3 * x * y + 2 * x) := rfl
            obtain ⟨yy, hyy⟩ : ∃ yy, yy = (y : Int) * y := ⟨_, rfl⟩
            obtain ⟨xy, hxy⟩ : ∃ xy, xy = 3 * (x : Int) * y := ⟨_, rfl⟩
            rw [← hyy] at hyy0 hz
            rw [← hxy] at hxy0 hz
            obtain ⟨s, hs⟩ : ∃ s, s = yy + xy + 2 * (x : Int) := ⟨_, rfl⟩
            rw [← hs] at hz
            have hzb := mulB k s 63 300 (by omega) (by omega)
            rw [← hz] at hzb
            obtain ⟨z, hze⟩ : ∃ z, z = staZ k y x := ⟨_, rfl⟩
            rw [← hze] at hz hzb
            have hcell : staS nn l' k j = (mulR S (rawP z).1, mulR S (rawP z).2) := by unfold staS; rw [hdm.1, hdm.2, ← hS, ← hze]
            obtain ⟨c, hcc⟩ : ∃ c, c = rawP z := ⟨_, rfl⟩
            have hcn := raw_num z
            have hph : ∀ w, Calls Try.prog 76 #[.int .i64 z] w fun e w' => e = .returned (.complex .f32 c.1 c.2) ∧ w = w' := by intro w; rw [hcc]; exact l01Phase_any z (by omega) w
            rw [← hcc] at hcn hcell
            have HT := Lib.hid (fun w => l01Scale_any S c.1 c.2 hSn hcn.1 hcn.2 w)
            have HPH := Lib.hid hph
            have HCELL := Lib.hid hcell
            have hyy2 : (y : Int) * y = yy := hyy.symm
            have hxy2 : 3 * (x : Int) * y = xy := hxy.symm
            have hs2 : yy + xy + 2 * (x : Int) = s := hs.symm
            have hz2 : k * s = z := hz.symm
            have w1 : IntKind.i64.wrap yy = yy := IntWalk.i64_in _ (by omega)
            have w2 : IntKind.i64.wrap xy = xy := IntWalk.i64_in _ (by omega)
            have w3 : IntKind.i64.wrap z = z := IntWalk.i64_in _ (by omega)
            have w4 : IntKind.i64.wrap s = s := IntWalk.i64_in _ (by omega)
            have w5 : IntKind.i64.wrap (3 * (x : Int)) = 3 * x := IntWalk.i64_in _ (by omega)
            have w6 : IntKind.i64.wrap (2 * (x : Int)) = 2 * x := IntWalk.i64_in _ (by omega)
            have w7 : IntKind.i64.wrap (yy + xy) = yy + xy := IntWalk.i64_in _ (by omega)
            have w8 : IntKind.i64.wrap (b : Int) = b := IntWalk.i64_in _ (by omega)
            have w9 : IntKind.i64.wrap (j : Int) = j := IntWalk.i64_in _ (by omega)
            have hj64 : j < 64 := by omega
            have hj64i : (j : Int) < 64 := by omega
            have HC := Lib.hid hc
            have HZ := Lib.hid hz1
            have H6 := Lib.hid hp6
            have HJ := Lib.hid hj
            clear hc hz1 hp6 hl hy0 hdm hj hph hyy hxy hs hz hze hcell hcc hcn hSn hS
            go_wp2
            go_region_with (first | (go_at_call 76; refine (HPH.out _).mono ?_; rintro e w' ⟨rfl, rfl⟩) | (go_at_call 137; refine (HT.out _).mono ?_; rintro e w' ⟨rfl, rfl⟩))
            all_goals
              go_wp2
              go_roundw
              case rel =>
                refine ⟨x + 1, by omega, by go_num, (below_drewN' HB.out 1).setCell (by exact (by omega : w.heap.size ≤ g7)) _, (HZ.out.drewN 1).other (by omega) _ _, (H6.out.drewN 1).other h67 _ _, ?_⟩
                rw [show b + (x + 1) = j + 1 by (have := HJ.out; omega), ← fillL_set (staS nn l' k) (by omega : j < 64), HCELL.out]
                exact (HC.out.drewN 1).wavSet j _ _
              case measure => simp [intOf]; omega
          · have ex : x = nn := by omega
            have hbe : b + x = nn * (y + 1) := by rw [Nat.mul_succ, ← HBE.out, ex]
            rw [hbe] at hc
            have HC := Lib.hid hc
            have HZ := Lib.hid hz1
            have H6 := Lib.hid hp6
            clear hc hz1 hp6 hbe
            go_wp2
            go_roundw
            case rel => exact ⟨y + 1, by omega, by go_num, HB.out, HZ.out, H6.out, HC.out⟩
            case measure => simp [intOf]; omega
      · have ey : y = nn := by omega
        rw [ey, HMM.out] at hc
        have hl := fillL_length (staS nn l' k) hm64
        have HC := Lib.hid hc
        have HZ := Lib.hid hz1
        have HLL := Lib.hid hl
        clear hc hz1 hp6 hl
        go_wp2_with (first | (refine wpList_load_row rfl 29 (.tmp 7) rfl g7 rfl 29 (wav nn (fillL m (staS nn l' k))) (0, 0) _ HC.out Try.underlying29 rfl (Try.sizeW HLL.out) ?_) | (refine wpList_store_row rfl 29 (.tmp 4) (.tmp 57) rfl (w.heap.size + 1) (wav nn (fillL m (staS nn l' k))) rfl rfl 29 (wav 0 zerosC) HZ.out (Try.sizeW HLL.out) (by rw [wav_size, wav_size, HLL.out]; rfl) (wav_one _ _) ?_))
        refine bodyPost_ret (v := .agg (wav nn (fillL m (staS nn l' k)))) (results_cell_row Try.results115 _ _ (w.heap.size + 1) 29 (wav nn (fillL m (staS nn l' k))) (0, 0) _ rfl (HZ.out.row _) Try.underlying29 rfl (Try.sizeW HLL.out)) rfl ?_
        exact ⟨l', rfl, HOK.out, Below.setRow HB.out (by omega) _⟩
end Go.Proofs.Ytficghohflmdeaa
