/- HalftoneOf: the answer, maskBy, the program's side. -/
import Derived.Test.YtphbjfijipcpnaaHf2
import Derived.Test.YtphbjfijipcpnaaNorm
import Derived.Deep.RegionHeld
namespace Go.Proofs.Ytphbjfijipcpnaa
open Go.RowKit
set_option linter.unusedVariables false

theorem exec_load_mid {P : Program} {o : Oper} {a : Act} {w : World} (ty : TypeId) (x : Operand) (ho : o.op = .load ty x)
    (g i : Nat) (hx : a.eval x = .pointer (some ⟨g, i, none⟩)) (cs : List Value) (d : TypeDesc) (hc : w.rangeAt g i cs)
    (hu : P.underlying ty = some d) (hd : d.isRow = true) (hi : (P.info? ty).map (·.size) = some cs.length) :
    (execOp a.eval o).run P w = .ok (.value (.agg cs.toArray)) w := by
  unfold execOp
  simp only [ho, hx, run_loadAt_mid w g i ty cs d hc hu hd hi, Sem.run_bind, Sem.run_pure, Result.andThen_ok]

theorem exec_build0 {o : Oper} {a : Act} {w : World} (ho : o.op = .build 41 #[]) : (execOp a.eval o).run Try.prog w = .ok (.value (.agg (wav 0 zerosC))) w := by
  have e : Try.prog.built 41 ((#[] : Array (Nat × Operand)).map fun (i, x) => (i, a.eval x)).toList = some (wav 0 zerosC) := by simpa using Try.wbuilt0
  unfold execOp
  simp only [ho, Sem.run_bind, run_build w 41 _ _ e, Result.andThen_ok, Sem.run_pure]

/-- the state: the sums and the code -/
def HfI (n t : Nat) (S : List FV) (gs gc : Nat) (i : Nat) (w : World) : Prop := ∃ l' : List Nat, l'.length = 64 ∧ l'.map (ab .f32) = hS n t S i ∧ Blk w gs (arr l') 29 ∧ Blk w gc #[.int .i64 (if hC n t S i then 3 else 0)] 2
theorem HfI.same {n t : Nat} {S : List FV} {gs gc i : Nat} {w w' : World} (h : HfI n t S gs gc i w) (h1 : SameB gs w w') (h2 : SameB gc w w') : HfI n t S gs gc i w' := by
  obtain ⟨l', a, b, c, d⟩ := h
  exact ⟨l', a, b, c.same h1, d.same h2⟩
theorem HfI.step {n t : Nat} {S : List FV} {gs gc i : Nat} {w w' : World} {l : List Nat} (hl : l.map (ab .f32) = hS n t S i) (h : HalfP n t i l (if hC n t S i then 3 else 0) gs gc w w') : HfI n t S gs gc (i + 1) w' := by
  obtain ⟨l', a, b, c, d, _⟩ := h
  refine ⟨l', a, ?_, c, ?_⟩
  · rw [b, hl]; rfl
  · have e : hC n t S (i + 1) = (hC n t S i || !fin (hRest (ab .f32 (l.getD i 0)) t)) := by
      show (hC n t S i || hBad n t S i) = _
      unfold hBad
      rw [← hl, map_get]
    rw [e]
    cases hf : fin (hRest (ab .f32 (l.getD i 0)) t) with
    | true => rw [hf] at d; simpa using d
    | false => rw [hf] at d; simpa using d

/-- an answer with a wave: the code, the side, the cells -/
def WavPost (r : Int × Int × List (Nat × Nat)) (w : World) (e : Ending) (w' : World) : Prop :=
  e = .returned (.tuple #[.agg (wav r.2.1 r.2.2), .int .i64 r.1]) ∧ Below w.heap.size w w'
theorem WavPost.err {r : Int × Int × List (Nat × Nat)} {w w' : World} {k : Int} (h : r = (k, 0, zerosC)) (hb : Below w.heap.size w w') : WavPost r w (.returned (.tuple #[.agg (wav 0 zerosC), .int .i64 k])) w' :=
  ⟨by rw [h], hb⟩
def leZ (q : Nat) : Bool := FloatKind.f32.format.order q 0 == some .lt || FloatKind.f32.format.order q 0 == some .eq
/-- the answer -/
def hfR (n : Int) (l : List Nat) (t : Nat) (m : Nat) : Int × Int × List (Nat × Nat) :=
  if isPic n l && isNum t then (if leZ t then (2, 0, zerosC) else (if hC n.toNat t (l.map (ab .f32)) m then (3, 0, zerosC) else (0, n, fillL m (hG n.toNat t (l.map (ab .f32)))))) else (1, 0, zerosC)

set_option maxRecDepth 10000 in
set_option maxHeartbeats 2000000 in
theorem maskBy_hf (n t : Nat) (hn : 1 ≤ n) (hn2 : n ≤ 8) (l : List Nat) (hl : l.length = 64) (gs gn gt gc : Nat) (w : World)
    (hs : Blk w gs (arr l) 29) (hcn : Blk w gn #[.int .i64 n] 2) (hct : Blk w gt #[.float .f32 t] 28) (hcc : Blk w gc #[.int .i64 0] 2)
    (d1 : gs ≠ gn) (d2 : gs ≠ gt) (d3 : gs ≠ gc) (d4 : gc ≠ gn) (d5 : gc ≠ gt) :
    Calls Try.prog 93 #[.int .i64 n, .func (.func 94) #[] #[.pointer (some ⟨gs, 0, none⟩), .pointer (some ⟨gn, 0, none⟩), .pointer (some ⟨gt, 0, none⟩), .pointer (some ⟨gc, 0, none⟩)]] w fun e w' =>
      e = .returned (.agg (wav n (fillL (n * n) (hG n t (l.map (ab .f32)))))) ∧ HfI n t (l.map (ab .f32)) gs gc (n * n) w' ∧ But gs gc w w' := by
  have hz := (zero_of_info Try.infoW).1
  obtain ⟨F, hF⟩ : ∃ F, F = Value.func (.func 94) #[] #[.pointer (some ⟨gs, 0, none⟩), .pointer (some ⟨gn, 0, none⟩), .pointer (some ⟨gt, 0, none⟩), .pointer (some ⟨gc, 0, none⟩)] := ⟨_, rfl⟩
  rw [← hF]
  obtain ⟨W0, hW⟩ : ∃ W0, W0 = (w.alloc (.cells #[F] 92)).alloc (.cells (wav 0 zerosC) 41) := ⟨_, rfl⟩
  have hb0 : Below w.heap.size w W0 := by rw [hW]; exact ((Below.refl _ _).alloc (Nat.le_refl _) _).alloc (by simp) _
  have h3 := blk2 w (.cells #[F] 92) (.cells (wav 0 zerosC) 41)
  rw [← hW] at h3
  have b0 : Blk W0 w.heap.size #[F] 92 := h3.1
  have b1 : Blk W0 (w.heap.size + 1) (wav 0 zerosC) 41 := h3.2
  have hsl := hs.lt
  have hcl := hcc.lt
  have hlen : (fillL (n * n) (hG n t (l.map (ab .f32)))).length = 64 := fillL_length _ (by have := Nat.mul_le_mul hn2 hn2; omega)
  have HCW : Hid (Calls Try.prog 130 #[.int .i64 n, .func (.func 131) #[] #[.pointer (some ⟨w.heap.size, 0, none⟩)]] W0 fun e w' => e = .returned (.agg (wav n (fillL (n * n) (hG n t (l.map (ab .f32)))))) ∧ HfI n t (l.map (ab .f32)) gs gc (n * n) w' ∧ But gs gc W0 w') := by
    refine waveBy_st #[.pointer (some ⟨w.heap.size, 0, none⟩)] n hn hn2 gs gc (HfI n t (l.map (ab .f32)) gs gc) (hG n t (l.map (ab .f32))) W0 (hs.below hb0).lt (hcc.below hb0).lt (fun i wr wr' h h1 h2 => h.same h1 h2) ⟨l, hl, rfl, hs.below hb0, hcc.below hb0⟩ ?_
    rintro i wr hi hb ⟨l', hl', hm, hgs, hgc⟩
    refine (maskCl_any n i t hn hn2 hi l' hl' (if hC n t (l.map (ab .f32)) i then 3 else 0) gs gn gt gc w.heap.size wr hgs (hb.blk (hcn.below hb0) (Ne.symm d1) (Ne.symm d4)) (hb.blk (hct.below hb0) (Ne.symm d2) (Ne.symm d5)) hgc (hb.blk (by rw [← hF]; exact b0) (by omega) (by omega)) d1 d2 d3 d4 d5).mono ?_
    rintro e w' ⟨rfl, hh⟩
    refine ⟨?_, HfI.step hm hh, ?_⟩
    · have e1 : hG n t (l.map (ab .f32)) i = if hOpen (ab .f32 (l'.getD i 0)) t then (1065353216, 0) else (0, 0) := by unfold hG; rw [← hm, map_get]
      rw [e1]
      cases hOpen (ab .f32 (l'.getD i 0)) t <;> rfl
    · obtain ⟨_, _, _, _, _, hbb⟩ := hh; exact hbb
  have HB1 := Lib.hid b1
  have HW0 := Lib.hid hb0
  have HL := Lib.hid hlen
  have HSL := Lib.hid hsl
  have HCL := Lib.hid hcl
  subst hF
  clear hs hcn hct hcc h3 b0 b1 hb0 hlen hsl hcl
  go_enter Try.func93, Try.ntmps93
  go_upto_region 1 with (fail)
  rw [← hW]
  clear hW
  go_wp2_with fail
  refine HCW.out.mono ?_
  rintro e w2 ⟨rfl, hi, hb⟩
  have hbb : But gs gc w w2 := (But.ofBelow HW0.out).trans hb
  have B2 := Lib.hid (hb.blk HB1.out (by have := HSL.out; omega) (by have := HCL.out; omega))
  have HI := Lib.hid hi
  have HBB := Lib.hid hbb
  clear hi hb hbb
  go_wp2_with (refine wpList_store_row rfl 41 (.tmp 4) (.tmp 7) rfl (w.heap.size + 1) (wav n (fillL (n * n) (hG n t (l.map (ab .f32))))) rfl rfl 41 (wav 0 zerosC) B2.out ?c1 ?c2 (wav_one _ _) ?_; (case c1 => exact Try.sizeW HL.out); (case c2 => (rw [wav_size, wav_size, HL.out]; rfl)))
  refine bodyPost_ret (v := .agg (wav n (fillL (n * n) (hG n t (l.map (ab .f32)))))) (results_cell_row Try.results93 _ _ (w.heap.size + 1) 41 (wav n (fillL (n * n) (hG n t (l.map (ab .f32))))) (0, 0) _ rfl (B2.out.row _) Try.underlying41 rfl (Try.sizeW HL.out)) rfl ?_
  exact ⟨rfl, HI.out.same (setRow_other _ _ gs _ (by have := HSL.out; omega)) (setRow_other _ _ gc _ (by have := HCL.out; omega)), HBB.out.rowHi (by omega) _⟩

/-- what is there behind the region -/
def HfR (n t : Nat) (l : List Nat) (b : Nat) (w0 : World) (s6 s7 s8 : Value) (wx : World) : Prop :=
  ∃ g6 g7 g8 : Nat, s6 = .pointer (some ⟨g6, 0, none⟩) ∧ s7 = .pointer (some ⟨g7, 0, none⟩) ∧ s8 = .pointer (some ⟨g8, 0, none⟩) ∧ Below b w0 wx ∧ Blk wx (b + 1) #[.float .f32 t] 28 ∧ Blk wx (b + 1 + 1) (wav 0 zerosC) 41 ∧ Blk wx g6 #[.int .i64 n] 2 ∧ Blk wx g7 (arr l) 29 ∧ Blk wx g8 #[.int .i64 0] 2 ∧ b + 1 + 1 < g6 ∧ b + 1 + 1 < g7 ∧ b + 1 + 1 < g8 ∧ g6 ≠ g7 ∧ g6 ≠ g8 ∧ g7 ≠ g8

set_option maxRecDepth 10000 in
set_option maxHeartbeats 8000000 in
theorem signedHf_go (n t : Nat) (l : List Nat) (hl : l.length = 64) (m : Nat) (hn1 : 1 ≤ n) (hn2 : n ≤ 8) (hm : n * n = m) (hp : isPic n l = true) (ht : isNum t = true) (h3 : leZ t = false) (w : World) :
    Calls Try.prog 50 #[.agg (pic n l), .float .f32 t] w (WavPost (hfR n l t m) w) := by
  have hz := (zero_of_info Try.infoW).1
  have hzA := (zero_of_info Try.infoA).1
  obtain ⟨W0, hW⟩ : ∃ W0, W0 = ((w.alloc (.cells (pic n l) 32)).alloc (.cells #[.float .f32 t] 28)).alloc (.cells (wav 0 zerosC) 41) := ⟨_, rfl⟩
  have hb0 : Below w.heap.size w W0 := by rw [hW]; exact (((Below.refl _ _).alloc (Nat.le_refl _) _).alloc (by simp) _).alloc (by simp; omega) _
  have hh := blk3 w (.cells (pic n l) 32) (.cells #[.float .f32 t] 28) (.cells (wav 0 zerosC) 41)
  rw [← hW] at hh
  have b0 : Blk W0 w.heap.size (pic n l) 32 := hh.1
  have b1 : Blk W0 (w.heap.size + 1) #[.float .f32 t] 28 := hh.2.1
  have b2 : Blk W0 (w.heap.size + 1 + 1) (wav 0 zerosC) 41 := hh.2.2
  have B0 := Lib.hid b0
  have BT := Lib.hid b1
  have BR := Lib.hid b2
  have BW := Lib.hid hb0
  have HM := Lib.hid hm
  have HR : Hid (hfR n l t m = (if hC n t (l.map (ab .f32)) m then (3, 0, zerosC) else (0, (n : Int), fillL m (hG n t (l.map (ab .f32)))))) := by
    show _ = _
    unfold hfR
    rw [hp, ht, h3, Int.toNat_natCast]
    rfl
  unfold leZ at h3
  clear hb0 hh b0 b1 b2 hm
  go_enter Try.func50, Try.ntmps50
  go_upto_region 1 with (fail)
  rw [← hW]
  clear hW
  go_wp2_with (refine wpList_load_row rfl 32 (.tmp 2) rfl w.heap.size rfl 32 (pic n l) (0, 0) _ B0.out Try.underlying32 rfl (Try.sizeP hl) ?_)
  refine (IsPicture_any n l hl _).mono ?_
  rintro e w1 ⟨rfl, hb1⟩
  rw [hp]
  have B0a := Lib.hid (B0.out.below hb1)
  have BTa := Lib.hid (BT.out.below hb1)
  have BRa := Lib.hid (BR.out.below hb1)
  have BWa := Lib.hid (BW.out.trans (hb1.mono BW.out.size))
  clear hb1 B0 BT BR BW
  have ct : w1.cell? ⟨w.heap.size + 1, 0, none⟩ = some (.float .f32 t) := by rw [BTa.out.cell]; rfl
  go_upto_region 5 with (go_at_call 92; refine (isNumber_any _ _).mono ?_; rintro e w' ⟨rfl, n1, rfl⟩; rw [ht])
  have P0' : Hid (Blk (w1.drewN n1) w.heap.size (pic n l) 32) := B0a.out.drewN n1
  have T0' : Hid (Blk (w1.drewN n1) (w.heap.size + 1) #[.float .f32 t] 28) := BTa.out.drewN n1
  have R0' : Hid (Blk (w1.drewN n1) (w.heap.size + 1 + 1) (wav 0 zerosC) 41) := BRa.out.drewN n1
  have D0' := Lib.hid (below_drewN' BWa.out n1)
  obtain ⟨U, hU⟩ : ∃ U, U = w1.drewN n1 := ⟨_, rfl⟩
  rw [← hU] at P0' T0' R0' D0' ⊢
  clear hU B0a BTa BRa BWa ct h3
  go_cut [6, 7, 8] from 24 to 27 (fun s6 s7 s8 wx => HfR n t l w.heap.size w s6 s7 s8 wx)
  case first =>
    refine wp_region_held (S := fun w' => Blk w' w.heap.size (pic n l) 32) (by kernel_rfl) ?_
    change wpAnyH _ _ _ _ _ _ _ _ (World.drew _)
    obtain ⟨V0, hV0⟩ : ∃ V0, V0 = U.drew := ⟨_, rfl⟩
    have P0 : Hid (Blk V0 w.heap.size (pic n l) 32) := by show Blk _ _ _ _; rw [hV0]; exact P0'.out.drewN 1
    have T0 : Hid (Blk V0 (w.heap.size + 1) #[.float .f32 t] 28) := by show Blk _ _ _ _; rw [hV0]; exact T0'.out.drewN 1
    have R0 : Hid (Blk V0 (w.heap.size + 1 + 1) (wav 0 zerosC) 41) := by show Blk _ _ _ _; rw [hV0]; exact R0'.out.drewN 1
    have D0 : Hid (Below w.heap.size w V0) := by show Below _ _ _; rw [hV0]; exact below_drewN' D0'.out 1
    rw [← hV0]
    clear P0' T0' R0' D0' hV0
    refine wpAnyH_take (i := 0) (v := .pointer (some ⟨w.heap.size, 0, none⟩)) rfl (by kernel_rfl) (by kernel_rfl) (by kernel_rfl) (fun _ _ _ h => h) (.inl ⟨by rfl, fun w' hS => ?_⟩) P0.out ?_
    · go_simp
    refine wpAnyH_take (i := 2) (v := .pointer (some ⟨w.heap.size, 1, none⟩)) rfl (by kernel_rfl) (by kernel_rfl) (by kernel_rfl) (fun _ _ _ h => h) (.inl ⟨by rfl, fun w' hS => ?_⟩) P0.out ?_
    · go_simp
    refine wpAnyH_take (i := 1) (v := .int .i64 n) rfl (by kernel_rfl) (by kernel_rfl) (by kernel_rfl) (fun _ _ _ h => h) (.inl ⟨by rfl, fun w' hS => ?_⟩) P0.out ?_
    · have h1 := Blk.picSide hS
      clear hS
      go_simp
    refine wpAnyH_take (i := 3) (v := .agg (arr l)) rfl (by kernel_rfl) (by kernel_rfl) (by kernel_rfl) (fun _ _ _ h => h) (.inl ⟨by rfl, fun w' hS => ?_⟩) P0.out ?_
    · exact exec_load_mid 29 _ rfl w.heap.size 1 rfl (l.map flt) _ (Blk.picMid hS) Try.underlying29 rfl (Try.sizeA' hl)
    refine wpAnyH_ready (rs := [4, 5, 6]) (by kernel_rfl) (by simp) ?_
    refine AllReadyH.cons rfl (fun K hK => ?_) ?_
    · go_simp
      obtain ⟨V1, hV1⟩ : ∃ V1, V1 = V0.alloc (.cells #[.int .i64 0] 2) := ⟨_, rfl⟩
      have hb : Below V0.heap.size V0 V1 := by rw [hV1]; exact (Below.refl _ _).alloc (Nat.le_refl _) _
      have hltR := R0.out.lt
      have P1 := Lib.hid (P0.out.below hb)
      have T1 := Lib.hid (T0.out.below hb)
      have R1 := Lib.hid (R0.out.below hb)
      have D1 := Lib.hid (D0.out.trans (hb.mono D0.out.size))
      obtain ⟨g6, hg6⟩ : ∃ g6, g6 = V0.heap.size := ⟨_, rfl⟩
      have A1 : Hid (Blk V1 g6 #[.int .i64 0] 2) := by show Blk _ _ _ _; rw [hV1, hg6]; exact Blk.new V0 _ _
      have ng6 : w.heap.size + 1 + 1 < g6 := by omega
      rw [← hV1, ← hg6]
      clear hb hV1 hg6 P0 T0 R0 D0 hltR 
      refine hK.out _ _ P1.out (fun _ => ?_)
      clear hK K
      refine wpAnyH_ready (rs := [5, 6]) (by kernel_rfl) (by simp) ?_
      refine AllReadyH.cons rfl (fun K hK => ?_) ?_
      · go_simp
        obtain ⟨V2, hV2⟩ : ∃ V2, V2 = V1.alloc (.cells (arr zeros) 29) := ⟨_, rfl⟩
        have hb : Below V1.heap.size V1 V2 := by rw [hV2]; exact (Below.refl _ _).alloc (Nat.le_refl _) _
        have hltR := R1.out.lt
        have hlt4 := A1.out.lt
        have P2 := Lib.hid (P1.out.below hb)
        have T2 := Lib.hid (T1.out.below hb)
        have R2 := Lib.hid (R1.out.below hb)
        have A2 := Lib.hid (A1.out.below hb)
        have D2 := Lib.hid (D1.out.trans (hb.mono D1.out.size))
        obtain ⟨g7, hg7⟩ : ∃ g7, g7 = V1.heap.size := ⟨_, rfl⟩
        have B2 : Hid (Blk V2 g7 (arr zeros) 29) := by show Blk _ _ _ _; rw [hV2, hg7]; exact Blk.new V1 _ _
        have ng7 : w.heap.size + 1 + 1 < g7 := by omega
        have ng6g7 : g6 ≠ g7 := by omega
        rw [← hV2, ← hg7]
        clear hb hV2 hg7 P1 T1 R1 A1 D1 hltR hlt4
        refine hK.out _ _ P2.out (fun _ => ?_)
        clear hK K
        refine wpAnyH_ready (rs := [6]) (by kernel_rfl) (by simp) ?_
        refine AllReadyH.cons rfl (fun K hK => ?_) ?_
        · go_simp
          obtain ⟨V3, hV3⟩ : ∃ V3, V3 = V2.alloc (.cells #[.int .i64 0] 2) := ⟨_, rfl⟩
          have hb : Below V2.heap.size V2 V3 := by rw [hV3]; exact (Below.refl _ _).alloc (Nat.le_refl _) _
          have hltR := R2.out.lt
          have hlt4 := A2.out.lt
          have hlt5 := B2.out.lt
          have P3 := Lib.hid (P2.out.below hb)
          have T3 := Lib.hid (T2.out.below hb)
          have R3 := Lib.hid (R2.out.below hb)
          have A3 := Lib.hid (A2.out.below hb)
          have B3 := Lib.hid (B2.out.below hb)
          have D3 := Lib.hid (D2.out.trans (hb.mono D2.out.size))
          obtain ⟨g8, hg8⟩ : ∃ g8, g8 = V2.heap.size := ⟨_, rfl⟩
          have C3 : Hid (Blk V3 g8 #[.int .i64 0] 2) := by show Blk _ _ _ _; rw [hV3, hg8]; exact Blk.new V2 _ _
          have ng8 : w.heap.size + 1 + 1 < g8 := by omega
          have ng6g8 : g6 ≠ g8 := by omega
          have ng7g8 : g7 ≠ g8 := by omega
          rw [← hV3, ← hg8]
          clear hb hV3 hg8 P2 T2 R2 A2 B2 D2 hltR hlt4 hlt5
          refine hK.out _ _ P3.out (fun _ => ?_)
          clear hK K
          refine wpAnyH_ready (rs := [7]) (by kernel_rfl) (by simp) ?_
          refine AllReadyH.cons rfl (fun K hK => ?_) AllReadyH.nil
          have cc : V3.cell? ⟨g6, 0, none⟩ = some (.int .i64 0) := by rw [A3.out.cell]; rfl
          have ff := A3.out.frozen 0
          go_simp
          clear cc ff
          obtain ⟨V4, hV4⟩ : ∃ V4, V4 = V3.setCell ⟨g6, 0, none⟩ (.int .i64 n) := ⟨_, rfl⟩
          have P4 : Hid (Blk V4 w.heap.size (pic n l) 32) := by show Blk _ _ _ _; rw [hV4]; exact P3.out.other (by omega) _ _
          have T4 : Hid (Blk V4 (w.heap.size + 1) #[.float .f32 t] 28) := by show Blk _ _ _ _; rw [hV4]; exact T3.out.other (by omega) _ _
          have R4 : Hid (Blk V4 (w.heap.size + 1 + 1) (wav 0 zerosC) 41) := by show Blk _ _ _ _; rw [hV4]; exact R3.out.other (by omega) _ _
          have D4 : Hid (Below w.heap.size w V4) := by show Below _ _ _; rw [hV4]; exact D3.out.setCell (by exact (by omega : w.heap.size ≤ g6)) _
          have A4 : Hid (Blk V4 g6 #[.int .i64 n] 2) := by show Blk _ _ _ _; rw [hV4]; exact A3.out.set 0 _
          have B4 : Hid (Blk V4 g7 (arr zeros) 29) := by show Blk _ _ _ _; rw [hV4]; exact B3.out.other (by omega) _ _
          have C4 : Hid (Blk V4 g8 #[.int .i64 0] 2) := by show Blk _ _ _ _; rw [hV4]; exact C3.out.other (by omega) _ _
          rw [← hV4]
          clear hV4 P3 T3 R3 A3 B3 C3 D3
          refine hK.out _ _ P4.out (fun _ => ?_)
          clear hK K
          refine wpAnyH_ready (rs := [8]) (by kernel_rfl) (by simp) ?_
          refine AllReadyH.cons rfl (fun K hK => ?_) AllReadyH.nil
          rw [if_pos (by rfl)]
          refine wp_store_row 29 _ _ rfl g7 (arr l) rfl rfl 29 (arr zeros) B4.out (Try.sizeA hl) (by rw [arr_size, arr_size, hl]; rfl) (arr_one _) ?_
          obtain ⟨V5, hV5⟩ : ∃ V5, V5 = V4.setRow g7 (arr l) := ⟨_, rfl⟩
          have P5 : Hid (Blk V5 w.heap.size (pic n l) 32) := by show Blk _ _ _ _; rw [hV5]; exact P4.out.rowOther (by omega) _
          have T5 : Hid (Blk V5 (w.heap.size + 1) #[.float .f32 t] 28) := by show Blk _ _ _ _; rw [hV5]; exact T4.out.rowOther (by omega) _
          have R5 : Hid (Blk V5 (w.heap.size + 1 + 1) (wav 0 zerosC) 41) := by show Blk _ _ _ _; rw [hV5]; exact R4.out.rowOther (by omega) _
          have D5 : Hid (Below w.heap.size w V5) := by show Below _ _ _; rw [hV5]; exact Below.setRow D4.out (by omega) _
          have A5 : Hid (Blk V5 g6 #[.int .i64 n] 2) := by show Blk _ _ _ _; rw [hV5]; exact A4.out.rowOther (by omega) _
          have B5 : Hid (Blk V5 g7 (arr l) 29) := by show Blk _ _ _ _; rw [hV5]; exact B4.out.row _
          have C5 : Hid (Blk V5 g8 #[.int .i64 0] 2) := by show Blk _ _ _ _; rw [hV5]; exact C4.out.rowOther (by omega) _
          rw [← hV5]
          clear hV5 P4 T4 R4 A4 B4 C4 D4
          refine hK.out _ _ P5.out (fun _ => ?_)
          clear hK K
          refine wpAnyH_ready (rs := [9]) (by kernel_rfl) (by simp) ?_
          refine AllReadyH.cons rfl (fun K hK => ?_) AllReadyH.nil
          have cc : V5.cell? ⟨g8, 0, none⟩ = some (.int .i64 0) := by rw [C5.out.cell]; rfl
          have ff := C5.out.frozen 0
          go_simp
          clear cc ff
          obtain ⟨V6, hV6⟩ : ∃ V6, V6 = V5.setCell ⟨g8, 0, none⟩ (.int .i64 0) := ⟨_, rfl⟩
          have P6 : Hid (Blk V6 w.heap.size (pic n l) 32) := by show Blk _ _ _ _; rw [hV6]; exact P5.out.other (by omega) _ _
          have T6 : Hid (Blk V6 (w.heap.size + 1) #[.float .f32 t] 28) := by show Blk _ _ _ _; rw [hV6]; exact T5.out.other (by omega) _ _
          have R6 : Hid (Blk V6 (w.heap.size + 1 + 1) (wav 0 zerosC) 41) := by show Blk _ _ _ _; rw [hV6]; exact R5.out.other (by omega) _ _
          have D6 : Hid (Below w.heap.size w V6) := by show Below _ _ _; rw [hV6]; exact D5.out.setCell (by exact (by omega : w.heap.size ≤ g8)) _
          have C6 : Hid (Blk V6 g8 #[.int .i64 0] 2) := by show Blk _ _ _ _; rw [hV6]; exact C5.out.set 0 _
          have A6 : Hid (Blk V6 g6 #[.int .i64 n] 2) := by show Blk _ _ _ _; rw [hV6]; exact A5.out.other (by omega) _ _
          have B6 : Hid (Blk V6 g7 (arr l) 29) := by show Blk _ _ _ _; rw [hV6]; exact B5.out.other (by omega) _ _
          rw [← hV6]
          clear hV6 P5 T5 R5 A5 B5 C5 D5
          refine hK.out _ _ P6.out (fun _ => ?_)
          clear hK K
          refine wpAnyH_done (by kernel_rfl) ?_ _
          go_wp2_with fail
          go_meet
          case rel => exact ⟨g6, g7, g8, rfl, rfl, rfl, D6.out, T6.out, R6.out, A6.out, B6.out, C6.out, ng6, ng7, ng8, ng6g7, ng6g8, ng7g8⟩
        exact AllReadyH.nil
      refine AllReadyH.cons rfl (fun K hK => ?_) ?_
      · go_simp
        obtain ⟨V2, hV2⟩ : ∃ V2, V2 = V1.alloc (.cells #[.int .i64 0] 2) := ⟨_, rfl⟩
        have hb : Below V1.heap.size V1 V2 := by rw [hV2]; exact (Below.refl _ _).alloc (Nat.le_refl _) _
        have hltR := R1.out.lt
        have hlt4 := A1.out.lt
        have P2 := Lib.hid (P1.out.below hb)
        have T2 := Lib.hid (T1.out.below hb)
        have R2 := Lib.hid (R1.out.below hb)
        have A2 := Lib.hid (A1.out.below hb)
        have D2 := Lib.hid (D1.out.trans (hb.mono D1.out.size))
        obtain ⟨g8, hg8⟩ : ∃ g8, g8 = V1.heap.size := ⟨_, rfl⟩
        have C2 : Hid (Blk V2 g8 #[.int .i64 0] 2) := by show Blk _ _ _ _; rw [hV2, hg8]; exact Blk.new V1 _ _
        have ng8 : w.heap.size + 1 + 1 < g8 := by omega
        have ng6g8 : g6 ≠ g8 := by omega
        rw [← hV2, ← hg8]
        clear hb hV2 hg8 P1 T1 R1 A1 D1 hltR hlt4
        refine hK.out _ _ P2.out (fun _ => ?_)
        clear hK K
        refine wpAnyH_ready (rs := [5]) (by kernel_rfl) (by simp) ?_
        refine AllReadyH.cons rfl (fun K hK => ?_) ?_
        · go_simp
          obtain ⟨V3, hV3⟩ : ∃ V3, V3 = V2.alloc (.cells (arr zeros) 29) := ⟨_, rfl⟩
          have hb : Below V2.heap.size V2 V3 := by rw [hV3]; exact (Below.refl _ _).alloc (Nat.le_refl _) _
          have hltR := R2.out.lt
          have hlt4 := A2.out.lt
          have hlt6 := C2.out.lt
          have P3 := Lib.hid (P2.out.below hb)
          have T3 := Lib.hid (T2.out.below hb)
          have R3 := Lib.hid (R2.out.below hb)
          have A3 := Lib.hid (A2.out.below hb)
          have C3 := Lib.hid (C2.out.below hb)
          have D3 := Lib.hid (D2.out.trans (hb.mono D2.out.size))
          obtain ⟨g7, hg7⟩ : ∃ g7, g7 = V2.heap.size := ⟨_, rfl⟩
          have B3 : Hid (Blk V3 g7 (arr zeros) 29) := by show Blk _ _ _ _; rw [hV3, hg7]; exact Blk.new V2 _ _
          have ng7 : w.heap.size + 1 + 1 < g7 := by omega
          have ng6g7 : g6 ≠ g7 := by omega
          have ng7g8 : g7 ≠ g8 := by omega
          rw [← hV3, ← hg7]
          clear hb hV3 hg7 P2 T2 R2 A2 C2 D2 hltR hlt4 hlt6
          refine hK.out _ _ P3.out (fun _ => ?_)
          clear hK K
          refine wpAnyH_ready (rs := [7]) (by kernel_rfl) (by simp) ?_
          refine AllReadyH.cons rfl (fun K hK => ?_) AllReadyH.nil
          have cc : V3.cell? ⟨g6, 0, none⟩ = some (.int .i64 0) := by rw [A3.out.cell]; rfl
          have ff := A3.out.frozen 0
          go_simp
          clear cc ff
          obtain ⟨V4, hV4⟩ : ∃ V4, V4 = V3.setCell ⟨g6, 0, none⟩ (.int .i64 n) := ⟨_, rfl⟩
          have P4 : Hid (Blk V4 w.heap.size (pic n l) 32) := by show Blk _ _ _ _; rw [hV4]; exact P3.out.other (by omega) _ _
          have T4 : Hid (Blk V4 (w.heap.size + 1) #[.float .f32 t] 28) := by show Blk _ _ _ _; rw [hV4]; exact T3.out.other (by omega) _ _
          have R4 : Hid (Blk V4 (w.heap.size + 1 + 1) (wav 0 zerosC) 41) := by show Blk _ _ _ _; rw [hV4]; exact R3.out.other (by omega) _ _
          have D4 : Hid (Below w.heap.size w V4) := by show Below _ _ _; rw [hV4]; exact D3.out.setCell (by exact (by omega : w.heap.size ≤ g6)) _
          have A4 : Hid (Blk V4 g6 #[.int .i64 n] 2) := by show Blk _ _ _ _; rw [hV4]; exact A3.out.set 0 _
          have B4 : Hid (Blk V4 g7 (arr zeros) 29) := by show Blk _ _ _ _; rw [hV4]; exact B3.out.other (by omega) _ _
          have C4 : Hid (Blk V4 g8 #[.int .i64 0] 2) := by show Blk _ _ _ _; rw [hV4]; exact C3.out.other (by omega) _ _
          rw [← hV4]
          clear hV4 P3 T3 R3 A3 B3 C3 D3
          refine hK.out _ _ P4.out (fun _ => ?_)
          clear hK K
          refine wpAnyH_ready (rs := [8]) (by kernel_rfl) (by simp) ?_
          refine AllReadyH.cons rfl (fun K hK => ?_) AllReadyH.nil
          rw [if_pos (by rfl)]
          refine wp_store_row 29 _ _ rfl g7 (arr l) rfl rfl 29 (arr zeros) B4.out (Try.sizeA hl) (by rw [arr_size, arr_size, hl]; rfl) (arr_one _) ?_
          obtain ⟨V5, hV5⟩ : ∃ V5, V5 = V4.setRow g7 (arr l) := ⟨_, rfl⟩
          have P5 : Hid (Blk V5 w.heap.size (pic n l) 32) := by show Blk _ _ _ _; rw [hV5]; exact P4.out.rowOther (by omega) _
          have T5 : Hid (Blk V5 (w.heap.size + 1) #[.float .f32 t] 28) := by show Blk _ _ _ _; rw [hV5]; exact T4.out.rowOther (by omega) _
          have R5 : Hid (Blk V5 (w.heap.size + 1 + 1) (wav 0 zerosC) 41) := by show Blk _ _ _ _; rw [hV5]; exact R4.out.rowOther (by omega) _
          have D5 : Hid (Below w.heap.size w V5) := by show Below _ _ _; rw [hV5]; exact Below.setRow D4.out (by omega) _
          have A5 : Hid (Blk V5 g6 #[.int .i64 n] 2) := by show Blk _ _ _ _; rw [hV5]; exact A4.out.rowOther (by omega) _
          have B5 : Hid (Blk V5 g7 (arr l) 29) := by show Blk _ _ _ _; rw [hV5]; exact B4.out.row _
          have C5 : Hid (Blk V5 g8 #[.int .i64 0] 2) := by show Blk _ _ _ _; rw [hV5]; exact C4.out.rowOther (by omega) _
          rw [← hV5]
          clear hV5 P4 T4 R4 A4 B4 C4 D4
          refine hK.out _ _ P5.out (fun _ => ?_)
          clear hK K
          refine wpAnyH_ready (rs := [9]) (by kernel_rfl) (by simp) ?_
          refine AllReadyH.cons rfl (fun K hK => ?_) AllReadyH.nil
          have cc : V5.cell? ⟨g8, 0, none⟩ = some (.int .i64 0) := by rw [C5.out.cell]; rfl
          have ff := C5.out.frozen 0
          go_simp
          clear cc ff
          obtain ⟨V6, hV6⟩ : ∃ V6, V6 = V5.setCell ⟨g8, 0, none⟩ (.int .i64 0) := ⟨_, rfl⟩
          have P6 : Hid (Blk V6 w.heap.size (pic n l) 32) := by show Blk _ _ _ _; rw [hV6]; exact P5.out.other (by omega) _ _
          have T6 : Hid (Blk V6 (w.heap.size + 1) #[.float .f32 t] 28) := by show Blk _ _ _ _; rw [hV6]; exact T5.out.other (by omega) _ _
          have R6 : Hid (Blk V6 (w.heap.size + 1 + 1) (wav 0 zerosC) 41) := by show Blk _ _ _ _; rw [hV6]; exact R5.out.other (by omega) _ _
          have D6 : Hid (Below w.heap.size w V6) := by show Below _ _ _; rw [hV6]; exact D5.out.setCell (by exact (by omega : w.heap.size ≤ g8)) _
          have C6 : Hid (Blk V6 g8 #[.int .i64 0] 2) := by show Blk _ _ _ _; rw [hV6]; exact C5.out.set 0 _
          have A6 : Hid (Blk V6 g6 #[.int .i64 n] 2) := by show Blk _ _ _ _; rw [hV6]; exact A5.out.other (by omega) _ _
          have B6 : Hid (Blk V6 g7 (arr l) 29) := by show Blk _ _ _ _; rw [hV6]; exact B5.out.other (by omega) _ _
          rw [← hV6]
          clear hV6 P5 T5 R5 A5 B5 C5 D5
          refine hK.out _ _ P6.out (fun _ => ?_)
          clear hK K
          refine wpAnyH_done (by kernel_rfl) ?_ _
          go_wp2_with fail
          go_meet
          case rel => exact ⟨g6, g7, g8, rfl, rfl, rfl, D6.out, T6.out, R6.out, A6.out, B6.out, C6.out, ng6, ng7, ng8, ng6g7, ng6g8, ng7g8⟩
        exact AllReadyH.nil
      exact AllReadyH.nil
    refine AllReadyH.cons rfl (fun K hK => ?_) ?_
    · go_simp
      obtain ⟨V1, hV1⟩ : ∃ V1, V1 = V0.alloc (.cells (arr zeros) 29) := ⟨_, rfl⟩
      have hb : Below V0.heap.size V0 V1 := by rw [hV1]; exact (Below.refl _ _).alloc (Nat.le_refl _) _
      have hltR := R0.out.lt
      have P1 := Lib.hid (P0.out.below hb)
      have T1 := Lib.hid (T0.out.below hb)
      have R1 := Lib.hid (R0.out.below hb)
      have D1 := Lib.hid (D0.out.trans (hb.mono D0.out.size))
      obtain ⟨g7, hg7⟩ : ∃ g7, g7 = V0.heap.size := ⟨_, rfl⟩
      have B1 : Hid (Blk V1 g7 (arr zeros) 29) := by show Blk _ _ _ _; rw [hV1, hg7]; exact Blk.new V0 _ _
      have ng7 : w.heap.size + 1 + 1 < g7 := by omega
      rw [← hV1, ← hg7]
      clear hb hV1 hg7 P0 T0 R0 D0 hltR 
      refine hK.out _ _ P1.out (fun _ => ?_)
      clear hK K
      refine wpAnyH_ready (rs := [4, 6]) (by kernel_rfl) (by simp) ?_
      refine AllReadyH.cons rfl (fun K hK => ?_) ?_
      · go_simp
        obtain ⟨V2, hV2⟩ : ∃ V2, V2 = V1.alloc (.cells #[.int .i64 0] 2) := ⟨_, rfl⟩
        have hb : Below V1.heap.size V1 V2 := by rw [hV2]; exact (Below.refl _ _).alloc (Nat.le_refl _) _
        have hltR := R1.out.lt
        have hlt5 := B1.out.lt
        have P2 := Lib.hid (P1.out.below hb)
        have T2 := Lib.hid (T1.out.below hb)
        have R2 := Lib.hid (R1.out.below hb)
        have B2 := Lib.hid (B1.out.below hb)
        have D2 := Lib.hid (D1.out.trans (hb.mono D1.out.size))
        obtain ⟨g6, hg6⟩ : ∃ g6, g6 = V1.heap.size := ⟨_, rfl⟩
        have A2 : Hid (Blk V2 g6 #[.int .i64 0] 2) := by show Blk _ _ _ _; rw [hV2, hg6]; exact Blk.new V1 _ _
        have ng6 : w.heap.size + 1 + 1 < g6 := by omega
        have ng6g7 : g6 ≠ g7 := by omega
        rw [← hV2, ← hg6]
        clear hb hV2 hg6 P1 T1 R1 B1 D1 hltR hlt5
        refine hK.out _ _ P2.out (fun _ => ?_)
        clear hK K
        refine wpAnyH_ready (rs := [6]) (by kernel_rfl) (by simp) ?_
        refine AllReadyH.cons rfl (fun K hK => ?_) ?_
        · go_simp
          obtain ⟨V3, hV3⟩ : ∃ V3, V3 = V2.alloc (.cells #[.int .i64 0] 2) := ⟨_, rfl⟩
          have hb : Below V2.heap.size V2 V3 := by rw [hV3]; exact (Below.refl _ _).alloc (Nat.le_refl _) _
          have hltR := R2.out.lt
          have hlt4 := A2.out.lt
          have hlt5 := B2.out.lt
          have P3 := Lib.hid (P2.out.below hb)
          have T3 := Lib.hid (T2.out.below hb)
          have R3 := Lib.hid (R2.out.below hb)
          have A3 := Lib.hid (A2.out.below hb)
          have B3 := Lib.hid (B2.out.below hb)
          have D3 := Lib.hid (D2.out.trans (hb.mono D2.out.size))
          obtain ⟨g8, hg8⟩ : ∃ g8, g8 = V2.heap.size := ⟨_, rfl⟩
          have C3 : Hid (Blk V3 g8 #[.int .i64 0] 2) := by show Blk _ _ _ _; rw [hV3, hg8]; exact Blk.new V2 _ _
          have ng8 : w.heap.size + 1 + 1 < g8 := by omega
          have ng6g8 : g6 ≠ g8 := by omega
          have ng7g8 : g7 ≠ g8 := by omega
          rw [← hV3, ← hg8]
          clear hb hV3 hg8 P2 T2 R2 A2 B2 D2 hltR hlt4 hlt5
          refine hK.out _ _ P3.out (fun _ => ?_)
          clear hK K
          refine wpAnyH_ready (rs := [7]) (by kernel_rfl) (by simp) ?_
          refine AllReadyH.cons rfl (fun K hK => ?_) AllReadyH.nil
          have cc : V3.cell? ⟨g6, 0, none⟩ = some (.int .i64 0) := by rw [A3.out.cell]; rfl
          have ff := A3.out.frozen 0
          go_simp
          clear cc ff
          obtain ⟨V4, hV4⟩ : ∃ V4, V4 = V3.setCell ⟨g6, 0, none⟩ (.int .i64 n) := ⟨_, rfl⟩
          have P4 : Hid (Blk V4 w.heap.size (pic n l) 32) := by show Blk _ _ _ _; rw [hV4]; exact P3.out.other (by omega) _ _
          have T4 : Hid (Blk V4 (w.heap.size + 1) #[.float .f32 t] 28) := by show Blk _ _ _ _; rw [hV4]; exact T3.out.other (by omega) _ _
          have R4 : Hid (Blk V4 (w.heap.size + 1 + 1) (wav 0 zerosC) 41) := by show Blk _ _ _ _; rw [hV4]; exact R3.out.other (by omega) _ _
          have D4 : Hid (Below w.heap.size w V4) := by show Below _ _ _; rw [hV4]; exact D3.out.setCell (by exact (by omega : w.heap.size ≤ g6)) _
          have A4 : Hid (Blk V4 g6 #[.int .i64 n] 2) := by show Blk _ _ _ _; rw [hV4]; exact A3.out.set 0 _
          have B4 : Hid (Blk V4 g7 (arr zeros) 29) := by show Blk _ _ _ _; rw [hV4]; exact B3.out.other (by omega) _ _
          have C4 : Hid (Blk V4 g8 #[.int .i64 0] 2) := by show Blk _ _ _ _; rw [hV4]; exact C3.out.other (by omega) _ _
          rw [← hV4]
          clear hV4 P3 T3 R3 A3 B3 C3 D3
          refine hK.out _ _ P4.out (fun _ => ?_)
          clear hK K
          refine wpAnyH_ready (rs := [8]) (by kernel_rfl) (by simp) ?_
          refine AllReadyH.cons rfl (fun K hK => ?_) AllReadyH.nil
          rw [if_pos (by rfl)]
          refine wp_store_row 29 _ _ rfl g7 (arr l) rfl rfl 29 (arr zeros) B4.out (Try.sizeA hl) (by rw [arr_size, arr_size, hl]; rfl) (arr_one _) ?_
          obtain ⟨V5, hV5⟩ : ∃ V5, V5 = V4.setRow g7 (arr l) := ⟨_, rfl⟩
          have P5 : Hid (Blk V5 w.heap.size (pic n l) 32) := by show Blk _ _ _ _; rw [hV5]; exact P4.out.rowOther (by omega) _
          have T5 : Hid (Blk V5 (w.heap.size + 1) #[.float .f32 t] 28) := by show Blk _ _ _ _; rw [hV5]; exact T4.out.rowOther (by omega) _
          have R5 : Hid (Blk V5 (w.heap.size + 1 + 1) (wav 0 zerosC) 41) := by show Blk _ _ _ _; rw [hV5]; exact R4.out.rowOther (by omega) _
          have D5 : Hid (Below w.heap.size w V5) := by show Below _ _ _; rw [hV5]; exact Below.setRow D4.out (by omega) _
          have A5 : Hid (Blk V5 g6 #[.int .i64 n] 2) := by show Blk _ _ _ _; rw [hV5]; exact A4.out.rowOther (by omega) _
          have B5 : Hid (Blk V5 g7 (arr l) 29) := by show Blk _ _ _ _; rw [hV5]; exact B4.out.row _
          have C5 : Hid (Blk V5 g8 #[.int .i64 0] 2) := by show Blk _ _ _ _; rw [hV5]; exact C4.out.rowOther (by omega) _
          rw [← hV5]
          clear hV5 P4 T4 R4 A4 B4 C4 D4
          refine hK.out _ _ P5.out (fun _ => ?_)
          clear hK K
          refine wpAnyH_ready (rs := [9]) (by kernel_rfl) (by simp) ?_
          refine AllReadyH.cons rfl (fun K hK => ?_) AllReadyH.nil
          have cc : V5.cell? ⟨g8, 0, none⟩ = some (.int .i64 0) := by rw [C5.out.cell]; rfl
          have ff := C5.out.frozen 0
          go_simp
          clear cc ff
          obtain ⟨V6, hV6⟩ : ∃ V6, V6 = V5.setCell ⟨g8, 0, none⟩ (.int .i64 0) := ⟨_, rfl⟩
          have P6 : Hid (Blk V6 w.heap.size (pic n l) 32) := by show Blk _ _ _ _; rw [hV6]; exact P5.out.other (by omega) _ _
          have T6 : Hid (Blk V6 (w.heap.size + 1) #[.float .f32 t] 28) := by show Blk _ _ _ _; rw [hV6]; exact T5.out.other (by omega) _ _
          have R6 : Hid (Blk V6 (w.heap.size + 1 + 1) (wav 0 zerosC) 41) := by show Blk _ _ _ _; rw [hV6]; exact R5.out.other (by omega) _ _
          have D6 : Hid (Below w.heap.size w V6) := by show Below _ _ _; rw [hV6]; exact D5.out.setCell (by exact (by omega : w.heap.size ≤ g8)) _
          have C6 : Hid (Blk V6 g8 #[.int .i64 0] 2) := by show Blk _ _ _ _; rw [hV6]; exact C5.out.set 0 _
          have A6 : Hid (Blk V6 g6 #[.int .i64 n] 2) := by show Blk _ _ _ _; rw [hV6]; exact A5.out.other (by omega) _ _
          have B6 : Hid (Blk V6 g7 (arr l) 29) := by show Blk _ _ _ _; rw [hV6]; exact B5.out.other (by omega) _ _
          rw [← hV6]
          clear hV6 P5 T5 R5 A5 B5 C5 D5
          refine hK.out _ _ P6.out (fun _ => ?_)
          clear hK K
          refine wpAnyH_done (by kernel_rfl) ?_ _
          go_wp2_with fail
          go_meet
          case rel => exact ⟨g6, g7, g8, rfl, rfl, rfl, D6.out, T6.out, R6.out, A6.out, B6.out, C6.out, ng6, ng7, ng8, ng6g7, ng6g8, ng7g8⟩
        exact AllReadyH.nil
      refine AllReadyH.cons rfl (fun K hK => ?_) ?_
      · go_simp
        obtain ⟨V2, hV2⟩ : ∃ V2, V2 = V1.alloc (.cells #[.int .i64 0] 2) := ⟨_, rfl⟩
        have hb : Below V1.heap.size V1 V2 := by rw [hV2]; exact (Below.refl _ _).alloc (Nat.le_refl _) _
        have hltR := R1.out.lt
        have hlt5 := B1.out.lt
        have P2 := Lib.hid (P1.out.below hb)
        have T2 := Lib.hid (T1.out.below hb)
        have R2 := Lib.hid (R1.out.below hb)
        have B2 := Lib.hid (B1.out.below hb)
        have D2 := Lib.hid (D1.out.trans (hb.mono D1.out.size))
        obtain ⟨g8, hg8⟩ : ∃ g8, g8 = V1.heap.size := ⟨_, rfl⟩
        have C2 : Hid (Blk V2 g8 #[.int .i64 0] 2) := by show Blk _ _ _ _; rw [hV2, hg8]; exact Blk.new V1 _ _
        have ng8 : w.heap.size + 1 + 1 < g8 := by omega
        have ng7g8 : g7 ≠ g8 := by omega
        rw [← hV2, ← hg8]
        clear hb hV2 hg8 P1 T1 R1 B1 D1 hltR hlt5
        refine hK.out _ _ P2.out (fun _ => ?_)
        clear hK K
        refine wpAnyH_ready (rs := [4]) (by kernel_rfl) (by simp) ?_
        refine AllReadyH.cons rfl (fun K hK => ?_) ?_
        · go_simp
          obtain ⟨V3, hV3⟩ : ∃ V3, V3 = V2.alloc (.cells #[.int .i64 0] 2) := ⟨_, rfl⟩
          have hb : Below V2.heap.size V2 V3 := by rw [hV3]; exact (Below.refl _ _).alloc (Nat.le_refl _) _
          have hltR := R2.out.lt
          have hlt5 := B2.out.lt
          have hlt6 := C2.out.lt
          have P3 := Lib.hid (P2.out.below hb)
          have T3 := Lib.hid (T2.out.below hb)
          have R3 := Lib.hid (R2.out.below hb)
          have B3 := Lib.hid (B2.out.below hb)
          have C3 := Lib.hid (C2.out.below hb)
          have D3 := Lib.hid (D2.out.trans (hb.mono D2.out.size))
          obtain ⟨g6, hg6⟩ : ∃ g6, g6 = V2.heap.size := ⟨_, rfl⟩
          have A3 : Hid (Blk V3 g6 #[.int .i64 0] 2) := by show Blk _ _ _ _; rw [hV3, hg6]; exact Blk.new V2 _ _
          have ng6 : w.heap.size + 1 + 1 < g6 := by omega
          have ng6g7 : g6 ≠ g7 := by omega
          have ng6g8 : g6 ≠ g8 := by omega
          rw [← hV3, ← hg6]
          clear hb hV3 hg6 P2 T2 R2 B2 C2 D2 hltR hlt5 hlt6
          refine hK.out _ _ P3.out (fun _ => ?_)
          clear hK K
          refine wpAnyH_ready (rs := [7]) (by kernel_rfl) (by simp) ?_
          refine AllReadyH.cons rfl (fun K hK => ?_) AllReadyH.nil
          have cc : V3.cell? ⟨g6, 0, none⟩ = some (.int .i64 0) := by rw [A3.out.cell]; rfl
          have ff := A3.out.frozen 0
          go_simp
          clear cc ff
          obtain ⟨V4, hV4⟩ : ∃ V4, V4 = V3.setCell ⟨g6, 0, none⟩ (.int .i64 n) := ⟨_, rfl⟩
          have P4 : Hid (Blk V4 w.heap.size (pic n l) 32) := by show Blk _ _ _ _; rw [hV4]; exact P3.out.other (by omega) _ _
          have T4 : Hid (Blk V4 (w.heap.size + 1) #[.float .f32 t] 28) := by show Blk _ _ _ _; rw [hV4]; exact T3.out.other (by omega) _ _
          have R4 : Hid (Blk V4 (w.heap.size + 1 + 1) (wav 0 zerosC) 41) := by show Blk _ _ _ _; rw [hV4]; exact R3.out.other (by omega) _ _
          have D4 : Hid (Below w.heap.size w V4) := by show Below _ _ _; rw [hV4]; exact D3.out.setCell (by exact (by omega : w.heap.size ≤ g6)) _
          have A4 : Hid (Blk V4 g6 #[.int .i64 n] 2) := by show Blk _ _ _ _; rw [hV4]; exact A3.out.set 0 _
          have B4 : Hid (Blk V4 g7 (arr zeros) 29) := by show Blk _ _ _ _; rw [hV4]; exact B3.out.other (by omega) _ _
          have C4 : Hid (Blk V4 g8 #[.int .i64 0] 2) := by show Blk _ _ _ _; rw [hV4]; exact C3.out.other (by omega) _ _
          rw [← hV4]
          clear hV4 P3 T3 R3 A3 B3 C3 D3
          refine hK.out _ _ P4.out (fun _ => ?_)
          clear hK K
          refine wpAnyH_ready (rs := [8]) (by kernel_rfl) (by simp) ?_
          refine AllReadyH.cons rfl (fun K hK => ?_) AllReadyH.nil
          rw [if_pos (by rfl)]
          refine wp_store_row 29 _ _ rfl g7 (arr l) rfl rfl 29 (arr zeros) B4.out (Try.sizeA hl) (by rw [arr_size, arr_size, hl]; rfl) (arr_one _) ?_
          obtain ⟨V5, hV5⟩ : ∃ V5, V5 = V4.setRow g7 (arr l) := ⟨_, rfl⟩
          have P5 : Hid (Blk V5 w.heap.size (pic n l) 32) := by show Blk _ _ _ _; rw [hV5]; exact P4.out.rowOther (by omega) _
          have T5 : Hid (Blk V5 (w.heap.size + 1) #[.float .f32 t] 28) := by show Blk _ _ _ _; rw [hV5]; exact T4.out.rowOther (by omega) _
          have R5 : Hid (Blk V5 (w.heap.size + 1 + 1) (wav 0 zerosC) 41) := by show Blk _ _ _ _; rw [hV5]; exact R4.out.rowOther (by omega) _
          have D5 : Hid (Below w.heap.size w V5) := by show Below _ _ _; rw [hV5]; exact Below.setRow D4.out (by omega) _
          have A5 : Hid (Blk V5 g6 #[.int .i64 n] 2) := by show Blk _ _ _ _; rw [hV5]; exact A4.out.rowOther (by omega) _
          have B5 : Hid (Blk V5 g7 (arr l) 29) := by show Blk _ _ _ _; rw [hV5]; exact B4.out.row _
          have C5 : Hid (Blk V5 g8 #[.int .i64 0] 2) := by show Blk _ _ _ _; rw [hV5]; exact C4.out.rowOther (by omega) _
          rw [← hV5]
          clear hV5 P4 T4 R4 A4 B4 C4 D4
          refine hK.out _ _ P5.out (fun _ => ?_)
          clear hK K
          refine wpAnyH_ready (rs := [9]) (by kernel_rfl) (by simp) ?_
          refine AllReadyH.cons rfl (fun K hK => ?_) AllReadyH.nil
          have cc : V5.cell? ⟨g8, 0, none⟩ = some (.int .i64 0) := by rw [C5.out.cell]; rfl
          have ff := C5.out.frozen 0
          go_simp
          clear cc ff
          obtain ⟨V6, hV6⟩ : ∃ V6, V6 = V5.setCell ⟨g8, 0, none⟩ (.int .i64 0) := ⟨_, rfl⟩
          have P6 : Hid (Blk V6 w.heap.size (pic n l) 32) := by show Blk _ _ _ _; rw [hV6]; exact P5.out.other (by omega) _ _
          have T6 : Hid (Blk V6 (w.heap.size + 1) #[.float .f32 t] 28) := by show Blk _ _ _ _; rw [hV6]; exact T5.out.other (by omega) _ _
          have R6 : Hid (Blk V6 (w.heap.size + 1 + 1) (wav 0 zerosC) 41) := by show Blk _ _ _ _; rw [hV6]; exact R5.out.other (by omega) _ _
          have D6 : Hid (Below w.heap.size w V6) := by show Below _ _ _; rw [hV6]; exact D5.out.setCell (by exact (by omega : w.heap.size ≤ g8)) _
          have C6 : Hid (Blk V6 g8 #[.int .i64 0] 2) := by show Blk _ _ _ _; rw [hV6]; exact C5.out.set 0 _
          have A6 : Hid (Blk V6 g6 #[.int .i64 n] 2) := by show Blk _ _ _ _; rw [hV6]; exact A5.out.other (by omega) _ _
          have B6 : Hid (Blk V6 g7 (arr l) 29) := by show Blk _ _ _ _; rw [hV6]; exact B5.out.other (by omega) _ _
          rw [← hV6]
          clear hV6 P5 T5 R5 A5 B5 C5 D5
          refine hK.out _ _ P6.out (fun _ => ?_)
          clear hK K
          refine wpAnyH_done (by kernel_rfl) ?_ _
          go_wp2_with fail
          go_meet
          case rel => exact ⟨g6, g7, g8, rfl, rfl, rfl, D6.out, T6.out, R6.out, A6.out, B6.out, C6.out, ng6, ng7, ng8, ng6g7, ng6g8, ng7g8⟩
        exact AllReadyH.nil
      exact AllReadyH.nil
    refine AllReadyH.cons rfl (fun K hK => ?_) ?_
    · go_simp
      obtain ⟨V1, hV1⟩ : ∃ V1, V1 = V0.alloc (.cells #[.int .i64 0] 2) := ⟨_, rfl⟩
      have hb : Below V0.heap.size V0 V1 := by rw [hV1]; exact (Below.refl _ _).alloc (Nat.le_refl _) _
      have hltR := R0.out.lt
      have P1 := Lib.hid (P0.out.below hb)
      have T1 := Lib.hid (T0.out.below hb)
      have R1 := Lib.hid (R0.out.below hb)
      have D1 := Lib.hid (D0.out.trans (hb.mono D0.out.size))
      obtain ⟨g8, hg8⟩ : ∃ g8, g8 = V0.heap.size := ⟨_, rfl⟩
      have C1 : Hid (Blk V1 g8 #[.int .i64 0] 2) := by show Blk _ _ _ _; rw [hV1, hg8]; exact Blk.new V0 _ _
      have ng8 : w.heap.size + 1 + 1 < g8 := by omega
      rw [← hV1, ← hg8]
      clear hb hV1 hg8 P0 T0 R0 D0 hltR 
      refine hK.out _ _ P1.out (fun _ => ?_)
      clear hK K
      refine wpAnyH_ready (rs := [4, 5]) (by kernel_rfl) (by simp) ?_
      refine AllReadyH.cons rfl (fun K hK => ?_) ?_
      · go_simp
        obtain ⟨V2, hV2⟩ : ∃ V2, V2 = V1.alloc (.cells #[.int .i64 0] 2) := ⟨_, rfl⟩
        have hb : Below V1.heap.size V1 V2 := by rw [hV2]; exact (Below.refl _ _).alloc (Nat.le_refl _) _
        have hltR := R1.out.lt
        have hlt6 := C1.out.lt
        have P2 := Lib.hid (P1.out.below hb)
        have T2 := Lib.hid (T1.out.below hb)
        have R2 := Lib.hid (R1.out.below hb)
        have C2 := Lib.hid (C1.out.below hb)
        have D2 := Lib.hid (D1.out.trans (hb.mono D1.out.size))
        obtain ⟨g6, hg6⟩ : ∃ g6, g6 = V1.heap.size := ⟨_, rfl⟩
        have A2 : Hid (Blk V2 g6 #[.int .i64 0] 2) := by show Blk _ _ _ _; rw [hV2, hg6]; exact Blk.new V1 _ _
        have ng6 : w.heap.size + 1 + 1 < g6 := by omega
        have ng6g8 : g6 ≠ g8 := by omega
        rw [← hV2, ← hg6]
        clear hb hV2 hg6 P1 T1 R1 C1 D1 hltR hlt6
        refine hK.out _ _ P2.out (fun _ => ?_)
        clear hK K
        refine wpAnyH_ready (rs := [5]) (by kernel_rfl) (by simp) ?_
        refine AllReadyH.cons rfl (fun K hK => ?_) ?_
        · go_simp
          obtain ⟨V3, hV3⟩ : ∃ V3, V3 = V2.alloc (.cells (arr zeros) 29) := ⟨_, rfl⟩
          have hb : Below V2.heap.size V2 V3 := by rw [hV3]; exact (Below.refl _ _).alloc (Nat.le_refl _) _
          have hltR := R2.out.lt
          have hlt4 := A2.out.lt
          have hlt6 := C2.out.lt
          have P3 := Lib.hid (P2.out.below hb)
          have T3 := Lib.hid (T2.out.below hb)
          have R3 := Lib.hid (R2.out.below hb)
          have A3 := Lib.hid (A2.out.below hb)
          have C3 := Lib.hid (C2.out.below hb)
          have D3 := Lib.hid (D2.out.trans (hb.mono D2.out.size))
          obtain ⟨g7, hg7⟩ : ∃ g7, g7 = V2.heap.size := ⟨_, rfl⟩
          have B3 : Hid (Blk V3 g7 (arr zeros) 29) := by show Blk _ _ _ _; rw [hV3, hg7]; exact Blk.new V2 _ _
          have ng7 : w.heap.size + 1 + 1 < g7 := by omega
          have ng6g7 : g6 ≠ g7 := by omega
          have ng7g8 : g7 ≠ g8 := by omega
          rw [← hV3, ← hg7]
          clear hb hV3 hg7 P2 T2 R2 A2 C2 D2 hltR hlt4 hlt6
          refine hK.out _ _ P3.out (fun _ => ?_)
          clear hK K
          refine wpAnyH_ready (rs := [7]) (by kernel_rfl) (by simp) ?_
          refine AllReadyH.cons rfl (fun K hK => ?_) AllReadyH.nil
          have cc : V3.cell? ⟨g6, 0, none⟩ = some (.int .i64 0) := by rw [A3.out.cell]; rfl
          have ff := A3.out.frozen 0
          go_simp
          clear cc ff
          obtain ⟨V4, hV4⟩ : ∃ V4, V4 = V3.setCell ⟨g6, 0, none⟩ (.int .i64 n) := ⟨_, rfl⟩
          have P4 : Hid (Blk V4 w.heap.size (pic n l) 32) := by show Blk _ _ _ _; rw [hV4]; exact P3.out.other (by omega) _ _
          have T4 : Hid (Blk V4 (w.heap.size + 1) #[.float .f32 t] 28) := by show Blk _ _ _ _; rw [hV4]; exact T3.out.other (by omega) _ _
          have R4 : Hid (Blk V4 (w.heap.size + 1 + 1) (wav 0 zerosC) 41) := by show Blk _ _ _ _; rw [hV4]; exact R3.out.other (by omega) _ _
          have D4 : Hid (Below w.heap.size w V4) := by show Below _ _ _; rw [hV4]; exact D3.out.setCell (by exact (by omega : w.heap.size ≤ g6)) _
          have A4 : Hid (Blk V4 g6 #[.int .i64 n] 2) := by show Blk _ _ _ _; rw [hV4]; exact A3.out.set 0 _
          have B4 : Hid (Blk V4 g7 (arr zeros) 29) := by show Blk _ _ _ _; rw [hV4]; exact B3.out.other (by omega) _ _
          have C4 : Hid (Blk V4 g8 #[.int .i64 0] 2) := by show Blk _ _ _ _; rw [hV4]; exact C3.out.other (by omega) _ _
          rw [← hV4]
          clear hV4 P3 T3 R3 A3 B3 C3 D3
          refine hK.out _ _ P4.out (fun _ => ?_)
          clear hK K
          refine wpAnyH_ready (rs := [8]) (by kernel_rfl) (by simp) ?_
          refine AllReadyH.cons rfl (fun K hK => ?_) AllReadyH.nil
          rw [if_pos (by rfl)]
          refine wp_store_row 29 _ _ rfl g7 (arr l) rfl rfl 29 (arr zeros) B4.out (Try.sizeA hl) (by rw [arr_size, arr_size, hl]; rfl) (arr_one _) ?_
          obtain ⟨V5, hV5⟩ : ∃ V5, V5 = V4.setRow g7 (arr l) := ⟨_, rfl⟩
          have P5 : Hid (Blk V5 w.heap.size (pic n l) 32) := by show Blk _ _ _ _; rw [hV5]; exact P4.out.rowOther (by omega) _
          have T5 : Hid (Blk V5 (w.heap.size + 1) #[.float .f32 t] 28) := by show Blk _ _ _ _; rw [hV5]; exact T4.out.rowOther (by omega) _
          have R5 : Hid (Blk V5 (w.heap.size + 1 + 1) (wav 0 zerosC) 41) := by show Blk _ _ _ _; rw [hV5]; exact R4.out.rowOther (by omega) _
          have D5 : Hid (Below w.heap.size w V5) := by show Below _ _ _; rw [hV5]; exact Below.setRow D4.out (by omega) _
          have A5 : Hid (Blk V5 g6 #[.int .i64 n] 2) := by show Blk _ _ _ _; rw [hV5]; exact A4.out.rowOther (by omega) _
          have B5 : Hid (Blk V5 g7 (arr l) 29) := by show Blk _ _ _ _; rw [hV5]; exact B4.out.row _
          have C5 : Hid (Blk V5 g8 #[.int .i64 0] 2) := by show Blk _ _ _ _; rw [hV5]; exact C4.out.rowOther (by omega) _
          rw [← hV5]
          clear hV5 P4 T4 R4 A4 B4 C4 D4
          refine hK.out _ _ P5.out (fun _ => ?_)
          clear hK K
          refine wpAnyH_ready (rs := [9]) (by kernel_rfl) (by simp) ?_
          refine AllReadyH.cons rfl (fun K hK => ?_) AllReadyH.nil
          have cc : V5.cell? ⟨g8, 0, none⟩ = some (.int .i64 0) := by rw [C5.out.cell]; rfl
          have ff := C5.out.frozen 0
          go_simp
          clear cc ff
          obtain ⟨V6, hV6⟩ : ∃ V6, V6 = V5.setCell ⟨g8, 0, none⟩ (.int .i64 0) := ⟨_, rfl⟩
          have P6 : Hid (Blk V6 w.heap.size (pic n l) 32) := by show Blk _ _ _ _; rw [hV6]; exact P5.out.other (by omega) _ _
          have T6 : Hid (Blk V6 (w.heap.size + 1) #[.float .f32 t] 28) := by show Blk _ _ _ _; rw [hV6]; exact T5.out.other (by omega) _ _
          have R6 : Hid (Blk V6 (w.heap.size + 1 + 1) (wav 0 zerosC) 41) := by show Blk _ _ _ _; rw [hV6]; exact R5.out.other (by omega) _ _
          have D6 : Hid (Below w.heap.size w V6) := by show Below _ _ _; rw [hV6]; exact D5.out.setCell (by exact (by omega : w.heap.size ≤ g8)) _
          have C6 : Hid (Blk V6 g8 #[.int .i64 0] 2) := by show Blk _ _ _ _; rw [hV6]; exact C5.out.set 0 _
          have A6 : Hid (Blk V6 g6 #[.int .i64 n] 2) := by show Blk _ _ _ _; rw [hV6]; exact A5.out.other (by omega) _ _
          have B6 : Hid (Blk V6 g7 (arr l) 29) := by show Blk _ _ _ _; rw [hV6]; exact B5.out.other (by omega) _ _
          rw [← hV6]
          clear hV6 P5 T5 R5 A5 B5 C5 D5
          refine hK.out _ _ P6.out (fun _ => ?_)
          clear hK K
          refine wpAnyH_done (by kernel_rfl) ?_ _
          go_wp2_with fail
          go_meet
          case rel => exact ⟨g6, g7, g8, rfl, rfl, rfl, D6.out, T6.out, R6.out, A6.out, B6.out, C6.out, ng6, ng7, ng8, ng6g7, ng6g8, ng7g8⟩
        exact AllReadyH.nil
      refine AllReadyH.cons rfl (fun K hK => ?_) ?_
      · go_simp
        obtain ⟨V2, hV2⟩ : ∃ V2, V2 = V1.alloc (.cells (arr zeros) 29) := ⟨_, rfl⟩
        have hb : Below V1.heap.size V1 V2 := by rw [hV2]; exact (Below.refl _ _).alloc (Nat.le_refl _) _
        have hltR := R1.out.lt
        have hlt6 := C1.out.lt
        have P2 := Lib.hid (P1.out.below hb)
        have T2 := Lib.hid (T1.out.below hb)
        have R2 := Lib.hid (R1.out.below hb)
        have C2 := Lib.hid (C1.out.below hb)
        have D2 := Lib.hid (D1.out.trans (hb.mono D1.out.size))
        obtain ⟨g7, hg7⟩ : ∃ g7, g7 = V1.heap.size := ⟨_, rfl⟩
        have B2 : Hid (Blk V2 g7 (arr zeros) 29) := by show Blk _ _ _ _; rw [hV2, hg7]; exact Blk.new V1 _ _
        have ng7 : w.heap.size + 1 + 1 < g7 := by omega
        have ng7g8 : g7 ≠ g8 := by omega
        rw [← hV2, ← hg7]
        clear hb hV2 hg7 P1 T1 R1 C1 D1 hltR hlt6
        refine hK.out _ _ P2.out (fun _ => ?_)
        clear hK K
        refine wpAnyH_ready (rs := [4]) (by kernel_rfl) (by simp) ?_
        refine AllReadyH.cons rfl (fun K hK => ?_) ?_
        · go_simp
          obtain ⟨V3, hV3⟩ : ∃ V3, V3 = V2.alloc (.cells #[.int .i64 0] 2) := ⟨_, rfl⟩
          have hb : Below V2.heap.size V2 V3 := by rw [hV3]; exact (Below.refl _ _).alloc (Nat.le_refl _) _
          have hltR := R2.out.lt
          have hlt5 := B2.out.lt
          have hlt6 := C2.out.lt
          have P3 := Lib.hid (P2.out.below hb)
          have T3 := Lib.hid (T2.out.below hb)
          have R3 := Lib.hid (R2.out.below hb)
          have B3 := Lib.hid (B2.out.below hb)
          have C3 := Lib.hid (C2.out.below hb)
          have D3 := Lib.hid (D2.out.trans (hb.mono D2.out.size))
          obtain ⟨g6, hg6⟩ : ∃ g6, g6 = V2.heap.size := ⟨_, rfl⟩
          have A3 : Hid (Blk V3 g6 #[.int .i64 0] 2) := by show Blk _ _ _ _; rw [hV3, hg6]; exact Blk.new V2 _ _
          have ng6 : w.heap.size + 1 + 1 < g6 := by omega
          have ng6g7 : g6 ≠ g7 := by omega
          have ng6g8 : g6 ≠ g8 := by omega
          rw [← hV3, ← hg6]
          clear hb hV3 hg6 P2 T2 R2 B2 C2 D2 hltR hlt5 hlt6
          refine hK.out _ _ P3.out (fun _ => ?_)
          clear hK K
          refine wpAnyH_ready (rs := [7]) (by kernel_rfl) (by simp) ?_
          refine AllReadyH.cons rfl (fun K hK => ?_) AllReadyH.nil
          have cc : V3.cell? ⟨g6, 0, none⟩ = some (.int .i64 0) := by rw [A3.out.cell]; rfl
          have ff := A3.out.frozen 0
          go_simp
          clear cc ff
          obtain ⟨V4, hV4⟩ : ∃ V4, V4 = V3.setCell ⟨g6, 0, none⟩ (.int .i64 n) := ⟨_, rfl⟩
          have P4 : Hid (Blk V4 w.heap.size (pic n l) 32) := by show Blk _ _ _ _; rw [hV4]; exact P3.out.other (by omega) _ _
          have T4 : Hid (Blk V4 (w.heap.size + 1) #[.float .f32 t] 28) := by show Blk _ _ _ _; rw [hV4]; exact T3.out.other (by omega) _ _
          have R4 : Hid (Blk V4 (w.heap.size + 1 + 1) (wav 0 zerosC) 41) := by show Blk _ _ _ _; rw [hV4]; exact R3.out.other (by omega) _ _
          have D4 : Hid (Below w.heap.size w V4) := by show Below _ _ _; rw [hV4]; exact D3.out.setCell (by exact (by omega : w.heap.size ≤ g6)) _
          have A4 : Hid (Blk V4 g6 #[.int .i64 n] 2) := by show Blk _ _ _ _; rw [hV4]; exact A3.out.set 0 _
          have B4 : Hid (Blk V4 g7 (arr zeros) 29) := by show Blk _ _ _ _; rw [hV4]; exact B3.out.other (by omega) _ _
          have C4 : Hid (Blk V4 g8 #[.int .i64 0] 2) := by show Blk _ _ _ _; rw [hV4]; exact C3.out.other (by omega) _ _
          rw [← hV4]
          clear hV4 P3 T3 R3 A3 B3 C3 D3
          refine hK.out _ _ P4.out (fun _ => ?_)
          clear hK K
          refine wpAnyH_ready (rs := [8]) (by kernel_rfl) (by simp) ?_
          refine AllReadyH.cons rfl (fun K hK => ?_) AllReadyH.nil
          rw [if_pos (by rfl)]
          refine wp_store_row 29 _ _ rfl g7 (arr l) rfl rfl 29 (arr zeros) B4.out (Try.sizeA hl) (by rw [arr_size, arr_size, hl]; rfl) (arr_one _) ?_
          obtain ⟨V5, hV5⟩ : ∃ V5, V5 = V4.setRow g7 (arr l) := ⟨_, rfl⟩
          have P5 : Hid (Blk V5 w.heap.size (pic n l) 32) := by show Blk _ _ _ _; rw [hV5]; exact P4.out.rowOther (by omega) _
          have T5 : Hid (Blk V5 (w.heap.size + 1) #[.float .f32 t] 28) := by show Blk _ _ _ _; rw [hV5]; exact T4.out.rowOther (by omega) _
          have R5 : Hid (Blk V5 (w.heap.size + 1 + 1) (wav 0 zerosC) 41) := by show Blk _ _ _ _; rw [hV5]; exact R4.out.rowOther (by omega) _
          have D5 : Hid (Below w.heap.size w V5) := by show Below _ _ _; rw [hV5]; exact Below.setRow D4.out (by omega) _
          have A5 : Hid (Blk V5 g6 #[.int .i64 n] 2) := by show Blk _ _ _ _; rw [hV5]; exact A4.out.rowOther (by omega) _
          have B5 : Hid (Blk V5 g7 (arr l) 29) := by show Blk _ _ _ _; rw [hV5]; exact B4.out.row _
          have C5 : Hid (Blk V5 g8 #[.int .i64 0] 2) := by show Blk _ _ _ _; rw [hV5]; exact C4.out.rowOther (by omega) _
          rw [← hV5]
          clear hV5 P4 T4 R4 A4 B4 C4 D4
          refine hK.out _ _ P5.out (fun _ => ?_)
          clear hK K
          refine wpAnyH_ready (rs := [9]) (by kernel_rfl) (by simp) ?_
          refine AllReadyH.cons rfl (fun K hK => ?_) AllReadyH.nil
          have cc : V5.cell? ⟨g8, 0, none⟩ = some (.int .i64 0) := by rw [C5.out.cell]; rfl
          have ff := C5.out.frozen 0
          go_simp
          clear cc ff
          obtain ⟨V6, hV6⟩ : ∃ V6, V6 = V5.setCell ⟨g8, 0, none⟩ (.int .i64 0) := ⟨_, rfl⟩
          have P6 : Hid (Blk V6 w.heap.size (pic n l) 32) := by show Blk _ _ _ _; rw [hV6]; exact P5.out.other (by omega) _ _
          have T6 : Hid (Blk V6 (w.heap.size + 1) #[.float .f32 t] 28) := by show Blk _ _ _ _; rw [hV6]; exact T5.out.other (by omega) _ _
          have R6 : Hid (Blk V6 (w.heap.size + 1 + 1) (wav 0 zerosC) 41) := by show Blk _ _ _ _; rw [hV6]; exact R5.out.other (by omega) _ _
          have D6 : Hid (Below w.heap.size w V6) := by show Below _ _ _; rw [hV6]; exact D5.out.setCell (by exact (by omega : w.heap.size ≤ g8)) _
          have C6 : Hid (Blk V6 g8 #[.int .i64 0] 2) := by show Blk _ _ _ _; rw [hV6]; exact C5.out.set 0 _
          have A6 : Hid (Blk V6 g6 #[.int .i64 n] 2) := by show Blk _ _ _ _; rw [hV6]; exact A5.out.other (by omega) _ _
          have B6 : Hid (Blk V6 g7 (arr l) 29) := by show Blk _ _ _ _; rw [hV6]; exact B5.out.other (by omega) _ _
          rw [← hV6]
          clear hV6 P5 T5 R5 A5 B5 C5 D5
          refine hK.out _ _ P6.out (fun _ => ?_)
          clear hK K
          refine wpAnyH_done (by kernel_rfl) ?_ _
          go_wp2_with fail
          go_meet
          case rel => exact ⟨g6, g7, g8, rfl, rfl, rfl, D6.out, T6.out, R6.out, A6.out, B6.out, C6.out, ng6, ng7, ng8, ng6g7, ng6g8, ng7g8⟩
        exact AllReadyH.nil
      exact AllReadyH.nil
    exact AllReadyH.nil
  case rest =>
    clear P0' T0' R0' D0'
    obtain ⟨g6, g7, g8, rfl, rfl, rfl, hD, hT, hR, h6, h7, h8, n6, n7, n8, n67, n68, n78⟩ := hcut
    have HD := Lib.hid hD
    have HT := Lib.hid hT
    have HRR := Lib.hid hR
    have H6 := Lib.hid h6
    have H7 := Lib.hid h7
    have H8 := Lib.hid h8
    have cn := (h6.cell 0).trans (rfl : (#[Value.int .i64 (n : Int)])[0]? = some (.int .i64 n))
    clear hD hT hR h6 h7 h8
    go_wp2_with fail
    refine (maskBy_hf n t hn1 hn2 l hl g7 g6 (w.heap.size + 1) g8 _ H7.out H6.out HT.out H8.out (by omega) (by omega) (by omega) (by omega) (by omega)).mono ?_
    rintro e w2 ⟨rfl, hi, hb⟩
    obtain ⟨l', hl', hm', hgs, hgc⟩ := hi
    rw [HM.out] at hgc ⊢
    have hm64 : m ≤ 64 := by rw [← HM.out]; have := Nat.mul_le_mul hn2 hn2; omega
    have hlen := fillL_length (hG n t (l.map (ab .f32))) hm64
    have D2 := Lib.hid (HD.out.trans (hb.below (by omega : w.heap.size ≤ g7) (by omega) HD.out.size))
    have R2 := hb.blk HRR.out (by omega) (by omega)
    have hlR := R2.lt
    have hl8 := hgc.lt
    have C3 := Lib.hid (Blk.new w2 (wav 0 zerosC) 41)
    have HL := Lib.hid hlen
    obtain ⟨V, hV⟩ : ∃ V, V = (w2.alloc (.cells (wav 0 zerosC) 41)).setRow w2.heap.size (wav n (fillL m (hG n t (l.map (ab .f32))))) := ⟨_, rfl⟩
    have DV : Hid (Below w.heap.size w V) := by show Below _ _ _; rw [hV]; exact Below.setRow (D2.out.alloc D2.out.size _) D2.out.size _
    have RV : Hid (Blk V (w.heap.size + 1 + 1) (wav 0 zerosC) 41) := by show Blk _ _ _ _; rw [hV]; exact (R2.alloc _).rowOther (by omega) _
    have GV : Hid (Blk V g8 #[.int .i64 (if hC n t (l.map (ab .f32)) m then 3 else 0)] 2) := by show Blk _ _ _ _; rw [hV]; exact (hgc.alloc _).rowOther (by omega) _
    have CV : Hid (Blk V w2.heap.size (wav n (fillL m (hG n t (l.map (ab .f32))))) 41) := by show Blk _ _ _ _; rw [hV]; exact C3.out.row _
    obtain ⟨g9, hg9⟩ : ∃ g9, g9 = w2.heap.size := ⟨_, rfl⟩
    have h9 : w.heap.size + 1 + 1 < g9 := by omega
    clear hgs hgc hb hlen R2 hlR hl8 hm' hl' cn HD HT HRR H6 H7 H8
    go_upto_region 7 with (refine wpList_store_row rfl 41 (.tmp 9) (.tmp 30) rfl w2.heap.size (wav n (fillL m (hG n t (l.map (ab .f32))))) rfl rfl 41 (wav 0 zerosC) C3.out ?c1 ?c2 (wav_one _ _) ?_; (case c1 => exact Try.sizeW HL.out); (case c2 => (rw [wav_size, wav_size, HL.out]; rfl)))
    rw [← hV]
    rw [← hg9] at CV ⊢
    clear hV C3 D2 hg9
    cases hc : hC n t (l.map (ab .f32)) m with
    | true =>
      rw [hc] at GV HR
      have HR1 : Hid (hfR n l t m = (3, 0, zerosC)) := HR.out
      have c8 := (GV.out.cell 0).trans (rfl : (#[Value.int .i64 (if true = true then 3 else 0)])[0]? = some (.int .i64 3))
      have GW : Hid (Blk V g8 #[.int .i64 3] 2) := GV.out
      clear hc HR GV
      go_upto_region 8 with (fail)
      refine wp_region_held (S := fun w' => Blk w' g8 #[.int .i64 3] 2) (by kernel_rfl) ?_
      change wpAnyH _ _ _ _ _ _ _ _ (World.drew _)
      obtain ⟨V0, hV0⟩ : ∃ V0, V0 = V.drew := ⟨_, rfl⟩
      have G0 : Hid (Blk V0 g8 #[.int .i64 3] 2) := by show Blk _ _ _ _; rw [hV0]; exact GW.out.drewN 1
      have R0 : Hid (Blk V0 (w.heap.size + 1 + 1) (wav 0 zerosC) 41) := by show Blk _ _ _ _; rw [hV0]; exact RV.out.drewN 1
      have D0 : Hid (Below w.heap.size w V0) := by show Below _ _ _; rw [hV0]; exact below_drewN' DV.out 1
      rw [← hV0]
      clear GW RV DV hV0 c8
      refine wpAnyH_take (i := 0) (v := .agg (wav 0 zerosC)) rfl (by kernel_rfl) (by kernel_rfl) (by kernel_rfl) (fun _ _ _ h => h) (.inl ⟨by rfl, fun w' hS => exec_build0 rfl⟩) G0.out ?_
      refine wpAnyH_take (i := 1) (v := .int .i64 3) rfl (by kernel_rfl) (by kernel_rfl) (by kernel_rfl) (fun _ _ _ h => h) (.inl ⟨by rfl, fun w' hS => ?_⟩) G0.out ?_
      · have h1 := (Blk.cell hS 0).trans (rfl : (#[Value.int .i64 3])[0]? = some (.int .i64 3))
        clear hS
        go_simp
      refine wpAnyH_ready (rs := [2]) (by kernel_rfl) (by simp) ?_
      refine AllReadyH.cons rfl (fun K hK => ?_) AllReadyH.nil
      rw [if_pos (by rfl)]
      refine wp_store_row 41 _ _ rfl (w.heap.size + 1 + 1) (wav 0 zerosC) rfl rfl 41 (wav 0 zerosC) R0.out (Try.sizeW zerosC_length) rfl (wav_one _ _) ?_
      have G1 := Lib.hid (G0.out.rowOther (by omega : g8 ≠ w.heap.size + 1 + 1) (wav 0 zerosC))
      refine hK.out _ _ G1.out (fun _ => ?_)
      clear hK K
      refine wpAnyH_ready (rs := [3]) (by kernel_rfl) (by simp) ?_
      refine AllReadyH.cons rfl (fun K hK => ?_) AllReadyH.nil
      go_simp
      refine hK.out _ _ G1.out (fun _ => ?_)
      clear hK K
      refine wpAnyH_done (by kernel_rfl) ?_ _
      go_wp2_with fail
      refine bodyPost_ret (v := .tuple #[.agg (wav 0 zerosC), .int .i64 3]) (results_cell_row2 Try.results50 _ _ (w.heap.size + 1 + 1) 41 (wav 0 zerosC) (0, 0) _ _ rfl rfl (R0.out.row _) Try.underlying41 rfl (Try.sizeW zerosC_length)) rfl ?_
      exact WavPost.err HR1.out (Below.setRow D0.out (by omega) _)
    | false =>
      rw [hc] at GV HR
      have HR1 : Hid (hfR n l t m = (0, (n : Int), fillL m (hG n t (l.map (ab .f32))))) := HR.out
      have c8 := (GV.out.cell 0).trans (rfl : (#[Value.int .i64 (if false = true then 3 else 0)])[0]? = some (.int .i64 0))
      clear hc HR GV
      go_wp2_with (first | (refine wpList_load_row rfl 41 (.tmp 9) rfl g9 rfl 41 (wav n (fillL m (hG n t (l.map (ab .f32))))) (0, 0) _ CV.out Try.underlying41 rfl (Try.sizeW HL.out) ?_) | (refine wpList_store_row rfl 41 (.tmp 4) (.tmp 35) rfl (w.heap.size + 1 + 1) (wav n (fillL m (hG n t (l.map (ab .f32))))) rfl rfl 41 (wav 0 zerosC) RV.out (Try.sizeW HL.out) (by rw [wav_size, wav_size, HL.out]; rfl) (wav_one _ _) ?_))
      refine bodyPost_ret (v := .tuple #[.agg (wav n (fillL m (hG n t (l.map (ab .f32))))), .int .i64 0]) (results_cell_row2 Try.results50 _ _ (w.heap.size + 1 + 1) 41 (wav n (fillL m (hG n t (l.map (ab .f32))))) (0, 0) _ _ rfl rfl (RV.out.row _) Try.underlying41 rfl (Try.sizeW HL.out)) rfl ?_
      exact ⟨by rw [HR1.out], Below.setRow DV.out (by omega) _⟩
end Go.Proofs.Ytphbjfijipcpnaa
