/- Waves: rows of 64 complex numbers, with a side. -/
import Derived.Test.YtficghohflmdeaaLPhaseOf
import Derived.Test.YtficghohflmdeaaBlk
namespace Go.Proofs.Ytficghohflmdeaa
open Go.RowKit
set_option linter.unusedVariables false

/-- a complex number, 64 of them, and a wave, as they lie in memory -/
def cx (p : Nat × Nat) : Value := .complex .f32 p.1 p.2
def arC (l : List (Nat × Nat)) : Array Value := (l.map cx).toArray
def wav (n : Int) (l : List (Nat × Nat)) : Array Value := (.int .i64 n :: l.map cx).toArray
def zerosC : List (Nat × Nat) := List.replicate 64 (0, 0)
theorem zerosC_length : zerosC.length = 64 := rfl
theorem cx_eq (p : Nat × Nat) : cx p = .complex .f32 p.1 p.2 := rfl

theorem arC_size (l : List (Nat × Nat)) : (arC l).size = l.length := by simp [arC]
theorem wav_size (n : Int) (l : List (Nat × Nat)) : (wav n l).size = l.length + 1 := by simp [wav]
theorem arC_one (l : List (Nat × Nat)) : (arC l).all (·.oneCell') = true := by
  rw [Array.all_eq_true_iff_forall_mem]; intro v hv; simp only [arC, List.mem_toArray, List.mem_map] at hv; obtain ⟨b, _, rfl⟩ := hv; rfl
theorem wav_one (n : Int) (l : List (Nat × Nat)) : (wav n l).all (·.oneCell') = true := by
  rw [Array.all_eq_true_iff_forall_mem]; intro v hv; simp only [wav, List.mem_toArray, List.mem_cons, List.mem_map] at hv
  rcases hv with rfl | ⟨b, _, rfl⟩ <;> rfl

theorem Try.infoC : (Try.prog.info? 27).map (fun i => (i.zero, i.size)) = some (some (.agg (arC zerosC)), 64) := by kernel_rfl
theorem Try.infoW : (Try.prog.info? 29).map (fun i => (i.zero, i.size)) = some (some (.agg (wav 0 zerosC)), 65) := by kernel_rfl
theorem Try.sizeC {l : List (Nat × Nat)} (h : l.length = 64) : (Try.prog.info? 27).map (·.size) = some (arC l).size := by rw [(zero_of_info Try.infoC).2, arC_size, h]
theorem Try.sizeC' {l : List (Nat × Nat)} (h : l.length = 64) : (Try.prog.info? 27).map (·.size) = some (l.map cx).length := by rw [(zero_of_info Try.infoC).2, List.length_map, h]
theorem Try.sizeW {n : Int} {l : List (Nat × Nat)} (h : l.length = 64) : (Try.prog.info? 29).map (·.size) = some (wav n l).size := by rw [(zero_of_info Try.infoW).2, wav_size, h]

theorem Blk.arCCell {w : World} {g : Nat} {l : List (Nat × Nat)} {t : TypeId} (h : Blk w g (arC l) t) {i : Nat} (hi : i < l.length) : w.cell? ⟨g, i, none⟩ = some (.complex .f32 (l.getD i (0, 0)).1 (l.getD i (0, 0)).2) := by
  rw [h.cell]; simp [arC, hi, cx]
theorem Blk.wavCell {w : World} {g : Nat} {n : Int} {l : List (Nat × Nat)} {t : TypeId} (h : Blk w g (wav n l) t) {i : Nat} (hi : i < l.length) : w.cell? ⟨g, 1 + i, none⟩ = some (.complex .f32 (l.getD i (0, 0)).1 (l.getD i (0, 0)).2) := by
  rw [h.cell, Nat.add_comm]; simp [wav, hi, cx]
theorem Blk.wavSide {w : World} {g : Nat} {n : Int} {l : List (Nat × Nat)} {t : TypeId} (h : Blk w g (wav n l) t) : w.cell? ⟨g, 0, none⟩ = some (.int .i64 n) := by
  rw [h.cell]; simp [wav]
theorem arC_set (l : List (Nat × Nat)) (i : Nat) (p : Nat × Nat) : (arC l).setIfInBounds i (cx p) = arC (l.set i p) := by
  apply Array.ext'; simp [arC, List.map_set]
theorem wav_set (n : Int) (l : List (Nat × Nat)) (i : Nat) (p : Nat × Nat) : (wav n l).setIfInBounds (1 + i) (cx p) = wav n (l.set i p) := by
  apply Array.ext'; rw [Nat.add_comm]; simp [wav, List.map_set]
theorem wav_side (n m : Int) (l : List (Nat × Nat)) : (wav n l).setIfInBounds 0 (.int .i64 m) = wav m l := by
  apply Array.ext'; simp [wav]
theorem Blk.arCSet {w : World} {g : Nat} {l : List (Nat × Nat)} {t : TypeId} (h : Blk w g (arC l) t) (i a b : Nat) : Blk (w.setCell ⟨g, i, none⟩ (.complex .f32 a b)) g (arC (l.set i (a, b))) t := by rw [← arC_set]; exact h.set i _
theorem Blk.wavSet {w : World} {g : Nat} {n : Int} {l : List (Nat × Nat)} {t : TypeId} (h : Blk w g (wav n l) t) (i a b : Nat) : Blk (w.setCell ⟨g, 1 + i, none⟩ (.complex .f32 a b)) g (wav n (l.set i (a, b))) t := by rw [← wav_set]; exact h.set _ _
theorem Blk.wavMove {w : World} {g : Nat} {n : Int} {l : List (Nat × Nat)} {t : TypeId} (h : Blk w g (wav n l) t) (m : Int) : Blk (w.setCell ⟨g, 0, none⟩ (.int .i64 m)) g (wav m l) t := by rw [← wav_side n m]; exact h.set _ _
theorem Blk.wavMid {w : World} {g : Nat} {n : Int} {l : List (Nat × Nat)} {t : TypeId} (h : Blk w g (wav n l) t) : w.rangeAt g 1 (l.map cx) := by
  intro j v hv
  rw [h.cell, Nat.add_comm]
  simpa [wav] using hv

@[go_sem] theorem wav_get0 (n : Int) (l : List (Nat × Nat)) : (wav n l)[0]? = some (.int .i64 n) := by simp [wav]

/-- the numbers that can be told in double precision -/
def canF64 (l : List (Nat × Nat)) : Prop := ∀ j, ∃ z : Nat × Nat, cConvBits .f32 (l.getD j (0, 0)).1 (l.getD j (0, 0)).2 .f64 = some (z.1, z.2)

set_option maxRecDepth 10000 in
set_option maxHeartbeats 1000000 in
theorem eqC_eq (xs : List (Nat × Nat)) (hx : xs.length = 64) (h : canF64 xs) (w : World) :
    Calls Try.prog 52 #[.agg (arC xs), .agg (arC xs)] w fun e w' => e = .returned (.bool true) ∧ Below w.heap.size w w' := by
  have H := Lib.hid h; clear h
  go_enter Try.func52, Try.ntmps52
  go_wp2
  go_loopw [5] (fun i wr => ∃ k : Nat, k ≤ 64 ∧ i = .int .i64 k ∧ Below w.heap.size w wr ∧ Hid (Blk wr w.heap.size (arC xs) 27 ∧ Blk wr (w.heap.size + 1) (arC xs) 27)) (fun i _ => 64 - (intOf i).toNat)
  case atStart => exact ⟨0, Nat.zero_le _, rfl, ((Below.refl _ _).alloc (Nat.le_refl _) _).alloc (by simp) _, blk2 w _ _⟩
  case round =>
    obtain ⟨k, hk, rfl, hbl, hcur⟩ := hrel
    have HB := Lib.hid hbl; clear hbl
    obtain ⟨ha, hb⟩ := hcur.out
    clear hcur
    by_cases hlt : k < 64
    · have hc := ha.arCCell (by omega : k < xs.length)
      have hd := hb.arCCell (by omega : k < xs.length)
      obtain ⟨z, hz2⟩ := H.out k
      obtain ⟨p, hp⟩ : ∃ p, p = xs.getD k (0, 0) := ⟨_, rfl⟩
      rw [← hp] at hc hd hz2
      have hcv : ∀ w, (convert 22 25 (.complex .f32 p.1 p.2)).run Try.prog w = .ok (.complex .f64 z.1 z.2) w := fun w => run_convert_complex (P := Try.prog) (w := w) 22 25 .f32 .f64 p.1 p.2 z.1 z.2 (by rw [Try.underlying22]; rfl) Try.underlying25 hz2
      have H1 := Lib.hid ha
      have H2 := Lib.hid hb
      clear hp ha hb hz2
      go_wp2
      go_region_with ((go_at_call 14; refine (sameComplex_any _ _ _).mono ?_; rintro e w' ⟨rfl, n, rfl⟩))
      all_goals
        go_wp2
        go_roundw
        case rel => exact ⟨k + 1, by omega, by go_num, below_drewN' HB.out _, H1.out.drewN _, H2.out.drewN _⟩
        case measure => simp [intOf]; omega
    · clear ha hb
      go_wp2
      go_ret
      exact ⟨rfl, HB.out⟩

theorem Below.drewTrans {B : Nat} {a w w' : World} (h : Below B a w) (hb : Below w.drew.heap.size w.drew w') (hs : B ≤ w.heap.size) : Below B a w' :=
  Below.trans (⟨h.os, h.tape, h.output, h.size, h.block⟩ : Below B a w.drew) (hb.mono hs)

theorem index_arC (l : List (Nat × Nat)) (hl : l.length = 64) (k : Nat) (hk : k < 64) (w : World) : (Instr.index 27 (.agg (l.map cx).toArray) (.int .i64 (k : Int))).run Try.prog w = .ok (.complex .f32 (l.getD k (0, 0)).1 (l.getD k (0, 0)).2) w := by
  have hk2 : (k : Int) < 64 := by omega
  simp [Instr.index, run_underlying Try.underlying27, asIntOf, hk2, part, go_sem]
  rw [if_pos hk, List.getElem?_eq_getElem (by omega : k < l.length)]
  rfl

set_option maxRecDepth 10000 in
set_option maxHeartbeats 1000000 in
theorem eqW_eq (n : Int) (xs : List (Nat × Nat)) (hx : xs.length = 64) (h : canF64 xs) (w : World) :
    Calls Try.prog 17 #[.agg (wav n xs), .agg (wav n xs)] w fun e w' => e = .returned (.bool true) ∧ Below w.heap.size w w' := by
  have h2 := blk2 w (.cells (wav n xs) 29) (.cells (wav n xs) 29)
  obtain ⟨W0, hW⟩ : ∃ W0, W0 = ((w.alloc (.cells (wav n xs) 29)).alloc (.cells (wav n xs) 29)) := ⟨_, rfl⟩
  have hb0 : Below w.heap.size w W0 := by rw [hW]; exact (((Below.refl _ _).alloc (Nat.le_refl _) _).alloc (by simp) _)
  rw [← hW] at h2
  have b0 : Blk W0 w.heap.size (wav n xs) 29 := h2.1
  have b1 : Blk W0 (w.heap.size + 1) (wav n xs) 29 := h2.2
  have c0 := b0.wavSide
  have c1 := b1.wavSide
  have R0 := Lib.hid b0.wavMid
  have R1 := Lib.hid b1.wavMid
  have HW := Lib.hid hb0
  clear h2 b0 b1 hb0
  have H := Lib.hid h; clear h
  go_enter Try.func17, Try.ntmps17
  go_upto_region 1 with (fail)
  rw [← hW]
  clear hW
  go_wp2_with (first | (refine wpList_load_mid rfl 27 (.tmp 10) rfl w.heap.size 1 rfl (xs.map cx) _ R0.out Try.underlying27 rfl (Try.sizeC' hx) ?_) | (refine wpList_load_mid rfl 27 (.tmp 12) rfl (w.heap.size + 1) 1 rfl (xs.map cx) _ R1.out Try.underlying27 rfl (Try.sizeC' hx) ?_))
  refine (eqC_eq xs hx H.out _).mono ?_
  rintro e w2 ⟨rfl, hb⟩
  have HB := Lib.hid (HW.out.trans (hb.mono HW.out.size))
  clear hb
  go_wp2
  go_ret
  exact ⟨rfl, HB.out⟩
end Go.Proofs.Ytficghohflmdeaa
