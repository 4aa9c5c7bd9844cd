/- Pictures: rows of 64 floats, with a side. -/
import Derived.Test.YtphbjfijipcpnaaB7
import Derived.Deep.MidRow
import Derived.Deep.WholeRow
namespace Go.Proofs.Ytphbjfijipcpnaa
open Go.RowKit
set_option linter.unusedVariables false

/-- 64 floats, and a picture, as they lie in memory -/
def arr (l : List Nat) : Array Value := (l.map flt).toArray
def pic (n : Int) (l : List Nat) : Array Value := (.int .i64 n :: l.map flt).toArray
def zeros : List Nat := List.replicate 64 0

theorem arr_size (l : List Nat) : (arr l).size = l.length := by simp [arr]
theorem pic_size (n : Int) (l : List Nat) : (pic n l).size = l.length + 1 := by simp [pic]
theorem arr_one (l : List Nat) : (arr l).all (·.oneCell') = true := by
  rw [Array.all_eq_true_iff_forall_mem]; intro v hv; simp [arr] at hv; obtain ⟨b, _, rfl⟩ := hv; rfl
theorem pic_one (n : Int) (l : List Nat) : (pic n l).all (·.oneCell') = true := by
  rw [Array.all_eq_true_iff_forall_mem]; intro v hv; simp [pic] at hv
  rcases hv with rfl | ⟨b, _, rfl⟩ <;> rfl

theorem Try.infoA : (Try.prog.info? 29).map (fun i => (i.zero, i.size)) = some (some (.agg (arr zeros)), 64) := by kernel_rfl
theorem Try.infoP : (Try.prog.info? 32).map (fun i => (i.zero, i.size)) = some (some (.agg (pic 0 zeros)), 65) := by kernel_rfl
theorem Try.sizeA {l : List Nat} (h : l.length = 64) : (Try.prog.info? 29).map (·.size) = some (arr l).size := by rw [(zero_of_info Try.infoA).2, arr_size, h]
theorem Try.sizeP {n : Int} {l : List Nat} (h : l.length = 64) : (Try.prog.info? 32).map (·.size) = some (pic n l).size := by rw [(zero_of_info Try.infoP).2, pic_size, h]

/-- block g is the row c -/
def Blk (w : World) (g : Nat) (c : Array Value) (t : TypeId) : Prop := w.heap[g]? = some (.cells c t (0, 0))
section
variable {w w' : World} {g : Nat} {c : Array Value} {t : TypeId}
theorem Blk.set (h : Blk w g c t) (i : Nat) (v : Value) : Blk (w.setCell ⟨g, i, none⟩ v) g (c.setIfInBounds i v) t := heap_setCell_same w g i c t v h
theorem Blk.other (h : Blk w g c t) {k : Nat} (hk : g ≠ k) (i : Nat) (v : Value) : Blk (w.setCell ⟨k, i, none⟩ v) g c t := by
  unfold Blk; rw [heap_setCell_other w _ g v (by exact hk)]; exact h
theorem Blk.row (h : Blk w g c t) (c' : Array Value) : Blk (w.setRow g c') g c' t := setRow_heap w g c c' t (0, 0) h
theorem Blk.rowOther (h : Blk w g c t) {k : Nat} (hk : g ≠ k) (c' : Array Value) : Blk (w.setRow k c') g c t := by
  unfold Blk; rw [setRow_other w k g c' hk]; exact h
theorem Blk.new (w : World) (c : Array Value) (t : TypeId) : Blk (w.alloc (.cells c t)) w.heap.size c t := heap_alloc_new w _
theorem Blk.lt (h : Blk w g c t) : g < w.heap.size := (Array.getElem?_eq_some_iff.1 h).1
theorem Blk.alloc (h : Blk w g c t) (o : Obj) : Blk (w.alloc o) g c t := by unfold Blk; rw [heap_alloc_old w o h.lt]; exact h
theorem Blk.below (h : Blk w g c t) (hb : Below w.heap.size w w') : Blk w' g c t := by unfold Blk; rw [hb.block g h.lt]; exact h
theorem Blk.drewN (h : Blk w g c t) (n : Nat) : Blk (w.drewN n) g c t := h
theorem Blk.frozen (h : Blk w g c t) (i : Nat) : w.frozen? ⟨g, i, none⟩ = false := frozen_of_row w g i c t h
theorem Blk.cell (h : Blk w g c t) (i : Nat) : w.cell? ⟨g, i, none⟩ = c[i]? := cell_of_row w g i c t (0, 0) h
end
theorem Blk.arrCell {w : World} {g : Nat} {l : List Nat} {t : TypeId} (h : Blk w g (arr l) t) {i : Nat} (hi : i < l.length) : w.cell? ⟨g, i, none⟩ = some (.float .f32 (l.getD i 0)) := by
  rw [h.cell]; simp [arr, hi, flt]
theorem Blk.picCell {w : World} {g : Nat} {n : Int} {l : List Nat} {t : TypeId} (h : Blk w g (pic n l) t) {i : Nat} (hi : i < l.length) : w.cell? ⟨g, 1 + i, none⟩ = some (.float .f32 (l.getD i 0)) := by
  rw [h.cell, Nat.add_comm]; simp [pic, hi, flt]
theorem Blk.picSide {w : World} {g : Nat} {n : Int} {l : List Nat} {t : TypeId} (h : Blk w g (pic n l) t) : w.cell? ⟨g, 0, none⟩ = some (.int .i64 n) := by
  rw [h.cell]; simp [pic]
theorem arr_set (l : List Nat) (i b : Nat) : (arr l).setIfInBounds i (.float .f32 b) = arr (l.set i b) := by
  apply Array.ext'; simp [arr, List.map_set, flt]
theorem pic_set (n : Int) (l : List Nat) (i b : Nat) : (pic n l).setIfInBounds (1 + i) (.float .f32 b) = pic n (l.set i b) := by
  apply Array.ext'; rw [Nat.add_comm]; simp [pic, List.map_set, flt]
theorem pic_side (n m : Int) (l : List Nat) : (pic n l).setIfInBounds 0 (.int .i64 m) = pic m l := by
  apply Array.ext'; simp [pic]
theorem Blk.arrSet {w : World} {g : Nat} {l : List Nat} {t : TypeId} (h : Blk w g (arr l) t) (i b : Nat) : Blk (w.setCell ⟨g, i, none⟩ (.float .f32 b)) g (arr (l.set i b)) t := by rw [← arr_set]; exact h.set i _
theorem Blk.picSet {w : World} {g : Nat} {n : Int} {l : List Nat} {t : TypeId} (h : Blk w g (pic n l) t) (i b : Nat) : Blk (w.setCell ⟨g, 1 + i, none⟩ (.float .f32 b)) g (pic n (l.set i b)) t := by rw [← pic_set]; exact h.set _ _
theorem Blk.picMove {w : World} {g : Nat} {n : Int} {l : List Nat} {t : TypeId} (h : Blk w g (pic n l) t) (m : Int) : Blk (w.setCell ⟨g, 0, none⟩ (.int .i64 m)) g (pic m l) t := by rw [← pic_side n m]; exact h.set _ _
theorem Below.setRow {B : Nat} {a w : World} (h : Below B a w) {g : Nat} (hg : B ≤ g) (c : Array Value) : Below B a (w.setRow g c) :=
  ⟨h.os, h.tape, h.output, by simp; exact h.size, fun k hk => (setRow_other w g k c (by omega)).trans (h.block k hk)⟩

theorem blk3 (w : World) (a b c : Obj) : (((w.alloc a).alloc b).alloc c).heap[w.heap.size]? = some a ∧ (((w.alloc a).alloc b).alloc c).heap[w.heap.size + 1]? = some b ∧ (((w.alloc a).alloc b).alloc c).heap[w.heap.size + 1 + 1]? = some c := by
  have e1 : (w.alloc a).heap.size = w.heap.size + 1 := by simp
  have e2 : ((w.alloc a).alloc b).heap.size = w.heap.size + 1 + 1 := by simp
  refine ⟨?_, ?_, ?_⟩
  · rw [heap_alloc_old _ _ (by omega), heap_alloc_old _ _ (by omega)]; exact heap_alloc_new w a
  · rw [heap_alloc_old _ _ (by omega), ← e1]; exact heap_alloc_new _ b
  · rw [← e2]; exact heap_alloc_new _ c

set_option maxRecDepth 10000 in
set_option maxHeartbeats 1000000 in
theorem toA_any (l : List Nat) (hl : l.length = 64) (w : World) :
    Calls Try.prog 44 #[.agg (arr l)] w fun e w' => e = .returned (.agg (arr l)) ∧ Below w.heap.size w w' := by
  go_enter Try.func44, Try.ntmps44
  go_wp2
  go_loopw [4] (fun i wr => ∃ k : Nat, k ≤ 64 ∧ i = .int .i64 k ∧ Below w.heap.size w wr ∧ Hid (Blk wr w.heap.size (arr l) 29 ∧ Blk wr (w.heap.size + 1) (arr zeros) 29 ∧ ∃ cur : List Nat, cur.length = 64 ∧ Blk wr (w.heap.size + 1 + 1) (arr cur) 29 ∧ ∀ j, j < k → cur.getD j 0 = l.getD j 0)) (fun i _ => 64 - (intOf i).toNat)
  case atStart =>
    refine ⟨0, Nat.zero_le _, rfl, ?_, ?_⟩
    · exact (((Below.refl _ _).alloc (Nat.le_refl _) _).alloc (by simp) _).alloc (by simp; omega) _
    · have h := blk3 w (.cells (arr l) 29) (.cells (arr zeros) 29) (.cells (arr zeros) 29)
      exact ⟨h.1, h.2.1, zeros, by simp [zeros], h.2.2, fun j h => by omega⟩
  case round =>
    obtain ⟨k, hk, rfl, hbl, hcur⟩ := hrel
    have HB := Lib.hid hbl; clear hbl
    obtain ⟨ha, hz, cur, hcl, hc, hcm⟩ := hcur.out
    clear hcur
    by_cases hlt : k < 64
    · have c0 := ha.arrCell (by omega : k < l.length)
      obtain ⟨x, hx⟩ : ∃ x, x = l.getD k 0 := ⟨_, rfl⟩
      rw [← hx] at c0
      have c1 := hc.arrCell (by omega : k < cur.length)
      obtain ⟨y, hy⟩ : ∃ y, y = cur.getD k 0 := ⟨_, rfl⟩
      rw [← hy] at c1
      have f1 := hc.frozen k
      have HA := Lib.hid ha
      have HZ := Lib.hid hz
      have HC := Lib.hid hc
      have HL := Lib.hid hcl
      have HM := Lib.hid hcm
      have HX := Lib.hid hx
      clear ha hz hc hcl hcm hx hy
      go_wp2
      go_roundw
      case rel =>
        refine ⟨k + 1, by omega, by go_num, HB.out.setCell (by exact (by omega : w.heap.size ≤ w.heap.size + 1 + 1)) _, HA.out.other (by omega) _ _, HZ.out.other (by omega) _ _, cur.set k x, by rw [List.length_set]; exact HL.out, HC.out.arrSet k x, ?_⟩
        intro j hj
        by_cases e : j = k
        · subst e; simp [HL.out, hlt, HX.out]
        · have := HM.out j (by omega)
          simpa [List.getElem?_set, Ne.symm e] using this
      case measure => simp [intOf]; omega
    · have ek : k = 64 := by omega
      have ec : cur = l := by
        refine List.ext_getElem (by omega) fun i h1 h2 => ?_
        have := hcm i (by omega)
        simpa [h1, h2] using this
      rw [ec] at hc
      have HZ := Lib.hid hz
      have HC := Lib.hid hc
      clear ha hz hc hcl hcm ec ek
      go_wp2_with (first | (refine wpList_load_row rfl 29 (.tmp 3) rfl (w.heap.size + 1 + 1) rfl 29 (arr l) (0, 0) _ HC.out Try.underlying29 rfl (Try.sizeA hl) ?_) | (refine wpList_store_row rfl 29 (.tmp 2) (.tmp 14) rfl (w.heap.size + 1) (arr l) rfl rfl 29 (arr zeros) HZ.out (Try.sizeA hl) (by rw [arr_size, arr_size, hl]; rfl) (arr_one l) ?_))
      refine bodyPost_ret (v := .agg (arr l)) (results_cell_row Try.results44 _ _ (w.heap.size + 1) 29 (arr l) (0, 0) _ rfl (HZ.out.row (arr l)) Try.underlying29 rfl (Try.sizeA hl)) rfl ?_
      exact ⟨rfl, Below.setRow HB.out (by omega) _⟩
end Go.Proofs.Ytphbjfijipcpnaa
