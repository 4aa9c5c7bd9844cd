/- Pictures in seat B: rows of 64 floats, with a side. -/
import Derived.Test.YtficghohflmdeaaWTop
namespace Go.Proofs.Ytficghohflmdeaa
open Go.RowKit
set_option linter.unusedVariables false

def flt (b : Nat) : Value := .float .f32 b
def isNum (b : Nat) : Bool := fin (ab .f32 b)

theorem isNumber_any (b : Nat) (w : World) :
    Calls Try.prog 132 #[.float .f32 b] w fun e w' => e = .returned (.bool (isNum b)) ∧ Quiet w w' := by
  obtain ⟨r, n, hrun, hr, _⟩ := run_arith (P := Try.prog) w .sub (.inr (.inl rfl)) 43 .f32 b b
  go_enter Try.func132, Try.ntmps132
  go_wp2
  go_ret
  refine ⟨?_, n, rfl⟩
  unfold isNum fin
  rw [← hr, cmp_ab]
  rfl

theorem l01Fine_any (b : Nat) (w : World) :
    Calls Try.prog 130 #[.float .f32 b] w fun e w' => e = .returned (.bool (isNum b)) ∧ Quiet w w' := by
  obtain ⟨r, n, hrun, hr, _⟩ := run_arith (P := Try.prog) w .sub (.inr (.inl rfl)) 43 .f32 b b
  go_enter Try.func130, Try.ntmps130
  go_wp2
  go_ret
  refine ⟨?_, n, rfl⟩
  unfold isNum fin
  rw [← hr, cmp_ab]
  rfl

theorem ab_eq_of_map {xs ys : List Nat} (h : xs.map (ab .f32) = ys.map (ab .f32)) (k : Nat) : ab .f32 (xs.getD k 0) = ab .f32 (ys.getD k 0) := by
  have hl : xs.length = ys.length := by simpa using congrArg List.length h
  by_cases hk : k < xs.length
  · have := congrArg (fun l => l[k]?) h
    simp only [List.getElem?_map] at this
    rw [List.getElem?_eq_getElem hk, List.getElem?_eq_getElem (by omega)] at this
    simpa [hk, show k < ys.length by omega] using this
  · rw [List.getD_eq_getElem?_getD, List.getD_eq_getElem?_getD, List.getElem?_eq_none (by omega), List.getElem?_eq_none (by omega)]

theorem ab_zero : ab .f32 0 = some 0 := by decide
def pnV (x : FV) : FV := if cmpF .f32 x (some 0) == some .eq then some 0 else x
theorem ab_pn (b : Nat) : ab .f32 (pn b) = pnV (ab .f32 b) := by
  unfold pn pnV
  rw [cmp_ab, ab_zero]
  split <;> first | rfl | exact ab_zero
theorem map_ab_pn (bs : List Nat) : (bs.map pn).map (ab .f32) = (bs.map (ab .f32)).map pnV := by
  rw [List.map_map, List.map_map]
  exact List.map_congr_left fun b _ => ab_pn b



/-- 64 floats, and a picture, as they lie in memory -/
def arr (l : List Nat) : Array Value := (l.map flt).toArray
def pic (n : Int) (l : List Nat) : Array Value := (.int .i64 n :: l.map flt).toArray
def zeros : List Nat := List.replicate 64 0

theorem arr_size (l : List Nat) : (arr l).size = l.length := by simp [arr]
theorem pic_size (n : Int) (l : List Nat) : (pic n l).size = l.length + 1 := by simp [pic]
theorem arr_one (l : List Nat) : (arr l).all (·.oneCell') = true := by
  rw [Array.all_eq_true_iff_forall_mem]; intro v hv; simp [arr] at hv; obtain ⟨b, _, rfl⟩ := hv; rfl
theorem pic_one (n : Int) (l : List Nat) : (pic n l).all (·.oneCell') = true := by
  rw [Array.all_eq_true_iff_forall_mem]; intro v hv; simp [pic] at hv
  rcases hv with rfl | ⟨b, _, rfl⟩ <;> rfl

theorem Try.infoA : (Try.prog.info? 44).map (fun i => (i.zero, i.size)) = some (some (.agg (arr zeros)), 64) := by kernel_rfl
theorem Try.infoP : (Try.prog.info? 47).map (fun i => (i.zero, i.size)) = some (some (.agg (pic 0 zeros)), 65) := by kernel_rfl
theorem Try.sizeA {l : List Nat} (h : l.length = 64) : (Try.prog.info? 44).map (·.size) = some (arr l).size := by rw [(zero_of_info Try.infoA).2, arr_size, h]
theorem Try.sizeP {n : Int} {l : List Nat} (h : l.length = 64) : (Try.prog.info? 47).map (·.size) = some (pic n l).size := by rw [(zero_of_info Try.infoP).2, pic_size, h]

theorem Blk.arrCell {w : World} {g : Nat} {l : List Nat} {t : TypeId} (h : Blk w g (arr l) t) {i : Nat} (hi : i < l.length) : w.cell? ⟨g, i, none⟩ = some (.float .f32 (l.getD i 0)) := by
  rw [h.cell]; simp [arr, hi, flt]
theorem Blk.picCell {w : World} {g : Nat} {n : Int} {l : List Nat} {t : TypeId} (h : Blk w g (pic n l) t) {i : Nat} (hi : i < l.length) : w.cell? ⟨g, 1 + i, none⟩ = some (.float .f32 (l.getD i 0)) := by
  rw [h.cell, Nat.add_comm]; simp [pic, hi, flt]
theorem Blk.picSide {w : World} {g : Nat} {n : Int} {l : List Nat} {t : TypeId} (h : Blk w g (pic n l) t) : w.cell? ⟨g, 0, none⟩ = some (.int .i64 n) := by
  rw [h.cell]; simp [pic]
theorem arr_set (l : List Nat) (i b : Nat) : (arr l).setIfInBounds i (.float .f32 b) = arr (l.set i b) := by
  apply Array.ext'; simp [arr, List.map_set, flt]
theorem pic_set (n : Int) (l : List Nat) (i b : Nat) : (pic n l).setIfInBounds (1 + i) (.float .f32 b) = pic n (l.set i b) := by
  apply Array.ext'; rw [Nat.add_comm]; simp [pic, List.map_set, flt]
theorem pic_side (n m : Int) (l : List Nat) : (pic n l).setIfInBounds 0 (.int .i64 m) = pic m l := by
  apply Array.ext'; simp [pic]
theorem Blk.arrSet {w : World} {g : Nat} {l : List Nat} {t : TypeId} (h : Blk w g (arr l) t) (i b : Nat) : Blk (w.setCell ⟨g, i, none⟩ (.float .f32 b)) g (arr (l.set i b)) t := by rw [← arr_set]; exact h.set i _
theorem Blk.picSet {w : World} {g : Nat} {n : Int} {l : List Nat} {t : TypeId} (h : Blk w g (pic n l) t) (i b : Nat) : Blk (w.setCell ⟨g, 1 + i, none⟩ (.float .f32 b)) g (pic n (l.set i b)) t := by rw [← pic_set]; exact h.set _ _
theorem Blk.picMove {w : World} {g : Nat} {n : Int} {l : List Nat} {t : TypeId} (h : Blk w g (pic n l) t) (m : Int) : Blk (w.setCell ⟨g, 0, none⟩ (.int .i64 m)) g (pic m l) t := by rw [← pic_side n m]; exact h.set _ _
set_option maxRecDepth 10000 in
set_option maxHeartbeats 1000000 in
theorem toA_any (l : List Nat) (hl : l.length = 64) (w : World) :
    Calls Try.prog 63 #[.agg (arr l)] w fun e w' => e = .returned (.agg (arr l)) ∧ Below w.heap.size w w' := by
  go_enter Try.func63, Try.ntmps63
  go_wp2
  go_loopw [4] (fun i wr => ∃ k : Nat, k ≤ 64 ∧ i = .int .i64 k ∧ Below w.heap.size w wr ∧ Hid (Blk wr w.heap.size (arr l) 44 ∧ Blk wr (w.heap.size + 1) (arr zeros) 44 ∧ ∃ cur : List Nat, cur.length = 64 ∧ Blk wr (w.heap.size + 1 + 1) (arr cur) 44 ∧ ∀ j, j < k → cur.getD j 0 = l.getD j 0)) (fun i _ => 64 - (intOf i).toNat)
  case atStart =>
    refine ⟨0, Nat.zero_le _, rfl, ?_, ?_⟩
    · exact (((Below.refl _ _).alloc (Nat.le_refl _) _).alloc (by simp) _).alloc (by simp; omega) _
    · have h := blk3 w (.cells (arr l) 44) (.cells (arr zeros) 44) (.cells (arr zeros) 44)
      exact ⟨h.1, h.2.1, zeros, by simp [zeros], h.2.2, fun j h => by omega⟩
  case round =>
    obtain ⟨k, hk, rfl, hbl, hcur⟩ := hrel
    have HB := Lib.hid hbl; clear hbl
    obtain ⟨ha, hz, cur, hcl, hc, hcm⟩ := hcur.out
    clear hcur
    by_cases hlt : k < 64
    · have c0 := ha.arrCell (by omega : k < l.length)
      obtain ⟨x, hx⟩ : ∃ x, x = l.getD k 0 := ⟨_, rfl⟩
      rw [← hx] at c0
      have c1 := hc.arrCell (by omega : k < cur.length)
      obtain ⟨y, hy⟩ : ∃ y, y = cur.getD k 0 := ⟨_, rfl⟩
      rw [← hy] at c1
      have f1 := hc.frozen k
      have HA := Lib.hid ha
      have HZ := Lib.hid hz
      have HC := Lib.hid hc
      have HL := Lib.hid hcl
      have HM := Lib.hid hcm
      have HX := Lib.hid hx
      clear ha hz hc hcl hcm hx hy
      go_wp2
      go_roundw
      case rel =>
        refine ⟨k + 1, by omega, by go_num, HB.out.setCell (by exact (by omega : w.heap.size ≤ w.heap.size + 1 + 1)) _, HA.out.other (by omega) _ _, HZ.out.other (by omega) _ _, cur.set k x, by rw [List.length_set]; exact HL.out, HC.out.arrSet k x, ?_⟩
        intro j hj
        by_cases e : j = k
        · subst e; simp [HL.out, hlt, HX.out]
        · have := HM.out j (by omega)
          simpa [List.getElem?_set, Ne.symm e] using this
      case measure => simp [intOf]; omega
    · have ek : k = 64 := by omega
      have ec : cur = l := by
        refine List.ext_getElem (by omega) fun i h1 h2 => ?_
        have := hcm i (by omega)
        simpa [h1, h2] using this
      rw [ec] at hc
      have HZ := Lib.hid hz
      have HC := Lib.hid hc
      clear ha hz hc hcl hcm ec ek
      go_wp2_with (first | (refine wpList_load_row rfl 44 (.tmp 3) rfl (w.heap.size + 1 + 1) rfl 44 (arr l) (0, 0) _ HC.out Try.underlying44 rfl (Try.sizeA hl) ?_) | (refine wpList_store_row rfl 44 (.tmp 2) (.tmp 14) rfl (w.heap.size + 1) (arr l) rfl rfl 44 (arr zeros) HZ.out (Try.sizeA hl) (by rw [arr_size, arr_size, hl]; rfl) (arr_one l) ?_))
      refine bodyPost_ret (v := .agg (arr l)) (results_cell_row Try.results63 _ _ (w.heap.size + 1) 44 (arr l) (0, 0) _ rfl (HZ.out.row (arr l)) Try.underlying44 rfl (Try.sizeA hl)) rfl ?_
      exact ⟨rfl, Below.setRow HB.out (by omega) _⟩
end Go.Proofs.Ytficghohflmdeaa
