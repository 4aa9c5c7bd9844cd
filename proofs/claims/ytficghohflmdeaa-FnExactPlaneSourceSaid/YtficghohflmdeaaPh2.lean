/- Phases: the four halvings. -/
import Derived.Test.YtficghohflmdeaaPh1
import Derived.Test.YtficghohflmdeaaBlk
import Derived.Laws.Rows
import Derived.Deep.MidRow
import Derived.Deep.WholeRow
namespace Go.Proofs.Ytficghohflmdeaa
open Go.RowKit
set_option linter.unusedVariables false

theorem fb00 : floatBits .add .f32 1065353216 0 = some 1065353216 := by decide +kernel
@[go_sem] theorem fr00 (w : World) : fres .add .f32 1065353216 0 w = 1065353216 := fres_some fb00 w
@[go_sem] theorem fn00 : nd .add .f32 1065353216 0 = 0 := nd_some fb00
theorem fb01 : floatBits .quo .f32 1065353216 1073741824 = some 1056964608 := by decide +kernel
@[go_sem] theorem fr01 (w : World) : fres .quo .f32 1065353216 1073741824 w = 1056964608 := fres_some fb01 w
@[go_sem] theorem fn01 : nd .quo .f32 1065353216 1073741824 = 0 := nd_some fb01
theorem fb02 : floatBits .mul .f32 1073741824 1060439283 = some 1068827891 := by decide +kernel
@[go_sem] theorem fr02 (w : World) : fres .mul .f32 1073741824 1060439283 w = 1068827891 := fres_some fb02 w
@[go_sem] theorem fn02 : nd .mul .f32 1073741824 1060439283 = 0 := nd_some fb02
theorem fb03 : floatBits .quo .f32 1065353216 1068827891 = some 1060439283 := by decide +kernel
@[go_sem] theorem fr03 (w : World) : fres .quo .f32 1065353216 1068827891 w = 1060439283 := fres_some fb03 w
@[go_sem] theorem fn03 : nd .quo .f32 1065353216 1068827891 = 0 := nd_some fb03
theorem rt0 : rootV 1056964608 = some 1060439283 := by decide +kernel
theorem fb10 : floatBits .add .f32 1065353216 1060439283 = some 1071284858 := by decide +kernel
@[go_sem] theorem fr10 (w : World) : fres .add .f32 1065353216 1060439283 w = 1071284858 := fres_some fb10 w
@[go_sem] theorem fn10 : nd .add .f32 1065353216 1060439283 = 0 := nd_some fb10
theorem fb11 : floatBits .quo .f32 1071284858 1073741824 = some 1062896250 := by decide +kernel
@[go_sem] theorem fr11 (w : World) : fres .quo .f32 1071284858 1073741824 w = 1062896250 := fres_some fb11 w
@[go_sem] theorem fn11 : nd .quo .f32 1071284858 1073741824 = 0 := nd_some fb11
theorem fb12 : floatBits .mul .f32 1073741824 1064076127 = some 1072464735 := by decide +kernel
@[go_sem] theorem fr12 (w : World) : fres .mul .f32 1073741824 1064076127 w = 1072464735 := fres_some fb12 w
@[go_sem] theorem fn12 : nd .mul .f32 1073741824 1064076127 = 0 := nd_some fb12
theorem fb13 : floatBits .quo .f32 1060439283 1072464735 = some 1053028117 := by decide +kernel
@[go_sem] theorem fr13 (w : World) : fres .quo .f32 1060439283 1072464735 w = 1053028117 := fres_some fb13 w
@[go_sem] theorem fn13 : nd .quo .f32 1060439283 1072464735 = 0 := nd_some fb13
theorem rt1 : rootV 1062896250 = some 1064076127 := by decide +kernel
theorem fb20 : floatBits .add .f32 1065353216 1064076127 = some 1073103280 := by decide +kernel
@[go_sem] theorem fr20 (w : World) : fres .add .f32 1065353216 1064076127 w = 1073103280 := fres_some fb20 w
@[go_sem] theorem fn20 : nd .add .f32 1065353216 1064076127 = 0 := nd_some fb20
theorem fb21 : floatBits .quo .f32 1073103280 1073741824 = some 1064714672 := by decide +kernel
@[go_sem] theorem fr21 (w : World) : fres .quo .f32 1073103280 1073741824 w = 1064714672 := fres_some fb21 w
@[go_sem] theorem fn21 : nd .quo .f32 1073103280 1073741824 = 0 := nd_some fb21
theorem fb22 : floatBits .mul .f32 1073741824 1065030847 = some 1073419455 := by decide +kernel
@[go_sem] theorem fr22 (w : World) : fres .mul .f32 1073741824 1065030847 w = 1073419455 := fres_some fb22 w
@[go_sem] theorem fn22 : nd .mul .f32 1073741824 1065030847 = 0 := nd_some fb22
theorem fb23 : floatBits .quo .f32 1053028117 1073419455 = some 1044891073 := by decide +kernel
@[go_sem] theorem fr23 (w : World) : fres .quo .f32 1053028117 1073419455 w = 1044891073 := fres_some fb23 w
@[go_sem] theorem fn23 : nd .quo .f32 1053028117 1073419455 = 0 := nd_some fb23
theorem rt2 : rootV 1064714672 = some 1065030847 := by decide +kernel
theorem fb30 : floatBits .add .f32 1065353216 1065030847 = some 1073580640 := by decide +kernel
@[go_sem] theorem fr30 (w : World) : fres .add .f32 1065353216 1065030847 w = 1073580640 := fres_some fb30 w
@[go_sem] theorem fn30 : nd .add .f32 1065353216 1065030847 = 0 := nd_some fb30
theorem fb31 : floatBits .quo .f32 1073580640 1073741824 = some 1065192032 := by decide +kernel
@[go_sem] theorem fr31 (w : World) : fres .quo .f32 1073580640 1073741824 w = 1065192032 := fres_some fb31 w
@[go_sem] theorem fn31 : nd .quo .f32 1073580640 1073741824 = 0 := nd_some fb31
theorem fb32 : floatBits .mul .f32 1073741824 1065272429 = some 1073661037 := by decide +kernel
@[go_sem] theorem fr32 (w : World) : fres .mul .f32 1073741824 1065272429 w = 1073661037 := fres_some fb32 w
@[go_sem] theorem fn32 : nd .mul .f32 1073741824 1065272429 = 0 := nd_some fb32
theorem fb33 : floatBits .quo .f32 1044891073 1073661037 = some 1036565813 := by decide +kernel
@[go_sem] theorem fr33 (w : World) : fres .quo .f32 1044891073 1073661037 w = 1036565813 := fres_some fb33 w
@[go_sem] theorem fn33 : nd .quo .f32 1044891073 1073661037 = 0 := nd_some fb33
theorem rt3 : rootV 1065192032 = some 1065272429 := by decide +kernel

/-- the numbers ahead of round k -/
def cAt (k : Nat) : Nat := [0, 1060439283, 1064076127, 1065030847, 1065272429].getD k 0
def sAt (k : Nat) : Nat := [1065353216, 1060439283, 1053028117, 1044891073, 1036565813].getD k 0
def cellAt (k i : Nat) : Value := if i < k then .complex .f32 (cAt (i + 1)) (sAt (i + 1)) else .complex .f32 0 0
def cellsAt (k : Nat) : Array Value := #[cellAt k 0, cellAt k 1, cellAt k 2, cellAt k 3]
theorem Try.infoH : (Try.prog.info? 95).map (fun i => (i.zero, i.size)) = some (some (.agg (cellsAt 0)), 4) := by kernel_rfl

set_option maxRecDepth 10000 in
set_option maxHeartbeats 1000000 in
theorem halved_any (w : World) :
    Calls Try.prog 85 #[] w fun e w' => e = .returned (.agg (cellsAt 4)) ∧ Below w.heap.size w w' := by
  have h2 := blk2 w (.cells (cellsAt 0) 95) (.cells (cellsAt 0) 95)
  go_enter Try.func85, Try.ntmps85
  go_wp2
  go_loopw [2, 3, 4, 6] (fun c s _ i wr => ∃ k : Nat, k ≤ 4 ∧ i = .int .i64 k ∧ c = .float .f32 (cAt k) ∧ s = .float .f32 (sAt k) ∧ Below w.heap.size w wr ∧ Hid (Blk wr w.heap.size (cellsAt 0) 95 ∧ Blk wr (w.heap.size + 1) (cellsAt k) 95)) (fun _ _ _ i _ => 4 - (intOf i).toNat)
  case atStart => exact ⟨0, Nat.zero_le _, rfl, rfl, rfl, ((Below.refl _ _).alloc (Nat.le_refl _) _).alloc (by simp) _, h2⟩
  case round =>
    clear h2
    obtain ⟨k, hk, rfl, rfl, rfl, hbl, hcur⟩ := hrel
    have HB := Lib.hid hbl; clear hbl
    obtain ⟨hz, hc⟩ := hcur.out
    clear hcur
    have hk5 : k = 0 ∨ k = 1 ∨ k = 2 ∨ k = 3 ∨ k = 4 := by omega
    have HZ := Lib.hid hz
    have HC := Lib.hid hc
    clear hz hc
    rcases hk5 with rfl | rfl | rfl | rfl | e4
    · have c0 : wr.cell? ⟨w.heap.size + 1, 0, none⟩ = some (.complex .f32 0 0) := by rw [HC.out.cell]; rfl
      have f0 := HC.out.frozen 0
      simp only [show cAt 0 = 0 from rfl, show sAt 0 = 1065353216 from rfl]
      go_wp2_with (go_at_call 113; refine (root_any _ _ rt0 _).mono ?_; rintro e w' ⟨rfl, rfl⟩)
      go_roundw
      case rel => exact ⟨1, by omega, rfl, rfl, rfl, HB.out.setCell (by exact (by omega : w.heap.size ≤ w.heap.size + 1)) _, HZ.out.other (by omega) _ _, HC.out.set 0 _⟩
      case measure => simp [intOf]
    · have c0 : wr.cell? ⟨w.heap.size + 1, 1, none⟩ = some (.complex .f32 0 0) := by rw [HC.out.cell]; rfl
      have f0 := HC.out.frozen 1
      simp only [show cAt 1 = 1060439283 from rfl, show sAt 1 = 1060439283 from rfl]
      go_wp2_with (go_at_call 113; refine (root_any _ _ rt1 _).mono ?_; rintro e w' ⟨rfl, rfl⟩)
      go_roundw
      case rel => exact ⟨2, by omega, rfl, rfl, rfl, HB.out.setCell (by exact (by omega : w.heap.size ≤ w.heap.size + 1)) _, HZ.out.other (by omega) _ _, HC.out.set 1 _⟩
      case measure => simp [intOf]
    · have c0 : wr.cell? ⟨w.heap.size + 1, 2, none⟩ = some (.complex .f32 0 0) := by rw [HC.out.cell]; rfl
      have f0 := HC.out.frozen 2
      simp only [show cAt 2 = 1064076127 from rfl, show sAt 2 = 1053028117 from rfl]
      go_wp2_with (go_at_call 113; refine (root_any _ _ rt2 _).mono ?_; rintro e w' ⟨rfl, rfl⟩)
      go_roundw
      case rel => exact ⟨3, by omega, rfl, rfl, rfl, HB.out.setCell (by exact (by omega : w.heap.size ≤ w.heap.size + 1)) _, HZ.out.other (by omega) _ _, HC.out.set 2 _⟩
      case measure => simp [intOf]
    · have c0 : wr.cell? ⟨w.heap.size + 1, 3, none⟩ = some (.complex .f32 0 0) := by rw [HC.out.cell]; rfl
      have f0 := HC.out.frozen 3
      simp only [show cAt 3 = 1065030847 from rfl, show sAt 3 = 1044891073 from rfl]
      go_wp2_with (go_at_call 113; refine (root_any _ _ rt3 _).mono ?_; rintro e w' ⟨rfl, rfl⟩)
      go_roundw
      case rel => exact ⟨4, by omega, rfl, rfl, rfl, HB.out.setCell (by exact (by omega : w.heap.size ≤ w.heap.size + 1)) _, HZ.out.other (by omega) _ _, HC.out.set 3 _⟩
      case measure => simp [intOf]
    · have hlt : ¬ k < 4 := by omega
      have HC4 : Hid (Blk wr (w.heap.size + 1) (cellsAt 4) 95) := by rw [← e4]; exact HC.out
      clear HC e4
      have hsz : (Try.prog.info? 95).map (·.size) = some (cellsAt 4).size := (zero_of_info Try.infoH).2
      have hone : (cellsAt 4).all (·.oneCell') = true := by simp [cellsAt, cellAt, Value.oneCell']
      have hsz2 : (cellsAt 0).size = (cellsAt 4).size := rfl
      go_wp2_with (first | (refine wpList_load_row rfl 95 (.tmp 1) rfl (w.heap.size + 1) rfl 95 (cellsAt 4) (0, 0) _ HC4.out Try.underlying95 rfl hsz ?_) | (refine wpList_store_row rfl 95 (.tmp 0) (.tmp 23) rfl w.heap.size (cellsAt 4) rfl rfl 95 (cellsAt 0) HZ.out hsz hsz2 hone ?_))
      refine bodyPost_ret (v := .agg (cellsAt 4)) (results_cell_row Try.results85 _ _ w.heap.size 95 (cellsAt 4) (0, 0) _ rfl (HZ.out.row _) Try.underlying95 rfl hsz) rfl ?_
      exact ⟨rfl, Below.setRow HB.out (Nat.le_refl _) _⟩
end Go.Proofs.Ytficghohflmdeaa
