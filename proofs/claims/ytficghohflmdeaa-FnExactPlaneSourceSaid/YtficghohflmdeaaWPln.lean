/- PlaneWave: the walks. -/
import Derived.Test.YtficghohflmdeaaWTop
namespace Go.Proofs.Ytficghohflmdeaa
open Go.RowKit
set_option linter.unusedVariables false
set_option maxRecDepth 10000 in
set_option maxHeartbeats 2000000 in
theorem waveBy_pln (caps : Array Value) (n : Nat) (hn : 1 ≤ n) (hn2 : n ≤ 8) (G : Nat → Nat × Nat) (w : World)
    (hf : ∀ (i : Nat) (wr : World), i < n * n → Below w.heap.size w wr → Calls Try.prog 123 (#[.int .i64 ((i : Int) / n), .int .i64 ((i : Int) % n), .int .i64 i] ++ caps) wr fun e w' => e = .returned (.complex .f32 (G i).1 (G i).2) ∧ Below wr.heap.size wr w') :
    Calls Try.prog 93 #[.int .i64 n, .func (.func 123) #[] caps] w fun e w' => e = .returned (.agg (wav n (fillL (n * n) G))) ∧ Below w.heap.size w w' := by
  have hz := (zero_of_info Try.infoW).1
  have hnn : n * n ≤ 64 := by have := Nat.mul_le_mul hn2 hn2; omega
  obtain ⟨m, hm⟩ : ∃ m, m = n * n := ⟨_, rfl⟩
  have hmul : (n : Int) * n = m := by rw [hm, Int.natCast_mul]
  have h0 : ¬ (n : Int) = 0 := by omega
  have hm64 : m ≤ 64 := by omega
  rw [← hm] at hf ⊢
  have HF := Lib.hid hf
  have HM := Lib.hid hm
  clear hf hm hnn
  go_enter Try.func93, Try.ntmps93
  have h2 := blk2 w (.cells (wav 0 zerosC) 29) (.cells (wav 0 zerosC) 29)
  have hs1 : ((w.alloc (.cells (wav 0 zerosC) 29)).alloc (.cells (wav 0 zerosC) 29)).heap[w.heap.size + 1]? = some (.cells (wav 0 zerosC) 29) := h2.2
  have H0 := Lib.hid h2.1
  have H1 := Lib.hid hs1
  clear h2 hs1
  go_wp2_with (first | (refine wpList_wbuild1 rfl (.tmp 7) n rfl rfl ?_) | (refine wpList_store_row rfl 29 (.tmp 5) (.tmp 8) rfl (w.heap.size + 1) (wav n zerosC) rfl rfl 29 (wav 0 zerosC) H1.out ?c1 ?c2 (wav_one n zerosC) ?_; (case c1 => exact Try.sizeW zerosC_length); (case c2 => rfl)))
  go_loopw [6, 12] (fun _ i wr => ∃ k : Nat, k ≤ m ∧ i = .int .i64 k ∧ Below w.heap.size w wr ∧ Hid (Blk wr w.heap.size (wav 0 zerosC) 29 ∧ Blk wr (w.heap.size + 1) (wav n (fillL k G)) 29)) (fun _ i _ => m - (intOf i).toNat)
  case atStart =>
    refine ⟨0, Nat.zero_le _, rfl, ?_, Blk.rowOther H0.out (by omega) _, Blk.row H1.out _⟩
    · exact Below.setRow (((Below.refl _ _).alloc (Nat.le_refl _) _).alloc (by simp) _) (by omega) _
  case round =>
    obtain ⟨k, hk, rfl, hbl, hcur⟩ := hrel
    have HB := Lib.hid hbl; clear hbl
    obtain ⟨hz1, hc⟩ := hcur.out
    clear hcur hz
    have hl := fillL_length G (by omega : k ≤ 64)
    by_cases hlt : k < m
    · have hcf := HF.out k wr.drew hlt (below_drewN' HB.out 1)
      obtain ⟨p, hp⟩ : ∃ p, p = G k := ⟨_, rfl⟩
      rw [← hp] at hcf
      have HCF := Lib.hid hcf
      have HP := Lib.hid hp
      have HC := Lib.hid hc
      have HZ := Lib.hid hz1
      have HL := Lib.hid hl
      clear hc hz1 hl hcf hp
      have hwr : IntKind.i64.wrap ((k : Int) / n) = (k : Int) / n := by
        have h1 := Int.ediv_nonneg (by omega : (0 : Int) ≤ k) (by omega : (0 : Int) ≤ n)
        have h2 := Int.ediv_le_self (b := (n : Int)) (by omega : (0 : Int) ≤ k)
        exact IntWalk.i64_in _ (by omega)
      have c0 := HC.out.wavCell (by rw [HL.out]; omega : k < (fillL k G).length)
      have f0 := HC.out.frozen (1 + k)
      obtain ⟨y, hy⟩ : ∃ y, y = (fillL k G).getD k (0, 0) := ⟨_, rfl⟩
      rw [← hy] at c0
      clear hy
      go_wp2
      go_region_with (((try rw [hwr]); refine HCF.out.mono ?_; rintro e w' ⟨rfl, hb⟩; have HC2 := Lib.hid ((HC.out.drewN 1).below hb); have HZ2 := Lib.hid ((HZ.out.drewN 1).below hb); have HB2 := Lib.hid (Below.drewTrans HB.out hb HB.out.size); have c1 := HC2.out.wavCell (by rw [HL.out]; omega : k < (fillL k G).length); have f1 := HC2.out.frozen (1 + k); obtain ⟨y2, hy2⟩ : ∃ y2, y2 = (fillL k G).getD k (0, 0) := ⟨_, rfl⟩; rw [← hy2] at c1; clear hb hy2))
      all_goals
        go_wp2
        go_roundw
        case rel =>
          refine ⟨k + 1, by omega, by go_num, HB2.out.setCell (by exact (by omega : w.heap.size ≤ w.heap.size + 1)) _, HZ2.out.other (by omega) _ _, ?_⟩
          rw [← fillL_set G (by omega : k < 64), ← HP.out]
          exact HC2.out.wavSet k p.1 p.2
        case measure => simp [intOf]; omega
    · have ek : k = m := by omega
      subst ek
      have HC := Lib.hid hc
      have HZ := Lib.hid hz1
      have HL := Lib.hid hl
      clear hc hz1 hl
      go_wp2_with (first | (refine wpList_load_row rfl 29 (.tmp 5) rfl (w.heap.size + 1) rfl 29 (wav n (fillL k G)) (0, 0) _ HC.out Try.underlying29 rfl (Try.sizeW HL.out) ?_) | (refine wpList_store_row rfl 29 (.tmp 4) (.tmp 28) rfl w.heap.size (wav n (fillL k G)) rfl rfl 29 (wav 0 zerosC) HZ.out (Try.sizeW HL.out) (by rw [wav_size, wav_size, HL.out]; rfl) (wav_one n _) ?_))
      refine bodyPost_ret (v := .agg (wav n (fillL k G))) (results_cell_row Try.results93 _ _ w.heap.size 29 (wav n (fillL k G)) (0, 0) _ rfl (HZ.out.row _) Try.underlying29 rfl (Try.sizeW HL.out)) rfl ?_
      exact ⟨rfl, Below.setRow HB.out (Nat.le_refl _) _⟩

def plnF (n u v y x : Int) : Int := (u * x + v * y) * (64 / n)
def fPln (n u v : Int) (i : Nat) : Int := plnF n u v ((i : Int) / n) ((i : Int) % n)
def okPln (n u v : Int) : Bool := isSd n && inR u (-64) 64 && inR v (-64) 64
theorem div64 {nn : Nat} (h1 : 1 ≤ nn) (h2 : nn ≤ 8) (h : isSd nn = true) : 1 ≤ (64 : Int) / nn ∧ (64 : Int) / nn ≤ 64 ∧ (nn : Int) * (64 / nn) = 64 := by
  rcases isSd_cases h with e | e | e | e <;> rw [e] <;> decide

set_option maxHeartbeats 1000000 in
theorem plnCl_any (nn : Nat) (u v y x i : Int) (g1 g2 g3 : Nat) (w : World) (hn1 : 1 ≤ nn) (hn2 : nn ≤ 8) (hsd : isSd nn = true) (hu : -64 ≤ u ∧ u ≤ 64) (hv : -64 ≤ v ∧ v ≤ 64) (hx : 0 ≤ x ∧ x ≤ 8) (hy : 0 ≤ y ∧ y ≤ 8) (c1 : w.cell? ⟨g1, 0, none⟩ = some (.int .i64 u)) (c2 : w.cell? ⟨g2, 0, none⟩ = some (.int .i64 v)) (c3 : w.cell? ⟨g3, 0, none⟩ = some (.int .i64 nn)) :
    Calls Try.prog 123 #[.int .i64 y, .int .i64 x, .int .i64 i, .pointer (some ⟨g1, 0, none⟩), .pointer (some ⟨g2, 0, none⟩), .pointer (some ⟨g3, 0, none⟩)] w fun e w' => e = .returned (.complex .f32 (phaseP (plnF nn u v y x)).1 (phaseP (plnF nn u v y x)).2) ∧ Below w.heap.size w w' := by
  have hn0 : ¬ (nn : Int) = 0 := by omega
  have hd := div64 hn1 hn2 hsd
  have hz : plnF nn u v y x = (u * x + v * y) * (64 / nn) := rfl
  have ha := mulB u x 64 8 (by omega) (by omega)
  obtain ⟨a, hae⟩ : ∃ a, a = u * x := ⟨_, rfl⟩
  have hb := mulB v y 64 8 (by omega) (by omega)
  obtain ⟨b, hbe⟩ : ∃ b, b = v * y := ⟨_, rfl⟩
  rw [← hae] at ha hz
  rw [← hbe] at hb hz
  have hae2 : u * x = a := hae.symm
  have hbe2 : v * y = b := hbe.symm
  clear hae hbe
  have hq : Int.tdiv ((a + b) * 64) nn = (a + b) * (64 / nn) := by
    conv => lhs; rw [← hd.2.2, Int.mul_comm (nn : Int), ← Int.mul_assoc]
    exact Int.mul_tdiv_cancel _ hn0
  have hzb := mulB (a + b) (64 / nn) 1024 64 (by omega) (by omega)
  rw [← hz] at hq hzb
  obtain ⟨z, hze⟩ : ∃ z, z = plnF nn u v y x := ⟨_, rfl⟩
  rw [← hze] at hq hzb ⊢
  clear hze hz hd
  have hw1 : IntKind.i64.wrap z = z := IntWalk.i64_in _ (by omega)
  have hw2 : wrap64 z = z := IntWalk.wrap64_in _ (by omega)
  go_enter Try.func123, Try.ntmps123
  go_wp2_with fail
  refine (implPhase_any z (by omega) w).mono ?_
  rintro e w2 ⟨rfl, hb⟩
  have HB := Lib.hid hb
  clear hb
  go_wp2
  go_ret
  exact ⟨rfl, HB.out⟩
end Go.Proofs.Ytficghohflmdeaa
