/- BlazedWave: the walks. -/
import Derived.Test.YtficghohflmdeaaWTop
namespace Go.Proofs.Ytficghohflmdeaa
open Go.RowKit
set_option linter.unusedVariables false

set_option maxRecDepth 10000 in
set_option maxHeartbeats 2000000 in
theorem waveBy_blz (caps : Array Value) (n : Nat) (hn : 1 ≤ n) (hn2 : n ≤ 8) (G : Nat → Nat × Nat) (w : World)
    (hf : ∀ (i : Nat) (wr : World), i < n * n → Below w.heap.size w wr → Calls Try.prog 94 (#[.int .i64 ((i : Int) / n), .int .i64 ((i : Int) % n), .int .i64 i] ++ caps) wr fun e w' => e = .returned (.complex .f32 (G i).1 (G i).2) ∧ Below wr.heap.size wr w') :
    Calls Try.prog 93 #[.int .i64 n, .func (.func 94) #[] caps] w fun e w' => e = .returned (.agg (wav n (fillL (n * n) G))) ∧ Below w.heap.size w w' := by
  have hz := (zero_of_info Try.infoW).1
  have hnn : n * n ≤ 64 := by have := Nat.mul_le_mul hn2 hn2; omega
  obtain ⟨m, hm⟩ : ∃ m, m = n * n := ⟨_, rfl⟩
  have hmul : (n : Int) * n = m := by rw [hm, Int.natCast_mul]
  have h0 : ¬ (n : Int) = 0 := by omega
  have hm64 : m ≤ 64 := by omega
  rw [← hm] at hf ⊢
  have HF := Lib.hid hf
  have HM := Lib.hid hm
  clear hf hm hnn
  go_enter Try.func93, Try.ntmps93
  have h2 := blk2 w (.cells (wav 0 zerosC) 29) (.cells (wav 0 zerosC) 29)
  have hs1 : ((w.alloc (.cells (wav 0 zerosC) 29)).alloc (.cells (wav 0 zerosC) 29)).heap[w.heap.size + 1]? = some (.cells (wav 0 zerosC) 29) := h2.2
  have H0 := Lib.hid h2.1
  have H1 := Lib.hid hs1
  clear h2 hs1
  go_wp2_with (first | (refine wpList_wbuild1 rfl (.tmp 7) n rfl rfl ?_) | (refine wpList_store_row rfl 29 (.tmp 5) (.tmp 8) rfl (w.heap.size + 1) (wav n zerosC) rfl rfl 29 (wav 0 zerosC) H1.out ?c1 ?c2 (wav_one n zerosC) ?_; (case c1 => exact Try.sizeW zerosC_length); (case c2 => rfl)))
  go_loopw [6, 12] (fun _ i wr => ∃ k : Nat, k ≤ m ∧ i = .int .i64 k ∧ Below w.heap.size w wr ∧ Hid (Blk wr w.heap.size (wav 0 zerosC) 29 ∧ Blk wr (w.heap.size + 1) (wav n (fillL k G)) 29)) (fun _ i _ => m - (intOf i).toNat)
  case atStart =>
    refine ⟨0, Nat.zero_le _, rfl, ?_, Blk.rowOther H0.out (by omega) _, Blk.row H1.out _⟩
    · exact Below.setRow (((Below.refl _ _).alloc (Nat.le_refl _) _).alloc (by simp) _) (by omega) _
  case round =>
    obtain ⟨k, hk, rfl, hbl, hcur⟩ := hrel
    have HB := Lib.hid hbl; clear hbl
    obtain ⟨hz1, hc⟩ := hcur.out
    clear hcur hz
    have hl := fillL_length G (by omega : k ≤ 64)
    by_cases hlt : k < m
    · have hcf := HF.out k wr.drew hlt (below_drewN' HB.out 1)
      obtain ⟨p, hp⟩ : ∃ p, p = G k := ⟨_, rfl⟩
      rw [← hp] at hcf
      have HCF := Lib.hid hcf
      have HP := Lib.hid hp
      have HC := Lib.hid hc
      have HZ := Lib.hid hz1
      have HL := Lib.hid hl
      clear hc hz1 hl hcf hp
      have hwr : IntKind.i64.wrap ((k : Int) / n) = (k : Int) / n := by
        have h1 := Int.ediv_nonneg (by omega : (0 : Int) ≤ k) (by omega : (0 : Int) ≤ n)
        have h2 := Int.ediv_le_self (b := (n : Int)) (by omega : (0 : Int) ≤ k)
        exact IntWalk.i64_in _ (by omega)
      have c0 := HC.out.wavCell (by rw [HL.out]; omega : k < (fillL k G).length)
      have f0 := HC.out.frozen (1 + k)
      obtain ⟨y, hy⟩ : ∃ y, y = (fillL k G).getD k (0, 0) := ⟨_, rfl⟩
      rw [← hy] at c0
      clear hy
      go_wp2
      go_region_with (((try rw [hwr]); refine HCF.out.mono ?_; rintro e w' ⟨rfl, hb⟩; have HC2 := Lib.hid ((HC.out.drewN 1).below hb); have HZ2 := Lib.hid ((HZ.out.drewN 1).below hb); have HB2 := Lib.hid (Below.drewTrans HB.out hb HB.out.size); have c1 := HC2.out.wavCell (by rw [HL.out]; omega : k < (fillL k G).length); have f1 := HC2.out.frozen (1 + k); obtain ⟨y2, hy2⟩ : ∃ y2, y2 = (fillL k G).getD k (0, 0) := ⟨_, rfl⟩; rw [← hy2] at c1; clear hb hy2))
      all_goals
        go_wp2
        go_roundw
        case rel =>
          refine ⟨k + 1, by omega, by go_num, HB2.out.setCell (by exact (by omega : w.heap.size ≤ w.heap.size + 1)) _, HZ2.out.other (by omega) _ _, ?_⟩
          rw [← fillL_set G (by omega : k < 64), ← HP.out]
          exact HC2.out.wavSet k p.1 p.2
        case measure => simp [intOf]; omega
    · have ek : k = m := by omega
      subst ek
      have HC := Lib.hid hc
      have HZ := Lib.hid hz1
      have HL := Lib.hid hl
      clear hc hz1 hl
      go_wp2_with (first | (refine wpList_load_row rfl 29 (.tmp 5) rfl (w.heap.size + 1) rfl 29 (wav n (fillL k G)) (0, 0) _ HC.out Try.underlying29 rfl (Try.sizeW HL.out) ?_) | (refine wpList_store_row rfl 29 (.tmp 4) (.tmp 28) rfl w.heap.size (wav n (fillL k G)) rfl rfl 29 (wav 0 zerosC) HZ.out (Try.sizeW HL.out) (by rw [wav_size, wav_size, HL.out]; rfl) (wav_one n _) ?_))
      refine bodyPost_ret (v := .agg (wav n (fillL k G))) (results_cell_row Try.results93 _ _ w.heap.size 29 (wav n (fillL k G)) (0, 0) _ rfl (HZ.out.row _) Try.underlying29 rfl (Try.sizeW HL.out)) rfl ?_
      exact ⟨rfl, Below.setRow HB.out (Nat.le_refl _) _⟩

def okBlz (n p k : Int) : Bool := isSd n && inR p 1 n && inR k (-64) 64

set_option maxHeartbeats 1000000 in
theorem blzCl_any (kk p x y i : Int) (g1 g2 : Nat) (w : World) (hk : -64 ≤ kk ∧ kk ≤ 64) (hp : 1 ≤ p ∧ p ≤ 8) (hx : 0 ≤ x ∧ x ≤ 8) (c1 : w.cell? ⟨g1, 0, none⟩ = some (.int .i64 kk)) (c2 : w.cell? ⟨g2, 0, none⟩ = some (.int .i64 p)) :
    Calls Try.prog 94 #[.int .i64 y, .int .i64 x, .int .i64 i, .pointer (some ⟨g1, 0, none⟩), .pointer (some ⟨g2, 0, none⟩)] w fun e w' => e = .returned (.complex .f32 (phaseP (kk * (x % p))).1 (phaseP (kk * (x % p))).2) ∧ Below w.heap.size w w' := by
  have hp0 : ¬ p = 0 := by omega
  have hq : Int.tmod x p = x % p := Int.tmod_eq_emod_of_nonneg hx.1
  have hr : 0 ≤ x % p ∧ x % p ≤ 8 := ⟨Int.emod_nonneg _ hp0, by have := Int.emod_lt_of_pos x (by omega : 0 < p); omega⟩
  obtain ⟨r, hr0⟩ : ∃ r, r = x % p := ⟨_, rfl⟩
  rw [← hr0] at hq hr ⊢
  have hm := mulB kk r 64 8 (by omega) (by omega)
  have hwr : IntKind.i64.wrap (kk * r) = kk * r := IntWalk.i64_in _ (by omega)
  have hwr2 : wrap64 (kk * r) = kk * r := IntWalk.wrap64_in _ (by omega)
  clear hr0
  go_enter Try.func94, Try.ntmps94
  go_wp2
  go_region_with ((refine (implPhase_any (kk * r) (by omega) w.drew).mono ?_; rintro e w' ⟨rfl, hb⟩; have HB := Lib.hid hb; clear hb))
  all_goals
    go_wp2
    go_ret
    exact ⟨rfl, Below.drewTrans (Below.refl _ _) HB.out (Nat.le_refl _)⟩
end Go.Proofs.Ytficghohflmdeaa
