/- LensWave: the walks. -/
import Derived.Test.YtficghohflmdeaaWTop
namespace Go.Proofs.Ytficghohflmdeaa
open Go.RowKit
set_option linter.unusedVariables false
set_option maxRecDepth 10000 in
set_option maxHeartbeats 2000000 in
theorem waveBy_lns (caps : Array Value) (n : Nat) (hn : 1 ≤ n) (hn2 : n ≤ 8) (G : Nat → Nat × Nat) (w : World)
    (hf : ∀ (i : Nat) (wr : World), i < n * n → Below w.heap.size w wr → Calls Try.prog 100 (#[.int .i64 ((i : Int) / n), .int .i64 ((i : Int) % n), .int .i64 i] ++ caps) wr fun e w' => e = .returned (.complex .f32 (G i).1 (G i).2) ∧ Below wr.heap.size wr w') :
    Calls Try.prog 93 #[.int .i64 n, .func (.func 100) #[] caps] w fun e w' => e = .returned (.agg (wav n (fillL (n * n) G))) ∧ Below w.heap.size w w' := by
  have hz := (zero_of_info Try.infoW).1
  have hnn : n * n ≤ 64 := by have := Nat.mul_le_mul hn2 hn2; omega
  obtain ⟨m, hm⟩ : ∃ m, m = n * n := ⟨_, rfl⟩
  have hmul : (n : Int) * n = m := by rw [hm, Int.natCast_mul]
  have h0 : ¬ (n : Int) = 0 := by omega
  have hm64 : m ≤ 64 := by omega
  rw [← hm] at hf ⊢
  have HF := Lib.hid hf
  have HM := Lib.hid hm
  clear hf hm hnn
  go_enter Try.func93, Try.ntmps93
  have h2 := blk2 w (.cells (wav 0 zerosC) 29) (.cells (wav 0 zerosC) 29)
  have hs1 : ((w.alloc (.cells (wav 0 zerosC) 29)).alloc (.cells (wav 0 zerosC) 29)).heap[w.heap.size + 1]? = some (.cells (wav 0 zerosC) 29) := h2.2
  have H0 := Lib.hid h2.1
  have H1 := Lib.hid hs1
  clear h2 hs1
  go_wp2_with (first | (refine wpList_wbuild1 rfl (.tmp 7) n rfl rfl ?_) | (refine wpList_store_row rfl 29 (.tmp 5) (.tmp 8) rfl (w.heap.size + 1) (wav n zerosC) rfl rfl 29 (wav 0 zerosC) H1.out ?c1 ?c2 (wav_one n zerosC) ?_; (case c1 => exact Try.sizeW zerosC_length); (case c2 => rfl)))
  go_loopw [6, 12] (fun _ i wr => ∃ k : Nat, k ≤ m ∧ i = .int .i64 k ∧ Below w.heap.size w wr ∧ Hid (Blk wr w.heap.size (wav 0 zerosC) 29 ∧ Blk wr (w.heap.size + 1) (wav n (fillL k G)) 29)) (fun _ i _ => m - (intOf i).toNat)
  case atStart =>
    refine ⟨0, Nat.zero_le _, rfl, ?_, Blk.rowOther H0.out (by omega) _, Blk.row H1.out _⟩
    · exact Below.setRow (((Below.refl _ _).alloc (Nat.le_refl _) _).alloc (by simp) _) (by omega) _
  case round =>
    obtain ⟨k, hk, rfl, hbl, hcur⟩ := hrel
    have HB := Lib.hid hbl; clear hbl
    obtain ⟨hz1, hc⟩ := hcur.out
    clear hcur hz
    have hl := fillL_length G (by omega : k ≤ 64)
    by_cases hlt : k < m
    · have hcf := HF.out k wr.drew hlt (below_drewN' HB.out 1)
      obtain ⟨p, hp⟩ : ∃ p, p = G k := ⟨_, rfl⟩
      rw [← hp] at hcf
      have HCF := Lib.hid hcf
      have HP := Lib.hid hp
      have HC := Lib.hid hc
      have HZ := Lib.hid hz1
      have HL := Lib.hid hl
      clear hc hz1 hl hcf hp
      have hwr : IntKind.i64.wrap ((k : Int) / n) = (k : Int) / n := by
        have h1 := Int.ediv_nonneg (by omega : (0 : Int) ≤ k) (by omega : (0 : Int) ≤ n)
        have h2 := Int.ediv_le_self (b := (n : Int)) (by omega : (0 : Int) ≤ k)
        exact IntWalk.i64_in _ (by omega)
      have c0 := HC.out.wavCell (by rw [HL.out]; omega : k < (fillL k G).length)
      have f0 := HC.out.frozen (1 + k)
      obtain ⟨y, hy⟩ : ∃ y, y = (fillL k G).getD k (0, 0) := ⟨_, rfl⟩
      rw [← hy] at c0
      clear hy
      go_wp2
      go_region_with (((try rw [hwr]); refine HCF.out.mono ?_; rintro e w' ⟨rfl, hb⟩; have HC2 := Lib.hid ((HC.out.drewN 1).below hb); have HZ2 := Lib.hid ((HZ.out.drewN 1).below hb); have HB2 := Lib.hid (Below.drewTrans HB.out hb HB.out.size); have c1 := HC2.out.wavCell (by rw [HL.out]; omega : k < (fillL k G).length); have f1 := HC2.out.frozen (1 + k); obtain ⟨y2, hy2⟩ : ∃ y2, y2 = (fillL k G).getD k (0, 0) := ⟨_, rfl⟩; rw [← hy2] at c1; clear hb hy2))
      all_goals
        go_wp2
        go_roundw
        case rel =>
          refine ⟨k + 1, by omega, by go_num, HB2.out.setCell (by exact (by omega : w.heap.size ≤ w.heap.size + 1)) _, HZ2.out.other (by omega) _ _, ?_⟩
          rw [← fillL_set G (by omega : k < 64), ← HP.out]
          exact HC2.out.wavSet k p.1 p.2
        case measure => simp [intOf]; omega
    · have ek : k = m := by omega
      subst ek
      have HC := Lib.hid hc
      have HZ := Lib.hid hz1
      have HL := Lib.hid hl
      clear hc hz1 hl
      go_wp2_with (first | (refine wpList_load_row rfl 29 (.tmp 5) rfl (w.heap.size + 1) rfl 29 (wav n (fillL k G)) (0, 0) _ HC.out Try.underlying29 rfl (Try.sizeW HL.out) ?_) | (refine wpList_store_row rfl 29 (.tmp 4) (.tmp 28) rfl w.heap.size (wav n (fillL k G)) rfl rfl 29 (wav 0 zerosC) HZ.out (Try.sizeW HL.out) (by rw [wav_size, wav_size, HL.out]; rfl) (wav_one n _) ?_))
      refine bodyPost_ret (v := .agg (wav n (fillL k G))) (results_cell_row Try.results93 _ _ w.heap.size 29 (wav n (fillL k G)) (0, 0) _ rfl (HZ.out.row _) Try.underlying29 rfl (Try.sizeW HL.out)) rfl ?_
      exact ⟨rfl, Below.setRow HB.out (Nat.le_refl _) _⟩

def dstF (y x v u : Int) : Int := (2 * y - v) * (2 * y - v) + (2 * x - u) * (2 * x - u)
def fLns (n v u k : Int) (i : Nat) : Int := k * dstF ((i : Int) / n) ((i : Int) % n) v u
def okCen (n v u : Int) : Bool := isSd n && inR v 0 (2 * (n - 1)) && inR u 0 (2 * (n - 1))
def okLns (n v u k : Int) : Bool := okCen n v u && inR k (-64) 64
theorem dst_bounds {y x v u : Int} (hy : 0 ≤ y ∧ y ≤ 8) (hx : 0 ≤ x ∧ x ≤ 8) (hv : 0 ≤ v ∧ v ≤ 14) (hu : 0 ≤ u ∧ u ≤ 14) : -800 ≤ dstF y x v u ∧ dstF y x v u ≤ 800 := by
  have h1 := mulB (2 * y - v) (2 * y - v) 20 20 (by omega) (by omega)
  have h2 := mulB (2 * x - u) (2 * x - u) 20 20 (by omega) (by omega)
  unfold dstF; omega

set_option maxHeartbeats 1000000 in
theorem distance_any (y x v u : Int) (w : World) (hy : 0 ≤ y ∧ y ≤ 8) (hx : 0 ≤ x ∧ x ≤ 8) (hv : 0 ≤ v ∧ v ≤ 14) (hu : 0 ≤ u ∧ u ≤ 14) :
    Calls Try.prog 101 #[.int .i64 y, .int .i64 x, .int .i64 v, .int .i64 u] w fun e w' => e = .returned (.int .i64 (dstF y x v u)) ∧ w = w' := by
  have hz : dstF y x v u = (2 * y - v) * (2 * y - v) + (2 * x - u) * (2 * x - u) := rfl
  have ha := mulB (2 * y - v) (2 * y - v) 20 20 (by omega) (by omega)
  have hb := mulB (2 * x - u) (2 * x - u) 20 20 (by omega) (by omega)
  obtain ⟨p, hp⟩ : ∃ p, p = 2 * y - v := ⟨_, rfl⟩
  obtain ⟨q, hq⟩ : ∃ q, q = 2 * x - u := ⟨_, rfl⟩
  have hp2 : 2 * y - v = p := hp.symm
  have hq2 : 2 * x - u = q := hq.symm
  have hpb : -20 ≤ p ∧ p ≤ 20 := by omega
  have hqb : -20 ≤ q ∧ q ≤ 20 := by omega
  rw [← hp] at ha hz
  rw [← hq] at hb hz
  obtain ⟨a, hae⟩ : ∃ a, a = p * p := ⟨_, rfl⟩
  obtain ⟨b, hbe⟩ : ∃ b, b = q * q := ⟨_, rfl⟩
  rw [← hae] at ha hz
  rw [← hbe] at hb hz
  have hae2 : p * p = a := hae.symm
  have hbe2 : q * q = b := hbe.symm
  rw [hz]
  clear hae hbe hp hq hz
  go_enter Try.func101, Try.ntmps101
  go_wp2
  go_ret
  exact ⟨rfl, rfl⟩

set_option maxHeartbeats 1000000 in
theorem l03Distance_any (y x v u : Int) (w : World) (hy : 0 ≤ y ∧ y ≤ 8) (hx : 0 ≤ x ∧ x ≤ 8) (hv : 0 ≤ v ∧ v ≤ 14) (hu : 0 ≤ u ∧ u ≤ 14) :
    Calls Try.prog 98 #[.int .i64 y, .int .i64 x, .int .i64 v, .int .i64 u] w fun e w' => e = .returned (.int .i64 (dstF y x v u)) ∧ w = w' := by
  have hz : dstF y x v u = (2 * y - v) * (2 * y - v) + (2 * x - u) * (2 * x - u) := rfl
  have ha := mulB (2 * y - v) (2 * y - v) 20 20 (by omega) (by omega)
  have hb := mulB (2 * x - u) (2 * x - u) 20 20 (by omega) (by omega)
  obtain ⟨p, hp⟩ : ∃ p, p = 2 * y - v := ⟨_, rfl⟩
  obtain ⟨q, hq⟩ : ∃ q, q = 2 * x - u := ⟨_, rfl⟩
  have hp2 : 2 * y - v = p := hp.symm
  have hq2 : 2 * x - u = q := hq.symm
  have hpb : -20 ≤ p ∧ p ≤ 20 := by omega
  have hqb : -20 ≤ q ∧ q ≤ 20 := by omega
  rw [← hp] at ha hz
  rw [← hq] at hb hz
  obtain ⟨a, hae⟩ : ∃ a, a = p * p := ⟨_, rfl⟩
  obtain ⟨b, hbe⟩ : ∃ b, b = q * q := ⟨_, rfl⟩
  rw [← hae] at ha hz
  rw [← hbe] at hb hz
  have hae2 : p * p = a := hae.symm
  have hbe2 : q * q = b := hbe.symm
  rw [hz]
  clear hae hbe hp hq hz
  go_enter Try.func98, Try.ntmps98
  go_wp2
  go_ret
  exact ⟨rfl, rfl⟩

theorem isCentre_any (n v u : Int) (w : World) :
    Calls Try.prog 99 #[.int .i64 n, .int .i64 v, .int .i64 u] w fun e w' => e = .returned (.bool (okCen n v u)) ∧ w = w' := by
  cases h1 : isSd n with
  | false =>
    go_enter Try.func99, Try.ntmps99
    go_wp2_with (first | (go_at_call 90; refine (isSide_any _ _).mono ?_; rintro e w' ⟨rfl, rfl⟩; rw [h1]))
    go_ret
    exact ⟨ret_bool (by simp [okCen, h1]), rfl⟩
  | true =>
  have hn : 1 ≤ n ∧ n ≤ 8 := by rcases isSd_cases h1 with e | e | e | e <;> omega
  obtain ⟨top, htop⟩ : ∃ top, top = 2 * (n - 1) := ⟨_, rfl⟩
  have htop2 : 2 * (n - 1) = top := htop.symm
  have hR : okCen n v u = (inR v 0 top && inR u 0 top) := by rw [okCen, h1, htop]; rfl
  clear htop
  cases h2 : inR v 0 top with
  | false =>
    rw [h2] at hR
    go_enter Try.func99, Try.ntmps99
    go_wp2_with (first | (go_at_call 90; refine (isSide_any _ _).mono ?_; rintro e w' ⟨rfl, rfl⟩; rw [h1]) | (go_at_call 91; refine (within_any _ _ _ _).mono ?_; rintro e w' ⟨rfl, rfl⟩; rw [h2]))
    go_ret
    exact ⟨ret_bool (by rw [hR]; rfl), rfl⟩
  | true =>
    cases h3 : inR u 0 top with
    | false =>
      rw [h2, h3] at hR
      go_enter Try.func99, Try.ntmps99
      go_wp2_with (first | (go_at_call 90; refine (isSide_any _ _).mono ?_; rintro e w' ⟨rfl, rfl⟩; rw [h1]) | (go_at_call 91; refine (within_any _ _ _ _).mono ?_; rintro e w' ⟨rfl, rfl⟩; first | rw [h2] | rw [h3]))
      go_ret
      exact ⟨ret_bool (by rw [hR]; rfl), rfl⟩
    | true =>
      rw [h2, h3] at hR
      go_enter Try.func99, Try.ntmps99
      go_wp2_with (first | (go_at_call 90; refine (isSide_any _ _).mono ?_; rintro e w' ⟨rfl, rfl⟩; rw [h1]) | (go_at_call 91; refine (within_any _ _ _ _).mono ?_; rintro e w' ⟨rfl, rfl⟩; first | rw [h2] | rw [h3]))
      go_ret
      exact ⟨ret_bool (by rw [hR]; rfl), rfl⟩

theorem l03Centre_any (n v u : Int) (w : World) :
    Calls Try.prog 97 #[.int .i64 n, .int .i64 v, .int .i64 u] w fun e w' => e = .returned (.bool (okCen n v u)) ∧ w = w' := by
  cases h1 : isSd n with
  | false =>
    go_enter Try.func97, Try.ntmps97
    go_wp2_with (first | (go_at_call 87; refine (l01Side_any _ _).mono ?_; rintro e w' ⟨rfl, rfl⟩; rw [h1]))
    go_ret
    exact ⟨ret_bool (by simp [okCen, h1]), rfl⟩
  | true =>
  have hn : 1 ≤ n ∧ n ≤ 8 := by rcases isSd_cases h1 with e | e | e | e <;> omega
  obtain ⟨top, htop⟩ : ∃ top, top = 2 * (n - 1) := ⟨_, rfl⟩
  have htop2 : 2 * (n - 1) = top := htop.symm
  have hR : okCen n v u = (inR v 0 top && inR u 0 top) := by rw [okCen, h1, htop]; rfl
  clear htop
  cases h2 : inR v 0 top with
  | false =>
    rw [h2] at hR
    go_enter Try.func97, Try.ntmps97
    go_wp2_with (first | (go_at_call 87; refine (l01Side_any _ _).mono ?_; rintro e w' ⟨rfl, rfl⟩; rw [h1]) | (go_at_call 88; refine (l01In_any _ _ _ _).mono ?_; rintro e w' ⟨rfl, rfl⟩; rw [h2]))
    go_ret
    exact ⟨ret_bool (by rw [hR]; rfl), rfl⟩
  | true =>
    cases h3 : inR u 0 top with
    | false =>
      rw [h2, h3] at hR
      go_enter Try.func97, Try.ntmps97
      go_wp2_with (first | (go_at_call 87; refine (l01Side_any _ _).mono ?_; rintro e w' ⟨rfl, rfl⟩; rw [h1]) | (go_at_call 88; refine (l01In_any _ _ _ _).mono ?_; rintro e w' ⟨rfl, rfl⟩; first | rw [h2] | rw [h3]))
      go_ret
      exact ⟨ret_bool (by rw [hR]; rfl), rfl⟩
    | true =>
      rw [h2, h3] at hR
      go_enter Try.func97, Try.ntmps97
      go_wp2_with (first | (go_at_call 87; refine (l01Side_any _ _).mono ?_; rintro e w' ⟨rfl, rfl⟩; rw [h1]) | (go_at_call 88; refine (l01In_any _ _ _ _).mono ?_; rintro e w' ⟨rfl, rfl⟩; first | rw [h2] | rw [h3]))
      go_ret
      exact ⟨ret_bool (by rw [hR]; rfl), rfl⟩

set_option maxHeartbeats 1000000 in
theorem lnsCl_any (kk v u y x i : Int) (g1 g2 g3 : Nat) (w : World) (hk : -64 ≤ kk ∧ kk ≤ 64) (hv : 0 ≤ v ∧ v ≤ 14) (hu : 0 ≤ u ∧ u ≤ 14) (hx : 0 ≤ x ∧ x ≤ 8) (hy : 0 ≤ y ∧ y ≤ 8) (c1 : w.cell? ⟨g1, 0, none⟩ = some (.int .i64 kk)) (c2 : w.cell? ⟨g2, 0, none⟩ = some (.int .i64 v)) (c3 : w.cell? ⟨g3, 0, none⟩ = some (.int .i64 u)) :
    Calls Try.prog 100 #[.int .i64 y, .int .i64 x, .int .i64 i, .pointer (some ⟨g1, 0, none⟩), .pointer (some ⟨g2, 0, none⟩), .pointer (some ⟨g3, 0, none⟩)] w fun e w' => e = .returned (.complex .f32 (phaseP (kk * dstF y x v u)).1 (phaseP (kk * dstF y x v u)).2) ∧ Below w.heap.size w w' := by
  have hd := dst_bounds hy hx hv hu
  have HD := Lib.hid (distance_any y x v u w.drew hy hx hv hu)
  obtain ⟨d, hde⟩ : ∃ d, d = dstF y x v u := ⟨_, rfl⟩
  rw [← hde] at hd HD ⊢
  have hm := mulB kk d 64 800 (by omega) (by omega)
  obtain ⟨z, hze⟩ : ∃ z, z = kk * d := ⟨_, rfl⟩
  have hze2 : kk * d = z := hze.symm
  rw [← hze] at hm ⊢
  have hwr : IntKind.i64.wrap (kk * d) = z := by rw [hze2]; exact IntWalk.i64_in _ (by omega)
  have hwr2 : IntKind.i64.wrap z = z := IntWalk.i64_in _ (by omega)
  clear hde hze
  go_enter Try.func100, Try.ntmps100
  go_wp2
  go_region_with (first | (go_at_call 101; refine HD.out.mono ?_; rintro e w' ⟨rfl, rfl⟩) | (go_at_call 13; (try rw [hwr]); (try rw [hwr2]); refine (implPhase_any z (by omega) w.drew).mono ?_; rintro e w' ⟨rfl, hb⟩; have HB := Lib.hid hb; clear hb))
  all_goals
    go_wp2
    go_ret
    exact ⟨rfl, Below.drewTrans (Below.refl _ _) HB.out (Nat.le_refl _)⟩
end Go.Proofs.Ytficghohflmdeaa
