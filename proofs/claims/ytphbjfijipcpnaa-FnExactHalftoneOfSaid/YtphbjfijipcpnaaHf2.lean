/- HalftoneOf: the mask's closure, waveBy with a state, maskBy. -/
import Derived.Test.YtphbjfijipcpnaaHf1
namespace Go.Proofs.Ytphbjfijipcpnaa
open Go.RowKit
set_option linter.unusedVariables false

theorem But.setHi {a b : Nat} {w w' : World} (h : But a b w w') {g : Nat} (hg : w.heap.size ≤ g) (i : Nat) (v : Value) : But a b w (w'.setCell ⟨g, i, none⟩ v) :=
  ⟨h.os, h.tape, h.output, by simpa [World.setCell] using h.size, fun k hk h1 h2 => (heap_setCell_other w' _ k v (by simp; omega)).trans (h.block k hk h1 h2)⟩
theorem But.rowHi {a b : Nat} {w w' : World} (h : But a b w w') {g : Nat} (hg : w.heap.size ≤ g) (c : Array Value) : But a b w (w'.setRow g c) :=
  ⟨h.os, h.tape, h.output, by simp; exact h.size, fun k hk h1 h2 => (setRow_other w' g k c (by omega)).trans (h.block k hk h1 h2)⟩
theorem But.ofBelow {a b : Nat} {w w' : World} (h : Below w.heap.size w w') : But a b w w' := ⟨h.os, h.tape, h.output, h.size, fun k hk _ _ => h.block k hk⟩

/-- a block is as it was -/
def SameB (g : Nat) (w w' : World) : Prop := w'.heap[g]? = w.heap[g]?
theorem Blk.same {w w' : World} {g : Nat} {c : Array Value} {t : TypeId} (h : Blk w g c t) (hs : SameB g w w') : Blk w' g c t := by unfold Blk; rw [hs]; exact h

/-- what the closure leaves -/
def HalfP (n t i : Nat) (l : List Nat) (c : Int) (gs gc : Nat) (w w' : World) : Prop := ∃ l' : List Nat, l'.length = 64 ∧ l'.map (ab .f32) = hStep n t (l.map (ab .f32)) i ∧
        Blk w' gs (arr l') 29 ∧ Blk w' gc #[.int .i64 (if fin (hRest (ab .f32 (l.getD i 0)) t) then c else 3)] 2 ∧ But gs gc w w'

set_option maxRecDepth 10000 in
set_option maxHeartbeats 2000000 in
theorem maskCl_any (n i t : Nat) (hn : 1 ≤ n) (hn2 : n ≤ 8) (hi : i < n * n) (l : List Nat) (hl : l.length = 64) (c : Int) (gs gn gt gc go : Nat) (w : World)
    (hs : Blk w gs (arr l) 29) (hcn : Blk w gn #[.int .i64 n] 2) (hct : Blk w gt #[.float .f32 t] 28) (hcc : Blk w gc #[.int .i64 c] 2)
    (hgo : Blk w go #[.func (.func 94) #[] #[.pointer (some ⟨gs, 0, none⟩), .pointer (some ⟨gn, 0, none⟩), .pointer (some ⟨gt, 0, none⟩), .pointer (some ⟨gc, 0, none⟩)]] 92)
    (d1 : gs ≠ gn) (d2 : gs ≠ gt) (d3 : gs ≠ gc) (d4 : gc ≠ gn) (d5 : gc ≠ gt) :
    Calls Try.prog 131 #[.int .i64 ((i : Int) / n), .int .i64 ((i : Int) % n), .int .i64 i, .pointer (some ⟨go, 0, none⟩)] w fun e w' =>
      e = .returned (.complex .f32 (if hOpen (ab .f32 (l.getD i 0)) t then 1065353216 else 0) 0) ∧ HalfP n t i l c gs gc w w' := by
  have HC := Lib.hid (half1_any n i t hn hn2 hi l hl c gs gn gt gc w hs hcn hct hcc d1 d2 d3 d4 d5)
  have co : w.cell? ⟨go, 0, none⟩ = some (.func (.func 94) #[] #[.pointer (some ⟨gs, 0, none⟩), .pointer (some ⟨gn, 0, none⟩), .pointer (some ⟨gt, 0, none⟩), .pointer (some ⟨gc, 0, none⟩)]) := by rw [hgo.cell]; rfl
  clear hs hcn hct hcc hgo
  cases ho : hOpen (ab .f32 (l.getD i 0)) t with
  | true =>
    rw [ho] at HC
    have HO := Lib.hid ho
    clear ho
    go_enter Try.func131, Try.ntmps131
    go_wp2_with fail
    refine HC.out.mono ?_
    rintro e w2 ⟨rfl, h⟩
    have H : HalfP n t i l c gs gc w w2 := h
    clear h
    go_wp2_with fail
    go_ret
    exact ⟨rfl, H⟩
  | false =>
    rw [ho] at HC
    have HO := Lib.hid ho
    clear ho
    go_enter Try.func131, Try.ntmps131
    go_wp2_with fail
    refine HC.out.mono ?_
    rintro e w2 ⟨rfl, h⟩
    have H : HalfP n t i l c gs gc w w2 := h
    clear h
    go_wp2_with fail
    go_ret
    exact ⟨rfl, H⟩

set_option maxRecDepth 10000 in
set_option maxHeartbeats 2000000 in
theorem waveBy_st (caps : Array Value) (n : Nat) (hn : 1 ≤ n) (hn2 : n ≤ 8) (a b : Nat) (I : Nat → World → Prop) (G : Nat → Nat × Nat) (w : World) (ha : a < w.heap.size) (hb : b < w.heap.size)
    (hI : ∀ i wr wr', I i wr → SameB a wr wr' → SameB b wr wr' → I i wr') (h0I : I 0 w)
    (hf : ∀ (i : Nat) (wr : World), i < n * n → But a b w wr → I i wr → Calls Try.prog 131 (#[.int .i64 ((i : Int) / n), .int .i64 ((i : Int) % n), .int .i64 i] ++ caps) wr fun e w' => e = .returned (.complex .f32 (G i).1 (G i).2) ∧ I (i + 1) w' ∧ But a b wr w') :
    Calls Try.prog 130 #[.int .i64 n, .func (.func 131) #[] caps] w fun e w' => e = .returned (.agg (wav n (fillL (n * n) G))) ∧ I (n * n) w' ∧ But a b w w' := by
  have hz := (zero_of_info Try.infoW).1
  have hnn : n * n ≤ 64 := by have := Nat.mul_le_mul hn2 hn2; omega
  obtain ⟨m, hm⟩ : ∃ m, m = n * n := ⟨_, rfl⟩
  have hmul : (n : Int) * n = m := by rw [hm, Int.natCast_mul]
  have h0 : ¬ (n : Int) = 0 := by omega
  have hm64 : m ≤ 64 := by omega
  rw [← hm] at hf ⊢
  have HF := Lib.hid hf
  have HI := Lib.hid hI
  have HI0 := Lib.hid h0I
  have HM := Lib.hid hm
  clear hf hI h0I hm hnn
  go_enter Try.func130, Try.ntmps130
  have h2 := blk2 w (.cells (wav 0 zerosC) 41) (.cells (wav 0 zerosC) 41)
  have hs1 : ((w.alloc (.cells (wav 0 zerosC) 41)).alloc (.cells (wav 0 zerosC) 41)).heap[w.heap.size + 1]? = some (.cells (wav 0 zerosC) 41) := h2.2
  have H0 := Lib.hid h2.1
  have H1 := Lib.hid hs1
  clear h2 hs1
  go_wp2_with (first | (refine wpList_wbuild1 rfl (.tmp 7) n rfl rfl ?_) | (refine wpList_store_row rfl 41 (.tmp 5) (.tmp 8) rfl (w.heap.size + 1) (wav n zerosC) rfl rfl 41 (wav 0 zerosC) H1.out ?c1 ?c2 (wav_one n zerosC) ?_; (case c1 => exact Try.sizeW zerosC_length); (case c2 => rfl)))
  go_loopw [6, 12] (fun _ i wr => ∃ k : Nat, k ≤ m ∧ i = .int .i64 k ∧ But a b w wr ∧ Hid (I k wr ∧ Blk wr w.heap.size (wav 0 zerosC) 41 ∧ Blk wr (w.heap.size + 1) (wav n (fillL k G)) 41)) (fun _ i _ => m - (intOf i).toNat)
  case atStart =>
    have hbw : Below w.heap.size w (((w.alloc (.cells (wav 0 zerosC) 41)).alloc (.cells (wav 0 zerosC) 41)).setRow (w.heap.size + 1) (wav n zerosC)) := Below.setRow (((Below.refl _ _).alloc (Nat.le_refl _) _).alloc (by simp) _) (by omega) _
    exact ⟨0, Nat.zero_le _, rfl, But.ofBelow hbw, HI.out 0 _ _ HI0.out (hbw.block a ha) (hbw.block b hb), Blk.rowOther H0.out (by omega) _, Blk.row H1.out _⟩
  case round =>
    obtain ⟨k, hk, rfl, hbl, hcur⟩ := hrel
    have HB := Lib.hid hbl; clear hbl
    obtain ⟨hik, hz1, hc⟩ := hcur.out
    clear hcur hz
    have hl := fillL_length G (by omega : k ≤ 64)
    by_cases hlt : k < m
    · have hcf := HF.out k wr.drew hlt (HB.out.drewN 1) (HI.out k wr wr.drew hik rfl rfl)
      obtain ⟨p, hp⟩ : ∃ p, p = G k := ⟨_, rfl⟩
      rw [← hp] at hcf
      have HCF := Lib.hid hcf
      have HP := Lib.hid hp
      have HC := Lib.hid hc
      have HZ := Lib.hid hz1
      have HL := Lib.hid hl
      clear hc hz1 hl hcf hp hik
      have hwr : IntKind.i64.wrap ((k : Int) / n) = (k : Int) / n := by
        have h1 := Int.ediv_nonneg (by omega : (0 : Int) ≤ k) (by omega : (0 : Int) ≤ n)
        have h2 := Int.ediv_le_self (b := (n : Int)) (by omega : (0 : Int) ≤ k)
        exact IntWalk.i64_in _ (by omega)
      have c0 := HC.out.wavCell (by rw [HL.out]; omega : k < (fillL k G).length)
      have f0 := HC.out.frozen (1 + k)
      obtain ⟨y, hy⟩ : ∃ y, y = (fillL k G).getD k (0, 0) := ⟨_, rfl⟩
      rw [← hy] at c0
      clear hy
      go_wp2
      go_region_with (((try rw [hwr]); refine HCF.out.mono ?_; rintro e w' ⟨rfl, hi2, hb2⟩; have HI2 := Lib.hid hi2; have HC2 := Lib.hid (hb2.blk (HC.out.drewN 1) (by omega) (by omega)); have HZ2 := Lib.hid (hb2.blk (HZ.out.drewN 1) (by omega) (by omega)); have HB2 := Lib.hid ((HB.out.drewN 1).trans hb2); have c1 := HC2.out.wavCell (by rw [HL.out]; omega : k < (fillL k G).length); have f1 := HC2.out.frozen (1 + k); obtain ⟨y2, hy2⟩ : ∃ y2, y2 = (fillL k G).getD k (0, 0) := ⟨_, rfl⟩; rw [← hy2] at c1; clear hi2 hb2 hy2))
      all_goals
        go_wp2
        go_roundw
        case rel =>
          refine ⟨k + 1, by omega, by go_num, HB2.out.setHi (by omega) _ _, HI.out _ _ _ HI2.out (heap_setCell_other _ _ a _ (by simp; omega)) (heap_setCell_other _ _ b _ (by simp; omega)), HZ2.out.other (by omega) _ _, ?_⟩
          rw [← fillL_set G (by omega : k < 64), ← HP.out]
          exact HC2.out.wavSet k p.1 p.2
        case measure => simp [intOf]; omega
    · have ek : k = m := by omega
      subst ek
      have HC := Lib.hid hc
      have HZ := Lib.hid hz1
      have HL := Lib.hid hl
      have HIK := Lib.hid hik
      clear hc hz1 hl hik
      go_wp2_with (first | (refine wpList_load_row rfl 41 (.tmp 5) rfl (w.heap.size + 1) rfl 41 (wav n (fillL k G)) (0, 0) _ HC.out Try.underlying41 rfl (Try.sizeW HL.out) ?_) | (refine wpList_store_row rfl 41 (.tmp 4) (.tmp 28) rfl w.heap.size (wav n (fillL k G)) rfl rfl 41 (wav 0 zerosC) HZ.out (Try.sizeW HL.out) (by rw [wav_size, wav_size, HL.out]; rfl) (wav_one n _) ?_))
      refine bodyPost_ret (v := .agg (wav n (fillL k G))) (results_cell_row Try.results130 _ _ w.heap.size 41 (wav n (fillL k G)) (0, 0) _ rfl (HZ.out.row _) Try.underlying41 rfl (Try.sizeW HL.out)) rfl ?_
      exact ⟨rfl, HI.out _ _ _ HIK.out (setRow_other _ _ a _ (by omega)) (setRow_other _ _ b _ (by omega)), HB.out.rowHi (Nat.le_refl _) _⟩
end Go.Proofs.Ytphbjfijipcpnaa
