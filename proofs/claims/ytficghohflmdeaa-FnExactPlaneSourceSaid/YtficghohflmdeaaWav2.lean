/- Waves: plain, sides, fillings. -/
import Derived.Test.YtficghohflmdeaaWav
namespace Go.Proofs.Ytficghohflmdeaa
open Go.RowKit
set_option linter.unusedVariables false

def pn2 (p : Nat × Nat) : Nat × Nat := (pn p.1, pn p.2)
theorem pn_pn (b : Nat) : pn (pn b) = pn b := by
  unfold pn
  split
  · split <;> rfl
  · rfl
theorem pn2_pn2 (p : Nat × Nat) : pn2 (pn2 p) = pn2 p := by simp [pn2, pn_pn]

set_option maxRecDepth 10000 in
set_option maxHeartbeats 1000000 in
theorem plusW_any (n : Int) (l : List (Nat × Nat)) (hl : l.length = 64) (w : World) :
    Calls Try.prog 49 #[.agg (wav n l)] w fun e w' => e = .returned (.agg (wav n (l.map pn2))) ∧ Below w.heap.size w w' := by
  have hz := (zero_of_info Try.infoW).1
  go_enter Try.func49, Try.ntmps49
  go_wp2
  go_loopw [3] (fun i wr => ∃ k : Nat, k ≤ 64 ∧ i = .int .i64 k ∧ Below w.heap.size w wr ∧ Hid (Blk wr (w.heap.size + 1) (wav 0 zerosC) 29 ∧ Blk wr w.heap.size (wav n ((l.take k).map pn2 ++ l.drop k)) 29)) (fun i _ => 64 - (intOf i).toNat)
  case atStart =>
    have h2 := blk2 w (.cells (wav n l) 29) (.cells (wav 0 zerosC) 29)
    exact ⟨0, Nat.zero_le _, rfl, ((Below.refl _ _).alloc (Nat.le_refl _) _).alloc (by simp) _, h2.2, h2.1⟩
  case round =>
    obtain ⟨k, hk, rfl, hbl, hcur⟩ := hrel
    have HB := Lib.hid hbl; clear hbl
    obtain ⟨hz1, hc⟩ := hcur.out
    clear hcur hz
    have hcl : ((l.take k).map pn2 ++ l.drop k).length = 64 := by simp; omega
    by_cases hlt : k < 64
    · have c0 := hc.wavCell (by omega : k < ((l.take k).map pn2 ++ l.drop k).length)
      have f0 := hc.frozen (1 + k)
      have hx0 : ((l.take k).map pn2 ++ l.drop k).getD k (0, 0) = l.getD k (0, 0) := by
        have e : ((l.take k).map pn2).length = k := by simp; omega
        rw [List.getD_eq_getElem?_getD, List.getElem?_append_right (by omega), e, Nat.sub_self, List.getElem?_drop]; simp
      obtain ⟨x, hx⟩ : ∃ x, x = l.getD k (0, 0) := ⟨_, rfl⟩
      rw [hx0, ← hx] at c0
      have HC := Lib.hid hc
      have HZ := Lib.hid hz1
      have HX := Lib.hid hx
      clear hc hz1 hx hx0 hcl
      go_wp2_with (go_at_call 43; refine (plusC_any _ _ _).mono ?_; rintro e w' ⟨rfl, rfl⟩)
      go_roundw
      case rel =>
        refine ⟨k + 1, by omega, by go_num, HB.out.setCell (by exact Nat.le_refl _) _, HZ.out.other (by omega) _ _, ?_⟩
        have h := HC.out.wavSet k (pn x.1) (pn x.2)
        have e : ((l.take k).map pn2 ++ l.drop k).set k (pn x.1, pn x.2) = (l.take (k + 1)).map pn2 ++ l.drop (k + 1) := by
          have e2 : ((l.take k).map pn2).length = k := by simp; omega
          have hkl : k < l.length := by omega
          rw [List.set_append, if_neg (by omega), e2, List.drop_eq_getElem_cons hkl, List.take_succ_eq_append_getElem hkl, HX.out]
          simp only [Nat.sub_self, List.set_cons_zero, List.map_append, List.map_cons, List.map_nil, List.append_assoc, List.singleton_append, List.getD_eq_getElem?_getD, List.getElem?_eq_getElem hkl, Option.getD_some, pn2]
        rw [e] at h; exact h
      case measure => simp [intOf]; omega
    · have ek : k = 64 := by omega
      have e : (l.take k).map pn2 ++ l.drop k = l.map pn2 := by
        rw [ek, ← hl]; simp
      rw [e] at hc
      have HC := Lib.hid hc
      have HZ := Lib.hid hz1
      clear hc hz1 e ek hcl
      have hpl : (l.map pn2).length = 64 := by simp [hl]
      go_wp2_with (first | (refine wpList_load_row rfl 29 (.tmp 1) rfl w.heap.size rfl 29 (wav n (l.map pn2)) (0, 0) _ HC.out Try.underlying29 rfl (Try.sizeW hpl) ?_) | (refine wpList_store_row rfl 29 (.tmp 2) (.tmp 16) rfl (w.heap.size + 1) (wav n (l.map pn2)) rfl rfl 29 (wav 0 zerosC) HZ.out (Try.sizeW hpl) (by rw [wav_size, wav_size, hpl]; rfl) (wav_one n _) ?_))
      refine bodyPost_ret (v := .agg (wav n (l.map pn2))) (results_cell_row Try.results49 _ _ (w.heap.size + 1) 29 (wav n (l.map pn2)) (0, 0) _ rfl (HZ.out.row _) Try.underlying29 rfl (Try.sizeW hpl)) rfl ?_
      exact ⟨rfl, Below.setRow HB.out (by omega) _⟩

set_option maxRecDepth 100000 in
set_option maxHeartbeats 1000000 in
theorem plainW_any (n : Int) (l : List (Nat × Nat)) (hl : l.length = 64) (w : World) :
    Calls Try.prog 51 #[.agg (wav n l)] w fun e w' => e = .returned (.agg (wav n (l.map pn2))) ∧ Below w.heap.size w w' := by
  have hz := (zero_of_info Try.infoW).1
  have h2 := blk2 w (.cells (wav n l) 29) (.cells (wav 0 zerosC) 29)
  obtain ⟨W0, hW⟩ : ∃ W0, W0 = ((w.alloc (.cells (wav n l) 29)).alloc (.cells (wav 0 zerosC) 29)) := ⟨_, rfl⟩
  have hb0 : Below w.heap.size w W0 := by rw [hW]; exact (((Below.refl _ _).alloc (Nat.le_refl _) _).alloc (by simp) _)
  rw [← hW] at h2
  have b0 : Blk W0 w.heap.size (wav n l) 29 := h2.1
  have b1 : Blk W0 (w.heap.size + 1) (wav 0 zerosC) 29 := h2.2
  have R0 := Lib.hid b0.wavMid
  have HC := Lib.hid b0
  have HZ := Lib.hid b1
  have HW := Lib.hid hb0
  clear h2 b0 b1 hb0
  go_enter Try.func51, Try.ntmps51
  go_upto_region 1 with (fail)
  rw [← hW]
  clear hW hz
  go_wp2_with (refine wpList_load_mid rfl 27 (.tmp 41) rfl w.heap.size 1 rfl (l.map cx) _ R0.out Try.underlying27 rfl (Try.sizeC' hl) ?_)
  go_loopw [6, 7, 43] (fun _ _ i wr => ∃ k : Nat, k ≤ 64 ∧ i = .int .i64 k ∧ Below w.heap.size w wr ∧ Hid (Blk wr (w.heap.size + 1) (wav 0 zerosC) 29 ∧ Blk wr w.heap.size (wav n ((l.take k).map pn2 ++ l.drop k)) 29)) (fun _ _ i _ => 64 - (intOf i).toNat)
  case atStart => exact ⟨0, Nat.zero_le _, rfl, HW.out, HZ.out, HC.out⟩
  case round =>
    clear HW HZ HC
    obtain ⟨k, hk, rfl, hbl, hcur⟩ := hrel
    have HB := Lib.hid hbl; clear hbl
    obtain ⟨hz1, hc⟩ := hcur.out
    clear hcur
    have hcl : ((l.take k).map pn2 ++ l.drop k).length = 64 := by simp; omega
    by_cases hlt : k < 64
    · have hidx := index_arC l hl k hlt
      obtain ⟨x, hx⟩ : ∃ x, x = l.getD k (0, 0) := ⟨_, rfl⟩
      rw [← hx] at hidx
      have HC := Lib.hid hc
      have HZ := Lib.hid hz1
      have HX := Lib.hid hx
      have HCL := Lib.hid hcl
      clear hc hz1 hx hcl
      go_wp2
      have hC := HC.out
      have c0 := hC.wavCell (by rw [HCL.out]; exact hlt : k < ((l.take k).map pn2 ++ l.drop k).length)
      have f0 := hC.frozen (1 + k)
      obtain ⟨y, hy⟩ : ∃ y, y = ((l.take k).map pn2 ++ l.drop k).getD k (0, 0) := ⟨_, rfl⟩
      rw [← hy] at c0
      clear hC hy
      go_region_with ((go_at_call 78; refine (plainComplex_any _ _ _).mono ?_; rintro e w' ⟨rfl, rfl⟩))
      all_goals
        go_wp2
        go_roundw
        case rel =>
          refine ⟨k + 1, by omega, by go_num, (below_drewN' HB.out 1).setCell (by exact Nat.le_refl _) _, (HZ.out.drewN 1).other (by omega) _ _, ?_⟩
          have h := (HC.out.drewN 1).wavSet k (pn x.1) (pn x.2)
          have e : ((l.take k).map pn2 ++ l.drop k).set k (pn x.1, pn x.2) = (l.take (k + 1)).map pn2 ++ l.drop (k + 1) := by
            have e2 : ((l.take k).map pn2).length = k := by simp; omega
            have hkl : k < l.length := by omega
            rw [List.set_append, if_neg (by omega), e2, List.drop_eq_getElem_cons hkl, List.take_succ_eq_append_getElem hkl, HX.out]
            simp only [Nat.sub_self, List.set_cons_zero, List.map_append, List.map_cons, List.map_nil, List.append_assoc, List.singleton_append, List.getD_eq_getElem?_getD, List.getElem?_eq_getElem hkl, Option.getD_some, pn2]
          rw [e] at h; exact h
        case measure => simp [intOf]; omega
    · have ek : k = 64 := by omega
      have e : (l.take k).map pn2 ++ l.drop k = l.map pn2 := by
        rw [ek, ← hl]; simp
      rw [e] at hc
      have HC := Lib.hid hc
      have HZ := Lib.hid hz1
      clear hc hz1 e ek hcl
      have hpl : (l.map pn2).length = 64 := by simp [hl]
      go_wp2_with (first | (refine wpList_load_row rfl 29 (.tmp 1) rfl w.heap.size rfl 29 (wav n (l.map pn2)) (0, 0) _ HC.out Try.underlying29 rfl (Try.sizeW hpl) ?_) | (refine wpList_store_row rfl 29 (.tmp 2) (.tmp 124) rfl (w.heap.size + 1) (wav n (l.map pn2)) rfl rfl 29 (wav 0 zerosC) HZ.out (Try.sizeW hpl) (by rw [wav_size, wav_size, hpl]; rfl) (wav_one n _) ?_))
      refine bodyPost_ret (v := .agg (wav n (l.map pn2))) (results_cell_row Try.results51 _ _ (w.heap.size + 1) 29 (wav n (l.map pn2)) (0, 0) _ rfl (HZ.out.row _) Try.underlying29 rfl (Try.sizeW hpl)) rfl ?_
      exact ⟨rfl, Below.setRow HB.out (by omega) _⟩

def isSd (n : Int) : Bool := n == 1 || n == 2 || n == 4 || n == 8
theorem isSide_any (n : Int) (w : World) : Calls Try.prog 90 #[.int .i64 n] w fun e w' => e = .returned (.bool (isSd n)) ∧ w = w' := by
  cases hb : isSd n with
  | true =>
    simp only [isSd, Bool.or_eq_true, beq_iff_eq] at hb
    rcases hb with ((h | h) | h) | h
    all_goals
      subst h
      go_enter Try.func90, Try.ntmps90
      go_wp2
      go_ret
      exact ⟨rfl, rfl⟩
  | false =>
    simp only [isSd, Bool.or_eq_false_iff, beq_eq_false_iff_ne] at hb
    obtain ⟨⟨⟨h1, h2⟩, h3⟩, h4⟩ := hb
    go_enter Try.func90, Try.ntmps90
    go_wp2
    all_goals go_ret
    all_goals exact ⟨ret_bool (by simp [h1, h2, h3, h4]), rfl⟩
theorem l01Side_any (n : Int) (w : World) : Calls Try.prog 87 #[.int .i64 n] w fun e w' => e = .returned (.bool (isSd n)) ∧ w = w' := by
  cases hb : isSd n with
  | true =>
    simp only [isSd, Bool.or_eq_true, beq_iff_eq] at hb
    rcases hb with ((h | h) | h) | h
    all_goals
      subst h
      go_enter Try.func87, Try.ntmps87
      go_wp2
      go_ret
      exact ⟨rfl, rfl⟩
  | false =>
    simp only [isSd, Bool.or_eq_false_iff, beq_eq_false_iff_ne] at hb
    obtain ⟨⟨⟨h1, h2⟩, h3⟩, h4⟩ := hb
    go_enter Try.func87, Try.ntmps87
    go_wp2
    all_goals go_ret
    all_goals exact ⟨ret_bool (by simp [h1, h2, h3, h4]), rfl⟩
theorem isSd_cases {n : Int} (h : isSd n = true) : n = 1 ∨ n = 2 ∨ n = 4 ∨ n = 8 := by
  simp only [isSd, Bool.or_eq_true, beq_iff_eq] at h; omega

def inR (n a b : Int) : Bool := decide (a ≤ n) && decide (n ≤ b)
theorem inR_true {n a b : Int} (h : inR n a b = true) : a ≤ n ∧ n ≤ b := by
  simpa only [inR, Bool.and_eq_true, decide_eq_true_eq] using h
theorem within_any (n a b : Int) (w : World) : Calls Try.prog 91 #[.int .i64 n, .int .i64 a, .int .i64 b] w fun e w' => e = .returned (.bool (inR n a b)) ∧ w = w' := by
  by_cases h1 : a ≤ n
  · by_cases h2 : n ≤ b
    · go_enter Try.func91, Try.ntmps91
      go_wp2
      go_ret
      exact ⟨ret_bool (by simp [inR, h1, h2]), rfl⟩
    · go_enter Try.func91, Try.ntmps91
      go_wp2
      go_ret
      exact ⟨ret_bool (by simp [inR, h1, h2]), rfl⟩
  · go_enter Try.func91, Try.ntmps91
    go_wp2
    go_ret
    exact ⟨ret_bool (by simp only [inR]; rw [decide_eq_false (by omega), Bool.false_and]), rfl⟩
theorem l01In_any (n a b : Int) (w : World) : Calls Try.prog 88 #[.int .i64 n, .int .i64 a, .int .i64 b] w fun e w' => e = .returned (.bool (inR n a b)) ∧ w = w' := by
  by_cases h1 : a ≤ n
  · by_cases h2 : n ≤ b
    · go_enter Try.func88, Try.ntmps88
      go_wp2
      go_ret
      exact ⟨ret_bool (by simp [inR, h1, h2]), rfl⟩
    · go_enter Try.func88, Try.ntmps88
      go_wp2
      go_ret
      exact ⟨ret_bool (by simp [inR, h1, h2]), rfl⟩
  · go_enter Try.func88, Try.ntmps88
    go_wp2
    go_ret
    exact ⟨ret_bool (by simp only [inR]; rw [decide_eq_false (by omega), Bool.false_and]), rfl⟩
theorem isSlope_any (n : Int) (w : World) : Calls Try.prog 92 #[.int .i64 n] w fun e w' => e = .returned (.bool (inR n (-64) 64)) ∧ w = w' := by
  go_enter Try.func92, Try.ntmps92
  go_wp2_with (go_at_call 91; refine (within_any _ _ _ _).mono ?_; rintro e w' ⟨rfl, rfl⟩)
  go_ret
  exact ⟨rfl, rfl⟩

/-! ### composite literals -/
theorem Try.wbuilt0 : Try.prog.built 29 [] = some (wav 0 zerosC) := by kernel_rfl
theorem Try.wbuilt1 (n : Int) : Try.prog.built 29 [(0, .int .i64 n)] = some (wav n zerosC) := by kernel_rfl
theorem wpList_wbuild0 {ops : Array Oper} {rest : List Oper} {o : Oper} {a : Act} {w : World} {Q : Exit → Act → World → Prop} (hg : o.guard = none) (ho : o.op = .build 29 #[])
    (h : wpList Try.prog ops Q rest (a.put o.dst (.agg (wav 0 zerosC))) w) : wpList Try.prog ops Q (o :: rest) a w := by
  have e : ((#[] : Array (Nat × Operand)).map fun (i, x) => (i, a.eval x)).toList = [] := by simp
  refine wpList_build hg 29 #[] ho (by rw [e, Try.wbuilt0]; rfl) ?_
  rw [e, Try.wbuilt0, Option.getD_some]; exact h
theorem wpList_wbuild1 {ops : Array Oper} {rest : List Oper} {o : Oper} {a : Act} {w : World} {Q : Exit → Act → World → Prop} (hg : o.guard = none) (x : Operand) (n : Int) (ho : o.op = .build 29 #[(0, x)]) (hx : a.eval x = .int .i64 n)
    (h : wpList Try.prog ops Q rest (a.put o.dst (.agg (wav n zerosC))) w) : wpList Try.prog ops Q (o :: rest) a w := by
  have e : ((#[(0, x)] : Array (Nat × Operand)).map fun (i, x) => (i, a.eval x)).toList = [(0, .int .i64 n)] := by simp [hx]
  refine wpList_build hg 29 #[(0, x)] ho (by rw [e, Try.wbuilt1]; rfl) ?_
  rw [e, Try.wbuilt1, Option.getD_some]; exact h

set_option maxRecDepth 10000 in
theorem l01Empty_any (n : Int) (w : World) : Calls Try.prog 89 #[.int .i64 n] w fun e w' => e = .returned (.agg (wav n zerosC)) ∧ Below w.heap.size w w' := by
  have hz := (zero_of_info Try.infoW).1
  have B0 := Lib.hid (Blk.new w (wav 0 zerosC) 29)
  go_enter Try.func89, Try.ntmps89
  go_wp2_with (first | (refine wpList_wbuild1 rfl (.tmp 3) n rfl rfl ?_) | (refine wpList_store_row rfl 29 (.tmp 2) (.tmp 4) rfl w.heap.size (wav n zerosC) rfl rfl 29 (wav 0 zerosC) B0.out ?c1 ?c2 (wav_one n zerosC) ?_; (case c1 => exact Try.sizeW zerosC_length); (case c2 => rfl)))
  refine bodyPost_ret (v := .agg (wav n zerosC)) (results_cell_row Try.results89 _ _ w.heap.size 29 (wav n zerosC) (0, 0) _ rfl (B0.out.row _) Try.underlying29 rfl (Try.sizeW zerosC_length)) rfl ?_
  exact ⟨rfl, Below.setRow ((Below.refl _ _).alloc (Nat.le_refl _) _) (Nat.le_refl _) _⟩

/-! ### fillings -/
/-- 64 numbers, of which the first k are told by G -/
def fillL (k : Nat) (G : Nat → Nat × Nat) : List (Nat × Nat) := (List.range k).map G ++ List.replicate (64 - k) (0, 0)
theorem fillL_length {k : Nat} (G : Nat → Nat × Nat) (h : k ≤ 64) : (fillL k G).length = 64 := by simp [fillL]; omega
theorem fillL_zero (G : Nat → Nat × Nat) : fillL 0 G = zerosC := rfl
theorem fillL_get {k : Nat} (G : Nat → Nat × Nat) (j : Nat) : (fillL k G).getD j (0, 0) = if j < k then G j else (0, 0) := by
  rw [List.getD_eq_getElem?_getD, fillL]
  by_cases h : j < k
  · rw [List.getElem?_append_left (by simpa using h), if_pos h]; simp [h]
  · rw [List.getElem?_append_right (by simpa using h), if_neg h, List.getElem?_replicate]; split <;> rfl
theorem fillL_set {k : Nat} (G : Nat → Nat × Nat) (h : k < 64) : (fillL k G).set k (G k) = fillL (k + 1) G := by
  have e : 64 - k = (64 - (k + 1)) + 1 := by omega
  rw [fillL, fillL, e, List.replicate_succ, List.set_append, if_neg (by simp), List.range_succ]
  simp
theorem fillL_map {k : Nat} (G : Nat → Nat × Nat) : (fillL k G).map pn2 = fillL k (fun i => pn2 (G i)) := by
  rw [fillL, fillL, List.map_append, List.map_map, List.map_replicate]
  rfl
theorem fillL_congr {k : Nat} {G H : Nat → Nat × Nat} (h : ∀ i, i < k → G i = H i) : fillL k G = fillL k H := by
  rw [fillL, fillL]
  congr 1
  exact List.map_congr_left fun i hi => h i (by simpa using hi)
end Go.Proofs.Ytficghohflmdeaa
