/- PictureOfSums: the walks. -/
import Derived.Test.YtphbjfijipcpnaaPic3
import Derived.Test.YtphbjfijipcpnaaBack
namespace Go.Proofs.Ytphbjfijipcpnaa
open Go.RowKit
set_option linter.unusedVariables false

def isSd (n : Int) : Bool := n == 1 || n == 2 || n == 4 || n == 8
theorem isSide_any (n : Int) (w : World) : Calls Try.prog 113 #[.int .i64 n] w fun e w' => e = .returned (.bool (isSd n)) ∧ w = w' := by
  cases hb : isSd n with
  | true =>
    simp only [isSd, Bool.or_eq_true, beq_iff_eq] at hb
    rcases hb with ((h | h) | h) | h
    all_goals
      subst h
      go_enter Try.func113, Try.ntmps113
      go_wp2
      go_ret
      exact ⟨rfl, rfl⟩
  | false =>
    simp only [isSd, Bool.or_eq_false_iff, beq_eq_false_iff_ne] at hb
    obtain ⟨⟨⟨h1, h2⟩, h3⟩, h4⟩ := hb
    go_enter Try.func113, Try.ntmps113
    go_wp2
    all_goals go_ret
    all_goals exact ⟨ret_bool (by simp [h1, h2, h3, h4]), rfl⟩
theorem l01Side_any (n : Int) (w : World) : Calls Try.prog 111 #[.int .i64 n] w fun e w' => e = .returned (.bool (isSd n)) ∧ w = w' := by
  cases hb : isSd n with
  | true =>
    simp only [isSd, Bool.or_eq_true, beq_iff_eq] at hb
    rcases hb with ((h | h) | h) | h
    all_goals
      subst h
      go_enter Try.func111, Try.ntmps111
      go_wp2
      go_ret
      exact ⟨rfl, rfl⟩
  | false =>
    simp only [isSd, Bool.or_eq_false_iff, beq_eq_false_iff_ne] at hb
    obtain ⟨⟨⟨h1, h2⟩, h3⟩, h4⟩ := hb
    go_enter Try.func111, Try.ntmps111
    go_wp2
    all_goals go_ret
    all_goals exact ⟨ret_bool (by simp [h1, h2, h3, h4]), rfl⟩
theorem isSd_cases {n : Int} (h : isSd n = true) : n = 1 ∨ n = 2 ∨ n = 4 ∨ n = 8 := by
  simp only [isSd, Bool.or_eq_true, beq_iff_eq] at h; omega

theorem Try.built0 : Try.prog.built 32 [] = some (pic 0 zeros) := by kernel_rfl
theorem Try.built1 (n : Int) : Try.prog.built 32 [(0, .int .i64 n)] = some (pic n zeros) := by kernel_rfl

theorem wpList_build0 {ops : Array Oper} {rest : List Oper} {o : Oper} {a : Act} {w : World} {Q : Exit → Act → World → Prop} (hg : o.guard = none) (ho : o.op = .build 32 #[])
    (h : wpList Try.prog ops Q rest (a.put o.dst (.agg (pic 0 zeros))) w) : wpList Try.prog ops Q (o :: rest) a w := by
  have e : ((#[] : Array (Nat × Operand)).map fun (i, x) => (i, a.eval x)).toList = [] := by simp
  refine wpList_build hg 32 #[] ho (by rw [e, Try.built0]; rfl) ?_
  rw [e, Try.built0, Option.getD_some]; exact h
theorem wpList_build1 {ops : Array Oper} {rest : List Oper} {o : Oper} {a : Act} {w : World} {Q : Exit → Act → World → Prop} (hg : o.guard = none) (x : Operand) (n : Int) (ho : o.op = .build 32 #[(0, x)]) (hx : a.eval x = .int .i64 n)
    (h : wpList Try.prog ops Q rest (a.put o.dst (.agg (pic n zeros))) w) : wpList Try.prog ops Q (o :: rest) a w := by
  have e : ((#[(0, x)] : Array (Nat × Operand)).map fun (i, x) => (i, a.eval x)).toList = [(0, .int .i64 n)] := by simp [hx]
  refine wpList_build hg 32 #[(0, x)] ho (by rw [e, Try.built1]; rfl) ?_
  rw [e, Try.built1, Option.getD_some]; exact h
theorem zeros_get (j : Nat) : zeros.getD j 0 = 0 := by
  rw [zeros, List.getD_eq_getElem?_getD, List.getElem?_replicate]; split <;> rfl

/-- the levels: numbers of at least 0, and zeros behind -/
def padV (l : List FV) : List FV := l.map (fun x => maxV .f32 x (some 0)) ++ List.replicate (64 - l.length) (some 0)

theorem sumsPic1_any (outs : List Nat) (a : Option Addr) (c g : Nat) (i : Nat) (yv xv : Int) (w : World) (hb : w.cell? ⟨g, 0, none⟩ = some (.slice a outs.length c)) (hrd : RdF w a outs) (hl : outs.length ≤ 64) (hi : i < outs.length) :
    Calls Try.prog 115 #[.int .i64 yv, .int .i64 xv, .int .i64 i, .pointer (some ⟨g, 0, none⟩)] w fun e w' => ∃ y, e = .returned (.float .f32 y) ∧ ab .f32 y = maxV .f32 (ab .f32 (outs.getD i 0)) (some 0) ∧ Quiet w w' := by
  obtain ⟨b, off, rfl, hc⟩ := hrd _ hi
  obtain ⟨x, hx⟩ : ∃ x, x = outs.getD i 0 := ⟨_, rfl⟩
  rw [← hx] at hc ⊢
  clear hx hrd
  go_enter Try.func115, Try.ntmps115
  go_wp2
  go_ret
  exact ⟨_, rfl, by rw [ab_mres, ab_zero], _, rfl⟩

set_option maxRecDepth 10000 in
set_option maxHeartbeats 2000000 in
theorem pictureBy_sums (n : Nat) (hn : 1 ≤ n) (hn2 : n ≤ 8) (outs : List Nat) (ho : outs.length = n * n) (a : Option Addr) (c g : Nat) (w : World) (hb : w.cell? ⟨g, 0, none⟩ = some (.slice a outs.length c)) (hrd : RdF w a outs) :
    Calls Try.prog 114 #[.int .i64 n, .func (.func 115) #[] #[.pointer (some ⟨g, 0, none⟩)]] w fun e w' => ∃ l : List Nat, e = .returned (.agg (pic n l)) ∧ l.length = 64 ∧ l.map (ab .f32) = padV (outs.map (ab .f32)) ∧ Below w.heap.size w w' := by
  have hz := (zero_of_info Try.infoP).1
  have hnn : n * n ≤ 64 := by have := Nat.mul_le_mul hn2 hn2; omega
  have hmul : (n : Int) * n = outs.length := by rw [ho, Int.natCast_mul]
  have h0 : ¬ (n : Int) = 0 := by omega
  have hol : outs.length ≤ 64 := by omega
  have HG := Lib.hid hb
  have HR := Lib.hid hrd
  have HO := Lib.hid ho
  clear hb hrd ho
  go_enter Try.func114, Try.ntmps114
  have h2 := blk2 w (.cells (pic 0 zeros) 32) (.cells (pic 0 zeros) 32)
  have hs1 : ((w.alloc (.cells (pic 0 zeros) 32)).alloc (.cells (pic 0 zeros) 32)).heap[w.heap.size + 1]? = some (.cells (pic 0 zeros) 32) := h2.2
  have H0 := Lib.hid h2.1
  have H1 := Lib.hid hs1
  clear h2 hs1
  go_wp2_with (first | (refine wpList_build1 rfl (.tmp 7) n rfl rfl ?_) | (refine wpList_store_row rfl 32 (.tmp 5) (.tmp 8) rfl (w.heap.size + 1) (pic n zeros) rfl rfl 32 (pic 0 zeros) H1.out ?c1 ?c2 (pic_one n zeros) ?_; (case c1 => exact Try.sizeP zeros_length); (case c2 => rfl)))
  go_loopw [6, 12] (fun _ i wr => ∃ k : Nat, k ≤ outs.length ∧ i = .int .i64 k ∧ Below w.heap.size w wr ∧ Hid (Blk wr w.heap.size (pic 0 zeros) 32 ∧ ∃ l : List Nat, l.length = 64 ∧ Blk wr (w.heap.size + 1) (pic n l) 32 ∧ (∀ j, j < k → ab .f32 (l.getD j 0) = maxV .f32 (ab .f32 (outs.getD j 0)) (some 0)) ∧ ∀ j, k ≤ j → l.getD j 0 = 0)) (fun _ i _ => outs.length - (intOf i).toNat)
  case atStart =>
    refine ⟨0, Nat.zero_le _, rfl, ?_, Blk.rowOther H0.out (by omega) _, zeros, rfl, Blk.row H1.out _, fun j h => by omega, fun j _ => zeros_get j⟩
    · exact Below.setRow (((Below.refl _ _).alloc (Nat.le_refl _) _).alloc (by simp) _) (by omega) _
  case round =>
    obtain ⟨k, hk, rfl, hbl, hcur⟩ := hrel
    have HB := Lib.hid hbl; clear hbl
    obtain ⟨hz1, l, hl, hc, hm1, hm2⟩ := hcur.out
    clear hcur hz
    by_cases hlt : k < outs.length
    · have c0 := hc.picCell (by omega : k < l.length)
      have f0 := hc.frozen (1 + k)
      obtain ⟨y, hy⟩ : ∃ y, y = l.getD k 0 := ⟨_, rfl⟩
      rw [← hy] at c0
      have HC := Lib.hid hc
      have HZ := Lib.hid hz1
      have HL := Lib.hid hl
      have HM1 := Lib.hid hm1
      have HM2 := Lib.hid hm2
      have hgc : Hid (wr.cell? ⟨g, 0, none⟩ = some (.slice a outs.length c)) := by
        show _ = _
        rw [HB.out.cell (by exact block_lt_of_cell HG.out)]; exact HG.out
      have hro : Hid (RdF wr a outs) := HR.out.below HB.out
      clear hc hz1 hl hy hm1 hm2
      go_wp2
      go_region_with ((go_at_call 115; refine (sumsPic1_any outs a c g k _ _ wr.drew hgc.out hro.out hol hlt).mono ?_; rintro e w' ⟨y2, rfl, hy2, q, rfl⟩; have HY := Lib.hid hy2; clear hy2))
      all_goals
        go_wp2
        go_roundw
        case rel =>
          refine ⟨k + 1, by omega, by go_num, (below_drewN' HB.out _).setCell (by exact (by omega : w.heap.size ≤ w.heap.size + 1)) _, (HZ.out.drewN _).other (by omega) _ _, l.set k y2, by rw [List.length_set]; exact HL.out, (HC.out.drewN _).picSet k y2, ?_, ?_⟩
          · intro j hj
            by_cases e : j = k
            · subst e
              have : j < l.length := by rw [HL.out]; omega
              rw [← HY.out]; simp [this]
            · have := HM1.out j (by omega)
              rw [← this]; simp [List.getElem?_set, Ne.symm e]
          · intro j hj
            have := HM2.out j (by omega)
            rw [List.getD_eq_getElem?_getD, List.getElem?_set, if_neg (by omega)]
            rw [List.getD_eq_getElem?_getD] at this; exact this
        case measure => simp [intOf]; omega
    · have ek : k = outs.length := by omega
      have HC := Lib.hid hc
      have HZ := Lib.hid hz1
      have hR : Hid (l.map (ab .f32) = padV (outs.map (ab .f32))) := by
        show _ = _
        refine List.ext_getElem (by simp [padV, hl]; omega) fun i h1 h2 => ?_
        simp only [List.length_map] at h1
        simp only [padV, List.getElem_map, List.length_map]
        by_cases hi : i < outs.length
        · rw [List.getElem_append_left (by simpa using hi)]
          have := hm1 i (by omega)
          simpa [h1, hi] using this
        · rw [List.getElem_append_right (by simp; omega)]
          have := hm2 i (by omega)
          have e0 : l[i] = 0 := by simpa [h1] using this
          rw [e0, List.getElem_replicate]; exact ab_zero
      have HL := Lib.hid hl
      clear hc hz1 ek hm1 hm2 hl
      go_wp2_with (first | (refine wpList_load_row rfl 32 (.tmp 5) rfl (w.heap.size + 1) rfl 32 (pic n l) (0, 0) _ HC.out Try.underlying32 rfl (Try.sizeP HL.out) ?_) | (refine wpList_store_row rfl 32 (.tmp 4) (.tmp 28) rfl w.heap.size (pic n l) rfl rfl 32 (pic 0 zeros) HZ.out (Try.sizeP HL.out) (by rw [pic_size, pic_size, HL.out]; rfl) (pic_one n _) ?_))
      refine bodyPost_ret (v := .agg (pic n l)) (results_cell_row Try.results114 _ _ w.heap.size 32 (pic n l) (0, 0) _ rfl (HZ.out.row _) Try.underlying32 rfl (Try.sizeP HL.out)) rfl ?_
      exact ⟨l, rfl, HL.out, hR.out, Below.setRow HB.out (Nat.le_refl _) _⟩
end Go.Proofs.Ytphbjfijipcpnaa
