/- Lists of lists of int64: compared, marked. -/
import Derived.Test.YtficghohflmdeaaPs1
namespace Go.Proofs.Ytficghohflmdeaa
open Go.RowKit
set_option linter.unusedVariables false

set_option maxHeartbeats 1000000 in
theorem eqII_any (rows : List (List Int)) (a b : Option Addr) (c d : Nat) (w : World) (hx : RdII w a rows) (hy : RdII w b rows) (hl : rows.length ≤ 1048576) :
    Calls Try.prog 39 #[.slice a rows.length c, .slice b rows.length d] w fun e w' => e = .returned (.bool true) ∧ Quiet w w' := by
  have HX := Lib.hid hx
  have HY := Lib.hid hy
  clear hx hy
  go_enter Try.func39, Try.ntmps39
  go_wp2
  go_loopw [5] (fun i wr => ∃ k : Nat, k ≤ rows.length ∧ i = .int .i64 k ∧ Quiet w wr) (fun i _ => rows.length - (intOf i).toNat)
  case atStart => exact ⟨0, Nat.zero_le _, rfl, Quiet.refl _⟩
  case round =>
    obtain ⟨k, hk, rfl, ⟨q, rfl⟩⟩ := hrel
    by_cases hlt : k < rows.length
    · obtain ⟨b1, o1, a1, c1, rfl, hc, hr1, hl1⟩ := HX.out k hlt
      obtain ⟨b2, o2, a2, c2, rfl, hd, hr2, hl2⟩ := HY.out k hlt
      obtain ⟨xs, hxs⟩ : ∃ xs, xs = rows.getD k [] := ⟨_, rfl⟩
      rw [← hxs] at hc hd hr1 hr2 hl1
      have H1 := Lib.hid hr1
      have H2 := Lib.hid hr2
      clear hxs hr1 hr2 hl2
      go_wp2
      go_region_with ((go_at_call 27; refine (eqI_any xs _ _ _ _ _ (by exact H1.out) (by exact H2.out) hl1).mono ?_; rintro e w' ⟨rfl, n, rfl⟩))
      all_goals
        go_wp2
        go_roundw
        case rel => exact ⟨k + 1, by omega, by go_num, _, rfl⟩
        case measure => simp [intOf]; omega
    · go_wp2
      go_ret
      exact ⟨rfl, _, rfl⟩

/-- outside the blocks from lo to hi all is as it was -/
structure Out (lo hi : Nat) (w w' : World) : Prop where
  os : w'.os = w.os
  tape : w'.tape = w.tape
  output : w'.output = w.output
  size : w.heap.size ≤ w'.heap.size
  block : ∀ k, k < w.heap.size → (k < lo ∨ hi ≤ k) → w'.heap[k]? = w.heap[k]?
theorem Out.refl (lo hi : Nat) (w : World) : Out lo hi w w := ⟨rfl, rfl, rfl, Nat.le_refl _, fun _ _ _ => rfl⟩
theorem Out.trans {lo hi : Nat} {x y z : World} (h : Out lo hi x y) (k : Out lo hi y z) : Out lo hi x z :=
  ⟨k.os.trans h.os, k.tape.trans h.tape, k.output.trans h.output, Nat.le_trans h.size k.size, fun i hi h1 => (k.block i (Nat.lt_of_lt_of_le hi h.size) h1).trans (h.block i hi h1)⟩
theorem Out.mono {lo hi lo' hi' : Nat} {w w' : World} (h : Out lo hi w w') (h1 : lo' ≤ lo) (h2 : hi ≤ hi') : Out lo' hi' w w' := ⟨h.os, h.tape, h.output, h.size, fun k hk ho => h.block k hk (by omega)⟩
theorem Out.set {lo hi : Nat} {w w' : World} (h : Out lo hi w w') {g : Nat} (h1 : lo ≤ g) (h2 : g < hi) (i : Nat) (v : Value) : Out lo hi w (w'.setCell ⟨g, i, none⟩ v) :=
  ⟨h.os, h.tape, h.output, by simpa [World.setCell] using h.size, fun k hk ho => (heap_setCell_other w' _ k v (by simp; omega)).trans (h.block k hk ho)⟩
theorem Out.drewN {lo hi : Nat} {w w' : World} (h : Out lo hi w w') (n : Nat) : Out lo hi w (w'.drewN n) := ⟨h.os, h.tape, h.output, h.size, h.block⟩
theorem Out.below {lo hi B : Nat} {w w' : World} (h : Out lo hi w w') (hB : B ≤ lo) (hs : B ≤ w.heap.size) : Below B w w' := ⟨h.os, h.tape, h.output, h.size, fun k hk => h.block k (by omega) (.inl (by omega))⟩
theorem Out.ofBelow {lo hi : Nat} {w w' : World} (h : Below w.heap.size w w') : Out lo hi w w' := ⟨h.os, h.tape, h.output, h.size, fun k hk _ => h.block k hk⟩

/-- rows of ints of one's own, within bounds -/
def OwnIIh (w : World) (B hi g : Nat) (rows : List (List Int)) : Prop :=
  ∃ G : Nat → Nat, B ≤ g ∧ g < hi ∧ w.rowIs g 38 rows.length (hdI G rows) ∧ OwnRows w B g G rows rows.length ∧ ∀ i, i < rows.length → G i < hi
theorem OwnII.bound {w : World} {B g : Nat} {rows : List (List Int)} (h : OwnII w B g rows) : OwnIIh w B w.heap.size g rows := by
  obtain ⟨G, h1, h2, h3⟩ := h
  exact ⟨G, h1, h2.lt, h2, h3, fun i hi => ((h3 i hi).2.2.lt (G i) rfl).2⟩
theorem OwnIIh.below {w w' : World} {B hi g : Nat} {rows : List (List Int)} (h : OwnIIh w B hi g rows) (hb : Below w.heap.size w w') : OwnIIh w' B hi g rows := by
  obtain ⟨G, h1, h2, h3, h4, h5⟩ := h
  exact ⟨G, h1, h2, h3.of_block (hb.block _ h3.lt), fun i hi => ⟨(h4 i hi).1, (h4 i hi).2.1, (h4 i hi).2.2.below hb⟩, h5⟩
theorem OwnIIh.rd {w : World} {B hi g : Nat} {rows : List (List Int)} (h : OwnIIh w B hi g rows) (hl : ∀ i, i < rows.length → (rows.getD i []).length ≤ 9223372036854775807) : RdII w (some ⟨g, 0, none⟩) rows := by
  obtain ⟨G, h1, h2, h3, h4, h5⟩ := h
  exact OwnII.rd ⟨G, h1, h3, h4⟩ hl

theorem OwnI.stored {w : World} {B g c : Nat} {xs : List Int} (h : OwnI w B (.slice (some ⟨g, 0, none⟩) xs.length c) xs) (k : Nat) (x : Int) : OwnI (w.setCell ⟨g, k, none⟩ (.int .i64 x)) B (.slice (some ⟨g, 0, none⟩) xs.length c) (xs.set k x) := by
  have hs := (World.ownsRow.stored h k (itv x)).1
  unfold OwnI
  rw [List.length_set, List.map_set]
  exact hs
theorem OwnI.cellK {w : World} {B g c : Nat} {xs : List Int} (h : OwnI w B (.slice (some ⟨g, 0, none⟩) xs.length c) xs) {k : Nat} (hk : k < xs.length) : w.cell? ⟨g, k, none⟩ = some (.int .i64 (xs.getD k 0)) := by
  rw [World.ownsRow.cellAt h k (by omega)]
  simp [hk, itv]

set_option maxHeartbeats 1000000 in
theorem markI_any (n g c B hi : Nat) (xs : List Int) (hn : xs.length = n) (s : Int) (w : World) (hown : OwnI w B (.slice (some ⟨g, 0, none⟩) n c) xs) (hl : n ≤ 1048576) (hs : 0 ≤ s ∧ s ≤ 9000000) (hh : g < hi) (hB : B ≤ g) :
    Calls Try.prog 74 #[.slice (some ⟨g, 0, none⟩) n c, .int .i64 s] w fun e w' => e = .returned (.int .i64 (s + n)) ∧ Out g (g + 1) w w' := by
  have HO := Lib.hid hown; clear hown
  go_enter Try.func74, Try.ntmps74
  go_wp2
  go_loopw [1, 5] (fun m i wr => ∃ k : Nat, k ≤ n ∧ i = .int .i64 k ∧ m = .int .i64 (s + k) ∧ Out g (g + 1) w wr ∧ Hid (∃ ys : List Int, ys.length = n ∧ OwnI wr B (.slice (some ⟨g, 0, none⟩) n c) ys)) (fun _ i _ => n - (intOf i).toNat)
  case atStart => exact ⟨0, Nat.zero_le _, rfl, by simp, Out.refl _ _ _, xs, hn, HO.out⟩
  case round =>
    clear HO
    obtain ⟨k, hk, rfl, rfl, hout, hcur⟩ := hrel
    obtain ⟨ys, hy, ho⟩ := hcur.out
    have HOUT := Lib.hid hout
    clear hcur hout hn
    by_cases hlt : k < n
    · subst hy
      have c0 := ho.cellK hlt
      have f0 := World.ownsRow.frozenAt ho k
      obtain ⟨y, hy⟩ : ∃ y, y = ys.getD k 0 := ⟨_, rfl⟩
      rw [← hy] at c0
      have HO := Lib.hid ho
      clear ho hy
      go_wp2
      go_roundw
      case rel => exact ⟨k + 1, by omega, by go_num, (by rw [Int.natCast_add, Int.natCast_one, Int.add_assoc]), HOUT.out.set (Nat.le_refl _) (by omega) _ _, ys.set k _, List.length_set, HO.out.stored k _⟩
      case measure => simp [intOf]; omega
    · have e : k = n := by omega
      subst e
      clear ho hy
      go_wp2
      go_ret
      exact ⟨rfl, HOUT.out⟩

set_option maxHeartbeats 1000000 in
theorem markII_any (rows : List (List Int)) (B hi g c : Nat) (w : World) (hown : OwnIIh w B hi g rows) (hl : rows.length ≤ 1048576) (hlr : rows.length + tot rows ≤ 1048576) :
    Calls Try.prog 40 #[.slice (some ⟨g, 0, none⟩) rows.length c, .int .i64 1] w fun e w' => e = .returned (.int .i64 (1 + tot rows)) ∧ Out B hi w w' := by
  obtain ⟨G, h1, h2, h3, h4, h5⟩ := hown
  have HG := Lib.hid h3
  have HO := Lib.hid h4
  have HH := Lib.hid h5
  clear h3 h4 h5
  go_enter Try.func40, Try.ntmps40
  go_wp2
  go_loopw [1, 5] (fun m i wr => ∃ k : Nat, k ≤ rows.length ∧ i = .int .i64 k ∧ m = .int .i64 (1 + tot (rows.take k)) ∧ Out B hi w wr ∧ Hid (wr.rowIs g 38 rows.length (hdI G rows) ∧ ∀ i, k ≤ i → i < rows.length → OwnI wr B (hdI G rows i) (rows.getD i []))) (fun _ i _ => rows.length - (intOf i).toNat)
  case atStart => exact ⟨0, Nat.zero_le _, rfl, by simp [tot], Out.refl _ _ _, HG.out, fun i _ hi => (HO.out i hi).2.2⟩
  case round =>
    clear HG
    obtain ⟨k, hk, rfl, rfl, hout, hcur⟩ := hrel
    obtain ⟨hg, ho⟩ := hcur.out
    have HOUT := Lib.hid hout
    clear hcur hout
    by_cases hlt : k < rows.length
    · have hc := hg.cell hlt
      have hok := ho k (Nat.le_refl _) hlt
      obtain ⟨hGk, _, hown⟩ := HO.out k hlt
      have hHk := HH.out k hlt
      have hb := (hown.lt (G k) rfl).1
      have ht := tot_take hlt
      have hle := tot_le rows (k + 1)
      unfold hdI at hc hok
      obtain ⟨xs, hxs⟩ : ∃ xs, xs = rows.getD k [] := ⟨_, rfl⟩
      rw [← hxs] at hc hok ht
      obtain ⟨T, hT⟩ : ∃ T, T = tot (rows.take k) := ⟨_, rfl⟩
      rw [← hT] at ht ⊢
      have hTb : T + xs.length ≤ 1048576 := by omega
      obtain ⟨gk, hgk⟩ : ∃ gk, gk = G k := ⟨_, rfl⟩
      rw [← hgk] at hc hok hGk hHk hb
      have HGK := Lib.hid hgk
      have HT := Lib.hid ht
      have HOK := Lib.hid hok
      have HGG := Lib.hid hg
      have HOO := Lib.hid ho
      clear hgk ht hok hg ho hxs hT hown hle
      go_wp2_with fail
      refine (markI_any xs.length gk _ B hi xs rfl (1 + T) _ HOK.out (by omega) (by omega) hHk hb).mono ?_
      rintro e w2 ⟨rfl, hout2⟩
      have HOUT2 := Lib.hid hout2
      clear hout2 hc
      go_wp2
      go_roundw
      case rel =>
        refine ⟨k + 1, by omega, by go_num, (by rw [HT.out]; congr 1; omega), HOUT.out.trans (HOUT2.out.mono hb (by omega)), HGG.out.of_block (HOUT2.out.block g HGG.out.lt (by omega)), ?_⟩
        intro i hi1 hi2
        have h := HOO.out i (by omega) hi2
        refine ⟨h.1, ?_⟩
        rcases h.2 with h2 | ⟨g', cap, cur, hv, hb', hh, r⟩
        · exact .inl h2
        · refine .inr ⟨g', cap, cur, hv, hb', ?_, r⟩
          have e : g' = G i := by unfold hdI at hv; simp only [Value.slice.injEq, Option.some.injEq, Addr.mk.injEq] at hv; exact hv.1.1.symm
          have hlt' := (HO.out i hi2).2.1 k (by omega)
          rw [HOUT2.out.block g' (Array.getElem?_eq_some_iff.1 hh).1 (by rw [HGK.out]; omega)]; exact hh
      case measure => simp [intOf]; omega
    · have e : k = rows.length := by omega
      subst e
      clear hg ho
      rw [List.take_length]
      have hb : tot rows ≤ 1048576 := by omega
      go_wp2
      go_ret
      exact ⟨rfl, HOUT.out⟩
end Go.Proofs.Ytficghohflmdeaa
