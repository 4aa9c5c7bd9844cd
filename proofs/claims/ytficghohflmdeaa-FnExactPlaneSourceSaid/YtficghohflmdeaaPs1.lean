/- Lists of lists of int64: read, sizes, copies, compared, marked. -/
import Derived.Test.YtficghohflmdeaaInt
import Derived.Deep.OwnRows
namespace Go.Proofs.Ytficghohflmdeaa
open Go.RowKit
set_option linter.unusedVariables false

/-- the rows that lie at a -/
def RdII (w : World) (a : Option Addr) (rows : List (List Int)) : Prop := ∀ i, i < rows.length → ∃ b off ai ci, a = some ⟨b, off, none⟩ ∧ w.cell? ⟨b, off + i, none⟩ = some (.slice ai (rows.getD i []).length ci) ∧ RdI w ai (rows.getD i []) ∧ (rows.getD i []).length ≤ 9223372036854775807
theorem RdII.below {w w' : World} {a : Option Addr} {rows : List (List Int)} (h : RdII w a rows) (hb : Below w.heap.size w w') : RdII w' a rows := by
  intro i hi
  obtain ⟨b, off, ai, ci, ha, hc, hr, hl⟩ := h i hi
  exact ⟨b, off, ai, ci, ha, by rw [hb.cell (by exact block_lt_of_cell hc)]; exact hc, hr.below hb, hl⟩
def tot (rows : List (List Int)) : Nat := (rows.map List.length).sum
theorem tot_take {rows : List (List Int)} {k : Nat} (hk : k < rows.length) : tot (rows.take (k + 1)) = tot (rows.take k) + (rows.getD k []).length := by
  unfold tot
  rw [List.take_succ_eq_append_getElem hk, List.map_append, List.sum_append]
  simp [hk]
theorem tot_le (rows : List (List Int)) (k : Nat) : tot (rows.take k) ≤ tot rows := by
  have h : tot rows = tot (rows.take k) + tot (rows.drop k) := by
    unfold tot; rw [← List.sum_append, ← List.map_append, List.take_append_drop]
  omega

theorem szI_any (n c : Nat) (a : Option Addr) (left : Int) (w : World) (h0 : 0 ≤ left ∧ left ≤ 1048576) (hn : n ≤ 9223372036854775807) :
    Calls Try.prog 69 #[.slice a n c, .int .i64 left] w fun e w' => e = .returned (.int .i64 (if left < n then -1 else left - n)) ∧ w = w' := by
  by_cases h : left < n
  · have h2 : left - (n : Int) < 0 := by omega
    rw [if_pos h]
    go_enter Try.func69, Try.ntmps69
    go_wp2
    go_ret
    exact ⟨rfl, rfl⟩
  · have h2 : ¬ left - (n : Int) < 0 := by omega
    rw [if_neg h]
    go_enter Try.func69, Try.ntmps69
    go_wp2
    go_ret
    exact ⟨rfl, rfl⟩

/-- too many numbers, or so many -/
def SzPost (rows : List (List Int)) (w : World) (e : Ending) (w' : World) : Prop := ∃ r : Int, e = .returned (.int .i64 r) ∧ (r < 0 ∨ (0 ≤ r ∧ rows.length + tot rows ≤ 1048576)) ∧ w = w'

theorem szII_any (rows : List (List Int)) (a : Option Addr) (c : Nat) (w : World) (hrd : RdII w a rows) (hl : rows.length ≤ 9223372036854775807) :
    Calls Try.prog 34 #[.slice a rows.length c, .int .i64 1048576] w (SzPost rows w) := by
  have HR := Lib.hid hrd; clear hrd
  by_cases h : (1048576 : Int) < rows.length
  · have h2 : (1048576 : Int) - (rows.length : Int) < 0 := by omega
    go_enter Try.func34, Try.ntmps34
    go_wp2
    go_ret
    exact ⟨_, rfl, .inl (by omega), rfl⟩
  · have h2 : ¬ (1048576 : Int) - (rows.length : Int) < 0 := by omega
    go_enter Try.func34, Try.ntmps34
    go_wp2
    go_loopw [1, 5] (fun l i wr => ∃ k : Nat, k ≤ rows.length ∧ i = .int .i64 k ∧ wr = w ∧ ∃ left : Int, l = .int .i64 left ∧ 0 ≤ left ∧ left ≤ 1048576 ∧ Hid (left = 1048576 - rows.length - tot (rows.take k))) (fun _ i _ => rows.length - (intOf i).toNat)
    case atStart => exact ⟨0, Nat.zero_le _, rfl, rfl, 1048576 - (rows.length : Int), rfl, by omega, by omega, (by show _ = _; unfold tot; simp)⟩
    case round =>
      obtain ⟨k, hk, rfl, rfl, left, rfl, hl0, hl1, hle⟩ := hrel
      by_cases hlt : k < rows.length
      · obtain ⟨b, off, ai, ci, rfl, hc, hri, hlr⟩ := HR.out k hlt
        have HT := Lib.hid (tot_take hlt)
        obtain ⟨n, hn⟩ : ∃ n, n = (rows.getD k []).length := ⟨_, rfl⟩
        rw [← hn] at hc hlr HT
        clear hri hn
        by_cases hs : left < n
        · go_wp2_with (go_at_call 69; refine (szI_any _ _ _ _ _ ⟨hl0, hl1⟩ hlr).mono ?_; rintro e w' ⟨rfl, rfl⟩; rw [if_pos hs])
          go_ret
          exact ⟨_, rfl, .inl (by omega), rfl⟩
        · obtain ⟨l2, hl2⟩ : ∃ l2, l2 = left - (n : Int) := ⟨_, rfl⟩
          have h0 : ¬ l2 < 0 := by omega
          have hl2b : l2 ≤ 1048576 := by omega
          have H2 := Lib.hid hl2
          clear hl2
          go_wp2_with (go_at_call 69; refine (szI_any _ _ _ _ _ ⟨hl0, hl1⟩ hlr).mono ?_; rintro e w' ⟨rfl, rfl⟩; rw [if_neg hs, ← H2.out])
          go_roundw
          case rel =>
            refine ⟨k + 1, by omega, by go_num, trivial, l2, rfl, by omega, hl2b, ?_⟩
            show _ = _
            have a := hle.out
            have b := HT.out
            have c := H2.out
            omega
          case measure => simp [intOf]; omega
      · have HE : Hid (rows.length + tot rows ≤ 1048576) := by
          have e : k = rows.length := by omega
          have a := hle.out
          rw [e, List.take_length] at a
          show _ ≤ _
          omega
        go_wp2
        go_ret
        exact ⟨_, rfl, .inr ⟨hl0, HE.out⟩, rfl⟩

/-- rows of ints of one's own: the heads lie in block g, row i in block G i -/
def hdI (G : Nat → Nat) (rows : List (List Int)) (i : Nat) : Value := .slice (some ⟨G i, 0, none⟩) (rows.getD i []).length (rows.getD i []).length
def OwnRows (w : World) (B g : Nat) (G : Nat → Nat) (rows : List (List Int)) (k : Nat) : Prop :=
  ∀ i, i < k → g < G i ∧ (∀ j, j < i → G j < G i) ∧ OwnI w B (hdI G rows i) (rows.getD i [])
def OwnII (w : World) (B g : Nat) (rows : List (List Int)) : Prop :=
  ∃ G : Nat → Nat, B ≤ g ∧ w.rowIs g 38 rows.length (hdI G rows) ∧ OwnRows w B g G rows rows.length
theorem OwnI.below {w w' : World} {B : Nat} {v : Value} {xs : List Int} (h : OwnI w B v xs) (hb : Below w.heap.size w w') : OwnI w' B v xs := by
  refine ⟨h.1, ?_⟩
  rcases h.2 with h2 | ⟨g, cap, cur, hv, hg, hh, r⟩
  · exact .inl h2
  · exact .inr ⟨g, cap, cur, hv, hg, by rw [hb.block g (Array.getElem?_eq_some_iff.1 hh).1]; exact hh, r⟩
theorem OwnI.mono {w : World} {B B' : Nat} {v : Value} {xs : List Int} (h : OwnI w B v xs) (hB : B' ≤ B) : OwnI w B' v xs := by
  refine ⟨h.1, ?_⟩
  rcases h.2 with h2 | ⟨g, cap, cur, hv, hg, r⟩
  · exact .inl h2
  · exact .inr ⟨g, cap, cur, hv, by omega, r⟩
theorem OwnI.other {w : World} {B : Nat} {v : Value} {xs : List Int} (h : OwnI w B v xs) {g : Nat} (hg : v.ownBlock ≠ some g) (i : Nat) (u : Value) : OwnI (w.setCell ⟨g, i, none⟩ u) B v xs := by
  refine ⟨h.1, ?_⟩
  rcases h.2 with h2 | ⟨g', cap, cur, rfl, hb, hh, r⟩
  · exact .inl h2
  · refine .inr ⟨g', cap, cur, rfl, hb, ?_, r⟩
    rw [heap_setCell_other w _ g' u (by intro e; exact hg (by simp [Value.ownBlock, e]))]; exact hh
theorem OwnII.rd {w : World} {B g : Nat} {rows : List (List Int)} (h : OwnII w B g rows) (hl : ∀ i, i < rows.length → (rows.getD i []).length ≤ 9223372036854775807) : RdII w (some ⟨g, 0, none⟩) rows := by
  obtain ⟨G, _, hr, ho⟩ := h
  intro i hi
  refine ⟨g, 0, some ⟨G i, 0, none⟩, _, rfl, by rw [Nat.zero_add]; exact hr.cell hi, ?_, hl i hi⟩
  exact (OwnI.rd (ho i hi).2.2).2

theorem Try.infoIS : (Try.prog.info? 38).map (fun i => (i.zero, i.size, i.bytes)) = some (some (.slice none 0 0), 1, 24) := by kernel_rfl

/-- the heads of the first k rows -/
def hdK (G : Nat → Nat) (rows : List (List Int)) (k i : Nat) : Value := if i < k then hdI G rows i else .slice none 0 0

set_option maxHeartbeats 400000 in
theorem toII_any (rows : List (List Int)) (a : Option Addr) (c : Nat) (w : World) (hrd : RdII w a rows) (hl : rows.length ≤ 1048576) (hlr : ∀ i, i < rows.length → (rows.getD i []).length ≤ 1048576) :
    Calls Try.prog 36 #[.slice a rows.length c] w fun e w' => e = .returned (.slice (some ⟨w.heap.size, 0, none⟩) rows.length rows.length) ∧
      OwnII w' w.heap.size w.heap.size rows ∧ Below w.heap.size w w' := by
  have hmk := run_make_row' (P := Try.prog) 55 38 (.slice none 0 0) 24 Try.underlying55 Try.infoIS rfl .i64 .i64 rows.length (by omega) (by omega) w
  have hrow := World.rowIs_made w (.slice none 0 0) rows.length 38
  obtain ⟨w1, hw1⟩ : ∃ w1, w1 = w.alloc (.cells (madeCells #[Value.slice none 0 0] rows.length) 38) := ⟨_, rfl⟩
  have hb1 : Below w.heap.size w w1 := by rw [hw1]; exact (Below.refl _ _).alloc (Nat.le_refl _) _
  rw [← hw1] at hmk hrow
  have HR := Lib.hid hrd
  have HLR := Lib.hid hlr
  have HROW := Lib.hid hrow
  have HB1 := Lib.hid hb1
  clear hrd hlr hrow hb1 hw1
  have hl2 : rows.length ≤ 9223372036854775807 := by omega
  go_enter Try.func36, Try.ntmps36
  go_wp2
  go_loopw [4] (fun i wr => ∃ k : Nat, k ≤ rows.length ∧ i = .int .i64 k ∧ Below w.heap.size w wr ∧ Hid (∃ G : Nat → Nat, wr.rowIs w.heap.size 38 rows.length (hdK G rows k) ∧ OwnRows wr w.heap.size w.heap.size G rows k)) (fun i _ => rows.length - (intOf i).toNat)
  case atStart => exact ⟨0, Nat.zero_le _, rfl, HB1.out, (fun _ => 0), HROW.out.congr (fun i _ => by simp [hdK]), fun i h => by omega⟩
  case round =>
    clear hmk HROW HB1
    obtain ⟨k, hk, rfl, hbl, hcur⟩ := hrel
    have HB := Lib.hid hbl; clear hbl
    obtain ⟨G, hg, ho⟩ := hcur.out
    have HG := Lib.hid hg
    have HO := Lib.hid ho
    clear hcur hg ho
    by_cases hlt : k < rows.length
    · obtain ⟨b, off, ai, ci, rfl, hc, hri, _⟩ := HR.out k hlt
      have hc' := hc
      rw [← HB.out.cell (by exact block_lt_of_cell hc)] at hc'
      have hri' := hri.below (HB.out)
      have hlk := HLR.out k hlt
      obtain ⟨xs, hxs⟩ : ∃ xs, xs = rows.getD k [] := ⟨_, rfl⟩
      rw [← hxs] at hc' hri' hlk
      have HXS := Lib.hid hxs
      have HRI := Lib.hid hri'
      clear hc hri hri' hxs
      go_wp2_with fail
      refine (toI_any xs ai ci wr HRI.out (by omega)).mono ?_
      rintro e w2 ⟨rfl, hown, hb2⟩
      have HOWN := Lib.hid hown
      have HB2 := Lib.hid hb2
      have hgl := HG.out.lt
      have HG2 := Lib.hid (HG.out.of_block (hb2.block _ hgl))
      have c2 := HG2.out.cell hlt
      have f2 := HG2.out.frozen k
      obtain ⟨y, hy⟩ : ∃ y, y = hdK G rows k k := ⟨_, rfl⟩
      rw [← hy] at c2
      obtain ⟨gk, hgk⟩ : ∃ gk, gk = wr.heap.size := ⟨_, rfl⟩
      rw [← hgk] at hgl ⊢
      have HGK := Lib.hid hgk
      clear hown hb2 hy hgk
      go_wp2
      go_roundw
      case rel =>
        have hsz : w.heap.size ≤ wr.heap.size := HB.out.size
        have hgk := HGK.out
        have hown : OwnI w2 gk (.slice (some ⟨gk, 0, none⟩) xs.length xs.length) xs := by rw [hgk]; exact HOWN.out
        refine ⟨k + 1, by omega, by go_num, (HB.out.trans (HB2.out.mono hsz)).setCell (by exact Nat.le_refl _) _, (fun i => if i = k then gk else G i), (HG2.out.set k _).congr ?_, ?_⟩
        · intro i hi
          show (if i = k then _ else (if i < k then hdI G rows i else .slice none 0 0)) = (if i < k + 1 then Value.slice (some ⟨if i = k then gk else G i, 0, none⟩) (rows.getD i []).length (rows.getD i []).length else .slice none 0 0)
          by_cases e : i = k
          · rw [if_pos e, if_pos (by omega), if_pos e, e, ← HXS.out]
          · rw [if_neg e]
            by_cases h : i < k
            · rw [if_pos h, if_pos (by omega), if_neg e]; rfl
            · rw [if_neg h, if_neg (by omega)]
        · intro i hi
          by_cases e : i = k
          · subst e
            simp only [if_true]
            refine ⟨hgl, fun j hj => ?_, ?_⟩
            · rw [if_neg (by omega)]
              have h1 := (HO.out j hj).2.2.lt (G j) rfl
              omega
            · unfold hdI
              simp only [if_true]
              rw [← HXS.out]
              exact (hown.mono (by omega)).other (by simp [Value.ownBlock]; omega) _ _
          · obtain ⟨h1, h2, h3⟩ := HO.out i (by omega)
            simp only [if_neg e]
            refine ⟨h1, fun j hj => by rw [if_neg (by omega)]; exact h2 j hj, ?_⟩
            unfold hdI
            simp only [if_neg e]
            exact (h3.below HB2.out).other (by simp [hdI, Value.ownBlock]; omega) _ _
      case measure => simp [intOf]; omega
    · have e : k = rows.length := by omega
      have HII : Hid (OwnII wr w.heap.size w.heap.size rows) := by
        show OwnII _ _ _ _
        refine ⟨G, Nat.le_refl _, HG.out.congr (fun i hi => by unfold hdK; rw [if_pos (by omega)]), ?_⟩
        rw [← e]; exact HO.out
      clear HG HO
      go_wp2
      go_ret
      exact ⟨rfl, HII.out, HB.out⟩
end Go.Proofs.Ytficghohflmdeaa
