/- Sums by codes of Walsh: the two sides. -/
import Derived.Test.YtphbjfijipcpnaaB7
namespace Go.Proofs.Ytphbjfijipcpnaa
open Go.RowKit
set_option linter.unusedVariables false

/-- 'append([]float32{}, src...)' -/
theorem appendAll {w0 : World} {ops : Array Oper} {rest : List Oper} {o : Oper} {a : Act} {Q : Exit → Act → World → Prop} (hgd : o.guard = none) (s x : Operand)
    (ho : o.op = .call { callee := .builtin .append, args := #[s, x], argTypes := #[22, 22] }) (xs : List Nat) (ad : Option Addr) (c : Nat) (hpos : 0 < xs.length)
    (hs : a.eval s = .slice (some ⟨w0.heap.size, 0, none⟩) 0 0) (hx : a.eval x = .slice ad xs.length c) (hrd : RdF w0 ad xs) (hl : xs.length * 4 ≤ 140737488355328)
    (h : ∀ v' w', OwnF w' w0.heap.size v' xs → Below w0.heap.size w0 w' → wpList Try.prog ops Q rest (a.put o.dst v') w') :
    wpList Try.prog ops Q (o :: rest) a (w0.alloc (.cells #[] 28)) := by
  obtain ⟨i0, hi, hz0, hz1, hz2⟩ := info_parts Try.infoF
  obtain ⟨b, off, rfl, _⟩ := hrd 0 hpos
  refine wpList_append_own _ hgd s x 22 ho w0.heap.size 28 i0 (.float .f32 0) 1 4 Try.underlying22 hi hz0 hz1 hz2 rfl (by decide) _ 0 [] hs (OwnF.made w0) ⟨b, off, none⟩ xs.length c (xs.map flt) hx (by simp) ?_ (by simp [Value.oneCell', flt]) (by unfold maxLen; omega) (by omega) (by simp) ?_
  · intro j u hu
    have hj : j < xs.length := by
      by_cases hj : j < xs.length
      · exact hj
      · rw [List.getElem?_eq_none (by simp; omega)] at hu; cases hu
    obtain ⟨b', off', e, hc⟩ := hrd j hj
    cases e
    rw [Addr.add_lit, World.cell?_alloc_lt _ _ _ (by exact block_lt_of_cell hc), hc]
    rw [List.getElem?_map, List.getElem?_eq_getElem hj] at hu
    cases hu
    simp [hj, flt]
  · intro v' w' h1 h2 _
    refine h v' w' ?_ ?_
    · simpa [OwnF] using h1
    · refine ⟨h2.os, h2.tape, h2.output, ?_, fun k hk => ?_⟩
      · have := h2.size; simp at this; omega
      · rw [h2.block k (by simp; omega) (by simp only [Value.ownBlock, Option.map_some]; intro e; cases e; omega)]
        exact Below.heap_alloc w0 _ k hk

theorem clone_any (xs : List Nat) (a : Option Addr) (c : Nat) (w : World) (hrd : RdF w a xs) (hpos : 0 < xs.length) (hl : xs.length * 4 ≤ 140737488355328) :
    Calls Try.prog 132 #[.slice a xs.length c] w fun e w' => ∃ v, e = .returned v ∧ OwnF w' w.heap.size v xs ∧ Below w.heap.size w w' := by
  obtain ⟨b, off, rfl, _⟩ := hrd 0 hpos
  have HR := Lib.hid hrd; clear hrd
  have heq := fun (p : Option Addr) (l c : Nat) (wx : World) => Lib.run_eql_slice_nil (P := Try.prog) wx 22 28 p l c 0 0 Try.underlying22
  go_enter Try.func132, Try.ntmps132
  go_wp2_with (at_builtin; refine appendAll (w0 := w) rfl (.tmp 5) (.tmp 6) ?h3 xs (some ⟨b, off, none⟩) c hpos ?h4 ?h5 HR.out hl ?_; (case h3 => rfl); (case h4 => rfl); (case h5 => rfl); intro v' w1 hO hB; have HO := Lib.hid hO; have HB := Lib.hid hB; clear hO hB)
  go_ret
  exact ⟨v', rfl, HO.out, HB.out⟩

/-! ### the plain sums -/
def add (x y : FV) : FV := arith .add .f32 x y
def sub (x y : FV) : FV := arith .sub .f32 x y
/-- one butterfly -/
def bstep (h i : Nat) (l : List FV) : List FV :=
  if i / h % 2 = 0 then (l.set i (add (l.getD i none) (l.getD (i + h) none))).set (i + h) (sub (l.getD i none) (l.getD (i + h) none)) else l
def inner (h : Nat) : Nat → List FV → List FV
  | 0, l => l
  | i + 1, l => bstep h i (inner h i l)
def outer (n : Nat) : Nat → List FV → List FV
  | 0, l => l
  | e + 1, l => inner (2 ^ e) n (outer n e l)
def sumsV (m : Nat) (l : List FV) : List FV := outer (2 ^ m) m l

/-- what a pair of butterflies needs: the place of the other number lies in the list -/
theorem fits_all : ∀ m : Nat, m ≤ 6 → ∀ e, e < m → ∀ i, i < 2 ^ m → i / 2 ^ e % 2 = 0 → i + 2 ^ e < 2 ^ m := by decide
theorem and_all : ∀ e : Nat, e < 6 → ∀ i : Nat, i < 64 → (bits .and .i64 (i : Int) ((2 ^ e : Nat) : Int) == 0) = decide (i / 2 ^ e % 2 = 0) := by decide

theorem OwnF.set {w : World} {base g cap : Nat} {n : Nat} {bs : List Nat} (hn : n = bs.length) (h : OwnF w base (.slice (some ⟨g, 0, none⟩) n cap) bs) (j b : Nat) : OwnF (w.setCell ⟨g, j, none⟩ (.float .f32 b)) base (.slice (some ⟨g, 0, none⟩) n cap) (bs.set j b) := by
  subst hn
  have := (World.ownsRow.stored h j (flt b)).1
  unfold OwnF
  rw [List.length_set, List.map_set]; exact this
theorem OwnF.at {w : World} {base g cap : Nat} {n : Nat} {bs : List Nat} (h : OwnF w base (.slice (some ⟨g, 0, none⟩) n cap) bs) (j : Nat) (hj : j < bs.length) : w.cell? ⟨g, j, none⟩ = some (.float .f32 (bs.getD j 0)) := by
  obtain ⟨hn, hr⟩ := h.rd
  obtain ⟨b, off, e, hc⟩ := hr j hj
  cases e
  simpa using hc
theorem OwnF.fz {w : World} {base g cap : Nat} {n : Nat} {bs : List Nat} (h : OwnF w base (.slice (some ⟨g, 0, none⟩) n cap) bs) (j : Nat) : w.frozen? ⟨g, j, none⟩ = false := by
  obtain ⟨hn, _⟩ := h.rd
  subst hn
  exact World.ownsRow.frozenAt h j

theorem map_getD (cur : List Nat) (k : Nat) (hk : k < cur.length) : (cur.map (ab .f32)).getD k none = ab .f32 (cur.getD k 0) := by simp [hk]

/-- a butterfly, on the bits -/
theorem bstep_yes (cur : List Nat) (h k r1 r2 : Nat) (hk : k < cur.length) (hf : k + h < cur.length) (hev : k / h % 2 = 0)
    (h1 : ab .f32 r1 = add (ab .f32 (cur.getD k 0)) (ab .f32 (cur.getD (k + h) 0))) (h2 : ab .f32 r2 = sub (ab .f32 (cur.getD k 0)) (ab .f32 (cur.getD (k + h) 0))) :
    ((cur.set k r1).set (k + h) r2).map (ab .f32) = bstep h k (cur.map (ab .f32)) := by
  unfold bstep
  rw [if_pos hev, map_getD cur k hk, map_getD cur (k + h) hf, List.map_set, List.map_set, h1, h2]
theorem bstep_no (l : List FV) (h k : Nat) (hev : ¬ k / h % 2 = 0) : bstep h k l = l := by unfold bstep; rw [if_neg hev]

set_option maxHeartbeats 1000000 in
theorem sums_any (m : Nat) (hm : m ≤ 6) (xs : List Nat) (a : Option Addr) (c : Nat) (w : World) (hrd : RdF w a xs) (hn : xs.length = 2 ^ m) :
    Calls Try.prog 100 #[.slice a xs.length c] w fun e w' => ∃ v outs, e = .returned v ∧ OwnF w' w.heap.size v outs ∧ outs.map (ab .f32) = sumsV m (xs.map (ab .f32)) ∧ Below w.heap.size w w' := by
  have h64 : 2 ^ m ≤ 64 := by
    have := Nat.pow_le_pow_right (n := 2) (by omega) hm
    exact this
  have hp : 0 < 2 ^ m := Nat.pow_pos (by omega)
  have HR := Lib.hid hrd; clear hrd
  have HN := Lib.hid hn
  have hxl : xs.length ≤ 64 := by omega
  have hxp : 0 < xs.length := by omega
  clear hn
  go_enter Try.func100, Try.ntmps100
  go_wp2_with fail
  refine (clone_any xs a c w HR.out hxp (by omega)).mono ?_
  rintro e w1 ⟨v, rfl, ho, hb⟩
  obtain ⟨g, cap, rfl⟩ : ∃ g cap, v = .slice (some ⟨g, 0, none⟩) xs.length cap := by
    rcases ho.own with ⟨_, h⟩ | ⟨g, cap, h, _⟩
    · rw [h] at hxp; cases hxp
    · exact ⟨g, cap, h⟩
  have HO := Lib.hid ho
  have HB := Lib.hid hb
  clear ho hb
  go_wp2
  go_loopw [4] (fun h wr => ∃ e : Nat, e ≤ m ∧ h = .int .i64 ((2 ^ e : Nat) : Int) ∧ Below w.heap.size w wr ∧ Hid (∃ cur, cur.length = xs.length ∧ OwnF wr w.heap.size (.slice (some ⟨g, 0, none⟩) xs.length cap) cur ∧ cur.map (ab .f32) = outer (2 ^ m) e (xs.map (ab .f32)))) (fun h _ => xs.length - (intOf h).toNat)
  case atStart => exact ⟨0, Nat.zero_le _, rfl, HB.out, ⟨xs, rfl, HO.out, rfl⟩⟩
  case round =>
    clear HO HB
    obtain ⟨e, he, rfl, hbl, hcur⟩ := hrel
    obtain ⟨h, hh⟩ : ∃ h : Nat, h = 2 ^ e := ⟨_, rfl⟩
    rw [← hh]
    have hhp : 0 < h := by rw [hh]; exact Nat.pow_pos (by omega)
    have hhl : h ≤ 64 := by rw [hh]; exact Nat.le_trans (Nat.pow_le_pow_right (by omega) he) h64
    by_cases hlt : h < xs.length
    · have hem : e < m := by
        by_cases x : e < m
        · exact x
        · have : e = m := by omega
          rw [HN.out, hh, this] at hlt; omega
      have HH := Lib.hid hh; clear hh
      have HB := Lib.hid hbl; clear hbl
      obtain ⟨wo, hwo⟩ : ∃ wo : World, wo = wr := ⟨_, rfl⟩
      subst hwo
      go_wp2
      go_loopw [18] (fun i wi => ∃ k : Nat, k ≤ xs.length ∧ i = .int .i64 k ∧ Below w.heap.size w wi ∧ Hid (∃ cur, cur.length = xs.length ∧ OwnF wi w.heap.size (.slice (some ⟨g, 0, none⟩) xs.length cap) cur ∧ cur.map (ab .f32) = inner h k (outer (2 ^ m) e (xs.map (ab .f32))))) (fun i _ => xs.length - (intOf i).toNat)
      case atStart => exact ⟨0, Nat.zero_le _, rfl, HB.out, hcur.out⟩
      case round =>
        clear HB hcur
        obtain ⟨k, hk, rfl, hbl, hcur⟩ := hrel
        by_cases hklt : k < xs.length
        · have HB := Lib.hid hbl; clear hbl
          obtain ⟨cur, hcl, hco, hcm⟩ := hcur.out
          have hand := and_all e (by omega) k (by omega)
          rw [← HH.out] at hand
          have HCL := Lib.hid hcl
          have HCO := Lib.hid hco
          have HCM := Lib.hid hcm
          by_cases hev : k / h % 2 = 0
          · rw [decide_eq_true hev] at hand
            have hfit : k + h < xs.length := by rw [HN.out, HH.out]; exact fits_all m hm e hem k (by rw [← HN.out]; exact hklt) (by rw [← HH.out]; exact hev)
            have c1 := hco.at k (by omega)
            have c2 := hco.at (k + h) (by omega)
            have f1 := hco.fz k
            have f2 := hco.fz (k + h)
            obtain ⟨x, hx⟩ : ∃ x, x = cur.getD k 0 := ⟨_, rfl⟩
            obtain ⟨y, hy⟩ : ∃ y, y = cur.getD (k + h) 0 := ⟨_, rfl⟩
            rw [← hx] at c1
            rw [← hy] at c2
            have hne : ¬ h = 0 := by omega
            have HXY := Lib.hid (And.intro hx hy)
            have HEV := Lib.hid hev
            clear hx hy hcl hco hcm hev hcur
            go_wp2
            go_region
            all_goals go_wp2
            all_goals go_roundw
            all_goals first
              | (case rel =>
                  refine ⟨k + 1, by omega, by go_num, ((below_drewN' HB.out _).setCell (HCO.out.ltOf g rfl).1 _).setCell (HCO.out.ltOf g rfl).1 _, ?_⟩
                  refine ⟨(cur.set k _).set (k + h) _, by rw [List.length_set, List.length_set]; exact HCL.out, ((HCO.out.drew _).set HCL.out.symm k _).set (by rw [List.length_set]; exact HCL.out.symm) (k + h) _, ?_⟩
                  rw [bstep_yes cur h k _ _ (by rw [HCL.out]; exact hklt) (by rw [HCL.out]; exact hfit) HEV.out (by rw [ab_fres, HXY.out.1, HXY.out.2]; rfl) (by rw [ab_fres, HXY.out.1, HXY.out.2]; rfl), HCM.out]
                  rfl)
              | (case measure => simp [intOf]; omega)
          · rw [decide_eq_false hev] at hand
            have HEV := Lib.hid hev
            clear hcl hco hcm hev hcur
            go_wp2
            go_roundw
            case rel =>
              refine ⟨k + 1, by omega, by go_num, HB.out, cur, HCL.out, HCO.out, ?_⟩
              rw [HCM.out]
              exact (bstep_no _ h k HEV.out).symm
            case measure => simp [intOf]; omega
        · have ek : k = xs.length := by omega
          have HB := Lib.hid hbl; clear hbl
          have HK := Lib.hid ek
          clear ek
          go_wp2
          go_roundw
          case rel =>
            refine ⟨e + 1, hem, ?_, HB.out, ?_⟩
            · rw [Nat.pow_succ, ← HH.out]; go_num
            · obtain ⟨cur, h1, h2, h3⟩ := hcur.out
              exact ⟨cur, h1, h2, by rw [h3, HK.out, HN.out, HH.out]; rfl⟩
          case measure => simp [intOf]; omega
    · have ee : e = m := by
        by_cases x : e < m
        · have := Nat.pow_lt_pow_right (a := 2) (by omega) x
          rw [HN.out, hh] at hlt; omega
        · omega
      have HB := Lib.hid hbl; clear hbl
      rw [ee] at hcur
      have HH := Lib.hid hh
      clear ee hh
      go_wp2
      go_ret
      obtain ⟨cur, h1, h2, h3⟩ := hcur.out
      refine ⟨_, cur, rfl, ?_, h3, HB.out⟩
      exact h2
set_option maxHeartbeats 1000000 in
theorem l10Sums_any (m : Nat) (hm : m ≤ 6) (xs : List Nat) (a : Option Addr) (c : Nat) (w : World) (hrd : RdF w a xs) (hn : xs.length = 2 ^ m) :
    Calls Try.prog 98 #[.slice a xs.length c] w fun e w' => ∃ v outs, e = .returned v ∧ OwnF w' w.heap.size v outs ∧ outs.map (ab .f32) = sumsV m (xs.map (ab .f32)) ∧ Below w.heap.size w w' := by
  have h64 : 2 ^ m ≤ 64 := by
    have := Nat.pow_le_pow_right (n := 2) (by omega) hm
    exact this
  have hp : 0 < 2 ^ m := Nat.pow_pos (by omega)
  have HR := Lib.hid hrd; clear hrd
  have HN := Lib.hid hn
  have hxl : xs.length ≤ 64 := by omega
  have hxp : 0 < xs.length := by omega
  clear hn
  go_enter Try.func98, Try.ntmps98
  go_wp2_with (at_builtin; refine appendAll (w0 := w) rfl (.tmp 8) (.tmp 9) ?h3 xs a c hxp ?h4 ?h5 HR.out (by omega) ?_; (case h3 => rfl); (case h4 => rfl); (case h5 => rfl); intro v w1 hO hB; have HO := Lib.hid hO; have HB := Lib.hid hB; clear hO hB)
  have ho := HO.out
  have HO2 := HO
  obtain ⟨g, cap, rfl⟩ : ∃ g cap, v = .slice (some ⟨g, 0, none⟩) xs.length cap := by
    rcases ho.own with ⟨_, h⟩ | ⟨g, cap, h, _⟩
    · rw [h] at hxp; cases hxp
    · exact ⟨g, cap, h⟩
  clear ho HO2
  go_wp2
  go_loopw [4] (fun h wr => ∃ e : Nat, e ≤ m ∧ h = .int .i64 ((2 ^ e : Nat) : Int) ∧ Below w.heap.size w wr ∧ Hid (∃ cur, cur.length = xs.length ∧ OwnF wr w.heap.size (.slice (some ⟨g, 0, none⟩) xs.length cap) cur ∧ cur.map (ab .f32) = outer (2 ^ m) e (xs.map (ab .f32)))) (fun h _ => xs.length - (intOf h).toNat)
  case atStart => exact ⟨0, Nat.zero_le _, rfl, HB.out, ⟨xs, rfl, HO.out, rfl⟩⟩
  case round =>
    clear HO HB
    obtain ⟨e, he, rfl, hbl, hcur⟩ := hrel
    obtain ⟨h, hh⟩ : ∃ h : Nat, h = 2 ^ e := ⟨_, rfl⟩
    rw [← hh]
    have hhp : 0 < h := by rw [hh]; exact Nat.pow_pos (by omega)
    have hhl : h ≤ 64 := by rw [hh]; exact Nat.le_trans (Nat.pow_le_pow_right (by omega) he) h64
    by_cases hlt : h < xs.length
    · have hem : e < m := by
        by_cases x : e < m
        · exact x
        · have : e = m := by omega
          rw [HN.out, hh, this] at hlt; omega
      have HH := Lib.hid hh; clear hh
      have HB := Lib.hid hbl; clear hbl
      obtain ⟨wo, hwo⟩ : ∃ wo : World, wo = wr := ⟨_, rfl⟩
      subst hwo
      go_wp2
      go_loopw [5] (fun i wi => ∃ k : Nat, k ≤ xs.length ∧ i = .int .i64 k ∧ Below w.heap.size w wi ∧ Hid (∃ cur, cur.length = xs.length ∧ OwnF wi w.heap.size (.slice (some ⟨g, 0, none⟩) xs.length cap) cur ∧ cur.map (ab .f32) = inner h k (outer (2 ^ m) e (xs.map (ab .f32))))) (fun i _ => xs.length - (intOf i).toNat)
      case atStart => exact ⟨0, Nat.zero_le _, rfl, HB.out, hcur.out⟩
      case round =>
        clear HB hcur
        obtain ⟨k, hk, rfl, hbl, hcur⟩ := hrel
        by_cases hklt : k < xs.length
        · have HB := Lib.hid hbl; clear hbl
          obtain ⟨cur, hcl, hco, hcm⟩ := hcur.out
          obtain ⟨d, hd⟩ : ∃ d : Nat, d = k / h := ⟨_, rfl⟩
          have hdiv : (k : Int) / (h : Int) = (d : Int) := by rw [hd, Int.natCast_ediv]
          have hdb : d ≤ 64 := by rw [hd]; exact Nat.le_trans (Nat.div_le_self _ _) (by omega)
          have HCL := Lib.hid hcl
          have HCO := Lib.hid hco
          have HCM := Lib.hid hcm
          by_cases hev : k / h % 2 = 0
          · have hand : ((d : Int) % 2 == 0) = true := by rw [← hd] at hev; simp; omega
            clear hd
            have hfit : k + h < xs.length := by rw [HN.out, HH.out]; exact fits_all m hm e hem k (by rw [← HN.out]; exact hklt) (by rw [← HH.out]; exact hev)
            have c1 := hco.at k (by omega)
            have c2 := hco.at (k + h) (by omega)
            have f1 := hco.fz k
            have f2 := hco.fz (k + h)
            obtain ⟨x, hx⟩ : ∃ x, x = cur.getD k 0 := ⟨_, rfl⟩
            obtain ⟨y, hy⟩ : ∃ y, y = cur.getD (k + h) 0 := ⟨_, rfl⟩
            rw [← hx] at c1
            rw [← hy] at c2
            have hne : ¬ h = 0 := by omega
            have HXY := Lib.hid (And.intro hx hy)
            have HEV := Lib.hid hev
            clear hx hy hcl hco hcm hev hcur
            go_wp2
            go_region
            all_goals go_wp2
            all_goals go_roundw
            all_goals first
              | (case rel =>
                  refine ⟨k + 1, by omega, by go_num, (below_drewN' ((below_drewN' HB.out _).setCell (HCO.out.ltOf g rfl).1 _) _).setCell (HCO.out.ltOf g rfl).1 _, ?_⟩
                  refine ⟨(cur.set k _).set (k + h) _, by rw [List.length_set, List.length_set]; exact HCL.out, (((HCO.out.drew _).set HCL.out.symm k _).drew _).set (by rw [List.length_set]; exact HCL.out.symm) (k + h) _, ?_⟩
                  rw [bstep_yes cur h k _ _ (by rw [HCL.out]; exact hklt) (by rw [HCL.out]; exact hfit) HEV.out (by rw [ab_fres, HXY.out.1, HXY.out.2]; rfl) (by rw [ab_fres, HXY.out.1, HXY.out.2]; rfl), HCM.out]
                  rfl)
              | (case measure => simp [intOf]; omega)
          · have hand : ((d : Int) % 2 == 0) = false := by rw [← hd] at hev; simp; omega
            clear hd
            have HEV := Lib.hid hev
            clear hcl hco hcm hev hcur
            go_wp2
            go_roundw
            case rel =>
              refine ⟨k + 1, by omega, by go_num, HB.out, cur, HCL.out, HCO.out, ?_⟩
              rw [HCM.out]
              exact (bstep_no _ h k HEV.out).symm
            case measure => simp [intOf]; omega
        · have ek : k = xs.length := by omega
          have HB := Lib.hid hbl; clear hbl
          have HK := Lib.hid ek
          clear ek
          go_wp2
          go_roundw
          case rel =>
            refine ⟨e + 1, hem, ?_, HB.out, ?_⟩
            · rw [Nat.pow_succ, ← HH.out]; go_num
            · obtain ⟨cur, h1, h2, h3⟩ := hcur.out
              exact ⟨cur, h1, h2, by rw [h3, HK.out, HN.out, HH.out]; rfl⟩
          case measure => simp [intOf]; omega
    · have ee : e = m := by
        by_cases x : e < m
        · have := Nat.pow_lt_pow_right (a := 2) (by omega) x
          rw [HN.out, hh] at hlt; omega
        · omega
      have HB := Lib.hid hbl; clear hbl
      rw [ee] at hcur
      have HH := Lib.hid hh
      clear ee hh
      go_wp2
      go_ret
      obtain ⟨cur, h1, h2, h3⟩ := hcur.out
      refine ⟨_, cur, rfl, ?_, h3, HB.out⟩
      exact h2
end Go.Proofs.Ytphbjfijipcpnaa
