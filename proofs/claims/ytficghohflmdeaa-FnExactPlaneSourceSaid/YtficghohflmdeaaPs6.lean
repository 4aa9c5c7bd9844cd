/- Lists of waves: zeros made positive. -/
import Derived.Test.YtficghohflmdeaaPs5
namespace Go.Proofs.Ytficghohflmdeaa
open Go.RowKit
set_option linter.unusedVariables false

@[go_sem] theorem as_86_77 (v : Value) (w : World) : (Instr.typeAssert (.iface 86 v) 20 77 true).run Try.prog w = .ok (.tuple #[.pointer none, .bool false]) w := by kernel_rfl
@[go_sem] theorem as_86_76 (v : Value) (w : World) : (Instr.typeAssert (.iface 86 v) 20 76 true).run Try.prog w = .ok (.tuple #[.pointer none, .bool false]) w := by kernel_rfl
@[go_sem] theorem as_86_78 (v : Value) (w : World) : (Instr.typeAssert (.iface 86 v) 20 78 true).run Try.prog w = .ok (.tuple #[.pointer none, .bool false]) w := by kernel_rfl
@[go_sem] theorem as_86_79 (v : Value) (w : World) : (Instr.typeAssert (.iface 86 v) 20 79 true).run Try.prog w = .ok (.tuple #[.pointer none, .bool false]) w := by kernel_rfl
@[go_sem] theorem as_86_80 (v : Value) (w : World) : (Instr.typeAssert (.iface 86 v) 20 80 true).run Try.prog w = .ok (.tuple #[.pointer none, .bool false]) w := by kernel_rfl
@[go_sem] theorem as_86_83 (v : Value) (w : World) : (Instr.typeAssert (.iface 86 v) 20 83 true).run Try.prog w = .ok (.tuple #[.pointer none, .bool false]) w := by kernel_rfl
@[go_sem] theorem as_86_86 (v : Value) (w : World) : (Instr.typeAssert (.iface 86 v) 20 86 true).run Try.prog w = .ok (.tuple #[v, .bool true]) w := by kernel_rfl

theorem flatW_ext {ps : WL} {xs : List Value} (h : okW ps) (hl : xs.length = ps.length * 65) (hx : ∀ k j, k < ps.length → j < 65 → xs[k * 65 + j]? = (wavL (ps.getD k (0, [])).1 (ps.getD k (0, [])).2)[j]?) : xs = flatW ps := by
  apply List.ext_getElem?
  intro i
  by_cases hi : i < ps.length * 65
  · have h1 : i / 65 < ps.length := Nat.div_lt_of_lt_mul (by omega)
    have h2 : i % 65 < 65 := Nat.mod_lt _ (by decide)
    have h3 : i / 65 * 65 + i % 65 = i := by have := Nat.div_add_mod i 65; omega
    rw [← h3, hx _ _ h1 h2, flatW_get h h1 h2]
  · rw [List.getElem?_eq_none (by omega), List.getElem?_eq_none (by rw [flatW_length h]; omega)]

theorem okW.set {ps : WL} (h : okW ps) (k : Nat) {p : Int × List (Nat × Nat)} (hp : p.2.length = 64) : okW (ps.set k p) := by
  intro q hq
  rcases List.mem_or_eq_of_mem_set hq with h1 | h1
  · exact h q h1
  · rw [h1]; exact hp

theorem OwnW.stored {w : World} {B g c : Nat} {ps : WL} (h : OwnW w B (.slice (some ⟨g, 0, none⟩) ps.length c) ps) {k : Nat} (hk : k < ps.length) (n : Int) (l : List (Nat × Nat)) (hl : l.length = 64) :
    OwnW (w.setCells g (k * 65) (wavL n l)) B (.slice (some ⟨g, 0, none⟩) ps.length c) (ps.set k (n, l)) := by
  have hok := h.2.set k (p := (n, l)) hl
  refine ⟨⟨by rw [flatW_length hok, List.length_set], ?_⟩, hok⟩
  rcases h.1.2 with ⟨h1, _⟩ | ⟨g', cap, cur, hv, hb, hh, hn, hc, hs, ht⟩
  · cases h1
  · simp only [Value.slice.injEq, Option.some.injEq, Addr.mk.injEq, and_true, true_and] at hv
    obtain ⟨rfl, rfl⟩ := hv
    have hnew := setCells_heap g 29 (wavL n l) (k * 65) w cur hh
    obtain ⟨hf1, hf2⟩ := Great.foldl_set 0 (wavL n l) (k * 65) cur
    simp only [Nat.zero_add] at hf1 hf2
    refine .inr ⟨g, c, _, by rw [List.length_set], hb, hnew, by rw [List.length_set]; exact hn, hc, by rw [hf1]; exact hs, ?_⟩
    rw [List.length_set]
    refine flatW_ext hok ?_ ?_
    · have e1 := hf1
      rw [← Array.length_toList] at e1
      rw [List.length_set, List.length_take, e1, hs]
      have := Nat.mul_le_mul_right 65 hn; omega
    · intro q j hq hj
      rw [List.length_set] at hq
      have hlt : q * 65 + j < ps.length * 65 := by have := Nat.mul_le_mul_right 65 (by omega : q + 1 ≤ ps.length); omega
      have hltc : q * 65 + j < cur.size := by rw [hs]; have := Nat.mul_le_mul_right 65 hn; omega
      rw [List.getElem?_take, if_pos hlt, Array.getElem?_toList, hf2]
      have hold : cur[q * 65 + j]? = (wavL (ps.getD q (0, [])).1 (ps.getD q (0, [])).2)[j]? := by
        rw [← flatW_get h.2 hq hj, ← ht, List.getElem?_take, if_pos hlt, Array.getElem?_toList]
      rw [wavL_length, hl]
      by_cases e : q = k
      · subst e
        rw [if_pos (by omega)]
        have e2 : q * 65 + j - q * 65 = j := by omega
        rw [e2]
        simp [hq]
      · have hne : ¬ (k * 65 ≤ q * 65 + j ∧ q * 65 + j < k * 65 + (64 + 1) ∧ q * 65 + j < cur.size) := by omega
        rw [if_neg hne, hold]
        have e3 : (ps.set k (n, l)).getD q (0, []) = ps.getD q (0, []) := by
          rw [List.getD_eq_getElem?_getD, List.getD_eq_getElem?_getD, List.getElem?_set_ne (by omega)]
        rw [e3]
theorem grownBy_setCells (w : World) (g o : Nat) (vs : List Value) : w.grownBy (w.setCells g o vs) (some g) :=
  ⟨(setCells_rest g vs o w).1, (setCells_rest g vs o w).2.1, (setCells_rest g vs o w).2.2, by rw [setCells_size]; exact Nat.le_refl _, fun k _ hne => setCells_other k g (by intro e; exact hne (by rw [e])) vs o w⟩
theorem grownBy_refl (w : World) (r : Option Nat) : w.grownBy w r := ⟨rfl, rfl, rfl, Nat.le_refl _, fun _ _ _ => rfl⟩
theorem grownBy_trans {a b c : World} {r : Option Nat} (h : a.grownBy b r) (k : b.grownBy c r) : a.grownBy c r :=
  ⟨k.os.trans h.os, k.tape.trans h.tape, k.output.trans h.output, Nat.le_trans h.size k.size, fun j hj hne => (k.block j (Nat.lt_of_lt_of_le hj h.size) hne).trans (h.block j hj hne)⟩
theorem grownBy_below {a b : World} (r : Option Nat) (h : Below a.heap.size a b) : a.grownBy b r :=
  ⟨h.os, h.tape, h.output, h.size, fun j hj _ => h.block j hj⟩

def plP (p : Int × List (Nat × Nat)) : Int × List (Nat × Nat) := (p.1, p.2.map pn2)
theorem plP_set (ps : WL) (k : Nat) (hk : k < ps.length) : ((ps.take k).map plP ++ ps.drop k).set k (plP (ps.getD k (0, []))) = (ps.take (k + 1)).map plP ++ ps.drop (k + 1) := by
  have e2 : ((ps.take k).map plP).length = k := by simp; omega
  rw [List.set_append, if_neg (by omega), e2, List.drop_eq_getElem_cons hk, List.take_succ_eq_append_getElem hk]
  simp only [Nat.sub_self, List.set_cons_zero, List.map_append, List.map_cons, List.map_nil, List.append_assoc, List.singleton_append, List.getD_eq_getElem?_getD, List.getElem?_eq_getElem hk, Option.getD_some]
theorem plP_get (ps : WL) (k : Nat) (hk : k < ps.length) : ((ps.take k).map plP ++ ps.drop k).getD k (0, []) = ps.getD k (0, []) := by
  have e : ((ps.take k).map plP).length = k := by simp; omega
  rw [List.getD_eq_getElem?_getD, List.getElem?_append_right (by omega), e, Nat.sub_self, List.getElem?_drop]; simp
theorem plP_len (ps : WL) (k : Nat) : ((ps.take k).map plP ++ ps.drop k).length = ps.length := by simp; omega
theorem OwnW.kept {w w' : World} {B : Nat} {v : Value} {ps : WL} {row : Option Nat} (h : OwnW w B v ps) (hg : w.grownBy w' row) (hne : v.ownBlock = none ∨ v.ownBlock ≠ row) : OwnW w' B v ps := ⟨World.ownsRow.kept h.1 hg hne, h.2⟩
theorem Try.sizeWL {n : Int} {l : List (Nat × Nat)} (h : l.length = 64) : (Try.prog.info? 29).map (·.size) = some (wavL n l).length := by rw [(zero_of_info Try.infoW).2, wavL_length, h]
theorem OwnW.there {w : World} {B g c : Nat} {ps : WL} (h : OwnW w B (.slice (some ⟨g, 0, none⟩) ps.length c) ps) {k : Nat} (hk : k < ps.length) : w.there g (k * 65) 65 := fun j hj => by
  have h1 := h.2.at hk
  rw [World.ownsRow.cellAt h.1 (k * 65 + j) (by have := Nat.mul_le_mul_right 65 (by omega : k + 1 ≤ ps.length); omega), flatW_get h.2 hk hj]
  refine ⟨?_, World.ownsRow.frozenAt h.1 _⟩
  rw [List.getElem?_eq_getElem (by rw [wavL_length, h1]; exact hj)]; rfl

set_option maxRecDepth 10000 in
set_option maxHeartbeats 1000000 in
theorem plainListW_some (ps : WL) (g c B : Nat) (w : World) (hown : OwnW w B (.slice (some ⟨g, 0, none⟩) ps.length c) ps) (hl : ps.length ≤ 1000) :
    Calls Try.prog 81 #[.slice (some ⟨g, 0, none⟩) ps.length c] w fun e w' => e = .returned (.slice (some ⟨g, 0, none⟩) ps.length c) ∧
      OwnW w' B (.slice (some ⟨g, 0, none⟩) ps.length c) (ps.map plP) ∧ w.grownBy w' (some g) := by
  have hz := (zero_of_info Try.infoW).1
  have HO0 : Hid (OwnW w B (.slice (some ⟨g, 0, none⟩) ps.length c) ((ps.take 0).map plP ++ ps.drop 0)) := by show OwnW _ _ _ _; simpa using hown
  clear hown
  go_enter Try.func81, Try.ntmps81
  go_wp2
  go_loopw [3, 4, 7] (fun _ _ i wr => ∃ k : Nat, k ≤ ps.length ∧ i = .int .i64 k ∧ w.grownBy wr (some g) ∧ Hid (OwnW wr B (.slice (some ⟨g, 0, none⟩) ps.length c) ((ps.take k).map plP ++ ps.drop k))) (fun _ _ i _ => ps.length - (intOf i).toNat)
  case atStart => exact ⟨0, Nat.zero_le _, rfl, grownBy_refl _ _, HO0.out⟩
  case round =>
    clear HO0
    obtain ⟨k, hk, rfl, hgr, hown⟩ := hrel
    have HG := Lib.hid hgr
    obtain ⟨qs, hqs⟩ : ∃ qs, qs = (ps.take k).map plP ++ ps.drop k := ⟨_, rfl⟩
    have ho := hown.out
    rw [← hqs] at ho
    have hql : qs.length = ps.length := by rw [hqs]; exact plP_len ps k
    rw [← hql] at ho
    have HO := Lib.hid ho
    have HQS := Lib.hid hqs
    have HQL := Lib.hid hql
    clear hgr hown hqs ho hql
    by_cases hlt : k < ps.length
    · have hkq : k < qs.length := by rw [HQL.out]; exact hlt
      have R0 := Lib.hid (HO.out.range hkq)
      have hl64 := HO.out.2.at hkq
      have hget : qs.getD k (0, []) = ps.getD k (0, []) := by rw [HQS.out]; exact plP_get ps k hlt
      obtain ⟨p, hp⟩ : ∃ p, p = qs.getD k (0, []) := ⟨_, rfl⟩
      rw [← hp] at R0 hl64 hget
      obtain ⟨n, l⟩ := p
      have HL : Hid (l.length = 64) := hl64
      have R1 : Hid (wr.rangeAt g (k * 65) (wavL n l)) := R0.out
      have HGET := Lib.hid hget
      have hgl : g < wr.heap.size := (HO.out.lt g rfl).2
      have C3 := Lib.hid (Blk.new wr (wav 0 zerosC) 29)
      have C4 := Lib.hid (C3.out.row (wav n l))
      clear hl64 R0 hget hp
      go_wp2_with (first | (refine wpList_load_mid rfl 29 (.tmp 10) rfl g (k * 65) rfl (wavL n l) _ R1.out Try.underlying29 rfl (Try.sizeWL HL.out) ?_; rw [wavL_toArray]) | (refine wpList_store_row rfl 29 (.tmp 4) (.tmp 11) rfl wr.heap.size (wav n l) rfl rfl 29 (wav 0 zerosC) C3.out ?c1 ?c2 (wav_one n l) ?_; (case c1 => exact Try.sizeW HL.out); (case c2 => (rw [wav_size, wav_size, HL.out]; rfl))) | (refine wpList_load_row rfl 29 (.tmp 4) rfl wr.heap.size rfl 29 (wav n l) (0, 0) _ C4.out Try.underlying29 rfl (Try.sizeW HL.out) ?_))
      refine (plainW_any n l HL.out _).mono ?_
      rintro e w2 ⟨rfl, hb⟩
      have hg1 : wr.grownBy ((wr.alloc (.cells (wav 0 zerosC) 29)).setRow wr.heap.size (wav n l)) none :=
        ⟨rfl, rfl, rfl, by simp, fun j hj _ => (setRow_other _ _ j _ (by omega)).trans (heap_alloc_old wr _ hj)⟩
      have hg2 : wr.grownBy w2 none := grownBy_trans hg1 (grownBy_below none hb)
      have HO2 := Lib.hid (HO.out.kept hg2 (.inr (by simp [Value.ownBlock])))
      have HG2 : Hid (w.grownBy w2 (some g)) := grownBy_trans HG.out ⟨hg2.os, hg2.tape, hg2.output, hg2.size, fun j hj _ => hg2.block j hj (by simp)⟩
      have HTH := Lib.hid (HO2.out.there hkq)
      have hpl : (l.map pn2).length = 64 := by rw [List.length_map]; exact HL.out
      have HPL := Lib.hid hpl
      clear hb hg1 hg2 R1 C3 C4 hpl HO HG
      go_wp2_with (refine wpList_store_mid rfl 29 (.tmp 16) (.tmp 15) rfl g (k * 65) (wav n (l.map pn2)) rfl rfl ?c1 ?c2 (wav_one _ _) ?_; (case c1 => (rw [wav_size, HPL.out]; exact HTH.out)); (case c2 => exact Try.sizeW HPL.out))
      go_roundw
      case rel =>
        refine ⟨k + 1, by omega, by go_num, grownBy_trans HG2.out (grownBy_setCells _ _ _ _), ?_⟩
        have hs := HO2.out.stored hkq n (l.map pn2) HPL.out
        have e : qs.set k (n, l.map pn2) = (ps.take (k + 1)).map plP ++ ps.drop (k + 1) := by
          rw [HQS.out, ← plP_set ps k hlt, ← HGET.out]; rfl
        rw [e, HQL.out] at hs
        exact hs
      case measure => simp [intOf]; omega
    · have e : k = ps.length := by omega
      have HOF : Hid (OwnW wr B (.slice (some ⟨g, 0, none⟩) ps.length c) (ps.map plP)) := by
        have h := HO.out
        rw [HQL.out, HQS.out, e] at h
        show OwnW _ _ _ _
        simpa using h
      clear e HO
      go_wp2
      go_ret
      exact ⟨rfl, HOF.out, HG.out⟩

theorem plainListW_nil (w : World) : Calls Try.prog 81 #[.slice none 0 0] w fun e w' => e = .returned (.slice none 0 0) ∧ w = w' := by
  go_enter Try.func81, Try.ntmps81
  go_wp2
  go_rounds 1
  go_ret
  exact ⟨rfl, rfl⟩

theorem plainListW_any (ps : WL) (v : Value) (B : Nat) (w : World) (hown : OwnW w B v ps) (hl : ps.length ≤ 1000) :
    Calls Try.prog 81 #[v] w fun e w' => e = .returned v ∧ OwnW w' B v (ps.map plP) ∧ w.grownBy w' v.ownBlock := by
  rcases hown.form with ⟨rfl, rfl⟩ | ⟨g, c, rfl⟩
  · refine (plainListW_nil w).mono ?_
    rintro e w' ⟨rfl, rfl⟩
    exact ⟨rfl, hown, grownBy_refl _ _⟩
  · exact plainListW_some ps g c B w hown hl

set_option maxRecDepth 100000 in
theorem plainWS_any (ps : WL) (v : Value) (B : Nat) (w : World) (hown : OwnW w B v ps) (hl : ps.length ≤ 1000) :
    Calls Try.prog 73 #[v] w fun e w' => e = .returned v ∧ OwnW w' B v (ps.map plP) ∧ w.grownBy w' v.ownBlock := by
  obtain ⟨a, c, rfl⟩ : ∃ a c, v = .slice a ps.length c := by
    rcases hown.form with ⟨rfl, rfl⟩ | ⟨g, c, rfl⟩
    · exact ⟨none, 0, rfl⟩
    · exact ⟨_, c, rfl⟩
  have hO := Lib.hid (hown.below ((Below.refl w.heap.size w).alloc (Nat.le_refl _) (.cells #[.slice a ps.length c] 57)))
  have hne : Hid (∀ k, (Value.slice a ps.length c).ownBlock = some k → k < w.heap.size) := fun k hk => (hown.lt k hk).2
  clear hown
  go_enter Try.func73, Try.ntmps73
  go_wp2_with fail
  refine (plainListW_any ps _ B _ hO.out hl).mono ?_
  rintro e w1 ⟨rfl, hO1, hg1⟩
  have hnb : some w.heap.size ≠ (Value.slice a ps.length c).ownBlock := fun e => Nat.lt_irrefl _ (hne.out _ e.symm)
  have hblk : w1.heap[w.heap.size]? = some (.cells #[.slice a ps.length c] 57) := by
    rw [hg1.block w.heap.size (by simp) hnb]; exact heap_alloc_new w _
  have hc1 : w1.cell? ⟨w.heap.size, 0, none⟩ = some (.slice a ps.length c) := by
    rw [cell_of_row w1 _ 0 _ _ _ hblk]; rfl
  have hf1 : w1.frozen? ⟨w.heap.size, 0, none⟩ = false := frozen_of_row w1 _ 0 _ _ hblk
  have HB := Lib.hid hblk
  have H1 := Lib.hid hO1
  have H2 := Lib.hid hg1
  have H3 := Lib.hid hnb
  clear hblk hO1 hg1 hnb
  go_wp2
  go_ret
  have hg3 : w1.grownBy (w1.setCell ⟨w.heap.size, 0, none⟩ (.slice a ps.length c)) (some w.heap.size) := ⟨rfl, rfl, rfl, by simp, fun j hj hne => Below.heap_setCell _ _ _ _ (fun e => hne (by rw [e]))⟩
  refine ⟨rfl, H1.out.kept hg3 ?_, ⟨H2.out.os, H2.out.tape, H2.out.output, ?_, fun j hj hne' => ?_⟩⟩
  · cases a with
    | none => exact .inl rfl
    | some p => exact .inr (fun e => H3.out e.symm)
  · have := H2.out.size
    simp only [World.size_alloc] at this
    simp only [World.size_setCell]; omega
  · rw [Below.heap_setCell _ _ _ _ (by exact Nat.ne_of_lt hj), H2.out.block j (by simp; omega) hne', Below.heap_alloc w _ j hj]

theorem wpList_buildW {ops : Array Oper} {rest : List Oper} {o : Oper} {a : Act} {w : World} {Q : Exit → Act → World → Prop} (hg : o.guard = none) (x : Operand) (ho : o.op = .buildSlice 57 1 #[(0, x)])
    (n : Int) (l : List (Nat × Nat)) (hl : l.length = 64) (hx : a.eval x = .agg (wav n l))
    (h : wpList Try.prog ops Q rest (a.put o.dst (.slice (some ⟨w.heap.size, 0, none⟩) 1 1)) (w.alloc (.cells (wav n l) 29))) : wpList Try.prog ops Q (o :: rest) a w :=
  wpList_plain hg fun _ hK => wp_buildW x ho n l hl hx (hK _ _ h)
theorem wpList_appendW {w0 : World} {ops : Array Oper} {rest : List Oper} {o : Oper} {a : Act} {Q : Exit → Act → World → Prop} (hg : o.guard = none) (s x : Operand)
    (ho : o.op = .call { callee := .builtin .append, args := #[s, x], argTypes := #[57, 57] }) (B : Nat) (v : Value) (ps : WL) (n : Int) (l : List (Nat × Nat)) (hl : l.length = 64)
    (hs : a.eval s = v) (hown : OwnW w0 B v ps) (hx : a.eval x = .slice (some ⟨w0.heap.size, 0, none⟩) 1 1) (hp : ps.length ≤ 1000) (hb : B ≤ w0.heap.size)
    (h : ∀ v' w', OwnW w' B v' (ps ++ [(n, l)]) → (∃ g c, v' = .slice (some ⟨g, 0, none⟩) (ps.length + 1) c) → w0.grownBy w' v.ownBlock → wpList Try.prog ops Q rest (a.put o.dst v') w') :
    wpList Try.prog ops Q (o :: rest) a (w0.alloc (.cells (wav n l) 29)) :=
  wpList_plain hg fun _ hK => wp_appendW s x ho B v ps n l hl hs hown hx hp hb (fun v' w' h1 h2 h3 => hK _ _ (h v' w' h1 h2 h3))

theorem plP_take {ps : WL} {k : Nat} (hk : k < ps.length) : (ps.take (k + 1)).map plP = (ps.take k).map plP ++ [plP (ps.getD k (0, []))] := by
  rw [List.take_succ_eq_append_getElem hk, List.map_append]
  simp [hk]

set_option maxRecDepth 10000 in
set_option maxHeartbeats 1000000 in
theorem plusWS_any (ps : WL) (v : Value) (B : Nat) (w : World) (hown : OwnW w B v ps) (hl : ps.length ≤ 1000) :
    Calls Try.prog 71 #[v] w fun e w' => ∃ v', e = .returned v' ∧ OwnW w' w.heap.size v' (ps.map plP) ∧ Below w.heap.size w w' := by
  obtain ⟨a, c, rfl⟩ : ∃ a c, v = .slice a ps.length c := by
    rcases hown.form with ⟨rfl, rfl⟩ | ⟨g, c, rfl⟩
    · exact ⟨none, 0, rfl⟩
    · exact ⟨_, c, rfl⟩
  have HOWN := Lib.hid hown
  have HM := Lib.hid (OwnW.made w)
  clear hown
  go_enter Try.func71, Try.ntmps71
  go_wp2
  go_loopw [3, 4] (fun s3 i wr => ∃ k : Nat, k ≤ ps.length ∧ i = .int .i64 k ∧ Below w.heap.size w wr ∧ Hid (OwnW wr w.heap.size s3 ((ps.take k).map plP))) (fun _ i _ => ps.length - (intOf i).toNat)
  case atStart => exact ⟨0, Nat.zero_le _, rfl, (Below.refl _ _).alloc (Nat.le_refl _) _, HM.out⟩
  case round =>
    clear HM
    obtain ⟨k, hk, rfl, hbl, hown⟩ := hrel
    have HB := Lib.hid hbl
    have HO := Lib.hid hown.out
    clear hbl hown
    by_cases hlt : k < ps.length
    · rcases HOWN.out.form with ⟨h1, h2⟩ | ⟨g, c', h1⟩
      · rw [h2] at hlt; cases hlt
      · simp only [Value.slice.injEq, true_and] at h1
        obtain ⟨rfl, rfl⟩ := h1
        have R0 := Lib.hid ((HOWN.out.below HB.out).range hlt)
        have hl64 := HOWN.out.2.at hlt
        obtain ⟨p, hp⟩ : ∃ p, p = ps.getD k (0, []) := ⟨_, rfl⟩
        rw [← hp] at R0 hl64
        obtain ⟨n, l⟩ := p
        have HL : Hid (l.length = 64) := hl64
        have R1 : Hid (wr.rangeAt g (k * 65) (wavL n l)) := R0.out
        have HGET := Lib.hid hp
        have HSZ := Lib.hid HB.out.size
        clear hl64 R0 hp
        go_wp2_with (refine wpList_load_mid rfl 29 (.tmp 15) rfl g (k * 65) rfl (wavL n l) _ R1.out Try.underlying29 rfl (Try.sizeWL HL.out) ?_; rw [wavL_toArray])
        refine (plusW_any n l HL.out _).mono ?_
        rintro e w2 ⟨rfl, hb⟩
        have HB2 := Lib.hid (HB.out.trans (hb.mono HB.out.size))
        have HO2 := Lib.hid (HO.out.below hb)
        have HPL : Hid ((l.map pn2).length = 64) := by show _ = _; rw [List.length_map]; exact HL.out
        clear hb R1 HO HB
        go_wp2_with (first | (refine wpList_buildW rfl (.tmp 17) rfl n (l.map pn2) HPL.out rfl ?_) | (at_builtin; refine wpList_appendW (w0 := w2) rfl (.tmp 12) (.tmp 18) ?h3 w.heap.size u3 ((ps.take k).map plP) n (l.map pn2) HPL.out ?h4 HO2.out ?h5 ?c1 HB2.out.size ?_; (case h3 => rfl); (case h4 => rfl); (case h5 => rfl); (case c1 => (simp; omega)); intro v' w3 hO hv' hG; have HO3 := Lib.hid hO; have HG3 := Lib.hid hG; clear hO hv' hG))
        go_roundw
        case rel =>
          refine ⟨k + 1, by omega, by go_num, HB2.out.grown HG3.out HB2.out.size (fun j hj => (HO2.out.lt j hj).1), ?_⟩
          rw [plP_take hlt, ← HGET.out]
          exact HO3.out
        case measure => simp [intOf]; omega
    · have e : k = ps.length := by omega
      have HOF : Hid (OwnW wr w.heap.size u3 (ps.map plP)) := by
        have h := HO.out
        rw [e, List.take_length] at h
        exact h
      clear e HO
      go_wp2
      go_ret
      exact ⟨u3, rfl, HOF.out, HB.out⟩
end Go.Proofs.Ytficghohflmdeaa
