/- Lists of waves of one's own: read, grown. -/
import Derived.Test.YtficghohflmdeaaPs2
import Derived.Deep.AppendLies
import Derived.Great.BuildSlice
import Derived.Deep.RegionHeld
namespace Go.Proofs.Ytficghohflmdeaa
open Go.RowKit
set_option linter.unusedVariables false

/-- a wave's cells -/
def wavL (n : Int) (l : List (Nat × Nat)) : List Value := .int .i64 n :: l.map cx
theorem wavL_toArray (n : Int) (l : List (Nat × Nat)) : (wavL n l).toArray = wav n l := rfl
theorem wavL_length (n : Int) (l : List (Nat × Nat)) : (wavL n l).length = l.length + 1 := by simp [wavL]
abbrev WL := List (Int × List (Nat × Nat))
def flatW (ps : WL) : List Value := ps.flatMap fun p => wavL p.1 p.2
def okW (ps : WL) : Prop := ∀ p ∈ ps, p.2.length = 64
theorem okW.append {ps : WL} {p : Int × List (Nat × Nat)} (h : okW ps) (hp : p.2.length = 64) : okW (ps ++ [p]) := by
  intro q hq
  rcases List.mem_append.1 hq with h1 | h1
  · exact h q h1
  · rw [List.mem_singleton.1 h1]; exact hp
theorem okW.at {ps : WL} (h : okW ps) {k : Nat} (hk : k < ps.length) : (ps.getD k (0, [])).2.length = 64 := by
  have e : ps.getD k (0, []) = ps[k] := by simp [hk]
  rw [e]; exact h _ (List.getElem_mem hk)
theorem flatW_length : ∀ {ps : WL}, okW ps → (flatW ps).length = ps.length * 65
  | [], _ => rfl
  | p :: ps, h => by
    have h1 := h p List.mem_cons_self
    have h2 := flatW_length (ps := ps) (fun q hq => h q (List.mem_cons_of_mem _ hq))
    show (wavL p.1 p.2 ++ flatW ps).length = _
    rw [List.length_append, wavL_length, h1, h2, List.length_cons, Nat.add_mul]; omega
theorem flatW_get : ∀ {ps : WL}, okW ps → ∀ {k j : Nat}, k < ps.length → j < 65 → (flatW ps)[k * 65 + j]? = (wavL (ps.getD k (0, [])).1 (ps.getD k (0, [])).2)[j]?
  | [], _, _, _, h, _ => by cases h
  | p :: ps, h, k, j, hk, hj => by
    have h1 := h p List.mem_cons_self
    show (wavL p.1 p.2 ++ flatW ps)[k * 65 + j]? = _
    cases k with
    | zero =>
      rw [List.getElem?_append_left (by rw [wavL_length, h1]; omega)]
      simp
    | succ k =>
      rw [List.getElem?_append_right (by rw [wavL_length, h1]; omega), wavL_length, h1]
      have e : (k + 1) * 65 + j - (64 + 1) = k * 65 + j := by omega
      rw [e, flatW_get (ps := ps) (fun q hq => h q (List.mem_cons_of_mem _ hq)) (by simpa using hk) hj]
      simp
theorem flatW_append (ps : WL) (p : Int × List (Nat × Nat)) : flatW (ps ++ [p]) = flatW ps ++ wavL p.1 p.2 := by simp [flatW]
theorem wavL_one (n : Int) (l : List (Nat × Nat)) : ∀ u ∈ wavL n l, u.oneCell' = true := by
  intro u hu
  simp only [wavL, List.mem_cons, List.mem_map] at hu
  rcases hu with rfl | ⟨b, _, rfl⟩ <;> rfl

def OwnW (w : World) (B : Nat) (v : Value) (ps : WL) : Prop := w.ownsRow B 29 65 v ps.length (flatW ps) ∧ okW ps
theorem OwnW.below {w w' : World} {B : Nat} {v : Value} {ps : WL} (h : OwnW w B v ps) (hb : Below w.heap.size w w') : OwnW w' B v ps := by
  refine ⟨⟨h.1.1, ?_⟩, h.2⟩
  rcases h.1.2 with h2 | ⟨g, cap, cur, hv, hg, hh, r⟩
  · exact .inl h2
  · exact .inr ⟨g, cap, cur, hv, hg, by rw [hb.block g (Array.getElem?_eq_some_iff.1 hh).1]; exact hh, r⟩
theorem OwnW.out {w w' : World} {B lo hi : Nat} {v : Value} {ps : WL} (h : OwnW w B v ps) (ho : Out lo hi w w') (hv : ∀ g, v.ownBlock = some g → g < lo ∨ hi ≤ g) : OwnW w' B v ps := by
  refine ⟨⟨h.1.1, ?_⟩, h.2⟩
  rcases h.1.2 with h2 | ⟨g, cap, cur, rfl, hg, hh, r⟩
  · exact .inl h2
  · exact .inr ⟨g, cap, cur, rfl, hg, by rw [ho.block g (Array.getElem?_eq_some_iff.1 hh).1 (hv g rfl)]; exact hh, r⟩
theorem OwnW.mono {w : World} {B B' : Nat} {v : Value} {ps : WL} (h : OwnW w B v ps) (hB : B' ≤ B) : OwnW w B' v ps := by
  refine ⟨⟨h.1.1, ?_⟩, h.2⟩
  rcases h.1.2 with h2 | ⟨g, cap, cur, hv, hg, r⟩
  · exact .inl h2
  · exact .inr ⟨g, cap, cur, hv, by omega, r⟩
theorem OwnW.lt {w : World} {B : Nat} {v : Value} {ps : WL} (h : OwnW w B v ps) : ∀ g, v.ownBlock = some g → B ≤ g ∧ g < w.heap.size := World.ownsRow.lt h.1
theorem OwnW.nil (w : World) (B : Nat) : OwnW w B (.slice none 0 0) [] := ⟨World.ownsRow_nil _ _ _ _, fun p h => by cases h⟩
theorem OwnW.made (w : World) : OwnW (w.alloc (.cells #[] 29)) w.heap.size (.slice (some ⟨w.heap.size, 0, none⟩) 0 0) [] :=
  ⟨World.ownsRow_made w #[] 0 (Nat.le_refl _) (Nat.zero_le _) rfl, fun p h => by cases h⟩
theorem OwnW.form {w : World} {B : Nat} {v : Value} {ps : WL} (h : OwnW w B v ps) : (v = .slice none 0 0 ∧ ps = []) ∨ ∃ g c, v = .slice (some ⟨g, 0, none⟩) ps.length c := by
  rcases h.1.2 with ⟨h1, h2⟩ | ⟨g, cap, cur, h1, _⟩
  · exact .inl ⟨h1, List.eq_nil_of_length_eq_zero h2⟩
  · exact .inr ⟨g, cap, h1⟩
theorem OwnW.range {w : World} {B g c : Nat} {ps : WL} (h : OwnW w B (.slice (some ⟨g, 0, none⟩) ps.length c) ps) {k : Nat} (hk : k < ps.length) : w.rangeAt g (k * 65) (wavL (ps.getD k (0, [])).1 (ps.getD k (0, [])).2) := by
  intro j v hj
  have h1 := h.2.at hk
  have hj65 : j < 65 := by
    have := (List.getElem?_eq_some_iff.1 hj).1
    rw [wavL_length, h1] at this; omega
  rw [World.ownsRow.cellAt h.1 (k * 65 + j) (by have := Nat.mul_le_mul_right 65 (by omega : k + 1 ≤ ps.length); omega), flatW_get h.2 hk hj65]
  exact hj

theorem Try.infoWb : (Try.prog.info? 29).map (fun i => (i.zero, i.size, i.bytes)) = some (some (.agg (wav 0 zerosC)), 65, 520) := by kernel_rfl
theorem zeroW_size : (Value.agg (wav 0 zerosC)).cells.size = 65 := by rw [show (Value.agg (wav 0 zerosC)).cells = wav 0 zerosC from rfl, wav_size, zerosC_length]
theorem fillW (n : Int) (l : List (Nat × Nat)) (hl : l.length = 64) (z : Array Value) (hz : z.size = 65) : Instr.fill (fun i => some (i * 65, 65)) z [(0, Value.agg (wav n l))] = some (wav n l) := by
  have h := Great.fill_whole (s := 65) (by decide) [Value.agg (wav n l)] z (by
    intro v hv
    rw [List.mem_singleton.1 hv]
    show (wav n l).size = 65
    rw [wav_size, hl]) (by simp [hz])
  refine h.trans ?_
  simp [Value.cells]

/-- a wave laid into a list of one -/
theorem wp_buildW {o : Oper} {a : Act} {w : World} {K : Act → World → Prop} {Q : Exit → Act → World → Prop} (x : Operand) (ho : o.op = .buildSlice 57 1 #[(0, x)])
    (n : Int) (l : List (Nat × Nat)) (hl : l.length = 64) (hx : a.eval x = .agg (wav n l))
    (h : K (a.put o.dst (.slice (some ⟨w.heap.size, 0, none⟩) 1 1)) (w.alloc (.cells (wav n l) 29))) : o.wp Try.prog a w K Q := by
  obtain ⟨i0, hi, hz0, hz1, hz2⟩ := info_parts Try.infoWb
  refine wp_buildSlice 57 29 1 #[(0, x)] ho (wav n l) i0 (.agg (wav 0 zerosC)) Try.underlying57 hi hz0 (by rw [hz1]; decide) (by rw [hz1]; decide) ?_ h
  have e : ((#[(0, x)] : Array (Nat × Operand)).map fun (i, x) => (i, a.eval x)).toList = [(0, Value.agg (wav n l))] := by simp [hx]
  rw [e, hz1]
  exact fillW n l hl _ (by simp)

/-- a wave behind a list of one's own; the wave lies in the block that was laid last -/
theorem wp_appendW {w0 : World} {o : Oper} {a : Act} {K : Act → World → Prop} {Q : Exit → Act → World → Prop} (s x : Operand)
    (ho : o.op = .call { callee := .builtin .append, args := #[s, x], argTypes := #[57, 57] }) (B : Nat) (v : Value) (ps : WL) (n : Int) (l : List (Nat × Nat)) (hl : l.length = 64)
    (hs : a.eval s = v) (hown : OwnW w0 B v ps) (hx : a.eval x = .slice (some ⟨w0.heap.size, 0, none⟩) 1 1) (hp : ps.length ≤ 1000) (hb : B ≤ w0.heap.size)
    (h : ∀ v' w', OwnW w' B v' (ps ++ [(n, l)]) → (∃ g c, v' = .slice (some ⟨g, 0, none⟩) (ps.length + 1) c) → w0.grownBy w' v.ownBlock → K (a.put o.dst v') w') :
    o.wp Try.prog a (w0.alloc (.cells (wav n l) 29)) K Q := by
  obtain ⟨i0, hi, hz0, hz1, hz2⟩ := info_parts Try.infoWb
  refine wp_append_lies _ s x 57 ho B 29 i0 (.agg (wav 0 zerosC)) 65 520 Try.underlying57 hi hz0 hz1 hz2 zeroW_size (by decide) v ps.length (flatW ps) hs (World.ownsRow.alloc hown.1 _) ⟨w0.heap.size, 0, none⟩ 1 1 (wavL n l) hx (by rw [wavL_length, hl]) (World.news_of_block (heap_alloc_new w0 _)) (wavL_one n l) (by decide) (by unfold maxLen; omega) (by omega) (by simp; omega) _ rfl ?_
  intro g c w' h1 h2 _ _
  refine h _ w' ⟨?_, hown.2.append hl⟩ ⟨g, c, rfl⟩ ⟨h2.os, h2.tape, h2.output, by have := h2.size; simp at this; omega, fun k hk hne => (h2.block k (by simp; omega) hne).trans (heap_alloc_old w0 _ hk)⟩
  rw [List.length_append, flatW_append]; exact h1
end Go.Proofs.Ytficghohflmdeaa
