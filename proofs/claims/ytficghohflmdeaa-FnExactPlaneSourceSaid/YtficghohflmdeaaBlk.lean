/- Rows in memory (seat B's base: as seat A's XPic, XPic2, XPS2). -/
import Derived.Test.YtficghohflmdeaaRows
import Derived.Test.YtficghohflmdeaaFlo
import Derived.WalkKit
import Derived.WalkLawsBesides
import Derived.WalkSpells
import Derived.Deep.QuietTactic
import Derived.BigQuiet
import Derived.Handy
import Derived.Outline
import Derived.Deep.RegionWith
import Derived.Deep.Cut
import Derived.Deep.CutRange
import Derived.Deep.LoopGhost
import Derived.Lib.Hide
import Derived.IntWalk
import Derived.Deep.MidRow
import Derived.Deep.WholeRow
namespace Go.Proofs.Ytficghohflmdeaa
open Go.RowKit
set_option linter.unusedVariables false

theorem ret_bool {a b : Bool} (h : a = b) : Ending.returned (.bool a) = .returned (.bool b) := by rw [h]
theorem ret_int {k : IntKind} {a b : Int} (h : a = b) : Ending.returned (.int k a) = .returned (.int k b) := by rw [h]

def Quiet (w w' : World) : Prop := ∃ n, w' = w.drewN n
theorem Quiet.refl (w : World) : Quiet w w := ⟨0, rfl⟩

theorem below_drewN' {B : Nat} {a w : World} (h : Below B a w) (n : Nat) : Below B a (w.drewN n) := ⟨h.os, h.tape, h.output, h.size, h.block⟩

/-- block g is the row c -/
def Blk (w : World) (g : Nat) (c : Array Value) (t : TypeId) : Prop := w.heap[g]? = some (.cells c t (0, 0))
section
variable {w w' : World} {g : Nat} {c : Array Value} {t : TypeId}
theorem Blk.set (h : Blk w g c t) (i : Nat) (v : Value) : Blk (w.setCell ⟨g, i, none⟩ v) g (c.setIfInBounds i v) t := heap_setCell_same w g i c t v h
theorem Blk.other (h : Blk w g c t) {k : Nat} (hk : g ≠ k) (i : Nat) (v : Value) : Blk (w.setCell ⟨k, i, none⟩ v) g c t := by
  unfold Blk; rw [heap_setCell_other w _ g v (by exact hk)]; exact h
theorem Blk.row (h : Blk w g c t) (c' : Array Value) : Blk (w.setRow g c') g c' t := setRow_heap w g c c' t (0, 0) h
theorem Blk.rowOther (h : Blk w g c t) {k : Nat} (hk : g ≠ k) (c' : Array Value) : Blk (w.setRow k c') g c t := by
  unfold Blk; rw [setRow_other w k g c' hk]; exact h
theorem Blk.new (w : World) (c : Array Value) (t : TypeId) : Blk (w.alloc (.cells c t)) w.heap.size c t := heap_alloc_new w _
theorem Blk.lt (h : Blk w g c t) : g < w.heap.size := (Array.getElem?_eq_some_iff.1 h).1
theorem Blk.alloc (h : Blk w g c t) (o : Obj) : Blk (w.alloc o) g c t := by unfold Blk; rw [heap_alloc_old w o h.lt]; exact h
theorem Blk.below (h : Blk w g c t) (hb : Below w.heap.size w w') : Blk w' g c t := by unfold Blk; rw [hb.block g h.lt]; exact h
theorem Blk.drewN (h : Blk w g c t) (n : Nat) : Blk (w.drewN n) g c t := h
theorem Blk.frozen (h : Blk w g c t) (i : Nat) : w.frozen? ⟨g, i, none⟩ = false := frozen_of_row w g i c t h
theorem Blk.cell (h : Blk w g c t) (i : Nat) : w.cell? ⟨g, i, none⟩ = c[i]? := cell_of_row w g i c t (0, 0) h
end

theorem Below.setRow {B : Nat} {a w : World} (h : Below B a w) {g : Nat} (hg : B ≤ g) (c : Array Value) : Below B a (w.setRow g c) :=
  ⟨h.os, h.tape, h.output, by simp; exact h.size, fun k hk => (setRow_other w g k c (by omega)).trans (h.block k hk)⟩

theorem blk3 (w : World) (a b c : Obj) : (((w.alloc a).alloc b).alloc c).heap[w.heap.size]? = some a ∧ (((w.alloc a).alloc b).alloc c).heap[w.heap.size + 1]? = some b ∧ (((w.alloc a).alloc b).alloc c).heap[w.heap.size + 1 + 1]? = some c := by
  have e1 : (w.alloc a).heap.size = w.heap.size + 1 := by simp
  have e2 : ((w.alloc a).alloc b).heap.size = w.heap.size + 1 + 1 := by simp
  refine ⟨?_, ?_, ?_⟩
  · rw [heap_alloc_old _ _ (by omega), heap_alloc_old _ _ (by omega)]; exact heap_alloc_new w a
  · rw [heap_alloc_old _ _ (by omega), ← e1]; exact heap_alloc_new _ b
  · rw [← e2]; exact heap_alloc_new _ c

theorem blk2 (w : World) (a b : Obj) : ((w.alloc a).alloc b).heap[w.heap.size]? = some a ∧ ((w.alloc a).alloc b).heap[w.heap.size + 1]? = some b := by
  have e1 : (w.alloc a).heap.size = w.heap.size + 1 := by simp
  refine ⟨?_, ?_⟩
  · rw [heap_alloc_old _ _ (by omega)]; exact heap_alloc_new w a
  · rw [← e1]; exact heap_alloc_new _ b

theorem Blk.there {w : World} {g : Nat} {c : Array Value} {t : TypeId} (h : Blk w g c t) (o n : Nat) (hn : o + n ≤ c.size) : w.there g o n := fun j hj => by
  rw [h.cell]
  exact ⟨by rw [Array.getElem?_eq_getElem (by omega)]; rfl, h.frozen _⟩
theorem setCells_heap (g : Nat) (t : TypeId) : ∀ (vs : List Value) (o : Nat) (w : World) (c : Array Value), Blk w g c t → Blk (w.setCells g o vs) g ((vs.zipIdx o).foldl (fun c p => c.setIfInBounds p.2 p.1) c) t
  | [], _, _, _, h => h
  | v :: r, o, w, c, h => setCells_heap g t r (o + 1) _ _ (h.set o v)
theorem setCells_other (g k : Nat) (hk : g ≠ k) : ∀ (vs : List Value) (o : Nat) (w : World), (w.setCells k o vs).heap[g]? = w.heap[g]?
  | [], _, _ => rfl
  | v :: r, o, w => (setCells_other g k hk r (o + 1) _).trans (heap_setCell_other w _ g v (by exact hk))
theorem setCells_size (g : Nat) : ∀ (vs : List Value) (o : Nat) (w : World), (w.setCells g o vs).heap.size = w.heap.size
  | [], _, _ => rfl
  | v :: r, o, w => (setCells_size g r (o + 1) _).trans (by simp [World.setCell])
theorem setCells_rest (g : Nat) : ∀ (vs : List Value) (o : Nat) (w : World), (w.setCells g o vs).os = w.os ∧ (w.setCells g o vs).tape = w.tape ∧ (w.setCells g o vs).output = w.output
  | [], _, _ => ⟨rfl, rfl, rfl⟩
  | v :: r, o, w => setCells_rest g r (o + 1) (w.setCell ⟨g, o, none⟩ v)
theorem Below.setCells {B : Nat} {a w : World} (h : Below B a w) {g : Nat} (hg : B ≤ g) (o : Nat) (vs : List Value) : Below B a (w.setCells g o vs) :=
  ⟨(setCells_rest g vs o w).1.trans h.os, (setCells_rest g vs o w).2.1.trans h.tape, (setCells_rest g vs o w).2.2.trans h.output, by rw [setCells_size]; exact h.size, fun k hk => (setCells_other k g (by omega) vs o w).trans (h.block k hk)⟩
theorem fold_toList : ∀ (vs : List Value) (o : Nat) (p q : List Value), p.length = o → q.length = vs.length → ((vs.zipIdx o).foldl (fun c r => c.setIfInBounds r.2 r.1) (p ++ q).toArray).toList = p ++ vs
  | [], _, p, q, _, hq => by
    have : q = [] := List.eq_nil_of_length_eq_zero hq
    simp [this]
  | v :: r, o, p, [], _, hq => by simp at hq
  | v :: r, o, p, u :: q, hp, hq => by
    have e : (p ++ u :: q).toArray.setIfInBounds o v = ((p ++ [v]) ++ q).toArray := by
      apply Array.ext'
      simp [List.set_append, hp]
    simp only [List.zipIdx_cons, List.foldl_cons]
    rw [e, fold_toList r (o + 1) (p ++ [v]) q (by simp [hp]) (by simpa using hq)]
    simp
theorem results_cell_row2 {P : Program} {fn : Func} {p q : Tmp} {ty : TypeId} (h : fn.results = #[.cell p ty, .tmp q]) (tmps : Array Value) (w : World) (g : Nat) (t : TypeId) (cs : Array Value) (fr : Nat × Nat) (d : TypeDesc) (v : Value)
    (hp : tmps.getD p undef = .pointer (some ⟨g, 0, none⟩)) (hv : tmps.getD q undef = v) (hg : w.heap[g]? = some (.cells cs t fr))
    (hu : P.underlying ty = some d) (hd : (match d with | .struct _ | .array _ _ => true | _ => false) = true) (hi : (P.info? ty).map (·.size) = some cs.size) :
    (results fn tmps).run P w = .ok (.tuple #[.agg cs, v]) w := by
  have hp' : tmps[p]?.getD undef = .pointer (some ⟨g, 0, none⟩) := by simpa using hp
  have hv' : tmps[q]?.getD undef = v := by simpa using hv
  simp [results, h, hp', hv', asAddr, run_loadVar_row w g t ty cs fr d hg hu hd hi]

end Go.Proofs.Ytficghohflmdeaa
