/- The row's frame: a []int64 that comes in. -/
import Derived.Test.YtficghohflmdeaaInt
import Derived.Test.YtficghohflmdeaaRowI
namespace Go.Proofs.Ytficghohflmdeaa
open Go.RowKit Go.ChangeShapes Go.WideShapes Go.ChangeAt
set_option linter.unusedVariables false

theorem Try.cellsI : Try.prog.cellsOf 2 = 1 := by kernel_rfl
theorem trod_int1 {H : Type} {enc : TypeId × Value → H} {P : Program} {w : World} {base : Nat} {spare : Nat → Bool} {held : Bool} {t : TypeId} {k : IntKind} {v : Value} {fuel : Nat} {x : DataW H × List MemPlace} (ht : P.underlying t = some (.int k))
    (h : DataW.trod enc P w base spare held fuel t [v] = some x) : ∃ b, v = .int k b := by
  cases fuel with
  | zero => simp [DataW.trod] at h
  | succ n =>
    unfold DataW.trod at h
    rw [ht] at h
    cases v <;> simp_all

/-- A []int64 THAT CAME IN: its length's numbers are read. -/
theorem open_ints {H : Type} {enc : TypeId × Value → H} {w : World} {spare : Nat → Bool} {held : Bool} {a : Option Addr} {len cap : Nat} {d : DataW H} {ps : List MemPlace}
    (h : DataW.Trod enc Try.prog w 0 spare held 38 (.slice a len cap) d ps) : ∃ xs : List Int, xs.length = len ∧ RdI w a xs := by
  obtain ⟨fuel, hf⟩ := h
  rcases Deep.open_slice1 Try.underlying38 Try.cellsI hf with ⟨hcs, _⟩ | ⟨p, len', cap', m, n, V, D, Pl, hcs, _, hl, _, hm, _, hV⟩
  · simp only [Value.cells, List.cons.injEq, Value.slice.injEq, and_true] at hcs
    obtain ⟨rfl, rfl, rfl⟩ := hcs
    exact ⟨[], rfl, fun i hi => by cases hi⟩
  · simp only [Value.cells, List.cons.injEq, Value.slice.injEq, and_true] at hcs
    obtain ⟨rfl, rfl, rfl⟩ := hcs
    have hle : len ≤ m := by rw [hm]; split <;> omega
    obtain ⟨f, hf⟩ := Deep.choose_lt (n := m) (p := fun i b => w.cell? (p.add i) = some (.int .i64 b)) (fun i hi => by
      obtain ⟨h1, h2⟩ := hV i hi
      obtain ⟨b, hb⟩ := trod_int1 Try.underlying2 h2
      exact ⟨b, by rw [h1, hb]⟩)
    refine ⟨(List.range len).map f, by simp, fun i hi => ?_⟩
    have hi' : i < len := by simpa using hi
    obtain ⟨b, off, spot⟩ := p
    have hs := hf i (by omega)
    have hspot : spot = none := by
      have h0 := hf 0 (by omega)
      simpa [Addr.add] using World.cell?_spot h0
    subst hspot
    refine ⟨b, off, rfl, ?_⟩
    rw [Addr.add_lit] at hs
    rw [hs]
    simp [hi']
end Go.Proofs.Ytficghohflmdeaa
