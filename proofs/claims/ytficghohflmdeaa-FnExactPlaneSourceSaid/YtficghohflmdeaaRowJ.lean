/- The row's frame: a [][]int64 that comes in. -/
import Derived.Test.YtficghohflmdeaaPs1
import Derived.Test.YtficghohflmdeaaRowL
import Derived.Deep.Matrix
namespace Go.Proofs.Ytficghohflmdeaa
open Go.RowKit Go.ChangeShapes Go.WideShapes Go.ChangeAt
set_option linter.unusedVariables false

theorem Try.cellsIS : Try.prog.cellsOf 38 = 1 := by kernel_rfl

/-- A [][]int64 THAT CAME IN: its rows' numbers are read. -/
theorem open_intss {H : Type} {enc : TypeId × Value → H} {w : World} {held : Bool} {a0 : Option Addr} {l0 c0 : Nat} {d : DataW H} {ps : List MemPlace}
    (h : DataW.Trod enc Try.prog w 0 (fun _ => true) held 55 (.slice a0 l0 c0) d ps) : ∃ (rows : List (List Int)), rows.length = l0 ∧ rows.length ≤ 9223372036854775807 ∧ RdII w a0 rows := by
  obtain ⟨fuel, hf⟩ := h
  rcases Deep.open_int_rows Try.underlying55 Try.underlying38 Try.underlying2 Try.cellsIS Try.cellsI hf with ⟨hcs, _⟩ | ⟨a, len, cap, A, L, C, Z, hcs, _, hl, hm, _, hr⟩
  · simp only [Value.cells, List.cons.injEq, Value.slice.injEq, and_true] at hcs
    obtain ⟨rfl, rfl, rfl⟩ := hcs
    exact ⟨[], rfl, by simp, fun i hi => by cases hi⟩
  · simp only [Value.cells, List.cons.injEq, Value.slice.injEq, and_true] at hcs
    obtain ⟨rfl, rfl, rfl⟩ := hcs
    have hml : maxLen = 9223372036854775807 := rfl
    have hlen : ((List.range l0).map fun r => (Z r).take (L r)).length = l0 := by simp
    refine ⟨(List.range l0).map fun r => (Z r).take (L r), hlen, by rw [hlen]; omega, fun i hi => ?_⟩
    rw [hlen] at hi
    obtain ⟨h1, h2, h3, h4, _, h6, h7⟩ := hr i (by omega)
    have hg : ((List.range l0).map fun r => (Z r).take (L r)).getD i [] = (Z i).take (L i) := by simp [hi]
    have hgl : ((Z i).take (L i)).length = L i := by rw [List.length_take, h4]; omega
    obtain ⟨b, off, spot⟩ := a
    have hspot : spot = none := by
      have h0 := (hr 0 (by omega)).1
      simpa [Addr.add] using World.cell?_spot h0
    subst hspot
    rw [hg, hgl]
    refine ⟨b, off, A i, C i, rfl, ?_, ?_, by omega⟩
    · rw [Addr.add_lit] at h1; exact h1
    · intro j hj
      rw [hgl] at hj
      cases hA : A i with
      | none => have := h6 hA; omega
      | some a' =>
        obtain ⟨_, hc⟩ := h7 a' hA
        obtain ⟨b', off', spot'⟩ := a'
        have hspot' : spot' = none := by
          have h0 := hc 0 (by omega)
          simpa [Addr.add] using World.cell?_spot h0
        subst hspot'
        refine ⟨b', off', rfl, ?_⟩
        have hcj := hc j (by omega)
        rw [Addr.add_lit] at hcj
        rw [hcj]
        simp [List.getD_eq_getElem?_getD, List.getElem?_take, hj]
end Go.Proofs.Ytficghohflmdeaa
