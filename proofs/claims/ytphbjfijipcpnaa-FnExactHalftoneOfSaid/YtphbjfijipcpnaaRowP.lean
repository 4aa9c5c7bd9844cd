/- The row's frame: a picture and a float that come in. -/
import Derived.Test.YtphbjfijipcpnaaPic
import Derived.Test.YtphbjfijipcpnaaRow
namespace Go.Proofs.Ytphbjfijipcpnaa
open Go.RowKit Go.ChangeShapes Go.WideShapes Go.ChangeAt
set_option linter.unusedVariables false

theorem trod_int1 {H : Type} {enc : TypeId × Value → H} {P : Program} {w : World} {base : Nat} {spare : Nat → Bool} {held : Bool} {t : TypeId} {k : IntKind} {v : Value} {fuel : Nat} {x : DataW H × List MemPlace} (ht : P.underlying t = some (.int k))
    (h : DataW.trod enc P w base spare held fuel t [v] = some x) : ∃ b, v = .int k b := by
  cases fuel with
  | zero => simp [DataW.trod] at h
  | succ n =>
    unfold DataW.trod at h
    rw [ht] at h
    cases v <;> simp_all
theorem Try.undP : ∃ f0 f1 : Field, Try.prog.underlying 31 = some (.struct #[f0, f1]) ∧ f0.type = 2 ∧ f0.offset = 0 ∧ f1.type = 29 ∧ f1.offset = 1 := ⟨_, _, Try.underlying31, rfl, rfl, rfl, rfl⟩
theorem Try.cellsP : Try.prog.cellsOf 31 = 65 := by kernel_rfl
theorem Try.cells64 : Try.prog.cellsOf 29 = 64 := by kernel_rfl
theorem Try.cells1 : Try.prog.cellsOf 2 = 1 := by kernel_rfl
theorem Try.cellsF1 : Try.prog.cellsOf 28 = 1 := by kernel_rfl
theorem Try.und64 : Try.prog.underlying 29 = some (.array 64 28) := by kernel_rfl
theorem take_one {cs : List Value} {i : Nat} (h : i < cs.length) : (cs.drop i).take 1 = [cs[i]] := by
  rw [List.drop_eq_getElem_cons h]; rfl

set_option maxRecDepth 100000 in
/-- A picture THAT CAME IN: a side and 64 floats. -/
theorem open_picture {H : Type} {enc : TypeId × Value → H} {w w' : World} {r : Reach} {b0 : Nat} {base : Nat} {spare : Nat → Bool} {held : Bool} {v : Value} {d : DataW H} {ps : List MemPlace}
    (hv : Value.okWide Try.prog w' r b0 31 v) (h : DataW.Trod enc Try.prog w base spare held 31 v d ps) : ∃ (n : Int) (l : List Nat), l.length = 64 ∧ v = .agg (pic n l) := by
  obtain ⟨f0, f1, hu, h0t, h0o, h1t, h1o⟩ := Try.undP
  unfold Value.okWide at hv
  rw [hu] at hv
  obtain ⟨cs, rfl, hsz, _⟩ := hv
  obtain ⟨fuel, hf⟩ := h
  obtain ⟨y0, y1, q, _, hlen, hy0, hy1⟩ := trod_struct2 hu hf
  rw [h0t, h0o, Try.cells1] at hy0
  rw [h1t, h1o, Try.cells64] at hy1
  have hcs : (Value.agg cs).cells.toList = cs.toList := rfl
  rw [hcs] at hlen hy0 hy1
  rw [Try.cellsP] at hlen
  rw [take_one (by omega)] at hy0
  obtain ⟨n, hn⟩ := trod_int1 Try.underlying2 hy0
  obtain ⟨xs, m, _, _, hl2, hxl, hxs⟩ := DataW.trod_array Try.und64 hy1
  have hc : ∀ i, i < 64 → ∃ b, cs.toList[1 + i]? = some (flt b) := by
    intro i hi
    have hx := hxs i hi
    rw [Try.cellsF1, Nat.mul_one] at hx
    have hlt : i < ((cs.toList.drop 1).take 64).length := by rw [List.length_take, List.length_drop]; omega
    rw [take_one hlt, List.getElem?_eq_getElem (by omega : i < xs.length)] at hx
    obtain ⟨b, hb, _⟩ := trod_float1 Try.underlying28 hx
    refine ⟨b, ?_⟩
    rw [List.getElem_take, List.getElem_drop] at hb
    rw [List.getElem?_eq_getElem (by omega), hb]; rfl
  obtain ⟨f, hfx⟩ := Deep.choose_lt (n := 64) (p := fun i b => cs.toList[1 + i]? = some (flt b)) hc
  obtain ⟨k64, hk64⟩ : ∃ k, k = 64 := ⟨_, rfl⟩
  have hl64 : ((List.range k64).map f).length = 64 := by simp [hk64]
  have hget : ∀ i, i < 64 → ((List.range k64).map f)[i]? = some (f i) := fun i hi => by simp [hk64, hi]
  obtain ⟨l, hl⟩ : ∃ l, l = (List.range k64).map f := ⟨_, rfl⟩
  rw [← hl] at hl64 hget
  clear hl
  refine ⟨n, l, hl64, congrArg Value.agg (Array.ext' (List.ext_getElem? fun i => ?_))⟩
  cases i with
  | zero =>
    rw [List.getElem?_eq_getElem (by omega), hn]; rfl
  | succ i =>
    have e : (pic n l).toList[i + 1]? = (l[i]?).map flt := by simp [pic]
    rw [e]
    by_cases hi : i < 64
    · rw [Nat.add_comm i 1, hfx i hi, hget i hi]; rfl
    · rw [List.getElem?_eq_none (by omega), List.getElem?_eq_none (by omega)]; rfl
end Go.Proofs.Ytphbjfijipcpnaa
