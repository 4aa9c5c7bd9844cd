/- 'append' of one float: where the longer list lies. -/
import Derived.Test.YtphbjfijipcpnaaB5
namespace Go.Proofs.Ytphbjfijipcpnaa
open Go.RowKit
set_option linter.unusedVariables false

/-- as appendF; the new list lies in the old one's block or in one that is new -/
theorem appendFs {w0 : World} {ops : Array Oper} {rest : List Oper} {o : Oper} {a : Act} {Q : Exit → Act → World → Prop} (hgd : o.guard = none) (s x : Operand)
    (ho : o.op = .call { callee := .builtin .append, args := #[s, x], argTypes := #[22, 22] }) (base : Nat) (v : Value) (bs : List Nat) (f : Nat)
    (hs : a.eval s = v) (hown : OwnF w0 base v bs) (hx : a.eval x = .slice (some ⟨w0.heap.size, 0, none⟩) 1 1) (hl : (bs.length + 1) * 4 ≤ 140737488355328) (hb : base ≤ w0.heap.size)
    (h : ∀ v' w', OwnF w' base v' (bs ++ [f]) → w0.grownBy w' v.ownBlock → (v'.ownBlock = v.ownBlock ∨ ∃ k, v'.ownBlock = some k ∧ w0.heap.size ≤ k) → wpList Try.prog ops Q rest (a.put o.dst v') w') :
    wpList Try.prog ops Q (o :: rest) a (w0.alloc (.cells #[.float .f32 f] 28)) := by
  obtain ⟨i0, hi, hz0, hz1, hz2⟩ := info_parts Try.infoF
  have hnews : ∀ j u, [Value.float .f32 f][j]? = some u → (w0.alloc (.cells #[.float .f32 f] 28)).cell? ((⟨w0.heap.size, 0, none⟩ : Addr).add j) = some u := cell_one_new _ _ _
  have h1 : ∀ u ∈ [Value.float .f32 f], u.oneCell' = true := by simp [Value.oneCell']
  have hown' := World.ownsRow.alloc hown (.cells #[.float .f32 f] 28)
  refine wpList_plain hgd fun K hK => ?_
  obtain ⟨v', w', hr, h2, h3, h4⟩ := run_append_own (P := Try.prog) (w0.alloc (.cells #[.float .f32 f] 28)) base 22 o.type 28 i0 (.float .f32 0) 1 4 Try.underlying22 hi hz0 hz1 hz2 rfl (by decide) v bs.length (bs.map flt) hown' ⟨w0.heap.size, 0, none⟩ 1 1 [.float .f32 f] rfl hnews h1 (by unfold maxLen; omega) hl (by simp; omega)
  have hB : v'.ownBlock = v.ownBlock ∨ ∃ k, v'.ownBlock = some k ∧ w0.heap.size ≤ k := by
    rcases hown'.2 with ⟨rfl, hn⟩ | ⟨g, cap, cur, rfl, hbg, hg, hnc, hcm, hcs, htake⟩
    · have hr2 := run_append_nil (P := Try.prog) (w0.alloc (.cells #[.float .f32 f] 28)) 22 o.type 28 i0 (.float .f32 0) Try.underlying22 hi hz0 ⟨w0.heap.size, 0, none⟩ 1 1 [.float .f32 f] (by rw [hz1]; rfl) hnews (by omega) (by omega) (by rw [hz2]; omega)
      rw [hr] at hr2
      cases hr2
      exact .inr ⟨_, rfl, by simp⟩
    · by_cases hroom : bs.length + 1 ≤ cap
      · have hfit : bs.length * i0.size + [Value.float .f32 f].length ≤ cur.size := by rw [hcs, hz1]; simpa using hroom
        have hr2 := run_append_room (P := Try.prog) (w0.alloc (.cells #[.float .f32 f] 28)) 22 o.type 28 i0 Try.underlying22 hi g bs.length cap cur hg ⟨w0.heap.size, 0, none⟩ 1 1 [.float .f32 f] (by rw [hz1]; rfl) hnews h1 hroom hfit
        rw [hr] at hr2
        cases hr2
        exact .inl rfl
      · have holds : ∀ j u, (bs.map flt)[j]? = some u → (w0.alloc (.cells #[.float .f32 f] 28)).cell? ((⟨g, 0, none⟩ : Addr).add j) = some u := World.ownsRow.cells hown' (g := g) rfl
        have hr2 := run_append_grow (P := Try.prog) (w0.alloc (.cells #[.float .f32 f] 28)) 22 o.type 28 i0 (.float .f32 0) Try.underlying22 hi hz0 ⟨g, 0, none⟩ bs.length cap (bs.map flt) (by rw [hz1]; simp) holds ⟨w0.heap.size, 0, none⟩ 1 1 [.float .f32 f] (by rw [hz1]; rfl) hnews (by omega) (by omega) (by rw [hz2]; exact growslice_fits (by omega) hl)
        rw [hr] at hr2
        cases hr2
        exact .inr ⟨_, rfl, by simp⟩
  have hO : OwnF w' base v' (bs ++ [f]) := by
    show World.ownsRow _ _ _ _ _ _ _
    rw [List.length_append, List.map_append]; exact h2
  have hG := grownBy_trans (World.grownBy_alloc w0 (.cells #[.float .f32 f] 28) v.ownBlock) h3
  unfold Oper.wp execOp
  simp only [ho, resolve, invoke, builtin, Sem.run_bind, Sem.run_pure, Result.andThen_ok, List.map_toArray, List.map_cons, List.map_nil, hs, hx, hr]
  exact hK _ _ (h v' w' hO hG hB)

/-- a list is kept where another that lies elsewhere is written -/
theorem OwnF.keptUp {w w' : World} {base : Nat} {v u : Value} {bs : List Nat} (h : OwnF w base v bs) (hg : w.grownBy w' u.ownBlock) (hv : ∀ k, v.ownBlock = some k → u.ownBlock ≠ some k) : OwnF w' base v bs :=
  h.keptBy hg (by
    cases hk : v.ownBlock with
    | none => exact .inl rfl
    | some k => exact .inr fun e => hv k hk e.symm)
end Go.Proofs.Ytphbjfijipcpnaa
