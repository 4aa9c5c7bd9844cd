/- Lists of waves compared. -/
import Derived.Test.YtficghohflmdeaaPs6
namespace Go.Proofs.Ytficghohflmdeaa
open Go.RowKit
set_option linter.unusedVariables false

theorem exec_load_mid {P : Program} {o : Oper} {a : Act} {w : World} (ty : TypeId) (x : Operand) (ho : o.op = .load ty x)
    (g i : Nat) (hx : a.eval x = .pointer (some ⟨g, i, none⟩)) (cs : List Value) (d : TypeDesc) (hc : w.rangeAt g i cs)
    (hu : P.underlying ty = some d) (hd : d.isRow = true) (hi : (P.info? ty).map (·.size) = some cs.length) :
    (execOp a.eval o).run P w = .ok (.value (.agg cs.toArray)) w := by
  unfold execOp
  simp only [ho, hx, run_loadAt_mid w g i ty cs d hc hu hd hi, Sem.run_bind, Sem.run_pure, Result.andThen_ok]
theorem rangeAt_below {w w' : World} {b o : Nat} {cs : List Value} (h : w.rangeAt b o cs) (hb : Below w.heap.size w w') : w'.rangeAt b o cs := by
  intro j v hj
  have hc := h j v hj
  rw [hb.cell (by exact block_lt_of_cell hc)]; exact hc
def canPs (ps : WL) : Prop := ∀ p ∈ ps, canF64 p.2
theorem canPs.at {ps : WL} (h : canPs ps) {k : Nat} (hk : k < ps.length) : canF64 (ps.getD k (0, [])).2 := by
  have e : ps.getD k (0, []) = ps[k] := by simp [hk]
  rw [e]; exact h _ (List.getElem_mem hk)

set_option maxRecDepth 10000 in
set_option maxHeartbeats 1000000 in
theorem eqWS_any (ps : WL) (v1 v2 : Value) (B1 B2 : Nat) (w : World) (h1 : OwnW w B1 v1 ps) (h2 : OwnW w B2 v2 ps) (hcan : canPs ps) (hl : ps.length ≤ 1000) :
    Calls Try.prog 38 #[v1, v2] w fun e w' => e = .returned (.bool true) ∧ Below w.heap.size w w' := by
  obtain ⟨a1, c1, rfl⟩ : ∃ a c, v1 = .slice a ps.length c := by
    rcases h1.form with ⟨rfl, rfl⟩ | ⟨g, c, rfl⟩
    · exact ⟨none, 0, rfl⟩
    · exact ⟨_, c, rfl⟩
  obtain ⟨a2, c2, rfl⟩ : ∃ a c, v2 = .slice a ps.length c := by
    rcases h2.form with ⟨rfl, rfl⟩ | ⟨g, c, rfl⟩
    · exact ⟨none, 0, rfl⟩
    · exact ⟨_, c, rfl⟩
  have H1 := Lib.hid h1
  have H2 := Lib.hid h2
  have HC := Lib.hid hcan
  clear h1 h2 hcan
  go_enter Try.func38, Try.ntmps38
  go_wp2
  go_loopw [5] (fun i wr => ∃ k : Nat, k ≤ ps.length ∧ i = .int .i64 k ∧ Below w.heap.size w wr) (fun i _ => ps.length - (intOf i).toNat)
  case atStart => exact ⟨0, Nat.zero_le _, rfl, Below.refl _ _⟩
  case round =>
    obtain ⟨k, hk, rfl, hbl⟩ := hrel
    have HB := Lib.hid hbl
    clear hbl
    by_cases hlt : k < ps.length
    · rcases H1.out.form with ⟨_, e2⟩ | ⟨g1, c', e1⟩
      · rw [e2] at hlt; cases hlt
      rcases H2.out.form with ⟨_, e2⟩ | ⟨g2, c'', e3⟩
      · rw [e2] at hlt; cases hlt
      simp only [Value.slice.injEq, true_and] at e1 e3
      obtain ⟨rfl, rfl⟩ := e1
      obtain ⟨rfl, rfl⟩ := e3
      have R1 := (H1.out.below HB.out).range hlt
      have R2 := (H2.out.below HB.out).range hlt
      have hl64 := H1.out.2.at hlt
      have hcan := HC.out.at hlt
      obtain ⟨p, hp⟩ : ∃ p, p = ps.getD k (0, []) := ⟨_, rfl⟩
      rw [← hp] at R1 R2 hl64 hcan
      obtain ⟨n, l⟩ := p
      have HL : Hid (l.length = 64) := hl64
      have HCAN : Hid (canF64 l) := hcan
      have hkb : (0 : Int) ≤ (k : Int) := by omega
      have hkb2 : (k : Int) < ps.length := by omega
      have Q1' : Hid (wr.rangeAt g1 (k * 65) (wavL n l)) := R1
      have Q2' : Hid (wr.rangeAt g2 (k * 65) (wavL n l)) := R2
      clear hp hl64 hcan R1 R2
      go_upto_region 6 with (fail)
      refine wp_region_held (S := fun w' => w'.rangeAt g1 (k * 65) (wavL n l) ∧ w'.rangeAt g2 (k * 65) (wavL n l)) (by kernel_rfl) ?_
      change wpAnyH _ _ _ _ _ _ _ _ (World.drew _)
      obtain ⟨V0, hV0⟩ : ∃ V0, V0 = wr.drew := ⟨_, rfl⟩
      have Q1 : Hid (V0.rangeAt g1 (k * 65) (wavL n l)) := by show World.rangeAt _ _ _ _; rw [hV0]; exact Q1'.out
      have Q2 : Hid (V0.rangeAt g2 (k * 65) (wavL n l)) := by show World.rangeAt _ _ _ _; rw [hV0]; exact Q2'.out
      have E0 : Hid (Below w.heap.size w V0) := by show Below _ _ _; rw [hV0]; exact below_drewN' HB.out 1
      rw [← hV0]
      clear hV0 Q1' Q2' HB
      refine wpAnyH_take (i := 0) (v := .slice (some ⟨g1, 0, none⟩) ps.length c1) rfl (by kernel_rfl) (by kernel_rfl) (by kernel_rfl) (fun _ _ _ h => h) (.inl ⟨by rfl, fun w' hS => ?_⟩) ⟨Q1.out, Q2.out⟩ ?_
      · clear hS
        go_simp
      refine wpAnyH_take (i := 1) (v := .int .i64 k) rfl (by kernel_rfl) (by kernel_rfl) (by kernel_rfl) (fun _ _ _ h => h) (.inl ⟨by rfl, fun w' hS => ?_⟩) ⟨Q1.out, Q2.out⟩ ?_
      · clear hS
        go_simp
      refine wpAnyH_take (i := 2) (v := .pointer (some ⟨g1, k * 65, none⟩)) rfl (by kernel_rfl) (by kernel_rfl) (by kernel_rfl) (fun _ _ _ h => h) (.inl ⟨by rfl, fun w' hS => ?_⟩) ⟨Q1.out, Q2.out⟩ ?_
      · clear hS
        go_simp
      refine wpAnyH_take (i := 3) (v := .agg (wav n l)) rfl (by kernel_rfl) (by kernel_rfl) (by kernel_rfl) (fun _ _ _ h => h) (.inl ⟨by rfl, fun w' hS => ?_⟩) ⟨Q1.out, Q2.out⟩ ?_
      · exact exec_load_mid 29 _ rfl g1 (k * 65) rfl (wavL n l) _ hS.1 Try.underlying29 rfl (Try.sizeWL HL.out)
      refine wpAnyH_take (i := 4) (v := .slice (some ⟨g2, 0, none⟩) ps.length c2) rfl (by kernel_rfl) (by kernel_rfl) (by kernel_rfl) (fun _ _ _ h => h) (.inl ⟨by rfl, fun w' hS => ?_⟩) ⟨Q1.out, Q2.out⟩ ?_
      · clear hS
        go_simp
      refine wpAnyH_take (i := 5) (v := .int .i64 k) rfl (by kernel_rfl) (by kernel_rfl) (by kernel_rfl) (fun _ _ _ h => h) (.inl ⟨by rfl, fun w' hS => ?_⟩) ⟨Q1.out, Q2.out⟩ ?_
      · clear hS
        go_simp
      refine wpAnyH_take (i := 6) (v := .pointer (some ⟨g2, k * 65, none⟩)) rfl (by kernel_rfl) (by kernel_rfl) (by kernel_rfl) (fun _ _ _ h => h) (.inl ⟨by rfl, fun w' hS => ?_⟩) ⟨Q1.out, Q2.out⟩ ?_
      · clear hS
        go_simp
      refine wpAnyH_take (i := 7) (v := .agg (wav n l)) rfl (by kernel_rfl) (by kernel_rfl) (by kernel_rfl) (fun _ _ _ h => h) (.inl ⟨by rfl, fun w' hS => ?_⟩) ⟨Q1.out, Q2.out⟩ ?_
      · exact exec_load_mid 29 _ rfl g2 (k * 65) rfl (wavL n l) _ hS.2 Try.underlying29 rfl (Try.sizeWL HL.out)
      refine wpAnyH_ready (rs := [8]) (by kernel_rfl) (by simp) ?_
      refine AllReadyH.cons rfl (fun K hK => ?_) AllReadyH.nil
      go_simp
      refine (eqW_eq n l HL.out HCAN.out V0).mono ?_
      rintro e V1 ⟨rfl, hb⟩
      have E1 := Lib.hid (E0.out.trans (hb.mono E0.out.size))
      have Q3 := Lib.hid (rangeAt_below Q1.out hb)
      have Q4 := Lib.hid (rangeAt_below Q2.out hb)
      clear hb
      try go_simp
      refine hK.out _ _ ⟨Q3.out, Q4.out⟩ (fun _ => ?_)
      clear hK K
      refine wpAnyH_ready (rs := [9]) (by kernel_rfl) (by simp) ?_
      refine AllReadyH.cons rfl (fun K hK => ?_) AllReadyH.nil
      go_simp
      refine hK.out _ _ ⟨Q3.out, Q4.out⟩ (fun _ => ?_)
      clear hK K
      refine wpAnyH_done (by kernel_rfl) ?_ _
      go_wp2_with fail
      go_roundw
      case rel => exact ⟨k + 1, by omega, by go_num, E1.out⟩
      case measure => simp [intOf]; omega
    · go_wp2
      go_ret
      exact ⟨rfl, HB.out⟩
end Go.Proofs.Ytficghohflmdeaa
