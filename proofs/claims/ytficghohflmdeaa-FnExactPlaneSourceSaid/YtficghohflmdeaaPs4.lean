/- PlaneSource: the program's walk. -/
import Derived.Test.YtficghohflmdeaaPs3
import Derived.Test.YtficghohflmdeaaWPln2
namespace Go.Proofs.Ytficghohflmdeaa
open Go.RowKit
set_option linter.unusedVariables false

/-- a pair of slopes -/
def okSl (r : List Int) : Bool := decide (r.length = 2) && (inR (r.getD 0 0) (-64) 64 && inR (r.getD 1 0) (-64) 64)
def okPS (n : Int) (rows : List (List Int)) : Bool := isSd n && (inR rows.length 1 16 && rows.all okSl)
def psF (F : Int → Nat × Nat) (n : Nat) (rows : List (List Int)) : WL := rows.map fun r => ((n : Int), fillL (n * n) (fun i => F (fPln n (r.getD 0 0) (r.getD 1 0) i)))
def PsPost (F : Int → Nat × Nat) (n : Int) (rows : List (List Int)) (w : World) (e : Ending) (w' : World) : Prop :=
  ∃ v, e = .returned (.tuple #[v, .int .i64 (if okPS n rows then 0 else 2)]) ∧ OwnW w' w.heap.size v (if okPS n rows then psF F n.toNat rows else []) ∧ Below w.heap.size w w'
theorem PsPost.no {F : Int → Nat × Nat} {n : Int} {rows : List (List Int)} {w w' : World} (h : okPS n rows = false) (hb : Below w.heap.size w w') : PsPost F n rows w (.returned (.tuple #[.slice none 0 0, .int .i64 2])) w' := by
  refine ⟨.slice none 0 0, by rw [h]; rfl, ?_, hb⟩
  rw [h]
  exact OwnW.nil _ _
theorem PsPost.yes {F : Int → Nat × Nat} {n : Int} {nn : Nat} {rows : List (List Int)} {w w' : World} {v : Value} (h : okPS n rows = true) (hn : n.toNat = nn) (ho : OwnW w' w.heap.size v (psF F nn rows)) (hb : Below w.heap.size w w') : PsPost F n rows w (.returned (.tuple #[v, .int .i64 0])) w' := by
  refine ⟨v, by rw [h]; rfl, ?_, hb⟩
  rw [h, hn]
  exact ho
theorem all_bad {rows : List (List Int)} {k : Nat} (hk : k < rows.length) (h : okSl (rows.getD k []) = false) : rows.all okSl = false := by
  rw [List.all_eq_false]
  exact ⟨rows[k], List.getElem_mem hk, by simpa [hk] using h⟩
theorem all_good {rows : List (List Int)} (h : ∀ j, j < rows.length → okSl (rows.getD j []) = true) : rows.all okSl = true := by
  rw [List.all_eq_true]
  intro x hx
  obtain ⟨j, hj, rfl⟩ := List.getElem_of_mem hx
  simpa [hj] using h j hj
theorem psF_take {F : Int → Nat × Nat} {n : Nat} {rows : List (List Int)} {k : Nat} (hk : k < rows.length) : psF F n (rows.take (k + 1)) = psF F n (rows.take k) ++ [((n : Int), fillL (n * n) (fun i => F (fPln n ((rows.getD k []).getD 0 0) ((rows.getD k []).getD 1 0) i)))] := by
  unfold psF
  rw [List.take_succ_eq_append_getElem hk, List.map_append]
  simp [hk]
theorem psF_length (F : Int → Nat × Nat) (n : Nat) (rows : List (List Int)) : (psF F n rows).length = rows.length := by simp [psF]
theorem two_of {xs : List Int} (h : xs.length = 2) : ∃ u v, xs = [u, v] := by
  match xs, h with
  | [u, v], _ => exact ⟨u, v, rfl⟩

set_option maxRecDepth 10000 in
set_option maxHeartbeats 4000000 in
theorem signedPS_any (n : Int) (rows : List (List Int)) (a : Option Addr) (c : Nat) (w : World) (hrd : RdII w a rows) (hl : rows.length ≤ 9223372036854775807) :
    Calls Try.prog 72 #[.int .i64 n, .slice a rows.length c] w (PsPost phaseP n rows w) := by
  have HR := Lib.hid hrd; clear hrd
  cases h1 : isSd n with
  | false =>
    have R := Lib.hid (show okPS n rows = false by unfold okPS; rw [h1]; rfl)
    go_enter Try.func72, Try.ntmps72
    go_wp2_with (go_at_call 90; refine (isSide_any _ _).mono ?_; rintro e w' ⟨rfl, rfl⟩; rw [h1])
    go_ret2
    exact PsPost.no R.out (Below.refl _ _)
  | true =>
  cases h2 : inR rows.length 1 16 with
  | false =>
    have R := Lib.hid (show okPS n rows = false by unfold okPS; rw [h1, h2]; rfl)
    go_enter Try.func72, Try.ntmps72
    go_wp2_with (first | (go_at_call 90; refine (isSide_any _ _).mono ?_; rintro e w' ⟨rfl, rfl⟩; rw [h1]) | (go_at_call 91; refine (within_any _ _ _ _).mono ?_; rintro e w' ⟨rfl, rfl⟩; rw [h2]))
    go_ret2
    exact PsPost.no R.out (Below.refl _ _)
  | true =>
    obtain ⟨nn, rfl, hn1, hn2⟩ := isSd_nat h1
    have hlen := inR_true h2
    have HOK : Hid (okPS nn rows = rows.all okSl) := by show _ = _; unfold okPS; rw [h1, h2]; rfl
    have HSD := Lib.hid h1
    have HM := Lib.hid (OwnW.made w)
    go_enter Try.func72, Try.ntmps72
    go_wp2_with (first | (go_at_call 90; refine (isSide_any _ _).mono ?_; rintro e w' ⟨rfl, rfl⟩; rw [h1]) | (go_at_call 91; refine (within_any _ _ _ _).mono ?_; rintro e w' ⟨rfl, rfl⟩; rw [h2]))
    clear h1 h2
    go_loopw [6, 8, 21] (fun u6 _ i wr => ∃ k : Nat, k ≤ rows.length ∧ i = .int .i64 k ∧ Below w.heap.size w wr ∧ Hid (OwnW wr w.heap.size u6 (psF phaseP nn (rows.take k)) ∧ ∀ j, j < k → okSl (rows.getD j []) = true)) (fun _ _ i _ => rows.length - (intOf i).toNat)
    case atStart => exact ⟨0, Nat.zero_le _, rfl, (Below.refl _ _).alloc (Nat.le_refl _) _, HM.out, fun j h => by omega⟩
    case round =>
      clear HM
      obtain ⟨k, hk, rfl, hbl, hcur⟩ := hrel
      have HB := Lib.hid hbl
      obtain ⟨hown, hall⟩ := hcur.out
      have HO := Lib.hid hown
      have HA := Lib.hid hall
      clear hcur hown hall hbl
      by_cases hlt : k < rows.length
      · obtain ⟨b, off, ai, ci, rfl, hc, hri, hlr⟩ := HR.out k hlt
        have hc' := hc
        rw [← HB.out.cell (by exact block_lt_of_cell hc)] at hc'
        have HRI := Lib.hid hri
        obtain ⟨xs, hxs⟩ : ∃ xs, xs = rows.getD k [] := ⟨_, rfl⟩
        rw [← hxs] at hc' hlr HRI
        have HXS := Lib.hid hxs
        have HBAD := fun h : okSl xs = false => all_bad hlt (by rw [← HXS.out]; exact h)
        clear hc hri hxs
        by_cases hx2 : xs.length = 2
        · obtain ⟨u, v, rfl⟩ := two_of hx2
          obtain ⟨b1, o1, ha, hcu0⟩ := HRI.out 0 (by simp)
          obtain ⟨b1', o1', ha', hcv0⟩ := HRI.out 1 (by simp)
          rw [ha] at ha'
          simp only [Option.some.injEq, Addr.mk.injEq, and_true] at ha'
          obtain ⟨rfl, rfl⟩ := ha'
          subst ha
          have hcu : wr.cell? ⟨b1, o1, none⟩ = some (.int .i64 u) := by rw [HB.out.cell (by exact block_lt_of_cell hcu0)]; exact hcu0
          have hcv : wr.cell? ⟨b1, o1 + 1, none⟩ = some (.int .i64 v) := by rw [HB.out.cell (by exact block_lt_of_cell hcv0)]; exact hcv0
          have hb1 : b1 < w.heap.size := block_lt_of_cell hcu0
          have hc2 : wr.cell? ⟨b, off + k, none⟩ = some (.slice (some ⟨b1, o1, none⟩) 2 ci) := hc'
          clear hx2 hc' hlr hcu0 hcv0 HRI
          cases hu : inR u (-64) 64 with
          | false =>
            have R := Lib.hid (show okPS nn rows = false by rw [HOK.out]; exact HBAD (by unfold okSl; rw [show ([u, v] : List Int).getD 0 0 = u from rfl, hu]; rfl))
            clear HBAD
            go_wp2_with (go_at_call 92; refine (isSlope_any _ _).mono ?_; rintro e w' ⟨rfl, rfl⟩; rw [hu])
            go_ret2
            exact PsPost.no R.out HB.out
          | true =>
          cases hv : inR v (-64) 64 with
          | false =>
            have R := Lib.hid (show okPS nn rows = false by rw [HOK.out]; exact HBAD (by unfold okSl; rw [show ([u, v] : List Int).getD 0 0 = u from rfl, show ([u, v] : List Int).getD 1 0 = v from rfl, hu, hv]; rfl))
            clear HBAD
            go_wp2_with (go_at_call 92; refine (isSlope_any _ _).mono ?_; rintro e w' ⟨rfl, rfl⟩; first | rw [hu] | rw [hv])
            go_ret2
            exact PsPost.no R.out HB.out
          | true =>
            have HG := Lib.hid (show okSl [u, v] = true by unfold okSl; rw [show ([u, v] : List Int).getD 0 0 = u from rfl, show ([u, v] : List Int).getD 1 0 = v from rfl, hu, hv]; rfl)
            have HU := Lib.hid (inR_true hu)
            have HV := Lib.hid (inR_true hv)
            clear HBAD
            go_upto_region 9 with (go_at_call 92; refine (isSlope_any _ _).mono ?_; rintro e w' ⟨rfl, rfl⟩; first | rw [hu] | rw [hv])
            have CU := Lib.hid hcu
            have CV := Lib.hid hcv
            have HSZ := Lib.hid HB.out.size
            clear hcu hcv hu hv hc2
            refine wp_region_held (S := fun w' => w'.heap[b1]? = wr.heap[b1]? ∧ True) (by kernel_rfl) ?_
            change wpAnyH _ _ _ _ _ _ _ _ (World.drew _)
            obtain ⟨V0, hV0⟩ : ∃ V0, V0 = wr.drew := ⟨_, rfl⟩
            have B0 : Hid (V0.heap[b1]? = wr.heap[b1]?) := by show _ = _; rw [hV0]; rfl
            have E0 : Hid (Below w.heap.size w V0) := by show Below _ _ _; rw [hV0]; exact below_drewN' HB.out 1
            have O0 : Hid (OwnW V0 w.heap.size u6 (psF phaseP nn (rows.take k))) := by show OwnW _ _ _ _; rw [hV0]; exact HO.out
            rw [← hV0]
            clear hV0
            refine wpAnyH_take (i := 0) (v := u6) rfl (by kernel_rfl) (by kernel_rfl) (by kernel_rfl) (fun _ _ _ h => h) (.inl ⟨by rfl, fun w' hS => ?_⟩) ⟨B0.out, trivial⟩ ?_
            · clear hS
              go_simp
            refine wpAnyH_take (i := 1) (v := .int .i64 nn) rfl (by kernel_rfl) (by kernel_rfl) (by kernel_rfl) (fun _ _ _ h => h) (.inl ⟨by rfl, fun w' hS => ?_⟩) ⟨B0.out, trivial⟩ ?_
            · clear hS
              go_simp
            refine wpAnyH_take (i := 2) (v := .slice (some ⟨b1, o1, none⟩) 2 ci) rfl (by kernel_rfl) (by kernel_rfl) (by kernel_rfl) (fun _ _ _ h => h) (.inl ⟨by rfl, fun w' hS => ?_⟩) ⟨B0.out, trivial⟩ ?_
            · clear hS
              go_simp
            refine wpAnyH_take (i := 3) (v := .pointer (some ⟨b1, o1, none⟩)) rfl (by kernel_rfl) (by kernel_rfl) (by kernel_rfl) (fun _ _ _ h => h) (.inl ⟨by rfl, fun w' hS => ?_⟩) ⟨B0.out, trivial⟩ ?_
            · clear hS
              go_simp
            refine wpAnyH_take (i := 4) (v := .int .i64 u) rfl (by kernel_rfl) (by kernel_rfl) (by kernel_rfl) (fun _ _ _ h => h) (.inl ⟨by rfl, fun w' hS => ?_⟩) ⟨B0.out, trivial⟩ ?_
            · have h1 := (World.cell?_of_block hS.1).trans CU.out
              clear hS
              go_simp
            refine wpAnyH_take (i := 5) (v := .slice (some ⟨b1, o1, none⟩) 2 ci) rfl (by kernel_rfl) (by kernel_rfl) (by kernel_rfl) (fun _ _ _ h => h) (.inl ⟨by rfl, fun w' hS => ?_⟩) ⟨B0.out, trivial⟩ ?_
            · clear hS
              go_simp
            refine wpAnyH_take (i := 6) (v := .pointer (some ⟨b1, o1 + 1, none⟩)) rfl (by kernel_rfl) (by kernel_rfl) (by kernel_rfl) (fun _ _ _ h => h) (.inl ⟨by rfl, fun w' hS => ?_⟩) ⟨B0.out, trivial⟩ ?_
            · clear hS
              go_simp
            refine wpAnyH_take (i := 7) (v := .int .i64 v) rfl (by kernel_rfl) (by kernel_rfl) (by kernel_rfl) (fun _ _ _ h => h) (.inl ⟨by rfl, fun w' hS => ?_⟩) ⟨B0.out, trivial⟩ ?_
            · have h1 := (World.cell?_of_block hS.1).trans CV.out
              clear hS
              go_simp
            refine wpAnyH_ready (rs := [8]) (by kernel_rfl) (by simp) ?_
            refine AllReadyH.cons rfl (fun K hK => ?_) AllReadyH.nil
            go_simp
            refine (planeWave_any nn u v V0 hn1 hn2 HSD.out HU.out HV.out).mono ?_
            rintro e V1 ⟨rfl, hb⟩
            have hblt : b1 < V0.heap.size := Nat.lt_of_lt_of_le hb1 E0.out.size
            have B1 : Hid (V1.heap[b1]? = wr.heap[b1]?) := (hb.block b1 hblt).trans B0.out
            have E1 := Lib.hid (E0.out.trans (hb.mono E0.out.size))
            have O1 := Lib.hid (O0.out.below hb)
            have HFL := Lib.hid (fillL_length (fun i => phaseP (fPln nn u v i)) (sq64 hn2))
            obtain ⟨fl, hfl⟩ : ∃ fl, fl = fillL (nn * nn) (fun i => phaseP (fPln nn u v i)) := ⟨_, rfl⟩
            rw [← hfl] at HFL ⊢
            have HFE := Lib.hid hfl
            clear hb hblt B0 E0 O0 hfl
            try go_simp
            refine hK.out _ _ ⟨B1.out, trivial⟩ (fun _ => ?_)
            clear hK K
            refine wpAnyH_ready (rs := [9]) (by kernel_rfl) (by simp) ?_
            refine AllReadyH.cons rfl (fun K hK => ?_) AllReadyH.nil
            rw [if_pos (by rfl)]
            refine wp_buildW (.tmp 50) rfl nn fl HFL.out rfl ?_
            have hblt : b1 < V1.heap.size := Nat.lt_of_lt_of_le hb1 E1.out.size
            refine hK.out _ _ ⟨(heap_alloc_old V1 _ hblt).trans B1.out, trivial⟩ (fun _ => ?_)
            clear hK K
            refine wpAnyH_ready (rs := [10]) (by kernel_rfl) (by simp) ?_
            refine AllReadyH.cons rfl (fun K hK => ?_) AllReadyH.nil
            rw [if_pos (by rfl)]
            refine wp_appendW (w0 := V1) (.tmp 42) (.tmp 51) rfl w.heap.size u6 (psF phaseP nn (rows.take k)) nn fl HFL.out rfl O1.out rfl (by rw [psF_length, List.length_take]; omega) E1.out.size ?_
            intro v' V3 hO hv' hG
            have E3 := Lib.hid (E1.out.grown hG E1.out.size (fun j hj => (O1.out.lt j hj).1))
            have B3 : Hid (V3.heap[b1]? = wr.heap[b1]?) := (hG.block b1 hblt (fun e => by have := (O1.out.lt b1 e.symm).1; omega)).trans B1.out
            have O3 : Hid (OwnW V3 w.heap.size v' (psF phaseP nn (rows.take (k + 1)))) := by show OwnW _ _ _ _; rw [psF_take hlt, ← HXS.out, ← show fl = fillL (nn * nn) (fun i => phaseP (fPln nn (([u, v] : List Int).getD 0 0) (([u, v] : List Int).getD 1 0) i)) from HFE.out]; exact hO
            clear hO hv' hG hblt B1 E1 O1
            refine hK.out _ _ ⟨B3.out, trivial⟩ (fun _ => ?_)
            clear hK K
            refine wpAnyH_ready (rs := [11]) (by kernel_rfl) (by simp) ?_
            refine AllReadyH.cons rfl (fun K hK => ?_) AllReadyH.nil
            go_simp
            refine hK.out _ _ ⟨B3.out, trivial⟩ (fun _ => ?_)
            clear hK K
            refine wpAnyH_done (by kernel_rfl) ?_ _
            go_wp2_with fail
            go_roundw
            case rel =>
              refine ⟨k + 1, by omega, by go_num, E3.out, O3.out, fun j hj => ?_⟩
              by_cases e : j = k
              · rw [e, ← HXS.out]; exact HG.out
              · exact HA.out j (by omega)
            case measure => simp [intOf]; omega
        · have R := Lib.hid (show okPS nn rows = false by rw [HOK.out]; exact HBAD (by unfold okSl; rw [decide_eq_false hx2]; rfl))
          obtain ⟨m, hm⟩ : ∃ m, m = xs.length := ⟨_, rfl⟩
          rw [← hm] at hc' hlr hx2
          have hne : ((m : Int) != 2) = true := by simp; omega
          clear HBAD hm
          go_wp2_with fail
          go_ret2
          exact PsPost.no R.out HB.out
      · have e : k = rows.length := by omega
        have R := Lib.hid (show okPS nn rows = true by rw [HOK.out]; exact all_good (fun j hj => HA.out j (by omega)))
        have HO2 : Hid (OwnW wr w.heap.size u6 (psF phaseP nn rows)) := by
          have h := HO.out
          rw [e, List.take_length] at h
          exact h
        clear e HO
        go_wp2
        go_ret2
        exact PsPost.yes R.out rfl HO2.out HB.out
end Go.Proofs.Ytficghohflmdeaa
