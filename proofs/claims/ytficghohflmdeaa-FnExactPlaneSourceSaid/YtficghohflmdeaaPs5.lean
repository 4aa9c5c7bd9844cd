/- PlaneSource: the reference's walk. -/
import Derived.Test.YtficghohflmdeaaPs4
import Derived.Test.YtficghohflmdeaaWPln3
namespace Go.Proofs.Ytficghohflmdeaa
open Go.RowKit
set_option linter.unusedVariables false

set_option maxRecDepth 10000 in
set_option maxHeartbeats 4000000 in
theorem rawPS_any (n : Int) (rows : List (List Int)) (a : Option Addr) (c : Nat) (w : World) (hrd : RdII w a rows) (hl : rows.length ≤ 9223372036854775807) :
    Calls Try.prog 70 #[.int .i64 n, .slice a rows.length c] w (PsPost rawP n rows w) := by
  have HR := Lib.hid hrd; clear hrd
  cases h1 : isSd n with
  | false =>
    have R := Lib.hid (show okPS n rows = false by unfold okPS; rw [h1]; rfl)
    go_enter Try.func70, Try.ntmps70
    go_wp2_with (go_at_call 87; refine (l01Side_any _ _).mono ?_; rintro e w' ⟨rfl, rfl⟩; rw [h1])
    go_ret2
    exact PsPost.no R.out (Below.refl _ _)
  | true =>
  by_cases hlo : (rows.length : Int) < 1
  · have R := Lib.hid (show okPS n rows = false by unfold okPS inR; rw [h1, decide_eq_false (by omega)]; rfl)
    go_enter Try.func70, Try.ntmps70
    go_wp2_with (go_at_call 87; refine (l01Side_any _ _).mono ?_; rintro e w' ⟨rfl, rfl⟩; rw [h1])
    go_ret2
    exact PsPost.no R.out (Below.refl _ _)
  by_cases hhi : (16 : Int) < rows.length
  · have R := Lib.hid (show okPS n rows = false by unfold okPS inR; rw [h1, decide_eq_true (by omega), decide_eq_false (by omega)]; rfl)
    go_enter Try.func70, Try.ntmps70
    go_wp2_with (go_at_call 87; refine (l01Side_any _ _).mono ?_; rintro e w' ⟨rfl, rfl⟩; rw [h1])
    go_ret2
    exact PsPost.no R.out (Below.refl _ _)
  obtain ⟨nn, rfl, hn1, hn2⟩ := isSd_nat h1
  have hlen : 1 ≤ rows.length ∧ rows.length ≤ 16 := by omega
  have HOK : Hid (okPS nn rows = rows.all okSl) := by show _ = _; unfold okPS inR; rw [h1, decide_eq_true (by omega), decide_eq_true (by omega)]; rfl
  have HSD := Lib.hid h1
  go_enter Try.func70, Try.ntmps70
  go_wp2_with (go_at_call 87; refine (l01Side_any _ _).mono ?_; rintro e w' ⟨rfl, rfl⟩; rw [h1])
  clear h1
  go_loopw [6] (fun i wr => ∃ k : Nat, k ≤ rows.length ∧ i = .int .i64 k ∧ w = wr ∧ Hid (∀ j, j < k → okSl (rows.getD j []) = true)) (fun i _ => rows.length - (intOf i).toNat)
  case atStart => exact ⟨0, Nat.zero_le _, rfl, rfl, fun j h => by omega⟩
  case round =>
    obtain ⟨k, hk, rfl, rfl, hall⟩ := hrel
    by_cases hlt : k < rows.length
    · obtain ⟨b, off, ai, ci, rfl, hc, hri, hlr⟩ := HR.out k hlt
      have HRI := Lib.hid hri
      obtain ⟨xs, hxs⟩ : ∃ xs, xs = rows.getD k [] := ⟨_, rfl⟩
      rw [← hxs] at hc hlr HRI
      have HXS := Lib.hid hxs
      have HBAD := fun h : okSl xs = false => all_bad hlt (by rw [← HXS.out]; exact h)
      clear hri hxs
      by_cases hx2 : xs.length = 2
      · obtain ⟨u, v, rfl⟩ := two_of hx2
        obtain ⟨b1, o1, ha, hcu⟩ := HRI.out 0 (by simp)
        obtain ⟨b1', o1', ha', hcv⟩ := HRI.out 1 (by simp)
        rw [ha] at ha'
        simp only [Option.some.injEq, Addr.mk.injEq, and_true] at ha'
        obtain ⟨rfl, rfl⟩ := ha'
        subst ha
        have hcu2 : w.cell? ⟨b1, o1, none⟩ = some (.int .i64 u) := hcu
        have hcv2 : w.cell? ⟨b1, o1 + 1, none⟩ = some (.int .i64 v) := hcv
        have hc2 : w.cell? ⟨b, off + k, none⟩ = some (.slice (some ⟨b1, o1, none⟩) 2 ci) := hc
        clear hx2 hc hlr hcu hcv HRI
        cases hu : inR u (-64) 64 with
        | false =>
          have R := Lib.hid (show okPS nn rows = false by rw [HOK.out]; exact HBAD (by unfold okSl; rw [show ([u, v] : List Int).getD 0 0 = u from rfl, hu]; rfl))
          clear HBAD
          go_wp2_with (go_at_call 88; refine (l01In_any _ _ _ _).mono ?_; rintro e w' ⟨rfl, rfl⟩; rw [hu])
          go_ret2
          exact PsPost.no R.out (Below.refl _ _)
        | true =>
        cases hv : inR v (-64) 64 with
        | false =>
          have R := Lib.hid (show okPS nn rows = false by rw [HOK.out]; exact HBAD (by unfold okSl; rw [show ([u, v] : List Int).getD 0 0 = u from rfl, show ([u, v] : List Int).getD 1 0 = v from rfl, hu, hv]; rfl))
          clear HBAD
          go_wp2_with (go_at_call 88; refine (l01In_any _ _ _ _).mono ?_; rintro e w' ⟨rfl, rfl⟩; first | rw [hu] | rw [hv])
          go_ret2
          exact PsPost.no R.out (Below.refl _ _)
        | true =>
          have HG := Lib.hid (show okSl [u, v] = true by unfold okSl; rw [show ([u, v] : List Int).getD 0 0 = u from rfl, show ([u, v] : List Int).getD 1 0 = v from rfl, hu, hv]; rfl)
          clear HBAD
          go_wp2_with (go_at_call 88; refine (l01In_any _ _ _ _).mono ?_; rintro e w' ⟨rfl, rfl⟩; first | rw [hu] | rw [hv])
          go_roundw
          case rel =>
            refine ⟨k + 1, by omega, by go_num, trivial, fun j hj => ?_⟩
            by_cases e : j = k
            · rw [e, ← HXS.out]; exact HG.out
            · exact hall.out j (by omega)
          case measure => simp [intOf]; omega
      · have R := Lib.hid (show okPS nn rows = false by rw [HOK.out]; exact HBAD (by unfold okSl; rw [decide_eq_false hx2]; rfl))
        obtain ⟨m, hm⟩ : ∃ m, m = xs.length := ⟨_, rfl⟩
        rw [← hm] at hc hlr hx2
        have hne : ((m : Int) != 2) = true := by simp; omega
        clear HBAD hm
        go_wp2_with fail
        go_ret2
        exact PsPost.no R.out (Below.refl _ _)
    · have R := Lib.hid (show okPS nn rows = true by rw [HOK.out]; exact all_good (fun j hj => hall.out j (by omega)))
      have HALL : Hid (∀ j, j < rows.length → okSl (rows.getD j []) = true) := fun j hj => hall.out j (by omega)
      have HM := Lib.hid (OwnW.made w)
      clear hall
      go_wp2
      go_loopw [7, 8] (fun s7 i wx => ∃ k : Nat, k ≤ rows.length ∧ i = .int .i64 k ∧ Below w.heap.size w wx ∧ Hid (OwnW wx w.heap.size s7 (psF rawP nn (rows.take k)))) (fun _ i _ => rows.length - (intOf i).toNat)
      case atStart => exact ⟨0, Nat.zero_le _, rfl, (Below.refl _ _).alloc (Nat.le_refl _) _, HM.out⟩
      case round =>
        clear HM
        obtain ⟨k, hk, rfl, hbl, hown⟩ := hrel
        have HB := Lib.hid hbl
        have HO := Lib.hid hown.out
        clear hown hbl
        by_cases hlt : k < rows.length
        · obtain ⟨b, off, ai, ci, rfl, hc, hri, hlr⟩ := HR.out k hlt
          have hok := HALL.out k hlt
          obtain ⟨xs, hxs⟩ : ∃ xs, xs = rows.getD k [] := ⟨_, rfl⟩
          rw [← hxs] at hc hri hok
          have HXS := Lib.hid hxs
          have hx2 : xs.length = 2 := by
            unfold okSl at hok
            simp only [Bool.and_eq_true, decide_eq_true_eq] at hok
            exact hok.1
          obtain ⟨u, v, rfl⟩ := two_of hx2
          unfold okSl at hok
          rw [show ([u, v] : List Int).getD 0 0 = u from rfl, show ([u, v] : List Int).getD 1 0 = v from rfl] at hok
          simp only [Bool.and_eq_true] at hok
          have HU := Lib.hid (inR_true hok.2.1)
          have HV := Lib.hid (inR_true hok.2.2)
          obtain ⟨b1, o1, ha, hcu⟩ := hri 0 (by simp)
          obtain ⟨b1', o1', ha', hcv⟩ := hri 1 (by simp)
          rw [ha] at ha'
          simp only [Option.some.injEq, Addr.mk.injEq, and_true] at ha'
          obtain ⟨rfl, rfl⟩ := ha'
          subst ha
          have CU : Hid (w.cell? ⟨b1, o1, none⟩ = some (.int .i64 u)) := hcu
          have CV : Hid (w.cell? ⟨b1, o1 + 1, none⟩ = some (.int .i64 v)) := hcv
          have CH : Hid (w.cell? ⟨b, off + k, none⟩ = some (.slice (some ⟨b1, o1, none⟩) 2 ci)) := hc
          have hb1 : b1 < w.heap.size := block_lt_of_cell hcu
          have hb0 : b < w.heap.size := block_lt_of_cell hc
          have hkb : (0 : Int) ≤ (k : Int) := by omega
          have hkb2 : (k : Int) < rows.length := by omega
          have HSZ := Lib.hid HB.out.size
          clear hc hri hlr hok hxs hx2 hcu hcv
          go_upto_region 12 with (fail)
          refine wp_region_held (S := fun w' => w'.heap[b1]? = w.heap[b1]? ∧ w'.heap[b]? = w.heap[b]?) (by kernel_rfl) ?_
          change wpAnyH _ _ _ _ _ _ _ _ (World.drew _)
          obtain ⟨V0, hV0⟩ : ∃ V0, V0 = wr.drew := ⟨_, rfl⟩
          have B0 : Hid (V0.heap[b1]? = w.heap[b1]?) := by show _ = _; rw [hV0]; exact HB.out.block b1 hb1
          have C0 : Hid (V0.heap[b]? = w.heap[b]?) := by show _ = _; rw [hV0]; exact HB.out.block b hb0
          have E0 : Hid (Below w.heap.size w V0) := by show Below _ _ _; rw [hV0]; exact below_drewN' HB.out 1
          have O0 : Hid (OwnW V0 w.heap.size u7 (psF rawP nn (rows.take k))) := by show OwnW _ _ _ _; rw [hV0]; exact HO.out
          rw [← hV0]
          clear hV0
          refine wpAnyH_take (i := 0) (v := u7) rfl (by kernel_rfl) (by kernel_rfl) (by kernel_rfl) (fun _ _ _ h => h) (.inl ⟨by rfl, fun w' hS => ?_⟩) ⟨B0.out, C0.out⟩ ?_
          · clear hS
            go_simp
          refine wpAnyH_take (i := 1) (v := .int .i64 nn) rfl (by kernel_rfl) (by kernel_rfl) (by kernel_rfl) (fun _ _ _ h => h) (.inl ⟨by rfl, fun w' hS => ?_⟩) ⟨B0.out, C0.out⟩ ?_
          · clear hS
            go_simp
          refine wpAnyH_take (i := 2) (v := .slice (some ⟨b, off, none⟩) rows.length c) rfl (by kernel_rfl) (by kernel_rfl) (by kernel_rfl) (fun _ _ _ h => h) (.inl ⟨by rfl, fun w' hS => ?_⟩) ⟨B0.out, C0.out⟩ ?_
          · clear hS
            go_simp
          refine wpAnyH_take (i := 3) (v := .int .i64 k) rfl (by kernel_rfl) (by kernel_rfl) (by kernel_rfl) (fun _ _ _ h => h) (.inl ⟨by rfl, fun w' hS => ?_⟩) ⟨B0.out, C0.out⟩ ?_
          · clear hS
            go_simp
          refine wpAnyH_take (i := 4) (v := .pointer (some ⟨b, off + k, none⟩)) rfl (by kernel_rfl) (by kernel_rfl) (by kernel_rfl) (fun _ _ _ h => h) (.inl ⟨by rfl, fun w' hS => ?_⟩) ⟨B0.out, C0.out⟩ ?_
          · clear hS
            go_simp
          refine wpAnyH_take (i := 5) (v := .slice (some ⟨b1, o1, none⟩) 2 ci) rfl (by kernel_rfl) (by kernel_rfl) (by kernel_rfl) (fun _ _ _ h => h) (.inl ⟨by rfl, fun w' hS => ?_⟩) ⟨B0.out, C0.out⟩ ?_
          · have h1 := (World.cell?_of_block hS.2).trans CH.out
            clear hS
            go_simp
          refine wpAnyH_take (i := 6) (v := .pointer (some ⟨b1, o1, none⟩)) rfl (by kernel_rfl) (by kernel_rfl) (by kernel_rfl) (fun _ _ _ h => h) (.inl ⟨by rfl, fun w' hS => ?_⟩) ⟨B0.out, C0.out⟩ ?_
          · clear hS
            go_simp
          refine wpAnyH_take (i := 7) (v := .int .i64 u) rfl (by kernel_rfl) (by kernel_rfl) (by kernel_rfl) (fun _ _ _ h => h) (.inl ⟨by rfl, fun w' hS => ?_⟩) ⟨B0.out, C0.out⟩ ?_
          · have h1 := (World.cell?_of_block hS.1).trans CU.out
            clear hS
            go_simp
          refine wpAnyH_take (i := 8) (v := .slice (some ⟨b, off, none⟩) rows.length c) rfl (by kernel_rfl) (by kernel_rfl) (by kernel_rfl) (fun _ _ _ h => h) (.inl ⟨by rfl, fun w' hS => ?_⟩) ⟨B0.out, C0.out⟩ ?_
          · clear hS
            go_simp
          refine wpAnyH_take (i := 9) (v := .int .i64 k) rfl (by kernel_rfl) (by kernel_rfl) (by kernel_rfl) (fun _ _ _ h => h) (.inl ⟨by rfl, fun w' hS => ?_⟩) ⟨B0.out, C0.out⟩ ?_
          · clear hS
            go_simp
          refine wpAnyH_take (i := 10) (v := .pointer (some ⟨b, off + k, none⟩)) rfl (by kernel_rfl) (by kernel_rfl) (by kernel_rfl) (fun _ _ _ h => h) (.inl ⟨by rfl, fun w' hS => ?_⟩) ⟨B0.out, C0.out⟩ ?_
          · clear hS
            go_simp
          refine wpAnyH_take (i := 11) (v := .slice (some ⟨b1, o1, none⟩) 2 ci) rfl (by kernel_rfl) (by kernel_rfl) (by kernel_rfl) (fun _ _ _ h => h) (.inl ⟨by rfl, fun w' hS => ?_⟩) ⟨B0.out, C0.out⟩ ?_
          · have h1 := (World.cell?_of_block hS.2).trans CH.out
            clear hS
            go_simp
          refine wpAnyH_take (i := 12) (v := .pointer (some ⟨b1, o1 + 1, none⟩)) rfl (by kernel_rfl) (by kernel_rfl) (by kernel_rfl) (fun _ _ _ h => h) (.inl ⟨by rfl, fun w' hS => ?_⟩) ⟨B0.out, C0.out⟩ ?_
          · clear hS
            go_simp
          refine wpAnyH_take (i := 13) (v := .int .i64 v) rfl (by kernel_rfl) (by kernel_rfl) (by kernel_rfl) (fun _ _ _ h => h) (.inl ⟨by rfl, fun w' hS => ?_⟩) ⟨B0.out, C0.out⟩ ?_
          · have h1 := (World.cell?_of_block hS.1).trans CV.out
            clear hS
            go_simp
          refine wpAnyH_ready (rs := [14]) (by kernel_rfl) (by simp) ?_
          refine AllReadyH.cons rfl (fun K hK => ?_) AllReadyH.nil
          go_simp
          refine (l01Plane_any nn u v V0 hn1 hn2 HSD.out HU.out HV.out).mono ?_
          rintro e V1 ⟨rfl, hb⟩
          have hblt : b1 < V0.heap.size := Nat.lt_of_lt_of_le hb1 E0.out.size
          have B1 : Hid (V1.heap[b1]? = w.heap[b1]?) := (hb.block b1 hblt).trans B0.out
          have C1 : Hid (V1.heap[b]? = w.heap[b]?) := (hb.block b (Nat.lt_of_lt_of_le hb0 E0.out.size)).trans C0.out
          have E1 := Lib.hid (E0.out.trans (hb.mono E0.out.size))
          have O1 := Lib.hid (O0.out.below hb)
          have HFL := Lib.hid (fillL_length (fun i => rawP (fPln nn u v i)) (sq64 hn2))
          obtain ⟨fl, hfl⟩ : ∃ fl, fl = fillL (nn * nn) (fun i => rawP (fPln nn u v i)) := ⟨_, rfl⟩
          rw [← hfl] at HFL ⊢
          have HFE := Lib.hid hfl
          clear hb hblt B0 E0 O0 hfl
          try go_simp
          refine hK.out _ _ ⟨B1.out, C1.out⟩ (fun _ => ?_)
          clear hK K
          refine wpAnyH_ready (rs := [15]) (by kernel_rfl) (by simp) ?_
          refine AllReadyH.cons rfl (fun K hK => ?_) AllReadyH.nil
          rw [if_pos (by rfl)]
          refine wp_buildW (.tmp 75) rfl nn fl HFL.out rfl ?_
          have hblt : b1 < V1.heap.size := Nat.lt_of_lt_of_le hb1 E1.out.size
          have hblt0 : b < V1.heap.size := Nat.lt_of_lt_of_le hb0 E1.out.size
          refine hK.out _ _ ⟨(heap_alloc_old V1 _ hblt).trans B1.out, (heap_alloc_old V1 _ hblt0).trans C1.out⟩ (fun _ => ?_)
          clear hK K
          refine wpAnyH_ready (rs := [16]) (by kernel_rfl) (by simp) ?_
          refine AllReadyH.cons rfl (fun K hK => ?_) AllReadyH.nil
          rw [if_pos (by rfl)]
          refine wp_appendW (w0 := V1) (.tmp 61) (.tmp 76) rfl w.heap.size u7 (psF rawP nn (rows.take k)) nn fl HFL.out rfl O1.out rfl (by rw [psF_length, List.length_take]; omega) E1.out.size ?_
          intro v' V3 hO hv' hG
          have E3 := Lib.hid (E1.out.grown hG E1.out.size (fun j hj => (O1.out.lt j hj).1))
          have B3 : Hid (V3.heap[b1]? = w.heap[b1]?) := (hG.block b1 hblt (fun e => by have := (O1.out.lt b1 e.symm).1; omega)).trans B1.out
          have C3 : Hid (V3.heap[b]? = w.heap[b]?) := (hG.block b hblt0 (fun e => by have := (O1.out.lt b e.symm).1; omega)).trans C1.out
          have O3 : Hid (OwnW V3 w.heap.size v' (psF rawP nn (rows.take (k + 1)))) := by show OwnW _ _ _ _; rw [psF_take hlt, ← HXS.out, ← show fl = fillL (nn * nn) (fun i => rawP (fPln nn (([u, v] : List Int).getD 0 0) (([u, v] : List Int).getD 1 0) i)) from HFE.out]; exact hO
          clear hO hv' hG hblt B1 E1 O1
          refine hK.out _ _ ⟨B3.out, C3.out⟩ (fun _ => ?_)
          clear hK K
          refine wpAnyH_ready (rs := [17]) (by kernel_rfl) (by simp) ?_
          refine AllReadyH.cons rfl (fun K hK => ?_) AllReadyH.nil
          go_simp
          refine hK.out _ _ ⟨B3.out, C3.out⟩ (fun _ => ?_)
          clear hK K
          refine wpAnyH_done (by kernel_rfl) ?_ _
          go_wp2_with fail
          go_roundw
          case rel => exact ⟨k + 1, by omega, by go_num, E3.out, O3.out⟩
          case measure => simp [intOf]; omega
        · have e : k = rows.length := by omega
          have HO2 : Hid (OwnW wr w.heap.size u7 (psF rawP nn rows)) := by
            have h := HO.out
            rw [e, List.take_length] at h
            exact h
          clear e HO
          go_wp2
          go_ret2
          exact PsPost.yes R.out rfl HO2.out HB.out
end Go.Proofs.Ytficghohflmdeaa
