/- Lists of waves: marks laid and held. -/
import Derived.Test.YtficghohflmdeaaPs7
namespace Go.Proofs.Ytficghohflmdeaa
open Go.RowKit
set_option linter.unusedVariables false

def one64 : Nat := 4607182418800017408
/-- a whole number, and 1, as a complex number in single precision -/
def cvb (q : Nat) : Nat × Nat := (cConvBits .f64 (floatOfInt .f64 (q : Int)) one64 .f32).getD (0, 0)
def cvOk (q : Nat) : Bool := (cConvBits .f64 (floatOfInt .f64 (q : Int)) one64 .f32).isSome && (!(FloatKind.f32.decode (cvb q).1).isNaN && !(FloatKind.f32.decode (cvb q).2).isNaN)
theorem cvOk_all : ∀ q : Nat, q < 1100 → cvOk q = true := by decide +kernel
theorem cv_some {q : Nat} (h : q < 1100) : cConvBits .f64 (floatOfInt .f64 (q : Int)) one64 .f32 = some ((cvb q).1, (cvb q).2) := by
  have h1 := cvOk_all q h
  unfold cvOk at h1
  simp only [Bool.and_eq_true] at h1
  obtain ⟨z, hz⟩ := Option.isSome_iff_exists.1 h1.1
  unfold cvb
  rw [hz]; rfl
theorem cv_eq {q : Nat} (h : q < 1100) : FloatKind.f32.format.order (cvb q).1 (cvb q).1 = some .eq ∧ FloatKind.f32.format.order (cvb q).2 (cvb q).2 = some .eq := by
  have h1 := cvOk_all q h
  unfold cvOk at h1
  simp only [Bool.and_eq_true, Bool.not_eq_true'] at h1
  exact ⟨order_self h1.2.1, order_self h1.2.2⟩

/-- the mark at place p of the flat cells -/
def mkV (p : Nat) : Value := if p % 65 = 0 then .int .i64 ((1 + p : Nat) : Int) else cx (cvb (1 + p))
def MarkW (w : World) (B : Nat) (v : Value) (n : Nat) : Prop := w.ownsRow B 29 65 v n ((List.range (n * 65)).map mkV)
theorem MarkW.below {w w' : World} {B : Nat} {v : Value} {n : Nat} (h : MarkW w B v n) (hb : Below w.heap.size w w') : MarkW w' B v n := by
  refine ⟨h.1, ?_⟩
  rcases h.2 with h2 | ⟨g, cap, cur, hv, hg, hh, r⟩
  · exact .inl h2
  · exact .inr ⟨g, cap, cur, hv, hg, by rw [hb.block g (Array.getElem?_eq_some_iff.1 hh).1]; exact hh, r⟩
theorem mk_side (i : Nat) : mkV (i * 65) = .int .i64 ((1 + i * 65 : Nat) : Int) := by unfold mkV; rw [if_pos (by omega)]
theorem mk_cell {i j : Nat} (hj : j < 64) : mkV (i * 65 + 1 + j) = .complex .f32 (cvb (1 + (i * 65 + 1 + j))).1 (cvb (1 + (i * 65 + 1 + j))).2 := by unfold mkV; rw [if_neg (by omega)]; rfl
/-- the first p cells marked -/
def mkS (xs : List Value) (p : Nat) : List Value := (List.range p).map mkV ++ xs.drop p
theorem mkS_set {xs : List Value} {p : Nat} (hp : p < xs.length) : (mkS xs p).set p (mkV p) = mkS xs (p + 1) := by
  unfold mkS
  rw [List.set_append, if_neg (by simp), List.drop_eq_getElem_cons hp, List.range_succ]
  simp only [List.length_map, List.length_range, Nat.sub_self, List.set_cons_zero, List.map_append, List.map_cons, List.map_nil, List.append_assoc, List.singleton_append]
theorem mkS_length {xs : List Value} {p : Nat} (hp : p ≤ xs.length) : (mkS xs p).length = xs.length := by simp [mkS]; omega
theorem mkS_zero (xs : List Value) : mkS xs 0 = xs := by simp [mkS]
theorem mkS_all (xs : List Value) : mkS xs xs.length = (List.range xs.length).map mkV := by simp [mkS]

theorem row_cell {w : World} {B g c n : Nat} {ys : List Value} (h : w.ownsRow B 29 65 (.slice (some ⟨g, 0, none⟩) n c) n ys) {p : Nat} (hp : p < n * 65) : ∃ y, w.cell? ⟨g, p, none⟩ = some y := by
  rw [World.ownsRow.cellAt h p hp, List.getElem?_eq_getElem (by rw [h.1]; exact hp)]
  exact ⟨_, rfl⟩

set_option maxRecDepth 10000 in
set_option maxHeartbeats 2000000 in
theorem markWS_some (ps : WL) (g c B : Nat) (w : World) (hown : OwnW w B (.slice (some ⟨g, 0, none⟩) ps.length c) ps) (hl : ps.length ≤ 16) :
    Calls Try.prog 41 #[.slice (some ⟨g, 0, none⟩) ps.length c, .int .i64 1] w fun e w' => e = .returned (.int .i64 ((1 + ps.length * 65 : Nat) : Int)) ∧
      MarkW w' B (.slice (some ⟨g, 0, none⟩) ps.length c) ps.length ∧ w.grownBy w' (some g) := by
  obtain ⟨n, hn⟩ : ∃ n, n = ps.length := ⟨_, rfl⟩
  obtain ⟨xs, hxs⟩ : ∃ xs, xs = flatW ps := ⟨_, rfl⟩
  have hxl : xs.length = n * 65 := by rw [hxs, hn]; exact flatW_length hown.2
  have HO0 : Hid (w.ownsRow B 29 65 (.slice (some ⟨g, 0, none⟩) n c) n (mkS xs 0)) := by show World.ownsRow _ _ _ _ _ _ _; rw [mkS_zero, hxs, hn]; exact hown.1
  rw [← hn] at hl ⊢
  have HXL := Lib.hid hxl
  clear hown hn hxs hxl
  go_enter Try.func41, Try.ntmps41
  go_wp2
  go_loopw [1, 5, 6] (fun q i _ wr => ∃ k : Nat, k ≤ n ∧ i = .int .i64 k ∧ ∃ s : Nat, q = .int .i64 s ∧ s ≤ 1060 ∧ w.grownBy wr (some g) ∧ Hid (s = 1 + k * 65 ∧ wr.ownsRow B 29 65 (.slice (some ⟨g, 0, none⟩) n c) n (mkS xs (k * 65)))) (fun _ i _ _ => n - (intOf i).toNat)
  case atStart => exact ⟨0, Nat.zero_le _, rfl, 1, rfl, by omega, grownBy_refl _ _, rfl, HO0.out⟩
  case round =>
    clear HO0
    obtain ⟨k, hk, rfl, s, rfl, hs, hgr, hcur⟩ := hrel
    obtain ⟨hse, ho⟩ := hcur.out
    have HG := Lib.hid hgr
    clear hgr hcur
    by_cases hlt : k < n
    · have hp : k * 65 < n * 65 := by omega
      obtain ⟨y, c0⟩ := row_cell ho hp
      have f0 := World.ownsRow.frozenAt ho (k * 65)
      have HO := Lib.hid ho
      have HSE := Lib.hid hse
      have hkb : (0 : Int) ≤ (k : Int) := by omega
      have hkb2 : (k : Int) < n := by omega
      obtain ⟨s1, hs1⟩ : ∃ s1, s1 = s + 1 := ⟨_, rfl⟩
      have hs1i : (s : Int) + 1 = s1 := by omega
      have hs1b : s1 ≤ 1100 := by omega
      have HS1 := Lib.hid hs1
      clear ho hse hs1
      go_wp2
      obtain ⟨V0, hV0⟩ : ∃ V0, V0 = wr.setCell ⟨g, k * 65, none⟩ (.int .i64 (s : Int)) := ⟨_, rfl⟩
      rw [← hV0]
      have O1 : Hid (V0.ownsRow B 29 65 (.slice (some ⟨g, 0, none⟩) n c) n (mkS xs (k * 65 + 1 + 0))) := by
        show World.ownsRow _ _ _ _ _ _ _
        rw [hV0]
        have h := (HO.out.stored (k * 65) (.int .i64 (s : Int))).1
        have e : Value.int .i64 (s : Int) = mkV (k * 65) := by rw [mk_side, HSE.out]
        rw [e, mkS_set (by rw [HXL.out]; exact hp), ← e] at h
        exact h
      have G1 : Hid (w.grownBy V0 (some g)) := by
        show World.grownBy _ _ _
        rw [hV0]
        exact grownBy_trans HG.out (HO.out.stored (k * 65) (.int .i64 (s : Int))).2
      clear hV0 c0 f0 HO HG
      go_loopw [1, 6] (fun q j wx => ∃ m : Nat, m ≤ 64 ∧ j = .int .i64 m ∧ ∃ z : Nat, q = .int .i64 z ∧ z ≤ 1060 ∧ w.grownBy wx (some g) ∧ Hid (z = 1 + (k * 65 + 1 + m) ∧ wx.ownsRow B 29 65 (.slice (some ⟨g, 0, none⟩) n c) n (mkS xs (k * 65 + 1 + m)))) (fun _ j _ => 64 - (intOf j).toNat)
      case atStart => exact ⟨0, Nat.zero_le _, rfl, s1, rfl, (by have := HS1.out; have := HSE.out; omega), G1.out, by rw [HS1.out, HSE.out]; omega, O1.out⟩
      case round =>
        clear O1 G1
        obtain ⟨m, hm, rfl, z, rfl, hz, hgr, hcur⟩ := hrel
        obtain ⟨hze, ho⟩ := hcur.out
        have HG := Lib.hid hgr
        clear hgr hcur
        by_cases hltm : m < 64
        · have hp : k * 65 + 1 + m < n * 65 := by omega
          obtain ⟨y, c0⟩ := row_cell ho hp
          have f0 := World.ownsRow.frozenAt ho (k * 65 + 1 + m)
          have HO := Lib.hid ho
          have HZE := Lib.hid hze
          have hcv1 := cv_some (q := z) (by omega)
          obtain ⟨p, hpp⟩ : ∃ p, p = cvb z := ⟨_, rfl⟩
          rw [← hpp] at hcv1
          have hcv : ∀ w, (convert 25 22 (.complex .f64 (floatOfInt .f64 (z : Int)) 4607182418800017408)).run Try.prog w = .ok (.complex .f32 p.1 p.2) w := fun w => run_convert_complex (P := Try.prog) (w := w) 25 22 .f64 .f32 _ _ p.1 p.2 (by rw [Try.underlying25]; rfl) Try.underlying22 hcv1
          have HPP := Lib.hid hpp
          obtain ⟨z1, hz1⟩ : ∃ z1, z1 = z + 1 := ⟨_, rfl⟩
          have hz1i : (z : Int) + 1 = z1 := by omega
          have hz1b : z1 ≤ 1100 := by omega
          have HZ1 := Lib.hid hz1
          have hmb : (m : Int) < 64 := by omega
          clear ho hze hcv1 hpp hz1
          go_wp2
          go_roundw
          case rel =>
            have h := HO.out.stored (k * 65 + 1 + m) (.complex .f32 p.1 p.2)
            have e : Value.complex .f32 p.1 p.2 = mkV (k * 65 + 1 + m) := by rw [mk_cell hltm, ← HZE.out, HPP.out]
            refine ⟨m + 1, by omega, by go_num, z1, rfl, (by have := HZ1.out; have := HZE.out; omega), grownBy_trans HG.out h.2, (by rw [HZ1.out, HZE.out]; omega), ?_⟩
            have h1 := h.1
            rw [e, mkS_set (by rw [HXL.out]; exact hp), ← e] at h1
            exact h1
          case measure => simp [intOf]; omega
        · have hm64 : m = 64 := by omega
          have HZE := Lib.hid hze
          have HO := Lib.hid ho
          clear ho hze
          go_wp2
          go_roundw
          case rel =>
            refine ⟨k + 1, by omega, by go_num, z, rfl, hz, HG.out, (by rw [HZE.out, hm64]; omega), ?_⟩
            have e : k * 65 + 1 + m = (k + 1) * 65 := by omega
            rw [← e]; exact HO.out
          case measure => simp [intOf]; omega
    · have e : k = n := by omega
      have HM : Hid (MarkW wr B (.slice (some ⟨g, 0, none⟩) n c) n) := by
        show MarkW _ _ _ _
        rw [e, ← HXL.out, mkS_all, HXL.out] at ho
        exact ho
      have HS := Lib.hid hse
      have E := Lib.hid e
      clear ho hse e
      go_wp2
      go_ret
      exact ⟨by rw [HS.out, E.out]; rfl, HM.out, HG.out⟩

theorem markWS_nil (w : World) : Calls Try.prog 41 #[.slice none 0 0, .int .i64 1] w fun e w' => e = .returned (.int .i64 1) ∧ w = w' := by
  go_enter Try.func41, Try.ntmps41
  go_wp2
  go_rounds 1
  go_ret
  exact ⟨rfl, rfl⟩
theorem markWS_any (ps : WL) (v : Value) (B : Nat) (w : World) (hown : OwnW w B v ps) (hl : ps.length ≤ 16) :
    Calls Try.prog 41 #[v, .int .i64 1] w fun e w' => e = .returned (.int .i64 ((1 + ps.length * 65 : Nat) : Int)) ∧ MarkW w' B v ps.length ∧ w.grownBy w' v.ownBlock := by
  rcases hown.form with ⟨rfl, rfl⟩ | ⟨g, c, rfl⟩
  · refine (markWS_nil w).mono ?_
    rintro e w' ⟨rfl, rfl⟩
    exact ⟨rfl, World.ownsRow_nil _ _ _ _, grownBy_refl _ _⟩
  · exact markWS_some ps g c B w hown hl

set_option maxRecDepth 10000 in
set_option maxHeartbeats 2000000 in
theorem heldWS_some (n g c B : Nat) (w : World) (hown : MarkW w B (.slice (some ⟨g, 0, none⟩) n c) n) (hl : n ≤ 16) :
    Calls Try.prog 42 #[.slice (some ⟨g, 0, none⟩) n c, .int .i64 1] w fun e w' => e = .returned (.int .i64 ((1 + n * 65 : Nat) : Int)) ∧ w = w' := by
  have HO := Lib.hid hown
  clear hown
  go_enter Try.func42, Try.ntmps42
  go_wp2
  go_loopw [1, 5, 6] (fun q i _ wr => ∃ k : Nat, k ≤ n ∧ i = .int .i64 k ∧ w = wr ∧ ∃ s : Nat, q = .int .i64 s ∧ s ≤ 1060 ∧ Hid (s = 1 + k * 65)) (fun _ i _ _ => n - (intOf i).toNat)
  case atStart => exact ⟨0, Nat.zero_le _, rfl, rfl, 1, rfl, by omega, rfl⟩
  case round =>
    obtain ⟨k, hk, rfl, rfl, s, rfl, hs, hse⟩ := hrel
    by_cases hlt : k < n
    · have hp : k * 65 < n * 65 := by omega
      have c0 : w.cell? ⟨g, k * 65, none⟩ = some (.int .i64 (s : Int)) := by
        rw [World.ownsRow.cellAt HO.out (k * 65) hp, hse.out, ← mk_side]
        simp [hp]
      have hkb : (0 : Int) ≤ (k : Int) := by omega
      have hkb2 : (k : Int) < n := by omega
      obtain ⟨s1, hs1⟩ : ∃ s1, s1 = s + 1 := ⟨_, rfl⟩
      have hs1i : (s : Int) + 1 = s1 := by omega
      have hs1b : s1 ≤ 1100 := by omega
      have HS1 := Lib.hid hs1
      clear hs1
      go_wp2
      go_loopw [1, 6] (fun q j wx => ∃ m : Nat, m ≤ 64 ∧ j = .int .i64 m ∧ w = wx ∧ ∃ z : Nat, q = .int .i64 z ∧ z ≤ 1060 ∧ Hid (z = 1 + (k * 65 + 1 + m))) (fun _ j _ => 64 - (intOf j).toNat)
      case atStart => exact ⟨0, Nat.zero_le _, rfl, rfl, s1, rfl, (by have := HS1.out; have := hse.out; omega), (by show _ = _; rw [HS1.out, hse.out]; omega)⟩
      case round =>
        clear c0
        obtain ⟨m, hm, rfl, rfl, z, rfl, hz, hze⟩ := hrel
        by_cases hltm : m < 64
        · have hp : k * 65 + 1 + m < n * 65 := by omega
          have hcv1 := cv_some (q := z) (by omega)
          have hce := cv_eq (q := z) (by omega)
          have c0 : w.cell? ⟨g, k * 65 + 1 + m, none⟩ = some (.complex .f32 (cvb z).1 (cvb z).2) := by
            rw [World.ownsRow.cellAt HO.out (k * 65 + 1 + m) hp, hze.out, ← mk_cell hltm]
            simp [hp]
          obtain ⟨p, hpp⟩ : ∃ p, p = cvb z := ⟨_, rfl⟩
          rw [← hpp] at hcv1 hce c0
          have hcv : ∀ w, (convert 25 22 (.complex .f64 (floatOfInt .f64 (z : Int)) 4607182418800017408)).run Try.prog w = .ok (.complex .f32 p.1 p.2) w := fun w => run_convert_complex (P := Try.prog) (w := w) 25 22 .f64 .f32 _ _ p.1 p.2 (by rw [Try.underlying25]; rfl) Try.underlying22 hcv1
          obtain ⟨hce1, hce2⟩ := hce
          obtain ⟨z1, hz1⟩ : ∃ z1, z1 = z + 1 := ⟨_, rfl⟩
          have hz1i : (z : Int) + 1 = z1 := by omega
          have hz1b : z1 ≤ 1100 := by omega
          have HZ1 := Lib.hid hz1
          have hmb : (m : Int) < 64 := by omega
          clear hcv1 hpp hz1
          go_wp2
          go_roundw
          case rel => exact ⟨m + 1, by omega, by go_num, trivial, z1, rfl, (by have := HZ1.out; have := hze.out; omega), (by show _ = _; rw [HZ1.out, hze.out]; omega)⟩
          case measure => simp [intOf]; omega
        · have hm64 : m = 64 := by omega
          go_wp2
          go_roundw
          case rel => exact ⟨k + 1, by omega, by go_num, trivial, z, rfl, hz, (by show _ = _; rw [hze.out, hm64]; omega)⟩
          case measure => simp [intOf]; omega
    · have E := Lib.hid (by omega : k = n)
      go_wp2
      go_ret
      exact ⟨by rw [hse.out, E.out]; rfl, rfl⟩
theorem heldWS_nil (w : World) : Calls Try.prog 42 #[.slice none 0 0, .int .i64 1] w fun e w' => e = .returned (.int .i64 1) ∧ w = w' := by
  go_enter Try.func42, Try.ntmps42
  go_wp2
  go_rounds 1
  go_ret
  exact ⟨rfl, rfl⟩
theorem heldWS_any (n : Nat) (v : Value) (B : Nat) (w : World) (h : MarkW w B v n) (hl : n ≤ 16) :
    Calls Try.prog 42 #[v, .int .i64 1] w fun e w' => e = .returned (.int .i64 ((1 + n * 65 : Nat) : Int)) ∧ w = w' := by
  rcases h.2 with ⟨rfl, rfl⟩ | ⟨g, cap, cur, rfl, _⟩
  · exact heldWS_nil w
  · exact heldWS_some n g cap B w h hl
end Go.Proofs.Ytficghohflmdeaa
