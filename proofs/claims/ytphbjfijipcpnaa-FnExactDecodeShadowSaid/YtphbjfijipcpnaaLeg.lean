/- Codes of Legendre. -/
import Derived.Test.YtphbjfijipcpnaaSum2
import Derived.Test.YtphbjfijipcpnaaFlo2
namespace Go.Proofs.Ytphbjfijipcpnaa
open Go.RowKit
set_option linter.unusedVariables false

def isP (n : Nat) : Bool := n == 3 || n == 7 || n == 11 || n == 19 || n == 23 || n == 31
theorem isP_le {n : Nat} (h : isP n = true) : 0 < n ∧ n ≤ 31 := by
  simp only [isP, Bool.or_eq_true, beq_iff_eq] at h; omega

theorem l10Prime_any (n : Nat) (w : World) (hn : n ≤ 9223372036854775807) : Calls Try.prog 133 #[.int .i64 n] w fun e w' => e = .returned (.bool (isP n)) ∧ w = w' := by
  cases hb : isP n with
  | true =>
    simp only [isP, Bool.or_eq_true, beq_iff_eq] at hb
    rcases hb with ((((h | h) | h) | h) | h) | h
    all_goals
      subst h
      go_enter Try.func133, Try.ntmps133
      go_wp2
      go_ret
      exact ⟨rfl, rfl⟩
  | false =>
    simp only [isP, Bool.or_eq_false_iff, beq_eq_false_iff_ne] at hb
    obtain ⟨⟨⟨⟨⟨h1, h2⟩, h3⟩, h4⟩, h5⟩, h6⟩ := hb
    have g1 : ¬ (n : Int) = 3 := by omega
    have g2 : ¬ (n : Int) = 7 := by omega
    have g3 : ¬ (n : Int) = 11 := by omega
    have g4 : ¬ (n : Int) = 19 := by omega
    have g5 : ¬ (n : Int) = 23 := by omega
    have g6 : ¬ (n : Int) = 31 := by omega
    clear h1 h2 h3 h4 h5 h6
    go_enter Try.func133, Try.ntmps133
    go_wp2
    all_goals go_ret
    all_goals exact ⟨ret_bool (by simp [g1, g2, g3, g4, g5, g6]), rfl⟩

theorem index_any (n : Nat) (w : World) (hn : n ≤ 9223372036854775807) :
    Calls Try.prog 138 #[.slice (some ⟨w.heap.size, 0, none⟩) 6 6, .int .i64 n] (w.alloc (.cells #[.int .i64 3, .int .i64 7, .int .i64 11, .int .i64 19, .int .i64 23, .int .i64 31] 2)) fun e w' => (∃ k : Int, e = .returned (.int .i64 k) ∧ decide (0 ≤ k) = isP n) ∧ w' = w.alloc (.cells #[.int .i64 3, .int .i64 7, .int .i64 11, .int .i64 19, .int .i64 23, .int .i64 31] 2) := by
  cases hb : isP n with
  | true =>
    simp only [isP, Bool.or_eq_true, beq_iff_eq] at hb
    rcases hb with ((((h | h) | h) | h) | h) | h
    all_goals
      subst h
      go_enter Try.func138, Try.ntmps138
      go_wp2
      go_rounds 7
      go_ret
      exact ⟨⟨_, rfl, by decide⟩, rfl⟩
  | false =>
    simp only [isP, Bool.or_eq_false_iff, beq_eq_false_iff_ne] at hb
    obtain ⟨⟨⟨⟨⟨h1, h2⟩, h3⟩, h4⟩, h5⟩, h6⟩ := hb
    have g1 : ¬ (n : Int) = 3 := by omega
    have g2 : ¬ (n : Int) = 7 := by omega
    have g3 : ¬ (n : Int) = 11 := by omega
    have g4 : ¬ (n : Int) = 19 := by omega
    have g5 : ¬ (n : Int) = 23 := by omega
    have g6 : ¬ (n : Int) = 31 := by omega
    clear h1 h2 h3 h4 h5 h6
    go_enter Try.func138, Try.ntmps138
    go_wp2
    go_rounds 7
    all_goals go_ret
    all_goals exact ⟨⟨_, rfl, by decide⟩, rfl⟩

theorem contains_any (n : Nat) (w : World) (hn : n ≤ 9223372036854775807) :
    Calls Try.prog 134 #[.slice (some ⟨w.heap.size, 0, none⟩) 6 6, .int .i64 n] (w.alloc (.cells #[.int .i64 3, .int .i64 7, .int .i64 11, .int .i64 19, .int .i64 23, .int .i64 31] 2)) fun e w' => e = .returned (.bool (isP n)) ∧ w' = w.alloc (.cells #[.int .i64 3, .int .i64 7, .int .i64 11, .int .i64 19, .int .i64 23, .int .i64 31] 2) := by
  go_enter Try.func134, Try.ntmps134
  go_wp2_with fail
  refine (index_any n w hn).mono ?_
  rintro e w1 ⟨⟨k, rfl, hk⟩, rfl⟩
  have HK := Lib.hid hk; clear hk
  go_wp2
  go_ret
  exact ⟨ret_bool (by rw [← HK.out]), rfl⟩

theorem isLegendre_any (n : Nat) (w : World) (hn : n ≤ 9223372036854775807) :
    Calls Try.prog 105 #[.int .i64 n] w fun e w' => e = .returned (.bool (isP n)) ∧ Below w.heap.size w w' := by
  go_enter Try.func105, Try.ntmps105
  go_wp2_with fail
  refine (contains_any n w hn).mono ?_
  rintro e w1 ⟨rfl, rfl⟩
  have HB := Lib.hid ((Below.refl w.heap.size w).alloc (Nat.le_refl _) (.cells #[.int .i64 3, .int .i64 7, .int .i64 11, .int .i64 19, .int .i64 23, .int .i64 31] 2))
  go_wp2
  go_ret
  exact ⟨rfl, HB.out⟩

theorem modulo_any (x : Int) (p i : Nat) (w : World) (hp : 0 < p) (hp2 : p ≤ 64) (hx : -(p : Int) < x) (hx2 : x < p) (hi : (x + p).tmod p = i) : Calls Try.prog 109 #[.int .i64 x, .int .i64 p] w fun e w' => e = .returned (.int .i64 i) ∧ w = w' := by
  have h1 : x.tmod p = x := by
    by_cases h : 0 ≤ x
    · exact Int.tmod_eq_of_lt h hx2
    · have : x = -(-x) := by omega
      rw [this, Int.neg_tmod, Int.tmod_eq_of_lt (by omega) (by omega)]
  have h0 : ¬ (p : Int) = 0 := by omega
  go_enter Try.func109, Try.ntmps109
  go_wp2
  go_ret
  exact ⟨rfl, rfl⟩

theorem listCode_isLegendre (bs : List Nat) (a : Option Addr) (c : Nat) (w : World) (hrd : RdF w a bs) (hl : bs.length ≤ 9223372036854775807) :
    Calls Try.prog 69 #[.slice a bs.length c, .func (.func 105) #[] #[]] w fun e w' => e = .returned (.int .i64 (lcode (allNum bs) (isP bs.length))) ∧ Below w.heap.size w w' := by
  have HR := Lib.hid hrd; clear hrd
  cases hn : allNum bs with
  | true =>
    cases hd : isP bs.length with
    | true =>
      go_enter Try.func69, Try.ntmps69
      go_wp2_with fail
      refine (areNumbers_any _ _ _ _ HR.out hl).mono ?_
      rintro e w' ⟨rfl, n, rfl⟩
      rw [hn]
      go_wp2_with fail
      refine (isLegendre_any _ (w.drewN n) hl).mono ?_
      rintro e w' ⟨rfl, hb⟩
      have HB := Lib.hid hb; clear hb
      rw [hd]
      go_wp2
      go_ret
      exact ⟨rfl, (below_drewN' (Below.refl _ _) n).trans HB.out⟩
    | false =>
      go_enter Try.func69, Try.ntmps69
      go_wp2_with fail
      refine (areNumbers_any _ _ _ _ HR.out hl).mono ?_
      rintro e w' ⟨rfl, n, rfl⟩
      rw [hn]
      go_wp2_with fail
      refine (isLegendre_any _ (w.drewN n) hl).mono ?_
      rintro e w' ⟨rfl, hb⟩
      have HB := Lib.hid hb; clear hb
      rw [hd]
      go_wp2
      go_ret
      exact ⟨rfl, (below_drewN' (Below.refl _ _) n).trans HB.out⟩
  | false =>
    go_enter Try.func69, Try.ntmps69
    go_wp2_with fail
    refine (areNumbers_any _ _ _ _ HR.out hl).mono ?_
    rintro e w' ⟨rfl, n, rfl⟩
    rw [hn]
    go_wp2
    go_ret
    exact ⟨rfl, below_drewN' (Below.refl _ _) n⟩

theorem l10Code_any (bs : List Nat) (a : Option Addr) (c : Nat) (w : World) (hrd : RdF w a bs) (hl : bs.length ≤ 9223372036854775807) :
    Calls Try.prog 103 #[.slice a bs.length c] w fun e w' => e = .returned (.int .i64 (lcode (allNum bs) (isP bs.length))) ∧ Quiet w w' := by
  have HR := Lib.hid hrd; clear hrd
  cases hn : allNum bs with
  | true =>
    cases hd : isP bs.length with
    | true =>
      go_enter Try.func103, Try.ntmps103
      go_wp2_with (first | (go_at_call 65; refine (l10Fine_any _ _ _ _ HR.out hl).mono ?_; rintro e w' ⟨rfl, n, rfl⟩) | (go_at_call 133; refine (l10Prime_any _ _ hl).mono ?_; rintro e w' ⟨rfl, rfl⟩))
      go_ret
      exact ⟨rfl, _, rfl⟩
    | false =>
      go_enter Try.func103, Try.ntmps103
      go_wp2_with (first | (go_at_call 65; refine (l10Fine_any _ _ _ _ HR.out hl).mono ?_; rintro e w' ⟨rfl, n, rfl⟩) | (go_at_call 133; refine (l10Prime_any _ _ hl).mono ?_; rintro e w' ⟨rfl, rfl⟩))
      go_ret
      exact ⟨rfl, _, rfl⟩
  | false =>
    go_enter Try.func103, Try.ntmps103
    go_wp2_with (go_at_call 65; refine (l10Fine_any _ _ _ _ HR.out hl).mono ?_; rintro e w' ⟨rfl, n, rfl⟩)
    go_ret
    exact ⟨rfl, _, rfl⟩

def one : Nat := 1065353216
def neg : Nat := 3212836864
/-- the code after x of the squares are laid -/
def legT (p : Nat) : Nat → List Nat
  | 0 => List.replicate p neg
  | x + 1 => (legT p x).set (x * x % p) one
theorem legT_length (p x : Nat) : (legT p x).length = p := by induction x with
  | zero => simp [legT]
  | succ x ih => simp [legT, ih]
/-- whether one of the first x squares is j -/
def sq (p j : Nat) : Nat → Bool
  | 0 => false
  | x + 1 => sq p j x || x * x % p == j
def legS (p m : Nat) : List Nat := (List.range m).map fun j => if sq p j p then one else neg
def legL (p : Nat) : List Nat := legT p p
theorem legL_length (p : Nat) : (legL p).length = p := legT_length p p
theorem legS_eq {p : Nat} (h : isP p = true) : legS p p = legL p := by
  simp only [isP, Bool.or_eq_true, beq_iff_eq] at h
  rcases h with ((((h | h) | h) | h) | h) | h <;> subst h <;> decide

set_option maxHeartbeats 1000000 in
theorem legendre_any (p : Nat) (hp : 0 < p) (hp2 : p ≤ 64) (w : World) :
    Calls Try.prog 106 #[.int .i64 p] w fun e w' => e = .returned (.slice (some ⟨w.heap.size, 0, none⟩) p p) ∧ OwnF w' w.heap.size (.slice (some ⟨w.heap.size, 0, none⟩) p p) (legL p) ∧ Below w.heap.size w w' := by
  obtain ⟨i0, hi, hz0, hz1, hz2⟩ := info_parts Try.infoF
  obtain ⟨w1, hmk, hown, hg⟩ := run_make_full (P := Try.prog) w w.heap.size 22 28 i0 (.float .f32 0) 1 Try.underlying22 hi hz0 hz1 .i64 .i64 p (by rw [hz2]; omega) (by unfold maxLen; omega) (Nat.le_refl _)
  have hb1 : Below w.heap.size w w1 := (Below.refl _ _).grown hg (Nat.le_refl _) (fun k h => by cases h)
  have hown1 : Hid (OwnF w1 w.heap.size (.slice (some ⟨w.heap.size, 0, none⟩) p p) (List.replicate p 0)) := by
    have e : (madeCells (Value.float .f32 0).cells (p * 1)).toList = (List.replicate p 0).map flt := by
      rw [Nat.mul_one, List.map_replicate]; exact toList_madeCells_one _ _
    rw [e] at hown
    show OwnF _ _ _ _
    unfold OwnF
    rw [List.length_replicate]; exact hown
  have h0 : ¬ (p : Int) = 0 := by omega
  clear hown hg hi hz0 hz1 hz2
  go_enter Try.func106, Try.ntmps106
  go_wp2
  go_loopw [4, 10] (fun _ i wr => ∃ k : Nat, k ≤ p ∧ i = .int .i64 k ∧ Below w.heap.size w wr ∧ Hid (∃ cur, cur.length = p ∧ OwnF wr w.heap.size (.slice (some ⟨w.heap.size, 0, none⟩) p p) cur ∧ ∀ j, j < k → cur.getD j 0 = neg)) (fun _ i _ => p - (intOf i).toNat)
  case atStart => exact ⟨0, Nat.zero_le _, rfl, hb1, ⟨_, by simp, hown1.out, fun j h => absurd h (by omega)⟩⟩
  case round =>
    clear hmk hb1 hown1
    obtain ⟨k, hk, rfl, hbl, hcur⟩ := hrel
    by_cases hlt : k < p
    · have HB := Lib.hid hbl; clear hbl
      obtain ⟨cur, hcl, hco, hcm⟩ := hcur.out
      have c1 := hco.at k (by omega)
      have f1 := hco.fz k
      obtain ⟨x, hx⟩ : ∃ x, x = cur.getD k 0 := ⟨_, rfl⟩
      rw [← hx] at c1
      have HCL := Lib.hid hcl
      have HCO := Lib.hid hco
      have HCM := Lib.hid hcm
      clear hx hcl hco hcm hcur
      go_wp2
      go_roundw
      case rel =>
        refine ⟨k + 1, by omega, by go_num, HB.out.setCell (Nat.le_refl _) _, ?_⟩
        refine ⟨cur.set k neg, by rw [List.length_set]; exact HCL.out, HCO.out.set HCL.out.symm k _, ?_⟩
        intro j hj
        by_cases e : j = k
        · subst e; simp [HCL.out, hlt]
        · have := HCM.out j (by omega)
          simpa [List.getElem?_set, Ne.symm e] using this
      case measure => simp [intOf]; omega
    · have ek : k = p := by omega
      have HB := Lib.hid hbl; clear hbl
      rw [ek] at hcur
      clear ek
      go_wp2
      go_loopw [5, 18] (fun _ i wr => ∃ x : Nat, x ≤ p ∧ i = .int .i64 x ∧ Below w.heap.size w wr ∧ Hid (OwnF wr w.heap.size (.slice (some ⟨w.heap.size, 0, none⟩) p p) (legT p x))) (fun _ i _ => p - (intOf i).toNat)
      case atStart =>
        refine ⟨0, Nat.zero_le _, rfl, HB.out, ?_⟩
        obtain ⟨cur, h1, h2, h3⟩ := hcur.out
        have e : cur = legT p 0 := by
          refine List.ext_getElem (by simp [legT, h1]) fun i hi1 hi2 => ?_
          have := h3 i (by omega)
          simp [legT, hi1] at this ⊢
          exact this
        rw [← e]; exact h2
      case round =>
        clear HB hcur
        obtain ⟨x, hx, rfl, hbl, hown⟩ := hrel
        by_cases hlt : x < p
        · have HB := Lib.hid hbl; clear hbl
          obtain ⟨i, hi⟩ : ∃ i, i = x * x % p := ⟨_, rfl⟩
          have hip : i < p := by rw [hi]; exact Nat.mod_lt _ hp
          have hm : ((x : Int) * x) % p = i := by rw [hi, Int.natCast_emod, Int.natCast_mul]
          have hxx : x * x ≤ 4096 := by
            have : x * x ≤ 64 * 64 := Nat.mul_le_mul (by omega) (by omega)
            omega
          have hxi : (x : Int) * x ≤ 4096 := by have h := Int.ofNat_le.2 hxx; rw [Int.natCast_mul] at h; omega
          have hxi0 : 0 ≤ (x : Int) * x := Int.mul_nonneg (Int.natCast_nonneg x) (Int.natCast_nonneg x)
          have c1 := hown.out.at i (by rw [legT_length]; omega)
          have f1 := hown.out.fz i
          obtain ⟨y, hy⟩ : ∃ y, y = (legT p x).getD i 0 := ⟨_, rfl⟩
          rw [← hy] at c1
          have HI := Lib.hid hi
          clear hy hxx hi
          go_wp2
          go_roundw
          case rel =>
            refine ⟨x + 1, by omega, by go_num, HB.out.setCell (Nat.le_refl _) _, ?_⟩
            show OwnF _ _ _ _
            unfold legT
            rw [← HI.out]
            exact hown.out.set (legT_length p x).symm i _
          case measure => simp [intOf]; omega
        · have ek : x = p := by omega
          have HB := Lib.hid hbl; clear hbl
          rw [ek] at hown
          clear ek
          go_wp2
          go_ret
          exact ⟨rfl, hown.out, HB.out⟩

set_option maxHeartbeats 1000000 in
theorem l10Legendre_any (p : Nat) (hP : isP p = true) (w : World) :
    Calls Try.prog 104 #[.int .i64 p] w fun e w' => ∃ v, e = .returned v ∧ OwnF w' w.heap.size v (legL p) ∧ Below w.heap.size w w' := by
  obtain ⟨hp, hp2⟩ := isP_le hP
  have HP := Lib.hid hP; clear hP
  have h0 : ¬ (p : Int) = 0 := by omega
  go_enter Try.func104, Try.ntmps104
  go_wp2
  go_loopw [3, 4] (fun v i wr => ∃ j : Nat, j ≤ p ∧ i = .int .i64 j ∧ Below w.heap.size w wr ∧ Hid (OwnF wr w.heap.size v (legS p j))) (fun _ i _ => p - (intOf i).toNat)
  case atStart => exact ⟨0, Nat.zero_le _, rfl, (Below.refl _ _).alloc (Nat.le_refl _) _, OwnF.made w⟩
  case round =>
    obtain ⟨j, hj, rfl, hbl, hown⟩ := hrel
    by_cases hlt : j < p
    · have HB := Lib.hid hbl; clear hbl
      obtain ⟨wo, hwo⟩ : ∃ wo : World, wo = wr := ⟨_, rfl⟩
      subst hwo
      go_wp2
      go_loopw [5, 6] (fun s i wi => ∃ x : Nat, x ≤ p ∧ i = .int .i64 x ∧ s = .float .f32 (if sq p j x then one else neg) ∧ wi = wo) (fun _ i _ => p - (intOf i).toNat)
      case atStart => exact ⟨0, Nat.zero_le _, rfl, rfl, rfl⟩
      case round =>
        obtain ⟨x, hx, rfl, rfl, rfl⟩ := hrel
        by_cases hxlt : x < p
        · obtain ⟨i, hi⟩ : ∃ i, i = x * x % p := ⟨_, rfl⟩
          have hm : ((x : Int) * x) % p = i := by rw [hi, Int.natCast_emod, Int.natCast_mul]
          have hxx : x * x ≤ 4096 := by
            have : x * x ≤ 64 * 64 := Nat.mul_le_mul (by omega) (by omega)
            omega
          have hxi : (x : Int) * x ≤ 4096 := by have h := Int.ofNat_le.2 hxx; rw [Int.natCast_mul] at h; omega
          have hxi0 : 0 ≤ (x : Int) * x := Int.mul_nonneg (Int.natCast_nonneg x) (Int.natCast_nonneg x)
          have HI := Lib.hid hi
          clear hxx hi
          obtain ⟨sv, hsv⟩ : ∃ s, s = (if sq p j x then one else neg) := ⟨_, rfl⟩
          rw [← hsv]
          have HSV := Lib.hid hsv
          clear hsv
          by_cases hij : i = j
          · have hij2 : (i : Int) = j := by omega
            have HIJ := Lib.hid hij
            clear hij
            go_wp2
            go_roundw
            case rel => exact ⟨x + 1, by omega, by go_num, by simp [sq, ← HI.out, HIJ.out, one], trivial⟩
            case measure => simp [intOf]; omega
          · have hij2 : ¬ (i : Int) = j := by omega
            have HIJ := Lib.hid hij
            clear hij
            go_wp2
            go_roundw
            case rel => exact ⟨x + 1, by omega, by go_num, by simp [sq, ← HI.out, HIJ.out, HSV.out], trivial⟩
            case measure => simp [intOf]; omega
        · have e : x = p := by omega
          rw [e]
          clear e
          obtain ⟨sb, hsb⟩ : ∃ sb, sb = (if sq p j p then one else neg) := ⟨_, rfl⟩
          rw [← hsb]
          have HSB := Lib.hid hsb
          clear hsb
          have hsz := HB.out.size
          obtain ⟨lst, hlst⟩ : ∃ lst, lst = legS p j := ⟨_, rfl⟩
          have hlen : lst.length = j := by rw [hlst]; simp [legS]
          rw [← hlst] at hown
          have HL := Lib.hid hlen
          have HLS := Lib.hid hlst
          clear hlen hlst
          have hO := hown
          clear hown
          go_wp2_with (at_builtin; refine appendF (w0 := wr) rfl (.tmp 25) (.tmp 27) ?h3 w.heap.size u3 lst sb ?h4 hO.out ?h5 ?c1 hsz ?_; (case h3 => rfl); (case h4 => rfl); (case h5 => rfl); (case c1 => (rw [HL.out]; omega)); intro v' w1 hO' hG; have HO := Lib.hid hO'; have HG1 := Lib.hid hG; clear hO' hG)
          go_roundw
          case rel =>
            refine ⟨j + 1, by omega, by go_num, ?_, ?_⟩
            · exact HB.out.grown HG1.out hsz (fun j hj => (hO.out.ltOf j hj).1)
            · have e : legS p (j + 1) = lst ++ [sb] := by rw [HSB.out, HLS.out]; simp [legS, List.range_succ]
              show OwnF _ _ _ _
              rw [e]; exact HO.out
          case measure => simp [intOf]; omega
    · have e : j = p := by omega
      have HB := Lib.hid hbl; clear hbl
      rw [e, legS_eq HP.out] at hown
      clear e
      go_wp2
      go_ret
      exact ⟨_, rfl, hown.out, HB.out⟩
end Go.Proofs.Ytphbjfijipcpnaa
