/- HalftoneOf: the model of the sums, the closure. -/
import Derived.Test.YtphbjfijipcpnaaVa2
namespace Go.Proofs.Ytphbjfijipcpnaa
open Go.RowKit
set_option linter.unusedVariables false

/-- is a cell open -/
def hOpen (x : FV) (t : Nat) : Bool := cmpF .f32 x (ab .f32 t) == some .gt || cmpF .f32 x (ab .f32 t) == some .eq
/-- what rests -/
def hRest (x : FV) (t : Nat) : FV := if hOpen x t then arith .sub .f32 x (arith .mul .f32 (ab .f32 1073741824) (ab .f32 t)) else x
def hHalf (x : FV) (t : Nat) : FV := arith .quo .f32 (hRest x t) (ab .f32 1073741824)
def hAdd (S : List FV) (k : Nat) (h : FV) : List FV := S.set k (arith .add .f32 (S.getD k (some 0)) h)
def hStep (n t : Nat) (S : List FV) (k : Nat) : List FV :=
  let S1 := if k % n + 1 < n then hAdd S (k + 1) (hHalf (S.getD k (some 0)) t) else S
  if k / n + 1 < n then hAdd S1 (k + n) (hHalf (S.getD k (some 0)) t) else S1
def hS (n t : Nat) (S : List FV) : Nat → List FV
  | 0 => S
  | k + 1 => hStep n t (hS n t S k) k
def hBad (n t : Nat) (S : List FV) (k : Nat) : Bool := !fin (hRest ((hS n t S k).getD k (some 0)) t)
def hC (n t : Nat) (S : List FV) : Nat → Bool
  | 0 => false
  | k + 1 => hC n t S k || hBad n t S k
def hG (n t : Nat) (S : List FV) (k : Nat) : Nat × Nat := if hOpen ((hS n t S k).getD k (some 0)) t then (1065353216, 0) else (0, 0)

theorem map_get (l : List Nat) (k : Nat) : (l.map (ab .f32)).getD k (some 0) = ab .f32 (l.getD k 0) := by
  rw [List.getD_eq_getElem?_getD, List.getElem?_map, List.getD_eq_getElem?_getD]
  cases h : l[k]? with
  | none => simp [ab_zero]
  | some x => simp
theorem hAdd_map (l : List Nat) (k b : Nat) (h : FV) (hb : ab .f32 b = arith .add .f32 (ab .f32 (l.getD k 0)) h) : (l.set k b).map (ab .f32) = hAdd (l.map (ab .f32)) k h := by
  unfold hAdd
  rw [map_get, ← hb, List.map_set]
theorem hAdd_length (S : List FV) (k : Nat) (h : FV) : (hAdd S k h).length = S.length := by simp [hAdd]
theorem hStep_length (n t : Nat) (S : List FV) (k : Nat) : (hStep n t S k).length = S.length := by
  unfold hStep
  simp only
  split <;> split <;> simp [hAdd_length]
theorem hS_length (n t : Nat) (S : List FV) : ∀ k, (hS n t S k).length = S.length
  | 0 => rfl
  | k + 1 => by rw [hS, hStep_length]; exact hS_length n t S k

/-- all but two blocks are as they were -/
structure But (a b : Nat) (w w' : World) : Prop where
  os : w'.os = w.os
  tape : w'.tape = w.tape
  output : w'.output = w.output
  size : w.heap.size ≤ w'.heap.size
  block : ∀ k, k < w.heap.size → k ≠ a → k ≠ b → w'.heap[k]? = w.heap[k]?
theorem But.refl (a b : Nat) (w : World) : But a b w w := ⟨rfl, rfl, rfl, Nat.le_refl _, fun _ _ _ _ => rfl⟩
theorem But.trans {a b : Nat} {x y z : World} (h : But a b x y) (k : But a b y z) : But a b x z :=
  ⟨k.os.trans h.os, k.tape.trans h.tape, k.output.trans h.output, Nat.le_trans h.size k.size, fun i hi h1 h2 => (k.block i (Nat.lt_of_lt_of_le hi h.size) h1 h2).trans (h.block i hi h1 h2)⟩
theorem But.below {a b B : Nat} {w w' : World} (h : But a b w w') (ha : B ≤ a) (hb : B ≤ b) (hB : B ≤ w.heap.size) : Below B w w' :=
  ⟨h.os, h.tape, h.output, h.size, fun k hk => h.block k (by omega) (by omega) (by omega)⟩
theorem But.drewN {a b : Nat} {w w' : World} (h : But a b w w') (n : Nat) : But a b w (w'.drewN n) := ⟨h.os, h.tape, h.output, h.size, h.block⟩
theorem But.set {a b : Nat} {w w' : World} (h : But a b w w') (i : Nat) (v : Value) : But a b w (w'.setCell ⟨a, i, none⟩ v) :=
  h.trans ⟨rfl, rfl, rfl, by simp [World.setCell], fun k hk h1 _ => Below.heap_setCell _ _ _ _ (by exact h1)⟩
theorem But.set2 {a b : Nat} {w w' : World} (h : But a b w w') (i : Nat) (v : Value) : But a b w (w'.setCell ⟨b, i, none⟩ v) :=
  h.trans ⟨rfl, rfl, rfl, by simp [World.setCell], fun k hk _ h1 => Below.heap_setCell _ _ _ _ (by exact h1)⟩
theorem But.blk {a b : Nat} {w w' : World} (h : But a b w w') {g : Nat} {c : Array Value} {t : TypeId} (hg : Blk w g c t) (h1 : g ≠ a) (h2 : g ≠ b) : Blk w' g c t := by
  unfold Blk; rw [h.block g hg.lt h1 h2]; exact hg

theorem idx_of (n i : Nat) (hn : 1 ≤ n) : n * (i / n) + i % n = i := Nat.div_add_mod i n

set_option maxRecDepth 10000 in
set_option maxHeartbeats 4000000 in
theorem half1_any (n i t : Nat) (hn : 1 ≤ n) (hn2 : n ≤ 8) (hi : i < n * n) (l : List Nat) (hl : l.length = 64) (c : Int) (gs gn gt gc : Nat) (w : World)
    (hs : Blk w gs (arr l) 29) (hcn : Blk w gn #[.int .i64 n] 2) (hct : Blk w gt #[.float .f32 t] 28) (hcc : Blk w gc #[.int .i64 c] 2)
    (d1 : gs ≠ gn) (d2 : gs ≠ gt) (d3 : gs ≠ gc) (d4 : gc ≠ gn) (d5 : gc ≠ gt) :
    Calls Try.prog 94 #[.int .i64 ((i : Int) / n), .int .i64 ((i : Int) % n), .pointer (some ⟨gs, 0, none⟩), .pointer (some ⟨gn, 0, none⟩), .pointer (some ⟨gt, 0, none⟩), .pointer (some ⟨gc, 0, none⟩)] w fun e w' =>
      e = .returned (.bool (hOpen (ab .f32 (l.getD i 0)) t)) ∧ ∃ l' : List Nat, l'.length = 64 ∧ l'.map (ab .f32) = hStep n t (l.map (ab .f32)) i ∧
        Blk w' gs (arr l') 29 ∧ Blk w' gc #[.int .i64 (if fin (hRest (ab .f32 (l.getD i 0)) t) then c else 3)] 2 ∧ But gs gc w w' := by
  have hm : n * n ≤ 64 := by have := Nat.mul_le_mul hn2 hn2; omega
  obtain ⟨y, hy⟩ : ∃ y, y = i / n := ⟨_, rfl⟩
  obtain ⟨x, hx⟩ : ∃ x, x = i % n := ⟨_, rfl⟩
  have hxn : x < n := by rw [hx]; exact Nat.mod_lt _ (by omega)
  have hyn : y < n := by rw [hy]; exact Nat.div_lt_of_lt_mul hi
  have hyi : ((i : Int) / n) = (y : Int) := by rw [hy]; rfl
  have hxi : ((i : Int) % n) = (x : Int) := by rw [hx]; rfl
  have hidx : n * y + x = i := by rw [hy, hx]; exact idx_of n i hn
  obtain ⟨b, hb⟩ : ∃ b, b = n * y := ⟨_, rfl⟩
  have hbi : (n : Int) * y = b := by rw [hb, Int.natCast_mul]
  have hbx : (b : Int) + x = i := by omega
  rw [hyi, hxi]
  have c0 := hs.arrCell (by omega : i < l.length)
  have cn : w.cell? ⟨gn, 0, none⟩ = some (.int .i64 n) := by rw [hcn.cell]; rfl
  have ct : w.cell? ⟨gt, 0, none⟩ = some (.float .f32 t) := by rw [hct.cell]; rfl
  have cc : w.cell? ⟨gc, 0, none⟩ = some (.int .i64 c) := by rw [hcc.cell]; rfl
  have fc := hcc.frozen 0
  obtain ⟨r, hr⟩ : ∃ r, r = l.getD i 0 := ⟨_, rfl⟩
  rw [← hr] at c0 ⊢
  have HR := Lib.hid hr
  have HY := Lib.hid hy
  have HX := Lib.hid hx
  have HBE := Lib.hid hb
  have HS := Lib.hid hs
  have HN := Lib.hid hcn
  have HCC := Lib.hid hcc
  clear hr hy hx hyi hxi hb hs hcn hct hcc
  obtain ⟨ob, hob⟩ : ∃ ob, ob = hOpen (ab .f32 r) t := ⟨_, rfl⟩
  obtain ⟨cv, hcv⟩ : ∃ cv, cv = if fin (hRest (ab .f32 r) t) then c else 3 := ⟨_, rfl⟩
  rw [← hob, ← hcv]
  have HOB := Lib.hid hob
  have HCV := Lib.hid hcv
  clear hob hcv
  cases ho : (FloatKind.f32.format.order r t == some .gt || FloatKind.f32.format.order r t == some .eq) with
  | true =>
    have HO : Hid (hOpen (ab .f32 r) t = true) := by show _ = _; unfold hOpen; rw [← cmp_ab]; exact ho
    go_enter Try.func94, Try.ntmps94
    go_upto_region 5 with (fail)
    obtain ⟨rr, hrr⟩ : ∃ rr, rr = fres .sub .f32 r (fres .mul .f32 1073741824 t w) (w.drewN (nd .mul .f32 1073741824 t)) := ⟨_, rfl⟩
    rw [← hrr]
    have HRR : Hid (ab .f32 rr = hRest (ab .f32 r) t) := by show _ = _; rw [hrr, ab_fres, ab_fres]; unfold hRest; rw [HO.out]; rfl
    obtain ⟨V0, hV0⟩ : ∃ V0, V0 = w.drewN (nd .mul .f32 1073741824 t + nd .sub .f32 r (fres .mul .f32 1073741824 t w)) := ⟨_, rfl⟩
    rw [← hV0]
    have HS0 : Hid (Blk V0 gs (arr l) 29) := by show Blk _ _ _ _; rw [hV0]; exact HS.out.drewN _
    have HCC0 : Hid (Blk V0 gc #[.int .i64 c] 2) := by show Blk _ _ _ _; rw [hV0]; exact HCC.out.drewN _
    have HN0 : Hid (Blk V0 gn #[.int .i64 n] 2) := by show Blk _ _ _ _; rw [hV0]; exact HN.out.drewN _
    have BT0 : Hid (But gs gc w V0) := by show But _ _ _ _; rw [hV0]; exact (But.refl _ _ _).drewN _
    have cn0 : V0.cell? ⟨gn, 0, none⟩ = some (.int .i64 n) := by rw [HN0.out.cell]; rfl
    have cc0 : V0.cell? ⟨gc, 0, none⟩ = some (.int .i64 c) := by rw [HCC0.out.cell]; rfl
    have fc0 := HCC0.out.frozen 0
    clear hrr hV0 HS HCC HN cn cc fc
    cases h1 : isNum rr with
    | true =>
      have HF1 : Hid (fin (hRest (ab .f32 r) t) = true) := by show _ = _; rw [← HRR.out]; exact h1
      go_upto_region 8 with (go_at_call 92; refine (isNumber_any _ _).mono ?_; rintro e w' ⟨rfl, n1, rfl⟩; rw [h1])
      obtain ⟨hb, hhb⟩ : ∃ hb, hb = fres .quo .f32 rr 1073741824 (V0.drewN n1) := ⟨_, rfl⟩
      rw [← hhb]
      have HHB : Hid (ab .f32 hb = hHalf (ab .f32 r) t) := by show _ = _; rw [hhb, ab_fres]; unfold hHalf; rw [← HRR.out]
      obtain ⟨V2, hV2⟩ : ∃ V2, V2 = V0.drewN (n1 + nd .quo .f32 rr 1073741824) := ⟨_, rfl⟩
      rw [← hV2]
      have HS2 : Hid (Blk V2 gs (arr l) 29) := by show Blk _ _ _ _; rw [hV2]; exact HS0.out.drewN _
      have HCC2 : Hid (Blk V2 gc #[.int .i64 cv] 2) := by show Blk _ _ _ _; rw [hV2, HCV.out, HF1.out]; exact HCC0.out.drewN _
      have HN2 : Hid (Blk V2 gn #[.int .i64 n] 2) := by show Blk _ _ _ _; rw [hV2]; exact HN0.out.drewN _
      have BT2 : Hid (But gs gc w V2) := by show But _ _ _ _; rw [hV2]; exact BT0.out.drewN _
      have cn2 : V2.cell? ⟨gn, 0, none⟩ = some (.int .i64 n) := by rw [HN2.out.cell]; rfl
      clear hhb hV2 HS0 HCC0 HN0 BT0 cn0 fc0 cc0 HRR
      by_cases hxr : x + 1 < n
      · have hx1 : (x : Int) + 1 = ((x + 1 : Nat) : Int) := by omega
        have hlt1 : ((x + 1 : Nat) : Int) < n := by omega
        have HXR : Hid (x + 1 < n) := hxr
        obtain ⟨x1, hx1e⟩ : ∃ x1, x1 = x + 1 := ⟨_, rfl⟩
        rw [← hx1e] at hx1 hlt1
        obtain ⟨j1, hj1e⟩ : ∃ j1, j1 = i + 1 := ⟨_, rfl⟩
        have hj1i : (i : Int) + 1 = j1 := by omega
        have hj164 : j1 < 64 := by
          have := Nat.mul_le_mul (Nat.le_refl n) (by omega : y + 1 ≤ n)
          rw [Nat.mul_succ] at this; omega
        have e1 := HS2.out.arrCell (by rw [hl]; exact hj164 : j1 < l.length)
        have f1 := HS2.out.frozen j1
        obtain ⟨s1, hs1⟩ : ∃ s1, s1 = l.getD j1 0 := ⟨_, rfl⟩
        rw [← hs1] at e1
        have HS1 := Lib.hid hs1
        have HJ1 := Lib.hid hj1e
        clear hs1 hj1e hx1e hxr
        go_upto_region 10 with (fail)
        obtain ⟨bb, hbb⟩ : ∃ bb, bb = fres .add .f32 s1 hb V2 := ⟨_, rfl⟩
        rw [← hbb]
        obtain ⟨V3, hV3⟩ : ∃ V3, V3 = (V2.drewN (nd .add .f32 s1 hb)).setCell ⟨gs, j1, none⟩ (.float .f32 bb) := ⟨_, rfl⟩
        rw [← hV3]
        obtain ⟨L3, hL3⟩ : ∃ L3, L3 = l.set j1 bb := ⟨_, rfl⟩
        have HL3 : Hid (L3.length = 64) := by show _ = _; rw [hL3, List.length_set]; exact hl
        have HM3 : Hid (L3.map (ab .f32) = hAdd (l.map (ab .f32)) (i + 1) (hHalf (ab .f32 r) t)) := by
          show _ = _
          rw [hL3, ← HJ1.out]
          refine hAdd_map _ _ _ _ ?_
          rw [hbb, ab_fres, HHB.out, HS1.out]
        have HS3 : Hid (Blk V3 gs (arr L3) 29) := by show Blk _ _ _ _; rw [hV3, hL3]; exact (HS2.out.drewN _).arrSet j1 bb
        have HCC3 : Hid (Blk V3 gc #[.int .i64 cv] 2) := by show Blk _ _ _ _; rw [hV3]; exact (HCC2.out.drewN _).other d3.symm _ _
        have BT3 : Hid (But gs gc w V3) := by show But _ _ _ _; rw [hV3]; exact (BT2.out.drewN _).set _ _
        have HN3 : Hid (Blk V3 gn #[.int .i64 n] 2) := by show Blk _ _ _ _; rw [hV3]; exact (HN2.out.drewN _).other d1.symm _ _
        have cn3 : V3.cell? ⟨gn, 0, none⟩ = some (.int .i64 n) := by rw [HN3.out.cell]; rfl
        clear hV3 hL3 hbb e1 f1 HS2 HCC2 BT2 HN2 cn2
        by_cases hyb : y + 1 < n
        · have HYB := Lib.hid hyb
          have hy1 : (y : Int) + 1 = ((y + 1 : Nat) : Int) := by omega
          have hlt2 : ((y + 1 : Nat) : Int) < n := by omega
          obtain ⟨y1, hy1e⟩ : ∃ y1, y1 = y + 1 := ⟨_, rfl⟩
          rw [← hy1e] at hy1 hlt2
          obtain ⟨b1, hb1e⟩ : ∃ b1, b1 = n * y1 := ⟨_, rfl⟩
          have hb1 : (n : Int) * y1 = b1 := by rw [hb1e, Int.natCast_mul]
          have hj2 : b1 + x = i + n := by rw [hb1e, hy1e, Nat.mul_succ]; omega
          have hle : b1 + n ≤ n * n := by rw [hb1e]; have := Nat.mul_le_mul (Nat.le_refl n) (by omega : y1 + 1 ≤ n); rw [Nat.mul_succ] at this; exact this
          obtain ⟨j2, hj2e⟩ : ∃ j2, j2 = b1 + x := ⟨_, rfl⟩
          have hj2i : (b1 : Int) + x = j2 := by omega
          have hj264 : j2 < 64 := by omega
          have e2 := HS3.out.arrCell (by rw [HL3.out]; exact hj264 : j2 < L3.length)
          have f2 := HS3.out.frozen j2
          obtain ⟨s2, hs2⟩ : ∃ s2, s2 = L3.getD j2 0 := ⟨_, rfl⟩
          rw [← hs2] at e2
          have HS2 := Lib.hid hs2
          have HJ2 := Lib.hid (hj2e.trans hj2)
          clear hs2 hj2e hj2 hle hy1e hb1e
          go_wp2
          go_ret
          refine ⟨by rw [HOB.out, HO.out]; rfl, L3.set j2 _, by rw [List.length_set]; exact HL3.out, ?_, (HS3.out.drewN _).arrSet j2 _, (HCC3.out.drewN _).other d3.symm _ _, (BT3.out.drewN _).set _ _⟩
          unfold hStep
          rw [map_get, ← HR.out, ← HX.out, ← HY.out]
          simp only
          rw [if_pos HXR.out, if_pos HYB.out, ← HM3.out, ← HJ2.out]
          refine hAdd_map _ _ _ _ ?_
          rw [ab_fres, HHB.out, HS2.out]
        · have HYB := Lib.hid hyb
          have hy1 : (y : Int) + 1 = ((y + 1 : Nat) : Int) := by omega
          have hlt2 : ¬ ((y + 1 : Nat) : Int) < n := by omega
          obtain ⟨y1, hy1e⟩ : ∃ y1, y1 = y + 1 := ⟨_, rfl⟩
          rw [← hy1e] at hy1 hlt2
          clear hy1e
          go_wp2
          go_ret
          refine ⟨by rw [HOB.out, HO.out]; rfl, L3, HL3.out, ?_, HS3.out, HCC3.out, BT3.out⟩
          unfold hStep
          rw [map_get, ← HR.out, ← HX.out, ← HY.out]
          simp only
          rw [if_pos HXR.out, if_neg HYB.out, ← HM3.out]
      · have hx1 : (x : Int) + 1 = ((x + 1 : Nat) : Int) := by omega
        have hlt1 : ¬ ((x + 1 : Nat) : Int) < n := by omega
        have HXR : Hid (¬ x + 1 < n) := hxr
        obtain ⟨x1, hx1e⟩ : ∃ x1, x1 = x + 1 := ⟨_, rfl⟩
        rw [← hx1e] at hx1 hlt1
        clear hx1e hxr
        go_upto_region 10 with (fail)
        obtain ⟨V3, hV3⟩ : ∃ V3, V3 = V2 := ⟨_, rfl⟩
        rw [← hV3] at HS2 HCC2 BT2 cn2 ⊢
        obtain ⟨L3, hL3⟩ : ∃ L3, L3 = l := ⟨_, rfl⟩
        have HL3 : Hid (L3.length = 64) := by show _ = _; rw [hL3]; exact hl
        have HM3 : Hid (L3.map (ab .f32) = l.map (ab .f32)) := by show _ = _; rw [hL3]
        have HS3 : Hid (Blk V3 gs (arr L3) 29) := by show Blk _ _ _ _; rw [hL3]; exact HS2.out
        have HCC3 := HCC2
        have BT3 := BT2
        clear hV3 hL3 HS2 HCC2 BT2 HN2
        by_cases hyb : y + 1 < n
        · have HYB := Lib.hid hyb
          have hy1 : (y : Int) + 1 = ((y + 1 : Nat) : Int) := by omega
          have hlt2 : ((y + 1 : Nat) : Int) < n := by omega
          obtain ⟨y1, hy1e⟩ : ∃ y1, y1 = y + 1 := ⟨_, rfl⟩
          rw [← hy1e] at hy1 hlt2
          obtain ⟨b1, hb1e⟩ : ∃ b1, b1 = n * y1 := ⟨_, rfl⟩
          have hb1 : (n : Int) * y1 = b1 := by rw [hb1e, Int.natCast_mul]
          have hj2 : b1 + x = i + n := by rw [hb1e, hy1e, Nat.mul_succ]; omega
          have hle : b1 + n ≤ n * n := by rw [hb1e]; have := Nat.mul_le_mul (Nat.le_refl n) (by omega : y1 + 1 ≤ n); rw [Nat.mul_succ] at this; exact this
          obtain ⟨j2, hj2e⟩ : ∃ j2, j2 = b1 + x := ⟨_, rfl⟩
          have hj2i : (b1 : Int) + x = j2 := by omega
          have hj264 : j2 < 64 := by omega
          have e2 := HS3.out.arrCell (by rw [HL3.out]; exact hj264 : j2 < L3.length)
          have f2 := HS3.out.frozen j2
          obtain ⟨s2, hs2⟩ : ∃ s2, s2 = L3.getD j2 0 := ⟨_, rfl⟩
          rw [← hs2] at e2
          have HS2 := Lib.hid hs2
          have HJ2 := Lib.hid (hj2e.trans hj2)
          clear hs2 hj2e hj2 hle hy1e hb1e
          go_wp2
          go_ret
          refine ⟨by rw [HOB.out, HO.out]; rfl, L3.set j2 _, by rw [List.length_set]; exact HL3.out, ?_, (HS3.out.drewN _).arrSet j2 _, (HCC3.out.drewN _).other d3.symm _ _, (BT3.out.drewN _).set _ _⟩
          unfold hStep
          rw [map_get, ← HR.out, ← HX.out, ← HY.out]
          simp only
          rw [if_neg HXR.out, if_pos HYB.out, ← HM3.out, ← HJ2.out]
          refine hAdd_map _ _ _ _ ?_
          rw [ab_fres, HHB.out, HS2.out]
        · have HYB := Lib.hid hyb
          have hy1 : (y : Int) + 1 = ((y + 1 : Nat) : Int) := by omega
          have hlt2 : ¬ ((y + 1 : Nat) : Int) < n := by omega
          obtain ⟨y1, hy1e⟩ : ∃ y1, y1 = y + 1 := ⟨_, rfl⟩
          rw [← hy1e] at hy1 hlt2
          clear hy1e
          go_wp2
          go_ret
          refine ⟨by rw [HOB.out, HO.out]; rfl, L3, HL3.out, ?_, HS3.out, HCC3.out, BT3.out⟩
          unfold hStep
          rw [map_get, ← HR.out, ← HX.out, ← HY.out]
          simp only
          rw [if_neg HXR.out, if_neg HYB.out, ← HM3.out]
    | false =>
      have HF1 : Hid (fin (hRest (ab .f32 r) t) = false) := by show _ = _; rw [← HRR.out]; exact h1
      go_upto_region 8 with (go_at_call 92; refine (isNumber_any _ _).mono ?_; rintro e w' ⟨rfl, n1, rfl⟩; rw [h1])
      obtain ⟨hb, hhb⟩ : ∃ hb, hb = fres .quo .f32 rr 1073741824 ((V0.drewN n1).setCell ⟨gc, 0, none⟩ (.int .i64 3)) := ⟨_, rfl⟩
      rw [← hhb]
      have HHB : Hid (ab .f32 hb = hHalf (ab .f32 r) t) := by show _ = _; rw [hhb, ab_fres]; unfold hHalf; rw [← HRR.out]
      obtain ⟨V2, hV2⟩ : ∃ V2, V2 = ((V0.drewN n1).setCell ⟨gc, 0, none⟩ (.int .i64 3)).drewN (nd .quo .f32 rr 1073741824) := ⟨_, rfl⟩
      rw [← hV2]
      have HS2 : Hid (Blk V2 gs (arr l) 29) := by show Blk _ _ _ _; rw [hV2]; exact ((HS0.out.drewN _).other d3 _ _).drewN _
      have HCC2 : Hid (Blk V2 gc #[.int .i64 cv] 2) := by show Blk _ _ _ _; rw [hV2, HCV.out, HF1.out]; exact ((HCC0.out.drewN _).set _ _).drewN _
      have HN2 : Hid (Blk V2 gn #[.int .i64 n] 2) := by show Blk _ _ _ _; rw [hV2]; exact ((HN0.out.drewN _).other d4.symm _ _).drewN _
      have BT2 : Hid (But gs gc w V2) := by show But _ _ _ _; rw [hV2]; exact ((BT0.out.drewN _).set2 _ _).drewN _
      have cn2 : V2.cell? ⟨gn, 0, none⟩ = some (.int .i64 n) := by rw [HN2.out.cell]; rfl
      clear hhb hV2 HS0 HCC0 HN0 BT0 cn0 fc0 cc0 HRR
      by_cases hxr : x + 1 < n
      · have hx1 : (x : Int) + 1 = ((x + 1 : Nat) : Int) := by omega
        have hlt1 : ((x + 1 : Nat) : Int) < n := by omega
        have HXR : Hid (x + 1 < n) := hxr
        obtain ⟨x1, hx1e⟩ : ∃ x1, x1 = x + 1 := ⟨_, rfl⟩
        rw [← hx1e] at hx1 hlt1
        obtain ⟨j1, hj1e⟩ : ∃ j1, j1 = i + 1 := ⟨_, rfl⟩
        have hj1i : (i : Int) + 1 = j1 := by omega
        have hj164 : j1 < 64 := by
          have := Nat.mul_le_mul (Nat.le_refl n) (by omega : y + 1 ≤ n)
          rw [Nat.mul_succ] at this; omega
        have e1 := HS2.out.arrCell (by rw [hl]; exact hj164 : j1 < l.length)
        have f1 := HS2.out.frozen j1
        obtain ⟨s1, hs1⟩ : ∃ s1, s1 = l.getD j1 0 := ⟨_, rfl⟩
        rw [← hs1] at e1
        have HS1 := Lib.hid hs1
        have HJ1 := Lib.hid hj1e
        clear hs1 hj1e hx1e hxr
        go_upto_region 10 with (fail)
        obtain ⟨bb, hbb⟩ : ∃ bb, bb = fres .add .f32 s1 hb V2 := ⟨_, rfl⟩
        rw [← hbb]
        obtain ⟨V3, hV3⟩ : ∃ V3, V3 = (V2.drewN (nd .add .f32 s1 hb)).setCell ⟨gs, j1, none⟩ (.float .f32 bb) := ⟨_, rfl⟩
        rw [← hV3]
        obtain ⟨L3, hL3⟩ : ∃ L3, L3 = l.set j1 bb := ⟨_, rfl⟩
        have HL3 : Hid (L3.length = 64) := by show _ = _; rw [hL3, List.length_set]; exact hl
        have HM3 : Hid (L3.map (ab .f32) = hAdd (l.map (ab .f32)) (i + 1) (hHalf (ab .f32 r) t)) := by
          show _ = _
          rw [hL3, ← HJ1.out]
          refine hAdd_map _ _ _ _ ?_
          rw [hbb, ab_fres, HHB.out, HS1.out]
        have HS3 : Hid (Blk V3 gs (arr L3) 29) := by show Blk _ _ _ _; rw [hV3, hL3]; exact (HS2.out.drewN _).arrSet j1 bb
        have HCC3 : Hid (Blk V3 gc #[.int .i64 cv] 2) := by show Blk _ _ _ _; rw [hV3]; exact (HCC2.out.drewN _).other d3.symm _ _
        have BT3 : Hid (But gs gc w V3) := by show But _ _ _ _; rw [hV3]; exact (BT2.out.drewN _).set _ _
        have HN3 : Hid (Blk V3 gn #[.int .i64 n] 2) := by show Blk _ _ _ _; rw [hV3]; exact (HN2.out.drewN _).other d1.symm _ _
        have cn3 : V3.cell? ⟨gn, 0, none⟩ = some (.int .i64 n) := by rw [HN3.out.cell]; rfl
        clear hV3 hL3 hbb e1 f1 HS2 HCC2 BT2 HN2 cn2
        by_cases hyb : y + 1 < n
        · have HYB := Lib.hid hyb
          have hy1 : (y : Int) + 1 = ((y + 1 : Nat) : Int) := by omega
          have hlt2 : ((y + 1 : Nat) : Int) < n := by omega
          obtain ⟨y1, hy1e⟩ : ∃ y1, y1 = y + 1 := ⟨_, rfl⟩
          rw [← hy1e] at hy1 hlt2
          obtain ⟨b1, hb1e⟩ : ∃ b1, b1 = n * y1 := ⟨_, rfl⟩
          have hb1 : (n : Int) * y1 = b1 := by rw [hb1e, Int.natCast_mul]
          have hj2 : b1 + x = i + n := by rw [hb1e, hy1e, Nat.mul_succ]; omega
          have hle : b1 + n ≤ n * n := by rw [hb1e]; have := Nat.mul_le_mul (Nat.le_refl n) (by omega : y1 + 1 ≤ n); rw [Nat.mul_succ] at this; exact this
          obtain ⟨j2, hj2e⟩ : ∃ j2, j2 = b1 + x := ⟨_, rfl⟩
          have hj2i : (b1 : Int) + x = j2 := by omega
          have hj264 : j2 < 64 := by omega
          have e2 := HS3.out.arrCell (by rw [HL3.out]; exact hj264 : j2 < L3.length)
          have f2 := HS3.out.frozen j2
          obtain ⟨s2, hs2⟩ : ∃ s2, s2 = L3.getD j2 0 := ⟨_, rfl⟩
          rw [← hs2] at e2
          have HS2 := Lib.hid hs2
          have HJ2 := Lib.hid (hj2e.trans hj2)
          clear hs2 hj2e hj2 hle hy1e hb1e
          go_wp2
          go_ret
          refine ⟨by rw [HOB.out, HO.out]; rfl, L3.set j2 _, by rw [List.length_set]; exact HL3.out, ?_, (HS3.out.drewN _).arrSet j2 _, (HCC3.out.drewN _).other d3.symm _ _, (BT3.out.drewN _).set _ _⟩
          unfold hStep
          rw [map_get, ← HR.out, ← HX.out, ← HY.out]
          simp only
          rw [if_pos HXR.out, if_pos HYB.out, ← HM3.out, ← HJ2.out]
          refine hAdd_map _ _ _ _ ?_
          rw [ab_fres, HHB.out, HS2.out]
        · have HYB := Lib.hid hyb
          have hy1 : (y : Int) + 1 = ((y + 1 : Nat) : Int) := by omega
          have hlt2 : ¬ ((y + 1 : Nat) : Int) < n := by omega
          obtain ⟨y1, hy1e⟩ : ∃ y1, y1 = y + 1 := ⟨_, rfl⟩
          rw [← hy1e] at hy1 hlt2
          clear hy1e
          go_wp2
          go_ret
          refine ⟨by rw [HOB.out, HO.out]; rfl, L3, HL3.out, ?_, HS3.out, HCC3.out, BT3.out⟩
          unfold hStep
          rw [map_get, ← HR.out, ← HX.out, ← HY.out]
          simp only
          rw [if_pos HXR.out, if_neg HYB.out, ← HM3.out]
      · have hx1 : (x : Int) + 1 = ((x + 1 : Nat) : Int) := by omega
        have hlt1 : ¬ ((x + 1 : Nat) : Int) < n := by omega
        have HXR : Hid (¬ x + 1 < n) := hxr
        obtain ⟨x1, hx1e⟩ : ∃ x1, x1 = x + 1 := ⟨_, rfl⟩
        rw [← hx1e] at hx1 hlt1
        clear hx1e hxr
        go_upto_region 10 with (fail)
        obtain ⟨V3, hV3⟩ : ∃ V3, V3 = V2 := ⟨_, rfl⟩
        rw [← hV3] at HS2 HCC2 BT2 cn2 ⊢
        obtain ⟨L3, hL3⟩ : ∃ L3, L3 = l := ⟨_, rfl⟩
        have HL3 : Hid (L3.length = 64) := by show _ = _; rw [hL3]; exact hl
        have HM3 : Hid (L3.map (ab .f32) = l.map (ab .f32)) := by show _ = _; rw [hL3]
        have HS3 : Hid (Blk V3 gs (arr L3) 29) := by show Blk _ _ _ _; rw [hL3]; exact HS2.out
        have HCC3 := HCC2
        have BT3 := BT2
        clear hV3 hL3 HS2 HCC2 BT2 HN2
        by_cases hyb : y + 1 < n
        · have HYB := Lib.hid hyb
          have hy1 : (y : Int) + 1 = ((y + 1 : Nat) : Int) := by omega
          have hlt2 : ((y + 1 : Nat) : Int) < n := by omega
          obtain ⟨y1, hy1e⟩ : ∃ y1, y1 = y + 1 := ⟨_, rfl⟩
          rw [← hy1e] at hy1 hlt2
          obtain ⟨b1, hb1e⟩ : ∃ b1, b1 = n * y1 := ⟨_, rfl⟩
          have hb1 : (n : Int) * y1 = b1 := by rw [hb1e, Int.natCast_mul]
          have hj2 : b1 + x = i + n := by rw [hb1e, hy1e, Nat.mul_succ]; omega
          have hle : b1 + n ≤ n * n := by rw [hb1e]; have := Nat.mul_le_mul (Nat.le_refl n) (by omega : y1 + 1 ≤ n); rw [Nat.mul_succ] at this; exact this
          obtain ⟨j2, hj2e⟩ : ∃ j2, j2 = b1 + x := ⟨_, rfl⟩
          have hj2i : (b1 : Int) + x = j2 := by omega
          have hj264 : j2 < 64 := by omega
          have e2 := HS3.out.arrCell (by rw [HL3.out]; exact hj264 : j2 < L3.length)
          have f2 := HS3.out.frozen j2
          obtain ⟨s2, hs2⟩ : ∃ s2, s2 = L3.getD j2 0 := ⟨_, rfl⟩
          rw [← hs2] at e2
          have HS2 := Lib.hid hs2
          have HJ2 := Lib.hid (hj2e.trans hj2)
          clear hs2 hj2e hj2 hle hy1e hb1e
          go_wp2
          go_ret
          refine ⟨by rw [HOB.out, HO.out]; rfl, L3.set j2 _, by rw [List.length_set]; exact HL3.out, ?_, (HS3.out.drewN _).arrSet j2 _, (HCC3.out.drewN _).other d3.symm _ _, (BT3.out.drewN _).set _ _⟩
          unfold hStep
          rw [map_get, ← HR.out, ← HX.out, ← HY.out]
          simp only
          rw [if_neg HXR.out, if_pos HYB.out, ← HM3.out, ← HJ2.out]
          refine hAdd_map _ _ _ _ ?_
          rw [ab_fres, HHB.out, HS2.out]
        · have HYB := Lib.hid hyb
          have hy1 : (y : Int) + 1 = ((y + 1 : Nat) : Int) := by omega
          have hlt2 : ¬ ((y + 1 : Nat) : Int) < n := by omega
          obtain ⟨y1, hy1e⟩ : ∃ y1, y1 = y + 1 := ⟨_, rfl⟩
          rw [← hy1e] at hy1 hlt2
          clear hy1e
          go_wp2
          go_ret
          refine ⟨by rw [HOB.out, HO.out]; rfl, L3, HL3.out, ?_, HS3.out, HCC3.out, BT3.out⟩
          unfold hStep
          rw [map_get, ← HR.out, ← HX.out, ← HY.out]
          simp only
          rw [if_neg HXR.out, if_neg HYB.out, ← HM3.out]
  | false =>
    have HO : Hid (hOpen (ab .f32 r) t = false) := by show _ = _; unfold hOpen; rw [← cmp_ab]; exact ho
    go_enter Try.func94, Try.ntmps94
    go_upto_region 5 with (fail)
    have HRR : Hid (ab .f32 r = hRest (ab .f32 r) t) := by show _ = _; unfold hRest; rw [HO.out]; rfl
    have HS0 := HS
    have HCC0 := HCC
    have HN0 := HN
    have BT0 : Hid (But gs gc w w) := But.refl _ _ _
    have cn0 : w.cell? ⟨gn, 0, none⟩ = some (.int .i64 n) := by rw [HN0.out.cell]; rfl
    have cc0 : w.cell? ⟨gc, 0, none⟩ = some (.int .i64 c) := by rw [HCC0.out.cell]; rfl
    have fc0 := HCC0.out.frozen 0
    clear  HS HCC HN cn cc fc
    cases h1 : isNum r with
    | true =>
      have HF1 : Hid (fin (hRest (ab .f32 r) t) = true) := by show _ = _; rw [← HRR.out]; exact h1
      go_upto_region 8 with (go_at_call 92; refine (isNumber_any _ _).mono ?_; rintro e w' ⟨rfl, n1, rfl⟩; rw [h1])
      obtain ⟨hb, hhb⟩ : ∃ hb, hb = fres .quo .f32 r 1073741824 (w.drewN n1) := ⟨_, rfl⟩
      rw [← hhb]
      have HHB : Hid (ab .f32 hb = hHalf (ab .f32 r) t) := by show _ = _; rw [hhb, ab_fres]; unfold hHalf; rw [← HRR.out]
      obtain ⟨V2, hV2⟩ : ∃ V2, V2 = w.drewN (n1 + nd .quo .f32 r 1073741824) := ⟨_, rfl⟩
      rw [← hV2]
      have HS2 : Hid (Blk V2 gs (arr l) 29) := by show Blk _ _ _ _; rw [hV2]; exact HS0.out.drewN _
      have HCC2 : Hid (Blk V2 gc #[.int .i64 cv] 2) := by show Blk _ _ _ _; rw [hV2, HCV.out, HF1.out]; exact HCC0.out.drewN _
      have HN2 : Hid (Blk V2 gn #[.int .i64 n] 2) := by show Blk _ _ _ _; rw [hV2]; exact HN0.out.drewN _
      have BT2 : Hid (But gs gc w V2) := by show But _ _ _ _; rw [hV2]; exact BT0.out.drewN _
      have cn2 : V2.cell? ⟨gn, 0, none⟩ = some (.int .i64 n) := by rw [HN2.out.cell]; rfl
      clear hhb hV2 HS0 HCC0 HN0 BT0 cn0 fc0 cc0 HRR
      by_cases hxr : x + 1 < n
      · have hx1 : (x : Int) + 1 = ((x + 1 : Nat) : Int) := by omega
        have hlt1 : ((x + 1 : Nat) : Int) < n := by omega
        have HXR : Hid (x + 1 < n) := hxr
        obtain ⟨x1, hx1e⟩ : ∃ x1, x1 = x + 1 := ⟨_, rfl⟩
        rw [← hx1e] at hx1 hlt1
        obtain ⟨j1, hj1e⟩ : ∃ j1, j1 = i + 1 := ⟨_, rfl⟩
        have hj1i : (i : Int) + 1 = j1 := by omega
        have hj164 : j1 < 64 := by
          have := Nat.mul_le_mul (Nat.le_refl n) (by omega : y + 1 ≤ n)
          rw [Nat.mul_succ] at this; omega
        have e1 := HS2.out.arrCell (by rw [hl]; exact hj164 : j1 < l.length)
        have f1 := HS2.out.frozen j1
        obtain ⟨s1, hs1⟩ : ∃ s1, s1 = l.getD j1 0 := ⟨_, rfl⟩
        rw [← hs1] at e1
        have HS1 := Lib.hid hs1
        have HJ1 := Lib.hid hj1e
        clear hs1 hj1e hx1e hxr
        go_upto_region 10 with (fail)
        obtain ⟨bb, hbb⟩ : ∃ bb, bb = fres .add .f32 s1 hb V2 := ⟨_, rfl⟩
        rw [← hbb]
        obtain ⟨V3, hV3⟩ : ∃ V3, V3 = (V2.drewN (nd .add .f32 s1 hb)).setCell ⟨gs, j1, none⟩ (.float .f32 bb) := ⟨_, rfl⟩
        rw [← hV3]
        obtain ⟨L3, hL3⟩ : ∃ L3, L3 = l.set j1 bb := ⟨_, rfl⟩
        have HL3 : Hid (L3.length = 64) := by show _ = _; rw [hL3, List.length_set]; exact hl
        have HM3 : Hid (L3.map (ab .f32) = hAdd (l.map (ab .f32)) (i + 1) (hHalf (ab .f32 r) t)) := by
          show _ = _
          rw [hL3, ← HJ1.out]
          refine hAdd_map _ _ _ _ ?_
          rw [hbb, ab_fres, HHB.out, HS1.out]
        have HS3 : Hid (Blk V3 gs (arr L3) 29) := by show Blk _ _ _ _; rw [hV3, hL3]; exact (HS2.out.drewN _).arrSet j1 bb
        have HCC3 : Hid (Blk V3 gc #[.int .i64 cv] 2) := by show Blk _ _ _ _; rw [hV3]; exact (HCC2.out.drewN _).other d3.symm _ _
        have BT3 : Hid (But gs gc w V3) := by show But _ _ _ _; rw [hV3]; exact (BT2.out.drewN _).set _ _
        have HN3 : Hid (Blk V3 gn #[.int .i64 n] 2) := by show Blk _ _ _ _; rw [hV3]; exact (HN2.out.drewN _).other d1.symm _ _
        have cn3 : V3.cell? ⟨gn, 0, none⟩ = some (.int .i64 n) := by rw [HN3.out.cell]; rfl
        clear hV3 hL3 hbb e1 f1 HS2 HCC2 BT2 HN2 cn2
        by_cases hyb : y + 1 < n
        · have HYB := Lib.hid hyb
          have hy1 : (y : Int) + 1 = ((y + 1 : Nat) : Int) := by omega
          have hlt2 : ((y + 1 : Nat) : Int) < n := by omega
          obtain ⟨y1, hy1e⟩ : ∃ y1, y1 = y + 1 := ⟨_, rfl⟩
          rw [← hy1e] at hy1 hlt2
          obtain ⟨b1, hb1e⟩ : ∃ b1, b1 = n * y1 := ⟨_, rfl⟩
          have hb1 : (n : Int) * y1 = b1 := by rw [hb1e, Int.natCast_mul]
          have hj2 : b1 + x = i + n := by rw [hb1e, hy1e, Nat.mul_succ]; omega
          have hle : b1 + n ≤ n * n := by rw [hb1e]; have := Nat.mul_le_mul (Nat.le_refl n) (by omega : y1 + 1 ≤ n); rw [Nat.mul_succ] at this; exact this
          obtain ⟨j2, hj2e⟩ : ∃ j2, j2 = b1 + x := ⟨_, rfl⟩
          have hj2i : (b1 : Int) + x = j2 := by omega
          have hj264 : j2 < 64 := by omega
          have e2 := HS3.out.arrCell (by rw [HL3.out]; exact hj264 : j2 < L3.length)
          have f2 := HS3.out.frozen j2
          obtain ⟨s2, hs2⟩ : ∃ s2, s2 = L3.getD j2 0 := ⟨_, rfl⟩
          rw [← hs2] at e2
          have HS2 := Lib.hid hs2
          have HJ2 := Lib.hid (hj2e.trans hj2)
          clear hs2 hj2e hj2 hle hy1e hb1e
          go_wp2
          go_ret
          refine ⟨by rw [HOB.out, HO.out]; rfl, L3.set j2 _, by rw [List.length_set]; exact HL3.out, ?_, (HS3.out.drewN _).arrSet j2 _, (HCC3.out.drewN _).other d3.symm _ _, (BT3.out.drewN _).set _ _⟩
          unfold hStep
          rw [map_get, ← HR.out, ← HX.out, ← HY.out]
          simp only
          rw [if_pos HXR.out, if_pos HYB.out, ← HM3.out, ← HJ2.out]
          refine hAdd_map _ _ _ _ ?_
          rw [ab_fres, HHB.out, HS2.out]
        · have HYB := Lib.hid hyb
          have hy1 : (y : Int) + 1 = ((y + 1 : Nat) : Int) := by omega
          have hlt2 : ¬ ((y + 1 : Nat) : Int) < n := by omega
          obtain ⟨y1, hy1e⟩ : ∃ y1, y1 = y + 1 := ⟨_, rfl⟩
          rw [← hy1e] at hy1 hlt2
          clear hy1e
          go_wp2
          go_ret
          refine ⟨by rw [HOB.out, HO.out]; rfl, L3, HL3.out, ?_, HS3.out, HCC3.out, BT3.out⟩
          unfold hStep
          rw [map_get, ← HR.out, ← HX.out, ← HY.out]
          simp only
          rw [if_pos HXR.out, if_neg HYB.out, ← HM3.out]
      · have hx1 : (x : Int) + 1 = ((x + 1 : Nat) : Int) := by omega
        have hlt1 : ¬ ((x + 1 : Nat) : Int) < n := by omega
        have HXR : Hid (¬ x + 1 < n) := hxr
        obtain ⟨x1, hx1e⟩ : ∃ x1, x1 = x + 1 := ⟨_, rfl⟩
        rw [← hx1e] at hx1 hlt1
        clear hx1e hxr
        go_upto_region 10 with (fail)
        obtain ⟨V3, hV3⟩ : ∃ V3, V3 = V2 := ⟨_, rfl⟩
        rw [← hV3] at HS2 HCC2 BT2 cn2 ⊢
        obtain ⟨L3, hL3⟩ : ∃ L3, L3 = l := ⟨_, rfl⟩
        have HL3 : Hid (L3.length = 64) := by show _ = _; rw [hL3]; exact hl
        have HM3 : Hid (L3.map (ab .f32) = l.map (ab .f32)) := by show _ = _; rw [hL3]
        have HS3 : Hid (Blk V3 gs (arr L3) 29) := by show Blk _ _ _ _; rw [hL3]; exact HS2.out
        have HCC3 := HCC2
        have BT3 := BT2
        clear hV3 hL3 HS2 HCC2 BT2 HN2
        by_cases hyb : y + 1 < n
        · have HYB := Lib.hid hyb
          have hy1 : (y : Int) + 1 = ((y + 1 : Nat) : Int) := by omega
          have hlt2 : ((y + 1 : Nat) : Int) < n := by omega
          obtain ⟨y1, hy1e⟩ : ∃ y1, y1 = y + 1 := ⟨_, rfl⟩
          rw [← hy1e] at hy1 hlt2
          obtain ⟨b1, hb1e⟩ : ∃ b1, b1 = n * y1 := ⟨_, rfl⟩
          have hb1 : (n : Int) * y1 = b1 := by rw [hb1e, Int.natCast_mul]
          have hj2 : b1 + x = i + n := by rw [hb1e, hy1e, Nat.mul_succ]; omega
          have hle : b1 + n ≤ n * n := by rw [hb1e]; have := Nat.mul_le_mul (Nat.le_refl n) (by omega : y1 + 1 ≤ n); rw [Nat.mul_succ] at this; exact this
          obtain ⟨j2, hj2e⟩ : ∃ j2, j2 = b1 + x := ⟨_, rfl⟩
          have hj2i : (b1 : Int) + x = j2 := by omega
          have hj264 : j2 < 64 := by omega
          have e2 := HS3.out.arrCell (by rw [HL3.out]; exact hj264 : j2 < L3.length)
          have f2 := HS3.out.frozen j2
          obtain ⟨s2, hs2⟩ : ∃ s2, s2 = L3.getD j2 0 := ⟨_, rfl⟩
          rw [← hs2] at e2
          have HS2 := Lib.hid hs2
          have HJ2 := Lib.hid (hj2e.trans hj2)
          clear hs2 hj2e hj2 hle hy1e hb1e
          go_wp2
          go_ret
          refine ⟨by rw [HOB.out, HO.out]; rfl, L3.set j2 _, by rw [List.length_set]; exact HL3.out, ?_, (HS3.out.drewN _).arrSet j2 _, (HCC3.out.drewN _).other d3.symm _ _, (BT3.out.drewN _).set _ _⟩
          unfold hStep
          rw [map_get, ← HR.out, ← HX.out, ← HY.out]
          simp only
          rw [if_neg HXR.out, if_pos HYB.out, ← HM3.out, ← HJ2.out]
          refine hAdd_map _ _ _ _ ?_
          rw [ab_fres, HHB.out, HS2.out]
        · have HYB := Lib.hid hyb
          have hy1 : (y : Int) + 1 = ((y + 1 : Nat) : Int) := by omega
          have hlt2 : ¬ ((y + 1 : Nat) : Int) < n := by omega
          obtain ⟨y1, hy1e⟩ : ∃ y1, y1 = y + 1 := ⟨_, rfl⟩
          rw [← hy1e] at hy1 hlt2
          clear hy1e
          go_wp2
          go_ret
          refine ⟨by rw [HOB.out, HO.out]; rfl, L3, HL3.out, ?_, HS3.out, HCC3.out, BT3.out⟩
          unfold hStep
          rw [map_get, ← HR.out, ← HX.out, ← HY.out]
          simp only
          rw [if_neg HXR.out, if_neg HYB.out, ← HM3.out]
    | false =>
      have HF1 : Hid (fin (hRest (ab .f32 r) t) = false) := by show _ = _; rw [← HRR.out]; exact h1
      go_upto_region 8 with (go_at_call 92; refine (isNumber_any _ _).mono ?_; rintro e w' ⟨rfl, n1, rfl⟩; rw [h1])
      obtain ⟨hb, hhb⟩ : ∃ hb, hb = fres .quo .f32 r 1073741824 ((w.drewN n1).setCell ⟨gc, 0, none⟩ (.int .i64 3)) := ⟨_, rfl⟩
      rw [← hhb]
      have HHB : Hid (ab .f32 hb = hHalf (ab .f32 r) t) := by show _ = _; rw [hhb, ab_fres]; unfold hHalf; rw [← HRR.out]
      obtain ⟨V2, hV2⟩ : ∃ V2, V2 = ((w.drewN n1).setCell ⟨gc, 0, none⟩ (.int .i64 3)).drewN (nd .quo .f32 r 1073741824) := ⟨_, rfl⟩
      rw [← hV2]
      have HS2 : Hid (Blk V2 gs (arr l) 29) := by show Blk _ _ _ _; rw [hV2]; exact ((HS0.out.drewN _).other d3 _ _).drewN _
      have HCC2 : Hid (Blk V2 gc #[.int .i64 cv] 2) := by show Blk _ _ _ _; rw [hV2, HCV.out, HF1.out]; exact ((HCC0.out.drewN _).set _ _).drewN _
      have HN2 : Hid (Blk V2 gn #[.int .i64 n] 2) := by show Blk _ _ _ _; rw [hV2]; exact ((HN0.out.drewN _).other d4.symm _ _).drewN _
      have BT2 : Hid (But gs gc w V2) := by show But _ _ _ _; rw [hV2]; exact ((BT0.out.drewN _).set2 _ _).drewN _
      have cn2 : V2.cell? ⟨gn, 0, none⟩ = some (.int .i64 n) := by rw [HN2.out.cell]; rfl
      clear hhb hV2 HS0 HCC0 HN0 BT0 cn0 fc0 cc0 HRR
      by_cases hxr : x + 1 < n
      · have hx1 : (x : Int) + 1 = ((x + 1 : Nat) : Int) := by omega
        have hlt1 : ((x + 1 : Nat) : Int) < n := by omega
        have HXR : Hid (x + 1 < n) := hxr
        obtain ⟨x1, hx1e⟩ : ∃ x1, x1 = x + 1 := ⟨_, rfl⟩
        rw [← hx1e] at hx1 hlt1
        obtain ⟨j1, hj1e⟩ : ∃ j1, j1 = i + 1 := ⟨_, rfl⟩
        have hj1i : (i : Int) + 1 = j1 := by omega
        have hj164 : j1 < 64 := by
          have := Nat.mul_le_mul (Nat.le_refl n) (by omega : y + 1 ≤ n)
          rw [Nat.mul_succ] at this; omega
        have e1 := HS2.out.arrCell (by rw [hl]; exact hj164 : j1 < l.length)
        have f1 := HS2.out.frozen j1
        obtain ⟨s1, hs1⟩ : ∃ s1, s1 = l.getD j1 0 := ⟨_, rfl⟩
        rw [← hs1] at e1
        have HS1 := Lib.hid hs1
        have HJ1 := Lib.hid hj1e
        clear hs1 hj1e hx1e hxr
        go_upto_region 10 with (fail)
        obtain ⟨bb, hbb⟩ : ∃ bb, bb = fres .add .f32 s1 hb V2 := ⟨_, rfl⟩
        rw [← hbb]
        obtain ⟨V3, hV3⟩ : ∃ V3, V3 = (V2.drewN (nd .add .f32 s1 hb)).setCell ⟨gs, j1, none⟩ (.float .f32 bb) := ⟨_, rfl⟩
        rw [← hV3]
        obtain ⟨L3, hL3⟩ : ∃ L3, L3 = l.set j1 bb := ⟨_, rfl⟩
        have HL3 : Hid (L3.length = 64) := by show _ = _; rw [hL3, List.length_set]; exact hl
        have HM3 : Hid (L3.map (ab .f32) = hAdd (l.map (ab .f32)) (i + 1) (hHalf (ab .f32 r) t)) := by
          show _ = _
          rw [hL3, ← HJ1.out]
          refine hAdd_map _ _ _ _ ?_
          rw [hbb, ab_fres, HHB.out, HS1.out]
        have HS3 : Hid (Blk V3 gs (arr L3) 29) := by show Blk _ _ _ _; rw [hV3, hL3]; exact (HS2.out.drewN _).arrSet j1 bb
        have HCC3 : Hid (Blk V3 gc #[.int .i64 cv] 2) := by show Blk _ _ _ _; rw [hV3]; exact (HCC2.out.drewN _).other d3.symm _ _
        have BT3 : Hid (But gs gc w V3) := by show But _ _ _ _; rw [hV3]; exact (BT2.out.drewN _).set _ _
        have HN3 : Hid (Blk V3 gn #[.int .i64 n] 2) := by show Blk _ _ _ _; rw [hV3]; exact (HN2.out.drewN _).other d1.symm _ _
        have cn3 : V3.cell? ⟨gn, 0, none⟩ = some (.int .i64 n) := by rw [HN3.out.cell]; rfl
        clear hV3 hL3 hbb e1 f1 HS2 HCC2 BT2 HN2 cn2
        by_cases hyb : y + 1 < n
        · have HYB := Lib.hid hyb
          have hy1 : (y : Int) + 1 = ((y + 1 : Nat) : Int) := by omega
          have hlt2 : ((y + 1 : Nat) : Int) < n := by omega
          obtain ⟨y1, hy1e⟩ : ∃ y1, y1 = y + 1 := ⟨_, rfl⟩
          rw [← hy1e] at hy1 hlt2
          obtain ⟨b1, hb1e⟩ : ∃ b1, b1 = n * y1 := ⟨_, rfl⟩
          have hb1 : (n : Int) * y1 = b1 := by rw [hb1e, Int.natCast_mul]
          have hj2 : b1 + x = i + n := by rw [hb1e, hy1e, Nat.mul_succ]; omega
          have hle : b1 + n ≤ n * n := by rw [hb1e]; have := Nat.mul_le_mul (Nat.le_refl n) (by omega : y1 + 1 ≤ n); rw [Nat.mul_succ] at this; exact this
          obtain ⟨j2, hj2e⟩ : ∃ j2, j2 = b1 + x := ⟨_, rfl⟩
          have hj2i : (b1 : Int) + x = j2 := by omega
          have hj264 : j2 < 64 := by omega
          have e2 := HS3.out.arrCell (by rw [HL3.out]; exact hj264 : j2 < L3.length)
          have f2 := HS3.out.frozen j2
          obtain ⟨s2, hs2⟩ : ∃ s2, s2 = L3.getD j2 0 := ⟨_, rfl⟩
          rw [← hs2] at e2
          have HS2 := Lib.hid hs2
          have HJ2 := Lib.hid (hj2e.trans hj2)
          clear hs2 hj2e hj2 hle hy1e hb1e
          go_wp2
          go_ret
          refine ⟨by rw [HOB.out, HO.out]; rfl, L3.set j2 _, by rw [List.length_set]; exact HL3.out, ?_, (HS3.out.drewN _).arrSet j2 _, (HCC3.out.drewN _).other d3.symm _ _, (BT3.out.drewN _).set _ _⟩
          unfold hStep
          rw [map_get, ← HR.out, ← HX.out, ← HY.out]
          simp only
          rw [if_pos HXR.out, if_pos HYB.out, ← HM3.out, ← HJ2.out]
          refine hAdd_map _ _ _ _ ?_
          rw [ab_fres, HHB.out, HS2.out]
        · have HYB := Lib.hid hyb
          have hy1 : (y : Int) + 1 = ((y + 1 : Nat) : Int) := by omega
          have hlt2 : ¬ ((y + 1 : Nat) : Int) < n := by omega
          obtain ⟨y1, hy1e⟩ : ∃ y1, y1 = y + 1 := ⟨_, rfl⟩
          rw [← hy1e] at hy1 hlt2
          clear hy1e
          go_wp2
          go_ret
          refine ⟨by rw [HOB.out, HO.out]; rfl, L3, HL3.out, ?_, HS3.out, HCC3.out, BT3.out⟩
          unfold hStep
          rw [map_get, ← HR.out, ← HX.out, ← HY.out]
          simp only
          rw [if_pos HXR.out, if_neg HYB.out, ← HM3.out]
      · have hx1 : (x : Int) + 1 = ((x + 1 : Nat) : Int) := by omega
        have hlt1 : ¬ ((x + 1 : Nat) : Int) < n := by omega
        have HXR : Hid (¬ x + 1 < n) := hxr
        obtain ⟨x1, hx1e⟩ : ∃ x1, x1 = x + 1 := ⟨_, rfl⟩
        rw [← hx1e] at hx1 hlt1
        clear hx1e hxr
        go_upto_region 10 with (fail)
        obtain ⟨V3, hV3⟩ : ∃ V3, V3 = V2 := ⟨_, rfl⟩
        rw [← hV3] at HS2 HCC2 BT2 cn2 ⊢
        obtain ⟨L3, hL3⟩ : ∃ L3, L3 = l := ⟨_, rfl⟩
        have HL3 : Hid (L3.length = 64) := by show _ = _; rw [hL3]; exact hl
        have HM3 : Hid (L3.map (ab .f32) = l.map (ab .f32)) := by show _ = _; rw [hL3]
        have HS3 : Hid (Blk V3 gs (arr L3) 29) := by show Blk _ _ _ _; rw [hL3]; exact HS2.out
        have HCC3 := HCC2
        have BT3 := BT2
        clear hV3 hL3 HS2 HCC2 BT2 HN2
        by_cases hyb : y + 1 < n
        · have HYB := Lib.hid hyb
          have hy1 : (y : Int) + 1 = ((y + 1 : Nat) : Int) := by omega
          have hlt2 : ((y + 1 : Nat) : Int) < n := by omega
          obtain ⟨y1, hy1e⟩ : ∃ y1, y1 = y + 1 := ⟨_, rfl⟩
          rw [← hy1e] at hy1 hlt2
          obtain ⟨b1, hb1e⟩ : ∃ b1, b1 = n * y1 := ⟨_, rfl⟩
          have hb1 : (n : Int) * y1 = b1 := by rw [hb1e, Int.natCast_mul]
          have hj2 : b1 + x = i + n := by rw [hb1e, hy1e, Nat.mul_succ]; omega
          have hle : b1 + n ≤ n * n := by rw [hb1e]; have := Nat.mul_le_mul (Nat.le_refl n) (by omega : y1 + 1 ≤ n); rw [Nat.mul_succ] at this; exact this
          obtain ⟨j2, hj2e⟩ : ∃ j2, j2 = b1 + x := ⟨_, rfl⟩
          have hj2i : (b1 : Int) + x = j2 := by omega
          have hj264 : j2 < 64 := by omega
          have e2 := HS3.out.arrCell (by rw [HL3.out]; exact hj264 : j2 < L3.length)
          have f2 := HS3.out.frozen j2
          obtain ⟨s2, hs2⟩ : ∃ s2, s2 = L3.getD j2 0 := ⟨_, rfl⟩
          rw [← hs2] at e2
          have HS2 := Lib.hid hs2
          have HJ2 := Lib.hid (hj2e.trans hj2)
          clear hs2 hj2e hj2 hle hy1e hb1e
          go_wp2
          go_ret
          refine ⟨by rw [HOB.out, HO.out]; rfl, L3.set j2 _, by rw [List.length_set]; exact HL3.out, ?_, (HS3.out.drewN _).arrSet j2 _, (HCC3.out.drewN _).other d3.symm _ _, (BT3.out.drewN _).set _ _⟩
          unfold hStep
          rw [map_get, ← HR.out, ← HX.out, ← HY.out]
          simp only
          rw [if_neg HXR.out, if_pos HYB.out, ← HM3.out, ← HJ2.out]
          refine hAdd_map _ _ _ _ ?_
          rw [ab_fres, HHB.out, HS2.out]
        · have HYB := Lib.hid hyb
          have hy1 : (y : Int) + 1 = ((y + 1 : Nat) : Int) := by omega
          have hlt2 : ¬ ((y + 1 : Nat) : Int) < n := by omega
          obtain ⟨y1, hy1e⟩ : ∃ y1, y1 = y + 1 := ⟨_, rfl⟩
          rw [← hy1e] at hy1 hlt2
          clear hy1e
          go_wp2
          go_ret
          refine ⟨by rw [HOB.out, HO.out]; rfl, L3, HL3.out, ?_, HS3.out, HCC3.out, BT3.out⟩
          unfold hStep
          rw [map_get, ← HR.out, ← HX.out, ← HY.out]
          simp only
          rw [if_neg HXR.out, if_neg HYB.out, ← HM3.out]
end Go.Proofs.Ytphbjfijipcpnaa
