/- PictureOfSums: the walks of both sides. -/
import Derived.Test.YtphbjfijipcpnaaPS
namespace Go.Proofs.Ytphbjfijipcpnaa
open Go.RowKit
set_option linter.unusedVariables false

theorem results_cell_row2 {P : Program} {fn : Func} {p q : Tmp} {ty : TypeId} (h : fn.results = #[.cell p ty, .tmp q]) (tmps : Array Value) (w : World) (g : Nat) (t : TypeId) (cs : Array Value) (fr : Nat × Nat) (d : TypeDesc) (v : Value)
    (hp : tmps.getD p undef = .pointer (some ⟨g, 0, none⟩)) (hv : tmps.getD q undef = v) (hg : w.heap[g]? = some (.cells cs t fr))
    (hu : P.underlying ty = some d) (hd : (match d with | .struct _ | .array _ _ => true | _ => false) = true) (hi : (P.info? ty).map (·.size) = some cs.size) :
    (results fn tmps).run P w = .ok (.tuple #[.agg cs, v]) w := by
  have hp' : tmps[p]?.getD undef = .pointer (some ⟨g, 0, none⟩) := by simpa using hp
  have hv' : tmps[q]?.getD undef = v := by simpa using hv
  simp [results, h, hp', hv', asAddr, run_loadVar_row w g t ty cs fr d hg hu hd hi]

/-- the answer: a code, a side, and levels up to the bits of NaNs -/
def PicPost (r : Int × Int × List FV) (w : World) (e : Ending) (w' : World) : Prop :=
  ∃ l : List Nat, e = .returned (.tuple #[.agg (pic r.2.1 l), .int .i64 r.1]) ∧ l.length = 64 ∧ l.map (ab .f32) = r.2.2 ∧ Below w.heap.size w w'
theorem PicPost.err {r : Int × Int × List FV} {w w' : World} {k : Int} (h : r = (k, 0, zeros.map (ab .f32))) (hb : Below w.heap.size w w') : PicPost r w (.returned (.tuple #[.agg (pic 0 zeros), .int .i64 k])) w' :=
  ⟨zeros, by rw [h], rfl, by rw [h], hb⟩

def fitsSd (n : Int) (m : Nat) : Bool := isSd n && (m : Int) == n * n
theorem fitsSd_isL {n : Int} {m : Nat} (h : fitsSd n m = true) : isL m = true := by
  simp only [fitsSd, Bool.and_eq_true, beq_iff_eq] at h
  obtain ⟨h1, h2⟩ := h
  rcases isSd_cases h1 with e | e | e | e <;> subst e
  · have : m = 1 := by omega
    subst this; rfl
  · have : m = 4 := by omega
    subst this; rfl
  · have : m = 16 := by omega
    subst this; rfl
  · have : m = 64 := by omega
    subst this; rfl

theorem psLen_any (n : Int) (m g : Nat) (hm : m ≤ 9223372036854775807) (w : World) (hb : w.cell? ⟨g, 0, none⟩ = some (.int .i64 n)) :
    Calls Try.prog 112 #[.int .i64 m, .pointer (some ⟨g, 0, none⟩)] w fun e w' => e = .returned (.bool (fitsSd n m)) ∧ w = w' := by
  cases hs : isSd n with
  | true =>
    rcases isSd_cases hs with e | e | e | e
    all_goals
      subst e
      clear hs
      go_enter Try.func112, Try.ntmps112
      go_wp2_with fail
      refine (isSide_any _ _).mono ?_
      rintro e w' ⟨rfl, rfl⟩
      simp only [show isSd 1 = true from rfl, show isSd 2 = true from rfl, show isSd 4 = true from rfl, show isSd 8 = true from rfl]
      go_wp2
      go_ret
      exact ⟨ret_bool rfl, rfl⟩
  | false =>
    go_enter Try.func112, Try.ntmps112
    go_wp2_with fail
    refine (isSide_any _ _).mono ?_
    rintro e w' ⟨rfl, rfl⟩
    rw [hs]
    go_wp2
    go_ret
    exact ⟨ret_bool (by simp [fitsSd, hs]), rfl⟩

theorem listCode_ps (n : Int) (bs : List Nat) (a : Option Addr) (c g : Nat) (w : World) (hb : w.cell? ⟨g, 0, none⟩ = some (.int .i64 n)) (hrd : RdF w a bs) (hl : bs.length ≤ 9223372036854775807) :
    Calls Try.prog 69 #[.slice a bs.length c, .func (.func 112) #[] #[.pointer (some ⟨g, 0, none⟩)]] w fun e w' => e = .returned (.int .i64 (lcode (allNum bs) (fitsSd n bs.length))) ∧ Quiet w w' := by
  have HR := Lib.hid hrd; clear hrd
  have HG := Lib.hid hb; clear hb
  cases hn : allNum bs with
  | true =>
    cases hd : fitsSd n bs.length with
    | true =>
      go_enter Try.func69, Try.ntmps69
      go_wp2_with fail
      refine (areNumbers_any _ _ _ _ HR.out hl).mono ?_
      rintro e w' ⟨rfl, q, rfl⟩
      rw [hn]
      go_wp2_with fail
      refine (psLen_any n bs.length g hl (w.drewN q) HG.out).mono ?_
      rintro e w' ⟨rfl, rfl⟩
      rw [hd]
      go_wp2
      go_ret
      exact ⟨rfl, _, rfl⟩
    | false =>
      go_enter Try.func69, Try.ntmps69
      go_wp2_with fail
      refine (areNumbers_any _ _ _ _ HR.out hl).mono ?_
      rintro e w' ⟨rfl, q, rfl⟩
      rw [hn]
      go_wp2_with fail
      refine (psLen_any n bs.length g hl (w.drewN q) HG.out).mono ?_
      rintro e w' ⟨rfl, rfl⟩
      rw [hd]
      go_wp2
      go_ret
      exact ⟨rfl, _, rfl⟩
  | false =>
    go_enter Try.func69, Try.ntmps69
    go_wp2_with fail
    refine (areNumbers_any _ _ _ _ HR.out hl).mono ?_
    rintro e w' ⟨rfl, q, rfl⟩
    rw [hn]
    go_wp2
    go_ret
    exact ⟨rfl, _, rfl⟩

/-- what PictureOfSums gives -/
def psIn (n : Int) (m : Nat) (xs : List Nat) : Int × Int × List FV :=
  if (sumsV m (xs.map (ab .f32))).all fin then (0, n, padV (quoV (cst xs.length) (sumsV m (xs.map (ab .f32))))) else (3, 0, zeros.map (ab .f32))
def psRes (n : Int) (xs : List Nat) : Int × Int × List FV :=
  if allNum xs then (if fitsSd n xs.length then psIn n xs.length.log2 xs else (2, 0, zeros.map (ab .f32))) else (1, 0, zeros.map (ab .f32))

set_option maxRecDepth 10000 in
set_option maxHeartbeats 2000000 in
theorem signedPS_any (n : Int) (xs : List Nat) (a : Option Addr) (c : Nat) (w : World) (hx : RdF w a xs) (hl : xs.length ≤ 4611686018427387903) :
    Calls Try.prog 62 #[.int .i64 n, .slice a xs.length c] w (PicPost (psRes n xs) w) := by
  have hz := (zero_of_info Try.infoP).1
  have hl' : xs.length ≤ 9223372036854775807 := by omega
  have h2 := blk2 w (.cells #[.int .i64 n] 2) (.cells (pic 0 zeros) 32)
  obtain ⟨W0, hW⟩ : ∃ W0, W0 = ((w.alloc (.cells #[.int .i64 n] 2)).alloc (.cells (pic 0 zeros) 32)) := ⟨_, rfl⟩
  have hb0 : Below w.heap.size w W0 := by rw [hW]; exact (((Below.refl _ _).alloc (Nat.le_refl _) _).alloc (by simp) _)
  have hs0 : W0.heap.size = w.heap.size + 1 + 1 := by rw [hW]; simp
  rw [← hW] at h2
  have b0 : Blk W0 w.heap.size #[.int .i64 n] 2 := h2.1
  have b1 : Blk W0 (w.heap.size + 1) (pic 0 zeros) 32 := h2.2
  have c0 : W0.cell? ⟨w.heap.size, 0, none⟩ = some (.int .i64 n) := by rw [b0.cell]; rfl
  have HX := Lib.hid (hx.below hb0)
  have B1 := Lib.hid b1
  have C0 := Lib.hid c0
  have BW := Lib.hid hb0
  have S0 := Lib.hid hs0
  clear h2 b0 b1 hb0 hx c0 hs0
  cases hna : allNum xs with
  | false =>
    have R : Hid (psRes n xs = (1, 0, zeros.map (ab .f32))) := by show _ = _; simp [psRes, hna]
    go_enter Try.func62, Try.ntmps62
    go_upto_region 1 with (fail)
    rw [← hW]
    clear hW
    go_wp2_with fail
    refine (listCode_ps n xs a c w.heap.size W0 C0.out HX.out hl').mono ?_
    rintro e w1 ⟨rfl, n1, rfl⟩
    rw [hna]
    simp only [lcode, Bool.false_eq_true, if_false]
    have B2 := Lib.hid (B1.out.drewN n1)
    go_wp2_with (first | (refine wpList_build0 rfl rfl ?_) | (refine wpList_store_row rfl 32 (.tmp 4) (.tmp 14) rfl (w.heap.size + 1) (pic 0 zeros) rfl rfl 32 (pic 0 zeros) B2.out ?c1 ?c2 (pic_one 0 zeros) ?_; (case c1 => exact Try.sizeP zeros_length); (case c2 => rfl)))
    refine bodyPost_ret (v := .tuple #[.agg (pic 0 zeros), .int .i64 1]) (results_cell_row2 Try.results62 _ _ (w.heap.size + 1) 32 (pic 0 zeros) (0, 0) _ _ rfl rfl (B2.out.row _) Try.underlying32 rfl (Try.sizeP zeros_length)) rfl ?_
    exact PicPost.err R.out (Below.setRow (below_drewN' BW.out _) (by omega) _)
  | true =>
    cases hd : fitsSd n xs.length with
    | false =>
      have R : Hid (psRes n xs = (2, 0, zeros.map (ab .f32))) := by show _ = _; simp [psRes, hna, hd]
      go_enter Try.func62, Try.ntmps62
      go_upto_region 1 with (fail)
      rw [← hW]
      clear hW
      go_wp2_with fail
      refine (listCode_ps n xs a c w.heap.size W0 C0.out HX.out hl').mono ?_
      rintro e w1 ⟨rfl, n1, rfl⟩
      rw [hna, hd]
      simp only [lcode, Bool.false_eq_true, if_false, if_true]
      have B2 := Lib.hid (B1.out.drewN n1)
      go_wp2_with (first | (refine wpList_build0 rfl rfl ?_) | (refine wpList_store_row rfl 32 (.tmp 4) (.tmp 14) rfl (w.heap.size + 1) (pic 0 zeros) rfl rfl 32 (pic 0 zeros) B2.out ?c1 ?c2 (pic_one 0 zeros) ?_; (case c1 => exact Try.sizeP zeros_length); (case c2 => rfl)))
      refine bodyPost_ret (v := .tuple #[.agg (pic 0 zeros), .int .i64 2]) (results_cell_row2 Try.results62 _ _ (w.heap.size + 1) 32 (pic 0 zeros) (0, 0) _ _ rfl rfl (B2.out.row _) Try.underlying32 rfl (Try.sizeP zeros_length)) rfl ?_
      exact PicPost.err R.out (Below.setRow (below_drewN' BW.out _) (by omega) _)
    | true =>
      have hL := fitsSd_isL hd
      have R : Hid (psRes n xs = psIn n xs.length.log2 xs) := by show _ = _; unfold psRes; rw [hna, hd]; rfl
      have HLL := Lib.hid hL
      obtain ⟨hm, hp⟩ := isL_pow hL
      have HP := Lib.hid hp; clear hp
      obtain ⟨nn, rfl, hn1, hn2, hlen⟩ : ∃ nn : Nat, n = (nn : Int) ∧ 1 ≤ nn ∧ nn ≤ 8 ∧ xs.length = nn * nn := by
        simp only [fitsSd, Bool.and_eq_true, beq_iff_eq] at hd
        rcases isSd_cases hd.1 with e | e | e | e <;> subst e
        · exact ⟨1, rfl, by omega, by omega, by have := hd.2; omega⟩
        · exact ⟨2, rfl, by omega, by omega, by have := hd.2; omega⟩
        · exact ⟨4, rfl, by omega, by omega, by have := hd.2; omega⟩
        · exact ⟨8, rfl, by omega, by omega, by have := hd.2; omega⟩
      have HLN := Lib.hid hlen
      clear hlen hL
      go_enter Try.func62, Try.ntmps62
      go_upto_region 1 with (fail)
      rw [← hW]
      clear hW
      go_wp2_with fail
      refine (listCode_ps nn xs a c w.heap.size W0 C0.out HX.out hl').mono ?_
      rintro e w1 ⟨rfl, n1, rfl⟩
      rw [hna, hd]
      simp only [lcode, if_true]
      clear hna hd
      go_wp2_with fail
      refine (sumsBack_any xs.length.log2 hm xs a c (W0.drewN n1) HX.out HP.out).mono ?_
      rintro e w2 ⟨v, outs, rfl, h1, h2, h3⟩
      obtain ⟨a3, c3, rfl⟩ := h1.slice
      have hol : outs.length = xs.length := by have := congrArg List.length h2; simp [quoV, sumsV_length] at this; exact this
      have h3' : Below W0.heap.size W0 w2 := (below_drewN' (Below.refl W0.heap.size W0) n1).trans h3
      have B2 := Lib.hid (B1.out.below h3')
      have C2 : Hid (w2.cell? ⟨w.heap.size, 0, none⟩ = some (.int .i64 nn)) := by show _ = _; rw [h3'.cell (by exact block_lt_of_cell C0.out)]; exact C0.out
      have BW2 := Lib.hid (BW.out.trans (h3'.mono BW.out.size))
      have hlo : outs.length ≤ 9223372036854775807 := by omega
      have H1 := Lib.hid h1
      have H2 := Lib.hid h2
      have HOL := Lib.hid hol
      clear h1 h2 h3 h3' hol BW B1 C0
      go_wp2_with fail
      refine (finite_any outs a3 c3 w2 H1.out.rd.2 hlo).mono ?_
      rintro e w3 ⟨rfl, n3, hw3⟩
      have B3 : Hid (Blk w3 (w.heap.size + 1) (pic 0 zeros) 32) := by rw [hw3]; exact B2.out.drewN n3
      have C3 : Hid (w3.cell? ⟨w.heap.size, 0, none⟩ = some (.int .i64 nn)) := by rw [hw3]; exact C2.out
      have BW3 : Hid (Below w.heap.size w w3) := by rw [hw3]; exact below_drewN' BW2.out n3
      have R3 : Hid (RdF w3 a3 outs) := by rw [hw3]; exact H1.out.rd.2
      clear hw3 B2 C2 BW2 H1
      cases hf : allNum outs with
      | false =>
        have R2 : Hid (psRes nn xs = (3, 0, zeros.map (ab .f32))) := by
          show _ = _
          rw [R.out]
          unfold psIn
          rw [← quoV_fin HLL.out, ← H2.out, ← allNum_fin, hf]; rfl
        simp only [Bool.false_eq_true, if_false]
        have B4 := Lib.hid (B3.out.alloc (.cells #[.slice none 0 0] 22))
        have BW4 := Lib.hid (BW3.out.alloc BW3.out.size (.cells #[.slice none 0 0] 22))
        go_wp2_with (first | (refine wpList_build0 rfl rfl ?_) | (refine wpList_store_row rfl 32 (.tmp 4) (.tmp 24) rfl (w.heap.size + 1) (pic 0 zeros) rfl rfl 32 (pic 0 zeros) B4.out ?c1 ?c2 (pic_one 0 zeros) ?_; (case c1 => exact Try.sizeP zeros_length); (case c2 => rfl)))
        refine bodyPost_ret (v := .tuple #[.agg (pic 0 zeros), .int .i64 3]) (results_cell_row2 Try.results62 _ _ (w.heap.size + 1) 32 (pic 0 zeros) (0, 0) _ _ rfl rfl (B4.out.row _) Try.underlying32 rfl (Try.sizeP zeros_length)) rfl ?_
        exact PicPost.err R2.out (Below.setRow BW4.out (by omega) _)
      | true =>
        have R2 : Hid (psRes nn xs = (0, (nn : Int), padV (outs.map (ab .f32)))) := by
          show _ = _
          rw [R.out]
          unfold psIn
          rw [← quoV_fin HLL.out, ← H2.out, ← allNum_fin, hf]; rfl
        simp only [if_true]
        have B4 := Lib.hid (B3.out.alloc (.cells #[.slice a3 outs.length c3] 22))
        have BW4 := Lib.hid (BW3.out.alloc BW3.out.size (.cells #[.slice a3 outs.length c3] 22))
        have hb4 : Below w3.heap.size w3 (w3.alloc (.cells #[.slice a3 outs.length c3] 22)) := (Below.refl _ _).alloc (Nat.le_refl _) _
        have hc4 : (w3.alloc (.cells #[.slice a3 outs.length c3] 22)).cell? ⟨w.heap.size, 0, none⟩ = some (.int .i64 nn) := by rw [hb4.cell (by exact block_lt_of_cell C3.out)]; exact C3.out
        have hg4 : (w3.alloc (.cells #[.slice a3 outs.length c3] 22)).cell? ⟨w3.heap.size, 0, none⟩ = some (.slice a3 outs.length c3) := by rw [World.cell?_alloc_new]; rfl
        have R4 := Lib.hid (R3.out.below hb4)
        have HG4 := Lib.hid hg4
        clear hb4 hg4 B3 BW3 R3 C3
        go_wp2_with fail
        refine (pictureBy_sums nn hn1 hn2 outs (by rw [HOL.out, HLN.out]) a3 c3 w3.heap.size (w3.alloc (.cells #[.slice a3 outs.length c3] 22)) HG4.out R4.out).mono ?_
        rintro e w5 ⟨l, rfl, hll, hlm, hb5⟩
        have B5 := Lib.hid (B4.out.below hb5)
        have BW5 := Lib.hid (BW4.out.trans (hb5.mono BW4.out.size))
        have HL5 := Lib.hid hll
        have HM5 := Lib.hid hlm
        clear hll hlm hb5 B4 BW4 hc4
        go_wp2_with (refine wpList_store_row rfl 32 (.tmp 4) (.tmp 28) rfl (w.heap.size + 1) (pic nn l) rfl rfl 32 (pic 0 zeros) B5.out ?c1 ?c2 (pic_one nn l) ?_; (case c1 => exact Try.sizeP HL5.out); (case c2 => rw [pic_size, pic_size, HL5.out]; rfl))
        refine bodyPost_ret (v := .tuple #[.agg (pic nn l), .int .i64 0]) (results_cell_row2 Try.results62 _ _ (w.heap.size + 1) 32 (pic nn l) (0, 0) _ _ rfl rfl (B5.out.row _) Try.underlying32 rfl (Try.sizeP HL5.out)) rfl ?_
        exact ⟨l, by rw [R2.out], HL5.out, by rw [R2.out]; exact HM5.out, Below.setRow BW5.out (by omega) _⟩
end Go.Proofs.Ytphbjfijipcpnaa
