/- Plain facts on floats, up to the bits of a NaN. -/
import Derived.WalkKit
import Derived.WalkLawsBesides
import Derived.Laws.FloatArith
import Derived.Laws.ComplexArith
namespace Go.Proofs.Ytficghohflmdeaa
open Go

/-- a float up to the bits of a NaN: 'none' is a NaN -/
abbrev FV := Option Nat

def ab (k : FloatKind) (b : Nat) : FV := if (k.decode b).isNaN then none else some b

def lift2 (g : Nat → Nat → Option Nat) (x y : FV) : FV := x.bind fun a => y.bind fun b => g a b

def arith (op : BinOp) (k : FloatKind) (x y : FV) : FV := lift2 (floatBits op k) x y

theorem read_nan_sum {x y : Ieee.Datum} (h : x.isNaN = true ∨ y.isNaN = true) : x.sum y = none := by
  cases x <;> cases y <;> simp_all [Ieee.Datum.isNaN, Ieee.Datum.sum]
theorem read_nan_product {x y : Ieee.Datum} (h : x.isNaN = true ∨ y.isNaN = true) : x.product y = none := by
  cases x <;> cases y <;> simp_all [Ieee.Datum.isNaN, Ieee.Datum.product]
theorem read_nan_quotient {d : Nat} {x y : Ieee.Datum} (h : x.isNaN = true ∨ y.isNaN = true) : x.quotient d y = none := by
  cases x <;> cases y <;> simp_all [Ieee.Datum.isNaN, Ieee.Datum.quotient]
theorem opposite_nan (y : Ieee.Datum) : y.opposite.isNaN = y.isNaN := by cases y <;> rfl
theorem read_nan_order {x y : Ieee.Datum} (h : x.isNaN = true ∨ y.isNaN = true) : x.order y = none := by
  cases x <;> cases y <;> simp_all [Ieee.Datum.isNaN, Ieee.Datum.order]

theorem floatBits_nan {op : BinOp} {k : FloatKind} {x y : Nat} (h : (k.decode x).isNaN = true ∨ (k.decode y).isNaN = true) : floatBits op k x y = none := by
  unfold floatBits
  unfold FloatKind.decode at h
  split
  · simp [Ieee.Format.add, read_nan_sum h]
  · simp [Ieee.Format.sub, read_nan_sum (x := k.format.read x) (y := (k.format.read y).opposite) (by rw [opposite_nan]; exact h)]
  · simp [Ieee.Format.mul, read_nan_product h]
  · simp [Ieee.Format.div, read_nan_quotient h]
  · rfl

theorem arith_ab (op : BinOp) (k : FloatKind) (x y : Nat) : arith op k (ab k x) (ab k y) = floatBits op k x y := by
  unfold arith lift2 ab
  by_cases hx : (k.decode x).isNaN = true
  · simp [hx, floatBits_nan (op := op) (.inl hx)]
  · by_cases hy : (k.decode y).isNaN = true
    · simp [hy, floatBits_nan (op := op) (x := x) (.inr hy)]
    · simp [hx, hy]


theorem word_mod (f : Ieee.Format) (neg : Bool) (rung : Nat) (h : rung < f.signWeight) : f.word neg rung % f.signWeight = rung := by
  unfold Ieee.Format.word
  split
  · rw [Nat.add_mod_left, Nat.mod_eq_of_lt h]
  · exact Nat.mod_eq_of_lt h

theorem read_word_le (f : Ieee.Format) (neg : Bool) (rung : Nat) (h : rung ≤ f.infRung) : (f.read (f.word neg rung)).isNaN = false := by
  have h2 : rung < f.signWeight := Nat.lt_of_le_of_lt h f.infRung_lt
  unfold Ieee.Format.read
  simp only [word_mod f neg rung h2]
  split
  · rfl
  · split
    · rfl
    · split
      · rfl
      · omega

theorem nearest_word (f : Ieee.Format) (neg : Bool) (mag : Nat) (place : Int) : ∃ r, r ≤ f.infRung ∧ f.nearest neg mag place = f.word neg r := by
  unfold Ieee.Format.nearest
  split
  · exact ⟨0, Nat.zero_le _, rfl⟩
  · exact ⟨_, Nat.min_le_right _ _, rfl⟩

theorem write_notNaN (f : Ieee.Format) (d : Ieee.Datum) (h : d.isNaN = false) : (f.read (f.write d)).isNaN = false := by
  cases d with
  | number s m e =>
    obtain ⟨r, hr, he⟩ := nearest_word f s m e
    show (f.read (f.nearest s m e)).isNaN = false
    rw [he]; exact read_word_le f s r hr
  | infinity s => exact read_word_le f s _ (Nat.le_refl _)
  | nan s t => cases h

theorem ab_some {k : FloatKind} {b : Nat} (h : (k.decode b).isNaN = false) : ab k b = some b := by simp [ab, h]
theorem ab_none {k : FloatKind} {b : Nat} (h : (k.decode b).isNaN = true) : ab k b = none := by simp [ab, h]
theorem ab_eq_some {k : FloatKind} {b c : Nat} (h : ab k b = some c) : b = c ∧ (k.decode b).isNaN = false := by
  unfold ab at h; split at h
  · cases h
  · rename_i hn; cases h; exact ⟨rfl, by simpa using hn⟩

theorem sum_notNaN {x y d : Ieee.Datum} (h : x.sum y = some d) : d.isNaN = false := by
  cases x <;> cases y <;> simp only [Ieee.Datum.sum] at h <;> (try cases h) <;> (try rfl)
  split at h <;> cases h; rfl
theorem product_notNaN {x y d : Ieee.Datum} (h : x.product y = some d) : d.isNaN = false := by
  cases x <;> cases y <;> simp only [Ieee.Datum.product] at h <;> (try cases h) <;> (try rfl)
  all_goals (split at h <;> cases h; rfl)
theorem quotient_notNaN {n : Nat} {x y d : Ieee.Datum} (h : x.quotient n y = some d) : d.isNaN = false := by
  cases x <;> cases y <;> simp only [Ieee.Datum.quotient] at h <;> (try cases h) <;> (try rfl)
  split at h
  · split at h <;> cases h; rfl
  · cases h; rfl

theorem map_notNaN {f : Ieee.Format} {o : Option Ieee.Datum} {r : Nat} (h : o.map f.write = some r) (hn : ∀ d, o = some d → d.isNaN = false) : (f.read r).isNaN = false := by
  cases o with
  | none => cases h
  | some d => cases h; exact write_notNaN f d (hn d rfl)

theorem floatBits_notNaN {op : BinOp} {k : FloatKind} {x y r : Nat} (h : floatBits op k x y = some r) : (k.decode r).isNaN = false := by
  unfold floatBits at h
  unfold FloatKind.decode
  split at h
  · exact map_notNaN h fun d hd => sum_notNaN hd
  · exact map_notNaN h fun d hd => sum_notNaN hd
  · exact map_notNaN h fun d hd => product_notNaN hd
  · exact map_notNaN h fun d hd => quotient_notNaN hd
  · cases h

/-- the bits that the tape gives for a NaN are a NaN's -/
theorem cut_nan (k : FloatKind) (t : Nat) (q : Question) (hq : (∃ x y, q = .nanBits k x y) ∨ (∃ x, q = .nanConv k x) ∨ (∃ m x y, q = .nanMinMax k m x y)) :
    (k.decode (q.cut t)).isNaN = true ∧ q.cut t < 2 ^ k.format.width := by
  have h32 : ∀ n, ((FloatKind.f32.decode ((n % 2) * 2 ^ 31 + 0x7f800000 + 1 + (n / 2) % (2 ^ 23 - 1))).isNaN = true) ∧ (n % 2) * 2 ^ 31 + 0x7f800000 + 1 + (n / 2) % (2 ^ 23 - 1) < 2 ^ 32 := by
    intro n
    refine ⟨?_, by omega⟩
    unfold FloatKind.decode Ieee.Format.read
    have e1 : FloatKind.f32.format.signWeight = 2 ^ 31 := rfl
    have e2 : FloatKind.f32.format.binade = 2 ^ 23 := rfl
    have e3 : FloatKind.f32.format.infRung = 0x7f800000 := rfl
    simp only [e1, e2, e3]
    have : ((n % 2) * 2 ^ 31 + 0x7f800000 + 1 + (n / 2) % (2 ^ 23 - 1)) % 2 ^ 31 = 0x7f800000 + 1 + (n / 2) % (2 ^ 23 - 1) := by omega
    rw [this]
    rw [if_neg (by omega), if_neg (by omega), if_neg (by omega)]
    rfl
  have h64 : ∀ n, ((FloatKind.f64.decode ((n % 2) * 2 ^ 63 + 0x7ff0000000000000 + 1 + (n / 2) % (2 ^ 52 - 1))).isNaN = true) ∧ (n % 2) * 2 ^ 63 + 0x7ff0000000000000 + 1 + (n / 2) % (2 ^ 52 - 1) < 2 ^ 64 := by
    intro n
    refine ⟨?_, by omega⟩
    unfold FloatKind.decode Ieee.Format.read
    have e1 : FloatKind.f64.format.signWeight = 2 ^ 63 := rfl
    have e2 : FloatKind.f64.format.binade = 2 ^ 52 := rfl
    have e3 : FloatKind.f64.format.infRung = 0x7ff0000000000000 := rfl
    simp only [e1, e2, e3]
    have : ((n % 2) * 2 ^ 63 + 0x7ff0000000000000 + 1 + (n / 2) % (2 ^ 52 - 1)) % 2 ^ 63 = 0x7ff0000000000000 + 1 + (n / 2) % (2 ^ 52 - 1) := by omega
    rw [this]
    rw [if_neg (by omega), if_neg (by omega), if_neg (by omega)]
    rfl
  cases k
  · rcases hq with ⟨x, y, rfl⟩ | ⟨x, rfl⟩ | ⟨m, x, y, rfl⟩ <;> exact h32 t
  · rcases hq with ⟨x, y, rfl⟩ | ⟨x, rfl⟩ | ⟨m, x, y, rfl⟩ <;> exact h64 t

section
variable {P : Program}
/-- '+', '-', '*', '/' on floats, whatever they are: the result up to the bits of a NaN -/
theorem run_arith (w : World) (op : BinOp) (hop : op = .add ∨ op = .sub ∨ op = .mul ∨ op = .quo) (t : TypeId) (k : FloatKind) (x y : Nat) :
    ∃ r n, (binOp op t (.float k x) (.float k y)).run P w = .ok (.float k r) (w.drewN n) ∧ ab k r = arith op k (ab k x) (ab k y) ∧ r < 2 ^ k.format.width := by
  rw [arith_ab]
  cases h : floatBits op k x y with
  | some r =>
    refine ⟨r, 0, run_float_arith w op t k x y r h, ab_some (floatBits_notNaN h), ?_⟩
    have hw := floatBits_wf h
    cases k
    · show r < 2 ^ 32; simpa [Lit.wf] using hw
    · show r < 2 ^ 64; simpa [Lit.wf] using hw
  | none =>
    have hc := cut_nan k (w.tape w.drawn (.nanBits k x y)) (.nanBits k x y) (.inl ⟨x, y, rfl⟩)
    refine ⟨_, 1, ?_, ab_none hc.1, hc.2⟩
    unfold floatBits at h
    rcases hop with rfl | rfl | rfl | rfl <;> simp only at h <;>
      simp [binOp, Op.floatArith, h, choose, Sem.run, Question.forced, World.drewN]
end
def cmpF (k : FloatKind) (x y : FV) : Option Ordering := x.bind fun a => y.bind fun b => k.format.order a b
theorem cmp_ab (k : FloatKind) (a b : Nat) : k.format.order a b = cmpF k (ab k a) (ab k b) := by
  unfold cmpF ab Ieee.Format.order
  by_cases ha : (k.decode a).isNaN = true
  · simp [ha, read_nan_order (x := k.format.read a) (y := k.format.read b) (.inl ha)]
  · by_cases hb : (k.decode b).isNaN = true
    · simp [hb, read_nan_order (x := k.format.read a) (y := k.format.read b) (.inr hb)]
    · simp [ha, hb]

theorem log2_bounds {m : Nat} (h : 0 < m) : 2 ^ m.log2 ≤ m ∧ m < 2 ^ (m.log2 + 1) := ⟨Nat.log2_self_le (by omega), Nat.lt_log2_self⟩

/-- a number with few digits is met exactly: the digits moved up to the full significand -/
theorem up_bounds {m n : Nat} (h : 0 < m) (hl : m.log2 ≤ n) : 2 ^ n ≤ m * 2 ^ (n - m.log2) ∧ m * 2 ^ (n - m.log2) < 2 ^ (n + 1) := by
  obtain ⟨h1, h2⟩ := log2_bounds h
  constructor
  · have e : 2 ^ n = 2 ^ m.log2 * 2 ^ (n - m.log2) := by rw [← Nat.pow_add]; congr 1; omega
    rw [e]; exact Nat.mul_le_mul_right _ h1
  · have e : 2 ^ (n + 1) = 2 ^ (m.log2 + 1) * 2 ^ (n - m.log2) := by rw [← Nat.pow_add]; congr 1; omega
    rw [e]; exact Nat.mul_lt_mul_of_pos_right h2 (Nat.pow_pos (by omega))

theorem cut_zero (way : Ieee.Toward) (neg : Bool) (n : Nat) : way.cut neg n 0 = n := by
  unfold Ieee.Toward.cut
  simp only [Nat.zero_min, Nat.one_shiftLeft, Nat.pow_zero, Nat.div_one, Nat.mod_one]
  cases way <;> simp

theorem double_exact (s : Bool) (m : Nat) (e : Int) (hm : 0 < m) (hm2 : m < 2 ^ 53) (he : -149 ≤ e) (he2 : e ≤ 200) :
    Ieee.double.read (Ieee.double.nearest s m e) = .number s (m * 2 ^ (52 - m.log2)) (e - (52 - m.log2 : Nat)) ∧
      (Ieee.double.nearest s m e) = Ieee.double.word s (((e - (52 - m.log2 : Nat)) + 1074).toNat * 2 ^ 52 + m * 2 ^ (52 - m.log2)) := by
  have hl : m.log2 ≤ 52 := by have := (Nat.log2_lt (by omega)).2 hm2; omega
  obtain ⟨h1, h2⟩ := up_bounds hm hl
  have hnear : Ieee.double.nearest s m e = Ieee.double.word s (((e - (52 - m.log2 : Nat)) + 1074).toNat * 2 ^ 52 + m * 2 ^ (52 - m.log2)) := by
    unfold Ieee.Format.nearest
    rw [if_neg (by omega)]
    have elp : Ieee.double.leastPlace = -1074 := rfl
    have efb : Ieee.double.fractionBits = 52 := rfl
    have ebn : Ieee.double.binade = 2 ^ 52 := rfl
    have einf : Ieee.double.infRung = 9218868437227405312 := rfl
    simp only [elp, efb, ebn, einf]
    have elast : max (e + (m.log2 : Int) - (52 : Nat)) (-1074) = e - (52 - m.log2 : Nat) := by omega
    simp only [elast]
    have e1 : (e - (e - (52 - m.log2 : Nat))).toNat = 52 - m.log2 := by omega
    have e2 : ((e - (52 - m.log2 : Nat)) - e).toNat = 0 := by omega
    simp only [e1, e2, cut_zero, Nat.shiftLeft_eq]
    have e3 : (e - ((52 - m.log2 : Nat) : Int) - -1074) = (e - (52 - m.log2 : Nat)) + 1074 := by omega
    rw [e3]
    rw [Nat.min_eq_left]
    have h3 : ((e - ((52 - m.log2 : Nat) : Int)) + 1074).toNat ≤ 2000 := by omega
    generalize m * 2 ^ (52 - m.log2) = K at *
    generalize ((e - ((52 - m.log2 : Nat) : Int)) + 1074).toNat = q at *
    clear elast e1 e2 e3
    omega
  refine ⟨?_, hnear⟩
  rw [hnear]
  generalize hK : m * 2 ^ (52 - m.log2) = K at *
  generalize hq : (e - ((52 - m.log2 : Nat) : Int)) = q at *
  have hq1 : -300 ≤ q := by omega
  have hq2 : q ≤ 300 := by omega
  unfold Ieee.Format.read
  have esw : Ieee.double.signWeight = 2 ^ 63 := rfl
  have elp : Ieee.double.leastPlace = -1074 := rfl
  have ebn : Ieee.double.binade = 2 ^ 52 := rfl
  have einf : Ieee.double.infRung = 9218868437227405312 := rfl
  have hr : (q + 1074).toNat * 2 ^ 52 + K < Ieee.double.signWeight := by
    rw [esw]
    have : (q + 1074).toNat ≤ 1374 := by omega
    have := Nat.mul_le_mul_right (2 ^ 52) this
    omega
  have hneg : (Ieee.double.word s ((q + 1074).toNat * 2 ^ 52 + K) / Ieee.double.signWeight % 2 == 1) = s := by
    unfold Ieee.Format.word
    cases s
    · simp only [Bool.false_eq_true, if_false]; rw [Nat.div_eq_of_lt hr]; rfl
    · simp only [if_true]; rw [Nat.add_div_left _ (by rw [esw]; omega), Nat.div_eq_of_lt hr]; rfl
  simp only [word_mod Ieee.double s _ hr, hneg, elp, ebn, einf]
  have hx : ((q + 1074).toNat * 2 ^ 52 + K) / 2 ^ 52 = (q + 1074).toNat + 1 := by omega
  have hy : ((q + 1074).toNat * 2 ^ 52 + K) % 2 ^ 52 = K - 2 ^ 52 := by omega
  rw [if_neg (by omega), if_pos (by have : (q + 1074).toNat ≤ 1374 := by omega
                                    have := Nat.mul_le_mul_right (2 ^ 52) this
                                    omega), hx, hy]
  have ea : 2 ^ 52 + (K - 2 ^ 52) = K := by omega
  have eb : (-1074 : Int) + (((q + 1074).toNat + 1 - 1 : Nat) : Int) = q := by omega
  rw [ea, eb]

/-- what a float32 reads as -/
theorem single_read (x : Nat) : (∃ s m e, Ieee.single.read x = .number s m e ∧ m < 2 ^ 24 ∧ -149 ≤ e ∧ e ≤ 104) ∨ (∃ s, Ieee.single.read x = .infinity s) ∨ (∃ s t, Ieee.single.read x = .nan s t) := by
  unfold Ieee.Format.read
  have esw : Ieee.single.signWeight = 2 ^ 31 := rfl
  have elp : Ieee.single.leastPlace = -149 := rfl
  have ebn : Ieee.single.binade = 2 ^ 23 := rfl
  have einf : Ieee.single.infRung = 2139095040 := rfl
  simp only [esw, elp, ebn, einf]
  split
  · exact .inl ⟨_, _, _, rfl, by omega, by omega, by omega⟩
  · split
    · exact .inl ⟨_, _, _, rfl, by omega, by omega, by omega⟩
    · split
      · exact .inr (.inl ⟨_, rfl⟩)
      · exact .inr (.inr ⟨_, _, rfl⟩)

/-- 'float64(x)' of a float32 -/
def widen (x : FV) : FV := x.bind fun b => floatToFloatBits .f32 b .f64

theorem floatToFloat_up (x : Nat) (h : (FloatKind.f32.decode x).isNaN = false) : ∃ r, floatToFloatBits .f32 x .f64 = some r ∧ (FloatKind.f64.decode r).isNaN = false := by
  unfold floatToFloatBits
  rw [if_neg (by decide)]
  have hd : FloatKind.f32.decode x = Ieee.single.read x := rfl
  rcases single_read x with ⟨s, m, e, hx, hm, h1, h2⟩ | ⟨s, hx⟩ | ⟨s, t, hx⟩
  · rw [hd, hx]
    simp only
    by_cases h0 : m = 0
    · subst h0
      have : FloatKind.f64.encode (.number s 0 e) = Ieee.double.word s 0 := by
        show Ieee.double.nearest s 0 e = _
        unfold Ieee.Format.nearest; simp
      rw [this]
      have hi : (FloatKind.f64.decode (Ieee.double.word s 0)).isInfinity = false := by cases s <;> decide
      rw [if_neg (by rw [hi]; decide)]
      exact ⟨_, rfl, by cases s <;> decide⟩
    · have hz := (double_exact s m e (by omega) (by omega) h1 (by omega)).1
      have hi : FloatKind.f64.decode (FloatKind.f64.encode (.number s m e)) = .number s (m * 2 ^ (52 - m.log2)) (e - (52 - m.log2 : Nat)) := hz
      rw [hi]
      refine ⟨FloatKind.f64.encode (.number s m e), by simp [Ieee.Datum.isInfinity], ?_⟩
      rw [hi]; rfl
  · rw [hd, hx]
    exact ⟨_, rfl, read_word_le Ieee.double s _ (Nat.le_refl _)⟩
  · rw [hd, hx] at h; cases h

theorem run_widen {P : Program} (w : World) (src dst : TypeId) (hs : (P.underlying src).isSome = true) (hd : P.underlying dst = some (.float .f64)) (x : Nat) :
    ∃ r n, (convert src dst (.float .f32 x)).run P w = .ok (.float .f64 r) (w.drewN n) ∧ ab .f64 r = widen (ab .f32 x) := by
  cases hx : (FloatKind.f32.decode x).isNaN with
  | false =>
    obtain ⟨r, h, hr⟩ := floatToFloat_up x hx
    exact ⟨r, 0, run_convert_float_float w src dst .f32 .f64 x r hs hd h, by rw [ab_some hr, ab_some hx]; unfold widen; simp [h]⟩
  | true =>
    have hc := cut_nan .f64 (w.tape w.drawn (.nanConv .f64 x)) (.nanConv .f64 x) (.inr (.inl ⟨x, rfl⟩))
    refine ⟨_, 1, ?_, by rw [ab_none hc.1, ab_none hx]; rfl⟩
    obtain ⟨u, hs'⟩ := Option.isSome_iff_exists.1 hs
    rcases single_read x with ⟨s, m, e, hx', _⟩ | ⟨s, hx'⟩ | ⟨s, t, hx'⟩
    · have hd' : FloatKind.f32.decode x = Ieee.single.read x := rfl
      rw [hd', hx'] at hx; cases hx
    · have hd' : FloatKind.f32.decode x = Ieee.single.read x := rfl
      rw [hd', hx'] at hx; cases hx
    · have hd' : FloatKind.f32.decode x = .nan s t := hx'
      cases u <;> simp [convert, run_underlying hs', run_underlying hd, Conv.floatToFloat, hd', choose, Sem.run, Question.forced, World.drewN]

theorem order_self {k : FloatKind} {a : Nat} (h : (k.decode a).isNaN = false) : k.format.order a a = some .eq := by
  unfold Ieee.Format.order
  unfold FloatKind.decode at h
  cases hd : k.format.read a with
  | number s m i => simp [Ieee.Datum.order]
  | infinity s => cases s <;> rfl
  | nan s t => rw [hd] at h; cases h

theorem one_div {a : Nat} (h : (FloatKind.f64.decode a).isNaN = false) : ∃ r, floatBits .quo .f64 4607182418800017408 a = some r := by
  have h1 : FloatKind.f64.format.read 4607182418800017408 = .number false (2 ^ 52) (-52) := by decide
  unfold FloatKind.decode at h
  show ∃ r, FloatKind.f64.format.div 4607182418800017408 a = some r
  unfold Ieee.Format.div
  rw [h1]
  cases hd : FloatKind.f64.format.read a with
  | number s m i =>
    by_cases hm : m = 0
    · subst hm; simp only [Ieee.Datum.quotient, if_true]; exact ⟨_, rfl⟩
    · simp only [Ieee.Datum.quotient, if_neg hm]; exact ⟨_, rfl⟩
  | infinity s => exact ⟨_, rfl⟩
  | nan s t => rw [hd] at h; cases h

section
variable {P : Program} {w : World} {a : Addr} {m : Mode}
@[go_sem] theorem run_store_float (k : FloatKind) (b : Nat) : (store a (.float k b) m).run P w = stored P w a (.float k b) m := run_store P w a _ m rfl
@[go_sem] theorem run_store_complex (k : FloatKind) (b c : Nat) : (store a (.complex k b c) m).run P w = stored P w a (.complex k b c) m := run_store P w a _ m rfl
end

/-! ### the operations as equations: the result's bits, and how many draws -/
def fres (op : BinOp) (k : FloatKind) (x y : Nat) (w : World) : Nat := (floatBits op k x y).getD ((Question.nanBits k x y).cut (w.tape w.drawn (.nanBits k x y)))
def nd (op : BinOp) (k : FloatKind) (x y : Nat) : Nat := if (floatBits op k x y).isSome then 0 else 1
theorem ab_fres (op : BinOp) (k : FloatKind) (x y : Nat) (w : World) : ab k (fres op k x y w) = arith op k (ab k x) (ab k y) := by
  rw [arith_ab]
  unfold fres
  cases h : floatBits op k x y with
  | some r => exact ab_some (floatBits_notNaN h)
  | none => exact ab_none (cut_nan k _ (.nanBits k x y) (.inl ⟨x, y, rfl⟩)).1
theorem run_fop {P : Program} (w : World) (op : BinOp) (hop : op = .add ∨ op = .sub ∨ op = .mul ∨ op = .quo) (t : TypeId) (k : FloatKind) (x y : Nat) :
    (binOp op t (.float k x) (.float k y)).run P w = .ok (.float k (fres op k x y w)) (w.drewN (nd op k x y)) := by
  unfold fres nd
  cases h : floatBits op k x y with
  | some r => exact run_float_arith w op t k x y r h
  | none =>
    unfold floatBits at h
    rcases hop with rfl | rfl | rfl | rfl <;> simp only at h <;>
      simp [binOp, Op.floatArith, h, choose, Sem.run, Question.forced, World.drewN]
section
variable {P : Program} (w : World) (t : TypeId) (k : FloatKind) (x y : Nat)
@[go_sem] theorem run_fadd : (binOp .add t (.float k x) (.float k y)).run P w = .ok (.float k (fres .add k x y w)) (w.drewN (nd .add k x y)) := run_fop w _ (by simp) t k x y
@[go_sem] theorem run_fsub : (binOp .sub t (.float k x) (.float k y)).run P w = .ok (.float k (fres .sub k x y w)) (w.drewN (nd .sub k x y)) := run_fop w _ (by simp) t k x y
@[go_sem] theorem run_fmul : (binOp .mul t (.float k x) (.float k y)).run P w = .ok (.float k (fres .mul k x y w)) (w.drewN (nd .mul k x y)) := run_fop w _ (by simp) t k x y
@[go_sem] theorem run_fquo : (binOp .quo t (.float k x) (.float k y)).run P w = .ok (.float k (fres .quo k x y w)) (w.drewN (nd .quo k x y)) := run_fop w _ (by simp) t k x y
end

def wres (x : Nat) (w : World) : Nat := (floatToFloatBits .f32 x .f64).getD ((Question.nanConv .f64 x).cut (w.tape w.drawn (.nanConv .f64 x)))
def nw (x : Nat) : Nat := if (floatToFloatBits .f32 x .f64).isSome then 0 else 1
theorem floatToFloat_nan {x : Nat} (hx : (FloatKind.f32.decode x).isNaN = true) : floatToFloatBits .f32 x .f64 = none := by
  unfold floatToFloatBits
  rw [if_neg (by decide)]
  cases hd : FloatKind.f32.decode x with
  | number s m e => rw [hd] at hx; cases hx
  | infinity s => rw [hd] at hx; cases hx
  | nan s t => rfl
theorem ab_wres (x : Nat) (w : World) : ab .f64 (wres x w) = widen (ab .f32 x) := by
  unfold wres widen
  cases hx : (FloatKind.f32.decode x).isNaN with
  | false =>
    obtain ⟨r, h, hr⟩ := floatToFloat_up x hx
    rw [h, ab_some hx, Option.bind_some, h]; exact ab_some hr
  | true =>
    rw [floatToFloat_nan hx, ab_none hx]
    exact ab_none (cut_nan .f64 _ (.nanConv .f64 x) (.inr (.inl ⟨x, rfl⟩))).1
@[go_sem] theorem run_wconv {P : Program} (w : World) (src dst : TypeId) (hs : (P.underlying src).isSome = true) (hd : P.underlying dst = some (.float .f64)) (x : Nat) :
    (convert src dst (.float .f32 x)).run P w = .ok (.float .f64 (wres x w)) (w.drewN (nw x)) := by
  unfold wres nw
  cases hx : (FloatKind.f32.decode x).isNaN with
  | false =>
    obtain ⟨r, h, hr⟩ := floatToFloat_up x hx
    rw [h]
    exact run_convert_float_float w src dst .f32 .f64 x r hs hd h
  | true =>
    rw [floatToFloat_nan hx]
    obtain ⟨u, hs'⟩ := Option.isSome_iff_exists.1 hs
    cases hd' : FloatKind.f32.decode x with
    | number s m e => rw [hd'] at hx; cases hx
    | infinity s => rw [hd'] at hx; cases hx
    | nan s t =>
      cases u <;> simp [convert, run_underlying hs', run_underlying hd, Conv.floatToFloat, hd', choose, Sem.run, Question.forced, World.drewN]

/-- 'max' of two -/
def mres (k : FloatKind) (x y : Nat) (w : World) : Nat :=
  match k.format.order x y with
  | none => (Question.nanMinMax k true x y).cut (w.tape w.drawn (.nanMinMax k true x y))
  | some .lt => y
  | some .gt => x
  | some .eq => if (k.decode x).neg then y else x
def nm (k : FloatKind) (x y : Nat) : Nat := if (k.format.order x y).isSome then 0 else 1
@[go_sem] theorem run_fmax {P : Program} (w : World) (ts : Array TypeId) (t : TypeId) (k : FloatKind) (x y : Nat) :
    (Builtin.max_ ts t #[.float k x, .float k y]).run P w = .ok (.float k (mres k x y w)) (w.drewN (nm k x y)) := by
  unfold mres nm Builtin.max_
  cases h : k.format.order x y with
  | none => simp [Builtin.max2, h, choose, Sem.run, Question.forced, World.drewN]
  | some o => cases o <;> simp [Builtin.max2, h, World.drewN]

def maxV (k : FloatKind) (x y : FV) : FV := match x, y with
  | some a, some b => match k.format.order a b with
    | none => none
    | some .lt => y
    | some .gt => x
    | some .eq => if (k.decode a).neg then y else x
  | _, _ => none
theorem order_some {k : FloatKind} {a b : Nat} (ha : (k.decode a).isNaN = false) (hb : (k.decode b).isNaN = false) : ∃ o, k.format.order a b = some o := by
  unfold Ieee.Format.order
  unfold FloatKind.decode at ha hb
  cases h1 : k.format.read a <;> cases h2 : k.format.read b <;> rw [h1] at ha <;> rw [h2] at hb <;> (try cases ha) <;> (try cases hb) <;> exact ⟨_, rfl⟩
theorem ab_mres (k : FloatKind) (x y : Nat) (w : World) : ab k (mres k x y w) = maxV k (ab k x) (ab k y) := by
  cases hx : (k.decode x).isNaN with
  | true =>
    have ho : k.format.order x y = none := read_nan_order (.inl hx)
    rw [ab_none hx]
    unfold mres; rw [ho]
    exact ab_none (cut_nan k _ (.nanMinMax k true x y) (.inr (.inr ⟨true, x, y, rfl⟩))).1
  | false =>
    cases hy : (k.decode y).isNaN with
    | true =>
      have ho : k.format.order x y = none := read_nan_order (.inr hy)
      rw [ab_none hy]
      unfold mres; rw [ho]
      rw [ab_none (cut_nan k _ (.nanMinMax k true x y) (.inr (.inr ⟨true, x, y, rfl⟩))).1, ab_some hx]; rfl
    | false =>
      obtain ⟨o, ho⟩ := order_some hx hy
      rw [ab_some hx, ab_some hy]
      unfold mres maxV; simp only [ho]
      cases o with
      | lt => exact ab_some hy
      | gt => exact ab_some hx
      | eq =>
        simp only
        split
        · exact ab_some hy
        · exact ab_some hx

/-! ### finite numbers -/
def fin (x : FV) : Bool := cmpF .f32 (arith .sub .f32 x x) (some 0) == some .eq

theorem sub_self_number {b : Nat} {s : Bool} {m : Nat} {e : Int} (h : FloatKind.f32.decode b = .number s m e) : floatBits .sub .f32 b b = some 0 := by
  show FloatKind.f32.format.sub b b = some 0
  unfold Ieee.Format.sub
  have h' : FloatKind.f32.format.read b = .number s m e := h
  rw [h']
  simp only [Ieee.Datum.opposite, Ieee.Datum.sum, Option.map_some, Int.min_self, Int.sub_self, Int.toNat_zero]
  have ht : Ieee.signed s m 0 + Ieee.signed (!s) m 0 = 0 := by cases s <;> simp [Ieee.signed] <;> omega
  rw [ht]
  cases s <;> rfl

theorem fin_num {x : FV} : fin x = true ↔ ∃ b s m e, x = some b ∧ FloatKind.f32.decode b = .number s m e := by
  constructor
  · intro h
    cases x with
    | none => simp [fin, arith, lift2, cmpF] at h
    | some b =>
      cases hd : FloatKind.f32.decode b with
      | number s m e => exact ⟨b, s, m, e, rfl, hd⟩
      | infinity s =>
        have h' : FloatKind.f32.format.read b = .infinity s := hd
        have : floatBits .sub .f32 b b = none := by
          show FloatKind.f32.format.sub b b = none
          unfold Ieee.Format.sub; rw [h']; cases s <;> rfl
        simp [fin, arith, lift2, cmpF, this] at h
      | nan s t =>
        have : floatBits .sub .f32 b b = none := floatBits_nan (.inl (by rw [hd]; rfl))
        simp [fin, arith, lift2, cmpF, this] at h
  · rintro ⟨b, s, m, e, rfl, hd⟩
    simp only [fin, arith, lift2, Option.bind_some, sub_self_number hd, cmpF]
    decide

theorem read_inf32 (s : Bool) : Ieee.single.read (Ieee.single.write (.infinity s)) = .infinity s := by cases s <;> decide

theorem fin_not_number {b : Nat} (h : ∀ s m e, FloatKind.f32.decode b ≠ .number s m e) : fin (some b) = false := by
  cases hf : fin (some b) with
  | false => rfl
  | true =>
    obtain ⟨c, s, m, e, hc, hd⟩ := fin_num.1 hf
    cases hc
    exact absurd hd (h s m e)

theorem fin_none : fin none = false := rfl
theorem fin_inf (s : Bool) : fin (some (Ieee.single.write (.infinity s))) = false := fin_not_number fun s' m e h => by
  have h' : Ieee.single.read (Ieee.single.write (.infinity s)) = .number s' m e := h
  rw [read_inf32] at h'; cases h'

theorem fin_of_datum {a : Nat} (h : fin (some a) = false) : (∃ s, FloatKind.f32.decode a = .infinity s) ∨ (FloatKind.f32.decode a).isNaN = true := by
  cases hd : FloatKind.f32.decode a with
  | number s m e =>
    have : fin (some a) = true := fin_num.2 ⟨a, s, m, e, rfl, hd⟩
    rw [this] at h; cases h
  | infinity s => exact .inl ⟨s, rfl⟩
  | nan s t => exact .inr rfl

theorem fin_add {x y : FV} (h : fin (arith .add .f32 x y) = true) : fin x = true ∧ fin y = true := by
  cases x with
  | none => simp [arith, lift2, fin_none] at h
  | some a =>
    cases y with
    | none => simp [arith, lift2, fin_none] at h
    | some b =>
      have e : arith .add .f32 (some a) (some b) = Ieee.single.add a b := rfl
      rw [e] at h
      unfold Ieee.Format.add at h
      have key : ∀ (u v : Ieee.Datum), ((∃ s, u = .infinity s) ∨ u.isNaN = true) ∨ ((∃ s, v = .infinity s) ∨ v.isNaN = true) → fin ((u.sum v).map Ieee.single.write) = false := by
        intro u v hh
        cases u <;> cases v <;> simp_all [Ieee.Datum.sum, Ieee.Datum.isNaN, fin_none, fin_inf]
        split <;> simp [fin_none, fin_inf]
      constructor
      · cases hf : fin (some a) with
        | true => rfl
        | false => have k := key (Ieee.single.read a) (Ieee.single.read b) (.inl (fin_of_datum hf)); rw [k] at h; cases h
      · cases hf : fin (some b) with
        | true => rfl
        | false => have k := key (Ieee.single.read a) (Ieee.single.read b) (.inr (fin_of_datum hf)); rw [k] at h; cases h
end Go.Proofs.Ytficghohflmdeaa
