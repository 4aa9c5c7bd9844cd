/- Pictures: to, equal, plain. -/
import Derived.Test.YtphbjfijipcpnaaPic
namespace Go.Proofs.Ytphbjfijipcpnaa
open Go.RowKit
set_option linter.unusedVariables false

theorem blk2 (w : World) (a b : Obj) : ((w.alloc a).alloc b).heap[w.heap.size]? = some a ∧ ((w.alloc a).alloc b).heap[w.heap.size + 1]? = some b := by
  have e1 : (w.alloc a).heap.size = w.heap.size + 1 := by simp
  refine ⟨?_, ?_⟩
  · rw [heap_alloc_old _ _ (by omega)]; exact heap_alloc_new w a
  · rw [← e1]; exact heap_alloc_new _ b

set_option maxRecDepth 10000 in
set_option maxHeartbeats 1000000 in
theorem eqA_eq (xs ys : List Nat) (hx : xs.length = 64) (hy : ys.length = 64) (h : xs.map (ab .f32) = ys.map (ab .f32)) (w : World) :
    Calls Try.prog 47 #[.agg (arr xs), .agg (arr ys)] w fun e w' => e = .returned (.bool true) ∧ Below w.heap.size w w' := by
  have H := Lib.hid h; clear h
  go_enter Try.func47, Try.ntmps47
  go_wp2
  go_loopw [5] (fun i wr => ∃ k : Nat, k ≤ 64 ∧ i = .int .i64 k ∧ Below w.heap.size w wr ∧ Hid (Blk wr w.heap.size (arr xs) 29 ∧ Blk wr (w.heap.size + 1) (arr ys) 29)) (fun i _ => 64 - (intOf i).toNat)
  case atStart => exact ⟨0, Nat.zero_le _, rfl, ((Below.refl _ _).alloc (Nat.le_refl _) _).alloc (by simp) _, blk2 w _ _⟩
  case round =>
    obtain ⟨k, hk, rfl, hbl, hcur⟩ := hrel
    have HB := Lib.hid hbl; clear hbl
    obtain ⟨ha, hb⟩ := hcur.out
    clear hcur
    by_cases hlt : k < 64
    · have hc := ha.arrCell (by omega : k < xs.length)
      have hd := hb.arrCell (by omega : k < ys.length)
      have hab := ab_eq_of_map H.out k
      obtain ⟨x, hx0⟩ : ∃ x, x = xs.getD k 0 := ⟨_, rfl⟩
      obtain ⟨y, hy0⟩ : ∃ y, y = ys.getD k 0 := ⟨_, rfl⟩
      rw [← hx0] at hc hab
      rw [← hy0] at hd hab
      have HA := Lib.hid hab
      have H1 := Lib.hid ha
      have H2 := Lib.hid hb
      clear hx0 hy0 hab ha hb
      go_wp2
      go_region_with ((go_at_call 41; refine (sameFloat_eq _ _ _ (by rw [ab_wres, ab_wres, HA.out])).mono ?_; rintro e w' ⟨rfl, n, rfl⟩))
      all_goals
        go_wp2
        go_roundw
        case rel => exact ⟨k + 1, by omega, by go_num, below_drewN' HB.out _, H1.out.drewN _, H2.out.drewN _⟩
        case measure => simp [intOf]; omega
    · clear ha hb
      go_wp2
      go_ret
      exact ⟨rfl, HB.out⟩

theorem Blk.picMid {w : World} {g : Nat} {n : Int} {l : List Nat} {t : TypeId} (h : Blk w g (pic n l) t) : w.rangeAt g 1 (l.map flt) := by
  intro j v hv
  rw [h.cell, Nat.add_comm]
  simpa [pic] using hv
theorem Blk.there {w : World} {g : Nat} {c : Array Value} {t : TypeId} (h : Blk w g c t) (o n : Nat) (hn : o + n ≤ c.size) : w.there g o n := fun j hj => by
  rw [h.cell]
  exact ⟨by rw [Array.getElem?_eq_getElem (by omega)]; rfl, h.frozen _⟩
theorem setCells_heap (g : Nat) (t : TypeId) : ∀ (vs : List Value) (o : Nat) (w : World) (c : Array Value), Blk w g c t → Blk (w.setCells g o vs) g ((vs.zipIdx o).foldl (fun c p => c.setIfInBounds p.2 p.1) c) t
  | [], _, _, _, h => h
  | v :: r, o, w, c, h => setCells_heap g t r (o + 1) _ _ (h.set o v)
theorem setCells_other (g k : Nat) (hk : g ≠ k) : ∀ (vs : List Value) (o : Nat) (w : World), (w.setCells k o vs).heap[g]? = w.heap[g]?
  | [], _, _ => rfl
  | v :: r, o, w => (setCells_other g k hk r (o + 1) _).trans (heap_setCell_other w _ g v (by exact hk))
theorem setCells_size (g : Nat) : ∀ (vs : List Value) (o : Nat) (w : World), (w.setCells g o vs).heap.size = w.heap.size
  | [], _, _ => rfl
  | v :: r, o, w => (setCells_size g r (o + 1) _).trans (by simp [World.setCell])
theorem setCells_rest (g : Nat) : ∀ (vs : List Value) (o : Nat) (w : World), (w.setCells g o vs).os = w.os ∧ (w.setCells g o vs).tape = w.tape ∧ (w.setCells g o vs).output = w.output
  | [], _, _ => ⟨rfl, rfl, rfl⟩
  | v :: r, o, w => setCells_rest g r (o + 1) (w.setCell ⟨g, o, none⟩ v)
theorem Below.setCells {B : Nat} {a w : World} (h : Below B a w) {g : Nat} (hg : B ≤ g) (o : Nat) (vs : List Value) : Below B a (w.setCells g o vs) :=
  ⟨(setCells_rest g vs o w).1.trans h.os, (setCells_rest g vs o w).2.1.trans h.tape, (setCells_rest g vs o w).2.2.trans h.output, by rw [setCells_size]; exact h.size, fun k hk => (setCells_other k g (by omega) vs o w).trans (h.block k hk)⟩
theorem fold_toList : ∀ (vs : List Value) (o : Nat) (p q : List Value), p.length = o → q.length = vs.length → ((vs.zipIdx o).foldl (fun c r => c.setIfInBounds r.2 r.1) (p ++ q).toArray).toList = p ++ vs
  | [], _, p, q, _, hq => by
    have : q = [] := List.eq_nil_of_length_eq_zero hq
    simp [this]
  | v :: r, o, p, [], _, hq => by simp at hq
  | v :: r, o, p, u :: q, hp, hq => by
    have e : (p ++ u :: q).toArray.setIfInBounds o v = ((p ++ [v]) ++ q).toArray := by
      apply Array.ext'
      simp [List.set_append, hp]
    simp only [List.zipIdx_cons, List.foldl_cons]
    rw [e, fold_toList r (o + 1) (p ++ [v]) q (by simp [hp]) (by simpa using hq)]
    simp
theorem Blk.picFill {w : World} {g : Nat} {n : Int} {l : List Nat} {t : TypeId} (h : Blk w g (pic n l) t) (m : List Nat) (hm : m.length = l.length) : Blk (w.setCells g 1 (m.map flt)) g (pic n m) t := by
  have := setCells_heap g t (m.map flt) 1 w (pic n l) h
  have e : ((m.map flt).zipIdx 1).foldl (fun c p => c.setIfInBounds p.2 p.1) (pic n l) = pic n m := by
    apply Array.ext'
    have := fold_toList (m.map flt) 1 [.int .i64 n] (l.map flt) rfl (by simp [hm])
    simpa [pic] using this
  rw [e] at this; exact this

@[go_sem] theorem pic_get0 (n : Int) (l : List Nat) : (pic n l)[0]? = some (.int .i64 n) := by simp [pic]
theorem Try.sizeA' {l : List Nat} (h : l.length = 64) : (Try.prog.info? 29).map (·.size) = some (l.map flt).length := by rw [(zero_of_info Try.infoA).2, List.length_map, h]
theorem zeros_length : zeros.length = 64 := rfl

set_option maxRecDepth 10000 in
set_option maxHeartbeats 1000000 in
theorem toP_any (n : Int) (l : List Nat) (hl : l.length = 64) (w : World) :
    Calls Try.prog 19 #[.agg (pic n l)] w fun e w' => e = .returned (.agg (pic n l)) ∧ Below w.heap.size w w' := by
  have hz := (zero_of_info Try.infoP).1
  have h3 := blk3 w (.cells (pic n l) 31) (.cells (pic 0 zeros) 32) (.cells (pic 0 zeros) 32)
  obtain ⟨W0, hW⟩ : ∃ W0, W0 = ((w.alloc (.cells (pic n l) 31)).alloc (.cells (pic 0 zeros) 32)).alloc (.cells (pic 0 zeros) 32) := ⟨_, rfl⟩
  have hb0 : Below w.heap.size w W0 := by rw [hW]; exact (((Below.refl _ _).alloc (Nat.le_refl _) _).alloc (by simp) _).alloc (by simp; omega) _
  rw [← hW] at h3
  have b0 : Blk W0 w.heap.size (pic n l) 31 := h3.1
  have b1 : Blk W0 (w.heap.size + 1) (pic 0 zeros) 32 := h3.2.1
  have b2 : Blk W0 (w.heap.size + 1 + 1) (pic 0 zeros) 32 := h3.2.2
  have c0 := b0.picSide
  have c2 := b2.picSide
  have f2 := b2.frozen 0
  have B0 := Lib.hid b0
  have B1 := Lib.hid b1
  have B2 := Lib.hid b2
  have BW := Lib.hid hb0
  clear h3 b0 b1 b2 hb0
  go_enter Try.func19, Try.ntmps19
  go_upto_region 2 with (fail)
  rw [← hW]
  clear hW
  have R1 := Lib.hid ((B0.out.other (by omega : w.heap.size ≠ w.heap.size + 1 + 1) 0 (.int .i64 n)).picMid)
  have C1 := Lib.hid (B1.out.other (by omega : w.heap.size + 1 ≠ w.heap.size + 1 + 1) 0 (.int .i64 n))
  have C2 := Lib.hid (B2.out.picMove n)
  have CB := Lib.hid (Below.setCell BW.out (by exact (by omega : w.heap.size ≤ w.heap.size + 1 + 1)) (.int .i64 n) (p := ⟨w.heap.size + 1 + 1, 0, none⟩))
  clear B0 B1 B2
  go_wp2_with (refine wpList_load_mid rfl 29 (.tmp 7) rfl w.heap.size 1 rfl (l.map flt) _ R1.out Try.underlying29 rfl (Try.sizeA' hl) ?_)
  refine (toA_any l hl _).mono ?_
  rintro e w2 ⟨rfl, hb⟩
  have D1 := Lib.hid (C1.out.below hb)
  have D2 := Lib.hid (C2.out.below hb)
  have DB := Lib.hid (CB.out.trans (hb.mono CB.out.size))
  clear C1 C2 CB hb
  have T2 := Lib.hid (D2.out.there 1 (arr l).size (by rw [arr_size, pic_size, hl]; decide))
  have E2 := Lib.hid (D2.out.picFill l hl)
  have E1 := Lib.hid (show Blk (w2.setCells (w.heap.size + 1 + 1) 1 (arr l).toList) (w.heap.size + 1) (pic 0 zeros) 32 from (setCells_other _ _ (by omega) _ _ _).trans D1.out)
  have EB := Lib.hid (Below.setCells DB.out (by omega : w.heap.size ≤ w.heap.size + 1 + 1) 1 (arr l).toList)
  clear D1 D2 DB
  go_wp2_with (first | (refine wpList_store_mid rfl 29 (.tmp 10) (.tmp 9) rfl (w.heap.size + 1 + 1) 1 (arr l) rfl rfl T2.out (Try.sizeA hl) (arr_one l) ?_) | (refine wpList_load_row rfl 32 (.tmp 3) rfl (w.heap.size + 1 + 1) rfl 32 (pic n l) (0, 0) _ E2.out Try.underlying32 rfl (Try.sizeP hl) ?_) | (refine wpList_store_row rfl 32 (.tmp 2) (.tmp 11) rfl (w.heap.size + 1) (pic n l) rfl rfl 32 (pic 0 zeros) E1.out (Try.sizeP hl) (by rw [pic_size, pic_size, hl]; rfl) (pic_one n l) ?_))
  refine bodyPost_ret (v := .agg (pic n l)) (results_cell_row Try.results19 _ _ (w.heap.size + 1) 32 (pic n l) (0, 0) _ rfl (E1.out.row (pic n l)) Try.underlying32 rfl (Try.sizeP hl)) rfl ?_
  exact ⟨rfl, Below.setRow EB.out (by omega) _⟩
end Go.Proofs.Ytphbjfijipcpnaa
