/- exact.units: a finite float as a whole number. exact.Sum: what it holds; New, Add. exact.Sum.Add. -/
import Derived.Test.YtjngofngjbjpbaaGreatDoorJa10
import Derived.Test.YtjngofngjbjpbaaGreatDoorJa12

section
set_option linter.unusedSimpArgs false
set_option linter.unusedVariables false
namespace Go.Proofs.YtjngofngjbjpbaaGreatDoor
open Go.RowKit

/-- the amount of a float, in the least ones -/
def fm (b : Nat) : Nat := if b / 4503599627370496 % 2048 = 0 then b % 4503599627370496 else (b % 4503599627370496 + 4503599627370496) * 2 ^ (b / 4503599627370496 % 2048 - 1)
/-- a float in the least ones -/
def fv (b : Nat) : Int := sg (decide (9223372036854775808 ≤ b)) (fm b)

theorem and_mant (b : Nat) (h : b < 18446744073709551616) : bits BinOp.and IntKind.u64 (b : Int) 4503599627370495 = ((b % 4503599627370496 : Nat) : Int) := by
  have e := bits_and_u64_nat b 4503599627370495 h (by decide)
  rw [show (4503599627370495 : Nat) = 2 ^ 52 - 1 from by decide, Nat.and_two_pow_sub_one_eq_mod] at e
  exact e
theorem and_expo (b : Nat) (h : b < 18446744073709551616) : bits BinOp.and IntKind.u64 (b : Int) 2047 = ((b % 2048 : Nat) : Int) := by
  have e := bits_and_u64_nat b 2047 h (by decide)
  rw [show (2047 : Nat) = 2 ^ 11 - 1 from by decide, Nat.and_two_pow_sub_one_eq_mod] at e
  exact e
theorem or_lead (m : Nat) (h : m < 4503599627370496) : bits BinOp.or IntKind.u64 (m : Int) 4503599627370496 = ((m + 4503599627370496 : Nat) : Int) := by
  have e := bits_or_u64_nat m 4503599627370496 (by omega) (by decide)
  have := Nat.two_pow_add_eq_or_of_lt (i := 52) (b := m) (by omega) 1
  rw [Nat.or_comm, show (4503599627370496 : Nat) = 2 ^ 52 * 1 from by decide, ← this] at e
  rw [show m + 4503599627370496 = 2 ^ 52 * 1 + m from by omega]
  exact e

set_option maxHeartbeats 2000000 in
theorem units_any {R : Ending → World → Prop} (b : Nat) (hb : b < 18446744073709551616) (w : World)
    (K : ∀ neg' A' m c' w', IsInt w' neg' A' m c' 40 (fv b) → Ext w w' → R (.returned (intV neg' A' m c')) w') :
    Calls Tryz.prog 100 #[.float .f64 b] w R := by
  have r98 := run98 b
  obtain ⟨m, hm⟩ : ∃ m, m = b % 4503599627370496 := ⟨_, rfl⟩
  obtain ⟨q, hq⟩ : ∃ q, q = b / 4503599627370496 := ⟨_, rfl⟩
  obtain ⟨r, hr⟩ : ∃ r, r = q % 2048 := ⟨_, rfl⟩
  have v1 := and_mant b hb
  rw [← hm] at v1
  have v2 : (b : Int) / 4503599627370496 = (q : Int) := by omega
  have v3 := and_expo q (by omega)
  rw [← hr] at v3
  have v4 : (b : Int) / 9223372036854775808 = ((b / 9223372036854775808 : Nat) : Int) := by omega
  obtain ⟨s, hs⟩ : ∃ s, s = b / 9223372036854775808 := ⟨_, rfl⟩
  rw [← hs] at v4
  have hs2 : decide (9223372036854775808 ≤ b) = decide (s = 1) := by congr 1; apply propext; omega
  have hml : m < 4503599627370496 := by omega
  have hrl : r < 2048 := by omega
  have hfm : fm b = if r = 0 then m else (m + 4503599627370496) * 2 ^ (r - 1) := by unfold fm; rw [← hq, ← hr, ← hm]
  have hql : q < 4096 := by omega
  have hfv : fv b = sg (decide (s = 1)) (if r = 0 then m else (m + 4503599627370496) * 2 ^ (r - 1)) := by unfold fv; rw [hs2, hfm]
  rw [hfv] at K
  clear hm hq hr hs hs2 hfm hfv
  have v5 := or_lead m hml
  have hfin : ∃ M ex : Nat, M < 9007199254740992 ∧ ex ≤ 2048 ∧ (if r = 0 then m else (m + 4503599627370496) * 2 ^ (r - 1)) = M * 2 ^ ex ∧
      ((r = 0 ∧ M = m ∧ ex = 0) ∨ (r = ex + 1 ∧ M = m + 4503599627370496)) := by
    by_cases c1 : r = 0
    · exact ⟨m, 0, by omega, by omega, by rw [if_pos c1]; simp, Or.inl ⟨c1, rfl, rfl⟩⟩
    · exact ⟨m + 4503599627370496, r - 1, by omega, by omega, by rw [if_neg c1], Or.inr ⟨by omega, rfl⟩⟩
  obtain ⟨M, ex, hM, hex, he, hcase⟩ := hfin
  rw [he] at K
  have hneg : s = 1 → sg (decide (s = 1)) (M * 2 ^ ex) = -((M : Int) * 2 ^ ex) := fun e => by rw [decide_eq_true e]; simp [sg]
  have hpos : s ≠ 1 → sg (decide (s = 1)) (M * 2 ^ ex) = (M : Int) * 2 ^ ex := fun e => by rw [decide_eq_false e]; simp [sg]
  generalize sg (decide (s = 1)) (M * 2 ^ ex) = Z at K hneg hpos
  have hz : IsInt w false none 0 0 0 0 := ⟨fun _ => 0, by omega, by omega, fun h => by omega, fun i h => by omega, by omega, by simp, rfl⟩
  rcases hcase with ⟨rfl, hMe, rfl⟩ | ⟨rfl, hMe⟩
  all_goals
    rw [← hMe] at v5
    clear he
  · subst hMe
    go_enter Tryz.func100, Tryz.ntmps100
    go_wp2_with fail
    have b0 := blk_1_1 w (.cells #[.bool false, .slice none 0 0] 112)
    have hx0 : Ext w (w.alloc (.cells #[.bool false, .slice none 0 0] 112)) := (Ext.rfl' w).alloc' _
    have hz0 : w.heap.size < (w.alloc (.cells #[.bool false, .slice none 0 0] 112)).heap.size := by simp
    generalize w.alloc (.cells #[.bool false, .slice none 0 0] 112) = W at b0 hx0 hz0 ⊢
    have hMW : M < W64 := by unfold W64; omega
    refine of_any M _ hMW ?_
    intro n1 A1 m1 c1 w1 hi1 hx1
    have b1 := (hx1.block _ hz0).trans b0
    have hz1 := hx1.size
    go_wp2_with fail
    refine lsh_any n1 A1 m1 c1 1 0 (M : Int) w1 (by omega) (by omega) hi1 ?_
    intro n2 A2 m2 c2 w2 hi2 hx2
    have b2 := (hx2.block _ (by omega)).trans b1
    have hz2 := hx2.size
    have hlt : w.heap.size < w2.heap.size := by omega
    have hxa := hx0.trans' (hx1.trans' hx2)
    by_cases hs1 : s = 1
    · subst hs1
      go_wp2_with fail
      have b3 : (w2.alloc (.cells #[.bool n2, .slice A2 m2 c2] 112)).heap[w.heap.size]? = some (.cells #[.bool false, .slice none 0 0] 112 (0, 0)) := (Below.heap_alloc _ _ _ hlt).trans b2
      have c3 := blk_1_1 w2 (.cells #[.bool n2, .slice A2 m2 c2] 112)
      have hx3 : Ext w2 (w2.alloc (.cells #[.bool n2, .slice A2 m2 c2] 112)) := (Ext.rfl' w2).alloc' _
      have hz3 : w2.heap.size < (w2.alloc (.cells #[.bool n2, .slice A2 m2 c2] 112)).heap.size := by simp
      have hi3 := hi2.ext hx3
      generalize w2.alloc (.cells #[.bool n2, .slice A2 m2 c2] 112) = w3 at b3 c3 hx3 hz3 hi3 ⊢
      refine neg_any n2 A2 m2 c2 (1 + 0 / 64 + 1) _ w3 (by omega) hi3 ?_
      intro n4 A4 m4 d4 w4 hi4 hx4
      have b4 := (hx4.block _ (by omega)).trans b3
      have c4 := (hx4.block _ hz3).trans c3
      have q1 : w4.cell? ⟨w2.heap.size, 0, none⟩ = some (.bool n2) := cell_of_blk c4 0
      have q2 : w4.cell? ⟨w2.heap.size, 1, none⟩ = some (.slice A2 m2 c2) := cell_of_blk c4 1
      have q3 := frozen_of_blk c4 0
      have q4 := frozen_of_blk c4 1
      have q5 : w4.cell? ⟨w.heap.size, 0, none⟩ = some (.bool false) := cell_of_blk b4 0
      have q6 : w4.cell? ⟨w.heap.size, 1, none⟩ = some (.slice none 0 0) := cell_of_blk b4 1
      have q7 := frozen_of_blk b4 0
      have q8 := frozen_of_blk b4 1
      have b5 : ((w4.setCell ⟨w2.heap.size, 0, none⟩ (.bool n4)).setCell ⟨w2.heap.size, 1, none⟩ (.slice A4 m4 d4)).heap[w.heap.size]? = some (.cells #[.bool false, .slice none 0 0] 112 (0, 0)) :=
        (Below.heap_setCell _ _ _ _ (by simp; omega)).trans ((Below.heap_setCell _ _ _ _ (by simp; omega)).trans b4)
      obtain ⟨hi', d0, d1⟩ := ret_int' b5 (hi4.stored w2.heap.size (tyAt_of_blk c4) _ _)
      have fin := K n4 A4 m4 d4 _ (by rw [hneg (by trivial)]; exact hi'.le (by omega)) (((hxa.trans' (hx3.trans' hx4)).stored w2.heap.size (by omega) _ _).stored w.heap.size (by omega) _ _)
      have hne : w.heap.size ≠ w2.heap.size := by omega
      have hne2 : w2.heap.size ≠ w.heap.size := by omega
      clear K hi' hi4 hi3 hi2 hi1 hx1 hx2 hx3 hx4 hxa b0 b1 b2 b3 b4 b5 c3 c4
      go_wp2
      exact bodyPost_ret (v := intV n4 A4 m4 d4) (by simp [results, Tryz.results100, go_sem, d0, d1]) rfl fin
    · have hs2 : ((s : Int) == 1) = false := by simp; omega
      obtain ⟨hi', d0, d1⟩ := ret_int' b2 hi2
      have d0 := (World.cell?_alloc_lt _ (.cells #[.bool n2, .slice A2 m2 c2] 112) ⟨w.heap.size, 0, none⟩ (by simp [World.setCell]; omega)).trans d0
      have d1 := (World.cell?_alloc_lt _ (.cells #[.bool n2, .slice A2 m2 c2] 112) ⟨w.heap.size, 1, none⟩ (by simp [World.setCell]; omega)).trans d1
      have q5 : w2.cell? ⟨w.heap.size, 0, none⟩ = some (.bool false) := cell_of_blk b2 0
      have q6 : w2.cell? ⟨w.heap.size, 1, none⟩ = some (.slice none 0 0) := cell_of_blk b2 1
      have q7 := frozen_of_blk b2 0
      have q8 := frozen_of_blk b2 1
      have fin := K n2 A2 m2 c2 _ (by rw [hpos hs1]; exact (hi'.le (by omega)).ext ((Ext.rfl' _).alloc' (.cells #[.bool n2, .slice A2 m2 c2] 112))) ((hxa.stored w.heap.size (by omega) _ _).alloc' _)
      clear K hi' hi2 hi1 hx1 hx2 hxa b0 b1 b2
      go_wp2
      exact bodyPost_ret (v := intV n2 A2 m2 c2) (by simp [results, Tryz.results100, go_sem, d0, d1]) rfl fin
  · clear hMe
    go_enter Tryz.func100, Tryz.ntmps100
    go_wp2_with fail
    have b0 := blk_1_1 w (.cells #[.bool false, .slice none 0 0] 112)
    have hx0 : Ext w (w.alloc (.cells #[.bool false, .slice none 0 0] 112)) := (Ext.rfl' w).alloc' _
    have hz0 : w.heap.size < (w.alloc (.cells #[.bool false, .slice none 0 0] 112)).heap.size := by simp
    generalize w.alloc (.cells #[.bool false, .slice none 0 0] 112) = W at b0 hx0 hz0 ⊢
    have hMW : M < W64 := by unfold W64; omega
    refine of_any M _ hMW ?_
    intro n1 A1 m1 c1 w1 hi1 hx1
    have b1 := (hx1.block _ hz0).trans b0
    have hz1 := hx1.size
    go_wp2_with fail
    refine lsh_any n1 A1 m1 c1 1 ex (M : Int) w1 (by omega) (by omega) hi1 ?_
    intro n2 A2 m2 c2 w2 hi2 hx2
    have b2 := (hx2.block _ (by omega)).trans b1
    have hz2 := hx2.size
    have hlt : w.heap.size < w2.heap.size := by omega
    have hxa := hx0.trans' (hx1.trans' hx2)
    by_cases hs1 : s = 1
    · subst hs1
      go_wp2_with fail
      have b3 : (w2.alloc (.cells #[.bool n2, .slice A2 m2 c2] 112)).heap[w.heap.size]? = some (.cells #[.bool false, .slice none 0 0] 112 (0, 0)) := (Below.heap_alloc _ _ _ hlt).trans b2
      have c3 := blk_1_1 w2 (.cells #[.bool n2, .slice A2 m2 c2] 112)
      have hx3 : Ext w2 (w2.alloc (.cells #[.bool n2, .slice A2 m2 c2] 112)) := (Ext.rfl' w2).alloc' _
      have hz3 : w2.heap.size < (w2.alloc (.cells #[.bool n2, .slice A2 m2 c2] 112)).heap.size := by simp
      have hi3 := hi2.ext hx3
      generalize w2.alloc (.cells #[.bool n2, .slice A2 m2 c2] 112) = w3 at b3 c3 hx3 hz3 hi3 ⊢
      refine neg_any n2 A2 m2 c2 (1 + ex / 64 + 1) _ w3 (by omega) hi3 ?_
      intro n4 A4 m4 d4 w4 hi4 hx4
      have b4 := (hx4.block _ (by omega)).trans b3
      have c4 := (hx4.block _ hz3).trans c3
      have q1 : w4.cell? ⟨w2.heap.size, 0, none⟩ = some (.bool n2) := cell_of_blk c4 0
      have q2 : w4.cell? ⟨w2.heap.size, 1, none⟩ = some (.slice A2 m2 c2) := cell_of_blk c4 1
      have q3 := frozen_of_blk c4 0
      have q4 := frozen_of_blk c4 1
      have q5 : w4.cell? ⟨w.heap.size, 0, none⟩ = some (.bool false) := cell_of_blk b4 0
      have q6 : w4.cell? ⟨w.heap.size, 1, none⟩ = some (.slice none 0 0) := cell_of_blk b4 1
      have q7 := frozen_of_blk b4 0
      have q8 := frozen_of_blk b4 1
      have b5 : ((w4.setCell ⟨w2.heap.size, 0, none⟩ (.bool n4)).setCell ⟨w2.heap.size, 1, none⟩ (.slice A4 m4 d4)).heap[w.heap.size]? = some (.cells #[.bool false, .slice none 0 0] 112 (0, 0)) :=
        (Below.heap_setCell _ _ _ _ (by simp; omega)).trans ((Below.heap_setCell _ _ _ _ (by simp; omega)).trans b4)
      obtain ⟨hi', d0, d1⟩ := ret_int' b5 (hi4.stored w2.heap.size (tyAt_of_blk c4) _ _)
      have fin := K n4 A4 m4 d4 _ (by rw [hneg (by trivial)]; exact hi'.le (by omega)) (((hxa.trans' (hx3.trans' hx4)).stored w2.heap.size (by omega) _ _).stored w.heap.size (by omega) _ _)
      have hne : w.heap.size ≠ w2.heap.size := by omega
      have hne2 : w2.heap.size ≠ w.heap.size := by omega
      clear K hi' hi4 hi3 hi2 hi1 hx1 hx2 hx3 hx4 hxa b0 b1 b2 b3 b4 b5 c3 c4
      go_wp2
      exact bodyPost_ret (v := intV n4 A4 m4 d4) (by simp [results, Tryz.results100, go_sem, d0, d1]) rfl fin
    · have hs2 : ((s : Int) == 1) = false := by simp; omega
      obtain ⟨hi', d0, d1⟩ := ret_int' b2 hi2
      have d0 := (World.cell?_alloc_lt _ (.cells #[.bool n2, .slice A2 m2 c2] 112) ⟨w.heap.size, 0, none⟩ (by simp [World.setCell]; omega)).trans d0
      have d1 := (World.cell?_alloc_lt _ (.cells #[.bool n2, .slice A2 m2 c2] 112) ⟨w.heap.size, 1, none⟩ (by simp [World.setCell]; omega)).trans d1
      have q5 : w2.cell? ⟨w.heap.size, 0, none⟩ = some (.bool false) := cell_of_blk b2 0
      have q6 : w2.cell? ⟨w.heap.size, 1, none⟩ = some (.slice none 0 0) := cell_of_blk b2 1
      have q7 := frozen_of_blk b2 0
      have q8 := frozen_of_blk b2 1
      have fin := K n2 A2 m2 c2 _ (by rw [hpos hs1]; exact (hi'.le (by omega)).ext ((Ext.rfl' _).alloc' (.cells #[.bool n2, .slice A2 m2 c2] 112))) ((hxa.stored w.heap.size (by omega) _ _).alloc' _)
      clear K hi' hi2 hi1 hx1 hx2 hxa b0 b1 b2
      go_wp2
      exact bodyPost_ret (v := intV n2 A2 m2 c2) (by simp [results, Tryz.results100, go_sem, d0, d1]) rfl fin
end Go.Proofs.YtjngofngjbjpbaaGreatDoor
end

section
set_option linter.unusedSimpArgs false
set_option linter.unusedVariables false
namespace Go.Proofs.YtjngofngjbjpbaaGreatDoor
open Go.RowKit

/-- a sum, as a number and marks -/
structure SumS where
  z : Int
  plus : Bool
  minus : Bool
  nan : Bool
  other : Bool
  count : Nat
def zeroS : SumS := ⟨0, false, false, false, false, 0⟩
def addS (s : SumS) (b : Nat) : SumS :=
  { z := if isFin b then s.z + fv b else s.z
    plus := s.plus || decide (b = 9218868437227405312)
    minus := s.minus || decide (b = 18442240474082181120)
    nan := s.nan || isNaNb b
    other := s.other || decide (b ≠ 9223372036854775808)
    count := (s.count + 1) % 18446744073709551616 }
def mergeS (s o : SumS) : SumS :=
  { z := s.z + o.z
    plus := s.plus || o.plus
    minus := s.minus || o.minus
    nan := s.nan || o.nan
    other := s.other || o.other
    count := (s.count + o.count) % 18446744073709551616 }

def sumCells (neg : Bool) (A : Option Addr) (n c : Nat) (s : SumS) : Array Value := #[.bool neg, .slice A n c, .bool s.plus, .bool s.minus, .bool s.nan, .bool s.other, v64 s.count]
/-- block g holds the sum s -/
def IsSum (w : World) (g k : Nat) (s : SumS) : Prop :=
  ∃ neg A n c, w.heap[g]? = some (.cells (sumCells neg A n c s) 114 (0, 0)) ∧ IsInt w neg A n c k s.z ∧ s.count < 18446744073709551616
theorem IsInt.grown {w w' : World} {neg : Bool} {A : Option Addr} {n c k : Nat} {z : Int} (h : IsInt w neg A n c k z) {g : Option Nat} (hg : w.grownBy w' g) (ht : ∀ b, g = some b → tyAt w b ≠ some 29) : IsInt w' neg A n c k z := by
  obtain ⟨f, h2, h3, h4, h5⟩ := h.ex
  refine ⟨f, h2, h3, fun h0 => ?_, h5⟩
  obtain ⟨b, c, hA, hb, hc⟩ := h4 h0
  refine ⟨b, c, hA, ?_, hc⟩
  rw [hg.block b (Array.getElem?_eq_some_iff.1 hb).1 (fun e => ht b e.symm (tyAt_of_blk hb))]
  exact hb
theorem IsSum.lt {w : World} {g k : Nat} {s : SumS} (h : IsSum w g k s) : g < w.heap.size := by
  obtain ⟨_, _, _, _, h1, _⟩ := h
  exact (Array.getElem?_eq_some_iff.1 h1).1
theorem IsSum.ty {w : World} {g k : Nat} {s : SumS} (h : IsSum w g k s) : tyAt w g = some 114 := by
  obtain ⟨_, _, _, _, h1, _⟩ := h
  exact tyAt_of_blk h1
theorem IsSum.ext {w w' : World} {g k : Nat} {s : SumS} (h : IsSum w g k s) (hx : Ext w w') : IsSum w' g k s := by
  obtain ⟨neg, A, n, c, h1, h2, h3⟩ := h
  exact ⟨neg, A, n, c, (hx.block _ (Array.getElem?_eq_some_iff.1 h1).1).trans h1, h2.ext hx, h3⟩
theorem IsSum.le {w : World} {g k k' : Nat} {s : SumS} (h : IsSum w g k s) (hk : k ≤ k') : IsSum w g k' s := by
  obtain ⟨neg, A, n, c, h1, h2, h3⟩ := h
  exact ⟨neg, A, n, c, h1, h2.le hk, h3⟩
theorem IsSum.grown {w w' : World} {g k : Nat} {s : SumS} (h : IsSum w g k s) {g' : Nat} (hg : w.grownBy w' (some g')) (hne : g ≠ g') (ht : tyAt w g' = some 114) : IsSum w' g k s := by
  obtain ⟨neg, A, n, c, h1, h2, h3⟩ := h
  exact ⟨neg, A, n, c, (hg.block _ (Array.getElem?_eq_some_iff.1 h1).1 (by simpa using hne)).trans h1, h2.grown hg (by rintro b ⟨⟩; rw [ht]; decide), h3⟩
theorem Ext.isGrown {w w' : World} (h : Ext w w') (g : Option Nat) : w.grownBy w' g := ⟨h.os, h.tape, h.output, h.size, fun k hk _ => h.block k hk⟩
/-- fewer words where the number is small -/
theorem IsInt.tight {w : World} {neg : Bool} {A : Option Addr} {n c k k' : Nat} {z : Int} (h : IsInt w neg A n c k z) (hz : z.natAbs < 2 ^ (64 * k')) : IsInt w neg A n c k' z := by
  obtain ⟨f, h1, h2, h3, h4, h5, h6, h7⟩ := h.ex
  refine ⟨f, h1, ?_, h3, h4, h5, h6, h7⟩
  rcases Nat.eq_zero_or_pos n with h0 | h0
  · omega
  · have hg := valB_ge (B := W64) h0 (h5 h0)
    rw [h7, sg_natAbs, Nat.pow_mul, ← W64_eq] at hz
    have : W64 ^ (n - 1) < W64 ^ k' := Nat.lt_of_le_of_lt hg hz
    have := (Nat.pow_lt_pow_iff_right (show 1 < W64 by decide)).1 this
    omega

theorem newS_any {R : Ending → World → Prop} (w : World) (K : ∀ w', IsSum w' w.heap.size 0 zeroS → Ext w w' → R (.returned (.pointer (some ⟨w.heap.size, 0, none⟩))) w') :
    Calls Tryz.prog 31 #[] w R := by
  have fin := K (w.alloc (.cells (sumCells false none 0 0 zeroS) 114)) ⟨false, none, 0, 0, blk_1_1 w _, ⟨fun _ => 0, by omega, by omega, fun h => by omega, fun i h => by omega, by omega, by simp, rfl⟩, by decide⟩ ((Ext.rfl' w).alloc' _)
  clear K
  go_enter Tryz.func31, Tryz.ntmps31
  go_wp2
  exact fin
end Go.Proofs.YtjngofngjbjpbaaGreatDoor
end

section
set_option linter.unusedSimpArgs false
set_option linter.unusedVariables false
namespace Go.Proofs.YtjngofngjbjpbaaGreatDoor
open Go.RowKit

theorem grown_set {w0 w : World} {g : Nat} (h : w0.grownBy w (some g)) (i : Nat) (v : Value) : w0.grownBy (w.setCell ⟨g, i, none⟩ v) (some g) :=
  World.grownBy.trans h ⟨rfl, rfl, rfl, by simp [World.setCell], fun j hj hne => Below.heap_setCell _ _ _ _ (fun e => hne (by rw [e]))⟩
theorem IsInt.setC {w : World} {neg : Bool} {A : Option Addr} {n c k : Nat} {z : Int} (h : IsInt w neg A n c k z) {g : Nat} (ht : tyAt w g = some 114) (i : Nat) (v : Value) : IsInt (w.setCell ⟨g, i, none⟩ v) neg A n c k z :=
  h.setCell (a := ⟨g, i, none⟩) (by rw [show (⟨g, i, none⟩ : Addr).block = g from rfl, ht]; decide) v

/-- a sum whose count and mark were set -/
theorem isSum_co {w : World} {g k : Nat} {neg : Bool} {A : Option Addr} {n c : Nat} {s : SumS} (h1 : w.heap[g]? = some (.cells (sumCells neg A n c s) 114 (0, 0))) (h2 : IsInt w neg A n c k s.z) (cnt : Nat) (o : Bool) :
    ((w.setCell ⟨g, 6, none⟩ (v64 cnt)).setCell ⟨g, 5, none⟩ (.bool o)).heap[g]? = some (.cells (sumCells neg A n c { s with count := cnt, other := o }) 114 (0, 0)) ∧
      IsInt ((w.setCell ⟨g, 6, none⟩ (v64 cnt)).setCell ⟨g, 5, none⟩ (.bool o)) neg A n c k s.z :=
  ⟨blk_setCell (blk_setCell h1 6 _) 5 _, (h2.setC (tyAt_of_blk h1) 6 _).setC (by rw [tyAt_setCell]; exact tyAt_of_blk h1) 5 _⟩

theorem cells2_mono {g : Nat} {p q : Value} {W W' : World} (hx : Ext W W') (h : g < W.heap.size ∧ W.cell? ⟨g, 0, none⟩ = some p ∧ W.cell? ⟨g, 1, none⟩ = some q) :
    g < W'.heap.size ∧ W'.cell? ⟨g, 0, none⟩ = some p ∧ W'.cell? ⟨g, 1, none⟩ = some q := by
  obtain ⟨h0, h1, h2⟩ := h
  exact ⟨Nat.lt_of_lt_of_le h0 hx.size, (hx.cell (p := ⟨g, 0, none⟩) h0).trans h1, (hx.cell (p := ⟨g, 1, none⟩) h0).trans h2⟩
theorem addS_nan {s : SumS} {b : Nat} (h : isNaNb b = true) : addS s b = { s with nan := true, other := s.other || decide (b ≠ 9223372036854775808), count := (s.count + 1) % 18446744073709551616 } := by
  unfold isNaNb at h
  have h' := of_decide_eq_true h
  have e1 : isFin b = false := by unfold isFin; rw [decide_eq_false (by omega)]
  have e2 : decide (b = 9218868437227405312) = false := decide_eq_false (by omega)
  have e3 : decide (b = 18442240474082181120) = false := decide_eq_false (by omega)
  have e4 : isNaNb b = true := by unfold isNaNb; exact h
  unfold addS
  rw [e1, e2, e3, e4]
  simp
theorem addS_pinf {s : SumS} {b : Nat} (h : b = 9218868437227405312) : addS s b = { s with plus := true, other := s.other || decide (b ≠ 9223372036854775808), count := (s.count + 1) % 18446744073709551616 } := by
  subst h
  have e1 : isFin 9218868437227405312 = false := by decide
  have e3 : decide ((9218868437227405312 : Nat) = 18442240474082181120) = false := by decide
  have e4 : isNaNb 9218868437227405312 = false := by decide
  unfold addS
  rw [e1, e3, e4]
  simp
theorem addS_minf {s : SumS} {b : Nat} (h : b = 18442240474082181120) : addS s b = { s with minus := true, other := s.other || decide (b ≠ 9223372036854775808), count := (s.count + 1) % 18446744073709551616 } := by
  subst h
  have e1 : isFin 18442240474082181120 = false := by decide
  have e3 : decide ((18442240474082181120 : Nat) = 9218868437227405312) = false := by decide
  have e4 : isNaNb 18442240474082181120 = false := by decide
  unfold addS
  rw [e1, e3, e4]
  simp
theorem addS_fin {s : SumS} {b : Nat} (hb : b < 18446744073709551616) (h1 : isNaNb b = false) (h2 : b ≠ 9218868437227405312) (h3 : b ≠ 18442240474082181120) :
    isFin b = true ∧ addS s b = { s with z := s.z + fv b, other := s.other || decide (b ≠ 9223372036854775808), count := (s.count + 1) % 18446744073709551616 } := by
  have e1 : isFin b = true := by
    unfold isNaNb at h1
    have h' := of_decide_eq_false h1
    unfold isFin; rw [decide_eq_true (by omega)]
  refine ⟨e1, ?_⟩
  unfold addS
  rw [e1, h1, decide_eq_false h2, decide_eq_false h3]
  simp

set_option maxHeartbeats 2000000 in
theorem addS_any {R : Ending → World → Prop} (g k : Nat) (s : SumS) (b : Nat) (w : World) (hb : b < 18446744073709551616) (hk : k ≤ 1099511627775) (h : IsSum w g k s)
    (K : ∀ w', IsSum w' g (max k 40 + 1) (addS s b) → w.grownBy w' (some g) → R (.returned (.int .i64 0)) w') :
    Calls Tryz.prog 33 #[.pointer (some ⟨g, 0, none⟩), .float .f64 b] w R := by
  obtain ⟨neg, A, n, c, h1, h2, h3⟩ := h
  obtain ⟨z, pl, mi, na, ot, cnt⟩ := s
  simp only at h2 h3
  have r98 := run98 b
  have ho : (FloatKind.f64.format.order b b != some .eq) = isNaNb b := order_nan_self b
  obtain ⟨C, hC⟩ : ∃ C, C = (cnt + 1) % 18446744073709551616 := ⟨_, rfl⟩
  have hC1 : ((cnt : Int) + 1) % 18446744073709551616 = (C : Int) := by omega
  have hC2 : IntKind.u64.wrap ((cnt : Int) + 1) = (C : Int) := by rw [IntKind.wrap_u64]; exact hC1
  have hCl : C < 18446744073709551616 := by omega
  have q0 : w.cell? ⟨g, 0, none⟩ = some (.bool neg) := cell_of_blk h1 0
  have q1 : w.cell? ⟨g, 1, none⟩ = some (.slice A n c) := cell_of_blk h1 1
  have q2 : w.cell? ⟨g, 2, none⟩ = some (.bool pl) := cell_of_blk h1 2
  have q3 : w.cell? ⟨g, 3, none⟩ = some (.bool mi) := cell_of_blk h1 3
  have q4 : w.cell? ⟨g, 4, none⟩ = some (.bool na) := cell_of_blk h1 4
  have q5 : w.cell? ⟨g, 5, none⟩ = some (.bool ot) := cell_of_blk h1 5
  have q6 : w.cell? ⟨g, 6, none⟩ = some (v64 cnt) := cell_of_blk h1 6
  have z0 := fun i => frozen_of_blk h1 i
  obtain ⟨d, hd⟩ : ∃ d, d = decide (b ≠ 9223372036854775808) := ⟨_, rfl⟩
  have hne : ((b : Int) != 9223372036854775808) = d := by
    rw [hd]
    by_cases e : b = 9223372036854775808
    · subst e; rfl
    · simp [e]; omega
  have hS := isSum_co h1 h2 C (ot || d)
  have hG := grown_set (grown_set (World.grownBy.refl w (some g)) 6 (v64 C)) 5 (.bool (ot || d))
  have hp : ∀ W, Calls Tryz.prog 99 #[.float .f64 b, .int .i64 1] W fun e w' => e = .returned (.bool (decide (b = 9218868437227405312))) ∧ w' = W := fun W => isInf_pos b hb W ⟨rfl, rfl⟩
  have hm : ∀ W, Calls Tryz.prog 99 #[.float .f64 b, .int .i64 (-1)] W fun e w' => e = .returned (.bool (decide (b = 18442240474082181120))) ∧ w' = W := fun W => isInf_neg b hb W ⟨rfl, rfl⟩
  by_cases c1 : isNaNb b = true
  · rw [addS_nan c1, ← hC, ← hd] at K
    have fin := K _ ⟨neg, A, n, c, blk_setCell hS.1 4 (.bool true), (hS.2.le (k' := max k 40 + 1) (by omega)).setC (tyAt_of_blk hS.1) 4 _, hCl⟩ (grown_set hG 4 (.bool true))
    rw [c1] at ho
    clear K hS hG hp hm hC hd
    cases ot
    all_goals
      go_enter Tryz.func33, Tryz.ntmps33
      go_wp2
      exact fin
  · have c1 : isNaNb b = false := by simpa using c1
    rw [c1] at ho
    by_cases c2 : b = 9218868437227405312
    · rw [addS_pinf c2, ← hC, ← hd] at K
      rw [decide_eq_true c2] at hp
      have fin := K _ ⟨neg, A, n, c, blk_setCell hS.1 2 (.bool true), (hS.2.le (k' := max k 40 + 1) (by omega)).setC (tyAt_of_blk hS.1) 2 _, hCl⟩ (grown_set hG 2 (.bool true))
      clear K hS hG hm hC hd c2
      cases ot
      all_goals
        go_enter Tryz.func33, Tryz.ntmps33
        go_wp2_with (go_at_call 99; with_reducible refine (hp _).mono ?_; rintro e w2 ⟨rfl, rfl⟩)
        exact fin
    · rw [decide_eq_false c2] at hp
      by_cases c3 : b = 18442240474082181120
      · rw [addS_minf c3, ← hC, ← hd] at K
        rw [decide_eq_true c3] at hm
        have fin := K _ ⟨neg, A, n, c, blk_setCell hS.1 3 (.bool true), (hS.2.le (k' := max k 40 + 1) (by omega)).setC (tyAt_of_blk hS.1) 3 _, hCl⟩ (grown_set hG 3 (.bool true))
        clear K hS hG hC hd c3 c2
        cases ot
        all_goals
          go_enter Tryz.func33, Tryz.ntmps33
          go_wp2_with (first | (go_at_call 99; with_reducible refine (hp _).mono ?_; rintro e w2 ⟨rfl, rfl⟩) | (go_at_call 99; with_reducible refine (hm _).mono ?_; rintro e w2 ⟨rfl, rfl⟩))
          exact fin
      · rw [decide_eq_false c3] at hm
        obtain ⟨hf, ha⟩ := addS_fin (s := ⟨z, pl, mi, na, ot, cnt⟩) hb c1 c2 c3
        rw [ha, ← hC, ← hd] at K
        have K' : ∀ (neg' : Bool) (A' : Option Addr) (n' c' : Nat) (w' : World), w'.heap[g]? = some (.cells (sumCells neg' A' n' c' ⟨z + fv b, pl, mi, na, ot || d, C⟩) 114 (0, 0)) → IsInt w' neg' A' n' c' (max k 40 + 1) (z + fv b) → w.grownBy w' (some g) → R (.returned (.int .i64 0)) w' :=
          fun neg' A' n' c' w' i1 i2 i3 => K w' ⟨neg', A', n', c', i1, i2, hCl⟩ i3
        clear K ha hf hC hd c2 c3
        cases ot
        all_goals
          go_enter Tryz.func33, Tryz.ntmps33
          go_wp2_with (first | (go_at_call 99; with_reducible refine (hp _).mono ?_; rintro e w2 ⟨rfl, rfl⟩) | (go_at_call 99; with_reducible refine (hm _).mono ?_; rintro e w2 ⟨rfl, rfl⟩))
          simp only [Bool.false_or, Bool.true_or] at hS hG K'
          generalize (w.setCell ⟨g, 6, none⟩ (v64 C)).setCell ⟨g, 5, none⟩ _ = W at hS hG ⊢
          obtain ⟨g0, g1⟩ := hS
          have hgl : g < W.heap.size := (Array.getElem?_eq_some_iff.1 g0).1
          have hS0 : g < W.heap.size ∧ W.cell? ⟨g, 0, none⟩ = some (.bool neg) ∧ W.cell? ⟨g, 1, none⟩ = some (.slice A n c) := ⟨hgl, cell_of_blk g0 0, cell_of_blk g0 1⟩
          clear q0 q1 q2 q3 q4 q5 q6 z0 h1 h2
          obtain ⟨_, e0, e1⟩ := hS0
          go_region_with
            (first | (go_at_call 100; refine units_any b hb _ ?_; intro n1 A1 m1 c1 w2 hi2 hx2; have hx2 := hx2.undrew; have f0 := (hx2.cell (p := ⟨g, 0, none⟩) hgl).trans e0; have f1 := (hx2.cell (p := ⟨g, 1, none⟩) hgl).trans e1)
                   | (go_at_call 72; refine add_any neg n1 A A1 n c k m1 c1 40 z (fv b) w2 (by omega) (by omega) (g1.ext hx2) hi2 ?_; intro n2 A2 m2 c2 w3 hi3 hx3;
                      have hb3 := (hx3.block _ (Nat.lt_of_lt_of_le hgl hx2.size)).trans ((hx2.block _ hgl).trans g0);
                      have t0 : w3.cell? ⟨g, 0, none⟩ = some (.bool neg) := cell_of_blk hb3 0; have t1 : w3.cell? ⟨g, 1, none⟩ = some (.slice A n c) := cell_of_blk hb3 1;
                      have t2 := frozen_of_blk hb3 0; have t3 := frozen_of_blk hb3 1))
          all_goals
            have fin := K' n2 A2 m2 c2 _ (blk_setCell (blk_setCell hb3 0 (.bool n2)) 1 (.slice A2 m2 c2)) ((hi3.setC (tyAt_of_blk hb3) 0 _).setC (by rw [tyAt_setCell]; exact tyAt_of_blk hb3) 1 _)
              (grown_set (grown_set (World.grownBy.trans hG (Ext.isGrown (hx2.trans' hx3) (some g))) 0 _) 1 _)
            clear K' hi3 hi2 hx2 hx3 hG g1 g0
            go_wp2
            exact fin
end Go.Proofs.YtjngofngjbjpbaaGreatDoor
end
