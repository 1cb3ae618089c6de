/- abacusref09: Add. abacusref09: rounded. abacusref09: rounded. -/
import Derived.Test.YtjngofngjbjpbaaGreatDoorJa22
import Derived.Test.YtjngofngjbjpbaaGreatDoorJa13
import Derived.Deep.CutRange

section
set_option linter.unusedSimpArgs false
set_option linter.unusedVariables false
namespace Go.Proofs.YtjngofngjbjpbaaGreatDoor
open Go.RowKit

/-- a sum as the book has it, cell by cell -/
abbrev refCells (A : Option Addr) (n c : Nat) (s : SumS) : Array Value := #[.bool (decide (s.z < 0)), .slice A n c, .bool s.plus, .bool s.minus, .bool s.nan, .bool s.other, v64 s.count]
abbrev refV (A : Option Addr) (n c : Nat) (s : SumS) : Value := .agg (refCells A n c s)
abbrev zero7 : Array Value := #[.bool false, .slice none 0 0, .bool false, .bool false, .bool false, .bool false, .int .u64 0]

theorem IsBits.setCell {w : World} {A : Option Addr} {n c m : Nat} (h : IsBits w A n c m) {a : Addr} (ha : tyAt w a.block = some 31) (v : Value) : IsBits (w.setCell a v) A n c m :=
  ⟨h.len, h.cap, h.row.setCell (by rw [ha]; decide) v⟩
def set7 (w : World) (b : Nat) (v0 v1 v2 v3 v4 v5 v6 : Value) : World :=
  ((((((w.setCell ⟨b, 0, none⟩ v0).setCell ⟨b, 1, none⟩ v1).setCell ⟨b, 2, none⟩ v2).setCell ⟨b, 3, none⟩ v3).setCell ⟨b, 4, none⟩ v4).setCell ⟨b, 5, none⟩ v5).setCell ⟨b, 6, none⟩ v6
theorem tyAt_set7 (w : World) (b : Nat) (v0 v1 v2 v3 v4 v5 v6 : Value) (b' : Nat) : tyAt (set7 w b v0 v1 v2 v3 v4 v5 v6) b' = tyAt w b' := by unfold set7; simp only [tyAt_setCell]
set_option maxHeartbeats 2000000 in
/-- a sum stored as a call's result, read again -/
theorem ret7 {w1 : World} {b : Nat} {p0 p1 p2 p3 p4 p5 p6 : Value} (h1 : w1.heap[b]? = some (.cells #[p0, p1, p2, p3, p4, p5, p6] 31 (0, 0))) (v0 v1 v2 v3 v4 v5 v6 : Value) :
    (set7 w1 b v0 v1 v2 v3 v4 v5 v6).heap[b]? = some (.cells #[v0, v1, v2, v3, v4, v5, v6] 31 (0, 0)) ∧
    (∀ A n c m, IsBits w1 A n c m → IsBits (set7 w1 b v0 v1 v2 v3 v4 v5 v6) A n c m) ∧
    (∀ W, Ext W w1 → W.heap.size ≤ b → Ext W (set7 w1 b v0 v1 v2 v3 v4 v5 v6)) ∧
    (∀ k, k ≠ b → (set7 w1 b v0 v1 v2 v3 v4 v5 v6).heap[k]? = w1.heap[k]?) ∧ (set7 w1 b v0 v1 v2 v3 v4 v5 v6).heap.size = w1.heap.size := by
  refine ⟨?_, ?_, ?_, ?_, ?_⟩
  · have e0 : (set7 w1 b v0 v1 v2 v3 v4 v5 v6).heap[b]? = _ := blk_setCell (blk_setCell (blk_setCell (blk_setCell (blk_setCell (blk_setCell (blk_setCell h1 0 v0) 1 v1) 2 v2) 3 v3) 4 v4) 5 v5) 6 v6
    rw [e0]
    simp
  · intro A n c m h
    have ht := tyAt_of_blk h1
    unfold set7
    refine IsBits.setCell (IsBits.setCell (IsBits.setCell (IsBits.setCell (IsBits.setCell (IsBits.setCell (IsBits.setCell h ?_ _) ?_ _) ?_ _) ?_ _) ?_ _) ?_ _) ?_ _
    all_goals simp only [tyAt_setCell]; exact ht
  · intro W hx hb
    unfold set7
    exact ((((((hx.setCell (p := ⟨b, 0, none⟩) hb _).setCell (p := ⟨b, 1, none⟩) hb _).setCell (p := ⟨b, 2, none⟩) hb _).setCell (p := ⟨b, 3, none⟩) hb _).setCell (p := ⟨b, 4, none⟩) hb _).setCell (p := ⟨b, 5, none⟩) hb _).setCell (p := ⟨b, 6, none⟩) hb _
  · intro k hk
    unfold set7
    simp only [World.setCell, Array.getElem?_modify, Ne.symm hk, if_false]
  · unfold set7; simp [World.setCell]

set_option maxHeartbeats 4000000 in
set_option maxRecDepth 100000 in
theorem addR_any {R : Ending → World → Prop} (A : Option Addr) (n c : Nat) (s : SumS) (b : Nat) (w : World) (hb : b < 18446744073709551616) (hn : n ≤ 1099511627776) (h : BitsZ w A n c s.z) (hs : s.count < 18446744073709551616)
    (K : ∀ A' n' c' w', BitsZ w' A' n' c' (addS s b).z → Ext w w' → R (.returned (refV A' n' c' (addS s b))) w') :
    Calls Tryz.prog 71 #[refV A n c s, .float .f64 b] w R := by
  obtain ⟨z, pl, mi, na, ot, cnt⟩ := s
  simp only at h hs
  have r98 := run98 b
  have ho : (FloatKind.f64.format.order b b != some .eq) = isNaNb b := order_nan_self b
  obtain ⟨C, hC⟩ : ∃ C, C = (cnt + 1) % 18446744073709551616 := ⟨_, rfl⟩
  have hC1 : ((cnt : Int) + 1) % 18446744073709551616 = (C : Int) := by omega
  have hC2 : IntKind.u64.wrap ((cnt : Int) + 1) = (C : Int) := by rw [IntKind.wrap_u64]; exact hC1
  obtain ⟨d, hd⟩ : ∃ d, d = decide (b ≠ 9223372036854775808) := ⟨_, rfl⟩
  have hne : ((b : Int) != 9223372036854775808) = d := by
    rw [hd]
    by_cases e : b = 9223372036854775808
    · subst e; rfl
    · simp [e]; omega
  obtain ⟨ng, hng⟩ : ∃ ng, ng = decide (z < 0) := ⟨_, rfl⟩
  have hp : ∀ W, Calls Tryz.prog 99 #[.float .f64 b, .int .i64 1] W fun e w' => e = .returned (.bool (decide (b = 9218868437227405312))) ∧ w' = W := fun W => isInf_pos b hb W ⟨rfl, rfl⟩
  have hm : ∀ W, Calls Tryz.prog 99 #[.float .f64 b, .int .i64 (-1)] W fun e w' => e = .returned (.bool (decide (b = 18442240474082181120))) ∧ w' = W := fun W => isInf_neg b hb W ⟨rfl, rfl⟩
  simp only [refV, refCells, ← hng]
  by_cases c1 : isNaNb b = true
  · rw [addS_nan c1, ← hC, ← hd] at K
    simp only [refV, refCells, ← hng] at K
    rw [c1] at ho
    have fin := K A n c
    clear K hp hm hC hd hng
    go_enter Tryz.func71, Tryz.ntmps71
    cases ot
    all_goals
      go_wp2
      exact bodyPost_ret (v := .agg _) (by simp [results, Tryz.results71, go_sem]) rfl (fin _ (h.ext (((Ext.rfl' w).alloc' _).alloc' _)) (((Ext.rfl' w).alloc' _).alloc' _))
  · have c1 : isNaNb b = false := by simpa using c1
    rw [c1] at ho
    by_cases c2 : b = 9218868437227405312
    · rw [addS_pinf c2, ← hC, ← hd] at K
      simp only [refV, refCells, ← hng] at K
      rw [decide_eq_true c2] at hp
      have fin := K A n c
      clear K hm hC hd hng c2
      go_enter Tryz.func71, Tryz.ntmps71
      cases ot
      all_goals
        go_wp2_with (go_at_call 99; with_reducible refine (hp _).mono ?_; rintro e w2 ⟨rfl, rfl⟩)
        exact bodyPost_ret (v := .agg _) (by simp [results, Tryz.results71, go_sem]) rfl (fin _ (h.ext (((Ext.rfl' w).alloc' _).alloc' _)) (((Ext.rfl' w).alloc' _).alloc' _))
    · rw [decide_eq_false c2] at hp
      by_cases c3 : b = 18442240474082181120
      · rw [addS_minf c3, ← hC, ← hd] at K
        simp only [refV, refCells, ← hng] at K
        rw [decide_eq_true c3] at hm
        have fin := K A n c
        clear K hC hd hng c3 c2
        go_enter Tryz.func71, Tryz.ntmps71
        cases ot
        all_goals
          go_wp2_with (first | (go_at_call 99; with_reducible refine (hp _).mono ?_; rintro e w2 ⟨rfl, rfl⟩) | (go_at_call 99; with_reducible refine (hm _).mono ?_; rintro e w2 ⟨rfl, rfl⟩))
          exact bodyPost_ret (v := .agg _) (by simp [results, Tryz.results71, go_sem]) rfl (fin _ (h.ext (((Ext.rfl' w).alloc' _).alloc' _)) (((Ext.rfl' w).alloc' _).alloc' _))
      · rw [decide_eq_false c3] at hm
        obtain ⟨hf, ha⟩ := addS_fin (s := ⟨z, pl, mi, na, ot, cnt⟩) hb c1 c2 c3
        rw [ha, ← hC, ← hd] at K
        simp only [refV, refCells] at K
        subst hng
        clear ha hf hC hd c2 c3
        go_enter Tryz.func71, Tryz.ntmps71
        cases ot
        case false =>
          simp only [Bool.false_or] at K
          go_wp2_with (first | (go_at_call 99; with_reducible refine (hp _).mono ?_; rintro e w2 ⟨rfl, rfl⟩) | (go_at_call 99; with_reducible refine (hm _).mono ?_; rintro e w2 ⟨rfl, rfl⟩))
          refine finite_bits b hb _ ?_
          intro A1 n1 c1 w2 h2 hn1 hx2
          have hsz : w.heap.size + 2 ≤ w2.heap.size := by have := hx2.size; simp at this; omega
          have g0 := (hx2.block w.heap.size (by simp; omega)).trans (blk_1_2 w _ _)
          have g1 := (hx2.block (w.heap.size + 1) (by simp)).trans (blk_2_2 w _ _)
          have hxw : Ext w w2 := (((Ext.rfl' w).alloc' _).alloc' _).trans' hx2
          have q0 : w2.cell? ⟨w.heap.size, 0, none⟩ = some (.bool (decide (z < 0))) := cell_of_blk g0 0
          have q1 : w2.cell? ⟨w.heap.size, 1, none⟩ = some (.slice A n c) := cell_of_blk g0 1
          go_wp2_with fail
          refine signed_any A A1 n n1 c c1 z (fv b) w2 hn (by omega) (h.ext hxw) h2 ?_
          intro A2 n2 c2 w3 h3 hx3
          have g0' := (hx3.block _ (by omega)).trans g0
          have g1' := (hx3.block _ (by omega)).trans g1
          have hx3' : Ext w w3 := hxw.trans' hx3
          have hs3 := hx3.size
          have e0 := blk_setCell (blk_setCell g0' 0 (.bool (decide (z + fv b < 0)))) 1 (.slice A2 n2 c2)
          have e1 : ((w3.setCell ⟨w.heap.size, 0, none⟩ (.bool (decide (z + fv b < 0)))).setCell ⟨w.heap.size, 1, none⟩ (.slice A2 n2 c2)).heap[w.heap.size + 1]? = _ := (Below.heap_setCell _ _ _ _ (by simp)).trans ((Below.heap_setCell _ _ _ _ (by simp)).trans g1')
          have h3' := (h3.setCell (a := ⟨w.heap.size, 0, none⟩) (tyAt_of_blk g0') (.bool (decide (z + fv b < 0)))).setCell (a := ⟨w.heap.size, 1, none⟩) (by rw [tyAt_setCell]; exact tyAt_of_blk g0') (.slice A2 n2 c2)
          have hx4 : Ext w ((w3.setCell ⟨w.heap.size, 0, none⟩ (.bool (decide (z + fv b < 0)))).setCell ⟨w.heap.size, 1, none⟩ (.slice A2 n2 c2)) := (hx3'.setCell (p := ⟨w.heap.size, 0, none⟩) (Nat.le_refl _) _).setCell (p := ⟨w.heap.size, 1, none⟩) (Nat.le_refl _) _
          have y0 := fun i => frozen_of_blk g0' i
          have y1 := fun i => frozen_of_blk g1' i
          have u0 : w3.cell? ⟨w.heap.size, 0, none⟩ = some (.bool (decide (z < 0))) := cell_of_blk g0' 0
          have u1 : w3.cell? ⟨w.heap.size, 1, none⟩ = some (.slice A n c) := cell_of_blk g0' 1
          have u2 : w3.cell? ⟨w.heap.size, 2, none⟩ = some (.bool pl) := cell_of_blk g0' 2
          have u3 : w3.cell? ⟨w.heap.size, 3, none⟩ = some (.bool mi) := cell_of_blk g0' 3
          have u4 : w3.cell? ⟨w.heap.size, 4, none⟩ = some (.bool na) := cell_of_blk g0' 4
          have u5 : w3.cell? ⟨w.heap.size, 5, none⟩ = some (.bool d) := cell_of_blk g0' 5
          have u6 : w3.cell? ⟨w.heap.size, 6, none⟩ = some (v64 C) := cell_of_blk g0' 6
          have t0 : w3.cell? ⟨w.heap.size + 1, 0, none⟩ = some (.bool false) := cell_of_blk g1' 0
          have t1 : w3.cell? ⟨w.heap.size + 1, 1, none⟩ = some (.slice none 0 0) := cell_of_blk g1' 1
          have t2 : w3.cell? ⟨w.heap.size + 1, 2, none⟩ = some (.bool false) := cell_of_blk g1' 2
          have t3 : w3.cell? ⟨w.heap.size + 1, 3, none⟩ = some (.bool false) := cell_of_blk g1' 3
          have t4 : w3.cell? ⟨w.heap.size + 1, 4, none⟩ = some (.bool false) := cell_of_blk g1' 4
          have t5 : w3.cell? ⟨w.heap.size + 1, 5, none⟩ = some (.bool false) := cell_of_blk g1' 5
          have t6 : w3.cell? ⟨w.heap.size + 1, 6, none⟩ = some (.int .u64 0) := cell_of_blk g1' 6
          obtain ⟨k0, k1, k2, _, _⟩ := ret7 e1 (.bool (decide (z + fv b < 0))) (.slice A2 n2 c2) (.bool pl) (.bool mi) (.bool na) (.bool d) (v64 C)
          unfold set7 at k0 k1 k2
          have fin := K A2 n2 c2 _ (k1 _ _ _ _ h3') (k2 w hx4 (by omega))
          have d0 := cell_of_blk k0 0
          have d1 := cell_of_blk k0 1
          have d2 := cell_of_blk k0 2
          have d3 := cell_of_blk k0 3
          have d4 := cell_of_blk k0 4
          have d5 := cell_of_blk k0 5
          have d6 := cell_of_blk k0 6
          clear K k0 k1 k2 h3' hx4 e0 e1 g0 g1 g0' g1' h2 h3 hx2 hx3 hx3' hxw q0 q1 h hp hm
          go_wp2
          exact bodyPost_ret (v := .agg _) (by simp [results, Tryz.results71, go_sem, d0, d1, d2, d3, d4, d5, d6]) rfl fin
        case true =>
          simp only [Bool.true_or] at K
          go_wp2_with (first | (go_at_call 99; with_reducible refine (hp _).mono ?_; rintro e w2 ⟨rfl, rfl⟩) | (go_at_call 99; with_reducible refine (hm _).mono ?_; rintro e w2 ⟨rfl, rfl⟩))
          refine finite_bits b hb _ ?_
          intro A1 n1 c1 w2 h2 hn1 hx2
          have hsz : w.heap.size + 2 ≤ w2.heap.size := by have := hx2.size; simp at this; omega
          have g0 := (hx2.block w.heap.size (by simp; omega)).trans (blk_1_2 w _ _)
          have g1 := (hx2.block (w.heap.size + 1) (by simp)).trans (blk_2_2 w _ _)
          have hxw : Ext w w2 := (((Ext.rfl' w).alloc' _).alloc' _).trans' hx2
          have q0 : w2.cell? ⟨w.heap.size, 0, none⟩ = some (.bool (decide (z < 0))) := cell_of_blk g0 0
          have q1 : w2.cell? ⟨w.heap.size, 1, none⟩ = some (.slice A n c) := cell_of_blk g0 1
          go_wp2_with fail
          refine signed_any A A1 n n1 c c1 z (fv b) w2 hn (by omega) (h.ext hxw) h2 ?_
          intro A2 n2 c2 w3 h3 hx3
          have g0' := (hx3.block _ (by omega)).trans g0
          have g1' := (hx3.block _ (by omega)).trans g1
          have hx3' : Ext w w3 := hxw.trans' hx3
          have hs3 := hx3.size
          have e0 := blk_setCell (blk_setCell g0' 0 (.bool (decide (z + fv b < 0)))) 1 (.slice A2 n2 c2)
          have e1 : ((w3.setCell ⟨w.heap.size, 0, none⟩ (.bool (decide (z + fv b < 0)))).setCell ⟨w.heap.size, 1, none⟩ (.slice A2 n2 c2)).heap[w.heap.size + 1]? = _ := (Below.heap_setCell _ _ _ _ (by simp)).trans ((Below.heap_setCell _ _ _ _ (by simp)).trans g1')
          have h3' := (h3.setCell (a := ⟨w.heap.size, 0, none⟩) (tyAt_of_blk g0') (.bool (decide (z + fv b < 0)))).setCell (a := ⟨w.heap.size, 1, none⟩) (by rw [tyAt_setCell]; exact tyAt_of_blk g0') (.slice A2 n2 c2)
          have hx4 : Ext w ((w3.setCell ⟨w.heap.size, 0, none⟩ (.bool (decide (z + fv b < 0)))).setCell ⟨w.heap.size, 1, none⟩ (.slice A2 n2 c2)) := (hx3'.setCell (p := ⟨w.heap.size, 0, none⟩) (Nat.le_refl _) _).setCell (p := ⟨w.heap.size, 1, none⟩) (Nat.le_refl _) _
          have y0 := fun i => frozen_of_blk g0' i
          have y1 := fun i => frozen_of_blk g1' i
          have u0 : w3.cell? ⟨w.heap.size, 0, none⟩ = some (.bool (decide (z < 0))) := cell_of_blk g0' 0
          have u1 : w3.cell? ⟨w.heap.size, 1, none⟩ = some (.slice A n c) := cell_of_blk g0' 1
          have u2 : w3.cell? ⟨w.heap.size, 2, none⟩ = some (.bool pl) := cell_of_blk g0' 2
          have u3 : w3.cell? ⟨w.heap.size, 3, none⟩ = some (.bool mi) := cell_of_blk g0' 3
          have u4 : w3.cell? ⟨w.heap.size, 4, none⟩ = some (.bool na) := cell_of_blk g0' 4
          have u5 : w3.cell? ⟨w.heap.size, 5, none⟩ = some (.bool true) := cell_of_blk g0' 5
          have u6 : w3.cell? ⟨w.heap.size, 6, none⟩ = some (v64 C) := cell_of_blk g0' 6
          have t0 : w3.cell? ⟨w.heap.size + 1, 0, none⟩ = some (.bool false) := cell_of_blk g1' 0
          have t1 : w3.cell? ⟨w.heap.size + 1, 1, none⟩ = some (.slice none 0 0) := cell_of_blk g1' 1
          have t2 : w3.cell? ⟨w.heap.size + 1, 2, none⟩ = some (.bool false) := cell_of_blk g1' 2
          have t3 : w3.cell? ⟨w.heap.size + 1, 3, none⟩ = some (.bool false) := cell_of_blk g1' 3
          have t4 : w3.cell? ⟨w.heap.size + 1, 4, none⟩ = some (.bool false) := cell_of_blk g1' 4
          have t5 : w3.cell? ⟨w.heap.size + 1, 5, none⟩ = some (.bool false) := cell_of_blk g1' 5
          have t6 : w3.cell? ⟨w.heap.size + 1, 6, none⟩ = some (.int .u64 0) := cell_of_blk g1' 6
          obtain ⟨k0, k1, k2, _, _⟩ := ret7 e1 (.bool (decide (z + fv b < 0))) (.slice A2 n2 c2) (.bool pl) (.bool mi) (.bool na) (.bool true) (v64 C)
          unfold set7 at k0 k1 k2
          have fin := K A2 n2 c2 _ (k1 _ _ _ _ h3') (k2 w hx4 (by omega))
          have d0 := cell_of_blk k0 0
          have d1 := cell_of_blk k0 1
          have d2 := cell_of_blk k0 2
          have d3 := cell_of_blk k0 3
          have d4 := cell_of_blk k0 4
          have d5 := cell_of_blk k0 5
          have d6 := cell_of_blk k0 6
          clear K k0 k1 k2 h3' hx4 e0 e1 g0 g1 g0' g1' h2 h3 hx2 hx3 hx3' hxw q0 q1 h hp hm
          go_wp2
          exact bodyPost_ret (v := .agg _) (by simp [results, Tryz.results71, go_sem, d0, d1, d2, d3, d4, d5, d6]) rfl fin
end Go.Proofs.YtjngofngjbjpbaaGreatDoor
end

section
set_option linter.unusedSimpArgs false
set_option linter.unusedVariables false
namespace Go.Proofs.YtjngofngjbjpbaaGreatDoor
open Go.RowKit

section
variable {P : Program} {ops : Array Oper} {rest : List Oper} {o : Oper} {a : Act} {Q : Exit → Act → World → Prop}
/-- a row of bytes is copied: append to nil -/
theorem copyB {W : World} (hgd : o.guard = none) (s x : Operand) (t : TypeId)
    (ho : o.op = .call { callee := .builtin .append, args := #[s, x], argTypes := #[t, t] })
    (ht : P.underlying t = some (.slice 5)) (hinfo : (P.info? 5).map (fun i => (i.zero, i.size, i.bytes)) = some (some (.int .u8 0), 1, 1))
    (g u c : Nat) (f : Nat → Nat) (hs : a.eval s = .slice none 0 0) (hx : a.eval x = .slice (some ⟨g, 0, none⟩) u c)
    (hcell : ∀ i, i < u → W.cell? ⟨g, i, none⟩ = some (v8 (f i))) (hu : u ≤ 1099511627776)
    (h : ∀ v1 w1, OwnB w1 W.heap.size v1 u f → Ext W w1 → wpList P ops Q rest (a.put o.dst v1) w1) :
    wpList P ops Q (o :: rest) a W := by
  obtain ⟨i0, hi, hzz⟩ := Option.map_eq_some_iff.1 hinfo
  simp only [Prod.mk.injEq] at hzz
  obtain ⟨hz0, hz1, hz2⟩ := hzz
  refine wpList_append_own W hgd s x t ho W.heap.size 5 i0 (.int .u8 0) 1 1 ht hi hz0 hz1 hz2 rfl (by omega) (.slice none 0 0) 0 [] hs (World.ownsRow_nil _ _ _ _) ⟨g, 0, none⟩ u c ((List.range u).map fun s => v8 (f s)) hx (by simp)
    ?_ (by simp [Value.oneCell']) (by simp only [maxLen]; omega) (by omega) (Nat.le_refl _) ?_
  · intro j v hj
    have hju : j < u := by have := (List.getElem?_eq_some_iff.1 hj).1; simpa using this
    simp [hju] at hj
    subst hj
    simp only [Addr.add]
    have := hcell j hju
    by_cases e0 : j = 0
    · subst e0; simpa using this
    · simpa [e0] using this
  · intro v1 w1 hown hg _
    refine h v1 w1 ?_ ?_
    · unfold OwnB
      have e : (0 : Nat) + u = u := by omega
      simpa [e] using hown
    · exact ⟨hg.os, hg.tape, hg.output, hg.size, fun k hk => hg.block k hk (by simp [Value.ownBlock])⟩
end

theorem floatOf0 : floatOfInt .f64 0 = 0 := by decide
theorem subZero (x : Nat) (h : x ≤ 9218868437227405312) (h0 : x ≠ 0) (w : World) : (binOp .sub 49 (.float .f64 0) (.float .f64 x)).run Tryz.prog w = .ok (.float .f64 (9223372036854775808 + x)) w := by
  have e : FloatKind.f64.format.sub 0 x = some (9223372036854775808 + x) := sub_zero_pos h h0
  simp [binOp, go_sem, Op.floatArith, e]
theorem subZero0 (w : World) : (binOp .sub 49 (.float .f64 0) (.float .f64 0)).run Tryz.prog w = .ok (.float .f64 0) w := by
  have e : FloatKind.f64.format.sub 0 0 = some 0 := sub_zero_zero
  simp [binOp, go_sem, Op.floatArith, e]
end Go.Proofs.YtjngofngjbjpbaaGreatDoor
end

section
set_option linter.unusedSimpArgs false
set_option linter.unusedVariables false
namespace Go.Proofs.YtjngofngjbjpbaaGreatDoor
open Go.RowKit

set_option maxHeartbeats 2000000 in
set_option maxRecDepth 100000 in
theorem rounded_any {R : Ending → World → Prop} (neg : Bool) (A : Option Addr) (n c m rest : Nat) (w : World) (hn : n ≤ 1073741824) (h : IsBits w A n c m) (hr : rest ≤ 3)
    (K : ∀ w', Ext w w' → R (.returned (.float .f64 (roundF neg m rest))) w') :
    Calls Tryz.prog 136 #[.bool neg, .slice A n c, .int .i64 (rest : Int)] w R := by
  have hlen := h.len
  obtain ⟨u, hu⟩ : ∃ u, u = bl m - 53 := ⟨_, rfl⟩
  obtain ⟨q', hq⟩ : ∃ q', q' = m / 2 ^ u := ⟨_, rfl⟩
  obtain ⟨low, hlow⟩ : ∃ low, low = m % 2 ^ u := ⟨_, rfl⟩
  obtain ⟨r', hr'⟩ : ∃ r', r' = restLow low u rest := ⟨_, rfl⟩
  have hr3 : r' ≤ 3 := by rw [hr']; unfold restLow; split; omega; split; omega; split; (split <;> omega); split <;> omega
  have hroundF : roundF neg m rest = (if rndR q' r' = 0 then 0 else if neg then 9223372036854775808 + ldx (rndR q' r') ((u : Int) - 1074) else ldx (rndR q' r') ((u : Int) - 1074)) := by
    unfold roundF
    simp only
    rw [← hu, ← hq, ← hlow, ← hr']
  have K' : ∀ w', Ext w w' → R (.returned (.float .f64 (if rndR q' r' = 0 then 0 else if neg then 9223372036854775808 + ldx (rndR q' r') ((u : Int) - 1074) else ldx (rndR q' r') ((u : Int) - 1074)))) w' := fun w' hx => by
    have := K w' hx
    rw [hroundF] at this
    exact this
  clear K hroundF
  have hqb : bl q' = n - u := by rw [hq, bl_div, hlen]
  have hnu : n - u ≤ 53 := by omega
  have hun : u = n - 53 := by omega
  have hq53 : q' < 2 ^ 53 := bl_le_iff.1 (by omega)
  have hq64 : q' < 18446744073709551616 := by omega
  have hql : q' < 9007199254740992 := hq53
  clear hq53
  have wr1 : IntKind.i64.wrap ((n : Int) - 53) = (n : Int) - 53 := wrapI_in _ (by omega) (by omega)
  have wr2 : max ((n : Int) - 53) 0 = (u : Int) := by omega
  have wr3 : IntKind.i64.wrap ((u : Int) - 1074) = (u : Int) - 1074 := wrapI_in _ (by omega) (by omega)
  have wr4 : (((n : Int) - (u : Int))) = ((n - u : Nat) : Int) := by omega
  have HB : Hid (bl q' = n - u) := hqb
  have HU : Hid (u = 0 → r' = rest) := (fun e => by rw [hr']; unfold restLow; rw [if_pos e])
  have HQ : Hid (q' = m / 2 ^ u) := hq
  have HLOW : Hid (low = m % 2 ^ u) := hlow
  have HRL0 : Hid (r' = restLow low u rest) := hr'
  have hun' : u ≤ n := by omega
  clear hr' hlow hq hu hlen hun hqb
  go_enter Tryz.func136, Tryz.ntmps136
  go_upto_region 2 with fail
  go_cut [8] from 16 to 19 (fun qv wx => qv = v64 q' ∧ wx = w)
  case first =>
    clear K' wr3
    by_cases hn0 : n = 0
    · have hw := fun (A' : Option Addr) (c' : Nat) (R' : Ending → World → Prop) (k : R' (.returned (v64 q')) w) => word_any (R := R') A' (n - u) c' q' w hnu HB.out.symm (fun h => absurd h (by omega)) k
      have hnc : n ≤ c := h.cap
      clear HU h HQ HLOW HRL0
      have hu0 : u = 0 := by omega
      subst hu0
      subst hn0
      have hz : ((0 : Nat) : Int) = 0 := rfl
      simp only [hz] at wr2 wr4
      cases A with
      | none =>
        go_wp2_with fail
        refine hw _ _ _ ?_
        clear hw wr1 wr2
        go_wp2_with fail
        go_meet
        exact ⟨rfl, rfl⟩
      | some a =>
        by_cases hc0 : c = 0
        · subst hc0
          go_wp2_with fail
          refine hw _ _ _ ?_
          clear hw wr1 wr2
          go_wp2_with fail
          go_meet
          exact ⟨rfl, rfl⟩
        · have hc1 : ¬ (c = 0) := hc0
          have hc2 : ((c : Int) == 0) = false := by simp; omega
          go_wp2_with fail
          refine hw _ _ _ ?_
          clear hw wr1 wr2
          go_wp2_with fail
          go_meet
          exact ⟨rfl, rfl⟩
    · obtain ⟨g, rfl, hg, hcell⟩ := h.row.cell (by omega)
      have hw := fun (c' : Nat) (R' : Ending → World → Prop) (k : R' (.returned (v64 q')) w) => word_any (R := R') (some ⟨g, u, none⟩) (n - u) c' q' w hnu HB.out.symm (fun _ => ⟨g, u, rfl, fun i hi => by rw [hcell _ (by omega), HQ.out, bt_div]⟩) k
      have hcu : u < c := by have := h.cap; omega
      have hcu2 : ¬ c = u := by omega
      clear HU h hcell HQ HLOW HRL0
      go_wp2_with fail
      refine hw _ _ ?_
      clear hw wr1 wr2
      go_wp2_with fail
      go_meet
      exact ⟨rfl, rfl⟩
  case rest =>
    obtain ⟨rfl, rfl⟩ := hcut
    go_upto_if 21 with fail
    go_cut [2] from 9 to 48 (fun rv wx => rv = .int .i64 (r' : Int) ∧ Ext wc wx)
    case first =>
      clear K' wr3
      by_cases hu0 : u = 0
      · have hm0 := HU.out hu0
        have hd0 : decide ((u : Int) > 0) = false := by simp; omega
        clear HQ HLOW HRL0 wr4 HU wr1 wr2 h
        subst hm0
        go_wp2_with fail
        go_meet
        exact ⟨rfl, Ext.rfl' _⟩
      · obtain ⟨g, rfl, hg, hcell⟩ := h.row.cell (by omega)
        have hup : 0 < u := by omega
        have hul : u ≤ n := by omega
        have hlow2 : low < 2 ^ u := by rw [HLOW.out]; exact Nat.mod_lt _ (Nat.two_pow_pos _)
        have hmid : 1 * 2 ^ (u - 1) = 2 ^ (u - 1) := Nat.one_mul _
        obtain ⟨H, hH⟩ : ∃ H, H = 2 ^ (u - 1) := ⟨_, rfl⟩
        have hrl : r' = if H < low then 3 else if low < H then (if 0 < low ∨ rest ≠ 0 then 1 else rest) else if rest = 0 then 2 else 3 := by
          rw [HRL0.out, hH]; unfold restLow; rw [if_neg hu0]
        have HH : Hid (1 * 2 ^ (u - 1) = H) := by rw [hH]; exact hmid
        have hbu : ∀ i, i < u → wc.cell? ⟨g, i, none⟩ = some (v8 (bt m i)) := fun i hi => hcell i (by omega)
        have wr5 : IntKind.i64.wrap ((u : Int) - 1) = ((u - 1 : Nat) : Int) := by rw [wrapI_in _ (by omega) (by omega)]; omega
        have hd0 : decide ((u : Int) > 0) = true := by simp; omega
        have hcu : u < c := by have := h.cap; omega
        clear HRL0 HQ hmid hH hcell wr1 wr2 wr4 HU h
        go_wp2_with (at_builtin; go_loud (refine copyB (W := wc) rfl (.tmp 22) (.tmp 25) 28 rfl Tryz.underlying28 Tryz.info5 g u _ (bt m) rfl rfl hbu (by omega) ?_); intro v1 w1 ho1 hx1)
        obtain ⟨A1, c1, rfl, hc1, hrow1⟩ := ho1.row
        have htr := fun (R' : Ending → World → Prop) K'' => trimmed_any (R := R') A1 u c1 (bt m) w1 (by omega) hc1 hrow1 (fun j _ => bt_lt m j) K''
        rw [valB_bt, ← HLOW.out] at htr
        clear hrow1 ho1 hbu
        go_wp2_with fail
        refine htr _ ?_
        intro nl hl hlu
        clear htr
        have hof := fun (R' : Ending → World → Prop) K'' => of_bits (R := R') 1 (u - 1) w1 (by decide) (by omega) K''
        rw [HH.out] at hof
        go_wp2_with fail
        refine hof _ ?_
        intro A2 n2 c2 w2 hm2 hx2
        clear hof
        have hl2 := hl.ext hx2
        have hn2 : n2 ≤ 1099511627776 := by
          have := hm2.len
          have hb : bl H ≤ u := by rw [← HH.out, Nat.one_mul]; exact bl_le_iff.2 (Nat.pow_lt_pow_right (by decide) (by omega))
          omega
        have hxx := hx1.trans' hx2
        have hnl := hl2.len0
        go_wp2_with fail
        refine less_bits A2 A1 n2 nl c2 c1 H low w2 hn2 (by omega) hm2 hl2 ?_
        intro w3 hx3
        have hm3 := hm2.ext hx3
        have hl3 := hl2.ext hx3
        have hx03 := hxx.trans' hx3
        by_cases k1 : H < low
        · rw [decide_eq_true k1]
          rw [if_pos k1] at hrl
          go_wp2_with fail
          go_meet
          exact ⟨by rw [hrl]; rfl, hx03⟩
        · rw [decide_eq_false k1]
          rw [if_neg k1] at hrl
          go_wp2_with fail
          refine less_bits A1 A2 nl n2 c1 c2 low H w3 (by omega) hn2 hl3 hm3 ?_
          intro w4 hx4
          have hx04 := hx03.trans' hx4
          by_cases k2 : low < H
          · rw [decide_eq_true k2]
            rw [if_pos k2] at hrl
            have HRL : Hid (r' = if 0 < low ∨ rest ≠ 0 then 1 else rest) := hrl
            clear hrl
            by_cases k3 : 0 < nl
            · have k4 : r' = 1 := by rw [HRL.out, if_pos (Or.inl (by have := hnl.1 k3; omega))]
              have k5 : decide ((nl : Int) > 0) = true := by simp; omega
              go_wp2_with fail
              go_meet
              exact ⟨by rw [k4]; rfl, hx04⟩
            · have k5 : decide ((nl : Int) > 0) = false := by simp; omega
              have k6 : nl = 0 := by omega
              subst k6
              have hlz : low = 0 := by
                by_cases e : low = 0
                · exact e
                · exact absurd (hnl.2 e) k3
              by_cases k7 : rest = 0
              · have k4 : r' = 0 := by rw [HRL.out, if_neg (by omega), k7]
                subst k7
                go_wp2_with fail
                go_meet
                exact ⟨by rw [k4]; rfl, hx04⟩
              · have k8 : ((rest : Int) != 0) = true := by simp; omega
                have k4 : r' = 1 := by rw [HRL.out, if_pos (Or.inr k7)]
                go_wp2_with fail
                go_meet
                exact ⟨by rw [k4]; rfl, hx04⟩
          · rw [decide_eq_false k2]
            rw [if_neg k2] at hrl
            by_cases k7 : rest = 0
            · have k4 : r' = 2 := by rw [hrl, if_pos k7]
              subst k7
              clear hrl
              go_wp2_with fail
              go_meet
              exact ⟨by rw [k4]; rfl, hx04⟩
            · have k8 : ((rest : Int) == 0) = false := by simp; omega
              have k4 : r' = 3 := by rw [hrl, if_neg k7]
              clear hrl
              go_wp2_with fail
              go_meet
              exact ⟨by rw [k4]; rfl, hx04⟩
    case rest =>
      obtain ⟨rfl, hxe⟩ := hcut
      clear wr1 wr2 wr4 h HU HQ HLOW HRL0 HB
      by_cases e3 : r' = 3 ∨ (r' = 2 ∧ q' % 2 = 1)
      · have hM : rndR q' r' = q' + 1 := if_pos e3
        rw [hM] at K'
        have hM0 : q' + 1 ≠ 0 := by omega
        have wrM : IntKind.u64.wrap ((q' : Int) + 1) = ((q' + 1 : Nat) : Int) := by rw [IntKind.wrap_u64]; omega
        obtain ⟨M, hMM⟩ : ∃ M, M = q' + 1 := ⟨_, rfl⟩
        rw [← hMM] at K' hM0 wrM
        have hMl : M < 18446744073709551616 := by omega
        have hld := ldx_pos hM0 hMl (e := (u : Int) - 1074) (by omega)
        have fin := K' _ hxe
        rw [if_neg hM0] at fin
        have hL : ∀ W, Calls Tryz.prog 214 #[.float .f64 (floatOfInt .f64 (M : Int)), .int .i64 ((u : Int) - 1074)] W fun e w' => e = .returned (.float .f64 (ldx M ((u : Int) - 1074))) ∧ w' = W := fun W => ldexp_any M ((u : Int) - 1074) hM0 hMl (by omega) (by omega) W ⟨rfl, rfl⟩
        have hS := fun W => subZero (ldx M ((u : Int) - 1074)) hld.2 hld.1 W
        generalize ldx M ((u : Int) - 1074) = X at hS hL fin hld
        clear K' hM hMM hld
        rcases e3 with e3 | ⟨e3, e4⟩
        · have b3 : ((r' : Int) == 3) = true := by rw [e3]; rfl
          subst e3
          cases neg
          all_goals
            simp only [Bool.false_eq_true, if_false, if_true, ite_true, ite_false] at fin
            go_wp2_with (go_at_call 214; with_reducible refine (hL _).mono ?_; rintro e w9 ⟨rfl, rfl⟩)
            exact fin
        · have e5 : ((q' : Int)).tmod 2 = 1 := by rw [Int.tmod_eq_emod_of_nonneg (by omega)]; omega
          have e6 : ((q' : Int)) % 2 = 1 := by omega
          clear e4
          subst e3
          cases neg
          all_goals
            simp only [Bool.false_eq_true, if_false, if_true, ite_true, ite_false] at fin
            go_wp2_with (go_at_call 214; with_reducible refine (hL _).mono ?_; rintro e w9 ⟨rfl, rfl⟩)
            exact fin
      · have hM : rndR q' r' = q' := if_neg e3
        rw [hM] at K'
        have b3 : ((r' : Int) == 3) = false := by simp; omega
        have hcase : (r' = 2 ∧ q' % 2 = 0) ∨ ((r' : Int) == 2) = false := by
          by_cases e : r' = 2
          · left; omega
          · right; simp; omega
        have fin := K' _ hxe
        clear K' hM e3
        by_cases q0 : q' = 0
        · subst q0
          rw [if_pos rfl] at fin
          have hL : ∀ W, Calls Tryz.prog 214 #[.float .f64 0, .int .i64 ((u : Int) - 1074)] W fun e w' => e = .returned (.float .f64 0) ∧ w' = W := fun W => ldexp_zero ((u : Int) - 1074) W ⟨rfl, rfl⟩
          have hS := subZero0
          have hF := floatOf0
          rcases hcase with ⟨e3, _⟩ | e3
          · subst e3
            cases neg
            all_goals
              try simp only [Bool.false_eq_true, if_false, if_true, ite_true, ite_false] at fin
              go_wp2_with (go_at_call 214; with_reducible refine (hL _).mono ?_; rintro e w9 ⟨rfl, rfl⟩)
              exact fin
          · cases neg
            all_goals
              try simp only [Bool.false_eq_true, if_false, if_true, ite_true, ite_false] at fin
              go_wp2_with (go_at_call 214; with_reducible refine (hL _).mono ?_; rintro e w9 ⟨rfl, rfl⟩)
              exact fin
        · rw [if_neg q0] at fin
          have hld := ldx_pos q0 hq64 (e := (u : Int) - 1074) (by omega)
          have hL : ∀ W, Calls Tryz.prog 214 #[.float .f64 (floatOfInt .f64 (q' : Int)), .int .i64 ((u : Int) - 1074)] W fun e w' => e = .returned (.float .f64 (ldx q' ((u : Int) - 1074))) ∧ w' = W := fun W => ldexp_any q' ((u : Int) - 1074) q0 hq64 (by omega) (by omega) W ⟨rfl, rfl⟩
          have hS := fun W => subZero (ldx q' ((u : Int) - 1074)) hld.2 hld.1 W
          generalize ldx q' ((u : Int) - 1074) = X at hS hL fin hld
          clear hld
          rcases hcase with ⟨e3, e4⟩ | e3
          · have e5 : ((q' : Int)).tmod 2 = 0 := by rw [Int.tmod_eq_emod_of_nonneg (by omega)]; omega
            have e6 : ((q' : Int)) % 2 = 0 := by omega
            clear e4
            subst e3
            cases neg
            all_goals
              try simp only [Bool.false_eq_true, if_false, if_true, ite_true, ite_false] at fin
              go_wp2_with (go_at_call 214; with_reducible refine (hL _).mono ?_; rintro e w9 ⟨rfl, rfl⟩)
              exact fin
          · cases neg
            all_goals
              try simp only [Bool.false_eq_true, if_false, if_true, ite_true, ite_false] at fin
              go_wp2_with (go_at_call 214; with_reducible refine (hL _).mono ?_; rintro e w9 ⟨rfl, rfl⟩)
              exact fin
end Go.Proofs.YtjngofngjbjpbaaGreatDoor
end
