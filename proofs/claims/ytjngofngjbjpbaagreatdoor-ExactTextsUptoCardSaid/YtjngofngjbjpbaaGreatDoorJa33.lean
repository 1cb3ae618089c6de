/- exact.Sum.Merge. exact.Sum.Merge, stated of sums. -/
import Derived.Test.YtjngofngjbjpbaaGreatDoorJa32
import Derived.Test.YtjngofngjbjpbaaGreatDoorJa15
import Derived.Deep.CutRange
import Derived.Deep.CutBlock

section
set_option linter.unusedSimpArgs false
set_option linter.unusedVariables false
namespace Go.Proofs.YtjngofngjbjpbaaGreatDoor
open Go.RowKit

theorem sum_marks {w W : World} {g g2 k : Nat} {X : Option Obj} {neg : Bool} {A : Option Addr} {n c cnt : Nat} {z y : Int} {pl mi na ot : Bool} (hgg : g ≠ g2)
    (e1 : W.heap[g]? = some (.cells (sumCells neg A n c ⟨z, pl, mi, na, ot, cnt⟩) 114 (0, 0))) (e2 : IsInt W neg A n c k y) (e3 : W.heap[g2]? = X) (e4 : w.grownBy W (some g)) (p m q o : Bool) :
    ((((W.setCell ⟨g, 2, none⟩ (.bool p)).setCell ⟨g, 3, none⟩ (.bool m)).setCell ⟨g, 4, none⟩ (.bool q)).setCell ⟨g, 5, none⟩ (.bool o)).heap[g]? = some (.cells (sumCells neg A n c ⟨z, p, m, q, o, cnt⟩) 114 (0, 0)) ∧
    IsInt ((((W.setCell ⟨g, 2, none⟩ (.bool p)).setCell ⟨g, 3, none⟩ (.bool m)).setCell ⟨g, 4, none⟩ (.bool q)).setCell ⟨g, 5, none⟩ (.bool o)) neg A n c k y ∧
    ((((W.setCell ⟨g, 2, none⟩ (.bool p)).setCell ⟨g, 3, none⟩ (.bool m)).setCell ⟨g, 4, none⟩ (.bool q)).setCell ⟨g, 5, none⟩ (.bool o)).heap[g2]? = X ∧
    w.grownBy ((((W.setCell ⟨g, 2, none⟩ (.bool p)).setCell ⟨g, 3, none⟩ (.bool m)).setCell ⟨g, 4, none⟩ (.bool q)).setCell ⟨g, 5, none⟩ (.bool o)) (some g) := by
  have hk : ∀ (V : World) i v, (V.setCell ⟨g, i, none⟩ v).heap[g2]? = V.heap[g2]? := fun V i v => Below.heap_setCell _ _ _ _ (fun e => hgg e.symm)
  have t1 := tyAt_of_blk e1
  refine ⟨blk_setCell (blk_setCell (blk_setCell (blk_setCell e1 2 (.bool p)) 3 (.bool m)) 4 (.bool q)) 5 (.bool o), ?_, ?_, grown_set (grown_set (grown_set (grown_set e4 2 _) 3 _) 4 _) 5 _⟩
  · exact (((e2.setC t1 2 _).setC (by rw [tyAt_setCell]; exact t1) 3 _).setC (by rw [tyAt_setCell, tyAt_setCell]; exact t1) 4 _).setC (by rw [tyAt_setCell, tyAt_setCell, tyAt_setCell]; exact t1) 5 _
  · rw [hk, hk, hk, hk, e3]

set_option maxHeartbeats 4000000 in
set_option maxRecDepth 100000 in
theorem merge_walk {R : Ending → World → Prop} (g g2 k k2 : Nat) (neg neg2 : Bool) (A A2 : Option Addr) (n c n2 c2 cnt cnt2 : Nat) (z z2 : Int) (pl mi na ot pl2 mi2 na2 ot2 : Bool) (w : World) (hk : k ≤ 1099511627775) (hk2 : k2 ≤ 1099511627775) (hgg : g ≠ g2)
    (h1 : w.heap[g]? = some (.cells (sumCells neg A n c ⟨z, pl, mi, na, ot, cnt⟩) 114 (0, 0))) (h2 : IsInt w neg A n c k z) (h3 : cnt < 18446744073709551616)
    (i1 : w.heap[g2]? = some (.cells (sumCells neg2 A2 n2 c2 ⟨z2, pl2, mi2, na2, ot2, cnt2⟩) 114 (0, 0))) (i2 : IsInt w neg2 A2 n2 c2 k2 z2) (i3 : cnt2 < 18446744073709551616)
    (C : Nat) (hC : C = (cnt + cnt2) % 18446744073709551616)
    (K' : ∀ (neg' : Bool) (A' : Option Addr) (n' c' : Nat) (w' : World), w'.heap[g]? = some (.cells (sumCells neg' A' n' c' ⟨z + z2, pl || pl2, mi || mi2, na || na2, ot || ot2, C⟩) 114 (0, 0)) → IsInt w' neg' A' n' c' (max k k2 + 1) (z + z2) → w.grownBy w' (some g) → R (.returned (.int .i64 0)) w') :
    Calls Tryz.prog 20 #[.pointer (some ⟨g, 0, none⟩), .pointer (some ⟨g2, 0, none⟩)] w R := by
  have hC2 : IntKind.u64.wrap ((cnt : Int) + cnt2) = (C : Int) := by rw [IntKind.wrap_u64]; omega
  clear hC
  have q0 : w.cell? ⟨g, 0, none⟩ = some (.bool neg) := cell_of_blk h1 0
  have q1 : w.cell? ⟨g, 1, none⟩ = some (.slice A n c) := cell_of_blk h1 1
  have r0 : w.cell? ⟨g2, 0, none⟩ = some (.bool neg2) := cell_of_blk i1 0
  have r1 : w.cell? ⟨g2, 1, none⟩ = some (.slice A2 n2 c2) := cell_of_blk i1 1
  have hgl : g < w.heap.size := (Array.getElem?_eq_some_iff.1 h1).1
  have hgl2 : g2 < w.heap.size := (Array.getElem?_eq_some_iff.1 i1).1
  go_enter Tryz.func20, Tryz.ntmps20
  go_wp2
  go_cut [] from 11 to 22 (fun wx => ∃ neg' A' n' c', wx.heap[g]? = some (.cells (sumCells neg' A' n' c' ⟨z, pl, mi, na, ot, cnt⟩) 114 (0, 0)) ∧ IsInt wx neg' A' n' c' (max k k2 + 1) (z + z2) ∧
    wx.heap[g2]? = some (.cells (sumCells neg2 A2 n2 c2 ⟨z2, pl2, mi2, na2, ot2, cnt2⟩) 114 (0, 0)) ∧ w.grownBy wx (some g))
  case first =>
    go_region_with
      (first | (go_at_call 72; refine add_any neg neg2 A A2 n c k n2 c2 k2 z z2 _ (by omega) (by omega) (h2.ext (Below.drew (Ext.rfl' w))) (i2.ext (Below.drew (Ext.rfl' w))) ?_; intro n3 A3 m3 c3 w3 hi3 hx3;
                have hx3 := hx3.undrew; have hb3 := (hx3.block _ hgl).trans h1; have hb4 := (hx3.block _ hgl2).trans i1;
                have t0 : w3.cell? ⟨g, 0, none⟩ = some (.bool neg) := cell_of_blk hb3 0; have t1 : w3.cell? ⟨g, 1, none⟩ = some (.slice A n c) := cell_of_blk hb3 1;
                have t2 := frozen_of_blk hb3 0; have t3 := frozen_of_blk hb3 1))
    all_goals
      go_wp2_with fail
      go_meet
      exact ⟨n3, A3, m3, c3, blk_setCell (blk_setCell hb3 0 (.bool n3)) 1 (.slice A3 m3 c3), (hi3.setC (tyAt_of_blk hb3) 0 _).setC (by rw [tyAt_setCell]; exact tyAt_of_blk hb3) 1 _,
        (Below.heap_setCell _ _ _ _ (fun e => hgg e.symm)).trans ((Below.heap_setCell _ _ _ _ (fun e => hgg e.symm)).trans hb4), grown_set (grown_set (Ext.isGrown hx3 (some g)) 0 _) 1 _⟩
  case rest =>
    obtain ⟨neg', A', n', c', e1, e2, e3, e4⟩ := hcut
    clear q0 q1 r0 r1 h1 h2 i1 i2 hgl hgl2
    go_upto_region 4 with fail
    go_cut [] from 23 to 74 (fun wx => wx.heap[g]? = some (.cells (sumCells neg' A' n' c' ⟨z, pl || pl2, mi || mi2, na || na2, ot || ot2, cnt⟩) 114 (0, 0)) ∧ IsInt wx neg' A' n' c' (max k k2 + 1) (z + z2) ∧
      wx.heap[g2]? = some (.cells (sumCells neg2 A2 n2 c2 ⟨z2, pl2, mi2, na2, ot2, cnt2⟩) 114 (0, 0)) ∧ w.grownBy wx (some g))
    case first =>
      have q2 : wc.drew.cell? ⟨g, 2, none⟩ = some (.bool pl) := cell_of_blk e1 2
      have q3 : wc.drew.cell? ⟨g, 3, none⟩ = some (.bool mi) := cell_of_blk e1 3
      have q4 : wc.drew.cell? ⟨g, 4, none⟩ = some (.bool na) := cell_of_blk e1 4
      have q5 : wc.drew.cell? ⟨g, 5, none⟩ = some (.bool ot) := cell_of_blk e1 5
      have r2 : wc.drew.cell? ⟨g2, 2, none⟩ = some (.bool pl2) := cell_of_blk e3 2
      have r3 : wc.drew.cell? ⟨g2, 3, none⟩ = some (.bool mi2) := cell_of_blk e3 3
      have r4 : wc.drew.cell? ⟨g2, 4, none⟩ = some (.bool na2) := cell_of_blk e3 4
      have r5 : wc.drew.cell? ⟨g2, 5, none⟩ = some (.bool ot2) := cell_of_blk e3 5
      have z0 : ∀ i, wc.drew.frozen? ⟨g, i, none⟩ = false := fun i => frozen_of_blk e1 i
      have fin := sum_marks (W := wc.drew) hgg e1 (e2.ext (Below.drew (Ext.rfl' _))) e3 (World.grownBy.trans e4 (Ext.isGrown (Below.drew (Ext.rfl' _)) (some g))) (pl || pl2) (mi || mi2) (na || na2) (ot || ot2)
      clear e1 e2 e3 e4
      refine wp_region_any (by kernel_rfl) ?_
      change wpAny _ _ _ _ _ _ _ wc.drew
      refine wpAny_cast (ops' := mops) (by kernel_rfl) ?_
      refine marks_region (fun _ _ d _ _ h => by cases d <;> exact h) g g2 pl mi na ot pl2 mi2 na2 ot2 wc.drew _ (by rfl) (by rfl) (by rfl) q2 q3 q4 q5 r2 r3 r4 r5 z0 ?_
      rintro a rfl
      simp only [Exit.then, Act.put, List.setIfInBounds_toArray, List.set_cons_succ, List.set_cons_zero]
      refine (‹∀ (a' : Act) (w' : World), Met _ a' w' → _›) _ _ ?_
      go_meet
      exact fin
    case rest =>
      obtain ⟨f1, f2, f3, f4⟩ := hcut
      have q6 : wc.cell? ⟨g, 6, none⟩ = some (v64 cnt) := cell_of_blk f1 6
      have r6 : wc.cell? ⟨g2, 6, none⟩ = some (v64 cnt2) := cell_of_blk f3 6
      have z6 := frozen_of_blk f1 6
      have fin := K' neg' A' n' c' _ (blk_setCell (w := wc.drew) f1 6 (v64 C)) ((f2.ext (Below.drew (Ext.rfl' _))).setC (w := wc.drew) (tyAt_of_blk f1) 6 _) (grown_set (World.grownBy.trans f4 (Ext.isGrown (Below.drew (Ext.rfl' _)) (some g))) 6 (v64 C))
      clear f1 f2 f3 f4 K' e1 e2 e3 e4
      go_upto_region 5 with fail
      go_region
      all_goals
        go_wp2
        exact fin
end Go.Proofs.YtjngofngjbjpbaaGreatDoor
end

section
set_option linter.unusedSimpArgs false
set_option linter.unusedVariables false
namespace Go.Proofs.YtjngofngjbjpbaaGreatDoor
open Go.RowKit

theorem mergeS_any {R : Ending → World → Prop} (g g2 k k2 : Nat) (s o : SumS) (w : World) (hk : k ≤ 1099511627775) (hk2 : k2 ≤ 1099511627775) (hgg : g ≠ g2) (h : IsSum w g k s) (h' : IsSum w g2 k2 o)
    (K : ∀ w', IsSum w' g (max k k2 + 1) (mergeS s o) → w.grownBy w' (some g) → R (.returned (.int .i64 0)) w') :
    Calls Tryz.prog 20 #[.pointer (some ⟨g, 0, none⟩), .pointer (some ⟨g2, 0, none⟩)] w R := by
  obtain ⟨neg, A, n, c, h1, h2, h3⟩ := h
  obtain ⟨neg2, A2, n2, c2, i1, i2, i3⟩ := h'
  obtain ⟨z, pl, mi, na, ot, cnt⟩ := s
  obtain ⟨z2, pl2, mi2, na2, ot2, cnt2⟩ := o
  obtain ⟨C, hC⟩ : ∃ C, C = (cnt + cnt2) % 18446744073709551616 := ⟨_, rfl⟩
  have hCl : C < 18446744073709551616 := by omega
  refine merge_walk g g2 k k2 neg neg2 A A2 n c n2 c2 cnt cnt2 z z2 pl mi na ot pl2 mi2 na2 ot2 w hk hk2 hgg h1 h2 h3 i1 i2 i3 C hC ?_
  exact fun neg' A' n' c' w' j1 j2 j3 => K w' ⟨neg', A', n', c', by unfold mergeS; rw [← hC]; exact j1, j2, by unfold mergeS; rw [← hC]; exact hCl⟩ j3
end Go.Proofs.YtjngofngjbjpbaaGreatDoor
end
