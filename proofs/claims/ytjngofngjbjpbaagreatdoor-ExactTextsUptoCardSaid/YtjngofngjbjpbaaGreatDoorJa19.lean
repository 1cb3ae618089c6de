/- abacuslaw09.lives. -/
import Derived.Test.YtjngofngjbjpbaaGreatDoorJa15
import Derived.Test.YtjngofngjbjpbaaGreatDoorJa18

section
set_option linter.unusedSimpArgs false
set_option linter.unusedVariables false
namespace Go.Proofs.YtjngofngjbjpbaaGreatDoor
open Go.RowKit

theorem live_value : valueF (foldS kL 3) = 4607182418800017408 := by decide +kernel
theorem live_text : textS (foldS (fun _ => 1) 1) = ⟨#[49, 32, 49]⟩ := by decide +kernel
theorem live_count : (foldS (fun _ => 1) 1).count = 1 := by decide +kernel

theorem ord_1 : Ieee.double.order 4607182418800017408 4607182418800017408 = some .eq := by decide +kernel
theorem ord_2 : Ieee.double.order 4599075939470750516 4599075939470750516 = some .eq := by decide +kernel
theorem ord_3 : Ieee.double.order 13582856476149415936 13582856476149415936 = some .eq := by decide +kernel
set_option maxHeartbeats 1000000 in
set_option maxRecDepth 20000 in
theorem lives_any {R : Ending → World → Prop} (w : World) (htab : Lib.TabIs Tryz.prog w "internal/strconv.uint64pow10" .u64 Lib.pow10Tab)
    (K : ∀ w', Ext w w' → R (.returned (.bool true)) w') :
    Calls Tryz.prog 15 #[] w R := by
  have hv := live_value
  have ht := live_text
  have hc := live_count
  have q1 : FloatKind.f64.format.order 4607182418800017408 4607182418800017408 = some .eq := ord_1
  have q2 : FloatKind.f64.format.order 4599075939470750516 4599075939470750516 = some .eq := ord_2
  have q3 : FloatKind.f64.format.order 13582856476149415936 13582856476149415936 = some .eq := ord_3
  go_enter Tryz.func15, Tryz.ntmps15
  go_wp2_with fail
  have r0 := rowAt_new w #[.float .f64 6103021453049119613, .float .f64 4607182418800017408, .float .f64 15326393489903895421] 49 3 (fun i => .float .f64 (kL i)) (fun i hi => by rcases (by omega : i = 0 ∨ i = 1 ∨ i = 2) with e | e | e <;> rw [e] <;> rfl)
  have hx0 : Ext w (w.alloc (.cells #[.float .f64 6103021453049119613, .float .f64 4607182418800017408, .float .f64 15326393489903895421] 49)) := (Ext.rfl' w).alloc' _
  generalize w.alloc (.cells #[.float .f64 6103021453049119613, .float .f64 4607182418800017408, .float .f64 15326393489903895421] 49) = W0 at r0 hx0 ⊢
  generalize w.heap.size = b0 at r0 ⊢
  refine summed_any _ 3 3 kL W0 (by omega) (fun i _ => by unfold kL; split <;> decide) r0.g ?_
  intro g w1 hg1 hs1 hx1
  have hx1' := hx0.trans' hx1
  clear hx0 hx1 hg1 r0
  go_wp2_with fail
  have r0 := rowAt_new w1 #[.float .f64 1] 49 1 (fun i => .float .f64 ((fun _ => 1) i)) (fun i hi => by rw [show i = 0 by omega]; rfl)
  have hx0 : Ext w1 (w1.alloc (.cells #[.float .f64 1] 49)) := (Ext.rfl' w1).alloc' _
  generalize w1.alloc (.cells #[.float .f64 1] 49) = W0' at r0 hx0 ⊢
  generalize w1.heap.size = b0' at r0 ⊢
  refine summed_any _ 1 1 (fun _ => 1) W0' (by omega) (fun i _ => by decide) r0.g ?_
  intro g2 w2 hg2 hs2 hx2
  have hs1' := (hs1.ext hx0).ext hx2
  have hx2' := hx1'.trans' (hx0.trans' hx2)
  clear hx0 hx2 hg2 r0 hs1 hx1'
  go_wp2_with fail
  refine two_01_02 _ ?_
  intro w3 hx3
  have hs1 := hs1'.ext hx3
  have hs2' := hs2.ext hx3
  have hx3' := hx2'.trans' hx3
  clear hx3 hx2' hs2 hs1'
  go_wp2_with fail
  refine value_any g 40 _ _ (by omega) hs1 ?_
  rw [hv]
  intro w4 hx4
  have hs2 := hs2'.ext hx4
  have hx4' := hx3'.trans' hx4
  clear hx4 hx3' hs2' hs1 hv
  go_wp2_with fail
  refine text_any g2 40 _ _ (by omega) hs2 (tabIs_ext htab hx4') ?_
  rw [ht]
  intro w5 hx5
  have hs2' := hs2.ext hx5
  have hx5' := hx4'.trans' hx5
  clear hx5 hx4' hs2 ht
  go_wp2_with fail
  refine count_any g2 40 _ _ hs2' ?_
  rw [hc]
  go_wp2_with fail
  have r0 := rowAt_new w5 #[.float .f64 6103021453049119613, .float .f64 4607182418800017408, .float .f64 15326393489903895421] 49 3 (fun i => .float .f64 (kL i)) (fun i hi => by rcases (by omega : i = 0 ∨ i = 1 ∨ i = 2) with e | e | e <;> rw [e] <;> rfl)
  have hx0 : Ext w5 (w5.alloc (.cells #[.float .f64 6103021453049119613, .float .f64 4607182418800017408, .float .f64 15326393489903895421] 49)) := (Ext.rfl' w5).alloc' _
  generalize w5.alloc (.cells #[.float .f64 6103021453049119613, .float .f64 4607182418800017408, .float .f64 15326393489903895421] 49) = W6 at r0 hx0 ⊢
  generalize w5.heap.size = b6 at r0 ⊢
  refine kahan_any _ 3 W6 r0 ?_
  have fin := K W6 (hx5'.trans' hx0)
  clear K r0 hx0 hx5' htab
  go_wp2_with fail
  exact fin
end Go.Proofs.YtjngofngjbjpbaaGreatDoor
end
