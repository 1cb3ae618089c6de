/- abacuslaw09.same. -/
import Derived.Test.YtjngofngjbjpbaaGreatDoorJa19
import Derived.Test.YtjngofngjbjpbaaGreatDoorJa25

section
set_option linter.unusedSimpArgs false
set_option linter.unusedVariables false
namespace Go.Proofs.YtjngofngjbjpbaaGreatDoor
open Go.RowKit

/-- the world goes on, and seven cells stand -/
abbrev Held7 (w : World) (b : Nat) (v0 v1 v2 v3 v4 v5 v6 : Value) (V : World) : Prop :=
  Ext w V ∧ V.cell? ⟨b, 0, none⟩ = some v0 ∧ V.cell? ⟨b, 1, none⟩ = some v1 ∧ V.cell? ⟨b, 2, none⟩ = some v2 ∧ V.cell? ⟨b, 3, none⟩ = some v3 ∧ V.cell? ⟨b, 4, none⟩ = some v4 ∧ V.cell? ⟨b, 5, none⟩ = some v5 ∧ V.cell? ⟨b, 6, none⟩ = some v6
theorem held7_mono {w : World} {b : Nat} {v0 v1 v2 v3 v4 v5 v6 : Value} {V V' : World} (h : Held7 w b v0 v1 v2 v3 v4 v5 v6 V) (hx : Ext V V') : Held7 w b v0 v1 v2 v3 v4 v5 v6 V' := by
  obtain ⟨h, a0, a1, a2, a3, a4, a5, a6⟩ := h
  have q : ∀ i v, V.cell? ⟨b, i, none⟩ = some v → V'.cell? ⟨b, i, none⟩ = some v := fun i v e => (hx.cell (World.block_lt_of_cell? _ _ e)).trans e
  exact ⟨h.trans' hx, q _ _ a0, q _ _ a1, q _ _ a2, q _ _ a3, q _ _ a4, q _ _ a5, q _ _ a6⟩
theorem held7_drew {w : World} {b : Nat} {v0 v1 v2 v3 v4 v5 v6 : Value} {V : World} (h : Held7 w b v0 v1 v2 v3 v4 v5 v6 V) : Held7 w b v0 v1 v2 v3 v4 v5 v6 V.drew := held7_mono h (Below.drew (Ext.rfl' V))
set_option maxHeartbeats 4000000 in
set_option maxRecDepth 20000 in
theorem sameS_any {R : Ending → World → Prop} (g k : Nat) (s : SumS) (A : Option Addr) (n c : Nat) (w : World) (htab : Lib.TabIs Tryz.prog w "internal/strconv.uint64pow10" .u64 Lib.pow10Tab)
    (hk : k ≤ 16777216) (hn : n ≤ 1073741824) (hv : Tidy s) (hs : IsSum w g k s) (hz : BitsZ w A n c s.z)
    (K : ∀ w', Ext w w' → R (.returned (.bool true)) w') :
    Calls Tryz.prog 16 #[.pointer (some ⟨g, 0, none⟩), refV A n c s] w R := by
  have H17 := fun W (hW : Ext w W) (R' : Ending → World → Prop) K' => text_any (R := R') g k s W (by omega) (hs.ext hW) (tabIs_ext htab hW) K'
  have H63 := fun W (hW : Ext w W) (R' : Ending → World → Prop) K' => textR_any (R := R') A n c s W hn (hz.ext hW) hv K'
  have H61 := fun W (hW : Ext w W) (R' : Ending → World → Prop) K' => count_any (R := R') g k s W (hs.ext hW) K'
  have H60 := fun W (hW : Ext w W) (R' : Ending → World → Prop) K' => value_any (R := R') g k s W hk (hs.ext hW) K'
  have H64 := fun W (hW : Ext w W) (R' : Ending → World → Prop) K' => valueR_any (R := R') A n c s W hn (hz.ext hW) K'
  have H65 := fun W (hW : Ext w W) (R' : Ending → World → Prop) K' => mean_any (R := R') g k s W hk (hs.ext hW) K'
  have H66 := fun W (hW : Ext w W) (R' : Ending → World → Prop) K' => meanR_any (R := R') A n c s W hn (hz.ext hW) hv.1 K'
  have H40 := fun W a (R' : Ending → World → Prop) (K' : R' (.returned (.bool true)) W) => same_any (R := R') a a W (by rw [sameF_refl]; exact K')
  clear hs hz hv htab hk hn
  generalize textS s = X at *
  generalize valueF s = X2 at *
  generalize meanF s = X3 at *
  obtain ⟨z, pl, mi, na, ot, cnt⟩ := s
  simp only [refV, refCells] at *
  generalize decide (z < 0) = ng at *
  have hx0 : Ext w (w.alloc (.cells #[.bool ng, .slice A n c, .bool pl, .bool mi, .bool na, .bool ot, v64 cnt] 31)) := (Ext.rfl' w).alloc' _
  have hb0 := blk_1_1 w (.cells #[.bool ng, .slice A n c, .bool pl, .bool mi, .bool na, .bool ot, v64 cnt] 31)
  go_enter Tryz.func16, Tryz.ntmps16
  go_wp2_with fail
  have hS0 : Held7 w w.heap.size (.bool ng) (.slice A n c) (.bool pl) (.bool mi) (.bool na) (.bool ot) (v64 cnt) (w.alloc (.cells #[.bool ng, .slice A n c, .bool pl, .bool mi, .bool na, .bool ot, v64 cnt] 31)) :=
    ⟨hx0, cell_of_blk hb0 0, cell_of_blk hb0 1, cell_of_blk hb0 2, cell_of_blk hb0 3, cell_of_blk hb0 4, cell_of_blk hb0 5, cell_of_blk hb0 6⟩
  clear hb0 hx0
  generalize w.alloc (.cells #[.bool ng, .slice A n c, .bool pl, .bool mi, .bool na, .bool ot, v64 cnt] 31) = W0 at hS0 ⊢
  generalize w.heap.size = b at hS0 ⊢
  go_region_held3 (fun V => Held7 w b (.bool ng) (.slice A n c) (.bool pl) (.bool mi) (.bool na) (.bool ot) (v64 cnt) V)
    (first | exact hS0 | assumption | exact held7_mono (by assumption) (by assumption) | exact held7_drew (by assumption) | go_keep)
    (first | (go_at_call 17; refine H17 _ (And.left (by assumption)) _ ?_; intro w1 y1)
           | (go_at_call 63; refine H63 _ (And.left (by assumption)) _ ?_; intro w2 y2)
           | (go_at_call 61; refine H61 _ (And.left (by assumption)) _ ?_)
           | (go_at_call 60; refine H60 _ (And.left (by assumption)) _ ?_; intro w4 y4)
           | (go_at_call 64; refine H64 _ (And.left (by assumption)) _ ?_; intro w5 y5)
           | (go_at_call 65; refine H65 _ (And.left (by assumption)) _ ?_; intro w6 y6)
           | (go_at_call 66; refine H66 _ (And.left (by assumption)) _ ?_; intro w7 y7)
           | (go_at_call 40; refine H40 _ _ _ ?_))
  have fin := K w7 (And.left ‹Held7 w b (.bool ng) (.slice A n c) (.bool pl) (.bool mi) (.bool na) (.bool ot) (v64 cnt) w7›)
  clear K H17 H63 H61 H60 H64 H65 H66 H40
  go_wp2
  exact fin
end Go.Proofs.YtjngofngjbjpbaaGreatDoor
end
