/- exact.nearest. exact.Sum: Count, special, one, Value, Mean. exact.Sum.Mean; abacusref03.Same; abacuslaw09.summed. abacuslaw09.summed. exact.finite, and floats that a law names. a sum's text, read: plain. -/
import Derived.Test.YtjngofngjbjpbaaGreatDoorJa13
import Derived.Test.YtjngofngjbjpbaaGreatDoorJa14
import Derived.BigQuiet
import Derived.Test.YtjngofngjbjpbaaGreatDoorJa9
import Derived.Lib.SplitLaws
import Derived.Lib.Join
import Derived.Lib.ParseIntB
import Derived.Lib.ItoaNum

section
set_option linter.unusedSimpArgs false
set_option linter.unusedVariables false
namespace Go.Proofs.YtjngofngjbjpbaaGreatDoor
open Go.RowKit

theorem Ext.blk {w w' : World} (hx : Ext w w') {b : Nat} {o : Obj} (h : w.heap[b]? = some o) : w'.heap[b]? = some o := (hx.block _ (Array.getElem?_eq_some_iff.1 h).1).trans h
theorem blk_alloc {w : World} {b : Nat} {o : Obj} (h : w.heap[b]? = some o) (x : Obj) : (w.alloc x).heap[b]? = some o := Ext.blk ((Ext.rfl' w).alloc' x) h
theorem blk_lt {w : World} {b : Nat} {o : Obj} (h : w.heap[b]? = some o) : b < w.heap.size := (Array.getElem?_eq_some_iff.1 h).1
theorem blk_far {w : World} {b : Nat} {o : Option Obj} (h : w.heap[b]? = o) (g i : Nat) (v : Value) (hne : b ≠ g) : (w.setCell ⟨g, i, none⟩ v).heap[b]? = o := (Below.heap_setCell _ _ _ _ hne).trans h
theorem cmp_int {R : Ending → World → Prop} (s1 s2 : Bool) (A B : Option Addr) (na nb ca cb k1 k2 : Nat) (x y : Int) (w : World) (hk1 : k1 ≤ 1099511627776) (hk2 : k2 ≤ 1099511627776)
    (h1 : IsInt w s1 A na ca k1 x) (h2 : IsInt w s2 B nb cb k2 y) (K : ∀ w', Ext w w' → R (.returned (.int .i64 (cmpN x.natAbs y.natAbs))) w') :
    Calls Tryz.prog 147 #[intV s1 A na ca, intV s2 B nb cb] w R := by
  obtain ⟨f, e1, e2, e3, e4, e5, e6, rfl⟩ := h1.ex
  obtain ⟨g, g1, g2, g3, g4, g5, g6, rfl⟩ := h2.ex
  rw [sg_natAbs, sg_natAbs] at K
  exact cmp_any s1 s2 A B na nb ca cb f g w (by omega) (by omega) e3 g3 e4 g4 e5 g5 K

theorem sign_ge {z : Int} (h : ¬ z < 0) : 0 ≤ z.sign := by
  cases z with
  | ofNat n => cases n with
    | zero => exact Int.le_refl _
    | succ n => exact (by decide : (0 : Int) ≤ 1)
  | negSucc n => exact absurd (Int.negSucc_lt_zero n) h
theorem IsInt.blLe {w : World} {neg : Bool} {A : Option Addr} {n c k : Nat} {z : Int} (h : IsInt w neg A n c k z) : bl z.natAbs ≤ 64 * k := by
  obtain ⟨f, h1, h2, h3, h4, h5, h6, h7⟩ := h.ex
  rw [h7, sg_natAbs]
  refine bl_le_of_lt (Nat.lt_of_lt_of_le (valB_lt n h4) ?_)
  rw [W64_eq, ← Nat.pow_mul]
  exact Nat.pow_le_pow_right (by decide) (by omega)
theorem cells4_mono {g q : Nat} {a b c d : Value} {W W' : World} (hx : Ext W W') (h : g < W.heap.size ∧ q < W.heap.size ∧ W.cell? ⟨g, 0, none⟩ = some a ∧ W.cell? ⟨g, 1, none⟩ = some b ∧ W.cell? ⟨q, 0, none⟩ = some c ∧ W.cell? ⟨q, 1, none⟩ = some d) :
    g < W'.heap.size ∧ q < W'.heap.size ∧ W'.cell? ⟨g, 0, none⟩ = some a ∧ W'.cell? ⟨g, 1, none⟩ = some b ∧ W'.cell? ⟨q, 0, none⟩ = some c ∧ W'.cell? ⟨q, 1, none⟩ = some d := by
  obtain ⟨h0, h1, h2, h3, h4, h5⟩ := h
  exact ⟨Nat.lt_of_lt_of_le h0 hx.size, Nat.lt_of_lt_of_le h1 hx.size, (hx.cell (p := ⟨g, 0, none⟩) h0).trans h2, (hx.cell (p := ⟨g, 1, none⟩) h0).trans h3, (hx.cell (p := ⟨q, 0, none⟩) h1).trans h4, (hx.cell (p := ⟨q, 1, none⟩) h1).trans h5⟩

set_option maxHeartbeats 8000000 in
theorem nearest_any {R : Ending → World → Prop} (s1 s2 : Bool) (A B : Option Addr) (n1 c1 k1 n2 c2 k2 d : Nat) (z : Int) (w : World) (hk1 : k1 ≤ 16777216) (hk2 : k2 ≤ 16777216)
    (h1 : IsInt w s1 A n1 c1 k1 z) (h2 : IsInt w s2 B n2 c2 k2 (d : Int)) (hd : 0 < d)
    (K : ∀ w', Ext w w' → R (.returned (.float .f64 (nearF z d))) w') :
    Calls Tryz.prog 128 #[intV s1 A n1 c1, intV s2 B n2 c2] w R := by
  go_enter Tryz.func128, Tryz.ntmps128
  go_wp2_with fail
  have b2 := blk_1_2 w (.cells #[.bool s1, .slice A n1 c1] 112) (.cells #[.bool s2, .slice B n2 c2] 112)
  have b3 := blk_2_2 w (.cells #[.bool s1, .slice A n1 c1] 112) (.cells #[.bool s2, .slice B n2 c2] 112)
  have hx0 : Ext w ((w.alloc (.cells #[.bool s1, .slice A n1 c1] 112)).alloc (.cells #[.bool s2, .slice B n2 c2] 112)) := ((Ext.rfl' w).alloc' _).alloc' _
  generalize (w.alloc (.cells #[.bool s1, .slice A n1 c1] 112)).alloc (.cells #[.bool s2, .slice B n2 c2] 112) = W at b2 b3 hx0 ⊢
  refine abs_any s1 A n1 c1 k1 z W (h1.ext hx0) ?_
  intro w1 hi1 hx1
  have d2 := hx1.blk b2
  have d3 := hx1.blk b3
  go_wp2_with fail
  have e2 := blk_alloc d2 (.cells #[.bool false, .slice A n1 c1] 112)
  have e3 := blk_alloc d3 (.cells #[.bool false, .slice A n1 c1] 112)
  have e5 := blk_1_1 w1 (.cells #[.bool false, .slice A n1 c1] 112)
  have hx2 : Ext w (w1.alloc (.cells #[.bool false, .slice A n1 c1] 112)) := hx0.trans' (hx1.alloc' _)
  have hi2 := hi1.ext ((Ext.rfl' w1).alloc' (.cells #[.bool false, .slice A n1 c1] 112))
  have h1' := h1.ext hx2
  have h2' := h2.ext hx2
  generalize w1.alloc (.cells #[.bool false, .slice A n1 c1] 112) = W2 at e2 e3 e5 hx2 hi2 h1' h2' ⊢
  clear hi1 hx1 b2 b3 hx0 d2 d3
  have hS0 : w1.heap.size < W2.heap.size ∧ w.heap.size + 1 < W2.heap.size ∧ W2.cell? ⟨w1.heap.size, 0, none⟩ = some (.bool false) ∧ W2.cell? ⟨w1.heap.size, 1, none⟩ = some (.slice A n1 c1) ∧ W2.cell? ⟨w.heap.size + 1, 0, none⟩ = some (.bool s2) ∧ W2.cell? ⟨w.heap.size + 1, 1, none⟩ = some (.slice B n2 c2) :=
    ⟨blk_lt e5, blk_lt e3, cell_of_blk e5 0, cell_of_blk e5 1, cell_of_blk e3 0, cell_of_blk e3 1⟩
  have hl1 := hi2.blLe
  have hl2 := h2'.blLe
  rw [Int.natAbs_natCast] at hl1 hl2
  have hss := sh_start (a := z.natAbs) hd
  have hqs := q_start (a := z.natAbs) (d := d) (s := bl z.natAbs - bl d - 54) hd (Nat.le_refl _)
  have HA := fun W (hW : Ext W2 W) (R' : Ending → World → Prop) (K' : ∀ w', Ext W w' → R' (.returned (.int .i64 (bl z.natAbs : Nat))) w') => len_any false A n1 c1 k1 _ W (by omega) (hi2.ext hW) (R := R') K'
  have HB := fun W (hW : Ext W2 W) (R' : Ending → World → Prop) (K' : ∀ w', Ext W w' → R' (.returned (.int .i64 (bl d : Nat))) w') => len_any s2 B n2 c2 k2 _ W (by omega) (h2'.ext hW) (R := R') K'
  obtain ⟨la, hla⟩ : ∃ la, la = bl z.natAbs := ⟨_, rfl⟩
  obtain ⟨ld, hld⟩ : ∃ ld, ld = bl d := ⟨_, rfl⟩
  rw [← hla] at hl1 hss hqs
  rw [← hld] at hl2 hss hqs
  simp only [← hla] at HA
  simp only [← hld] at HB
  obtain ⟨s0, hs0⟩ : ∃ s0, s0 = la - ld - 54 := ⟨_, rfl⟩
  rw [← hs0] at hss hqs
  have hmax : max ((la : Int) - (ld : Int) - 54) 0 = (s0 : Int) := by omega
  have hs0l : s0 ≤ la := by omega
  have wr1 : IntKind.i64.wrap ((la : Int) - (ld : Int)) = (la : Int) - (ld : Int) := wrapI_in _ (by omega) (by omega)
  have wr2 : IntKind.i64.wrap ((la : Int) - (ld : Int) - 54) = (la : Int) - (ld : Int) - 54 := wrapI_in _ (by omega) (by omega)
  clear hs0 hla hld
  go_region_held3 (fun V => w1.heap.size < V.heap.size ∧ w.heap.size + 1 < V.heap.size ∧ V.cell? ⟨w1.heap.size, 0, none⟩ = some (.bool false) ∧ V.cell? ⟨w1.heap.size, 1, none⟩ = some (.slice A n1 c1) ∧ V.cell? ⟨w.heap.size + 1, 0, none⟩ = some (.bool s2) ∧ V.cell? ⟨w.heap.size + 1, 1, none⟩ = some (.slice B n2 c2))
    (first | exact hS0 | exact cells4_mono (by assumption) (by assumption) | go_keep)
    (first | (go_at_call 212; with_reducible refine HA _ (Below.drew (Ext.rfl' W2)) _ ?_; intro w3 hx3)
           | (go_at_call 212; with_reducible refine HB w3 hx3.undrew _ ?_; intro w4 hx4))
  try clear wr1 wr2
  have hx4' : Ext W2 w4 := hx3.undrew.trans' hx4
  have f2 := hx4'.blk e2
  have f3 := hx4'.blk e3
  have f5 := hx4'.blk e5
  have hi4 := hi2.ext hx4'
  have h14 := h1'.ext hx4'
  have h24 := h2'.ext hx4'
  have hxw := hx2.trans' hx4'
  have cA : w4.cell? ⟨w1.heap.size, 0, none⟩ = some (.bool false) := cell_of_blk f5 0
  have cB : w4.cell? ⟨w1.heap.size, 1, none⟩ = some (.slice A n1 c1) := cell_of_blk f5 1
  have cC : w4.cell? ⟨w.heap.size + 1, 0, none⟩ = some (.bool s2) := cell_of_blk f3 0
  have cD : w4.cell? ⟨w.heap.size + 1, 1, none⟩ = some (.slice B n2 c2) := cell_of_blk f3 1
  clear hx4' hx4 hx3 HA HB hi2 h1' h2' e2 e3 e5
  go_wp2_with fail
  refine lsh_any s2 B n2 c2 k2 s0 (d : Int) w4 (by omega) (by omega) h24 ?_
  intro n7 A7 m7 d7 w7 hi7 hx7
  have g2 := blk_alloc (hx7.blk f2) (.cells #[.bool n7, .slice A7 m7 d7] 112)
  have g3 := blk_alloc (hx7.blk f3) (.cells #[.bool n7, .slice A7 m7 d7] 112)
  have g5 := blk_alloc (hx7.blk f5) (.cells #[.bool n7, .slice A7 m7 d7] 112)
  have g7 := blk_1_1 w7 (.cells #[.bool n7, .slice A7 m7 d7] 112)
  have hxA : Ext w4 (w7.alloc (.cells #[.bool n7, .slice A7 m7 d7] 112)) := hx7.alloc' _
  have hi7' : IsInt w7 n7 A7 m7 d7 (k2 + s0 / 64 + 1) ((d * 2 ^ s0 : Nat) : Int) := by
    have : ((d * 2 ^ s0 : Nat) : Int) = (d : Int) * 2 ^ s0 := by rw [Int.natCast_mul, Int.natCast_pow]; rfl
    rw [this]; exact hi7
  obtain rfl := hi7'.neg_false
  have cA : w7.cell? ⟨w1.heap.size, 0, none⟩ = some (.bool false) := cell_of_blk (hx7.blk f5) 0
  have cB : w7.cell? ⟨w1.heap.size, 1, none⟩ = some (.slice A n1 c1) := cell_of_blk (hx7.blk f5) 1
  have lA : w1.heap.size < w7.heap.size := blk_lt (hx7.blk f5)
  go_wp2_with fail
  have hiA := hi4.ext hxA
  have hiB := hi7'.ext ((Ext.rfl' w7).alloc' (.cells #[.bool false, .slice A7 m7 d7] 112))
  have hiC := h14.ext hxA
  have hiD := h24.ext hxA
  have hxW := hxw.trans' hxA
  have hqs2 : z.natAbs / (d * 2 ^ s0) < 9223372036854775808 := Nat.lt_trans hqs (by decide)
  have hDpos : 0 < d * 2 ^ s0 := Nat.mul_pos hd (Nat.two_pow_pos _)
  generalize w7.alloc (.cells #[.bool false, .slice A7 m7 d7] 112) = W8 at g2 g3 g5 g7 hxA hiA hiB hiC hiD hxW ⊢
  refine quo_any A A7 n1 c1 k1 m7 d7 (k2 + s0 / 64 + 1) z.natAbs (d * 2 ^ s0) W8 (by omega) (by omega) hiA hiB hDpos hqs2 ?_
  intro A9 m9 d9 w9 hi9 hx9
  have hsB : shOf z.natAbs d ≤ 64 * k1 := by
    unfold shOf
    have : bl (z.natAbs / d) ≤ 64 * k1 := bl_le_of_lt (Nat.lt_of_le_of_lt (Nat.div_le_self _ _) (Nat.lt_of_lt_of_le (lt_bl _) (Nat.pow_le_pow_right (by decide) (by have := hiA.blLe; rw [Int.natAbs_natCast] at this; exact this))))
    omega
  have hKn : nearF z d = (let s := shOf z.natAbs d; let m := rnd z.natAbs (d * 2 ^ s); if m = 0 then 0 else if z < 0 then 9223372036854775808 + ldx m ((s : Int) - 1074) else ldx m ((s : Int) - 1074)) := rfl
  rw [hKn] at K
  clear hKn
  obtain ⟨a, ha⟩ : ∃ a, a = z.natAbs := ⟨_, rfl⟩
  rw [← ha] at hss hqs hqs2 hsB hi9 hiA K
  obtain ⟨m0, hm0⟩ : ∃ m0, m0 = a / (d * 2 ^ s0) := ⟨_, rfl⟩
  rw [← hm0] at hqs hqs2
  have l9 : w.heap.size ≤ w9.heap.size := (hxW.trans' hx9).size
  have l7 : w.heap.size ≤ w7.heap.size := (hxw.trans' hx7).size
  have i2 := blk_alloc (hx9.blk g2) (.cells #[.bool false, .slice A9 m9 d9] 112)
  have i3 := blk_alloc (hx9.blk g3) (.cells #[.bool false, .slice A9 m9 d9] 112)
  have i5 := blk_alloc (hx9.blk g5) (.cells #[.bool false, .slice A9 m9 d9] 112)
  have i7 := blk_alloc (hx9.blk g7) (.cells #[.bool false, .slice A9 m9 d9] 112)
  have i9 := blk_1_1 w9 (.cells #[.bool false, .slice A9 m9 d9] 112)
  have n57 : w1.heap.size ≠ w7.heap.size := by omega
  have n59 : w1.heap.size ≠ w9.heap.size := by have := blk_lt (hx9.blk g5); omega
  have n79 : w7.heap.size ≠ w9.heap.size := by have := blk_lt (hx9.blk g7); omega
  have n27 : w.heap.size ≠ w7.heap.size := by have := blk_lt (hx7.blk f2); omega
  have n29 : w.heap.size ≠ w9.heap.size := by have := blk_lt (hx9.blk g2); omega
  have n37 : w.heap.size + 1 ≠ w7.heap.size := by have := blk_lt (hx7.blk f3); omega
  have n39 : w.heap.size + 1 ≠ w9.heap.size := by have := blk_lt (hx9.blk g3); omega
  have hxZ : Ext W8 (w9.alloc (.cells #[.bool false, .slice A9 m9 d9] 112)) := hx9.alloc' _
  have j1 := hiA.ext hxZ
  have j2 := hiB.ext hxZ
  have j3 := hiC.ext hxZ
  have j4 := hiD.ext hxZ
  have j5 := hi9.ext ((Ext.rfl' w9).alloc' (.cells #[.bool false, .slice A9 m9 d9] 112))
  have jx := hxW.trans' hxZ
  try rw [← ha, ← hm0]
  go_wp2_with fail
  try rw [← ha, ← hm0]
  generalize w9.alloc (.cells #[.bool false, .slice A9 m9 d9] 112) = W10 at i2 i3 i5 i7 i9 j1 j2 j3 j4 j5 jx ⊢
  generalize w1.heap.size = p5 at *
  generalize w7.heap.size = p7 at *
  generalize w9.heap.size = p9 at *
  have HAa : Hid (a = z.natAbs) := ha
  have HM0 : Hid (m0 = a / (d * 2 ^ s0)) := hm0
  clear ha hm0 hi9 hx9 hxZ hiA hiB hiC hiD hxW hqs2 hDpos g2 g3 g5 g7 hxA hi7' hi7 hx7 cA cB lA f2 f3 f5 hi4 h14 h24 hxw hS0 hl1 hl2 hmax hx2 h1 h2 hs0l
  go_loopw [6, 8] (fun sv mv wr => ∃ (s m : Nat) (A7 : Option Addr) (m7 d7 : Nat) (A9 : Option Addr) (m9 d9 : Nat), sv = .int .i64 (s : Int) ∧ mv = v64 m ∧ Hid (m = a / (d * 2 ^ s)) ∧ s ≤ shOf a d ∧ m < 2 ^ 55 ∧
      wr.heap[w.heap.size]? = some (.cells #[.bool s1, .slice A n1 c1] 112 (0, 0)) ∧ wr.heap[w.heap.size + 1]? = some (.cells #[.bool s2, .slice B n2 c2] 112 (0, 0)) ∧ wr.heap[p5]? = some (.cells #[.bool false, .slice A n1 c1] 112 (0, 0)) ∧
      wr.heap[p7]? = some (.cells #[.bool false, .slice A7 m7 d7] 112 (0, 0)) ∧ wr.heap[p9]? = some (.cells #[.bool false, .slice A9 m9 d9] 112 (0, 0)) ∧
      IsInt wr false A n1 c1 k1 (a : Int) ∧ IsInt wr false A7 m7 d7 (k2 + s / 64 + 1) ((d * 2 ^ s : Nat) : Int) ∧ IsInt wr s1 A n1 c1 k1 z ∧ IsInt wr s2 B n2 c2 k2 (d : Int) ∧ IsInt wr false A9 m9 d9 k1 ((a % (d * 2 ^ s) : Nat) : Int) ∧ Ext w wr)
    (fun _ mv _ => (intOf mv).toNat)
  case atStart => exact ⟨s0, m0, A7, m7, d7, A9, m9, d9, rfl, rfl, HM0, hss, hqs, i2, i3, i5, i7, i9, j1, j2, j3, j4, j5, jx⟩
  case round =>
    obtain ⟨s, m, A7, m7, d7, A9, m9, d9, rfl, rfl, hm, hs, hm55, o2, o3, o5, o7, o9, y1, y2, y3, y4, y5, yx⟩ := hrel
    clear i2 i3 i5 i7 i9 j1 j2 j3 j4 j5 jx HM0 hss hqs
    obtain ⟨q, hq⟩ : ∃ q, q = m / 9007199254740992 := ⟨_, rfl⟩
    have hq' : (m : Int) / 9007199254740992 = (q : Int) := by omega
    by_cases hm53 : m < 9007199254740992
    · have hq0 : q = 0 := by omega
      subst hq0
      clear hq
      go_wp2_with fail
      have hse : s = shOf a d := sh_exit hs (by rw [← show m = a / (d * 2 ^ s) from hm]; omega)
      obtain ⟨D, hD⟩ : ∃ D, D = d * 2 ^ s := ⟨_, rfl⟩
      obtain ⟨r, hr⟩ : ∃ r, r = a % D := ⟨_, rfl⟩
      have hm' : m = a / D := by rw [hD]; exact hm
      obtain ⟨Mf, hMf⟩ : ∃ Mf, Mf = rnd a D := ⟨_, rfl⟩
      obtain ⟨cc, hcc⟩ : ∃ cc, cc = cmpN (r * 2) D := ⟨_, rfl⟩
      have hcase : (cc = 1 ∧ Mf = m + 1) ∨ (cc = 0 ∧ (m : Int) % 2 = 1 ∧ Mf = m + 1) ∨ (cc = 0 ∧ (m : Int) % 2 = 0 ∧ Mf = m) ∨ (cc = -1 ∧ Mf = m) := by
        rw [hcc, hMf]
        unfold cmpN rnd
        rw [← hr, ← hm']
        by_cases e1 : r * 2 < D
        · rw [if_pos e1, if_neg (by omega)]; exact Or.inr (Or.inr (Or.inr ⟨rfl, rfl⟩))
        · rw [if_neg e1]
          by_cases e2 : r * 2 = D
          · rw [if_pos e2]
            by_cases e3 : m % 2 = 1
            · rw [if_pos (by omega)]; exact Or.inr (Or.inl ⟨rfl, by omega, rfl⟩)
            · rw [if_neg (by omega)]; exact Or.inr (Or.inr (Or.inl ⟨rfl, by omega, rfl⟩))
          · rw [if_neg e2, if_pos (by omega)]; exact Or.inl ⟨rfl, rfl⟩
      have hMl : Mf < 18446744073709551616 := by rcases hcase with h | h | h | h <;> omega
      simp only [← hse, ← hD, ← hMf] at K
      have hs64 : s ≤ 1073741824 := by omega
      have ht := fun W (hW : Ext wr W) (R' : Ending → World → Prop) (K' : ∀ neg' A' m c' w', IsInt w' neg' A' m c' (k1 + 1 / 64 + 1) ((a % (d * 2 ^ s) : Nat) * 2 ^ 1 : Int) → Ext W w' → R' (.returned (intV neg' A' m c')) w') => lsh_any (R := R') false A9 m9 d9 k1 1 ((a % (d * 2 ^ s) : Nat) : Int) W (by omega) (by omega) (y5.ext hW) K'
      rw [← hD, ← hr] at ht
      rw [← hD] at y2
      have hS1 : p9 < wr.heap.size ∧ p7 < wr.heap.size ∧ wr.cell? ⟨p9, 0, none⟩ = some (.bool false) ∧ wr.cell? ⟨p9, 1, none⟩ = some (.slice A9 m9 d9) ∧ wr.cell? ⟨p7, 0, none⟩ = some (.bool false) ∧ wr.cell? ⟨p7, 1, none⟩ = some (.slice A7 m7 d7) :=
        ⟨blk_lt o9, blk_lt o7, cell_of_blk o9 0, cell_of_blk o9 1, cell_of_blk o7 0, cell_of_blk o7 1⟩
      have hk9 : k1 + 1 / 64 + 1 ≤ 1099511627776 := by omega
      have hk7 : k2 + s / 64 + 1 ≤ 1099511627776 := by omega
      have hrr : ((r : Int) * 2 ^ 1).natAbs = r * 2 := by omega
      have hDn : ((D : Nat) : Int).natAbs = D := Int.natAbs_natCast D
      have HCC : Hid (cc = cmpN (r * 2) D) := hcc
      clear hcc hMf hm' hr hD hse hs hm o3 o5 y1 y4
      go_region_held3 (fun V => p9 < V.heap.size ∧ p7 < V.heap.size ∧ V.cell? ⟨p9, 0, none⟩ = some (.bool false) ∧ V.cell? ⟨p9, 1, none⟩ = some (.slice A9 m9 d9) ∧ V.cell? ⟨p7, 0, none⟩ = some (.bool false) ∧ V.cell? ⟨p7, 1, none⟩ = some (.slice A7 m7 d7))
        (first | exact hS1 | exact cells4_mono (by assumption) (by assumption) | go_keep)
        (first | (go_at_call 182; refine ht _ (Below.drew (Ext.rfl' wr)) _ ?_; intro nn AA mm dd w5 hi5 hx5)
               | (go_at_call 147; refine cmp_int nn false AA A7 mm m7 dd d7 _ _ _ _ w5 hk9 hk7 hi5 (y2.ext hx5.undrew) ?_; intro w6 hx6; rw [hrr, hDn, ← show cc = cmpN (r * 2) D from HCC]))
      have hxx := hx5.undrew.trans' hx6
      have b2 := hxx.blk o2
      have y3' := y3.ext hxx
      have yx' := yx.trans' hxx
      clear HCC ht hx5 hx6 hi5 y2 y3 y5 o2 o7 o9 hS1 hxx yx
      have a2 : w6.cell? ⟨w.heap.size, 0, none⟩ = some (.bool s1) := cell_of_blk b2 0
      have a3 : w6.cell? ⟨w.heap.size, 1, none⟩ = some (.slice A n1 c1) := cell_of_blk b2 1
      by_cases hM0 : Mf = 0
      · have fin := K w6 yx'
        rw [if_pos hM0] at fin
        clear K
        rcases hcase with ⟨rfl, h⟩ | ⟨rfl, _, h⟩ | ⟨rfl, h5, h⟩ | ⟨rfl, h⟩
        · omega
        · omega
        · obtain rfl : m = 0 := by omega
          clear hM0 h
          go_wp2_with fail
          exact fin
        · obtain rfl : m = 0 := by omega
          clear hM0 h
          go_wp2_with fail
          exact fin
      · simp only [if_neg hM0] at K
        obtain ⟨hX0, hX1⟩ := ldx_pos (m := Mf) (e := (s : Int) - 1074) hM0 hMl (by omega)
        have HL : ∀ (N : Int) (hN : N = (Mf : Int)) (W : World), Calls Tryz.prog 214 #[.float .f64 (floatOfInt .f64 N), .int .i64 ((s : Int) - 1074)] W fun e w' => e = .returned (.float .f64 (ldx Mf ((s : Int) - 1074))) ∧ w' = W := fun N hN W => by
          subst hN
          exact ldexp_any Mf _ hM0 hMl (by omega) (by omega) W ⟨rfl, rfl⟩
        generalize ldx Mf ((s : Int) - 1074) = X at K hX0 hX1 HL
        have hun : ∀ W : World, (Op.unary UnOp.neg (.float .f64 X)).run Tryz.prog W = .ok (.float .f64 (9223372036854775808 + X)) W := fun W => by
          have := neg_word X (by omega)
          rw [if_pos (by omega), Nat.add_comm] at this
          rw [← this]; rfl
        have HS := fun (R' : Ending → World → Prop) K' => sign_any (R := R') s1 A n1 c1 k1 z w6 y3' K'
        have hsg : (z < 0 → z.sign < 0) ∧ (¬ z < 0 → 0 ≤ z.sign) := ⟨fun h => by rw [Int.sign_eq_neg_one_of_neg h]; decide, fun h => sign_ge h⟩
        generalize z.sign = sgn at HS hsg
        have hmne : ∀ N : Int, N = (Mf : Int) → (N == 0) = false := fun N hN => by simp; omega
        have hwup : Mf = m + 1 → IntKind.u64.wrap ((m : Int) + 1) = (m : Int) + 1 := fun h => by rw [IntKind.wrap_u64]; omega
        by_cases hz : z < 0
        · have hs0 := hsg.1 hz
          rw [if_pos hz] at K
          clear hsg hz
          rcases hcase with ⟨rfl, h⟩ | ⟨rfl, h5, h⟩ | ⟨rfl, h5, h⟩ | ⟨rfl, h⟩
          · have hw := hwup h
            have he := hmne ((m : Int) + 1) (by omega)
            have HL1 := HL ((m : Int) + 1) (by omega)
            clear hwup hmne HL h hM0
            go_wp2_with (first | (go_at_call 214; refine (HL1 _).mono ?_; rintro e w2 ⟨rfl, rfl⟩) | (go_at_call 55; refine HS _ ?_; intro w8 hx8))
            exact yx'.trans' (by assumption)
          · have hw := hwup h
            have he := hmne ((m : Int) + 1) (by omega)
            have HL1 := HL ((m : Int) + 1) (by omega)
            clear hwup hmne HL h hM0
            go_wp2_with (first | (go_at_call 214; refine (HL1 _).mono ?_; rintro e w2 ⟨rfl, rfl⟩) | (go_at_call 55; refine HS _ ?_; intro w8 hx8))
            exact yx'.trans' (by assumption)
          · have he := hmne (m : Int) (by omega)
            have HL1 := HL (m : Int) (by omega)
            clear hwup hmne HL h hM0
            go_wp2_with (first | (go_at_call 214; refine (HL1 _).mono ?_; rintro e w2 ⟨rfl, rfl⟩) | (go_at_call 55; refine HS _ ?_; intro w8 hx8))
            exact yx'.trans' (by assumption)
          · have he := hmne (m : Int) (by omega)
            have HL1 := HL (m : Int) (by omega)
            clear hwup hmne HL h hM0
            go_wp2_with (first | (go_at_call 214; refine (HL1 _).mono ?_; rintro e w2 ⟨rfl, rfl⟩) | (go_at_call 55; refine HS _ ?_; intro w8 hx8))
            exact yx'.trans' (by assumption)
        · have hs0 := hsg.2 hz
          rw [if_neg hz] at K
          clear hsg hz hun
          rcases hcase with ⟨rfl, h⟩ | ⟨rfl, h5, h⟩ | ⟨rfl, h5, h⟩ | ⟨rfl, h⟩
          · have hw := hwup h
            have he := hmne ((m : Int) + 1) (by omega)
            have HL1 := HL ((m : Int) + 1) (by omega)
            clear hwup hmne HL h hM0
            go_wp2_with (first | (go_at_call 214; refine (HL1 _).mono ?_; rintro e w2 ⟨rfl, rfl⟩) | (go_at_call 55; refine HS _ ?_; intro w8 hx8))
            exact yx'.trans' (by assumption)
          · have hw := hwup h
            have he := hmne ((m : Int) + 1) (by omega)
            have HL1 := HL ((m : Int) + 1) (by omega)
            clear hwup hmne HL h hM0
            go_wp2_with (first | (go_at_call 214; refine (HL1 _).mono ?_; rintro e w2 ⟨rfl, rfl⟩) | (go_at_call 55; refine HS _ ?_; intro w8 hx8))
            exact yx'.trans' (by assumption)
          · have he := hmne (m : Int) (by omega)
            have HL1 := HL (m : Int) (by omega)
            clear hwup hmne HL h hM0
            go_wp2_with (first | (go_at_call 214; refine (HL1 _).mono ?_; rintro e w2 ⟨rfl, rfl⟩) | (go_at_call 55; refine HS _ ?_; intro w8 hx8))
            exact yx'.trans' (by assumption)
          · have he := hmne (m : Int) (by omega)
            have HL1 := HL (m : Int) (by omega)
            clear hwup hmne HL h hM0
            go_wp2_with (first | (go_at_call 214; refine (HL1 _).mono ?_; rintro e w2 ⟨rfl, rfl⟩) | (go_at_call 55; refine HS _ ?_; intro w8 hx8))
            exact yx'.trans' (by assumption)
    · have hq0 : 0 < (q : Int) := by omega
      clear hq
      have t0 : wr.cell? ⟨w.heap.size + 1, 0, none⟩ = some (.bool s2) := cell_of_blk o3 0
      have t1 : wr.cell? ⟨w.heap.size + 1, 1, none⟩ = some (.slice B n2 c2) := cell_of_blk o3 1
      have hs64 : s ≤ 1073741824 := by omega
      go_wp2_with fail
      have hnx := sh_next hs (by rw [← show m = a / (d * 2 ^ s) from hm]; omega)
      have hlsh := fun (R' : Ending → World → Prop) K' => lsh_any (R := R') s2 B n2 c2 k2 (s + 1) (d : Int) wr (by omega) (by omega) y4 K'
      rw [show ((s + 1 : Nat) : Int) = (s : Int) + 1 from by omega] at hlsh
      refine hlsh _ ?_
      intro n' A' m' e' w2 hi2 hx2
      clear hlsh
      have hi2' : IsInt w2 n' A' m' e' (k2 + (s + 1) / 64 + 1) ((d * 2 ^ (s + 1) : Nat) : Int) := by
        have : ((d * 2 ^ (s + 1) : Nat) : Int) = (d : Int) * 2 ^ (s + 1) := by rw [Int.natCast_mul, Int.natCast_pow]; rfl
        rw [this]; exact hi2
      obtain rfl := hi2'.neg_false
      have r7 := hx2.blk o7
      have t2 : w2.cell? ⟨p7, 0, none⟩ = some (.bool false) := cell_of_blk r7 0
      have t3 : w2.cell? ⟨p7, 1, none⟩ = some (.slice A7 m7 d7) := cell_of_blk r7 1
      have t4 := frozen_of_blk r7 0
      have t5 := frozen_of_blk r7 1
      have t6 : w2.cell? ⟨p5, 0, none⟩ = some (.bool false) := cell_of_blk (hx2.blk o5) 0
      have t7 : w2.cell? ⟨p5, 1, none⟩ = some (.slice A n1 c1) := cell_of_blk (hx2.blk o5) 1
      have n75 : p7 ≠ p5 := Ne.symm n57
      have ty7 := tyAt_of_blk r7
      have u2 := blk_far (blk_far (hx2.blk o2) p7 0 (.bool false) n27) p7 1 (.slice A' m' e') n27
      have u3 := blk_far (blk_far (hx2.blk o3) p7 0 (.bool false) n37) p7 1 (.slice A' m' e') n37
      have u5 := blk_far (blk_far (hx2.blk o5) p7 0 (.bool false) n57) p7 1 (.slice A' m' e') n57
      have u9 := blk_far (blk_far (hx2.blk o9) p7 0 (.bool false) (Ne.symm n79)) p7 1 (.slice A' m' e') (Ne.symm n79)
      have u7 := blk_setCell (blk_setCell r7 0 (.bool false)) 1 (.slice A' m' e')
      have v1 := (y1.ext hx2).stored p7 ty7 (.bool false) (.slice A' m' e')
      have v2 := hi2'.stored p7 ty7 (.bool false) (.slice A' m' e')
      have v3 := (y3.ext hx2).stored p7 ty7 (.bool false) (.slice A' m' e')
      have v4 := (y4.ext hx2).stored p7 ty7 (.bool false) (.slice A' m' e')
      have vx := (yx.trans' hx2).stored p7 l7 (.bool false) (.slice A' m' e')
      clear o2 o3 o5 o7 o9 y1 y2 y3 y4 y5 yx hi2 hi2' hx2 r7
      go_wp2_with fail
      generalize (w2.setCell ⟨p7, 0, none⟩ (.bool false)).setCell ⟨p7, 1, none⟩ (.slice A' m' e') = w3 at u2 u3 u5 u7 u9 v1 v2 v3 v4 vx ⊢
      clear t0 t1 t2 t3 t4 t5 t6 t7 ty7
      refine quo_any A A' n1 c1 k1 m' e' (k2 + (s + 1) / 64 + 1) a (d * 2 ^ (s + 1)) w3 (by omega) (by omega) v1 v2 (Nat.mul_pos hd (Nat.two_pow_pos _)) ?_ ?_
      · rw [q_half, ← show m = a / (d * 2 ^ s) from hm]; omega
      intro B9 q9 e9 w4 hi4 hx4
      have r9 := hx4.blk u9
      have t2 : w4.cell? ⟨p9, 0, none⟩ = some (.bool false) := cell_of_blk r9 0
      have t3 : w4.cell? ⟨p9, 1, none⟩ = some (.slice A9 m9 d9) := cell_of_blk r9 1
      have t4 := frozen_of_blk r9 0
      have t5 := frozen_of_blk r9 1
      have ty9 := tyAt_of_blk r9
      have x2 := blk_far (blk_far (hx4.blk u2) p9 0 (.bool false) n29) p9 1 (.slice B9 q9 e9) n29
      have x3 := blk_far (blk_far (hx4.blk u3) p9 0 (.bool false) n39) p9 1 (.slice B9 q9 e9) n39
      have x5 := blk_far (blk_far (hx4.blk u5) p9 0 (.bool false) n59) p9 1 (.slice B9 q9 e9) n59
      have x7 := blk_far (blk_far (hx4.blk u7) p9 0 (.bool false) n79) p9 1 (.slice B9 q9 e9) n79
      have x9 := blk_setCell (blk_setCell r9 0 (.bool false)) 1 (.slice B9 q9 e9)
      have z1 := (v1.ext hx4).stored p9 ty9 (.bool false) (.slice B9 q9 e9)
      have z2 := (v2.ext hx4).stored p9 ty9 (.bool false) (.slice B9 q9 e9)
      have z3 := (v3.ext hx4).stored p9 ty9 (.bool false) (.slice B9 q9 e9)
      have z4 := (v4.ext hx4).stored p9 ty9 (.bool false) (.slice B9 q9 e9)
      have z5 := hi4.stored p9 ty9 (.bool false) (.slice B9 q9 e9)
      have zx := (vx.trans' hx4).stored p9 l9 (.bool false) (.slice B9 q9 e9)
      obtain ⟨M, hM⟩ : ∃ M, M = a / (d * 2 ^ (s + 1)) := ⟨_, rfl⟩
      rw [← hM]
      have hMh : M = m / 2 := by rw [hM, q_half, ← show m = a / (d * 2 ^ s) from hm]
      have hMl : M < 2 ^ 55 := by omega
      have hMm : M < m := by omega
      have HM' : Hid (M = a / (d * 2 ^ (s + 1))) := hM
      clear hM hMh u2 u3 u5 u7 u9 v1 v2 v3 v4 vx hi4 hx4 r9 ty9
      go_wp2_with fail
      go_roundw
      case rel => exact ⟨s + 1, M, A', m', e', B9, q9, e9, by go_num, rfl, HM', hnx, hMl, x2, x3, x5, x7, x9, z1, z2, z3, z4, z5, zx⟩
      case measure => simp [intOf]; omega
end Go.Proofs.YtjngofngjbjpbaaGreatDoor
end

section
set_option linter.unusedSimpArgs false
set_option linter.unusedVariables false
namespace Go.Proofs.YtjngofngjbjpbaaGreatDoor
open Go.RowKit

theorem count_any {R : Ending → World → Prop} (g k : Nat) (s : SumS) (w : World) (h : IsSum w g k s) (K : R (.returned (v64 s.count)) w) :
    Calls Tryz.prog 61 #[.pointer (some ⟨g, 0, none⟩)] w R := by
  obtain ⟨neg, A, n, c, h1, h2, h3⟩ := h
  have q6 : w.cell? ⟨g, 6, none⟩ = some (v64 s.count) := cell_of_blk h1 6
  clear h1 h2 h3
  go_enter Tryz.func61, Tryz.ntmps61
  go_wp2
  exact K

/-- a sum's value where it is no finite one above or below 0; false: it is -/
def specF (s : SumS) : Nat × Bool :=
  if s.nan || (s.plus && s.minus) then (9221120237041090561, true)
  else if s.plus then (9218868437227405312, true)
  else if s.minus then (18442240474082181120, true)
  else if decide (0 < s.count) && !s.other then (9223372036854775808, true)
  else (0, decide (s.z = 0))

set_option maxHeartbeats 2000000 in
theorem special_any {R : Ending → World → Prop} (g k : Nat) (s : SumS) (w : World) (h : IsSum w g k s)
    (K : ∀ w', Ext w w' → R (.returned (.tuple #[.float .f64 (specF s).1, .bool (specF s).2])) w') :
    Calls Tryz.prog 130 #[.pointer (some ⟨g, 0, none⟩)] w R := by
  obtain ⟨neg, A, n, c, h1, h2, h3⟩ := h
  have q0 : w.cell? ⟨g, 0, none⟩ = some (.bool neg) := cell_of_blk h1 0
  have q1 : w.cell? ⟨g, 1, none⟩ = some (.slice A n c) := cell_of_blk h1 1
  have q2 : w.cell? ⟨g, 2, none⟩ = some (.bool s.plus) := cell_of_blk h1 2
  have q3 : w.cell? ⟨g, 3, none⟩ = some (.bool s.minus) := cell_of_blk h1 3
  have q4 : w.cell? ⟨g, 4, none⟩ = some (.bool s.nan) := cell_of_blk h1 4
  have q5 : w.cell? ⟨g, 5, none⟩ = some (.bool s.other) := cell_of_blk h1 5
  have q6 : w.cell? ⟨g, 6, none⟩ = some (v64 s.count) := cell_of_blk h1 6
  have r92 := run92_9221120237041090561
  have h215 : ∀ W, Calls Tryz.prog 215 #[.int .i64 1] W fun e w' => e = .returned (.float .f64 9218868437227405312) ∧ w' = W := fun W => infP W ⟨rfl, rfl⟩
  have h215m : ∀ W, Calls Tryz.prog 215 #[.int .i64 (-1)] W fun e w' => e = .returned (.float .f64 18442240474082181120) ∧ w' = W := fun W => infM W ⟨rfl, rfl⟩
  have h216 : ∀ W, Calls Tryz.prog 216 #[.float .f64 0, .float .f64 13830554455654793216] W fun e w' => e = .returned (.float .f64 9223372036854775808) ∧ w' = W := fun W => copysign_any 13830554455654793216 (by decide) W ⟨rfl, rfl⟩
  have HS := fun (R' : Ending → World → Prop) K' => sign_any (R := R') neg A n c k s.z w h2 K'
  have hz0 : (s.z.sign == 0) = decide (s.z = 0) := by
    by_cases e : s.z = 0
    · rw [e]; rfl
    · rw [decide_eq_false e]; simp [Int.sign_eq_zero_iff_zero, e]
  obtain ⟨z, pl, mi, na, ot, cnt⟩ := s
  simp only at *
  obtain ⟨sgn, hsgn⟩ : ∃ sgn, sgn = z.sign := ⟨_, rfl⟩
  rw [← hsgn] at hz0
  simp only [← hsgn] at HS
  obtain ⟨bz, hbz⟩ : ∃ bz, bz = decide (z = 0) := ⟨_, rfl⟩
  rw [← hbz] at hz0
  unfold specF at K
  simp only [← hbz] at K
  clear hsgn hbz h1 h2 h3
  by_cases hc : 0 < cnt
  all_goals
    have hc' : decide (0 < (cnt : Int)) = decide (0 < cnt) := by congr 1; apply propext; omega
    simp only [hc, decide_true, decide_false] at K hc'
    cases na <;> cases pl <;> cases mi <;> cases ot
  all_goals
    simp only [Bool.false_or, Bool.true_or, Bool.false_and, Bool.true_and, Bool.and_false, Bool.and_true, Bool.not_true, Bool.not_false, if_true, if_false, Bool.false_eq_true] at K
    go_enter Tryz.func130, Tryz.ntmps130
    go_wp2_with (first | (go_at_call 215; with_reducible refine (h215 _).mono ?_; rintro e w2 ⟨rfl, rfl⟩) | (go_at_call 215; with_reducible refine (h215m _).mono ?_; rintro e w2 ⟨rfl, rfl⟩) | (go_at_call 216; with_reducible refine (h216 _).mono ?_; rintro e w2 ⟨rfl, rfl⟩) | (go_at_call 55; refine HS _ ?_; intro w8 hx8))
    first | exact Ext.rfl' _ | assumption | exact K _ (Ext.rfl' _) | exact K _ (by assumption)

set_option maxHeartbeats 400000 in
theorem one_any {R : Ending → World → Prop} (w : World) (K : ∀ neg' A' m c' w', IsInt w' neg' A' m c' 1 (1 : Int) → Ext w w' → R (.returned (intV neg' A' m c')) w') :
    Calls Tryz.prog 129 #[] w R := by
  have hof := fun W (R' : Ending → World → Prop) K' => of_any (R := R') 1 W (by decide) K'
  go_enter Tryz.func129, Tryz.ntmps129
  go_wp2_with fail
  have b0 := blk_1_1 w (.cells #[.bool false, .slice none 0 0] 112)
  have hx0 : Ext w (w.alloc (.cells #[.bool false, .slice none 0 0] 112)) := (Ext.rfl' w).alloc' _
  generalize w.alloc (.cells #[.bool false, .slice none 0 0] 112) = W at b0 hx0 ⊢
  refine hof _ _ ?_
  intro neg' A' m c' w1 hi hx1
  have b1 := hx1.blk b0
  obtain ⟨hi', d0, d1⟩ := ret_int' b1 hi
  have q5 : w1.cell? ⟨w.heap.size, 0, none⟩ = some (.bool false) := cell_of_blk b1 0
  have q6 : w1.cell? ⟨w.heap.size, 1, none⟩ = some (.slice none 0 0) := cell_of_blk b1 1
  have q7 := frozen_of_blk b1 0
  have q8 := frozen_of_blk b1 1
  have fin := K neg' A' m c' _ hi' ((hx0.trans' hx1).stored w.heap.size (Nat.le_refl _) _ _)
  clear K hi hi' hx1 hx0 hof
  go_wp2
  exact bodyPost_ret (v := intV neg' A' m c') (by simp [results, Tryz.results129, go_sem, d0, d1]) rfl fin

/-- the float nearest to a sum -/
def valueF (s : SumS) : Nat := if (specF s).2 then (specF s).1 else nearF s.z 1
/-- the float nearest to what each has -/
def meanF (s : SumS) : Nat := if s.count = 0 then 9221120237041090561 else if (specF s).2 then (specF s).1 else nearF s.z s.count

set_option maxHeartbeats 2000000 in
theorem value_any {R : Ending → World → Prop} (g k : Nat) (s : SumS) (w : World) (hk : k ≤ 16777216) (h : IsSum w g k s)
    (K : ∀ w', Ext w w' → R (.returned (.float .f64 (valueF s))) w') :
    Calls Tryz.prog 60 #[.pointer (some ⟨g, 0, none⟩)] w R := by
  have HSP := fun (R' : Ending → World → Prop) K' => special_any (R := R') g k s w h K'
  obtain ⟨neg, A, n, c, h1, h2, h3⟩ := h
  unfold valueF at K
  cases hb : (specF s).2
  · rw [hb] at K HSP
    simp only [Bool.false_eq_true, if_false] at K
    clear hb
    go_enter Tryz.func60, Tryz.ntmps60
    go_wp2_with (go_at_call 130; refine HSP _ ?_; intro w1 hx1)
    have g0 := hx1.blk h1
    have h2' := h2.ext hx1
    have hgl := blk_lt g0
    have e0 : w1.cell? ⟨g, 0, none⟩ = some (.bool neg) := cell_of_blk g0 0
    have e1 : w1.cell? ⟨g, 1, none⟩ = some (.slice A n c) := cell_of_blk g0 1
    have hS0 : g < w1.heap.size ∧ w1.cell? ⟨g, 0, none⟩ = some (.bool neg) ∧ w1.cell? ⟨g, 1, none⟩ = some (.slice A n c) := ⟨hgl, e0, e1⟩
    go_region_held3 (fun V => g < V.heap.size ∧ V.cell? ⟨g, 0, none⟩ = some (.bool neg) ∧ V.cell? ⟨g, 1, none⟩ = some (.slice A n c))
      (first | exact hS0 | exact cells2_mono (by assumption) (by assumption) | go_keep)
      (first | (go_at_call 129; refine one_any _ ?_; intro n2 A2 m2 c2 w2 hi2 hx2)
             | (go_at_call 128; refine nearest_any neg n2 A A2 n c k m2 c2 1 1 s.z w2 hk (by omega) (h2'.ext hx2.undrew) hi2 (by omega) ?_; intro w3 hx3))
    have fin := K w3 (hx1.trans' (hx2.undrew.trans' hx3))
    clear K HSP
    go_wp2
    exact fin
  · rw [hb] at K HSP
    simp only [if_true] at K
    clear hb
    go_enter Tryz.func60, Tryz.ntmps60
    go_wp2_with (go_at_call 130; refine HSP _ ?_; intro w1 hx1)
    first | exact hx1 | exact K _ hx1
end Go.Proofs.YtjngofngjbjpbaaGreatDoor
end

section
set_option linter.unusedSimpArgs false
set_option linter.unusedVariables false
namespace Go.Proofs.YtjngofngjbjpbaaGreatDoor
open Go.RowKit

theorem cells3_mono {g : Nat} {p q r : Value} {W W' : World} (hx : Ext W W') (h : g < W.heap.size ∧ W.cell? ⟨g, 0, none⟩ = some p ∧ W.cell? ⟨g, 1, none⟩ = some q ∧ W.cell? ⟨g, 6, none⟩ = some r) :
    g < W'.heap.size ∧ W'.cell? ⟨g, 0, none⟩ = some p ∧ W'.cell? ⟨g, 1, none⟩ = some q ∧ W'.cell? ⟨g, 6, none⟩ = some r := by
  obtain ⟨h0, h1, h2, h3⟩ := h
  exact ⟨Nat.lt_of_lt_of_le h0 hx.size, (hx.cell (p := ⟨g, 0, none⟩) h0).trans h1, (hx.cell (p := ⟨g, 1, none⟩) h0).trans h2, (hx.cell (p := ⟨g, 6, none⟩) h0).trans h3⟩

set_option maxHeartbeats 2000000 in
theorem mean_any {R : Ending → World → Prop} (g k : Nat) (s : SumS) (w : World) (hk : k ≤ 16777216) (h : IsSum w g k s)
    (K : ∀ w', Ext w w' → R (.returned (.float .f64 (meanF s))) w') :
    Calls Tryz.prog 65 #[.pointer (some ⟨g, 0, none⟩)] w R := by
  have HSP := fun (R' : Ending → World → Prop) K' => special_any (R := R') g k s w h K'
  have r92 := run92_9221120237041090561
  obtain ⟨neg, A, n, c, h1, h2, h3⟩ := h
  have q6 : w.cell? ⟨g, 6, none⟩ = some (v64 s.count) := cell_of_blk h1 6
  unfold meanF at K
  by_cases hc0 : s.count = 0
  · have fin := K w (Ext.rfl' w)
    rw [if_pos hc0] at fin
    have hcz : ((s.count : Int) == 0) = true := by simp; omega
    clear K HSP hc0
    go_enter Tryz.func65, Tryz.ntmps65
    go_wp2_with fail
    exact fin
  · have hcz : ((s.count : Int) == 0) = false := by simp; omega
    rw [if_neg hc0] at K
    have hpos : 0 < s.count := by omega
    clear hc0
    cases hb : (specF s).2
    · rw [hb] at K HSP
      simp only [Bool.false_eq_true, if_false] at K
      clear hb
      go_enter Tryz.func65, Tryz.ntmps65
      go_wp2_with (go_at_call 130; refine HSP _ ?_; intro w1 hx1)
      have g0 := hx1.blk h1
      have h2' := h2.ext hx1
      have hgl := blk_lt g0
      have e0 : w1.cell? ⟨g, 0, none⟩ = some (.bool neg) := cell_of_blk g0 0
      have e1 : w1.cell? ⟨g, 1, none⟩ = some (.slice A n c) := cell_of_blk g0 1
      have e6 : w1.cell? ⟨g, 6, none⟩ = some (v64 s.count) := cell_of_blk g0 6
      have hcW : s.count < W64 := h3
      have hS0 : g < w1.heap.size ∧ w1.cell? ⟨g, 0, none⟩ = some (.bool neg) ∧ w1.cell? ⟨g, 1, none⟩ = some (.slice A n c) ∧ w1.cell? ⟨g, 6, none⟩ = some (v64 s.count) := ⟨hgl, e0, e1, e6⟩
      go_region_held3 (fun V => g < V.heap.size ∧ V.cell? ⟨g, 0, none⟩ = some (.bool neg) ∧ V.cell? ⟨g, 1, none⟩ = some (.slice A n c) ∧ V.cell? ⟨g, 6, none⟩ = some (v64 s.count))
        (first | exact hS0 | exact cells3_mono (by assumption) (by assumption) | go_keep)
        (first | (go_at_call 137; refine of_any s.count _ hcW ?_; intro n2 A2 m2 c2 w2 hi2 hx2)
               | (go_at_call 128; refine nearest_any neg n2 A A2 n c k m2 c2 1 s.count s.z w2 hk (by omega) (h2'.ext hx2.undrew) hi2 hpos ?_; intro w3 hx3))
      have fin := K w3 (hx1.trans' (hx2.undrew.trans' hx3))
      clear K HSP
      go_wp2
      exact fin
    · rw [hb] at K HSP
      simp only [if_true] at K
      clear hb
      go_enter Tryz.func65, Tryz.ntmps65
      go_wp2_with (go_at_call 130; refine HSP _ ?_; intro w1 hx1)
      first | exact hx1 | exact K _ hx1

/-- two floats are the same -/
def sameF (a b : Nat) : Bool := if isNaNb a || isNaNb b then isNaNb a && isNaNb b else a == b
theorem sameF_refl (a : Nat) : sameF a a = true := by unfold sameF; cases isNaNb a <;> simp
theorem same_any {R : Ending → World → Prop} (a b : Nat) (w : World) (K : R (.returned (.bool (sameF a b))) w) : Calls Tryz.prog 40 #[.float .f64 a, .float .f64 b] w R := by
  have r1 := run98 a
  have r2 := run98 b
  have o1 : (FloatKind.f64.format.order a a != some .eq) = isNaNb a := order_nan_self a
  have o2 : (FloatKind.f64.format.order b b != some .eq) = isNaNb b := order_nan_self b
  unfold sameF at K
  have he : (((a : Int) == (b : Int)) : Bool) = (a == b) := by
    by_cases e : a = b
    · subst e; simp
    · rw [beq_eq_false_iff_ne.2 e, beq_eq_false_iff_ne.2 (by omega)]
  cases h1 : isNaNb a <;> cases h2 : isNaNb b <;> rw [h1] at o1 K <;> rw [h2] at o2 K
  all_goals
    try simp only [Bool.or_false, Bool.or_true, Bool.and_false, Bool.and_true, Bool.false_eq_true, if_false, if_true] at K
    go_enter Tryz.func40, Tryz.ntmps40
    go_wp2
  all_goals exact K
end Go.Proofs.YtjngofngjbjpbaaGreatDoor
end

section
set_option linter.unusedSimpArgs false
set_option linter.unusedVariables false
namespace Go.Proofs.YtjngofngjbjpbaaGreatDoor
open Go.RowKit

def foldS (f : Nat → Nat) : Nat → SumS
  | 0 => zeroS
  | n + 1 => addS (foldS f n) (f n)
set_option exponentiation.threshold 3000
/-- above the amount of any float -/
def BIG : Nat := 2 ^ 2100
theorem BIG_eq : BIG = 2 ^ 2100 := rfl
theorem fm_lt (b : Nat) : fm b < BIG := by
  rw [BIG_eq]
  unfold fm
  split
  · refine Nat.lt_of_lt_of_le (Nat.mod_lt _ (by decide)) ?_
    rw [show (4503599627370496 : Nat) = 2 ^ 52 from by decide]
    exact Nat.pow_le_pow_right (by decide) (by decide)
  · have h1 : b % 4503599627370496 + 4503599627370496 ≤ 2 ^ 53 := by omega
    have h2 : b / 4503599627370496 % 2048 - 1 ≤ 2046 := by omega
    refine Nat.lt_of_le_of_lt (Nat.mul_le_mul h1 (Nat.pow_le_pow_right (by decide) h2)) ?_
    rw [← Nat.pow_add]
    exact Nat.pow_lt_pow_right (by decide) (by decide)
theorem fv_le (b : Nat) : (fv b).natAbs ≤ BIG := by
  unfold fv
  rw [sg_natAbs]
  exact Nat.le_of_lt (fm_lt b)
theorem addS_z (s : SumS) (b : Nat) : (addS s b).z.natAbs ≤ s.z.natAbs + BIG := by
  unfold addS
  simp only
  split
  · exact Nat.le_trans (Int.natAbs_add_le _ _) (Nat.add_le_add_left (fv_le b) _)
  · exact Nat.le_add_right _ _
theorem foldS_z (f : Nat → Nat) (n : Nat) : (foldS f n).z.natAbs ≤ n * BIG := by
  induction n with
  | zero => exact Nat.zero_le _
  | succ n ih =>
    refine Nat.le_trans (addS_z _ _) ?_
    rw [Nat.succ_mul]
    exact Nat.add_le_add_right ih _
theorem small_z {z : Int} {n : Nat} (h : z.natAbs ≤ n * BIG) (hn : n ≤ 1152921504606846976) : z.natAbs < 2 ^ (64 * 40) := by
  refine Nat.lt_of_le_of_lt h (Nat.lt_of_le_of_lt (Nat.mul_le_mul_right _ hn) ?_)
  rw [BIG_eq, show (1152921504606846976 : Nat) = 2 ^ 60 from by decide, ← Nat.pow_add]
  exact Nat.pow_lt_pow_right (by decide) (by decide)
theorem IsSum.tight {w : World} {g k k' : Nat} {s : SumS} (h : IsSum w g k s) (hz : s.z.natAbs < 2 ^ (64 * k')) : IsSum w g k' s := by
  obtain ⟨neg, A, n, c, h1, h2, h3⟩ := h
  exact ⟨neg, A, n, c, h1, h2.tight hz, h3⟩

/-- n cells from a slice's address on (wherever in its block); cell i holds f i -/
def RowG (w : World) (A : Option Addr) (n : Nat) (f : Nat → Value) : Prop :=
  0 < n → ∃ b o, A = some ⟨b, o, none⟩ ∧ b < w.heap.size ∧ ∀ i, i < n → w.cell? ⟨b, o + i, none⟩ = some (f i)
theorem RowAt.g {w : World} {t : TypeId} {A : Option Addr} {n : Nat} {f : Nat → Value} (h : RowAt w t A n f) : RowG w A n f := fun h0 => by
  obtain ⟨g, rfl, hl, hc⟩ := h.cell h0
  exact ⟨g, 0, rfl, hl, fun i hi => by rw [Nat.zero_add]; exact hc i hi⟩
theorem RowG.ext {w w' : World} {A : Option Addr} {n : Nat} {f : Nat → Value} (h : RowG w A n f) (hx : Ext w w') : RowG w' A n f := fun h0 => by
  obtain ⟨b, o, e, hl, hc⟩ := h h0
  exact ⟨b, o, e, Nat.lt_of_lt_of_le hl hx.size, fun i hi => (hx.cell (p := ⟨b, o + i, none⟩) hl).trans (hc i hi)⟩
theorem RowG.congr {w : World} {A : Option Addr} {n : Nat} {f g : Nat → Value} (h : RowG w A n f) (e : ∀ i, i < n → f i = g i) : RowG w A n g := fun h0 => by
  obtain ⟨b, o, e1, hb, hc⟩ := h h0
  exact ⟨b, o, e1, hb, fun i hi => by rw [hc i hi, e i hi]⟩

set_option maxHeartbeats 1000000 in
theorem summed_any {R : Ending → World → Prop} (A : Option Addr) (n c : Nat) (f : Nat → Nat) (w : World) (hn : n ≤ 1099511627776) (hf : ∀ i, i < n → f i < 18446744073709551616) (hr : RowG w A n (fun i => .float .f64 (f i)))
    (K : ∀ g w', w.heap.size ≤ g → IsSum w' g 40 (foldS f n) → Ext w w' → R (.returned (.tuple #[.pointer (some ⟨g, 0, none⟩), .bool true])) w') :
    Calls Tryz.prog 18 #[.slice A n c] w R := by
  go_enter Tryz.func18, Tryz.ntmps18
  go_wp2_with fail
  refine newS_any w ?_
  intro w1 hs1 hx1
  have hge : w.heap.size ≤ w.heap.size := Nat.le_refl _
  obtain ⟨g, hg⟩ : ∃ g, g = w.heap.size := ⟨_, rfl⟩
  rw [← hg] at hs1 ⊢
  have hgw : w.heap.size ≤ g := by omega
  clear hg hge
  go_wp2_with fail
  go_loopw [12] (fun iv wr => ∃ i : Nat, i ≤ n ∧ iv = .int .i64 (i : Int) ∧ IsSum wr g 40 (foldS f i) ∧ Ext w wr) (fun iv _ => n - (intOf iv).toNat)
  case atStart => exact ⟨0, Nat.zero_le _, rfl, hs1.le (by omega), hx1⟩
  case round =>
    obtain ⟨i, hi, rfl, hs, hx⟩ := hrel
    by_cases hlt : i < n
    · obtain ⟨a, o, rfl, ha, hcell⟩ := hr (by omega)
      have hci : wr.cell? ⟨a, o + i, none⟩ = some (.float .f64 (f i)) := (hx.cell (p := ⟨a, o + i, none⟩) ha).trans (hcell i hlt)
      have hfi := hf i hlt
      clear hcell hs1 hx1
      go_wp2_with fail
      refine addS_any g 40 (foldS f i) (f i) wr hfi (by omega) hs ?_
      intro w2 hs2 hg2
      have hs3 : IsSum w2 g 40 (foldS f (i + 1)) := IsSum.tight hs2 (small_z (foldS_z f (i + 1)) (by omega))
      have hx2 : Ext w w2 := Below.grown hx hg2 hx.size (fun k hk => by cases hk; exact hgw)
      go_wp2_with fail
      go_roundw
      case rel => exact ⟨i + 1, by omega, by go_num, hs3, hx2⟩
      case measure => simp [intOf]; omega
    · obtain rfl : i = n := by omega
      have fin := K g wr hgw hs hx
      clear K
      go_wp2_with fail
      exact fin
end Go.Proofs.YtjngofngjbjpbaaGreatDoor
end

section
set_option linter.unusedSimpArgs false
set_option linter.unusedVariables false
namespace Go.Proofs.YtjngofngjbjpbaaGreatDoor
open Go.RowKit

theorem finite_any {R : Ending → World → Prop} (b : Nat) (h : b < 18446744073709551616) (w : World) (K : R (.returned (.bool (isFin b))) w) : Calls Tryz.prog 126 #[.float .f64 b] w R := by
  have o1 := order_self b
  have hK : isFin b = (!isNaNb b && !decide (b % 9223372036854775808 = 9218868437227405312)) := by
    unfold isFin isNaNb
    by_cases h1 : 9218868437227405312 < b % 9223372036854775808
    · simp only [h1, decide_true, decide_false, Bool.not_true, Bool.false_and]; try exact decide_eq_false (by omega)
    · simp only [h1, decide_true, decide_false, Bool.not_false, Bool.true_and]
      by_cases h2 : b % 9223372036854775808 = 9218868437227405312
      · simp only [h2, decide_true, Bool.not_true]; try exact decide_eq_false (by omega)
      · simp only [h2, decide_false, Bool.not_false]; try exact decide_eq_true (by omega)
  rw [hK] at K
  clear hK
  have HI := fun (R' : Ending → World → Prop) W K' => isInf_any (R := R') b h W K'
  obtain ⟨c, hc⟩ : ∃ c, c = decide (b % 9223372036854775808 = 9218868437227405312) := ⟨_, rfl⟩
  simp only [← hc] at K HI
  clear hc
  cases c <;> cases hn : isNaNb b <;> rw [hn] at o1 K <;> clear hn <;> simp only [Bool.not_true, Bool.not_false, Bool.true_and, Bool.false_and] at o1 K
  all_goals
    have o2 : (FloatKind.f64.format.order b b == some .eq) = _ := o1
    clear o1
    go_enter Tryz.func126, Tryz.ntmps126
    go_wp2_with (go_at_call 99; refine HI _ _ ?_)
    all_goals first | exact K | (simp_all; done) | (simpa [*] using K)

theorem add_01_02 : Ieee.double.add 4591870180066957722 4596373779694328218 = some 4599075939470750516 := by decide +kernel
theorem add_run (w : World) : (binOp .add 49 (.float .f64 4591870180066957722) (.float .f64 4596373779694328218)).run Tryz.prog w = .ok (.float .f64 4599075939470750516) w := by
  have e : FloatKind.f64.format.add 4591870180066957722 4596373779694328218 = some 4599075939470750516 := add_01_02
  simp [binOp, go_sem, Op.floatArith, e]
theorem two_z : fv 4591870180066957722 + fv 4596373779694328218 - fv 4599075939470750516 ≠ 0 := by decide +kernel
theorem two_rest : nearF (fv 4591870180066957722 + fv 4596373779694328218 - fv 4599075939470750516) 1 = 13582856476149415936 := by decide +kernel

set_option maxHeartbeats 1000000 in
/-- Two of 0.1 and 0.2 -/
theorem two_01_02 {R : Ending → World → Prop} (w : World) (K : ∀ w', Ext w w' → R (.returned (.tuple #[.float .f64 4599075939470750516, .float .f64 13582856476149415936])) w') :
    Calls Tryz.prog 59 #[.float .f64 4591870180066957722, .float .f64 4596373779694328218] w R := by
  have hadd := add_run
  have HF1 : ∀ (R' : Ending → World → Prop) W, R' (.returned (.bool true)) W → Calls Tryz.prog 126 #[.float .f64 4591870180066957722] W R' := fun R' W k => finite_any _ (by decide) W k
  have HF2 : ∀ (R' : Ending → World → Prop) W, R' (.returned (.bool true)) W → Calls Tryz.prog 126 #[.float .f64 4596373779694328218] W R' := fun R' W k => finite_any _ (by decide) W k
  have HF3 : ∀ (R' : Ending → World → Prop) W, R' (.returned (.bool true)) W → Calls Tryz.prog 126 #[.float .f64 4599075939470750516] W R' := fun R' W k => finite_any _ (by decide) W k
  have hz := two_z
  have hr := two_rest
  have HU1 := fun (R' : Ending → World → Prop) W K' => units_any (R := R') 4591870180066957722 (by decide) W K'
  have HU2 := fun (R' : Ending → World → Prop) W K' => units_any (R := R') 4596373779694328218 (by decide) W K'
  have HU3 := fun (R' : Ending → World → Prop) W K' => units_any (R := R') 4599075939470750516 (by decide) W K'
  generalize fv 4591870180066957722 = z1 at *
  generalize fv 4596373779694328218 = z2 at *
  generalize fv 4599075939470750516 = z3 at *
  go_enter Tryz.func59, Tryz.ntmps59
  go_wp2_with (first | (go_at_call 126; first | with_reducible refine HF1 _ _ ?_ | with_reducible refine HF2 _ _ ?_ | with_reducible refine HF3 _ _ ?_))
  refine HU1 _ _ ?_
  intro s1 A1 m1 c1 w1 i1 x1
  go_wp2_with fail
  refine HU2 _ _ ?_
  intro s2 A2 m2 c2 w2 i2 x2
  have i1' := i1.ext x2
  go_wp2_with fail
  refine add_any s1 s2 A1 A2 m1 c1 40 m2 c2 40 z1 z2 _ (by omega) (by omega) i1' i2 ?_
  intro s3 A3 m3 c3 w3 i3 x3
  go_wp2_with fail
  refine HU3 _ _ ?_
  intro s4 A4 m4 c4 w4 i4 x4
  have i3' := i3.ext x4
  go_wp2_with fail
  refine sub_any s3 s4 A3 A4 m3 c3 41 m4 c4 40 (z1 + z2) z3 _ (by omega) (by omega) i3' i4 ?_
  intro s5 A5 m5 c5 w5 i5 x5
  have hx5 : Ext w w5 := x1.trans' (x2.trans' (x3.trans' (x4.trans' x5)))
  clear i1 i1' i2 i3 i3' i4 x1 x2 x3 x4 x5 HU1 HU2 HU3
  go_wp2_with fail
  have b0 := blk_1_1 w5 (.cells #[.bool s5, .slice A5 m5 c5] 112)
  have hx6 : Ext w5 (w5.alloc (.cells #[.bool s5, .slice A5 m5 c5] 112)) := (Ext.rfl' w5).alloc' _
  have hx7 := hx5.trans' hx6
  have i6 := i5.ext hx6
  generalize w5.alloc (.cells #[.bool s5, .slice A5 m5 c5] 112) = W at b0 hx7 i6 ⊢
  obtain ⟨g, hg⟩ : ∃ g, g = w5.heap.size := ⟨_, rfl⟩
  rw [← hg] at b0 ⊢
  clear hx6 i5 hx5 hg
  refine sign_any s5 A5 m5 c5 _ _ W i6 ?_
  intro w8 x8
  have hsg : ((z1 + z2 - z3).sign == 0) = false := by
    simp [Int.sign_eq_zero_iff_zero, hz]
  obtain ⟨sgn, hsgn⟩ : ∃ sgn, sgn = (z1 + z2 - z3).sign := ⟨_, rfl⟩
  rw [← hsgn] at hsg ⊢
  have i8 := i6.ext x8
  have b8 := x8.blk b0
  have hx8 := hx7.trans' x8
  clear hsgn hz i6 hx7 x8 b0
  have e0 : w8.cell? ⟨g, 0, none⟩ = some (.bool s5) := cell_of_blk b8 0
  have e1 : w8.cell? ⟨g, 1, none⟩ = some (.slice A5 m5 c5) := cell_of_blk b8 1
  have hgl := blk_lt b8
  have hS0 : g < w8.heap.size ∧ w8.cell? ⟨g, 0, none⟩ = some (.bool s5) ∧ w8.cell? ⟨g, 1, none⟩ = some (.slice A5 m5 c5) := ⟨hgl, e0, e1⟩
  go_wp2_with fail
  go_region_held3 (fun V => g < V.heap.size ∧ V.cell? ⟨g, 0, none⟩ = some (.bool s5) ∧ V.cell? ⟨g, 1, none⟩ = some (.slice A5 m5 c5))
    (first | exact hS0 | exact cells2_mono (by assumption) (by assumption) | go_keep)
    (first | (go_at_call 129; refine one_any _ ?_; intro n2 A2 m2 c2 w2 hi2 hx2)
           | (go_at_call 128; refine nearest_any s5 n2 A5 A2 m5 c5 _ m2 c2 1 1 (z1 + z2 - z3) w2 (by omega) (by omega) (i8.ext hx2.undrew) hi2 (by omega) ?_; intro w3 hx3))
  have fin := K _ (hx8.trans' (hx2.undrew.trans' hx3))
  clear K hr
  go_wp2
  exact fin

def kL : Nat → Nat | 0 => 6103021453049119613 | 1 => 4607182418800017408 | _ => 15326393489903895421
theorem fop_add {a b c : Nat} (h : Ieee.double.add a b = some c) (w : World) : (binOp .add 49 (.float .f64 a) (.float .f64 b)).run Tryz.prog w = .ok (.float .f64 c) w := by
  have e : FloatKind.f64.format.add a b = some c := h
  simp [binOp, go_sem, Op.floatArith, e]
theorem fop_sub {a b c : Nat} (h : Ieee.double.sub a b = some c) (w : World) : (binOp .sub 49 (.float .f64 a) (.float .f64 b)).run Tryz.prog w = .ok (.float .f64 c) w := by
  have e : FloatKind.f64.format.sub a b = some c := h
  simp [binOp, go_sem, Op.floatArith, e]
theorem k1 : Ieee.double.add 0 6103021453049119613 = some 6103021453049119613 := by decide +kernel
theorem k2 : Ieee.double.sub 6103021453049119613 6103021453049119613 = some 0 := by decide +kernel
theorem k3 : Ieee.double.add 0 0 = some 0 := by decide +kernel
theorem k4 : Ieee.double.add 6103021453049119613 4607182418800017408 = some 6103021453049119613 := by decide +kernel
theorem k5 : Ieee.double.add 0 4607182418800017408 = some 4607182418800017408 := by decide +kernel
theorem k6 : Ieee.double.add 6103021453049119613 15326393489903895421 = some 0 := by decide +kernel
theorem k7 : Ieee.double.sub 6103021453049119613 0 = some 6103021453049119613 := by decide +kernel
theorem k8 : Ieee.double.add 4607182418800017408 0 = some 4607182418800017408 := by decide +kernel
theorem o1' : Ieee.double.order 0 6103021453049119613 = some .lt := by decide +kernel
theorem o2' : Ieee.double.order 6103021453049119613 4607182418800017408 = some .gt := by decide +kernel
theorem o3' : Ieee.double.order 6103021453049119613 6103021453049119613 = some .eq := by decide +kernel

def kS : Nat → Nat | 0 => 0 | 1 => 6103021453049119613 | 2 => 6103021453049119613 | _ => 0
def kC : Nat → Nat | 0 => 0 | 1 => 0 | _ => 4607182418800017408
set_option maxHeartbeats 1000000 in
theorem kahan_any {R : Ending → World → Prop} (A : Option Addr) (c : Nat) (w : World) (hr : RowAt w 49 A 3 (fun i => .float .f64 (kL i)))
    (K : R (.returned (.float .f64 4607182418800017408)) w) :
    Calls Tryz.prog 62 #[.slice A 3 c] w R := by
  obtain ⟨a, rfl, ha, hcell⟩ := hr.cell (by omega)
  have e0 : w.cell? ⟨a, 0, none⟩ = some (.float .f64 6103021453049119613) := hcell 0 (by omega)
  have e1 : w.cell? ⟨a, 1, none⟩ = some (.float .f64 4607182418800017408) := hcell 1 (by omega)
  have e2 : w.cell? ⟨a, 2, none⟩ = some (.float .f64 15326393489903895421) := hcell 2 (by omega)
  have h1 := fop_add k1
  have h2 := fop_sub k2
  have h3 := fop_add k3
  have h4 := fop_add k4
  have h5 := fop_add k5
  have h6 := fop_add k6
  have h7 := fop_sub k7
  have h8 := fop_add k8
  have o1 : FloatKind.f64.format.order 0 6103021453049119613 = some .lt := o1'
  have o2 : FloatKind.f64.format.order 6103021453049119613 4607182418800017408 = some .gt := o2'
  have o3 : FloatKind.f64.format.order 6103021453049119613 6103021453049119613 = some .eq := o3'
  have HA0 : ∀ (R' : Ending → World → Prop) W, R' (.returned (.float .f64 0)) W → Calls Tryz.prog 131 #[.float .f64 0] W R' := fun R' W k => absF _ (by decide) W k
  have HAX : ∀ (R' : Ending → World → Prop) W, R' (.returned (.float .f64 6103021453049119613)) W → Calls Tryz.prog 131 #[.float .f64 6103021453049119613] W R' := fun R' W k => absF _ (by decide) W k
  have HA1 : ∀ (R' : Ending → World → Prop) W, R' (.returned (.float .f64 4607182418800017408)) W → Calls Tryz.prog 131 #[.float .f64 4607182418800017408] W R' := fun R' W k => absF _ (by decide) W k
  have HAM : ∀ (R' : Ending → World → Prop) W, R' (.returned (.float .f64 6103021453049119613)) W → Calls Tryz.prog 131 #[.float .f64 15326393489903895421] W R' := fun R' W k => absF _ (by decide) W k
  have HF1 : ∀ (R' : Ending → World → Prop) W, R' (.returned (.bool true)) W → Calls Tryz.prog 126 #[.float .f64 4607182418800017408] W R' := fun R' W k => finite_any _ (by decide) W k
  clear hcell hr
  go_enter Tryz.func62, Tryz.ntmps62
  go_wp2_with fail
  go_loopw [3, 4, 12] (fun s k iv wr => ∃ i : Nat, i ≤ 3 ∧ iv = .int .i64 (i : Int) ∧ s = .float .f64 (kS i) ∧ k = .float .f64 (kC i) ∧ wr = w) (fun s k iv _ => 3 - (intOf iv).toNat)
  case atStart => exact ⟨0, Nat.zero_le _, rfl, rfl, rfl, rfl⟩
  case round =>
    obtain ⟨i, hi, rfl, rfl, rfl, rfl⟩ := hrel
    rcases (by omega : i = 0 ∨ i = 1 ∨ i = 2 ∨ i = 3) with rfl | rfl | rfl | rfl
    all_goals
      simp only [kS, kC]
      go_wp2_with (first | (go_at_call 131; first | with_reducible refine HA0 _ _ ?_ | with_reducible refine HAX _ _ ?_ | with_reducible refine HA1 _ _ ?_ | with_reducible refine HAM _ _ ?_) | (go_at_call 126; with_reducible refine HF1 _ _ ?_))
    · exact ⟨⟨1, by omega, rfl, rfl, rfl, trivial⟩, by decide⟩
    · exact ⟨⟨2, by omega, rfl, rfl, rfl, trivial⟩, by decide⟩
    · exact ⟨⟨3, by omega, rfl, rfl, rfl, trivial⟩, by decide⟩
    · exact K
end Go.Proofs.YtjngofngjbjpbaaGreatDoor
end

section
set_option linter.unusedSimpArgs false
set_option linter.unusedVariables false
namespace Go.Proofs.YtjngofngjbjpbaaGreatDoor
open Go.RowKit

/-- the parts between blanks -/
def wordsL : List UInt8 → List (List UInt8)
  | [] => [[]]
  | b :: r => if b = 32 then [] :: wordsL r else (b :: (wordsL r).headD []) :: (wordsL r).tail
theorem wordsL_ne (l : List UInt8) : wordsL l ≠ [] := by cases l with | nil => simp [wordsL] | cons b r => simp only [wordsL]; split <;> simp
theorem wordsL_cons (l : List UInt8) : (wordsL l).headD [] :: (wordsL l).tail = wordsL l := by
  have := wordsL_ne l
  cases h : wordsL l with
  | nil => exact absurd h this
  | cons x xs => rfl
theorem index_nil : Lib.index ([] : List UInt8) [32] = -1 := by simp [Lib.index]
theorem split_words : ∀ l : List UInt8, Lib.splitK [32] 0 (Lib.count l [32]) l = wordsL l
  | [] => by rw [Lib.count_miss index_nil]; rfl
  | b :: l => by
    have ih := split_words l
    by_cases h : b = 32
    · subst h
      have hix : Lib.index (32 :: l : List UInt8) [32] = 0 := by rw [Lib.index]; simp [List.isPrefixOf]
      rw [Lib.count_cons_eq, Nat.add_comm, Lib.splitK, hix]
      simp only [wordsL, if_true]
      rw [← ih]
      simp
    · have hp : ([32] : List UInt8).isPrefixOf (b :: l) = false := by simp [List.isPrefixOf, Ne.symm h]
      have hix : Lib.index (b :: l) [32] = if Lib.index l [32] == -1 then -1 else Lib.index l [32] + 1 := by rw [Lib.index, hp]; simp
      rw [Lib.count_cons_ne _ _ _ h]
      simp only [wordsL, if_neg h]
      rw [← ih]
      by_cases hm : Lib.index l [32] = -1
      · rw [Lib.count_miss hm]
        simp [Lib.splitK]
      · have hge := Lib.index_ge l [32]
        obtain ⟨j, hj⟩ : ∃ j : Nat, Lib.index l [32] = j := ⟨(Lib.index l [32]).toNat, by omega⟩
        have hix' : Lib.index (b :: l) [32] = ((j + 1 : Nat) : Int) := by rw [hix, if_neg (fun e => hm (beq_iff_eq.1 e)), hj]; omega
        rw [Lib.count_hit (by simp) hj]
        rw [Nat.add_comm 1, Lib.splitK, Lib.splitK, hix', hj]
        have e1 : ¬ (((j + 1 : Nat) : Int) == -1) = true := by simp; omega
        have e2 : ¬ ((j : Int) == -1) = true := by simp
        rw [if_neg e1, if_neg e2]
        simp

/-- one byte more, from the left -/
def snocW (ws : List (List UInt8)) (b : UInt8) : List (List UInt8) := if b = 32 then ws ++ [[]] else ws.dropLast ++ [(ws.getLastD []) ++ [b]]
theorem wordsL_snoc (l : List UInt8) (b : UInt8) : wordsL (l ++ [b]) = snocW (wordsL l) b := by
  induction l with
  | nil => simp only [List.nil_append, wordsL, snocW]; split <;> simp
  | cons a l ih =>
    have hne := wordsL_ne l
    simp only [List.cons_append, wordsL, ih]
    unfold snocW
    obtain ⟨x, xs, hx⟩ : ∃ x xs, wordsL l = x :: xs := by
      cases h : wordsL l with
      | nil => exact absurd h hne
      | cons x xs => exact ⟨x, xs, rfl⟩
    rw [hx]
    by_cases ha : a = 32
    · simp only [ha, if_true]
      by_cases hb : b = 32
      · simp [hb]
      · simp [hb]
    · simp only [ha, if_false]
      by_cases hb : b = 32
      · simp [hb]
      · cases xs with
        | nil => simp [hb]
        | cons y ys => simp [hb]

/-! digits -/
def isDec (b : UInt8) : Bool := 48 ≤ b.toNat && b.toNat ≤ 57
/-- digits of a kind, without needless noughts -/
def digsOk (p : UInt8 → Bool) (l : List UInt8) : Bool := !l.isEmpty && l.all p && (l.head? != some 48 || l == [48])
def decV (l : List UInt8) : Nat := l.foldl (fun n b => 10 * n + (b.toNat - 48)) 0
def hasNeg (l : List UInt8) : Bool := l.head? == some 45
def noNeg (l : List UInt8) : List UInt8 := if hasNeg l then l.tail else l
def hexV (l : List UInt8) : Nat := valB 16 (dg l) l.length

/-! the marks -/
abbrev wP : List UInt8 := [43, 105, 110, 102]
abbrev wM : List UInt8 := [45, 105, 110, 102]
abbrev wN : List UInt8 := [110, 97, 110]
abbrev wZ : List UInt8 := [45, 48]
/-- is it the first word? and the words behind it -/
def takeW (w : List UInt8) (l : List (List UInt8)) : Bool × List (List UInt8) := if l.head? = some w then (true, l.tail) else (false, l)
/-- the marks, each taken in turn -/
def marks (l : List (List UInt8)) : (Bool × Bool × Bool × Bool) × List (List UInt8) :=
  let a := takeW wP l
  let b := takeW wM a.2
  let c := takeW wN b.2
  let d := takeW wZ c.2
  ((a.1, b.1, c.1, d.1), d.2)
/-- the book: word by word; the last: was -0 seen -/
def markR (zero : Bool) (s : Option (Bool × Bool × Bool × Bool)) (w : List UInt8) : Option (Bool × Bool × Bool × Bool) :=
  match s with
  | none => none
  | some (p, m, n, z) =>
    if w = wP ∧ (!p && !m && !n && !z) = true then some (true, m, n, z)
    else if w = wM ∧ (!m && !n && !z) = true then some (p, true, n, z)
    else if w = wN ∧ (!n && !z) = true then some (p, m, true, z)
    else if w = wZ ∧ (!z && !p && !m && !n && zero) = true then some (p, m, n, true)
    else none
theorem markR_none (zero : Bool) (l : List (List UInt8)) : l.foldl (markR zero) none = none := by
  induction l with
  | nil => rfl
  | cons x l ih => rw [List.foldl_cons]; exact ih
theorem markR_z (zero p m n : Bool) (x : List UInt8) : markR zero (some (p, m, n, true)) x = none := by
  unfold markR; simp
theorem markR_n (zero p m z : Bool) (x : List UInt8) : markR zero (some (p, m, true, z)) x = none := by
  unfold markR; simp
theorem marks_is (zero : Bool) (l : List (List UInt8)) :
    l.foldl (markR zero) (some (false, false, false, false)) =
      if (marks l).2 = [] ∧ ((marks l).1.2.2.2 = true → zero = true ∧ (marks l).1.1 = false ∧ (marks l).1.2.1 = false ∧ (marks l).1.2.2.1 = false) then some (marks l).1 else none := by
  have hz : ∀ (p m n : Bool) (r : List (List UInt8)), r.foldl (markR zero) (some (p, m, n, true)) = if r = [] then some (p, m, n, true) else none := fun p m n r => by
    cases r with
    | nil => rfl
    | cons y r => rw [List.foldl_cons, markR_z, markR_none]; simp
  have hn : ∀ (p m z : Bool) (r : List (List UInt8)), r.foldl (markR zero) (some (p, m, true, z)) = if r = [] then some (p, m, true, z) else none := fun p m z r => by
    cases r with
    | nil => rfl
    | cons y r => rw [List.foldl_cons, markR_n, markR_none]; simp
  have hm : ∀ (p : Bool) (r : List (List UInt8)), r.foldl (markR zero) (some (p, true, false, false)) = if r = [] then some (p, true, false, false) else if r = [wN] then some (p, true, true, false) else none := fun p r => by
    cases r with
    | nil => rfl
    | cons y r =>
      rw [List.foldl_cons]
      by_cases hy : y = wN
      · subst hy
        have : markR zero (some (p, true, false, false)) wN = some (p, true, true, false) := by unfold markR; simp
        rw [this, hn]
        cases r <;> simp
      · have : markR zero (some (p, true, false, false)) y = none := by unfold markR; simp [hy]
        rw [this, markR_none]
        simp [hy]
  have hp : ∀ (r : List (List UInt8)), r.foldl (markR zero) (some (true, false, false, false)) = if r.head? = some wM then (if r.tail = [] then some (true, true, false, false) else if r.tail = [wN] then some (true, true, true, false) else none) else if r = [] then some (true, false, false, false) else if r = [wN] then some (true, false, true, false) else none := fun r => by
    cases r with
    | nil => rfl
    | cons y r =>
      rw [List.foldl_cons]
      by_cases hy : y = wM
      · subst hy
        have : markR zero (some (true, false, false, false)) wM = some (true, true, false, false) := by unfold markR; simp
        rw [this, hm]
        by_cases r1 : r = []
        · simp [r1]
        · by_cases r2 : r = [wN]
          · simp [r2]
          · simp [r1, r2]
      · by_cases hy2 : y = wN
        · subst hy2
          have : markR zero (some (true, false, false, false)) wN = some (true, false, true, false) := by unfold markR; simp
          rw [this, hn]
          cases r <;> simp
        · have : markR zero (some (true, false, false, false)) y = none := by unfold markR; simp [hy, hy2]
          rw [this, markR_none]
          simp [hy, hy2]
  cases l with
  | nil => simp [marks, takeW]
  | cons x r =>
    rw [List.foldl_cons]
    by_cases h1 : x = wP
    · subst h1
      have : markR zero (some (false, false, false, false)) wP = some (true, false, false, false) := by unfold markR; simp
      rw [this, hp]
      cases r with
      | nil => simp [marks, takeW]
      | cons y r =>
        by_cases hy : y = wM
        · subst hy
          cases r with
          | nil => simp [marks, takeW]
          | cons u r =>
            by_cases hu : u = wN
            · subst hu
              cases r with
              | nil => simp [marks, takeW]
              | cons v r =>
                by_cases hv : v = wZ
                · subst hv; simp [marks, takeW]
                · simp [marks, takeW, hv]
            · by_cases hv : u = wZ
              · subst hv; simp [marks, takeW]
              · simp [marks, takeW, hu, hv]
        · by_cases hu : y = wN
          · subst hu
            cases r with
            | nil => simp [marks, takeW]
            | cons v r =>
              by_cases hv : v = wZ
              · subst hv; simp [marks, takeW]
              · simp [marks, takeW, hv]
          · by_cases hv : y = wZ
            · subst hv; simp [marks, takeW]
            · simp [marks, takeW, hy, hu, hv]
    · by_cases h2 : x = wM
      · subst h2
        have : markR zero (some (false, false, false, false)) wM = some (false, true, false, false) := by unfold markR; simp
        rw [this, hm]
        cases r with
        | nil => simp [marks, takeW]
        | cons u r =>
          by_cases hu : u = wN
          · subst hu
            cases r with
            | nil => simp [marks, takeW]
            | cons v r =>
              by_cases hv : v = wZ
              · subst hv; simp [marks, takeW]
              · simp [marks, takeW, hv]
          · by_cases hv : u = wZ
            · subst hv; simp [marks, takeW]
            · simp [marks, takeW, hu, hv]
      · by_cases h3 : x = wN
        · subst h3
          have : markR zero (some (false, false, false, false)) wN = some (false, false, true, false) := by unfold markR; simp
          rw [this, hn]
          cases r with
          | nil => simp [marks, takeW]
          | cons v r =>
            by_cases hv : v = wZ
            · subst hv; simp [marks, takeW]
            · simp [marks, takeW, hv]
        · by_cases h4 : x = wZ
          · subst h4
            cases zero with
            | true =>
              have : markR true (some (false, false, false, false)) wZ = some (false, false, false, true) := by unfold markR; simp
              rw [this, hz]
              simp [marks, takeW]
            | false =>
              have : markR false (some (false, false, false, false)) wZ = none := by unfold markR; simp
              rw [this, markR_none]
              simp [marks, takeW]
          · have : markR zero (some (false, false, false, false)) x = none := by unfold markR; simp [h1, h2, h3, h4]
            rw [this, markR_none]
            simp [marks, takeW, h1, h2, h3, h4]
end Go.Proofs.YtjngofngjbjpbaaGreatDoor
end
