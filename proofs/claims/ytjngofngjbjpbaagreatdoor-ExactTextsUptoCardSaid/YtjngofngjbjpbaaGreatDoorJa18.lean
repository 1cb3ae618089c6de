/- exact.Sum.Text. -/
import Derived.Test.YtjngofngjbjpbaaGreatDoorJa16
import Derived.Test.YtjngofngjbjpbaaGreatDoorJa17
import Derived.Deep.AppendLies
import Derived.Deep.CutRange
import Derived.Deep.CutBlock

section
set_option linter.unusedSimpArgs false
set_option linter.unusedVariables false
namespace Go.Proofs.YtjngofngjbjpbaaGreatDoor
open Go.RowKit

theorem hexL_len' (V : Nat) : (hexL V).length ≤ bl V + 1 := by
  unfold hexL
  split
  · simp
  · rw [hexD_len]; omega
theorem parts_len (s : SumS) (hc : s.count < 18446744073709551616) : ([32] : List UInt8).length * (marksL s ++ [Lib.decDigits s.count]).length + Lib.lens (firstL s :: (marksL s ++ [Lib.decDigits s.count])) ≤ bl s.z.natAbs + 200 := by
  have h1 := hexL_len' s.z.natAbs
  have h2 : (Lib.decDigits s.count).length ≤ 20 := dec_short (decDigits_ok _) (by rw [decV_decDigits]; exact hc)
  unfold Lib.lens marksL firstL
  cases s.plus <;> cases s.minus <;> cases s.nan <;> cases (decide (0 < s.count) && !s.other) <;> cases (decide (s.z < 0)) <;> simp <;> omega
theorem own_one (w : World) (x : ByteArray) (o : Obj) : OwnT ((w.alloc (.cells #[.string x] 9)).alloc o) w.heap.size (.slice (some ⟨w.heap.size, 0, none⟩) 1 1) [x] := by
  unfold OwnT World.ownsRow
  refine ⟨rfl, Or.inr ⟨w.heap.size, 1, #[.string x], rfl, Nat.le_refl _, blk_1_2 w _ _, Nat.le_refl _, by decide, rfl, rfl⟩⟩

set_option maxHeartbeats 4000000 in
set_option maxRecDepth 20000 in
theorem text_any {R : Ending → World → Prop} (g k : Nat) (s : SumS) (w : World) (hk : k ≤ 1073741824) (h : IsSum w g k s) (htab : Lib.TabIs Tryz.prog w "internal/strconv.uint64pow10" .u64 Lib.pow10Tab)
    (K : ∀ w', Ext w w' → R (.returned (.string (textS s))) w') :
    Calls Tryz.prog 17 #[.pointer (some ⟨g, 0, none⟩)] w R := by
  obtain ⟨neg, A, n, c, h1, h2, h3⟩ := h
  have q0 : w.cell? ⟨g, 0, none⟩ = some (.bool neg) := cell_of_blk h1 0
  have q1 : w.cell? ⟨g, 1, none⟩ = some (.slice A n c) := cell_of_blk h1 1
  go_enter Tryz.func17, Tryz.ntmps17
  go_wp2_with fail
  refine hex_any neg A n c k s.z w hk h2 ?_
  intro w1 hx1
  have g1 := hx1.blk h1
  have q2 : w1.cell? ⟨g, 2, none⟩ = some (.bool s.plus) := cell_of_blk g1 2
  have lg1 : g < w1.heap.size := blk_lt g1
  go_wp2_with fail
  have g2 := blk_alloc (blk_alloc g1 (.cells #[.string (hexS (decide (s.z < 0)) s.z.natAbs)] 9)) (.cells #[.slice (some ⟨w1.heap.size, 0, none⟩) 1 1] 102)
  have p2 := blk_2_2 w1 (.cells #[.string (hexS (decide (s.z < 0)) s.z.natAbs)] 9) (.cells #[.slice (some ⟨w1.heap.size, 0, none⟩) 1 1] 102)
  have o2 := own_one w1 (hexS (decide (s.z < 0)) s.z.natAbs) (.cells #[.slice (some ⟨w1.heap.size, 0, none⟩) 1 1] 102)
  have x2 : Below w1.heap.size w1 ((w1.alloc (.cells #[.string (hexS (decide (s.z < 0)) s.z.natAbs)] 9)).alloc (.cells #[.slice (some ⟨w1.heap.size, 0, none⟩) 1 1] 102)) := ((Ext.rfl' w1).alloc' _).alloc' _
  have s2 : w1.heap.size ≤ ((w1.alloc (.cells #[.string (hexS (decide (s.z < 0)) s.z.natAbs)] 9)).alloc (.cells #[.slice (some ⟨w1.heap.size, 0, none⟩) 1 1] 102)).heap.size := by simp; omega
  generalize (w1.alloc (.cells #[.string (hexS (decide (s.z < 0)) s.z.natAbs)] 9)).alloc (.cells #[.slice (some ⟨w1.heap.size, 0, none⟩) 1 1] 102) = w2 at g2 p2 o2 x2 s2 ⊢
  refine text1_any s.plus ⟨#[43, 105, 110, 102]⟩ (w1.heap.size + 1) w1.heap.size w1.heap.size _ _ w2 p2 o2 (by simp) (by omega) (by omega) s2 ?_
  intro v3 w3 p3 o3 x3
  have g3 := (x3.block g lg1).trans g2
  have r3 : w3.cell? ⟨g, 3, none⟩ = some (.bool s.minus) := cell_of_blk g3 3
  go_wp2_with fail
  refine text1_any s.minus ⟨#[45, 105, 110, 102]⟩ (w1.heap.size + 1) w1.heap.size w1.heap.size _ _ w3 p3 o3 (by simp; split <;> simp) (by omega) (by omega) (Nat.le_trans s2 x3.size) ?_
  intro v4 w4 p4 o4 x4
  have g4 := (x4.block g lg1).trans g3
  have r4 : w4.cell? ⟨g, 4, none⟩ = some (.bool s.nan) := cell_of_blk g4 4
  go_wp2_with fail
  refine text1_any s.nan ⟨#[110, 97, 110]⟩ (w1.heap.size + 1) w1.heap.size w1.heap.size _ _ w4 p4 o4 (by simp; split <;> split <;> simp) (by omega) (by omega) (Nat.le_trans s2 (Nat.le_trans x3.size x4.size)) ?_
  intro v5 w5 p5 o5 x5
  have g5 := (x5.block g lg1).trans g4
  have r5 : w5.cell? ⟨g, 5, none⟩ = some (.bool s.other) := cell_of_blk g5 5
  have r6 : w5.cell? ⟨g, 6, none⟩ = some (v64 s.count) := cell_of_blk g5 6
  have s5 : w1.heap.size ≤ w5.heap.size := Nat.le_trans s2 (Nat.le_trans x3.size (Nat.le_trans x4.size x5.size))
  have l5 := words4_len s
  replace o5 : OwnT w5 w1.heap.size v5 (words4 s) := o5
  have y5 : Below w1.heap.size w1 w5 := x2.trans (x3.trans (x4.trans x5))
  go_upto_region 8 with fail
  go_cut [] from 32 to 45 (fun wx => ∃ v6, wx.heap[w1.heap.size + 1]? = some (.cells #[v6] 102 (0, 0)) ∧ OwnT wx w1.heap.size v6 (words4 s ++ (if (decide (0 < s.count) && !s.other) = true then [⟨#[45, 48]⟩] else [])) ∧ Below w1.heap.size w1 wx ∧ wx.heap[g]? = some (.cells (sumCells neg A n c s) 114 (0, 0)))
  case first =>
    by_cases hc : 0 < s.count
    · have hc' : decide ((0 : Int) < (s.count : Int)) = true := by simp; omega
      go_wp2_with fail
      refine text1_any (!s.other) ⟨#[45, 48]⟩ (w1.heap.size + 1) w1.heap.size w1.heap.size _ _ w5 p5 o5 l5 (by omega) (by omega) s5 ?_
      intro v6 w6 p6 o6 x6
      go_wp2_with fail
      go_meet
      exact ⟨v6, p6, by rw [decide_eq_true hc, Bool.true_and]; exact o6, y5.trans x6, (x6.block g lg1).trans g5⟩
    · have hc' : decide ((0 : Int) < (s.count : Int)) = false := by simp; omega
      go_wp2_with fail
      refine text1_any false ⟨#[45, 48]⟩ (w1.heap.size + 1) w1.heap.size w1.heap.size _ _ w5 p5 o5 l5 (by omega) (by omega) s5 ?_
      intro v6 w6 p6 o6 x6
      go_wp2_with fail
      go_meet
      exact ⟨v6, p6, by rw [decide_eq_false hc, Bool.false_and]; exact o6, y5.trans x6, (x6.block g lg1).trans g5⟩
  case rest =>
    obtain ⟨v6, p6, o6, y6, g6⟩ := hcut
    obtain ⟨xs, hxs⟩ : ∃ xs, xs = words4 s ++ (if (decide (0 < s.count) && !s.other) = true then [⟨#[45, 48]⟩] else []) := ⟨_, rfl⟩
    rw [← hxs] at o6
    have hxl : xs.length ≤ 200 := by rw [hxs]; simp; split <;> simp <;> omega
    obtain ⟨D, hD⟩ : ∃ D : ByteArray, D = ⟨(Lib.decDigits s.count).toArray⟩ := ⟨_, rfl⟩
    have hwords : xs ++ [D] = wordsS s := by rw [hxs, hD]; rfl
    have K' : ∀ w', Ext w w' → R (.returned (.string ⟨(Lib.join ((xs ++ [D]).map fun x => x.data.toList) [32]).toArray⟩)) w' := fun w' hx => by
      have := K w' hx
      unfold textS at this
      rw [← hwords] at this
      exact this
    have hjb := parts_len s h3
    have hbl := h2.blLe
    have hjl : (Lib.join ((xs ++ [D]).map fun x => x.data.toList) [32]).length ≤ 140737488355328 := by
      have h1 := congrArg (fun l => (Lib.join (l.map fun x => x.data.toList) [32]).length) hwords
      rw [h1, wordsS_data]
      unfold partsL
      rw [Lib.join_length]
      omega
    have htD : Lib.TabIs Tryz.prog wc.drew "internal/strconv.uint64pow10" .u64 Lib.pow10Tab := tabIs_ext htab (hx1.trans' (Below.drew (y6 : Ext w1 wc)))
    have cp : wc.cell? ⟨w1.heap.size + 1, 0, none⟩ = some v6 := cell_of_blk p6 0
    have cg : wc.cell? ⟨g, 6, none⟩ = some (v64 s.count) := cell_of_blk g6 6
    have lp : w1.heap.size + 1 < wc.heap.size := (Array.getElem?_eq_some_iff.1 p6).1
    have lgc : g < wc.heap.size := (Array.getElem?_eq_some_iff.1 g6).1
    have hbase : w1.heap.size ≤ wc.heap.size := by omega
    have hne1 := own_ne o6 p6
    obtain ⟨i0, hi0, hz0, hz1, hz2⟩ := info_parts Tryz.info9
    have HD : ∀ W, Ext wc.drew W → ∀ (R' : Ending → World → Prop), (∀ w', Ext W w' → R' (.returned (.string D)) w') → Calls Tryz.prog 70 #[.int .u64 (s.count : Int), .int .i64 10] W R' := fun W hW R' K'' => by
      rw [hD] at K''
      exact formatUint_any s.count h3 W (tabIs_ext htD hW) K''
    have hoW : ∀ W, Ext wc.drew W → ∀ o, (W.alloc o).ownsRow w1.heap.size 9 1 v6 xs.length (xs.map Value.string) := fun W hW o => World.ownsRow.alloc (OwnT.ext o6 hW.undrew) o
    have hszW : ∀ W, Ext wc.drew W → ∀ o, w1.heap.size ≤ (W.alloc o).heap.size := fun W hW o => by
      have h1 := hW.size
      have h2 : wc.drew.heap.size = wc.heap.size := rfl
      rw [World.size_alloc]
      omega
    have hpW : ∀ W, Ext wc.drew W → ∀ o, w1.heap.size + 1 < (W.alloc o).heap.size := fun W hW o => by
      have h1 := hW.size
      have h2 : wc.drew.heap.size = wc.heap.size := rfl
      rw [World.size_alloc]
      omega
    have hgW : ∀ W, Ext wc.drew W → ∀ o, g < (W.alloc o).heap.size := fun W hW o => by
      have h1 := hW.size
      have h2 : wc.drew.heap.size = wc.heap.size := rfl
      rw [World.size_alloc]
      omega
    have hlow : ∀ k, v6.ownBlock = some k → w1.heap.size ≤ k := fun k hk => (o6.lt k hk).1
    have hneg : v6.ownBlock ≠ some g := fun e => absurd (hlow g e) (by omega)
    obtain ⟨J, hJ0⟩ : ∃ J : ByteArray, J = ⟨(Lib.join ((xs ++ [D]).map fun x => x.data.toList) [32]).toArray⟩ := ⟨_, rfl⟩
    rw [← hJ0] at K'
    have hJ : ∀ (W : World) (gg cap : Nat), W.ownsRow w1.heap.size 9 1 (.slice (some ⟨gg, 0, none⟩) (xs.length + 1) cap) (xs.length + 1) (xs.map Value.string ++ [.string D]) →
        Calls Tryz.prog 69 #[.slice (some ⟨gg, 0, none⟩) (xs.length + 1) cap, .string ⟨#[32]⟩] W fun e w' => e = .returned (.string J) ∧ Ext W w' := fun W gg cap ho => by
      obtain ⟨g', cap', cur, hv, _, hb, hc1, hc2, hc3, hcur⟩ := ownsRow_form ho (by omega)
      simp only [Value.slice.injEq, Option.some.injEq, Addr.mk.injEq, and_true, true_and] at hv
      obtain ⟨rfl, rfl⟩ := hv
      have hlen : (xs ++ [D]).length = xs.length + 1 := by simp
      have := Tryz.strings_Join gg 0 cap (xs ++ [D]) ⟨#[32]⟩ W (fun j x hx => by
        rw [Nat.zero_add, cell_of_blk hb]
        exact hcur j _ (by rw [← List.map_singleton, ← List.map_append, List.getElem?_map, hx]; rfl)) (Array.getElem?_eq_some_iff.1 hb).1 (by omega) (by omega) hjl
      rw [hlen] at this
      refine this.mono ?_
      rintro e w' ⟨rfl, hx⟩
      exact ⟨by rw [hJ0], hx⟩
    have hchain : ∀ W o W8 W9, Ext wc.drew W → (W.alloc o).grownBy W8 v6.ownBlock → Ext W8 W9 → Ext w W9 := fun W o W8 W9 a b c => by
      have e1 : Ext w (W.alloc o) := (hx1.trans' (Ext.trans' (Below.drew (y6 : Ext w1 wc)) a)).alloc' o
      have e2 : Ext w W8 := Below.grown e1 b e1.size (fun k hk => Nat.le_trans hx1.size (hlow k hk))
      exact e2.trans' c
    clear hJ0 hxs hD hwords K l5 o5 y5 p5 g5 r5 r6 x5 x4 x3 x2
    go_upto_region 9 with fail
    go_region_held3 (fun V => V.cell? ⟨w1.heap.size + 1, 0, none⟩ = some v6 ∧ V.cell? ⟨g, 6, none⟩ = some (v64 s.count))
      (first
        | (go_split_ands
           refine ⟨?_, ?_⟩
           · (rw [hx9.cell (p := ⟨w1.heap.size + 1, 0, none⟩) (Nat.lt_of_lt_of_le (hpW w7 hx7 _) hgrow8.size)]; assumption)
           · (rw [hx9.cell (p := ⟨g, 6, none⟩) (Nat.lt_of_lt_of_le (hgW w7 hx7 _) hgrow8.size)]; assumption))
        | (go_split_ands
           refine ⟨?_, ?_⟩
           · (rw [hgrow8.cell_far _ (hpW w7 hx7 _) (Ne.symm hne1)]; assumption)
           · (rw [hgrow8.cell_far _ (hgW w7 hx7 _) (Ne.symm hneg)]; assumption))
        | exact ⟨cp, cg⟩ | exact ⟨(hx7.cell (p := ⟨w1.heap.size + 1, 0, none⟩) lp).trans cp, (hx7.cell (p := ⟨g, 6, none⟩) lgc).trans cg⟩ | go_keep)
      (first
        | (go_at_call 70; with_reducible refine HD _ (Ext.rfl' _) _ ?_; intro w7 hx7)
        | (refine step_append_lies _ (by rfl) _ _ _ (by rfl) w1.heap.size 9 i0 _ 1 16 Tryz.underlying102 hi0 hz0 hz1 hz2 rfl (by omega) v6 xs.length (xs.map Value.string) (by rfl) (hoW w7 hx7 _) ⟨w7.heap.size, 0, none⟩ 1 1 [.string D] (by rfl) (by rfl) (World.news_of_block (cs := #[.string D]) (t := 9) (fr := (0, 0)) (heap_alloc_new w7 _)) (by simp [Value.oneCell']) (by omega) (by simp only [maxLen]; omega) (by omega) (hszW w7 hx7 _) (w7.heap.size + 1) (by simp) ?_; intro gg cap w8 hown8 hgrow8 hat8 hlt8)
        | (go_at_call 69; with_reducible refine (hJ w8 gg cap hown8).mono ?_; rintro e w9 ⟨rfl, hx9⟩))
    all_goals
      have fin := hchain _ _ _ _ hx7 hgrow8 hx9
      go_wp2
      exact fin
end Go.Proofs.YtjngofngjbjpbaaGreatDoor
end
