/- abacuslaw09.ExactTexts: whatever the text (of at most 2^20 bytes) and the list (of at most 2^20 floats), it answers true. abacuslaw09.ExactTexts at a text of a sum. -/
import Derived.Test.YtjngofngjbjpbaaGreatDoorJa26
import Derived.Test.YtjngofngjbjpbaaGreatDoorJa27
import Derived.Test.YtjngofngjbjpbaaGreatDoorJa29
import Derived.Test.YtjngofngjbjpbaaGreatDoorJa30
import Derived.Test.YtjngofngjbjpbaaGreatDoorJa33
import Derived.Test.YtjngofngjbjpbaaGreatDoorJa34

section
set_option linter.unusedSimpArgs false
set_option linter.unusedVariables false
namespace Go.Proofs.YtjngofngjbjpbaaGreatDoor
open Go.RowKit

theorem foldS_count' (f : Nat → Nat) (n : Nat) (hn : n < 18446744073709551616) : (foldS f n).count = n := by
  induction n with
  | zero => rfl
  | succ n ih =>
    show ((foldS f n).count + 1) % 18446744073709551616 = n + 1
    rw [ih (by omega)]
    omega
theorem fv_other {b : Nat} (h : b = 9223372036854775808) : fv b = 0 ∧ isFin b = true ∧ isNaNb b = false := by subst h; decide
theorem foldS_valid (f : Nat → Nat) (n : Nat) (hn : n < 18446744073709551616) : Valid (foldS f n) := by
  refine ⟨by rw [foldS_count' f n hn]; exact hn, ?_, ?_⟩
  · induction n with
    | zero => exact fun _ => ⟨rfl, rfl, rfl, rfl⟩
    | succ n ih =>
      intro h
      have h' : ((foldS f n).other || decide (f n ≠ 9223372036854775808)) = false := h
      rw [Bool.or_eq_false_iff] at h'
      obtain ⟨h1, h2⟩ := h'
      have h3 : f n = 9223372036854775808 := by simpa using h2
      obtain ⟨i1, i2, i3, i4⟩ := ih (by omega) h1
      obtain ⟨e1, e2, e3⟩ := fv_other h3
      refine ⟨?_, ?_, ?_, ?_⟩
      · show (if isFin (f n) = true then (foldS f n).z + fv (f n) else (foldS f n).z) = 0
        rw [e1, i1]; simp
      · show ((foldS f n).plus || decide (f n = 9218868437227405312)) = false
        rw [i2, h3]; decide
      · show ((foldS f n).minus || decide (f n = 18442240474082181120)) = false
        rw [i3, h3]; decide
      · show ((foldS f n).nan || isNaNb (f n)) = false
        rw [i4, e3]; rfl
  · intro h
    rw [foldS_count' f n hn] at h
    subst h
    rfl
theorem Ext.grow {a b c : World} (h : Ext a b) {g : Nat} (hg : b.grownBy c (some g)) (hl : a.heap.size ≤ g) : Ext a c :=
  ⟨hg.os.trans h.os, hg.tape.trans h.tape, hg.output.trans h.output, Nat.le_trans h.size hg.size, fun i hi => (hg.block i (Nat.lt_of_lt_of_le hi h.size) (by intro e; cases e; omega)).trans (h.block i hi)⟩
theorem IsBits.grown {w w' : World} {A : Option Addr} {n c m : Nat} (h : IsBits w A n c m) {g : Nat} (hg : w.grownBy w' (some g)) (ht : tyAt w g = some 114) : IsBits w' A n c m := ⟨h.len, h.cap, fun h0 => by
  obtain ⟨b, c, hA, hb, hc⟩ := h.row h0
  refine ⟨b, c, hA, ?_, hc⟩
  rw [hg.block b (Array.getElem?_eq_some_iff.1 hb).1 (fun e => by cases e; rw [tyAt_of_blk hb] at ht; revert ht; decide)]
  exact hb⟩


theorem text_small (f : Nat → Nat) (n : Nat) (hn : n ≤ 1048576) : (textS (foldS f n)).size ≤ 4000 := by
  have h0 := parts_len (foldS f n) (by rw [foldS_count' f n (by omega)]; omega)
  have h1 : (foldS f n).z.natAbs < 2 ^ (64 * 40) := small_z (foldS_z f n) (by omega)
  have h2 : bl (foldS f n).z.natAbs ≤ 64 * 40 := bl_le_iff.2 h1
  have h3 : (textS (foldS f n)).size = (textS (foldS f n)).data.toList.length := Array.length_toList.symm
  rw [h3, textS_data]
  unfold partsL
  rw [Lib.join_length]
  omega

/-- the seven cells of a sum by the document, and what is not touched -/
abbrev HT (w : World) (b : Nat) (v0 v1 v2 v3 v4 v5 v6 : Value) (A : Option Addr) (n c : Nat) (z : Int) (g2 k2 : Nat) (o : SumS) (V : World) : Prop :=
  Held7 w b v0 v1 v2 v3 v4 v5 v6 V ∧ tyAt V b = some 31 ∧ BitsZ V A n c z ∧ IsSum V g2 k2 o
theorem HT.mono {w : World} {b : Nat} {v0 v1 v2 v3 v4 v5 v6 : Value} {A : Option Addr} {n c : Nat} {z : Int} {g2 k2 : Nat} {o : SumS} {V V' : World} (h : HT w b v0 v1 v2 v3 v4 v5 v6 A n c z g2 k2 o V) (hx : Ext V V') : HT w b v0 v1 v2 v3 v4 v5 v6 A n c z g2 k2 o V' :=
  ⟨held7_mono h.1 hx, (tyAt_ext hx (World.block_lt_of_cell? _ _ h.1.2.1)).trans h.2.1, h.2.2.1.ext hx, h.2.2.2.ext hx⟩
theorem HT.drew {w : World} {b : Nat} {v0 v1 v2 v3 v4 v5 v6 : Value} {A : Option Addr} {n c : Nat} {z : Int} {g2 k2 : Nat} {o : SumS} {V : World} (h : HT w b v0 v1 v2 v3 v4 v5 v6 A n c z g2 k2 o V) : HT w b v0 v1 v2 v3 v4 v5 v6 A n c z g2 k2 o V.drew :=
  h.mono (Below.drew (Ext.rfl' V))
theorem HT.grown {w : World} {b : Nat} {v0 v1 v2 v3 v4 v5 v6 : Value} {A : Option Addr} {n c : Nat} {z : Int} {g2 k2 : Nat} {o : SumS} {V V' : World} (h : HT w b v0 v1 v2 v3 v4 v5 v6 A n c z g2 k2 o V) {g : Nat} (hg : V.grownBy V' (some g)) (ht : tyAt V g = some 114) (hw : w.heap.size ≤ g) (hgg : g2 ≠ g) : HT w b v0 v1 v2 v3 v4 v5 v6 A n c z g2 k2 o V' := by
  obtain ⟨⟨h, a0, a1, a2, a3, a4, a5, a6⟩, hb, h2, h3⟩ := h
  have hne : b ≠ g := by intro e; subst e; rw [ht] at hb; revert hb; decide
  have hl := World.block_lt_of_cell? _ _ a0
  have hbk := hg.block b hl (by simpa using hne)
  have q : ∀ i v, V.cell? ⟨b, i, none⟩ = some v → V'.cell? ⟨b, i, none⟩ = some v := fun i v e => by
    unfold World.cell? at e ⊢
    simp only at e ⊢
    rw [hbk]
    exact e
  exact ⟨⟨h.grow hg hw, q _ _ a0, q _ _ a1, q _ _ a2, q _ _ a3, q _ _ a4, q _ _ a5, q _ _ a6⟩, by unfold tyAt at hb ⊢; rw [hbk]; exact hb, h2.grown hg ht, h3.grown hg hgg ht⟩

set_option maxHeartbeats 8000000 in
set_option maxRecDepth 100000 in
theorem texts_none {R : Ending → World → Prop} (t : ByteArray) (A : Option Addr) (n c : Nat) (f : Nat → Nat) (w : World) (hL : LaidW w) (ht : t.size ≤ 1048576) (hn : n ≤ 1048576)
    (hf : ∀ i, i < n → f i < 18446744073709551616) (hr : RowG w A n (fun i => .float .f64 (f i))) (hp : parseL (wordsL t.data.toList) = none)
    (K : ∀ w', Ext w w' → R (.returned (.bool true)) w') :
    Calls Tryz.prog 3 #[.string t, .slice A n c] w R := by
  have hp' := Lib.hid hp
  clear hp
  go_enter Tryz.func3, Tryz.ntmps3
  go_wp2_with fail
  refine parseE_any t _ hL (by omega) (fun s hs => by rw [hp'.out] at hs; cases hs) ?_
  intro _ w1 hx1
  go_wp2_with fail
  refine parseR_any t _ (by omega) (fun s hs => by rw [hp'.out] at hs; cases hs) ?_
  intro _ w2 hx2
  have hxw2 := hx1.trans' hx2
  clear hx1 hx2 hp'
  go_wp2_with fail
  have hx3 := fun c => hxw2.alloc' (.cells c 31)
  refine lives_any _ ((hL.ext (hx3 _)).pow) ?_
  intro w3 h3
  have hx4 := (hx3 _).trans' h3
  clear hx3 h3 hxw2
  go_wp2_with fail
  refine summed_any A n c f _ (by omega) hf (hr.ext hx4) ?_
  intro g2 w5 hg2 hs2 h5
  have hx5 := hx4.trans' h5
  clear h5 hx4 hg2
  go_wp2_with fail
  refine text_any g2 40 _ _ (by omega) hs2 (hL.ext hx5).pow ?_
  intro w6 h6
  have hx6 := hx5.trans' h6
  clear h6 hx5 hs2
  have htx := text_small f n hn
  have hpt := Lib.hid (parse_text (foldS_valid f n (by omega)))
  have hv := (foldS_valid f n (by omega)).tidy
  go_wp2_with fail
  refine parseE_any (textS (foldS f n)) _ (hL.ext hx6) (by omega) ?_ (fun h => by rw [hpt.out] at h; cases h)
  intro s hs g7 w7 hg7 hs7 h7
  rw [hpt.out] at hs
  obtain rfl := Option.some.inj hs
  have hx7 := hx6.trans' h7
  clear hs hpt h7 hx6 hg7
  have H19 := fun W (hW : Ext w W) (R' : Ending → World → Prop) K' => total_any (R := R') A n c f W (by omega) hf (hr.ext hW) K'
  have H16 := fun W (hW : Ext w W) (hs : IsSum W g7 ((textS (foldS f n)).size + 40) (foldS f n)) A' n' c' (hn' : n' ≤ 2560) (hz : BitsZ W A' n' c' (foldS f n).z) (R' : Ending → World → Prop) K' => sameS_any (R := R') g7 _ (foldS f n) A' n' c' W (hL.ext hW).pow (by omega) (by omega) hv hs hz K'
  have hS7 := hs7
  clear hs7 htx hn ht hv hf hr hL
  generalize foldS f n = T at *
  obtain ⟨k7, hk7⟩ : ∃ k, k = (textS T).size + 40 := ⟨_, rfl⟩
  rw [← hk7] at hS7 H16
  clear hk7
  go_wp2_with fail
  refine wp_region_held_drew (S := fun V => Ext w V) (by kernel_rfl) (Below.drew hx7) (fun hHeld => ?_)
  refine rgW (i := 0) (some 63) (v := ?_) rfl rfl (by kernel_rfl) (by kernel_rfl) (by kernel_rfl) (fun _ _ _ h => h) (by kernel_rfl) hHeld ?_ ?_
  rotate_left
  · intro wS hSw; (try dsimp only at hSw); go_simp; try (with_reducible rfl)
  simp only [Act.put, List.setIfInBounds_toArray, List.set_cons_zero, List.set_cons_succ]
  refine rgW (i := 1) (some 64) (v := ?_) rfl rfl (by kernel_rfl) (by kernel_rfl) (by kernel_rfl) (fun _ _ _ h => h) (by kernel_rfl) hHeld ?_ ?_
  rotate_left
  · intro wS hSw; (try dsimp only at hSw); go_simp; try (with_reducible rfl)
  simp only [Act.put, List.setIfInBounds_toArray, List.set_cons_zero, List.set_cons_succ]
  refine rgW (i := 2) (some 65) (v := ?_) rfl rfl (by kernel_rfl) (by kernel_rfl) (by kernel_rfl) (fun _ _ _ h => h) (by kernel_rfl) hHeld ?_ ?_
  rotate_left
  · intro wS hSw; (try dsimp only at hSw); go_simp; try (with_reducible rfl)
  simp only [Act.put, List.setIfInBounds_toArray, List.set_cons_zero, List.set_cons_succ]
  refine rgW (i := 3) (some 66) (v := ?_) rfl rfl (by kernel_rfl) (by kernel_rfl) (by kernel_rfl) (fun _ _ _ h => h) (by kernel_rfl) hHeld ?_ ?_
  rotate_left
  · intro wS hSw; (try dsimp only at hSw); go_simp; try (with_reducible rfl)
  simp only [Act.put, List.setIfInBounds_toArray, List.set_cons_zero, List.set_cons_succ]
  refine rgW (i := 4) (some 67) (v := ?_) rfl rfl (by kernel_rfl) (by kernel_rfl) (by kernel_rfl) (fun _ _ _ h => h) (by kernel_rfl) hHeld ?_ ?_
  rotate_left
  · intro wS hSw; (try dsimp only at hSw); go_simp; try (with_reducible rfl)
  simp only [Act.put, List.setIfInBounds_toArray, List.set_cons_zero, List.set_cons_succ]
  refine rgW (i := 5) (some 68) (v := ?_) rfl rfl (by kernel_rfl) (by kernel_rfl) (by kernel_rfl) (fun _ _ _ h => h) (by kernel_rfl) hHeld ?_ ?_
  rotate_left
  · intro wS hSw; (try dsimp only at hSw); go_simp; try (with_reducible rfl)
  simp only [Act.put, List.setIfInBounds_toArray, List.set_cons_zero, List.set_cons_succ]
  refine rgW (i := 6) (some 69) (v := ?_) rfl rfl (by kernel_rfl) (by kernel_rfl) (by kernel_rfl) (fun _ _ _ h => h) (by kernel_rfl) hHeld ?_ ?_
  rotate_left
  · intro wS hSw; (try dsimp only at hSw); go_simp; try (with_reducible rfl)
  simp only [Act.put, List.setIfInBounds_toArray, List.set_cons_zero, List.set_cons_succ]
  refine rgW (i := 7) (some 70) (v := ?_) rfl rfl (by kernel_rfl) (by kernel_rfl) (by kernel_rfl) (fun _ _ _ h => h) (by kernel_rfl) hHeld ?_ ?_
  rotate_left
  · intro wS hSw; (try dsimp only at hSw); go_simp; try (with_reducible rfl)
  simp only [Act.put, List.setIfInBounds_toArray, List.set_cons_zero, List.set_cons_succ]
  refine rgW (i := 8) (some 71) (v := ?_) rfl rfl (by kernel_rfl) (by kernel_rfl) (by kernel_rfl) (fun _ _ _ h => h) (by kernel_rfl) hHeld ?_ ?_
  rotate_left
  · intro wS hSw; (try dsimp only at hSw); go_simp; try (with_reducible rfl)
  simp only [Act.put, List.setIfInBounds_toArray, List.set_cons_zero, List.set_cons_succ]
  refine rgC (i := 9) (some 72) 19 (args := ?_) rfl rfl (by kernel_rfl) (by kernel_rfl) ?_ ?_
  rotate_left
  · go_simp; try (with_reducible rfl)
  intro K9 hK9
  refine H19 _ hHeld _ ?_
  intro A2 n2 c2 w8 hb2 hn2 h8
  refine hK9.out _ _ (hHeld.trans' h8) ?_
  have hHeld := hHeld.trans' h8
  clear hK9 K9
  simp only [Act.put, List.setIfInBounds_toArray, List.set_cons_zero, List.set_cons_succ]
  refine rgC (i := 10) (some 73) 16 (args := ?_) rfl rfl (by kernel_rfl) (by kernel_rfl) ?_ ?_
  rotate_left
  · go_simp; try (with_reducible rfl)
  intro K10 hK10
  refine H16 _ hHeld (hS7.ext h8.undrew) _ _ _ hn2 hb2 _ ?_
  intro w9 h9
  refine hK10.out _ _ (hHeld.trans' h9) ?_
  have hHeld := hHeld.trans' h9
  clear hK10 K10
  simp only [Act.put, List.setIfInBounds_toArray, List.set_cons_zero, List.set_cons_succ]
  refine rgW (i := 11) (some 74) (v := ?_) rfl rfl (by kernel_rfl) (by kernel_rfl) (by kernel_rfl) (fun _ _ _ h => h) (by kernel_rfl) hHeld ?_ ?_
  rotate_left
  · intro wS hSw; (try dsimp only at hSw); go_simp; try (with_reducible rfl)
  simp only [Act.put, List.setIfInBounds_toArray, List.set_cons_zero, List.set_cons_succ]
  refine rgW (i := 12) (some 75) (v := ?_) rfl rfl (by kernel_rfl) (by kernel_rfl) (by kernel_rfl) (fun _ _ _ h => h) (by kernel_rfl) hHeld ?_ ?_
  rotate_left
  · intro wS hSw; (try dsimp only at hSw); go_simp; try (with_reducible rfl)
  simp only [Act.put, List.setIfInBounds_toArray, List.set_cons_zero, List.set_cons_succ]
  refine rgW (i := 13) (some 76) (v := ?_) rfl rfl (by kernel_rfl) (by kernel_rfl) (by kernel_rfl) (fun _ _ _ h => h) (by kernel_rfl) hHeld ?_ ?_
  rotate_left
  · intro wS hSw; (try dsimp only at hSw); go_simp; try (with_reducible rfl)
  simp only [Act.put, List.setIfInBounds_toArray, List.set_cons_zero, List.set_cons_succ]
  refine rgW (i := 14) (some 77) (v := ?_) rfl rfl (by kernel_rfl) (by kernel_rfl) (by kernel_rfl) (fun _ _ _ h => h) (by kernel_rfl) hHeld ?_ ?_
  rotate_left
  · intro wS hSw; (try dsimp only at hSw); go_simp; try (with_reducible rfl)
  simp only [Act.put, List.setIfInBounds_toArray, List.set_cons_zero, List.set_cons_succ]
  refine rgW (i := 15) (some 78) (v := ?_) rfl rfl (by kernel_rfl) (by kernel_rfl) (by kernel_rfl) (fun _ _ _ h => h) (by kernel_rfl) hHeld ?_ ?_
  rotate_left
  · intro wS hSw; (try dsimp only at hSw); go_simp; try (with_reducible rfl)
  simp only [Act.put, List.setIfInBounds_toArray, List.set_cons_zero, List.set_cons_succ]
  refine rgU (i := 16) (some 79) rfl rfl (by kernel_rfl) (by kernel_rfl) (by kernel_rfl) (fun _ _ _ h => h) (by kernel_rfl) hHeld ?_
  simp only [Act.put, List.setIfInBounds_toArray, List.set_cons_zero, List.set_cons_succ]
  refine rgU (i := 17) (some 80) rfl rfl (by kernel_rfl) (by kernel_rfl) (by kernel_rfl) (fun _ _ _ h => h) (by kernel_rfl) hHeld ?_
  simp only [Act.put, List.setIfInBounds_toArray, List.set_cons_zero, List.set_cons_succ]
  refine rgU (i := 18) (some 81) rfl rfl (by kernel_rfl) (by kernel_rfl) (by kernel_rfl) (fun _ _ _ h => h) (by kernel_rfl) hHeld ?_
  simp only [Act.put, List.setIfInBounds_toArray, List.set_cons_zero, List.set_cons_succ]
  refine rgU (i := 19) (some 82) rfl rfl (by kernel_rfl) (by kernel_rfl) (by kernel_rfl) (fun _ _ _ h => h) (by kernel_rfl) hHeld ?_
  simp only [Act.put, List.setIfInBounds_toArray, List.set_cons_zero, List.set_cons_succ]
  refine rgU (i := 20) (some 83) rfl rfl (by kernel_rfl) (by kernel_rfl) (by kernel_rfl) (fun _ _ _ h => h) (by kernel_rfl) hHeld ?_
  simp only [Act.put, List.setIfInBounds_toArray, List.set_cons_zero, List.set_cons_succ]
  refine rgU (i := 21) (some 84) rfl rfl (by kernel_rfl) (by kernel_rfl) (by kernel_rfl) (fun _ _ _ h => h) (by kernel_rfl) hHeld ?_
  simp only [Act.put, List.setIfInBounds_toArray, List.set_cons_zero, List.set_cons_succ]
  refine rgU (i := 22) (some 85) rfl rfl (by kernel_rfl) (by kernel_rfl) (by kernel_rfl) (fun _ _ _ h => h) (by kernel_rfl) hHeld ?_
  simp only [Act.put, List.setIfInBounds_toArray, List.set_cons_zero, List.set_cons_succ]
  refine rgU (i := 23) (some 86) rfl rfl (by kernel_rfl) (by kernel_rfl) (by kernel_rfl) (fun _ _ _ h => h) (by kernel_rfl) hHeld ?_
  simp only [Act.put, List.setIfInBounds_toArray, List.set_cons_zero, List.set_cons_succ]
  refine rgU (i := 24) (some 87) rfl rfl (by kernel_rfl) (by kernel_rfl) (by kernel_rfl) (fun _ _ _ h => h) (by kernel_rfl) hHeld ?_
  simp only [Act.put, List.setIfInBounds_toArray, List.set_cons_zero, List.set_cons_succ]
  refine rgU (i := 25) (some 88) rfl rfl (by kernel_rfl) (by kernel_rfl) (by kernel_rfl) (fun _ _ _ h => h) (by kernel_rfl) hHeld ?_
  simp only [Act.put, List.setIfInBounds_toArray, List.set_cons_zero, List.set_cons_succ]
  refine rgU (i := 26) (some 89) rfl rfl (by kernel_rfl) (by kernel_rfl) (by kernel_rfl) (fun _ _ _ h => h) (by kernel_rfl) hHeld ?_
  simp only [Act.put, List.setIfInBounds_toArray, List.set_cons_zero, List.set_cons_succ]
  refine rgU (i := 27) (some 90) rfl rfl (by kernel_rfl) (by kernel_rfl) (by kernel_rfl) (fun _ _ _ h => h) (by kernel_rfl) hHeld ?_
  simp only [Act.put, List.setIfInBounds_toArray, List.set_cons_zero, List.set_cons_succ]
  refine rgW (i := 28) (some 91) (v := ?_) rfl rfl (by kernel_rfl) (by kernel_rfl) (by kernel_rfl) (fun _ _ _ h => h) (by kernel_rfl) hHeld ?_ ?_
  rotate_left
  · intro wS hSw; (try dsimp only at hSw); go_simp; try (with_reducible rfl)
  simp only [Act.put, List.setIfInBounds_toArray, List.set_cons_zero, List.set_cons_succ]
  refine rgW (i := 29) (some 92) (v := ?_) rfl rfl (by kernel_rfl) (by kernel_rfl) (by kernel_rfl) (fun _ _ _ h => h) (by kernel_rfl) hHeld ?_ ?_
  rotate_left
  · intro wS hSw; (try dsimp only at hSw); go_simp; try (with_reducible rfl)
  simp only [Act.put, List.setIfInBounds_toArray, List.set_cons_zero, List.set_cons_succ]
  refine rgW (i := 30) (some 4) (v := ?_) rfl rfl (by kernel_rfl) (by kernel_rfl) (by kernel_rfl) (fun _ _ _ h => h) (by kernel_rfl) hHeld ?_ ?_
  rotate_left
  · intro wS hSw; (try dsimp only at hSw); go_simp; try (with_reducible rfl)
  simp only [Act.put, List.setIfInBounds_toArray, List.set_cons_zero, List.set_cons_succ]
  refine wpAnyH_done (by kernel_rfl) ?_ _
  have fin := K _ hHeld
  clear K H19 H16 hS7 hHeld hb2 hn2 h8 h9 hx7
  go_wp2
  exact fin

end Go.Proofs.YtjngofngjbjpbaaGreatDoor
end

section
set_option linter.unusedSimpArgs false
set_option linter.unusedVariables false
namespace Go.Proofs.YtjngofngjbjpbaaGreatDoor
open Go.RowKit

theorem bits_k {w : World} {A : Option Addr} {n c : Nat} {z : Int} (h : BitsZ w A n c z) {g k : Nat} {s : SumS} {W : World} (hs : IsSum W g k s) (e : s.z = z) : n ≤ 64 * k := by
  obtain ⟨_, _, _, _, _, hi, _⟩ := hs
  rw [h.len, ← e]
  exact hi.blLe
set_option maxHeartbeats 8000000 in
set_option maxRecDepth 100000 in
theorem texts_some {R : Ending → World → Prop} (s : SumS) (A : Option Addr) (n c : Nat) (f : Nat → Nat) (w : World) (hL : LaidW w) (ht : (textS s).size ≤ 1048576) (hn : n ≤ 1048576)
    (hf : ∀ i, i < n → f i < 18446744073709551616) (hr : RowG w A n (fun i => .float .f64 (f i))) (hval : Valid s)
    (K : ∀ w', Ext w w' → R (.returned (.bool true)) w') :
    Calls Tryz.prog 3 #[.string (textS s), .slice A n c] w R := by
  have hp' := Lib.hid (parse_text hval)
  have hv1 := hval.tidy
  go_enter Tryz.func3, Tryz.ntmps3
  go_wp2_with fail
  refine parseE_any _ _ hL (by omega) ?_ (fun h => by rw [hp'.out] at h; cases h)
  intro s1 e1 g1 w1 hg1 hs1 hx1
  rw [hp'.out] at e1
  obtain rfl := Option.some.inj e1
  clear e1
  obtain ⟨k1, hk1⟩ : ∃ k, k = (textS s).size + 40 := ⟨_, rfl⟩
  rw [← hk1] at hs1
  have hk1' : k1 ≤ 2000000 := by omega
  clear hk1
  go_wp2_with fail
  refine parseR_any _ _ (by omega) ?_ (fun h => by rw [hp'.out] at h; cases h)
  intro s2 e2 Ab nb cb w2 hzb hnb hx2
  rw [hp'.out] at e2
  obtain rfl := Option.some.inj e2
  clear e2 hp'
  have hnb' : nb ≤ 5000000 := by omega
  have hs2 := hs1.ext hx2
  have hxw2 := hx1.trans' hx2
  clear hx1 hx2 hs1 hnb
  go_wp2_with fail
  have hb7 := blk_1_1 w2 (.cells (refCells Ab nb cb s) 31)
  have hx3 : Ext w (w2.alloc (.cells (refCells Ab nb cb s) 31)) := hxw2.alloc' _
  have hs3 := hs2.ext ((Ext.rfl' w2).alloc' (.cells (refCells Ab nb cb s) 31))
  have hz3 := hzb.ext ((Ext.rfl' w2).alloc' (.cells (refCells Ab nb cb s) 31))
  have hlt7 : w2.heap.size < (w2.alloc (.cells (refCells Ab nb cb s) 31)).heap.size := by simp
  unfold refCells at hb7 hx3 hs3 hz3 hlt7
  generalize w2.alloc (.cells #[.bool (decide (s.z < 0)), .slice Ab nb cb, .bool s.plus, .bool s.minus, .bool s.nan, .bool s.other, v64 s.count] 31) = W3 at hb7 hx3 hs3 hz3 hlt7 ⊢
  generalize w2.heap.size = b7 at hb7 hlt7 ⊢
  clear hs2 hzb hxw2
  refine lives_any _ (hL.ext hx3).pow ?_
  intro w4 h4
  have hx4 := hx3.trans' h4
  have hb7' := (h4.block b7 hlt7).trans hb7
  have hs4 := hs3.ext h4
  have hz4 := hz3.ext h4
  clear hx3 h4 hb7 hs3 hz3 hlt7
  have d0 : w4.cell? ⟨b7, 0, none⟩ = some (.bool (decide (s.z < 0))) := cell_of_blk hb7' 0
  have d1 : w4.cell? ⟨b7, 1, none⟩ = some (.slice Ab nb cb) := cell_of_blk hb7' 1
  have d2 : w4.cell? ⟨b7, 2, none⟩ = some (.bool s.plus) := cell_of_blk hb7' 2
  have d3 : w4.cell? ⟨b7, 3, none⟩ = some (.bool s.minus) := cell_of_blk hb7' 3
  have d4 : w4.cell? ⟨b7, 4, none⟩ = some (.bool s.nan) := cell_of_blk hb7' 4
  have d5 : w4.cell? ⟨b7, 5, none⟩ = some (.bool s.other) := cell_of_blk hb7' 5
  have d6 : w4.cell? ⟨b7, 6, none⟩ = some (v64 s.count) := cell_of_blk hb7' 6
  go_wp2_with fail
  refine sameS_any g1 k1 s Ab nb cb _ (hL.ext hx4).pow (by omega) (by omega) hv1 hs4 hz4 ?_
  intro w5 h5
  have hx5 := hx4.trans' h5
  have hb5 := (h5.block b7 (blk_lt hb7')).trans hb7'
  have hs5 := hs4.ext h5
  have hz5 := hz4.ext h5
  clear hx4 h5 hb7' hs4 hz4 d0 d1 d2 d3 d4 d5 d6
  go_wp2_with fail
  refine text_any g1 k1 s _ (by omega) hs5 (hL.ext hx5).pow ?_
  intro w6 h6
  have hx6 := hx5.trans' h6
  have hb6 := (h6.block b7 (blk_lt hb5)).trans hb5
  have hs6 := hs5.ext h6
  have hz6 := hz5.ext h6
  clear hx5 h6 hb5 hs5 hz5
  go_wp2_with fail
  refine summed_any A n c f _ (by omega) hf (hr.ext hx6) ?_
  intro g2 w7 hg2 hS7 h7
  have hx7 := hx6.trans' h7
  have hb7 := (h7.block b7 (blk_lt hb6)).trans hb6
  have hs7 := hs6.ext h7
  have hz7 := hz6.ext h7
  clear h7 hx6 hg2 hb6 hs6 hz6
  go_wp2_with fail
  refine text_any g2 40 _ _ (by omega) hS7 (hL.ext hx7).pow ?_
  intro wt ht'
  have hxt := hx7.trans' ht'
  have hbt := (ht'.block b7 (blk_lt hb7)).trans hb7
  have hst := hs7.ext ht'
  have hzt := hz7.ext ht'
  clear ht' hx7 hb7 hs7 hz7 hS7
  have htx := text_small f n hn
  have hpt := Lib.hid (parse_text (foldS_valid f n (by omega)))
  have hv := (foldS_valid f n (by omega)).tidy
  go_wp2_with fail
  refine parseE_any (textS (foldS f n)) _ (hL.ext hxt) (by omega) ?_ (fun h => by rw [hpt.out] at h; cases h)
  intro s7 e7 g7 w8 hg7 hs8' h8
  rw [hpt.out] at e7
  obtain rfl := Option.some.inj e7
  have hx8 := hxt.trans' h8
  have hb8 := (h8.block b7 (blk_lt hbt)).trans hbt
  have hS8 := hst.ext h8
  have hz8 := hzt.ext h8
  have hgg : g7 ≠ g1 := by have := hst.lt; omega
  clear e7 hpt h8 hxt hg7 hbt hst hzt
  have hvm := hv1.merge hv
  have H19 := fun W (hW : Ext w W) (R' : Ending → World → Prop) K' => total_any (R := R') A n c f W (by omega) hf (hr.ext hW) K'
  clear hf hr
  generalize foldS f n = T at *
  obtain ⟨k7, hk7⟩ : ∃ k, k = (textS T).size + 40 := ⟨_, rfl⟩
  rw [← hk7] at hs8'
  have hk7' : k7 ≤ 5000 := by omega
  clear hk7 htx
  have e0 : w8.cell? ⟨b7, 0, none⟩ = some (.bool (decide (s.z < 0))) := cell_of_blk hb8 0
  have e1 : w8.cell? ⟨b7, 1, none⟩ = some (.slice Ab nb cb) := cell_of_blk hb8 1
  have e2 : w8.cell? ⟨b7, 2, none⟩ = some (.bool s.plus) := cell_of_blk hb8 2
  have e3 : w8.cell? ⟨b7, 3, none⟩ = some (.bool s.minus) := cell_of_blk hb8 3
  have e4 : w8.cell? ⟨b7, 4, none⟩ = some (.bool s.nan) := cell_of_blk hb8 4
  have e5 : w8.cell? ⟨b7, 5, none⟩ = some (.bool s.other) := cell_of_blk hb8 5
  have e6 : w8.cell? ⟨b7, 6, none⟩ = some (v64 s.count) := cell_of_blk hb8 6
  have HT8 : HT w b7 (.bool (decide (s.z < 0))) (.slice Ab nb cb) (.bool s.plus) (.bool s.minus) (.bool s.nan) (.bool s.other) (v64 s.count) Ab nb cb s.z g7 k7 T w8 :=
    ⟨⟨hx8, e0, e1, e2, e3, e4, e5, e6⟩, tyAt_of_blk hb8, hz8, hs8'⟩
  have H16 := fun W (h : HT w b7 (.bool (decide (s.z < 0))) (.slice Ab nb cb) (.bool s.plus) (.bool s.minus) (.bool s.nan) (.bool s.other) (v64 s.count) Ab nb cb s.z g7 k7 T W) A' n' c' (hn' : n' ≤ 2560) (hz : BitsZ W A' n' c' T.z) (R' : Ending → World → Prop) K' =>
    sameS_any (R := R') g7 k7 T A' n' c' W (hL.ext h.1.1).pow (by omega) (by omega) hv h.2.2.2 hz K'
  have H20 := fun W (h : HT w b7 (.bool (decide (s.z < 0))) (.slice Ab nb cb) (.bool s.plus) (.bool s.minus) (.bool s.nan) (.bool s.other) (v64 s.count) Ab nb cb s.z g7 k7 T W) (hs : IsSum W g1 k1 s) (R' : Ending → World → Prop) K' =>
    mergeS_any (R := R') g1 g7 k1 k7 s T W (by omega) (by omega) (Ne.symm hgg) hs h.2.2.2 K'
  have H21 := fun W (h : HT w b7 (.bool (decide (s.z < 0))) (.slice Ab nb cb) (.bool s.plus) (.bool s.minus) (.bool s.nan) (.bool s.other) (v64 s.count) Ab nb cb s.z g7 k7 T W) A' n' c' (hn' : n' ≤ 2560) (hz : BitsZ W A' n' c' T.z) (R' : Ending → World → Prop) K' =>
    mergeR_any (R := R') Ab A' nb cb n' c' s T W (by omega) (by omega) h.2.2.1 hz K'
  have hkm : max k1 k7 + 1 ≤ 3000000 := by omega
  obtain ⟨km, hkm'⟩ : ∃ k, k = max k1 k7 + 1 := ⟨_, rfl⟩
  rw [← hkm'] at H20 hkm
  have H16b := fun W (h : HT w b7 (.bool (decide (s.z < 0))) (.slice Ab nb cb) (.bool s.plus) (.bool s.minus) (.bool s.nan) (.bool s.other) (v64 s.count) Ab nb cb s.z g7 k7 T W) (hs : IsSum W g1 km (mergeS s T)) A' n' c' (hz : BitsZ W A' n' c' (mergeS s T).z) (R' : Ending → World → Prop) K' =>
    sameS_any (R := R') g1 km (mergeS s T) A' n' c' W (hL.ext h.1.1).pow (by omega) (by have := bits_k hz hs rfl; omega) hvm hs hz K'
  clear hkm' hkm hk1' hk7' hnb' ht hn hL hval hv1 hv hvm e0 e1 e2 e3 e4 e5 e6 hx8 hb8 hz8 hs8'
  simp only [refV, refCells] at H16 H19 H21 H16b
  go_wp2_with fail
  refine wp_region_held_drew (S := fun V => HT w b7 (.bool (decide (s.z < 0))) (.slice Ab nb cb) (.bool s.plus) (.bool s.minus) (.bool s.nan) (.bool s.other) (v64 s.count) Ab nb cb s.z g7 k7 T V) (by kernel_rfl) (HT8.drew) (fun hHeld => ?_)
  refine rgW (i := 0) (some 63) (v := ?_) rfl rfl (by kernel_rfl) (by kernel_rfl) (by kernel_rfl) (fun _ _ _ h => h) (by kernel_rfl) hHeld ?_ ?_
  rotate_left
  · intro wS hSw; (try dsimp only at hSw); go_simp; try (with_reducible rfl)
  simp only [Act.put, List.setIfInBounds_toArray, List.set_cons_zero, List.set_cons_succ]
  refine rgW (i := 1) (some 64) (v := ?_) rfl rfl (by kernel_rfl) (by kernel_rfl) (by kernel_rfl) (fun _ _ _ h => h) (by kernel_rfl) hHeld ?_ ?_
  rotate_left
  · intro wS hSw; (try dsimp only at hSw); go_simp; try (with_reducible rfl)
  simp only [Act.put, List.setIfInBounds_toArray, List.set_cons_zero, List.set_cons_succ]
  refine rgW (i := 2) (some 65) (v := ?_) rfl rfl (by kernel_rfl) (by kernel_rfl) (by kernel_rfl) (fun _ _ _ h => h) (by kernel_rfl) hHeld ?_ ?_
  rotate_left
  · intro wS hSw; (try dsimp only at hSw); go_simp; try (with_reducible rfl)
  simp only [Act.put, List.setIfInBounds_toArray, List.set_cons_zero, List.set_cons_succ]
  refine rgW (i := 3) (some 66) (v := ?_) rfl rfl (by kernel_rfl) (by kernel_rfl) (by kernel_rfl) (fun _ _ _ h => h) (by kernel_rfl) hHeld ?_ ?_
  rotate_left
  · intro wS hSw; (try dsimp only at hSw); go_simp; try (with_reducible rfl)
  simp only [Act.put, List.setIfInBounds_toArray, List.set_cons_zero, List.set_cons_succ]
  refine rgW (i := 4) (some 67) (v := ?_) rfl rfl (by kernel_rfl) (by kernel_rfl) (by kernel_rfl) (fun _ _ _ h => h) (by kernel_rfl) hHeld ?_ ?_
  rotate_left
  · intro wS hSw; (try dsimp only at hSw); go_simp; try (with_reducible rfl)
  simp only [Act.put, List.setIfInBounds_toArray, List.set_cons_zero, List.set_cons_succ]
  refine rgW (i := 5) (some 68) (v := ?_) rfl rfl (by kernel_rfl) (by kernel_rfl) (by kernel_rfl) (fun _ _ _ h => h) (by kernel_rfl) hHeld ?_ ?_
  rotate_left
  · intro wS hSw; (try dsimp only at hSw); go_simp; try (with_reducible rfl)
  simp only [Act.put, List.setIfInBounds_toArray, List.set_cons_zero, List.set_cons_succ]
  refine rgW (i := 6) (some 69) (v := ?_) rfl rfl (by kernel_rfl) (by kernel_rfl) (by kernel_rfl) (fun _ _ _ h => h) (by kernel_rfl) hHeld ?_ ?_
  rotate_left
  · intro wS hSw; (try dsimp only at hSw); go_simp; try (with_reducible rfl)
  simp only [Act.put, List.setIfInBounds_toArray, List.set_cons_zero, List.set_cons_succ]
  refine rgW (i := 7) (some 70) (v := ?_) rfl rfl (by kernel_rfl) (by kernel_rfl) (by kernel_rfl) (fun _ _ _ h => h) (by kernel_rfl) hHeld ?_ ?_
  rotate_left
  · intro wS hSw; (try dsimp only at hSw); go_simp; try (with_reducible rfl)
  simp only [Act.put, List.setIfInBounds_toArray, List.set_cons_zero, List.set_cons_succ]
  refine rgW (i := 8) (some 71) (v := ?_) rfl rfl (by kernel_rfl) (by kernel_rfl) (by kernel_rfl) (fun _ _ _ h => h) (by kernel_rfl) hHeld ?_ ?_
  rotate_left
  · intro wS hSw; (try dsimp only at hSw); go_simp; try (with_reducible rfl)
  simp only [Act.put, List.setIfInBounds_toArray, List.set_cons_zero, List.set_cons_succ]
  refine rgC (i := 9) (some 72) 19 (args := ?_) rfl rfl (by kernel_rfl) (by kernel_rfl) ?_ ?_
  rotate_left
  · go_simp; try (with_reducible rfl)
  intro K9 hK9
  refine H19 _ hHeld.1.1 _ ?_
  intro A2 n2 c2 w9 hb2 hn2 h9
  refine hK9.out _ _ (hHeld.mono h9) ?_
  have hHeld := hHeld.mono h9
  clear hK9 K9
  simp only [Act.put, List.setIfInBounds_toArray, List.set_cons_zero, List.set_cons_succ]
  refine rgC (i := 10) (some 73) 16 (args := ?_) rfl rfl (by kernel_rfl) (by kernel_rfl) ?_ ?_
  rotate_left
  · go_simp; try (with_reducible rfl)
  intro K10 hK10
  refine H16 _ hHeld _ _ _ hn2 hb2 _ ?_
  intro w10 h10
  refine hK10.out _ _ (hHeld.mono h10) ?_
  have hHeld := hHeld.mono h10
  clear hK10 K10
  simp only [Act.put, List.setIfInBounds_toArray, List.set_cons_zero, List.set_cons_succ]
  refine rgW (i := 11) (some 74) (v := ?_) rfl rfl (by kernel_rfl) (by kernel_rfl) (by kernel_rfl) (fun _ _ _ h => h) (by kernel_rfl) hHeld ?_ ?_
  rotate_left
  · intro wS hSw; (try dsimp only at hSw); go_simp; try (with_reducible rfl)
  simp only [Act.put, List.setIfInBounds_toArray, List.set_cons_zero, List.set_cons_succ]
  refine rgW (i := 12) (some 75) (v := ?_) rfl rfl (by kernel_rfl) (by kernel_rfl) (by kernel_rfl) (fun _ _ _ h => h) (by kernel_rfl) hHeld ?_ ?_
  rotate_left
  · intro wS hSw; (try dsimp only at hSw); go_simp; try (with_reducible rfl)
  simp only [Act.put, List.setIfInBounds_toArray, List.set_cons_zero, List.set_cons_succ]
  refine rgW (i := 13) (some 76) (v := ?_) rfl rfl (by kernel_rfl) (by kernel_rfl) (by kernel_rfl) (fun _ _ _ h => h) (by kernel_rfl) hHeld ?_ ?_
  rotate_left
  · intro wS hSw; (try dsimp only at hSw); go_simp; try (with_reducible rfl)
  simp only [Act.put, List.setIfInBounds_toArray, List.set_cons_zero, List.set_cons_succ]
  refine rgW (i := 14) (some 77) (v := ?_) rfl rfl (by kernel_rfl) (by kernel_rfl) (by kernel_rfl) (fun _ _ _ h => h) (by kernel_rfl) hHeld ?_ ?_
  rotate_left
  · intro wS hSw; (try dsimp only at hSw); go_simp; try (with_reducible rfl)
  simp only [Act.put, List.setIfInBounds_toArray, List.set_cons_zero, List.set_cons_succ]
  refine rgW (i := 15) (some 78) (v := ?_) rfl rfl (by kernel_rfl) (by kernel_rfl) (by kernel_rfl) (fun _ _ _ h => h) (by kernel_rfl) hHeld ?_ ?_
  rotate_left
  · intro wS hSw; (try dsimp only at hSw); go_simp; try (with_reducible rfl)
  simp only [Act.put, List.setIfInBounds_toArray, List.set_cons_zero, List.set_cons_succ]
  refine rgW (i := 16) (some 79) (v := ?_) rfl rfl (by kernel_rfl) (by kernel_rfl) (by kernel_rfl) (fun _ _ _ h => h) (by kernel_rfl) hHeld ?_ ?_
  rotate_left
  · intro wS hSw; (try dsimp only at hSw); go_simp; try (with_reducible rfl)
  simp only [Act.put, List.setIfInBounds_toArray, List.set_cons_zero, List.set_cons_succ]
  refine rgW (i := 17) (some 80) (v := ?_) rfl rfl (by kernel_rfl) (by kernel_rfl) (by kernel_rfl) (fun _ _ _ h => h) (by kernel_rfl) hHeld ?_ ?_
  rotate_left
  · intro wS hSw; (try dsimp only at hSw); go_simp; try (with_reducible rfl)
  simp only [Act.put, List.setIfInBounds_toArray, List.set_cons_zero, List.set_cons_succ]
  refine rgC (i := 18) (some 81) 20 (args := ?_) rfl rfl (by kernel_rfl) (by kernel_rfl) ?_ ?_
  rotate_left
  · go_simp; try (with_reducible rfl)
  intro K18 hK18
  have q10 := (hS8.ext h9.undrew).ext h10
  refine H20 _ hHeld q10 _ ?_
  intro w11 hm11 hg11
  refine hK18.out _ _ (hHeld.grown hg11 q10.ty hg1 hgg) ?_
  have hHeld := hHeld.grown hg11 q10.ty hg1 hgg
  clear hK18 K18
  simp only [Act.put, List.setIfInBounds_toArray, List.set_cons_zero, List.set_cons_succ]
  refine rgW (i := 19) (some 82) (v := ?_) rfl rfl (by kernel_rfl) (by kernel_rfl) (by kernel_rfl) (fun _ _ _ h => h) (by kernel_rfl) hHeld ?_ ?_
  rotate_left
  · intro wS hSw; (try dsimp only at hSw); go_simp; try (with_reducible rfl)
  simp only [Act.put, List.setIfInBounds_toArray, List.set_cons_zero, List.set_cons_succ]
  refine rgW (i := 20) (some 83) (v := ?_) rfl rfl (by kernel_rfl) (by kernel_rfl) (by kernel_rfl) (fun _ _ _ h => h) (by kernel_rfl) hHeld ?_ ?_
  rotate_left
  · intro wS hSw; (try dsimp only at hSw); go_simp; try (with_reducible rfl)
  simp only [Act.put, List.setIfInBounds_toArray, List.set_cons_zero, List.set_cons_succ]
  refine rgW (i := 21) (some 84) (v := ?_) rfl rfl (by kernel_rfl) (by kernel_rfl) (by kernel_rfl) (fun _ _ _ h => h) (by kernel_rfl) hHeld ?_ ?_
  rotate_left
  · intro wS hSw; (try dsimp only at hSw); go_simp; try (with_reducible rfl)
  simp only [Act.put, List.setIfInBounds_toArray, List.set_cons_zero, List.set_cons_succ]
  refine rgW (i := 22) (some 85) (v := ?_) rfl rfl (by kernel_rfl) (by kernel_rfl) (by kernel_rfl) (fun _ _ _ h => h) (by kernel_rfl) hHeld ?_ ?_
  rotate_left
  · intro wS hSw; (try dsimp only at hSw); go_simp; try (with_reducible rfl)
  simp only [Act.put, List.setIfInBounds_toArray, List.set_cons_zero, List.set_cons_succ]
  refine rgW (i := 23) (some 86) (v := ?_) rfl rfl (by kernel_rfl) (by kernel_rfl) (by kernel_rfl) (fun _ _ _ h => h) (by kernel_rfl) hHeld ?_ ?_
  rotate_left
  · intro wS hSw; (try dsimp only at hSw); go_simp; try (with_reducible rfl)
  simp only [Act.put, List.setIfInBounds_toArray, List.set_cons_zero, List.set_cons_succ]
  refine rgC (i := 24) (some 87) 19 (args := ?_) rfl rfl (by kernel_rfl) (by kernel_rfl) ?_ ?_
  rotate_left
  · go_simp; try (with_reducible rfl)
  intro K24 hK24
  refine H19 _ hHeld.1.1 _ ?_
  intro A3 n3 c3 w12 hb3 hn3 h12
  refine hK24.out _ _ (hHeld.mono h12) ?_
  have hHeld := hHeld.mono h12
  clear hK24 K24
  simp only [Act.put, List.setIfInBounds_toArray, List.set_cons_zero, List.set_cons_succ]
  refine rgC (i := 25) (some 88) 21 (args := ?_) rfl rfl (by kernel_rfl) (by kernel_rfl) ?_ ?_
  rotate_left
  · go_simp; try (with_reducible rfl)
  intro K25 hK25
  refine H21 _ hHeld _ _ _ hn3 hb3 _ ?_
  intro A4 n4 c4 w13 hb4 h13
  refine hK25.out _ _ (hHeld.mono h13) ?_
  have hHeld := hHeld.mono h13
  clear hK25 K25
  simp only [Act.put, List.setIfInBounds_toArray, List.set_cons_zero, List.set_cons_succ]
  refine rgC (i := 26) (some 89) 16 (args := ?_) rfl rfl (by kernel_rfl) (by kernel_rfl) ?_ ?_
  rotate_left
  · go_simp; try (with_reducible rfl)
  intro K26 hK26
  refine H16b _ hHeld ((hm11.ext h12).ext h13) _ _ _ hb4 _ ?_
  intro w14 h14
  refine hK26.out _ _ (hHeld.mono h14) ?_
  have hHeld := hHeld.mono h14
  clear hK26 K26
  simp only [Act.put, List.setIfInBounds_toArray, List.set_cons_zero, List.set_cons_succ]
  refine rgW (i := 27) (some 90) (v := ?_) rfl rfl (by kernel_rfl) (by kernel_rfl) (by kernel_rfl) (fun _ _ _ h => h) (by kernel_rfl) hHeld ?_ ?_
  rotate_left
  · intro wS hSw; (try dsimp only at hSw); go_simp; try (with_reducible rfl)
  simp only [Act.put, List.setIfInBounds_toArray, List.set_cons_zero, List.set_cons_succ]
  refine rgW (i := 28) (some 91) (v := ?_) rfl rfl (by kernel_rfl) (by kernel_rfl) (by kernel_rfl) (fun _ _ _ h => h) (by kernel_rfl) hHeld ?_ ?_
  rotate_left
  · intro wS hSw; (try dsimp only at hSw); go_simp; try (with_reducible rfl)
  simp only [Act.put, List.setIfInBounds_toArray, List.set_cons_zero, List.set_cons_succ]
  refine rgW (i := 29) (some 92) (v := ?_) rfl rfl (by kernel_rfl) (by kernel_rfl) (by kernel_rfl) (fun _ _ _ h => h) (by kernel_rfl) hHeld ?_ ?_
  rotate_left
  · intro wS hSw; (try dsimp only at hSw); go_simp; try (with_reducible rfl)
  simp only [Act.put, List.setIfInBounds_toArray, List.set_cons_zero, List.set_cons_succ]
  refine rgW (i := 30) (some 4) (v := ?_) rfl rfl (by kernel_rfl) (by kernel_rfl) (by kernel_rfl) (fun _ _ _ h => h) (by kernel_rfl) hHeld ?_ ?_
  rotate_left
  · intro wS hSw; (try dsimp only at hSw); go_simp; try (with_reducible rfl)
  simp only [Act.put, List.setIfInBounds_toArray, List.set_cons_zero, List.set_cons_succ]
  refine wpAnyH_done (by kernel_rfl) ?_ _
  have fin := K _ hHeld.1.1
  clear K H19 H16 H20 H21 H16b hS8 hHeld hb2 hn2 h9 h10 q10 hm11 hg11 hb3 hn3 h12 hb4 h13 h14 HT8 hgg hg1
  go_wp2
  exact fin
end Go.Proofs.YtjngofngjbjpbaaGreatDoor
end
