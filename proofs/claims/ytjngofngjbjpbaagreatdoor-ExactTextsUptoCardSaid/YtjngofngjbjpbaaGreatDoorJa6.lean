/- The functions of package whole: sums, differences, signs, shifts, quotients. (whole.Int).Add: the sum of two whole numbers. (whole.Int).Lsh: a whole number times a power of two. (whole.Int).Sub and Quo. (whole.Int).Quo: the quotient and what is left. -/
import Derived.Test.YtjngofngjbjpbaaGreatDoorJa4
import Derived.Deep.RegionHeld3
import Derived.Test.YtjngofngjbjpbaaGreatDoorJa5

section
set_option linter.unusedSimpArgs false
set_option linter.unusedVariables false
namespace Go.Proofs.YtjngofngjbjpbaaGreatDoor
open Go.RowKit

theorem sg_tail (neg : Bool) {f : Nat → Nat} {m n : Nat} (hm : m ≤ n) (h : ∀ i, m ≤ i → i < n → f i = 0) : sg (neg && decide (0 < m)) (valB W64 f m) = sg neg (valB W64 f n) := by
  rw [valB_tail hm h]
  by_cases h0 : 0 < m
  · simp [h0]
  · obtain rfl : m = 0 := by omega
    cases neg <;> simp [sg, valB]

theorem made_int {R : Ending → World → Prop} (neg : Bool) (A : Option Addr) (n c k : Nat) (f : Nat → Nat) (w : World) (hn : n ≤ 1099511627777) (hc : n ≤ c) (hk : n ≤ k) (hr : RowAt w 29 A n (fun i => v64 (f i)))
    (hf : ∀ i, i < n → f i < W64) (K : ∀ neg' A' m c' w', IsInt w' neg' A' m c' k (sg neg (valB W64 f n)) → Ext w w' → R (.returned (intV neg' A' m c')) w') :
    Calls Tryz.prog 124 #[.bool neg, .slice A n c] w R :=
  made_any neg A n c f w hn hc hr fun m w' hm hz h0 hx => K _ _ _ _ w' ⟨f, by omega, by omega, (hr.ext hx).le hm, fun i hi => hf i (by omega), h0, by simp, (sg_tail neg hm hz).symm⟩ hx

set_option maxHeartbeats 400000 in
theorem neg_any {R : Ending → World → Prop} (neg : Bool) (A : Option Addr) (n c k : Nat) (z : Int) (w : World) (hk : k ≤ 1099511627776) (h : IsInt w neg A n c k z)
    (K : ∀ neg' A' m c' w', IsInt w' neg' A' m c' k (-z) → Ext w w' → R (.returned (intV neg' A' m c')) w') :
    Calls Tryz.prog 183 #[intV neg A n c] w R := by
  obtain ⟨f, h1, h2, h3, h4, h5, h6, rfl⟩ := h.ex
  go_enter Tryz.func183, Tryz.ntmps183
  go_wp2_with fail
  refine made_int (!neg) A n c k f _ (by omega) h1 h2 (h3.ext (((Ext.rfl' w).alloc' _).alloc' _)) h4 ?_
  intro neg' A' m c' w1 hi hx
  obtain ⟨hc, hf⟩ := bcell hx
  have hz := hx.size
  simp at hz
  obtain ⟨hi', c0, c1⟩ := ret_int hx (blk_2_2 w _ _) hi
  have hw0 : Ext w w1 := (((Ext.rfl' w).alloc' _).alloc' _).trans' hx
  have fin := K neg' A' m c' _ (by rw [show -sg neg (valB W64 f n) = sg (!neg) (valB W64 f n) by cases neg <;> simp [sg]]; exact hi') (hw0.stored _ (by omega) _ _)
  clear K hw0 hi' hx hi
  go_wp2
  exact bodyPost_ret (v := intV neg' A' m c') (by simp [results, Tryz.results183, go_sem, c0, c1]) rfl fin

theorem sg_natAbs (neg : Bool) (m : Nat) : (sg neg m).natAbs = m := by cases neg <;> simp [sg]

theorem abs_any {R : Ending → World → Prop} (neg : Bool) (A : Option Addr) (n c k : Nat) (z : Int) (w : World) (h : IsInt w neg A n c k z)
    (K : ∀ w', IsInt w' false A n c k (z.natAbs : Nat) → Ext w w' → R (.returned (intV false A n c)) w') :
    Calls Tryz.prog 211 #[intV neg A n c] w R := by
  obtain ⟨f, h1, h2, h3, h4, h5, h6, rfl⟩ := h.ex
  have hx : Ext w ((w.alloc (.cells #[.bool neg, .slice A n c] 112)).alloc (.cells #[.bool false, .slice A n c] 112)) := ((Ext.rfl' w).alloc' _).alloc' _
  have fin := K _ ⟨f, h1, h2, h3.ext hx, h4, h5, by simp, by rw [sg_natAbs]; simp [sg]⟩ hx
  clear K
  go_enter Tryz.func211, Tryz.ntmps211
  go_wp2
  exact bodyPost_ret (v := intV false A n c) (by simp [results, Tryz.results211, go_sem]) rfl fin

theorem sign_of (neg : Bool) {f : Nat → Nat} {n : Nat} (h5 : 0 < n → f (n - 1) ≠ 0) (h6 : neg = true → 0 < n) : (n = 0 ↔ sg neg (valB W64 f n) = 0) ∧ (sg neg (valB W64 f n) < 0 ↔ neg = true) := by
  rcases Nat.eq_zero_or_pos n with h | h
  · subst h
    cases neg
    · simp [sg, valB]
    · exact absurd (h6 rfl) (by omega)
  · have := valB_pos (B := W64) (by decide) h (h5 h)
    cases neg <;> simp [sg] <;> omega

theorem sign_any {R : Ending → World → Prop} (neg : Bool) (A : Option Addr) (n c k : Nat) (z : Int) (w : World) (h : IsInt w neg A n c k z)
    (K : ∀ w', Ext w w' → R (.returned (.int .i64 (z.sign))) w') :
    Calls Tryz.prog 55 #[intV neg A n c] w R := by
  obtain ⟨f, h1, h2, h3, h4, h5, h6, rfl⟩ := h.ex
  have hx : Ext w (w.alloc (.cells #[.bool neg, .slice A n c] 112)) := (Ext.rfl' w).alloc' _
  have fin := K _ hx
  obtain ⟨e0, e1⟩ := sign_of neg h5 h6
  clear K h3
  by_cases h0 : n = 0
  · subst h0
    rw [e0.1 rfl] at fin
    clear e0 e1
    go_enter Tryz.func55, Tryz.ntmps55
    go_wp2
    exact fin
  · have hb : ((n : Int) == 0) = false := by simp; omega
    cases neg
    · rw [Int.sign_eq_one_of_pos (by have : ¬ sg false (valB W64 f n) < 0 := by rw [e1]; simp
                                     have : sg false (valB W64 f n) ≠ 0 := fun e => h0 (e0.2 e)
                                     omega)] at fin
      clear e0 e1
      go_enter Tryz.func55, Tryz.ntmps55
      go_wp2
      exact fin
    · rw [Int.sign_eq_neg_one_of_neg (e1.2 rfl)] at fin
      clear e0 e1
      go_enter Tryz.func55, Tryz.ntmps55
      go_wp2
      exact fin

set_option maxHeartbeats 400000 in
theorem of_any {R : Ending → World → Prop} (x : Nat) (w : World) (hx : x < W64)
    (K : ∀ neg' A' m c' w', IsInt w' neg' A' m c' 1 (x : Int) → Ext w w' → R (.returned (intV neg' A' m c')) w') :
    Calls Tryz.prog 137 #[v64 x] w R := by
  go_enter Tryz.func137, Tryz.ntmps137
  go_wp2_with fail
  refine made_int false (some ⟨w.heap.size + 1, 0, none⟩) 1 1 1 (fun _ => x) _ (by omega) (by omega) (by omega) (rowAt_one _ _ _ _) (fun _ _ => hx) ?_
  intro neg' A' m c' w1 hi hxx
  obtain ⟨hc, hf⟩ := bcell hxx
  have hz := hxx.size
  simp at hz
  obtain ⟨hi', c0, c1⟩ := ret_int hxx (blk_1_2 w _ _) hi
  have hw0 : Ext w w1 := (((Ext.rfl' w).alloc' _).alloc' _).trans' hxx
  have fin := K neg' A' m c' _ (by simpa [sg, valB] using hi') (hw0.stored _ (by omega) _ _)
  clear K hw0 hi' hxx hi
  go_wp2
  exact bodyPost_ret (v := intV neg' A' m c') (by simp [results, Tryz.results137, go_sem, c0, c1]) rfl fin

theorem bitLen_bl {x : Nat} (hx : x < W64) : Lib.bitLen x = bl x := by
  have h := Lib.bitLen_le x 64 (by omega) hx
  by_cases h0 : x = 0
  · subst h0; rfl
  · obtain ⟨h1, h2, h3⟩ := Lib.bitLenAux_bounds 64 x hx h0
    obtain ⟨k, hk⟩ : ∃ k, Lib.bitLen x = k + 1 := ⟨Lib.bitLen x - 1, by unfold Lib.bitLen; omega⟩
    rw [hk]
    unfold Lib.bitLen at hk
    rw [hk] at h2 h3
    exact (bl_eq h3 (by simpa using h2)).symm
theorem len64_any {R : Ending → World → Prop} (x : Nat) (w : World) (hx : x < W64) (K : R (.returned (.int .i64 (bl x : Nat))) w) : Calls Tryz.prog 272 #[v64 x] w R :=
  (Tryz.bits_Len64 (x : Int) w (by omega) (by unfold W64 at hx; omega)).mono fun e w' ⟨he, hw⟩ => by subst he; subst hw; rw [← bitLen_bl hx] at K; simpa using K

set_option maxHeartbeats 400000 in
theorem len_any {R : Ending → World → Prop} (neg : Bool) (A : Option Addr) (n c k : Nat) (z : Int) (w : World) (hk : k ≤ 1099511627776) (h : IsInt w neg A n c k z)
    (K : ∀ w', Ext w w' → R (.returned (.int .i64 (bl z.natAbs : Nat))) w') :
    Calls Tryz.prog 212 #[intV neg A n c] w R := by
  obtain ⟨f, h1, h2, h3, h4, h5, h6, rfl⟩ := h.ex
  have hx : Ext w (w.alloc (.cells #[.bool neg, .slice A n c] 112)) := (Ext.rfl' w).alloc' _
  have fin := K _ hx
  clear K
  rw [sg_natAbs] at fin
  by_cases h0 : n = 0
  · subst h0
    go_enter Tryz.func212, Tryz.ntmps212
    go_wp2
    exact fin
  · obtain ⟨g, rfl, hg, hcell⟩ := h3.cell (by omega)
    have hc1 := hcell (n - 1) (by omega)
    have hlt := h4 (n - 1) (by omega)
    clear h3 hcell
    have e : bl (valB W64 f n) = 64 * (n - 1) + bl (f (n - 1)) := by
      obtain ⟨m, rfl⟩ : ∃ m, n = m + 1 := ⟨n - 1, by omega⟩
      exact bl_top h4 (h5 (by omega))
    have hb : bl (f (n - 1)) ≤ 64 := bl_le_of_lt hlt
    rw [e] at fin
    clear e h4 h5 h6 h
    go_enter Tryz.func212, Tryz.ntmps212
    go_wp2_with fail
    refine len64_any _ _ hlt ?_
    clear hlt
    go_wp2
    rw [show (((64 * (n - 1) + bl (f (n - 1)) : Nat)) : Int) = ((n : Int) - 1) * 64 + (bl (f (n - 1)) : Int) by omega] at fin
    exact fin
end Go.Proofs.YtjngofngjbjpbaaGreatDoor
end

section
set_option linter.unusedSimpArgs false
set_option linter.unusedVariables false
namespace Go.Proofs.YtjngofngjbjpbaaGreatDoor
open Go.RowKit

/-- two boxes of a struct of two cells, as a drawing region keeps them -/
def Box2 (n : Nat) (p q r s : Value) (W : World) : Prop := n + 1 + 1 < W.heap.size ∧ W.cell? ⟨n, 0, none⟩ = some p ∧ W.cell? ⟨n, 1, none⟩ = some q ∧ W.cell? ⟨n + 1, 0, none⟩ = some r ∧ W.cell? ⟨n + 1, 1, none⟩ = some s
theorem box2_mono {n : Nat} {p q r s : Value} {W W' : World} (hx : Ext W W') (h : n + 1 + 1 < W.heap.size ∧ W.cell? ⟨n, 0, none⟩ = some p ∧ W.cell? ⟨n, 1, none⟩ = some q ∧ W.cell? ⟨n + 1, 0, none⟩ = some r ∧ W.cell? ⟨n + 1, 1, none⟩ = some s) :
    n + 1 + 1 < W'.heap.size ∧ W'.cell? ⟨n, 0, none⟩ = some p ∧ W'.cell? ⟨n, 1, none⟩ = some q ∧ W'.cell? ⟨n + 1, 0, none⟩ = some r ∧ W'.cell? ⟨n + 1, 1, none⟩ = some s := by
  obtain ⟨h0, h1, h2, h3, h4⟩ := h
  have := hx.size
  exact ⟨by omega, (hx.cell (p := ⟨n, 0, none⟩) (by simp; omega)).trans h1, (hx.cell (p := ⟨n, 1, none⟩) (by simp; omega)).trans h2, (hx.cell (p := ⟨n + 1, 0, none⟩) (by simp; omega)).trans h3, (hx.cell (p := ⟨n + 1, 1, none⟩) (by simp; omega)).trans h4⟩

theorem box2_set {n o : Nat} {p q r s v : Value} {W : World} (h : n + 1 + 1 < W.heap.size ∧ W.cell? ⟨n, 0, none⟩ = some p ∧ W.cell? ⟨n, 1, none⟩ = some q ∧ W.cell? ⟨n + 1, 0, none⟩ = some r ∧ W.cell? ⟨n + 1, 1, none⟩ = some s) :
    n + 1 + 1 < (W.setCell ⟨n + 1 + 1, o, none⟩ v).heap.size ∧ (W.setCell ⟨n + 1 + 1, o, none⟩ v).cell? ⟨n, 0, none⟩ = some p ∧ (W.setCell ⟨n + 1 + 1, o, none⟩ v).cell? ⟨n, 1, none⟩ = some q ∧ (W.setCell ⟨n + 1 + 1, o, none⟩ v).cell? ⟨n + 1, 0, none⟩ = some r ∧ (W.setCell ⟨n + 1 + 1, o, none⟩ v).cell? ⟨n + 1, 1, none⟩ = some s := by
  obtain ⟨h0, h1, h2, h3, h4⟩ := h
  refine ⟨by simpa [World.setCell] using h0, ?_, ?_, ?_, ?_⟩ <;> rw [World.cell?_setCell_far _ _ _ _ (by simp; try omega)] <;> assumption

theorem ext_tail {g : Nat → Nat} {n2 n1 : Nat} (hl : n2 ≤ n1) : valB W64 (ext g n2) n1 = valB W64 g n2 := by
  rw [valB_tail (f := ext g n2) hl (fun i h _ => if_neg (by omega))]
  exact valB_congr W64 n2 (fun i hi => if_pos hi)
theorem ext_lt {g : Nat → Nat} {n2 : Nat} (h : ∀ i, i < n2 → g i < W64) (i : Nat) : ext g n2 i < W64 := by unfold ext; split; exact h i ‹_›; decide
theorem sum_words {f g : Nat → Nat} {n1 n2 : Nat} (hl : n2 ≤ n1) : valB W64 (fun i => if i < n1 then sumDg W64 f (ext g n2) i else cy W64 f (ext g n2) n1) (n1 + 1) = valB W64 f n1 + valB W64 g n2 := by
  have h := sum_val (B := W64) f (ext g n2) n1
  rw [ext_tail hl] at h
  rw [← h]
  simp only [valB, Nat.lt_irrefl, if_false]
  congr 1
  exact valB_congr W64 n1 (fun i hi => if_pos hi)
theorem sum_lt {f g : Nat → Nat} {n1 n2 : Nat} (hf : ∀ i, i < n1 → f i < W64) (hg : ∀ i, i < n2 → g i < W64) : ∀ i, i < n1 + 1 → (if i < n1 then sumDg W64 f (ext g n2) i else cy W64 f (ext g n2) n1) < W64 := by
  intro i hi
  have hW : 0 < W64 := by decide
  split
  · exact Nat.mod_lt _ hW
  · have := cy_le (B := W64) (f := f) (g := ext g n2) hW n1 hf (fun j _ => ext_lt hg j)
    have : 1 < W64 := by decide
    omega
theorem dif_words {f g : Nat → Nat} {n1 n2 : Nat} (hl : n2 ≤ n1) (hf : ∀ i, i < n1 → f i < W64) (hg : ∀ i, i < n2 → g i < W64) (hle : valB W64 g n2 ≤ valB W64 f n1) :
    valB W64 (difDg W64 f (ext g n2)) n1 = valB W64 f n1 - valB W64 g n2 := by
  have h := dif_val (B := W64) (f := f) (g := ext g n2) n1 (fun i _ => ext_lt hg i)
  have h0 := dif_end (B := W64) (f := f) (g := ext g n2) n1 hf (fun i _ => ext_lt hg i) (by rw [ext_tail hl]; exact hle)
  rw [h0, ext_tail hl] at h
  omega

set_option maxHeartbeats 1000000 in
theorem add_st_like {R : Ending → World → Prop} (s1 s2 : Bool) (A B : Option Addr) (n1 c1 k1 n2 c2 k2 : Nat) (f g : Nat → Nat) (w : World) (hk1 : k1 ≤ 1099511627776) (hk2 : k2 ≤ 1099511627776)
    (e1 : n1 ≤ c1) (e2 : n1 ≤ k1) (e3 : RowAt w 29 A n1 (fun i => v64 (f i))) (e4 : ∀ i, i < n1 → f i < W64) (e5 : 0 < n1 → f (n1 - 1) ≠ 0)
    (g1 : n2 ≤ c2) (g2 : n2 ≤ k2) (g3 : RowAt w 29 B n2 (fun i => v64 (g i))) (g4 : ∀ i, i < n2 → g i < W64) (g5 : 0 < n2 → g (n2 - 1) ≠ 0)
    (hs : ¬ valB W64 f n1 < valB W64 g n2) (hss : s1 = s2)
    (K : ∀ neg' A' m c' w', IsInt w' neg' A' m c' (max k1 k2 + 1) (sg s1 (valB W64 f n1) + sg s2 (valB W64 g n2)) → Ext w w' → R (.returned (intV neg' A' m c')) w') :
    Calls Tryz.prog 72 #[intV s1 A n1 c1, intV s2 B n2 c2] w R := by
  subst hss
  have hbb : (s1 == s1) = true := by simp
  have hl : n2 ≤ n1 := by
    rcases Nat.lt_or_ge n1 n2 with h | h
    · have := valB_lt_of_len (f := f) (g := g) (B := W64) (by decide) e4 h (g5 (by omega))
      omega
    · exact h
  have hle : valB W64 g n2 ≤ valB W64 f n1 := by omega
  go_enter Tryz.func72, Tryz.ntmps72
  go_wp2_with fail
  have hx0 : Ext w (((w.alloc (.cells #[.bool s1, .slice A n1 c1] 112)).alloc (.cells #[.bool s1, .slice B n2 c2] 112)).alloc (.cells #[.bool false, .slice none 0 0] 112)) := (((Ext.rfl' w).alloc' _).alloc' _).alloc' _
  refine cmp_any s1 s1 A B n1 n2 c1 c2 f g _ (by omega) (by omega) (e3.ext hx0) (g3.ext hx0) e4 g4 e5 g5 ?_
  intro W hx1
  have b1 := (hx1.block w.heap.size (by simp; omega)).trans (blk_1_3 w _ _ _)
  have b2 := (hx1.block (w.heap.size + 1) (by simp)).trans (blk_2_3 w _ _ _)
  have b3 := (hx1.block (w.heap.size + 1 + 1) (by simp)).trans (blk_3_3 w _ _ _)
  have hx : Ext w W := hx0.trans' hx1
  have hz := hx1.size
  simp at hz
  clear hx0 hx1
  have q1 : W.cell? ⟨w.heap.size, 0, none⟩ = some (.bool s1) := cell_of_blk b1 0
  have q2 : W.cell? ⟨w.heap.size, 1, none⟩ = some (.slice A n1 c1) := cell_of_blk b1 1
  have q3 : W.cell? ⟨w.heap.size + 1, 0, none⟩ = some (.bool s1) := cell_of_blk b2 0
  have q4 : W.cell? ⟨w.heap.size + 1, 1, none⟩ = some (.slice B n2 c2) := cell_of_blk b2 1
  have hcmp : decide (cmpN (valB W64 f n1) (valB W64 g n2) < 0) = false := by
    unfold cmpN
    rw [if_neg hs]
    split <;> simp
  go_wp2_with fail
  have hbx := e3.ext hx
  have hby := g3.ext hx
  clear b1 b2
  have hbd : ∀ i, i < n1 + 1 → (if i < n1 then sumDg W64 f (ext g n2) i else cy W64 f (ext g n2) n1) < W64 := sum_lt e4 g4
  have hval : sg s1 (valB W64 f n1) + sg s1 (valB W64 g n2) = sg s1 (valB W64 (fun i => if i < n1 then sumDg W64 f (ext g n2) i else cy W64 f (ext g n2) n1) (n1 + 1)) := by
    rw [sum_words hl]; cases s1 <;> simp [sg] <;> omega
  have hS0 : w.heap.size + 1 + 1 < W.heap.size ∧ W.cell? ⟨w.heap.size, 0, none⟩ = some (.bool s1) ∧ W.cell? ⟨w.heap.size, 1, none⟩ = some (.slice A n1 c1) ∧ W.cell? ⟨w.heap.size + 1, 0, none⟩ = some (.bool s1) ∧ W.cell? ⟨w.heap.size + 1, 1, none⟩ = some (.slice B n2 c2) := ⟨by omega, q1, q2, q3, q4⟩
  go_region_held3 (fun W => w.heap.size + 1 + 1 < W.heap.size ∧ W.cell? ⟨w.heap.size, 0, none⟩ = some (.bool s1) ∧ W.cell? ⟨w.heap.size, 1, none⟩ = some (.slice A n1 c1) ∧ W.cell? ⟨w.heap.size + 1, 0, none⟩ = some (.bool s1) ∧ W.cell? ⟨w.heap.size + 1, 1, none⟩ = some (.slice B n2 c2))
    (first | exact hS0 | exact box2_mono (by assumption) (by assumption) | exact box2_set (box2_set (by assumption)) | go_keep)
    (first | (go_at_call 148; refine plus_any A B n1 n2 c1 c2 f g _ (by omega) hl hbx hby e4 g4 ?_; intro b w2 hrow hx2; have hz2 : W.heap.size ≤ w2.heap.size := hx2.size)
           | (go_at_call 124; refine made_int s1 _ _ _ (n1 + 1) _ _ (by omega) (Nat.le_refl _) (Nat.le_refl _) (RowAt.of_rowIs hrow (Nat.le_refl _)) hbd ?_; intro neg' A' m c' w3 hi hx3;
              have hz3 : w2.heap.size ≤ w3.heap.size := hx3.size; have hb3 : w3.heap[w.heap.size + 1 + 1]? = some (.cells #[.bool false, .slice none 0 0] 112 (0, 0)) := (hx3.block _ (by omega)).trans ((hx2.block _ (show _ < W.heap.size by omega)).trans b3);
              have q5 : w3.cell? ⟨w.heap.size + 1 + 1, 0, none⟩ = some (.bool false) := cell_of_blk hb3 0; have q6 : w3.cell? ⟨w.heap.size + 1 + 1, 1, none⟩ = some (.slice none 0 0) := cell_of_blk hb3 1; have q7 := frozen_of_blk hb3 0; have q8 := frozen_of_blk hb3 1))
  obtain ⟨hi', d0, d1⟩ := ret_int' hb3 hi
  have fin := K neg' A' m c' _ (by rw [hval]; exact hi'.le (by omega)) ((hx.trans' (hx2.undrew.trans' hx3)).stored (w.heap.size + 1 + 1) (by omega) _ _)
  clear K hi hi' hx2 hx3 hx
  go_wp2
  exact bodyPost_ret (v := intV neg' A' m c') (by simp [results, Tryz.results72, go_sem, d0, d1]) rfl fin

set_option maxHeartbeats 1000000 in
theorem add_st_un {R : Ending → World → Prop} (s1 s2 : Bool) (A B : Option Addr) (n1 c1 k1 n2 c2 k2 : Nat) (f g : Nat → Nat) (w : World) (hk1 : k1 ≤ 1099511627776) (hk2 : k2 ≤ 1099511627776)
    (e1 : n1 ≤ c1) (e2 : n1 ≤ k1) (e3 : RowAt w 29 A n1 (fun i => v64 (f i))) (e4 : ∀ i, i < n1 → f i < W64) (e5 : 0 < n1 → f (n1 - 1) ≠ 0)
    (g1 : n2 ≤ c2) (g2 : n2 ≤ k2) (g3 : RowAt w 29 B n2 (fun i => v64 (g i))) (g4 : ∀ i, i < n2 → g i < W64) (g5 : 0 < n2 → g (n2 - 1) ≠ 0)
    (hs : ¬ valB W64 f n1 < valB W64 g n2) (hss : (s1 == s2) = false)
    (K : ∀ neg' A' m c' w', IsInt w' neg' A' m c' (max k1 k2 + 1) (sg s1 (valB W64 f n1) + sg s2 (valB W64 g n2)) → Ext w w' → R (.returned (intV neg' A' m c')) w') :
    Calls Tryz.prog 72 #[intV s1 A n1 c1, intV s2 B n2 c2] w R := by
  have hl : n2 ≤ n1 := by
    rcases Nat.lt_or_ge n1 n2 with h | h
    · have := valB_lt_of_len (f := f) (g := g) (B := W64) (by decide) e4 h (g5 (by omega))
      omega
    · exact h
  have hle : valB W64 g n2 ≤ valB W64 f n1 := by omega
  go_enter Tryz.func72, Tryz.ntmps72
  go_wp2_with fail
  have hx0 : Ext w (((w.alloc (.cells #[.bool s1, .slice A n1 c1] 112)).alloc (.cells #[.bool s2, .slice B n2 c2] 112)).alloc (.cells #[.bool false, .slice none 0 0] 112)) := (((Ext.rfl' w).alloc' _).alloc' _).alloc' _
  refine cmp_any s1 s2 A B n1 n2 c1 c2 f g _ (by omega) (by omega) (e3.ext hx0) (g3.ext hx0) e4 g4 e5 g5 ?_
  intro W hx1
  have b1 := (hx1.block w.heap.size (by simp; omega)).trans (blk_1_3 w _ _ _)
  have b2 := (hx1.block (w.heap.size + 1) (by simp)).trans (blk_2_3 w _ _ _)
  have b3 := (hx1.block (w.heap.size + 1 + 1) (by simp)).trans (blk_3_3 w _ _ _)
  have hx : Ext w W := hx0.trans' hx1
  have hz := hx1.size
  simp at hz
  clear hx0 hx1
  have q1 : W.cell? ⟨w.heap.size, 0, none⟩ = some (.bool s1) := cell_of_blk b1 0
  have q2 : W.cell? ⟨w.heap.size, 1, none⟩ = some (.slice A n1 c1) := cell_of_blk b1 1
  have q3 : W.cell? ⟨w.heap.size + 1, 0, none⟩ = some (.bool s2) := cell_of_blk b2 0
  have q4 : W.cell? ⟨w.heap.size + 1, 1, none⟩ = some (.slice B n2 c2) := cell_of_blk b2 1
  have hcmp : decide (cmpN (valB W64 f n1) (valB W64 g n2) < 0) = false := by
    unfold cmpN
    rw [if_neg hs]
    split <;> simp
  go_wp2_with fail
  have hbx := e3.ext hx
  have hby := g3.ext hx
  clear b1 b2
  have hbd : ∀ i, i < n1 → difDg W64 f (ext g n2) i < W64 := fun i hi => difDg_lt i (e4 i hi)
  have hval : sg s1 (valB W64 f n1) + sg s2 (valB W64 g n2) = sg s1 (valB W64 (difDg W64 f (ext g n2)) n1) := by
    rw [dif_words hl e4 g4 hle]; cases s1 <;> cases s2 <;> simp_all [sg] <;> omega
  have hS0 : w.heap.size + 1 + 1 < W.heap.size ∧ W.cell? ⟨w.heap.size, 0, none⟩ = some (.bool s1) ∧ W.cell? ⟨w.heap.size, 1, none⟩ = some (.slice A n1 c1) ∧ W.cell? ⟨w.heap.size + 1, 0, none⟩ = some (.bool s2) ∧ W.cell? ⟨w.heap.size + 1, 1, none⟩ = some (.slice B n2 c2) := ⟨by omega, q1, q2, q3, q4⟩
  go_region_held3 (fun W => w.heap.size + 1 + 1 < W.heap.size ∧ W.cell? ⟨w.heap.size, 0, none⟩ = some (.bool s1) ∧ W.cell? ⟨w.heap.size, 1, none⟩ = some (.slice A n1 c1) ∧ W.cell? ⟨w.heap.size + 1, 0, none⟩ = some (.bool s2) ∧ W.cell? ⟨w.heap.size + 1, 1, none⟩ = some (.slice B n2 c2))
    (first | exact hS0 | exact box2_mono (by assumption) (by assumption) | exact box2_set (box2_set (by assumption)) | go_keep)
    (first | (go_at_call 149; refine less_any A B n1 n2 c1 c2 f g _ (by omega) hl hbx hby e4 g4 ?_; intro b w2 hrow hx2; have hz2 : W.heap.size ≤ w2.heap.size := hx2.size)
           | (go_at_call 124; refine made_int s1 _ _ _ n1 _ _ (by omega) (Nat.le_refl _) (Nat.le_refl _) (RowAt.of_rowIs hrow (Nat.le_refl _)) hbd ?_; intro neg' A' m c' w3 hi hx3;
              have hz3 : w2.heap.size ≤ w3.heap.size := hx3.size; have hb3 : w3.heap[w.heap.size + 1 + 1]? = some (.cells #[.bool false, .slice none 0 0] 112 (0, 0)) := (hx3.block _ (by omega)).trans ((hx2.block _ (show _ < W.heap.size by omega)).trans b3);
              have q5 : w3.cell? ⟨w.heap.size + 1 + 1, 0, none⟩ = some (.bool false) := cell_of_blk hb3 0; have q6 : w3.cell? ⟨w.heap.size + 1 + 1, 1, none⟩ = some (.slice none 0 0) := cell_of_blk hb3 1; have q7 := frozen_of_blk hb3 0; have q8 := frozen_of_blk hb3 1))
  obtain ⟨hi', d0, d1⟩ := ret_int' hb3 hi
  have fin := K neg' A' m c' _ (by rw [hval]; exact hi'.le (by omega)) ((hx.trans' (hx2.undrew.trans' hx3)).stored (w.heap.size + 1 + 1) (by omega) _ _)
  clear K hi hi' hx2 hx3 hx
  go_wp2
  exact bodyPost_ret (v := intV neg' A' m c') (by simp [results, Tryz.results72, go_sem, d0, d1]) rfl fin

set_option maxHeartbeats 1000000 in
theorem add_sw_like {R : Ending → World → Prop} (s1 s2 : Bool) (A B : Option Addr) (n1 c1 k1 n2 c2 k2 : Nat) (f g : Nat → Nat) (w : World) (hk1 : k1 ≤ 1099511627776) (hk2 : k2 ≤ 1099511627776)
    (e1 : n1 ≤ c1) (e2 : n1 ≤ k1) (e3 : RowAt w 29 A n1 (fun i => v64 (f i))) (e4 : ∀ i, i < n1 → f i < W64) (e5 : 0 < n1 → f (n1 - 1) ≠ 0)
    (g1 : n2 ≤ c2) (g2 : n2 ≤ k2) (g3 : RowAt w 29 B n2 (fun i => v64 (g i))) (g4 : ∀ i, i < n2 → g i < W64) (g5 : 0 < n2 → g (n2 - 1) ≠ 0)
    (hs : valB W64 f n1 < valB W64 g n2) (hss : s1 = s2)
    (K : ∀ neg' A' m c' w', IsInt w' neg' A' m c' (max k1 k2 + 1) (sg s1 (valB W64 f n1) + sg s2 (valB W64 g n2)) → Ext w w' → R (.returned (intV neg' A' m c')) w') :
    Calls Tryz.prog 72 #[intV s1 A n1 c1, intV s2 B n2 c2] w R := by
  subst hss
  have hbb : (s1 == s1) = true := by simp
  have hl : n1 ≤ n2 := by
    rcases Nat.lt_or_ge n2 n1 with h | h
    · have := valB_lt_of_len (f := g) (g := f) (B := W64) (by decide) g4 h (e5 (by omega))
      omega
    · exact h
  have hle : valB W64 f n1 ≤ valB W64 g n2 := by omega
  go_enter Tryz.func72, Tryz.ntmps72
  go_wp2_with fail
  have hx0 : Ext w (((w.alloc (.cells #[.bool s1, .slice A n1 c1] 112)).alloc (.cells #[.bool s1, .slice B n2 c2] 112)).alloc (.cells #[.bool false, .slice none 0 0] 112)) := (((Ext.rfl' w).alloc' _).alloc' _).alloc' _
  refine cmp_any s1 s1 A B n1 n2 c1 c2 f g _ (by omega) (by omega) (e3.ext hx0) (g3.ext hx0) e4 g4 e5 g5 ?_
  intro w1 hx1
  have b1 := (hx1.block w.heap.size (by simp; omega)).trans (blk_1_3 w _ _ _)
  have b2 := (hx1.block (w.heap.size + 1) (by simp)).trans (blk_2_3 w _ _ _)
  have b3 := (hx1.block (w.heap.size + 1 + 1) (by simp)).trans (blk_3_3 w _ _ _)
  have hx : Ext w w1 := hx0.trans' hx1
  have hz := hx1.size
  simp at hz
  clear hx0 hx1
  have q1 : w1.cell? ⟨w.heap.size, 0, none⟩ = some (.bool s1) := cell_of_blk b1 0
  have q2 : w1.cell? ⟨w.heap.size, 1, none⟩ = some (.slice A n1 c1) := cell_of_blk b1 1
  have q3 : w1.cell? ⟨w.heap.size + 1, 0, none⟩ = some (.bool s1) := cell_of_blk b2 0
  have q4 : w1.cell? ⟨w.heap.size + 1, 1, none⟩ = some (.slice B n2 c2) := cell_of_blk b2 1
  have hcmp : decide (cmpN (valB W64 f n1) (valB W64 g n2) < 0) = true := by unfold cmpN; rw [if_pos hs]; rfl
  obtain ⟨fz1, fz2, fz3, fz4⟩ := (⟨frozen_of_blk b1 0, frozen_of_blk b1 1, frozen_of_blk b2 0, frozen_of_blk b2 1⟩ : _ ∧ _ ∧ _ ∧ _)
  have swp := swap_boxes b1 b2 b3
  have hxs : Ext w ((((w1.setCell ⟨w.heap.size, 0, none⟩ (.bool s1)).setCell ⟨w.heap.size, 1, none⟩ (.slice B n2 c2)).setCell ⟨w.heap.size + 1, 0, none⟩ (.bool s1)).setCell ⟨w.heap.size + 1, 1, none⟩ (.slice A n1 c1)) :=
    (hx.stored w.heap.size (by omega) _ _).stored (w.heap.size + 1) (by omega) _ _
  skip
  go_wp2_with fail
  obtain ⟨W, hW⟩ : ∃ W, W = ((((w1.setCell ⟨w.heap.size, 0, none⟩ (.bool s1)).setCell ⟨w.heap.size, 1, none⟩ (.slice B n2 c2)).setCell ⟨w.heap.size + 1, 0, none⟩ (.bool s1)).setCell ⟨w.heap.size + 1, 1, none⟩ (.slice A n1 c1)) := ⟨_, rfl⟩
  rw [← hW] at swp hxs ⊢
  clear hW b1 b2 b3 q1 q2 q3 q4 hx fz1 fz2 fz3 fz4
  obtain ⟨b1, b2, b3, hzz⟩ := swp
  have hx := hxs
  clear hxs
  have q1 : W.cell? ⟨w.heap.size, 0, none⟩ = some (.bool s1) := cell_of_blk b1 0
  have q2 : W.cell? ⟨w.heap.size, 1, none⟩ = some (.slice B n2 c2) := cell_of_blk b1 1
  have q3 : W.cell? ⟨w.heap.size + 1, 0, none⟩ = some (.bool s1) := cell_of_blk b2 0
  have q4 : W.cell? ⟨w.heap.size + 1, 1, none⟩ = some (.slice A n1 c1) := cell_of_blk b2 1
  have hbx := g3.ext hx
  have hby := e3.ext hx
  clear b1 b2
  have hbd : ∀ i, i < n2 + 1 → (if i < n2 then sumDg W64 g (ext f n1) i else cy W64 g (ext f n1) n2) < W64 := sum_lt g4 e4
  have hval : sg s1 (valB W64 f n1) + sg s1 (valB W64 g n2) = sg s1 (valB W64 (fun i => if i < n2 then sumDg W64 g (ext f n1) i else cy W64 g (ext f n1) n2) (n2 + 1)) := by
    rw [sum_words hl]; cases s1 <;> simp [sg] <;> omega
  have hS0 : w.heap.size + 1 + 1 < W.heap.size ∧ W.cell? ⟨w.heap.size, 0, none⟩ = some (.bool s1) ∧ W.cell? ⟨w.heap.size, 1, none⟩ = some (.slice B n2 c2) ∧ W.cell? ⟨w.heap.size + 1, 0, none⟩ = some (.bool s1) ∧ W.cell? ⟨w.heap.size + 1, 1, none⟩ = some (.slice A n1 c1) := ⟨by omega, q1, q2, q3, q4⟩
  go_region_held3 (fun W => w.heap.size + 1 + 1 < W.heap.size ∧ W.cell? ⟨w.heap.size, 0, none⟩ = some (.bool s1) ∧ W.cell? ⟨w.heap.size, 1, none⟩ = some (.slice B n2 c2) ∧ W.cell? ⟨w.heap.size + 1, 0, none⟩ = some (.bool s1) ∧ W.cell? ⟨w.heap.size + 1, 1, none⟩ = some (.slice A n1 c1))
    (first | exact hS0 | exact box2_mono (by assumption) (by assumption) | exact box2_set (box2_set (by assumption)) | go_keep)
    (first | (go_at_call 148; refine plus_any B A n2 n1 c2 c1 g f _ (by omega) hl hbx hby g4 e4 ?_; intro b w2 hrow hx2; have hz2 : W.heap.size ≤ w2.heap.size := hx2.size)
           | (go_at_call 124; refine made_int s1 _ _ _ (n2 + 1) _ _ (by omega) (Nat.le_refl _) (Nat.le_refl _) (RowAt.of_rowIs hrow (Nat.le_refl _)) hbd ?_; intro neg' A' m c' w3 hi hx3;
              have hz3 : w2.heap.size ≤ w3.heap.size := hx3.size; have hb3 : w3.heap[w.heap.size + 1 + 1]? = some (.cells #[.bool false, .slice none 0 0] 112 (0, 0)) := (hx3.block _ (by omega)).trans ((hx2.block _ (show _ < W.heap.size by omega)).trans b3);
              have q5 : w3.cell? ⟨w.heap.size + 1 + 1, 0, none⟩ = some (.bool false) := cell_of_blk hb3 0; have q6 : w3.cell? ⟨w.heap.size + 1 + 1, 1, none⟩ = some (.slice none 0 0) := cell_of_blk hb3 1; have q7 := frozen_of_blk hb3 0; have q8 := frozen_of_blk hb3 1))
  obtain ⟨hi', d0, d1⟩ := ret_int' hb3 hi
  have fin := K neg' A' m c' _ (by rw [hval]; exact hi'.le (by omega)) ((hx.trans' (hx2.undrew.trans' hx3)).stored (w.heap.size + 1 + 1) (by omega) _ _)
  clear K hi hi' hx2 hx3 hx
  go_wp2
  exact bodyPost_ret (v := intV neg' A' m c') (by simp [results, Tryz.results72, go_sem, d0, d1]) rfl fin

set_option maxHeartbeats 1000000 in
theorem add_sw_un {R : Ending → World → Prop} (s1 s2 : Bool) (A B : Option Addr) (n1 c1 k1 n2 c2 k2 : Nat) (f g : Nat → Nat) (w : World) (hk1 : k1 ≤ 1099511627776) (hk2 : k2 ≤ 1099511627776)
    (e1 : n1 ≤ c1) (e2 : n1 ≤ k1) (e3 : RowAt w 29 A n1 (fun i => v64 (f i))) (e4 : ∀ i, i < n1 → f i < W64) (e5 : 0 < n1 → f (n1 - 1) ≠ 0)
    (g1 : n2 ≤ c2) (g2 : n2 ≤ k2) (g3 : RowAt w 29 B n2 (fun i => v64 (g i))) (g4 : ∀ i, i < n2 → g i < W64) (g5 : 0 < n2 → g (n2 - 1) ≠ 0)
    (hs : valB W64 f n1 < valB W64 g n2) (hss : (s1 == s2) = false)
    (K : ∀ neg' A' m c' w', IsInt w' neg' A' m c' (max k1 k2 + 1) (sg s1 (valB W64 f n1) + sg s2 (valB W64 g n2)) → Ext w w' → R (.returned (intV neg' A' m c')) w') :
    Calls Tryz.prog 72 #[intV s1 A n1 c1, intV s2 B n2 c2] w R := by
  have hl : n1 ≤ n2 := by
    rcases Nat.lt_or_ge n2 n1 with h | h
    · have := valB_lt_of_len (f := g) (g := f) (B := W64) (by decide) g4 h (e5 (by omega))
      omega
    · exact h
  have hle : valB W64 f n1 ≤ valB W64 g n2 := by omega
  go_enter Tryz.func72, Tryz.ntmps72
  go_wp2_with fail
  have hx0 : Ext w (((w.alloc (.cells #[.bool s1, .slice A n1 c1] 112)).alloc (.cells #[.bool s2, .slice B n2 c2] 112)).alloc (.cells #[.bool false, .slice none 0 0] 112)) := (((Ext.rfl' w).alloc' _).alloc' _).alloc' _
  refine cmp_any s1 s2 A B n1 n2 c1 c2 f g _ (by omega) (by omega) (e3.ext hx0) (g3.ext hx0) e4 g4 e5 g5 ?_
  intro w1 hx1
  have b1 := (hx1.block w.heap.size (by simp; omega)).trans (blk_1_3 w _ _ _)
  have b2 := (hx1.block (w.heap.size + 1) (by simp)).trans (blk_2_3 w _ _ _)
  have b3 := (hx1.block (w.heap.size + 1 + 1) (by simp)).trans (blk_3_3 w _ _ _)
  have hx : Ext w w1 := hx0.trans' hx1
  have hz := hx1.size
  simp at hz
  clear hx0 hx1
  have q1 : w1.cell? ⟨w.heap.size, 0, none⟩ = some (.bool s1) := cell_of_blk b1 0
  have q2 : w1.cell? ⟨w.heap.size, 1, none⟩ = some (.slice A n1 c1) := cell_of_blk b1 1
  have q3 : w1.cell? ⟨w.heap.size + 1, 0, none⟩ = some (.bool s2) := cell_of_blk b2 0
  have q4 : w1.cell? ⟨w.heap.size + 1, 1, none⟩ = some (.slice B n2 c2) := cell_of_blk b2 1
  have hcmp : decide (cmpN (valB W64 f n1) (valB W64 g n2) < 0) = true := by unfold cmpN; rw [if_pos hs]; rfl
  obtain ⟨fz1, fz2, fz3, fz4⟩ := (⟨frozen_of_blk b1 0, frozen_of_blk b1 1, frozen_of_blk b2 0, frozen_of_blk b2 1⟩ : _ ∧ _ ∧ _ ∧ _)
  have swp := swap_boxes b1 b2 b3
  have hxs : Ext w ((((w1.setCell ⟨w.heap.size, 0, none⟩ (.bool s2)).setCell ⟨w.heap.size, 1, none⟩ (.slice B n2 c2)).setCell ⟨w.heap.size + 1, 0, none⟩ (.bool s1)).setCell ⟨w.heap.size + 1, 1, none⟩ (.slice A n1 c1)) :=
    (hx.stored w.heap.size (by omega) _ _).stored (w.heap.size + 1) (by omega) _ _
  have hsym : (s2 == s1) = false := by cases s1 <;> cases s2 <;> simp_all
  go_wp2_with fail
  obtain ⟨W, hW⟩ : ∃ W, W = ((((w1.setCell ⟨w.heap.size, 0, none⟩ (.bool s2)).setCell ⟨w.heap.size, 1, none⟩ (.slice B n2 c2)).setCell ⟨w.heap.size + 1, 0, none⟩ (.bool s1)).setCell ⟨w.heap.size + 1, 1, none⟩ (.slice A n1 c1)) := ⟨_, rfl⟩
  rw [← hW] at swp hxs ⊢
  clear hW b1 b2 b3 q1 q2 q3 q4 hx fz1 fz2 fz3 fz4
  obtain ⟨b1, b2, b3, hzz⟩ := swp
  have hx := hxs
  clear hxs
  have q1 : W.cell? ⟨w.heap.size, 0, none⟩ = some (.bool s2) := cell_of_blk b1 0
  have q2 : W.cell? ⟨w.heap.size, 1, none⟩ = some (.slice B n2 c2) := cell_of_blk b1 1
  have q3 : W.cell? ⟨w.heap.size + 1, 0, none⟩ = some (.bool s1) := cell_of_blk b2 0
  have q4 : W.cell? ⟨w.heap.size + 1, 1, none⟩ = some (.slice A n1 c1) := cell_of_blk b2 1
  have hbx := g3.ext hx
  have hby := e3.ext hx
  clear b1 b2
  have hbd : ∀ i, i < n2 → difDg W64 g (ext f n1) i < W64 := fun i hi => difDg_lt i (g4 i hi)
  have hval : sg s1 (valB W64 f n1) + sg s2 (valB W64 g n2) = sg s2 (valB W64 (difDg W64 g (ext f n1)) n2) := by
    rw [dif_words hl g4 e4 hle]; cases s1 <;> cases s2 <;> simp_all [sg] <;> omega
  have hS0 : w.heap.size + 1 + 1 < W.heap.size ∧ W.cell? ⟨w.heap.size, 0, none⟩ = some (.bool s2) ∧ W.cell? ⟨w.heap.size, 1, none⟩ = some (.slice B n2 c2) ∧ W.cell? ⟨w.heap.size + 1, 0, none⟩ = some (.bool s1) ∧ W.cell? ⟨w.heap.size + 1, 1, none⟩ = some (.slice A n1 c1) := ⟨by omega, q1, q2, q3, q4⟩
  go_region_held3 (fun W => w.heap.size + 1 + 1 < W.heap.size ∧ W.cell? ⟨w.heap.size, 0, none⟩ = some (.bool s2) ∧ W.cell? ⟨w.heap.size, 1, none⟩ = some (.slice B n2 c2) ∧ W.cell? ⟨w.heap.size + 1, 0, none⟩ = some (.bool s1) ∧ W.cell? ⟨w.heap.size + 1, 1, none⟩ = some (.slice A n1 c1))
    (first | exact hS0 | exact box2_mono (by assumption) (by assumption) | exact box2_set (box2_set (by assumption)) | go_keep)
    (first | (go_at_call 149; refine less_any B A n2 n1 c2 c1 g f _ (by omega) hl hbx hby g4 e4 ?_; intro b w2 hrow hx2; have hz2 : W.heap.size ≤ w2.heap.size := hx2.size)
           | (go_at_call 124; refine made_int s2 _ _ _ n2 _ _ (by omega) (Nat.le_refl _) (Nat.le_refl _) (RowAt.of_rowIs hrow (Nat.le_refl _)) hbd ?_; intro neg' A' m c' w3 hi hx3;
              have hz3 : w2.heap.size ≤ w3.heap.size := hx3.size; have hb3 : w3.heap[w.heap.size + 1 + 1]? = some (.cells #[.bool false, .slice none 0 0] 112 (0, 0)) := (hx3.block _ (by omega)).trans ((hx2.block _ (show _ < W.heap.size by omega)).trans b3);
              have q5 : w3.cell? ⟨w.heap.size + 1 + 1, 0, none⟩ = some (.bool false) := cell_of_blk hb3 0; have q6 : w3.cell? ⟨w.heap.size + 1 + 1, 1, none⟩ = some (.slice none 0 0) := cell_of_blk hb3 1; have q7 := frozen_of_blk hb3 0; have q8 := frozen_of_blk hb3 1))
  obtain ⟨hi', d0, d1⟩ := ret_int' hb3 hi
  have fin := K neg' A' m c' _ (by rw [hval]; exact hi'.le (by omega)) ((hx.trans' (hx2.undrew.trans' hx3)).stored (w.heap.size + 1 + 1) (by omega) _ _)
  clear K hi hi' hx2 hx3 hx
  go_wp2
  exact bodyPost_ret (v := intV neg' A' m c') (by simp [results, Tryz.results72, go_sem, d0, d1]) rfl fin


theorem add_any {R : Ending → World → Prop} (s1 s2 : Bool) (A B : Option Addr) (n1 c1 k1 n2 c2 k2 : Nat) (z1 z2 : Int) (w : World) (hk1 : k1 ≤ 1099511627776) (hk2 : k2 ≤ 1099511627776)
    (h1 : IsInt w s1 A n1 c1 k1 z1) (h2 : IsInt w s2 B n2 c2 k2 z2)
    (K : ∀ neg' A' m c' w', IsInt w' neg' A' m c' (max k1 k2 + 1) (z1 + z2) → Ext w w' → R (.returned (intV neg' A' m c')) w') :
    Calls Tryz.prog 72 #[intV s1 A n1 c1, intV s2 B n2 c2] w R := by
  obtain ⟨f, e1, e2, e3, e4, e5, e6, rfl⟩ := h1.ex
  obtain ⟨g, g1, g2, g3, g4, g5, g6, rfl⟩ := h2.ex
  by_cases hs : valB W64 f n1 < valB W64 g n2 <;> by_cases hss : s1 = s2
  · exact add_sw_like s1 s2 A B n1 c1 k1 n2 c2 k2 f g w hk1 hk2 e1 e2 e3 e4 e5 g1 g2 g3 g4 g5 hs hss K
  · exact add_sw_un s1 s2 A B n1 c1 k1 n2 c2 k2 f g w hk1 hk2 e1 e2 e3 e4 e5 g1 g2 g3 g4 g5 hs (by simpa using hss) K
  · exact add_st_like s1 s2 A B n1 c1 k1 n2 c2 k2 f g w hk1 hk2 e1 e2 e3 e4 e5 g1 g2 g3 g4 g5 hs hss K
  · exact add_st_un s1 s2 A B n1 c1 k1 n2 c2 k2 f g w hk1 hk2 e1 e2 e3 e4 e5 g1 g2 g3 g4 g5 hs (by simpa using hss) K
end Go.Proofs.YtjngofngjbjpbaaGreatDoor
end

section
set_option linter.unusedSimpArgs false
set_option linter.unusedVariables false
namespace Go.Proofs.YtjngofngjbjpbaaGreatDoor
open Go.RowKit

theorem shD_set0 {f : Nat → Nat} {r wd k v : Nat} (hv : v = shD f r wd (k + 1) (wd + k)) (hn : shD f r wd (k + 1) (wd + k + 1) = 0) (j : Nat) :
    (if j = wd + k then v64 v else v64 (shD f r wd k j)) = v64 (shD f r wd (k + 1) j) := by
  by_cases e : j = wd + k
  · rw [if_pos e, e, hv]
  · rw [if_neg e]
    by_cases e2 : j = wd + k + 1
    · rw [e2, hn, shD_beyond _ _ _ _ _ (by omega)]
    · rw [shD_other _ _ _ _ _ e e2]
theorem shD_set1 {f : Nat → Nat} {r wd k v : Nat} (hv : v = shD f r wd (k + 1) (wd + k)) (j : Nat) :
    (if j = wd + k + 1 then v64 (hi r (f k)) else if j = wd + k then v64 v else v64 (shD f r wd k j)) = v64 (shD f r wd (k + 1) j) := by
  by_cases e2 : j = wd + k + 1
  · rw [if_pos e2, e2, shD_step_next]
  · rw [if_neg e2]
    by_cases e : j = wd + k
    · rw [if_pos e, e, hv]
    · rw [if_neg e, shD_other _ _ _ _ _ e e2]

set_option maxHeartbeats 1000000 in
theorem lsh_any {R : Ending → World → Prop} (s1 : Bool) (A : Option Addr) (n1 c1 k1 e : Nat) (z1 : Int) (w : World) (hk1 : k1 ≤ 274877906944) (he : e ≤ 274877906944)
    (h1 : IsInt w s1 A n1 c1 k1 z1)
    (K : ∀ neg' A' m c' w', IsInt w' neg' A' m c' (k1 + e / 64 + 1) (z1 * 2 ^ e) → Ext w w' → R (.returned (intV neg' A' m c')) w') :
    Calls Tryz.prog 182 #[intV s1 A n1 c1, .int .i64 (e : Int)] w R := by
  obtain ⟨f, e1, e2, e3, e4, e5, e6, rfl⟩ := h1.ex
  by_cases h0 : n1 = 0
  · subst h0
    have hx : Ext w ((w.alloc (.cells #[.bool s1, .slice A 0 c1] 112)).alloc (.cells #[.bool s1, .slice A 0 c1] 112)) := ((Ext.rfl' w).alloc' _).alloc' _
    have fin := K s1 A 0 c1 _ (by simpa [valB, sg] using (h1.ext hx).le (k' := k1 + e / 64 + 1) (by omega)) hx
    clear K h1 e3 e4 e5
    go_enter Tryz.func182, Tryz.ntmps182
    go_wp2
    exact bodyPost_ret (v := intV s1 A 0 c1) (by simp [results, Tryz.results182, go_sem]) rfl fin
  · obtain ⟨wd, hwd⟩ : ∃ wd, wd = e / 64 := ⟨_, rfl⟩
    obtain ⟨r, hr⟩ : ∃ r, r = e % 64 := ⟨_, rfl⟩
    have hrl : r < 64 := by omega
    have hne : ((n1 : Int) == 0) = false := by simp; omega
    have hmk := fun W => run_make_row' (P := Tryz.prog) 110 29 (.int .u64 0) 8 Tryz.underlying110 Tryz.info29 rfl .i64 .i64 (wd + n1 + 1) (by omega) (by omega) W
    rw [show ((wd + n1 + 1 : Nat) : Int) = (wd : Int) + n1 + 1 from by omega] at hmk
    have hq : (e : Int) / 64 = wd := by omega
    have hq2 : (e : Int) % 64 = r := by omega
    have hwdl : wd ≤ 274877906944 := by omega
    have HWD : Hid (wd = e / 64) := hwd
    have HR : Hid (r = e % 64) := hr
    clear hwd hr
    go_enter Tryz.func182, Tryz.ntmps182
    go_wp2
    simp only [hq2]
    have b1 := blk_1_3 w (.cells #[.bool s1, .slice A n1 c1] 112) (.cells #[.bool false, .slice none 0 0] 112) (.cells (madeCells #[.int .u64 0] (wd + n1 + 1)) 29)
    have b2 := blk_2_3 w (.cells #[.bool s1, .slice A n1 c1] 112) (.cells #[.bool false, .slice none 0 0] 112) (.cells (madeCells #[.int .u64 0] (wd + n1 + 1)) 29)
    have hrow : (((w.alloc (.cells #[.bool s1, .slice A n1 c1] 112)).alloc (.cells #[.bool false, .slice none 0 0] 112)).alloc (.cells (madeCells #[.int .u64 0] (wd + n1 + 1)) 29)).rowIs (w.heap.size + 1 + 1) 29 (wd + n1 + 1) (fun _ => v64 0) := by
      have := World.rowIs_made ((w.alloc (.cells #[.bool s1, .slice A n1 c1] 112)).alloc (.cells #[.bool false, .slice none 0 0] 112)) (.int .u64 0) (wd + n1 + 1) 29
      rw [World.size_alloc, World.size_alloc] at this
      exact this
    have hx : Ext w (((w.alloc (.cells #[.bool s1, .slice A n1 c1] 112)).alloc (.cells #[.bool false, .slice none 0 0] 112)).alloc (.cells (madeCells #[.int .u64 0] (wd + n1 + 1)) 29)) := (((Ext.rfl' w).alloc' _).alloc' _).alloc' _
    generalize ((w.alloc (.cells #[.bool s1, .slice A n1 c1] 112)).alloc (.cells #[.bool false, .slice none 0 0] 112)).alloc (.cells (madeCells #[.int .u64 0] (wd + n1 + 1)) 29) = w1 at b1 b2 hrow hx ⊢
    clear hmk hq hq2
    obtain ⟨b, hb0⟩ : ∃ b, b = w.heap.size + 1 + 1 := ⟨_, rfl⟩
    rw [← hb0] at hrow ⊢
    have hbge : w.heap.size + 1 < b := by omega
    clear hb0
    go_loopw [29] (fun i wr => ∃ k, k ≤ n1 ∧ i = .int .i64 (k : Nat) ∧ wr.rowIs b 29 (wd + n1 + 1) (fun j => v64 (shD f r wd k j)) ∧ wr.heap[w.heap.size]? = some (.cells #[.bool s1, .slice A n1 c1] 112 (0, 0)) ∧ wr.heap[w.heap.size + 1]? = some (.cells #[.bool false, .slice none 0 0] 112 (0, 0)) ∧ Ext w wr) (fun i _ => n1 - (intOf i).toNat)
    case atStart => exact ⟨0, Nat.zero_le _, rfl, hrow.congr (fun j _ => by rw [shD_start]), b1, b2, hx⟩
    case round =>
      obtain ⟨k, hk, rfl, hrk, hb1, hb2, hxk⟩ := hrel
      by_cases hlt : k < n1
      · obtain ⟨ga, rfl, hga, hca⟩ := e3.cell (by omega)
        have hcak : wr.cell? ⟨ga, k, none⟩ = some (v64 (f k)) := (hxk.cell (p := ⟨ga, k, none⟩) hga).trans (hca k hlt)
        have p1 := hrk.cell (i := wd + k) (by omega)
        have p2 := hrk.frozen (wd + k)
        have p3 := hrk.cell (i := wd + k + 1) (by omega)
        have p4 := hrk.frozen (wd + k + 1)
        have HE4 : Hid (∀ i, i < n1 → f i < W64) := e4
        clear e3 hca e4 K h1
        have v1 : IntKind.u64.wrap (((f k : Nat) : Int) * 2 ^ r) = ((lo r (f k) : Nat) : Int) := wrap_lo _ _
        have v2 : bits BinOp.or IntKind.u64 ((shD f r wd k (wd + k) : Nat) : Int) ((lo r (f k) : Nat) : Int) = ((shD f r wd (k + 1) (wd + k) : Nat) : Int) := by
          rw [bits_or_u64_nat _ _ (shD_lt hrl (fun i hi => HE4.out i (by omega)) _) (lo_lt _ _), shD_step_at, or_lo hrl]
          rw [shD_at]
          split
          · exact hi_lt hrl (HE4.out _ (by omega))
          · exact Nat.two_pow_pos _
        have v3 : ((f k : Nat) : Int) / 2 ^ (64 - r) = ((hi r (f k) : Nat) : Int) := by unfold hi; rw [Int.natCast_ediv, Int.natCast_pow]; rfl
        have w3' : ((wd : Int) + k).toNat = wd + k := by omega
        have w4' : (0 : Int) ≤ (wd : Int) + k := by omega
        have w5' : (wd : Int) + k < (wd : Int) + n1 + 1 := by omega
        have w7' : ((wd : Int) + k + 1).toNat = wd + k + 1 := by omega
        by_cases hr0 : r = 0
        · have HN : Hid (shD f r wd (k + 1) (wd + k + 1) = 0) := by
            rw [shD_step_next, hr0]
            exact hi_zero (HE4.out k hlt)
          have hd : r ≤ 0 := by omega
          have HR0 : Hid (r = 0) := hr0
          clear hr0
          have w0' : wd + k ≤ 9223372036854775807 := by omega
          go_wp2
          have w1' := wrap_add2 wd k w0'
          have w2' := wrapI_add2 wd k w0'
          go_region
          clear w1' w2'
          all_goals
            go_wp2
            go_roundw
            case rel => exact ⟨k + 1, by omega, by go_num, (hrk.set (wd + k) _).congr (fun j hj => shD_set0 rfl HN.out j), (Below.heap_setCell _ _ _ _ (by simp; omega)).trans hb1, (Below.heap_setCell _ _ _ _ (by simp; omega)).trans hb2, (Below.drew hxk).setCell (p := ⟨b, wd + k, none⟩) (by simp; omega) _⟩
            case measure => simp [intOf]; omega
        · have hd : decide ((0 : Int) < (r : Int)) = true := by simp; omega
          have w0' : wd + k ≤ 9223372036854775807 := by omega
          go_wp2
          have w1' := wrap_add2 wd k w0'
          have w2' := wrapI_add2 wd k w0'
          go_region
          clear w1' w2'
          all_goals
            go_wp2
            go_roundw
            case rel => exact ⟨k + 1, by omega, by go_num, ((hrk.set (wd + k) _).set (wd + k + 1) _).congr (fun j hj => shD_set1 rfl j), (Below.heap_setCell _ _ _ _ (by simp; omega)).trans ((Below.heap_setCell _ _ _ _ (by simp; omega)).trans hb1), (Below.heap_setCell _ _ _ _ (by simp; omega)).trans ((Below.heap_setCell _ _ _ _ (by simp; omega)).trans hb2), ((Below.drew hxk).setCell (p := ⟨b, wd + k, none⟩) (by simp; omega) _).setCell (p := ⟨b, wd + k + 1, none⟩) (by simp; omega) _⟩
            case measure => simp [intOf]; omega
      · obtain rfl : k = n1 := by omega
        have q1 : wr.cell? ⟨w.heap.size, 0, none⟩ = some (.bool s1) := cell_of_blk hb1 0
        have hval : sg s1 (valB W64 (shD f r wd k) (wd + k + 1)) = sg s1 (valB W64 f k) * 2 ^ e := by
          rw [shD_val wd hrl k]
          have : e = 64 * wd + r := by have := HWD.out; have := HR.out; omega
          rw [this, W64_eq, ← Nat.pow_mul, Nat.mul_assoc, ← Nat.pow_add, Nat.add_comm r]
          cases s1 <;> simp [sg]
          rw [Int.neg_mul]
        have hbd : ∀ i, i < wd + k + 1 → shD f r wd k i < W64 := fun i _ => shD_lt hrl e4 i
        clear e3 e4 e5 e6 h1 hne
        go_wp2_with fail
        refine made_int s1 _ _ _ (wd + k + 1) _ _ (by omega) (Nat.le_refl _) (Nat.le_refl _) (RowAt.of_rowIs hrk (Nat.le_refl _)) hbd ?_
        intro neg' A' m c' w3 hi hx3
        have hb3 := (hx3.block _ (Array.getElem?_eq_some_iff.1 hb2).1).trans hb2
        obtain ⟨hi', d0, d1⟩ := ret_int' hb3 hi
        have q5 : w3.cell? ⟨w.heap.size + 1, 0, none⟩ = some (.bool false) := cell_of_blk hb3 0
        have q6 : w3.cell? ⟨w.heap.size + 1, 1, none⟩ = some (.slice none 0 0) := cell_of_blk hb3 1
        have q7 := frozen_of_blk hb3 0
        have q8 := frozen_of_blk hb3 1
        have fin := K neg' A' m c' _ (by rw [← hval]; exact hi'.le (by have := HWD.out; omega)) ((hxk.trans' hx3).stored (w.heap.size + 1) (by omega) _ _)
        clear K hi hi' hx3 hxk hval
        go_wp2
        exact bodyPost_ret (v := intV neg' A' m c') (by simp [results, Tryz.results182, go_sem, d0, d1]) rfl fin
end Go.Proofs.YtjngofngjbjpbaaGreatDoor
end

section
set_option linter.unusedSimpArgs false
set_option linter.unusedVariables false
namespace Go.Proofs.YtjngofngjbjpbaaGreatDoor
open Go.RowKit

set_option maxHeartbeats 1000000 in
theorem sub_any {R : Ending → World → Prop} (s1 s2 : Bool) (A B : Option Addr) (n1 c1 k1 n2 c2 k2 : Nat) (z1 z2 : Int) (w : World) (hk1 : k1 ≤ 1099511627776) (hk2 : k2 ≤ 1099511627776)
    (h1 : IsInt w s1 A n1 c1 k1 z1) (h2 : IsInt w s2 B n2 c2 k2 z2)
    (K : ∀ neg' A' m c' w', IsInt w' neg' A' m c' (max k1 k2 + 1) (z1 - z2) → Ext w w' → R (.returned (intV neg' A' m c')) w') :
    Calls Tryz.prog 127 #[intV s1 A n1 c1, intV s2 B n2 c2] w R := by
  go_enter Tryz.func127, Tryz.ntmps127
  go_wp2_with fail
  have hx0 : Ext w (((w.alloc (.cells #[.bool s1, .slice A n1 c1] 112)).alloc (.cells #[.bool s2, .slice B n2 c2] 112)).alloc (.cells #[.bool false, .slice none 0 0] 112)) := (((Ext.rfl' w).alloc' _).alloc' _).alloc' _
  have b1 := blk_1_3 w (.cells #[.bool s1, .slice A n1 c1] 112) (.cells #[.bool s2, .slice B n2 c2] 112) (.cells #[.bool false, .slice none 0 0] 112)
  have b2 := blk_2_3 w (.cells #[.bool s1, .slice A n1 c1] 112) (.cells #[.bool s2, .slice B n2 c2] 112) (.cells #[.bool false, .slice none 0 0] 112)
  have b3 := blk_3_3 w (.cells #[.bool s1, .slice A n1 c1] 112) (.cells #[.bool s2, .slice B n2 c2] 112) (.cells #[.bool false, .slice none 0 0] 112)
  have hsz : (((w.alloc (.cells #[.bool s1, .slice A n1 c1] 112)).alloc (.cells #[.bool s2, .slice B n2 c2] 112)).alloc (.cells #[.bool false, .slice none 0 0] 112)).heap.size = w.heap.size + 1 + 1 + 1 := by simp
  generalize (((w.alloc (.cells #[.bool s1, .slice A n1 c1] 112)).alloc (.cells #[.bool s2, .slice B n2 c2] 112)).alloc (.cells #[.bool false, .slice none 0 0] 112)) = W at hx0 b1 b2 b3 hsz ⊢
  have hz : w.heap.size + 1 + 1 < W.heap.size := by omega
  clear hsz
  have q1 : W.cell? ⟨w.heap.size, 0, none⟩ = some (.bool s1) := cell_of_blk b1 0
  have q2 : W.cell? ⟨w.heap.size, 1, none⟩ = some (.slice A n1 c1) := cell_of_blk b1 1
  have q3 : W.cell? ⟨w.heap.size + 1, 0, none⟩ = some (.bool s2) := cell_of_blk b2 0
  have q4 : W.cell? ⟨w.heap.size + 1, 1, none⟩ = some (.slice B n2 c2) := cell_of_blk b2 1
  have hS0 : w.heap.size + 1 + 1 < W.heap.size ∧ W.cell? ⟨w.heap.size, 0, none⟩ = some (.bool s1) ∧ W.cell? ⟨w.heap.size, 1, none⟩ = some (.slice A n1 c1) ∧ W.cell? ⟨w.heap.size + 1, 0, none⟩ = some (.bool s2) ∧ W.cell? ⟨w.heap.size + 1, 1, none⟩ = some (.slice B n2 c2) := ⟨hz, q1, q2, q3, q4⟩
  have h1' := h1.ext hx0
  have h2' := h2.ext hx0
  clear b1 b2
  go_region_held3 (fun W => w.heap.size + 1 + 1 < W.heap.size ∧ W.cell? ⟨w.heap.size, 0, none⟩ = some (.bool s1) ∧ W.cell? ⟨w.heap.size, 1, none⟩ = some (.slice A n1 c1) ∧ W.cell? ⟨w.heap.size + 1, 0, none⟩ = some (.bool s2) ∧ W.cell? ⟨w.heap.size + 1, 1, none⟩ = some (.slice B n2 c2))
    (first | exact hS0 | exact box2_mono (by assumption) (by assumption) | exact box2_set (box2_set (by assumption)) | go_keep)
    (first | (go_at_call 183; refine neg_any s2 B n2 c2 k2 z2 _ hk2 (h2'.ext (Below.drew (Ext.rfl' W))) ?_; intro neg' A' m c' w2 hi2 hx2; have hz2 : W.heap.size ≤ w2.heap.size := hx2.size)
           | (go_at_call 72; refine add_any s1 neg' A A' n1 c1 k1 m c' k2 z1 (-z2) _ hk1 hk2 (h1'.ext hx2.undrew) hi2 ?_; intro neg2 A2 m2 d2 w3 hi hx3;
              have hz3 : w2.heap.size ≤ w3.heap.size := hx3.size; have hb3 : w3.heap[w.heap.size + 1 + 1]? = some (.cells #[.bool false, .slice none 0 0] 112 (0, 0)) := (hx3.block _ (by omega)).trans ((hx2.block _ (show _ < W.heap.size by omega)).trans b3);
              have q5 : w3.cell? ⟨w.heap.size + 1 + 1, 0, none⟩ = some (.bool false) := cell_of_blk hb3 0; have q6 : w3.cell? ⟨w.heap.size + 1 + 1, 1, none⟩ = some (.slice none 0 0) := cell_of_blk hb3 1; have q7 := frozen_of_blk hb3 0; have q8 := frozen_of_blk hb3 1))
  obtain ⟨hi', d0, d1⟩ := ret_int' hb3 hi
  have fin := K neg2 A2 m2 d2 _ (by rw [Int.sub_eq_add_neg]; exact hi') ((hx0.trans' (hx2.undrew.trans' hx3)).stored (w.heap.size + 1 + 1) (by omega) _ _)
  clear K hi hi' hx2 hx3 hx0
  go_wp2
  exact bodyPost_ret (v := intV neg2 A2 m2 d2) (by simp [results, Tryz.results127, go_sem, d0, d1]) rfl fin
end Go.Proofs.YtjngofngjbjpbaaGreatDoor
end

section
set_option linter.unusedSimpArgs false
set_option linter.unusedVariables false
namespace Go.Proofs.YtjngofngjbjpbaaGreatDoor
open Go.RowKit

theorem IsInt.neg_false {w : World} {neg : Bool} {A : Option Addr} {n c k : Nat} {z : Nat} (h : IsInt w neg A n c k (z : Int)) : neg = false := by
  obtain ⟨f, h1, h2, h3, h4, h5, h6, h7⟩ := h.ex
  cases neg
  · rfl
  · have := (sign_of true h5 h6).2.2 rfl
    omega
theorem IsInt.valF {w : World} {A : Option Addr} {n c k : Nat} {z : Nat} (h : IsInt w false A n c k (z : Int)) :
    ∃ f, n ≤ c ∧ n ≤ k ∧ RowAt w 29 A n (fun i => v64 (f i)) ∧ (∀ i, i < n → f i < W64) ∧ (0 < n → f (n - 1) ≠ 0) ∧ z = valB W64 f n := by
  obtain ⟨f, h1, h2, h3, h4, h5, h6, h7⟩ := h.ex
  exact ⟨f, h1, h2, h3, h4, h5, by simp [sg] at h7; omega⟩
theorem quo_start {a d : Nat} (hd : 0 < d) : a < d * 2 ^ ((max 0 ((bl a : Int) - (bl d : Int))).toNat + 1) := by
  have h1 := lt_bl a
  have h2 := bl_le (x := d) (by omega)
  have h3 := bl_pos (x := d) (by omega)
  have h4 : bl a ≤ (bl d - 1) + ((max 0 ((bl a : Int) - (bl d : Int))).toNat + 1) := by omega
  calc a < 2 ^ bl a := h1
    _ ≤ 2 ^ ((bl d - 1) + ((max 0 ((bl a : Int) - (bl d : Int))).toNat + 1)) := Nat.pow_le_pow_right (by decide) h4
    _ = 2 ^ (bl d - 1) * 2 ^ ((max 0 ((bl a : Int) - (bl d : Int))).toNat + 1) := Nat.pow_add _ _ _
    _ ≤ _ := Nat.mul_le_mul_right _ h2

set_option maxHeartbeats 2000000 in
theorem quo_any {R : Ending → World → Prop} (A B : Option Addr) (n1 c1 k1 n2 c2 k2 a d : Nat) (w : World) (hk1 : k1 ≤ 4294967296) (hk2 : k2 ≤ 4294967296)
    (h1 : IsInt w false A n1 c1 k1 (a : Int)) (h2 : IsInt w false B n2 c2 k2 (d : Int)) (hd : 0 < d) (hq : a / d < 9223372036854775808)
    (K : ∀ A' m c' w', IsInt w' false A' m c' k1 ((a % d : Nat) : Int) → Ext w w' → R (.returned (.tuple #[v64 (a / d), intV false A' m c'])) w') :
    Calls Tryz.prog 213 #[intV false A n1 c1, intV false B n2 c2] w R := by
  have hst := quo_start (a := a) hd
  have hbla : bl a ≤ 64 * k1 := by
    obtain ⟨f, g1, g2, g3, g4, g5, rfl⟩ := h1.valF
    have := valB_lt n1 g4
    refine Nat.le_trans (bl_le_of_lt (k := 64 * n1) ?_) (by omega)
    rw [Nat.pow_mul, ← W64_eq]; exact this
  have hblb : bl d ≤ 64 * k2 := by
    obtain ⟨f, g1, g2, g3, g4, g5, rfl⟩ := h2.valF
    have := valB_lt n2 g4
    refine Nat.le_trans (bl_le_of_lt (k := 64 * n2) ?_) (by omega)
    rw [Nat.pow_mul, ← W64_eq]; exact this
  obtain ⟨k0, hk0⟩ : ∃ k0, k0 = (max 0 ((bl a : Int) - (bl d : Int))).toNat := ⟨_, rfl⟩
  rw [← hk0] at hst
  have hk0l : k0 ≤ 64 * k1 := by omega
  have HK0 : Hid ((max 0 (IntKind.i64.wrap ((bl a : Int) - (bl d : Int)))) = (k0 : Int)) := by show _ = _; rw [wrapI_in _ (by omega) (by omega)]; omega
  clear hk0
  go_enter Tryz.func213, Tryz.ntmps213
  go_wp2_with fail
  have hx0 : Ext w (((w.alloc (.cells #[.bool false, .slice A n1 c1] 112)).alloc (.cells #[.bool false, .slice B n2 c2] 112)).alloc (.cells #[.bool false, .slice none 0 0] 112)) := (((Ext.rfl' w).alloc' _).alloc' _).alloc' _
  have b1 := blk_1_3 w (.cells #[.bool false, .slice A n1 c1] 112) (.cells #[.bool false, .slice B n2 c2] 112) (.cells #[.bool false, .slice none 0 0] 112)
  have b2 := blk_2_3 w (.cells #[.bool false, .slice A n1 c1] 112) (.cells #[.bool false, .slice B n2 c2] 112) (.cells #[.bool false, .slice none 0 0] 112)
  have b3 := blk_3_3 w (.cells #[.bool false, .slice A n1 c1] 112) (.cells #[.bool false, .slice B n2 c2] 112) (.cells #[.bool false, .slice none 0 0] 112)
  have hsz : (((w.alloc (.cells #[.bool false, .slice A n1 c1] 112)).alloc (.cells #[.bool false, .slice B n2 c2] 112)).alloc (.cells #[.bool false, .slice none 0 0] 112)).heap.size = w.heap.size + 1 + 1 + 1 := by simp
  generalize (((w.alloc (.cells #[.bool false, .slice A n1 c1] 112)).alloc (.cells #[.bool false, .slice B n2 c2] 112)).alloc (.cells #[.bool false, .slice none 0 0] 112)) = W at hx0 b1 b2 b3 hsz ⊢
  have hz : w.heap.size + 1 + 1 < W.heap.size := by omega
  clear hsz
  have q1 : W.cell? ⟨w.heap.size, 0, none⟩ = some (.bool false) := cell_of_blk b1 0
  have q2 : W.cell? ⟨w.heap.size, 1, none⟩ = some (.slice A n1 c1) := cell_of_blk b1 1
  have q3 : W.cell? ⟨w.heap.size + 1, 0, none⟩ = some (.bool false) := cell_of_blk b2 0
  have q4 : W.cell? ⟨w.heap.size + 1, 1, none⟩ = some (.slice B n2 c2) := cell_of_blk b2 1
  have hS0 : w.heap.size + 1 + 1 < W.heap.size ∧ W.cell? ⟨w.heap.size, 0, none⟩ = some (.bool false) ∧ W.cell? ⟨w.heap.size, 1, none⟩ = some (.slice A n1 c1) ∧ W.cell? ⟨w.heap.size + 1, 0, none⟩ = some (.bool false) ∧ W.cell? ⟨w.heap.size + 1, 1, none⟩ = some (.slice B n2 c2) := ⟨hz, q1, q2, q3, q4⟩
  have h1' := h1.ext hx0
  have h2' := h2.ext hx0
  have WS : Hid (IsInt W false A n1 c1 k1 (a : Int) ∧ IsInt W false B n2 c2 k2 (d : Int)) := ⟨h1', h2'⟩
  go_region_held3 (fun W' => (w.heap.size + 1 + 1 < W'.heap.size ∧ W'.cell? ⟨w.heap.size, 0, none⟩ = some (.bool false) ∧ W'.cell? ⟨w.heap.size, 1, none⟩ = some (.slice A n1 c1) ∧ W'.cell? ⟨w.heap.size + 1, 0, none⟩ = some (.bool false) ∧ W'.cell? ⟨w.heap.size + 1, 1, none⟩ = some (.slice B n2 c2)) ∧ Ext W W')
    (first | assumption | exact ⟨hS0, Below.drew (Ext.rfl' W)⟩ | exact ⟨box2_mono (by assumption) (And.left (by assumption)), Ext.trans' (And.right (by assumption)) (by assumption)⟩)
    (first | (go_at_call_of 212 (Value.slice A n1 c1); refine len_any false A n1 c1 k1 (a : Int) _ (by omega) (h1'.ext (And.right (by assumption))) ?_; intro w2 hx2)
           | (go_at_call_of 212 (Value.slice B n2 c2); refine len_any false B n2 c2 k2 (d : Int) _ (by omega) (h2'.ext (And.right (by assumption))) ?_; intro w2 hx2))
  all_goals
    have hE : Ext W w2 := And.right (by assumption)
    clear hS0 q1 q2 q3 q4 WS
    have b1' := (hE.block _ (Array.getElem?_eq_some_iff.1 b1).1).trans b1
    have b2' := (hE.block _ (Array.getElem?_eq_some_iff.1 b2).1).trans b2
    have b3' := (hE.block _ (Array.getElem?_eq_some_iff.1 b3).1).trans b3
    have g1 := h1'.ext hE
    have g2 := h2'.ext hE
    have gx := hx0.trans' hE
    have hz' : w.heap.size + 1 + 1 < w2.heap.size := (Array.getElem?_eq_some_iff.1 b3').1
    clear hE b1 b2 b3 h1' h2' hx0 hz hx2
    rw [HK0.out]
    go_wp2_with fail
    go_loopw [6, 7] (fun qv kv wr => ∃ (j q ac : Nat) (A' : Option Addr) (m c' : Nat), j ≤ k0 + 1 ∧ qv = v64 q ∧ kv = .int .i64 ((j : Nat) - 1 : Int) ∧ ac < d * 2 ^ j ∧ a = q * (d * 2 ^ j) + ac ∧
        IsInt wr false A' m c' k1 (ac : Int) ∧ wr.heap[w.heap.size]? = some (.cells #[.bool false, .slice A' m c'] 112 (0, 0)) ∧ wr.heap[w.heap.size + 1]? = some (.cells #[.bool false, .slice B n2 c2] 112 (0, 0)) ∧
        wr.heap[w.heap.size + 1 + 1]? = some (.cells #[.bool false, .slice none 0 0] 112 (0, 0)) ∧ Ext w wr) (fun _ kv _ => (intOf kv + 1).toNat)
    case atStart => exact ⟨k0 + 1, 0, a, A, n1, c1, Nat.le_refl _, rfl, by congr 1; omega, hst, by simp, g1, b1', b2', b3', gx⟩
    case round =>
      clear g1 b1' b2' b3' gx
      obtain ⟨j, q, ac, A', m, c', hj, rfl, rfl, hac, haq, hi, b1, b2, b3, hx⟩ := hrel
      have HQ : Hid (a = q * (d * 2 ^ j) + ac) := haq
      clear haq hst
      have q1 : wr.cell? ⟨w.heap.size, 0, none⟩ = some (.bool false) := cell_of_blk b1 0
      have q2 : wr.cell? ⟨w.heap.size, 1, none⟩ = some (.slice A' m c') := cell_of_blk b1 1
      have hsz : w.heap.size + 1 + 1 < wr.heap.size := (Array.getElem?_eq_some_iff.1 b3).1
      by_cases hj0 : j = 0
      · subst hj0
        have q5 : wr.cell? ⟨w.heap.size + 1 + 1, 0, none⟩ = some (.bool false) := cell_of_blk b3 0
        have q6 : wr.cell? ⟨w.heap.size + 1 + 1, 1, none⟩ = some (.slice none 0 0) := cell_of_blk b3 1
        have q7 := frozen_of_blk b3 0
        have q8 := frozen_of_blk b3 1
        obtain ⟨hi', d0, d1⟩ := ret_int' b3 hi
        have e := HQ.out
        simp only [Nat.pow_zero, Nat.mul_one] at e hac
        have e1 : a / d = q := by rw [e, Nat.mul_comm, Nat.mul_add_div hd, Nat.div_eq_of_lt hac, Nat.add_zero]
        have e2 : a % d = ac := by rw [e, Nat.mul_comm, Nat.mul_add_mod, Nat.mod_eq_of_lt hac]
        have fin : ∀ w', Ext w w' → IsInt w' false A' m c' k1 (ac : Int) → R (.returned (.tuple #[v64 q, intV false A' m c'])) w' := fun w' h1 h2 => by
          have := K A' m c' w' (by rw [e2]; exact h2) h1
          rwa [e1] at this
        clear K HQ e1 e2 e hq hbla hblb HK0
        go_wp2
        go_region
        all_goals
          go_wp2
          refine bodyPost_ret (v := .tuple #[v64 q, intV false A' m c']) (by simp [results, Tryz.results213, go_sem, d0, d1]) rfl (fin _ ?_ ?_)
          · exact Below.drew (Ext.stored hx (w.heap.size + 1 + 1) (by omega) _ _)
          · exact hi'.ext (Below.drew (Ext.rfl' _))
      · obtain ⟨j, rfl⟩ : ∃ i, j = i + 1 := ⟨j - 1, by omega⟩
        have q3 : wr.cell? ⟨w.heap.size + 1, 0, none⟩ = some (.bool false) := cell_of_blk b2 0
        have q4 : wr.cell? ⟨w.heap.size + 1, 1, none⟩ = some (.slice B n2 c2) := cell_of_blk b2 1
        have f7 := frozen_of_blk b1 0
        have f8 := frozen_of_blk b1 1
        go_wp2_with fail
        rw [show (((j + 1 : Nat) : Int) - 1) = (j : Int) by omega]
        refine lsh_any false B n2 c2 k2 j (d : Int) _ (by omega) (by omega) (h2.ext hx) ?_
        intro sP AP nP cP w4 hiP hx4
        rw [show (d : Int) * 2 ^ j = ((d * 2 ^ j : Nat) : Int) by simp] at hiP
        obtain rfl := hiP.neg_false
        have b14 := (hx4.block _ (Array.getElem?_eq_some_iff.1 b1).1).trans b1
        have b24 := (hx4.block _ (Array.getElem?_eq_some_iff.1 b2).1).trans b2
        have b34 := (hx4.block _ (Array.getElem?_eq_some_iff.1 b3).1).trans b3
        have r1 : w4.cell? ⟨w.heap.size, 0, none⟩ = some (.bool false) := cell_of_blk b14 0
        have r2 : w4.cell? ⟨w.heap.size, 1, none⟩ = some (.slice A' m c') := cell_of_blk b14 1
        have l1 : w.heap.size < w4.heap.size := (Array.getElem?_eq_some_iff.1 b14).1
        have hx4w := hx.trans' hx4
        have hi4 := hi.ext hx4
        clear b1 b2 b3 q1 q2 q3 q4 f7 f8 hx hi hx4
        go_wp2_with fail
        obtain ⟨f, e1, e2, e3, e4, e5, e6⟩ := hi4.valF
        obtain ⟨g, g1, g2, g3, g4, g5, g6⟩ := hiP.valF
        have hxa : Ext w4 (w4.alloc (Obj.cells #[Value.bool false, Value.slice AP nP cP] 112)) := (Ext.rfl' w4).alloc' _
        refine cmp_any false false A' AP m nP c' cP f g _ (by omega) (by omega) (e3.ext hxa) (g3.ext hxa) e4 g4 e5 g5 ?_
        rw [← e6, ← g6]
        have E6 : Hid (ac = valB W64 f m) := e6
        have G6 : Hid (d * 2 ^ j = valB W64 g nP) := g6
        clear e6 g6
        intro w5 hx5
        have l2 : w.heap.size + 1 < w4.heap.size := (Array.getElem?_eq_some_iff.1 b24).1
        have l3 : w.heap.size + 1 + 1 < w4.heap.size := (Array.getElem?_eq_some_iff.1 b34).1
        have b15 := (hx5.block w.heap.size (by simp; omega)).trans ((hxa.block _ l1).trans b14)
        have b25 := (hx5.block (w.heap.size + 1) (by simp; omega)).trans ((hxa.block _ l2).trans b24)
        have b35 := (hx5.block (w.heap.size + 1 + 1) (by simp; omega)).trans ((hxa.block _ l3).trans b34)
        have bp5 := (hx5.block w4.heap.size (by simp)).trans (blk_1_1 w4 _)
        have hx5w := hx4w.trans' (hxa.trans' hx5)
        have hi5 := hi4.ext (hxa.trans' hx5)
        have g3' := g3.ext (hxa.trans' hx5)
        have e3' := e3.ext (hxa.trans' hx5)
        have hqb : q * 2 + 1 < W64 := by
          have h2 : q * (d * 2 ^ (j + 1)) ≤ a := by have := HQ.out; omega
          have h3 : q * 2 * d ≤ a := by
            refine Nat.le_trans ?_ h2
            rw [Nat.pow_succ, Nat.mul_assoc, Nat.mul_comm (2 ^ j) 2, ← Nat.mul_assoc d, Nat.mul_comm 2 d]
            have : d * 2 * 1 ≤ d * 2 * 2 ^ j := Nat.mul_le_mul_left _ (Nat.two_pow_pos _)
            exact Nat.mul_le_mul_left _ (by omega)
          have h4 : q * 2 ≤ a / d := (Nat.le_div_iff_mul_le hd).2 h3
          unfold W64; omega
        have hsh : IntKind.u64.wrap ((q : Int) * 2) = ((q * 2 : Nat) : Int) := by rw [IntKind.wrap_u64]; unfold W64 at hqb; omega
        have HQ2 : Hid (a = q * 2 * (d * 2 ^ j) + ac) := by
          have := HQ.out
          rw [Nat.pow_succ, Nat.mul_comm (2 ^ j) 2, ← Nat.mul_assoc d, Nat.mul_comm d 2, Nat.mul_assoc, ← Nat.mul_assoc q] at this
          exact this
        clear b14 b24 b34 r1 r2 hi4 hx4w e3 g3 hiP HQ hxa hx5
        simp only [hsh]
        clear hsh
        by_cases hlt : ac < d * 2 ^ j
        · have hcmp : decide (0 ≤ cmpN ac (d * 2 ^ j)) = false := by unfold cmpN; rw [if_pos hlt]; rfl
          clear e3' g3' bp5 E6 G6
          go_wp2
          go_roundw
          case rel => exact ⟨j, q * 2, ac, A', m, c', by omega, rfl, rfl, hlt, HQ2.out, hi5, b15, b25, b35, hx5w⟩
          case measure => simp [intOf]
        · have hcmp : decide (0 ≤ cmpN ac (d * 2 ^ j)) = true := by unfold cmpN; rw [if_neg hlt]; split <;> rfl
          have r1 : w5.cell? ⟨w.heap.size, 1, none⟩ = some (.slice A' m c') := cell_of_blk b15 1
          have r2 : w5.cell? ⟨w4.heap.size, 1, none⟩ = some (.slice AP nP cP) := cell_of_blk bp5 1
          have hl : nP ≤ m := by
            rcases Nat.lt_or_ge m nP with h | h
            · have := valB_lt_of_len (f := f) (g := g) (B := W64) (by decide) e4 h (g5 (by omega))
              rw [← E6.out, ← G6.out] at this
              omega
            · exact h
          have hle : valB W64 g nP ≤ valB W64 f m := by rw [← E6.out, ← G6.out]; omega
          go_wp2_with fail
          refine less_any A' AP m nP c' cP f g _ (by omega) hl e3' g3' e4 g4 ?_
          intro b w6 hrow hx6
          have b16 := (hx6.block _ (Array.getElem?_eq_some_iff.1 b15).1).trans b15
          have b26 := (hx6.block _ (Array.getElem?_eq_some_iff.1 b25).1).trans b25
          have b36 := (hx6.block _ (Array.getElem?_eq_some_iff.1 b35).1).trans b35
          have hx6w := hx5w.trans' hx6
          have hdv : ((ac - d * 2 ^ j : Nat) : Int) = sg false (valB W64 (difDg W64 f (ext g nP)) m) := by
            rw [dif_words hl e4 g4 hle, ← E6.out, ← G6.out]; simp [sg]
          have HDV : Hid (((ac - d * 2 ^ j : Nat) : Int) = sg false (valB W64 (difDg W64 f (ext g nP)) m)) := hdv
          clear b15 b25 b35 r1 r2 bp5 hx6 hx5w hcmp e3' g3' hdv
          go_wp2_with fail
          refine made_int false _ _ _ k1 _ _ (by omega) (Nat.le_refl _) e2 (RowAt.of_rowIs hrow (Nat.le_refl _)) (fun i hi => difDg_lt i (e4 i hi)) ?_
          rw [← HDV.out]
          intro sD AD nD cD w7 hiD hx7
          obtain rfl := hiD.neg_false
          have b17 := (hx7.block _ (Array.getElem?_eq_some_iff.1 b16).1).trans b16
          have b27 := (hx7.block _ (Array.getElem?_eq_some_iff.1 b26).1).trans b26
          have b37 := (hx7.block _ (Array.getElem?_eq_some_iff.1 b36).1).trans b36
          have hx7w := hx6w.trans' hx7
          have r1 : w7.cell? ⟨w.heap.size, 0, none⟩ = some (.bool false) := cell_of_blk b17 0
          have r2 : w7.cell? ⟨w.heap.size, 1, none⟩ = some (.slice A' m c') := cell_of_blk b17 1
          have f7 := frozen_of_blk b17 0
          have f8 := frozen_of_blk b17 1
          have hor : bits BinOp.or IntKind.u64 ((q : Int) * 2) 1 = ((q * 2 + 1 : Nat) : Int) := or_one_even q hqb
          obtain ⟨hiD', _, _⟩ := ret_int' b17 hiD
          have c1' := blk_setCell (blk_setCell b17 0 (.bool false)) 1 (.slice AD nD cD)
          have c2' : ((w7.setCell ⟨w.heap.size, 0, none⟩ (.bool false)).setCell ⟨w.heap.size, 1, none⟩ (.slice AD nD cD)).heap[w.heap.size + 1]? = _ := (Below.heap_setCell _ _ _ _ (by simp)).trans ((Below.heap_setCell _ _ _ _ (by simp)).trans b27)
          have c3' : ((w7.setCell ⟨w.heap.size, 0, none⟩ (.bool false)).setCell ⟨w.heap.size, 1, none⟩ (.slice AD nD cD)).heap[w.heap.size + 1 + 1]? = _ := (Below.heap_setCell _ _ _ _ (by simp; omega)).trans ((Below.heap_setCell _ _ _ _ (by simp; omega)).trans b37)
          have hxf : Ext w ((w7.setCell ⟨w.heap.size, 0, none⟩ (.bool false)).setCell ⟨w.heap.size, 1, none⟩ (.slice AD nD cD)) := Ext.stored hx7w w.heap.size (Nat.le_refl _) _ _
          clear b16 b26 b36 b17 b27 b37 hx6w hx7 hx7w hiD HDV
          go_wp2
          go_roundw
          case rel => exact ⟨j, q * 2 + 1, ac - d * 2 ^ j, AD, nD, cD, by omega, by first | rfl | (show Value.int _ _ = Value.int _ _; congr 1; omega), rfl, by rw [Nat.pow_succ, Nat.mul_comm (2 ^ j), ← Nat.mul_assoc, Nat.mul_comm d 2, Nat.mul_assoc] at hac; omega, by have := HQ2.out; rw [Nat.add_mul]; omega, hiD', c1', c2', c3', hxf⟩
          case measure => simp [intOf]
end Go.Proofs.YtjngofngjbjpbaaGreatDoor
end
