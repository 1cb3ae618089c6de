/- abacusref09: Total. abacusref09: Merge. -/
import Derived.Test.YtjngofngjbjpbaaGreatDoorJa23
import Derived.Test.YtjngofngjbjpbaaGreatDoorJa15

section
set_option linter.unusedSimpArgs false
set_option linter.unusedVariables false
namespace Go.Proofs.YtjngofngjbjpbaaGreatDoor
open Go.RowKit

theorem foldS_count (f : Nat → Nat) (n : Nat) : (foldS f n).count < 18446744073709551616 := by
  cases n with
  | zero => show (0 : Nat) < _; decide
  | succ n => show ((foldS f n).count + 1) % 18446744073709551616 < _; exact Nat.mod_lt _ (by decide)
theorem bitsZ_small {w : World} {A : Option Addr} {n c : Nat} {z : Int} (h : BitsZ w A n c z) {k : Nat} (hz : z.natAbs < 2 ^ k) : n ≤ k := by
  rw [h.len]
  exact bl_le_iff.2 hz
theorem foldS_bits {w : World} {A : Option Addr} {f : Nat → Nat} {i n c : Nat} (h : BitsZ w A n c (foldS f i).z) (hi : i ≤ 1099511627776) : n ≤ 2560 := by
  have : n ≤ 64 * 40 := bitsZ_small (k := 64 * 40) h (small_z (foldS_z f i) (by omega))
  omega

set_option maxHeartbeats 4000000 in
set_option maxRecDepth 100000 in
theorem total_any {R : Ending → World → Prop} (A : Option Addr) (n c : Nat) (f : Nat → Nat) (w : World) (hn : n ≤ 1099511627776) (hf : ∀ i, i < n → f i < 18446744073709551616) (hr : RowG w A n (fun i => .float .f64 (f i)))
    (K : ∀ A' n' c' w', BitsZ w' A' n' c' (foldS f n).z → n' ≤ 2560 → Ext w w' → R (.returned (refV A' n' c' (foldS f n))) w') :
    Calls Tryz.prog 19 #[.slice A n c] w R := by
  go_enter Tryz.func19, Tryz.ntmps19
  go_wp2
  have b0 := blk_1_2 w (.cells zero7 31) (.cells zero7 31)
  have b1 := blk_2_2 w (.cells zero7 31) (.cells zero7 31)
  have hx : Ext w ((w.alloc (.cells zero7 31)).alloc (.cells zero7 31)) := ((Ext.rfl' w).alloc' _).alloc' _
  obtain ⟨q, hq⟩ : ∃ q, q = w.heap.size := ⟨_, rfl⟩
  rw [← hq] at b0 b1 ⊢
  have hwq : w.heap.size ≤ q := by omega
  clear hq
  generalize hW : (w.alloc (.cells zero7 31)).alloc (.cells zero7 31) = W at b0 b1 hx ⊢
  clear hW
  go_loopw [9] (fun iv wr => ∃ (i : Nat) (A' : Option Addr) (n' c' : Nat), i ≤ n ∧ iv = .int .i64 (i : Int) ∧ wr.heap[q + 1]? = some (.cells (refCells A' n' c' (foldS f i)) 31 (0, 0)) ∧ BitsZ wr A' n' c' (foldS f i).z ∧ wr.heap[q]? = some (.cells zero7 31 (0, 0)) ∧ Ext w wr) (fun iv _ => n - (intOf iv).toNat)
  case atStart => exact ⟨0, none, 0, 0, Nat.zero_le _, rfl, b1, IsBits.zero _, b0, hx⟩
  case round =>
    obtain ⟨i, A', n', c', hi, rfl, p1, hs, p0, hxr⟩ := hrel
    have hn' : n' ≤ 2560 := foldS_bits hs (by omega)
    have hcnt := foldS_count f i
    obtain ⟨S, hS⟩ : ∃ S, S = foldS f i := ⟨_, rfl⟩
    rw [← hS] at p1 hs hcnt
    have u0 : wr.cell? ⟨q + 1, 0, none⟩ = some (.bool (decide (S.z < 0))) := cell_of_blk p1 0
    have u1 : wr.cell? ⟨q + 1, 1, none⟩ = some (.slice A' n' c') := cell_of_blk p1 1
    have u2 : wr.cell? ⟨q + 1, 2, none⟩ = some (.bool S.plus) := cell_of_blk p1 2
    have u3 : wr.cell? ⟨q + 1, 3, none⟩ = some (.bool S.minus) := cell_of_blk p1 3
    have u4 : wr.cell? ⟨q + 1, 4, none⟩ = some (.bool S.nan) := cell_of_blk p1 4
    have u5 : wr.cell? ⟨q + 1, 5, none⟩ = some (.bool S.other) := cell_of_blk p1 5
    have u6 : wr.cell? ⟨q + 1, 6, none⟩ = some (v64 S.count) := cell_of_blk p1 6
    have lq : q + 1 < wr.heap.size := (Array.getElem?_eq_some_iff.1 p1).1
    by_cases hlt : i < n
    · obtain ⟨a, o, rfl, ha, hcell⟩ := hr (by omega)
      have hci : wr.cell? ⟨a, o + i, none⟩ = some (.float .f64 (f i)) := (hxr.cell (p := ⟨a, o + i, none⟩) ha).trans (hcell i hlt)
      have hfi := hf i hlt
      have HS : Hid (S = foldS f i) := hS
      clear hcell hS hx b0 b1
      go_wp2_with fail
      refine addR_any A' n' c' S (f i) wr hfi (by omega) hs hcnt ?_
      intro A2 n2 c2 w2 h2 hx2
      have p1' := (hx2.block _ lq).trans p1
      have p0' := (hx2.block _ (by omega)).trans p0
      obtain ⟨k0, k1, k2, k3, _⟩ := ret7 p1' (.bool (decide ((addS S (f i)).z < 0))) (.slice A2 n2 c2) (.bool (addS S (f i)).plus) (.bool (addS S (f i)).minus) (.bool (addS S (f i)).nan) (.bool (addS S (f i)).other) (v64 (addS S (f i)).count)
      have h3 := k1 _ _ _ _ h2
      have x3 := k2 w (hxr.trans' hx2) (by omega)
      have p3 := (k3 q (by omega)).trans p0'
      have y1 := fun i => frozen_of_blk p1' i
      have t0 : w2.cell? ⟨q + 1, 0, none⟩ = some (.bool (decide (S.z < 0))) := cell_of_blk p1' 0
      have t1 : w2.cell? ⟨q + 1, 1, none⟩ = some (.slice A' n' c') := cell_of_blk p1' 1
      have t2 : w2.cell? ⟨q + 1, 2, none⟩ = some (.bool S.plus) := cell_of_blk p1' 2
      have t3 : w2.cell? ⟨q + 1, 3, none⟩ = some (.bool S.minus) := cell_of_blk p1' 3
      have t4 : w2.cell? ⟨q + 1, 4, none⟩ = some (.bool S.nan) := cell_of_blk p1' 4
      have t5 : w2.cell? ⟨q + 1, 5, none⟩ = some (.bool S.other) := cell_of_blk p1' 5
      have t6 : w2.cell? ⟨q + 1, 6, none⟩ = some (v64 S.count) := cell_of_blk p1' 6
      have e : addS S (f i) = foldS f (i + 1) := by rw [HS.out]; rfl
      have HE : Hid (addS S (f i) = foldS f (i + 1)) := e
      clear e k1 k2 k3 p1' p0' p1 p0 h2 hx2 K hs
      generalize addS S (f i) = T at HE k0 h3 x3 p3 ⊢
      unfold set7 at k0 h3 x3 p3
      go_wp2_with fail
      go_roundw
      case rel => exact ⟨i + 1, A2, n2, c2, by omega, by go_num, by rw [← HE.out]; exact k0, by rw [← HE.out]; exact h3, p3, x3⟩
      case measure => simp [intOf]; omega
    · obtain rfl : i = n := by omega
      obtain ⟨k0, k1, k2, _, _⟩ := ret7 p0 (.bool (decide (S.z < 0))) (.slice A' n' c') (.bool S.plus) (.bool S.minus) (.bool S.nan) (.bool S.other) (v64 S.count)
      have fin := K A' n' c' _ (by rw [← hS]; exact k1 _ _ _ _ hs) hn' (k2 w hxr hwq)
      rw [← hS] at fin
      have y1 := fun i => frozen_of_blk p0 i
      have t0 : wr.cell? ⟨q, 0, none⟩ = some (.bool false) := cell_of_blk p0 0
      have t1 : wr.cell? ⟨q, 1, none⟩ = some (.slice none 0 0) := cell_of_blk p0 1
      have t2 : wr.cell? ⟨q, 2, none⟩ = some (.bool false) := cell_of_blk p0 2
      have t3 : wr.cell? ⟨q, 3, none⟩ = some (.bool false) := cell_of_blk p0 3
      have t4 : wr.cell? ⟨q, 4, none⟩ = some (.bool false) := cell_of_blk p0 4
      have t5 : wr.cell? ⟨q, 5, none⟩ = some (.bool false) := cell_of_blk p0 5
      have t6 : wr.cell? ⟨q, 6, none⟩ = some (.int .u64 0) := cell_of_blk p0 6
      unfold set7 at k0 fin
      have d0 := cell_of_blk k0 0
      have d1 := cell_of_blk k0 1
      have d2 := cell_of_blk k0 2
      have d3 := cell_of_blk k0 3
      have d4 := cell_of_blk k0 4
      have d5 := cell_of_blk k0 5
      have d6 := cell_of_blk k0 6
      clear K k0 k1 k2 hS hs p0 p1 hxr b0 b1 hx hcnt
      go_wp2_with fail
      exact bodyPost_ret (v := .agg _) (by simp [results, Tryz.results19, go_sem, d0, d1, d2, d3, d4, d5, d6]) rfl fin
end Go.Proofs.YtjngofngjbjpbaaGreatDoor
end

section
set_option linter.unusedSimpArgs false
set_option linter.unusedVariables false
namespace Go.Proofs.YtjngofngjbjpbaaGreatDoor
open Go.RowKit

set_option maxHeartbeats 8000000 in
set_option maxRecDepth 100000 in
theorem mergeR_any {R : Ending → World → Prop} (A B : Option Addr) (n c nb cb : Nat) (s o : SumS) (w : World) (hn : n ≤ 1099511627776) (hnb : nb ≤ 1099511627776) (h : BitsZ w A n c s.z) (h' : BitsZ w B nb cb o.z)
    (K : ∀ A' n' c' w', BitsZ w' A' n' c' (mergeS s o).z → Ext w w' → R (.returned (refV A' n' c' (mergeS s o))) w') :
    Calls Tryz.prog 21 #[refV A n c s, refV B nb cb o] w R := by
  obtain ⟨z, pl, mi, na, ot, cnt⟩ := s
  obtain ⟨z2, pl2, mi2, na2, ot2, cnt2⟩ := o
  simp only at h h'
  simp only [mergeS] at K
  obtain ⟨C, hC⟩ : ∃ C, C = (cnt + cnt2) % 18446744073709551616 := ⟨_, rfl⟩
  have hC2 : IntKind.u64.wrap ((cnt : Int) + cnt2) = (C : Int) := by rw [IntKind.wrap_u64]; omega
  rw [← hC] at K
  clear hC
  simp only [refV, refCells] at K ⊢
  go_enter Tryz.func21, Tryz.ntmps21
  go_wp2_with fail
  refine signed_any A B n nb c cb z z2 _ hn hnb (h.ext ((((Ext.rfl' w).alloc' _).alloc' _).alloc' _)) (h'.ext ((((Ext.rfl' w).alloc' _).alloc' _).alloc' _)) ?_
  intro A2 n2 c2 w2 h2 hx2
  have hsz : w.heap.size + 3 ≤ w2.heap.size := by have := hx2.size; simp at this; omega
  have g0 := (hx2.block w.heap.size (by first | (simp; done) | (simp; omega))).trans (blk_1_3 w _ _ _)
  have g1 := (hx2.block (w.heap.size + 1) (by first | (simp; done) | (simp; omega))).trans (blk_2_3 w _ _ _)
  have g2 := (hx2.block (w.heap.size + 1 + 1) (by simp)).trans (blk_3_3 w _ _ _)
  have hxw : Ext w w2 := ((((Ext.rfl' w).alloc' _).alloc' _).alloc' _).trans' hx2
  have q0 : w2.cell? ⟨w.heap.size, 0, none⟩ = some (.bool (decide (z < 0))) := cell_of_blk g0 0
  have q1 : w2.cell? ⟨w.heap.size, 1, none⟩ = some (.slice A n c) := cell_of_blk g0 1
  have q2 : w2.cell? ⟨w.heap.size, 2, none⟩ = some (.bool pl) := cell_of_blk g0 2
  have q3 : w2.cell? ⟨w.heap.size, 3, none⟩ = some (.bool mi) := cell_of_blk g0 3
  have q4 : w2.cell? ⟨w.heap.size, 4, none⟩ = some (.bool na) := cell_of_blk g0 4
  have q5 : w2.cell? ⟨w.heap.size, 5, none⟩ = some (.bool ot) := cell_of_blk g0 5
  have q6 : w2.cell? ⟨w.heap.size, 6, none⟩ = some (v64 cnt) := cell_of_blk g0 6
  have r2 : w2.cell? ⟨w.heap.size + 1, 2, none⟩ = some (.bool pl2) := cell_of_blk g1 2
  have r3 : w2.cell? ⟨w.heap.size + 1, 3, none⟩ = some (.bool mi2) := cell_of_blk g1 3
  have r4 : w2.cell? ⟨w.heap.size + 1, 4, none⟩ = some (.bool na2) := cell_of_blk g1 4
  have r5 : w2.cell? ⟨w.heap.size + 1, 5, none⟩ = some (.bool ot2) := cell_of_blk g1 5
  have r6 : w2.cell? ⟨w.heap.size + 1, 6, none⟩ = some (v64 cnt2) := cell_of_blk g1 6
  have y0 := fun i => frozen_of_blk g0 i
  have y2 := fun i => frozen_of_blk g2 i
  have t0 : w2.cell? ⟨w.heap.size + 1 + 1, 0, none⟩ = some (.bool false) := cell_of_blk g2 0
  have t1 : w2.cell? ⟨w.heap.size + 1 + 1, 1, none⟩ = some (.slice none 0 0) := cell_of_blk g2 1
  have t2 : w2.cell? ⟨w.heap.size + 1 + 1, 2, none⟩ = some (.bool false) := cell_of_blk g2 2
  have t3 : w2.cell? ⟨w.heap.size + 1 + 1, 3, none⟩ = some (.bool false) := cell_of_blk g2 3
  have t4 : w2.cell? ⟨w.heap.size + 1 + 1, 4, none⟩ = some (.bool false) := cell_of_blk g2 4
  have t5 : w2.cell? ⟨w.heap.size + 1 + 1, 5, none⟩ = some (.bool false) := cell_of_blk g2 5
  have t6 : w2.cell? ⟨w.heap.size + 1 + 1, 6, none⟩ = some (.int .u64 0) := cell_of_blk g2 6
  have fin : ∀ p m nn oo, (pl || pl2) = p → (mi || mi2) = m → (na || na2) = nn → (ot || ot2) = oo →
      (R (.returned (.agg #[.bool (decide (z + z2 < 0)), .slice A2 n2 c2, .bool p, .bool m, .bool nn, .bool oo, v64 C])) (set7 (set7 w2 w.heap.size (.bool (decide (z + z2 < 0))) (.slice A2 n2 c2) (.bool p) (.bool m) (.bool nn) (.bool oo) (v64 C)) (w.heap.size + 1 + 1) (.bool (decide (z + z2 < 0))) (.slice A2 n2 c2) (.bool p) (.bool m) (.bool nn) (.bool oo) (v64 C)) ∧
       (set7 (set7 w2 w.heap.size (.bool (decide (z + z2 < 0))) (.slice A2 n2 c2) (.bool p) (.bool m) (.bool nn) (.bool oo) (v64 C)) (w.heap.size + 1 + 1) (.bool (decide (z + z2 < 0))) (.slice A2 n2 c2) (.bool p) (.bool m) (.bool nn) (.bool oo) (v64 C)).heap[w.heap.size + 1 + 1]? = some (.cells #[.bool (decide (z + z2 < 0)), .slice A2 n2 c2, .bool p, .bool m, .bool nn, .bool oo, v64 C] 31 (0, 0))) := by
    rintro p m nn oo rfl rfl rfl rfl
    obtain ⟨k0, k1, k2, k3, k4⟩ := ret7 g0 (.bool (decide (z + z2 < 0))) (.slice A2 n2 c2) (.bool (pl || pl2)) (.bool (mi || mi2)) (.bool (na || na2)) (.bool (ot || ot2)) (v64 C)
    obtain ⟨l0, l1, l2, l3, l4⟩ := ret7 ((k3 (w.heap.size + 1 + 1) (by omega)).trans g2) (.bool (decide (z + z2 < 0))) (.slice A2 n2 c2) (.bool (pl || pl2)) (.bool (mi || mi2)) (.bool (na || na2)) (.bool (ot || ot2)) (v64 C)
    exact ⟨K A2 n2 c2 _ (l1 _ _ _ _ (k1 _ _ _ _ h2)) (l2 w (k2 w hxw (Nat.le_refl _)) (by omega)), l0⟩
  unfold set7 at fin
  clear K h h' h2 hx2 hxw g0 g1 g2
  have key : ∀ p m nn oo, (pl || pl2) = p → (mi || mi2) = m → (na || na2) = nn → (ot || ot2) = oo → True := fun _ _ _ _ _ _ _ _ => trivial
  cases pl <;> cases mi <;> cases na <;> cases ot
  all_goals
    obtain ⟨fin, k0⟩ := fin _ _ _ _ rfl rfl rfl rfl
    simp only [Bool.false_or, Bool.true_or] at fin k0
    have d0 := cell_of_blk k0 0
    have d1 := cell_of_blk k0 1
    have d2 := cell_of_blk k0 2
    have d3 := cell_of_blk k0 3
    have d4 := cell_of_blk k0 4
    have d5 := cell_of_blk k0 5
    have d6 := cell_of_blk k0 6
    clear k0 key
    go_wp2
    exact bodyPost_ret (v := .agg _) (by simp [results, Tryz.results21, go_sem, d0, d1, d2, d3, d4, d5, d6]) rfl fin
end Go.Proofs.YtjngofngjbjpbaaGreatDoor
end
