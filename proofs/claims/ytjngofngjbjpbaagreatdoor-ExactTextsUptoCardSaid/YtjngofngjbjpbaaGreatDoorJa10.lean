/- whole.Parse: the walk. -/
import Derived.Test.YtjngofngjbjpbaaGreatDoorJa8
import Derived.Test.YtjngofngjbjpbaaGreatDoorJa9
import Derived.StillTailTactics

section
set_option linter.unusedSimpArgs false
set_option linter.unusedVariables false
namespace Go.Proofs.YtjngofngjbjpbaaGreatDoor
open Go.RowKit

theorem index_hex (b : UInt8) (h : isHex b = true) (w : World) : Calls Tryz.prog 123 #[.string ⟨#[48, 49, 50, 51, 52, 53, 54, 55, 56, 57, 97, 98, 99, 100, 101, 102]⟩, .int .u8 (b.toNat : Int)] w fun e w' => e = .returned (.int .i64 ((hexv b : Nat) : Int)) ∧ w' = w := by
  refine (Tryz.strings_IndexByte hexB (b.toNat : Int) w).mono ?_
  rintro e w' ⟨rfl, rfl⟩
  refine ⟨?_, rfl⟩
  rw [Int.toNat_natCast, show b.toNat.toUInt8 = b from UInt8.ofNat_toNat, (hexv_of h).1]

def dg' (D : List UInt8) (i : Nat) : Nat := if i < D.length then dg D i else 0
theorem dg'_lt {D : List UInt8} (h : ∀ b, b ∈ D → isHex b = true) (i : Nat) : dg' D i < 16 := by
  unfold dg'
  split
  · exact dg_lt h (by assumption)
  · decide
theorem fw_set {g : Nat → Nat} {m v : Nat} (hv : v = fw g (m + 1) (m / 16)) (j : Nat) : (if j = m / 16 then v64 v else v64 (fw g m j)) = v64 (fw g (m + 1) j) := by
  by_cases e : j = m / 16
  · rw [if_pos e, e, hv]
  · rw [if_neg e, fw_other _ e]

set_option maxHeartbeats 1000000 in
set_option maxRecDepth 100000 in
theorem parseW_any {R : Ending → World → Prop} (s : ByteArray) (neg : Bool) (D : List UInt8) (w : World) (hD : Lib.trimPrefix s.data.toList [45] = D) (hb : Lib.hasPrefix s.data.toList [45] = neg)
    (hL : D.length ≤ 1099511627776) (hh : ∀ b, b ∈ D → isHex b = true)
    (K : ∀ neg' A m c' w', IsInt w' neg' A m c' (D.length / 16 + 1) (sg neg (valB 16 (dg D) D.length)) → Ext w w' → R (.returned (intV neg' A m c')) w') :
    Calls Tryz.prog 53 #[.string s] w R := by
  have hcut : ∀ W, Calls Tryz.prog 122 #[.string s, .string ⟨#[45]⟩] W fun e w' => e = .returned (.tuple #[.string ⟨D.toArray⟩, .bool neg]) ∧ w' = W := fun W => by
    refine (Tryz.strings_CutPrefix s ⟨#[45]⟩ W).mono ?_
    rintro e w' ⟨rfl, rfl⟩
    exact ⟨by rw [show (⟨#[45]⟩ : ByteArray).data.toList = [45] from rfl, hD, hb], rfl⟩
  have hmk := fun W => run_make_row' (P := Tryz.prog) 110 29 (.int .u64 0) 8 Tryz.underlying110 Tryz.info29 rfl .i64 .i64 (D.length / 16 + 1) (by omega) (by omega) W
  rw [show ((D.length / 16 + 1 : Nat) : Int) = (D.length : Int) / 16 + 1 from by omega] at hmk
  have hq : 0 ≤ (D.length : Int) / 16 := by omega
  have hq2 : (D.length : Int) / 16 ≤ 1099511627776 := by omega
  clear hD hb
  go_enter Tryz.func53, Tryz.ntmps53
  go_wp2_with (go_at_call 122; refine (hcut _).mono ?_; rintro e w2 ⟨rfl, rfl⟩)
  have b1 := blk_1_2 w (.cells #[.bool false, .slice none 0 0] 112) (.cells (madeCells #[.int .u64 0] (D.length / 16 + 1)) 29)
  have hrow : ((w.alloc (.cells #[.bool false, .slice none 0 0] 112)).alloc (.cells (madeCells #[.int .u64 0] (D.length / 16 + 1)) 29)).rowIs (w.heap.size + 1) 29 (D.length / 16 + 1) (fun _ => v64 0) := by
    have := World.rowIs_made (w.alloc (.cells #[.bool false, .slice none 0 0] 112)) (.int .u64 0) (D.length / 16 + 1) 29
    rw [World.size_alloc] at this
    exact this
  have hx : Ext w ((w.alloc (.cells #[.bool false, .slice none 0 0] 112)).alloc (.cells (madeCells #[.int .u64 0] (D.length / 16 + 1)) 29)) := ((Ext.rfl' w).alloc' _).alloc' _
  generalize (w.alloc (.cells #[.bool false, .slice none 0 0] 112)).alloc (.cells (madeCells #[.int .u64 0] (D.length / 16 + 1)) 29) = w1 at b1 hrow hx ⊢
  clear hmk hcut
  obtain ⟨b, hb0⟩ : ∃ b, b = w.heap.size + 1 := ⟨_, rfl⟩
  rw [← hb0] at hrow ⊢
  have hbge : w.heap.size < b := by omega
  clear hb0
  go_loopw [20] (fun i wr => ∃ k, k ≤ D.length ∧ i = .int .i64 (k : Nat) ∧ wr.rowIs b 29 (D.length / 16 + 1) (fun j => v64 (fw (dg' D) k j)) ∧ wr.heap[w.heap.size]? = some (.cells #[.bool false, .slice none 0 0] 112 (0, 0)) ∧ Ext w wr) (fun i _ => D.length - (intOf i).toNat)
  case atStart => exact ⟨0, Nat.zero_le _, rfl, hrow.congr (fun j _ => by rw [fw_zero]), b1, hx⟩
  case round =>
    obtain ⟨k, hk, rfl, hrk, hb1, hxk⟩ := hrel
    by_cases hlt : k < D.length
    · obtain ⟨q, hqe⟩ : ∃ q, q = k / 16 := ⟨_, rfl⟩
      obtain ⟨r, hre⟩ : ∃ r, r = k % 16 := ⟨_, rfl⟩
      obtain ⟨c, hce⟩ : ∃ c, c = 4 * r := ⟨_, rfl⟩
      obtain ⟨x, hxe⟩ : ∃ x, x = D.getD (D.length - 1 - k) 0 := ⟨_, rfl⟩
      have hxm : x ∈ D := by
        rw [hxe, List.getD_eq_getElem?_getD, List.getElem?_eq_getElem (by omega)]
        exact List.getElem_mem _
      have hxh := hh x hxm
      have hd16 := (hexv_of hxh).2
      obtain ⟨d, hde⟩ : ∃ d, d = hexv x := ⟨_, rfl⟩
      have hidx : ∀ W, Calls Tryz.prog 123 #[.string ⟨#[48, 49, 50, 51, 52, 53, 54, 55, 56, 57, 97, 98, 99, 100, 101, 102]⟩, .int .u8 (x.toNat : Int)] W fun e w' => e = .returned (.int .i64 (d : Int)) ∧ w' = W := fun W => by rw [hde]; exact index_hex x hxh W
      have hat : ∀ h, (((⟨D.toArray⟩ : ByteArray)[D.length - 1 - k]'h).toNat : Int) = (x.toNat : Int) := fun h => by
        have : (⟨D.toArray⟩ : ByteArray)[D.length - 1 - k]'h = x := by
          rw [hxe, List.getD_eq_getElem?_getD, List.getElem?_eq_getElem (by omega)]; rfl
        rw [this]
      have p1 := hrk.cell (i := q) (by omega)
      have p2 := hrk.frozen q
      have hdg : dg' D k = d := by rw [hde, hxe]; exact if_pos hlt
      have hd16' : d < 16 := by rw [hde]; exact hd16
      have v1 : IntKind.u64.wrap (((d : Nat) : Int) * 2 ^ c) = ((lo c d : Nat) : Int) := wrap_lo _ _
      have v2 : bits BinOp.or IntKind.u64 ((fw (dg' D) k q : Nat) : Int) ((lo c d : Nat) : Int) = ((fw (dg' D) (k + 1) q : Nat) : Int) := by
        have f1 : fw (dg' D) k q < 2 ^ c := by rw [hqe, hce, hre]; exact fw_small (dg'_lt hh) k
        rw [bits_or_u64_nat _ _ (fw_lt (dg'_lt hh) _ _) (lo_lt _ _), or_lo (by omega) f1, hqe, fw_at, hdg, Nat.add_comm]
        congr 2
        unfold lo
        have hbig : d * 16 ^ (k % 16) < W64 := by
          refine Nat.lt_of_lt_of_le (Nat.mul_lt_mul_of_pos_right hd16' (Nat.pow_pos (by decide))) ?_
          rw [← Nat.pow_succ', show W64 = 16 ^ 16 from by decide]
          exact Nat.pow_le_pow_right (by decide) (by omega)
        rw [hce, hre, ← pow16, Nat.mod_eq_of_lt hbig]
      have i1 : ((D.length : Int) - 1 - k).toNat = D.length - 1 - k := by omega
      have i2 : (0 : Int) ≤ (D.length : Int) - 1 - k := by omega
      have i3 : (D.length : Int) - 1 - k < D.length := by omega
      have i7 : (k : Int) ≤ (D.length : Int) - 1 := by omega
      have i4 : (k : Int) / 16 = q := by omega
      have i5 : (k : Int) % 16 = r := by omega
      have i8 : (k : Int).tmod 16 = r := by rw [Int.tmod_eq_emod_of_nonneg (by omega)]; omega
      have i6 : (r : Int) * 4 = c := by omega
      have hc60 : c ≤ 60 := by omega
      have hql : q < D.length / 16 + 1 := by omega
      have hql' : (q : Int) < (D.length : Int) / 16 + 1 := by omega
      have hrl : r < 16 := by omega
      have hdl : d < 16 := by omega
      have HQ : Hid (q = k / 16) := hqe
      clear hqe hre hce hxe hde hdg hxm hxh hd16 hh K hrow hx b1
      go_wp2_with fail
      go_still_tail 16, (by kernel_rfl)
      have wq : IntKind.i64.wrap (q : Int) = (q : Int) := wrapI_in _ (by omega) (by omega)
      have wr' : IntKind.i64.wrap (r : Int) = (r : Int) := wrapI_in _ (by omega) (by omega)
      have wc : IntKind.i64.wrap (c : Int) = (c : Int) := wrapI_in _ (by omega) (by omega)
      have wd : IntKind.u64.wrap (d : Int) = (d : Int) := by rw [IntKind.wrap_u64]; omega
      repeat still_step
      still_call (hidx _)
      repeat still_step
      refine wpStill_nil ?_
      clear wq wr' wc wd
      change wpList _ _ _ _ _ wr.drew
      go_wp2
      go_roundw
      case rel => exact ⟨k + 1, by omega, by go_num, (hrk.set q _).congr (fun j hj => by rw [show q = k / 16 from HQ]; exact fw_set (by rw [← show q = k / 16 from HQ]) j), (Below.heap_setCell _ _ _ _ (by simp; omega)).trans hb1, (Below.drew hxk).setCell (p := ⟨b, q, none⟩) (by simp; omega) _⟩
      case measure => simp [intOf]; omega
    · obtain rfl : k = D.length := by omega
      have q1 := cell_of_blk hb1 0
      have hval : valB W64 (fw (dg' D) D.length) (D.length / 16 + 1) = valB 16 (dg D) D.length := by
        rw [fw_val _ (by omega)]
        exact valB_congr 16 _ fun i hi => if_pos hi
      have hbd : ∀ i, i < D.length / 16 + 1 → fw (dg' D) D.length i < W64 := fun i _ => fw_lt (dg'_lt hh) _ _
      clear hrow hx b1
      go_wp2_with fail
      refine made_int neg _ _ _ (D.length / 16 + 1) _ _ (by omega) (Nat.le_refl _) (Nat.le_refl _) (RowAt.of_rowIs hrk (Nat.le_refl _)) hbd ?_
      intro neg' A' m c' w3 hi hx3
      have hb3 := (hx3.block _ (Array.getElem?_eq_some_iff.1 hb1).1).trans hb1
      obtain ⟨hi', d0, d1⟩ := ret_int' hb3 hi
      have q5 : w3.cell? ⟨w.heap.size, 0, none⟩ = some (.bool false) := cell_of_blk hb3 0
      have q6 : w3.cell? ⟨w.heap.size, 1, none⟩ = some (.slice none 0 0) := cell_of_blk hb3 1
      have q7 := frozen_of_blk hb3 0
      have q8 := frozen_of_blk hb3 1
      have fin := K neg' A' m c' _ (by rw [← hval]; exact hi') ((hxk.trans' hx3).stored w.heap.size (by omega) _ _)
      clear K hi hi' hx3 hxk hval
      go_wp2
      exact bodyPost_ret (v := intV neg' A' m c') (by simp [results, Tryz.results53, go_sem, d0, d1]) rfl fin
end Go.Proofs.YtjngofngjbjpbaaGreatDoor
end
