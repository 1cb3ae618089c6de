/- hexadecimal digits read into words: plain. -/
import Derived.Test.YtjngofngjbjpbaaGreatDoorJa7
import Derived.Lib.Strings
import Derived.Test.YtjngofngjbjpbaaGreatDoorJa5

section
set_option linter.unusedSimpArgs false
set_option linter.unusedVariables false
namespace Go.Proofs.YtjngofngjbjpbaaGreatDoor
open Go.RowKit

def hexB : ByteArray := ⟨#[48, 49, 50, 51, 52, 53, 54, 55, 56, 57, 97, 98, 99, 100, 101, 102]⟩
def isHex (b : UInt8) : Bool := (48 ≤ b.toNat && b.toNat ≤ 57) || (97 ≤ b.toNat && b.toNat ≤ 102)
def hexv (b : UInt8) : Nat := if b.toNat ≤ 57 then b.toNat - 48 else b.toNat - 87
theorem hexv_all : ∀ n : Fin 256, isHex (UInt8.ofNat n.val) = true → Lib.indexByte hexB.data.toList (UInt8.ofNat n.val) = ((hexv (UInt8.ofNat n.val) : Nat) : Int) ∧ hexv (UInt8.ofNat n.val) < 16 := by
  decide +kernel
theorem hexv_of {b : UInt8} (h : isHex b = true) : Lib.indexByte hexB.data.toList b = ((hexv b : Nat) : Int) ∧ hexv b < 16 := by
  have := hexv_all ⟨b.toNat, b.toNat_lt⟩
  simp only [UInt8.ofNat_toNat] at this
  exact this h
/-- digit i of a text, the last first -/
def dg (D : List UInt8) (i : Nat) : Nat := hexv (D.getD (D.length - 1 - i) 0)
/-- the words when m digits were read -/
def fw (g : Nat → Nat) (m i : Nat) : Nat := valB 16 (fun j => if 16 * i + j < m then g (16 * i + j) else 0) 16
theorem fw_below (g : Nat → Nat) (m : Nat) : fw g m (m / 16) = valB 16 (fun j => g (16 * (m / 16) + j)) (m % 16) := by
  unfold fw
  rw [valB_tail (m := m % 16) (by omega) (fun i h1 h2 => if_neg (by omega))]
  exact valB_congr 16 _ fun i hi => if_pos (by omega)
theorem fw_at (g : Nat → Nat) (m : Nat) : fw g (m + 1) (m / 16) = fw g m (m / 16) + g m * 16 ^ (m % 16) := by
  rw [fw_below]
  unfold fw
  rw [valB_tail (m := m % 16 + 1) (by omega) (fun i h1 h2 => if_neg (by omega))]
  show valB 16 _ (m % 16) + (if 16 * (m / 16) + m % 16 < m + 1 then g (16 * (m / 16) + m % 16) else 0) * 16 ^ (m % 16) = _
  rw [if_pos (by omega), show 16 * (m / 16) + m % 16 = m from by omega]
  congr 1
  exact valB_congr 16 _ fun i hi => if_pos (by omega)
theorem fw_small {g : Nat → Nat} (hg : ∀ i, g i < 16) (m : Nat) : fw g m (m / 16) < 2 ^ (4 * (m % 16)) := by
  rw [fw_below, ← pow16]
  exact valB_lt _ fun i _ => hg _
theorem fw_other (g : Nat → Nat) {m i : Nat} (h : i ≠ m / 16) : fw g (m + 1) i = fw g m i := by
  unfold fw
  refine valB_congr 16 _ fun j hj => ?_
  by_cases e : 16 * i + j < m
  · rw [if_pos e, if_pos (by omega)]
  · rw [if_neg e, if_neg (by omega)]
theorem fw_lt {g : Nat → Nat} (hg : ∀ i, g i < 16) (m i : Nat) : fw g m i < W64 := by
  unfold fw
  rw [show W64 = 16 ^ 16 from by decide]
  refine valB_lt (B := 16) 16 fun j _ => ?_
  split
  · exact hg _
  · decide
theorem fw_zero (g : Nat → Nat) (i : Nat) : fw g 0 i = 0 := by
  unfold fw
  rw [valB_tail (m := 0) (by omega) (fun j _ _ => if_neg (by omega))]; rfl
theorem valB_add (B : Nat) (f : Nat → Nat) (m n : Nat) : valB B f (m + n) = valB B f m + B ^ m * valB B (fun j => f (m + j)) n := by
  induction n with
  | zero => simp [valB]
  | succ n ih =>
    show valB B f (m + n) + f (m + n) * B ^ (m + n) = valB B f m + B ^ m * (valB B (fun j => f (m + j)) n + f (m + n) * B ^ n)
    rw [ih, Nat.mul_add, Nat.pow_add, Nat.add_assoc]
    congr 2
    rw [Nat.mul_left_comm]
theorem valB_zero (B : Nat) (f : Nat → Nat) : valB B f 0 = 0 := rfl
theorem valB_succ (B : Nat) (f : Nat → Nat) (n : Nat) : valB B f (n + 1) = valB B f n + f n * B ^ n := rfl
theorem W64_pow (n : Nat) : W64 ^ n = 16 ^ (16 * n) := by rw [Nat.pow_mul, show W64 = 16 ^ 16 from by decide]
theorem fw_words (g : Nat → Nat) (m n : Nat) : valB W64 (fw g m) n = valB 16 (fun j => if j < m then g j else 0) (16 * n) := by
  induction n with
  | zero => rw [Nat.mul_zero, valB_zero, valB_zero]
  | succ n ih =>
    have e1 := valB_succ W64 (fw g m) n
    have e2 := valB_add 16 (fun j => if j < m then g j else 0) (16 * n) 16
    have e3 : fw g m n = valB 16 (fun j => if 16 * n + j < m then g (16 * n + j) else 0) 16 := by unfold fw; rfl
    have e4 := W64_pow n
    generalize W64 ^ n = X at e1 e4
    subst e4
    rw [e1, ih, e3, Nat.mul_add 16 n 1, Nat.mul_one, e2, Nat.mul_comm _ (16 ^ (16 * n))]
theorem fw_val (g : Nat → Nat) {m n : Nat} (h : m ≤ 16 * n) : valB W64 (fw g m) n = valB 16 g m := by
  rw [fw_words, valB_tail (m := m) h (fun i h1 h2 => if_neg (by omega))]
  exact valB_congr 16 _ fun i hi => if_pos hi
theorem dg_lt {D : List UInt8} (h : ∀ b, b ∈ D → isHex b = true) {i : Nat} (hi : i < D.length) : dg D i < 16 := by
  unfold dg
  refine (hexv_of (h _ ?_)).2
  rw [List.getD_eq_getElem?_getD, List.getElem?_eq_getElem (by omega)]
  exact List.getElem_mem _
end Go.Proofs.YtjngofngjbjpbaaGreatDoor
end
