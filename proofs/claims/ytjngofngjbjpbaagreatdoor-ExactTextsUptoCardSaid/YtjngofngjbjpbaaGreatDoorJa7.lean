/- hexadecimal texts of numbers: plain. -/
import Derived.Test.YtjngofngjbjpbaaGreatDoorJa3
import Derived.Test.YtjngofngjbjpbaaGreatDoorJa2
import Derived.Lib.TrimByte

section
set_option linter.unusedSimpArgs false
set_option linter.unusedVariables false
namespace Go.Proofs.YtjngofngjbjpbaaGreatDoor
open Go.RowKit

def hexc (d : Nat) : Nat := if d < 10 then 48 + d else 87 + d
/-- the hexadecimal digits of a number, the lowest first, as characters -/
def nib (V s : Nat) : Nat := hexc (V / 16 ^ s % 16)
theorem hexc_lt (d : Nat) (h : d < 16) : hexc d < 128 := by unfold hexc; split <;> omega
theorem hexc_48 {d : Nat} : hexc d = 48 ↔ d = 0 := by unfold hexc; split <;> omega
theorem nib_lt (V s : Nat) : nib V s < 128 := hexc_lt _ (Nat.mod_lt _ (by decide))
/-- the lowest m digits, the highest first -/
def hexD (V m : Nat) : List UInt8 := (List.range m).map fun i => (nib V (m - 1 - i)).toUInt8
def hexL (V : Nat) : List UInt8 := if V = 0 then [48] else hexD V ((bl V + 3) / 4)
def hexS (neg : Bool) (V : Nat) : ByteArray := ⟨((if neg then [45] else []) ++ hexL V).toArray⟩
theorem hexD_len (V m : Nat) : (hexD V m).length = m := by simp [hexD]
theorem hexD_at (V m i : Nat) (h : i < m) : (hexD V m)[i]? = some (nib V (m - 1 - i)).toUInt8 := by
  simp [hexD, h]
theorem hexD_succ (V m : Nat) : hexD V (m + 1) = (nib V m).toUInt8 :: hexD V m := by
  refine List.ext_getElem? fun i => ?_
  cases i with
  | zero => rw [hexD_at _ _ _ (by omega)]; simp
  | succ i =>
    by_cases h : i < m
    · rw [hexD_at _ _ _ (by omega), List.getElem?_cons_succ, hexD_at _ _ _ h]
      congr 3
      omega
    · rw [List.getElem?_eq_none (by rw [hexD_len]; omega), List.getElem?_eq_none (by simp [hexD_len]; omega)]
theorem hexD_drop (V m k : Nat) (h : k ≤ m) : (hexD V m).drop (m - k) = hexD V k := by
  induction m with
  | zero => have : k = 0 := by omega
            subst this; rfl
  | succ m ih =>
    by_cases e : k = m + 1
    · subst e; simp
    · rw [hexD_succ, show m + 1 - k = (m - k) + 1 from by omega, List.drop_succ_cons, ih (by omega)]
theorem nib_high {V s : Nat} (h : V < 16 ^ s) : nib V s = 48 := by
  unfold nib; rw [Nat.div_eq_of_lt h]; rfl
theorem pow16 (s : Nat) : 16 ^ s = 2 ^ (4 * s) := by rw [Nat.pow_mul]
theorem hex_len_lt (V : Nat) : V < 16 ^ ((bl V + 3) / 4) := by
  refine Nat.lt_of_lt_of_le (lt_bl V) ?_
  rw [pow16]
  exact Nat.pow_le_pow_right (by decide) (by omega)
theorem nib_first {V : Nat} (h : V ≠ 0) : nib V ((bl V + 3) / 4 - 1) ≠ 48 := by
  have h1 := bl_pos h
  have h2 := bl_le h
  have h3 := hex_len_lt V
  obtain ⟨k, hk⟩ : ∃ k, (bl V + 3) / 4 = k + 1 := ⟨(bl V + 3) / 4 - 1, by omega⟩
  rw [hk] at h3 ⊢
  have h4 : 16 ^ k ≤ V := by
    refine Nat.le_trans ?_ h2
    rw [pow16]
    exact Nat.pow_le_pow_right (by decide) (by omega)
  unfold nib
  rw [show k + 1 - 1 = k from rfl, Ne, hexc_48]
  have h5 : V / 16 ^ k < 16 := by rw [Nat.div_lt_iff_lt_mul (Nat.pow_pos (by decide))]; rw [Nat.pow_succ] at h3; omega
  have h6 : 0 < V / 16 ^ k := Nat.div_pos h4 (Nat.pow_pos (by decide))
  omega
theorem toUInt8_inj {a b : Nat} (ha : a < 256) (hb : b < 256) (h : a.toUInt8 = b.toUInt8) : a = b := by
  have : a.toUInt8.toNat = b.toUInt8.toNat := by rw [h]
  rw [show a.toUInt8.toNat = a % 256 from rfl, show b.toUInt8.toNat = b % 256 from rfl] at this
  omega
theorem hex_trim {V m : Nat} (h : V ≠ 0) (hm : V < 16 ^ m) : Lib.trimLeftB (hexD V m) 48 = hexL V := by
  have h1 := bl_pos h
  have h2 := bl_le h
  have hk : (bl V + 3) / 4 ≤ m := by
    have : 2 ^ (bl V - 1) < 2 ^ (4 * m) := by rw [← pow16]; omega
    have := (Nat.pow_lt_pow_iff_right (by decide : 1 < 2)).1 this
    omega
  unfold hexL
  rw [if_neg h, ← hexD_drop V m _ hk]
  refine Lib.trimLeftB_drop _ _ _ (by rw [hexD_len]; omega) (fun j b hj hb => ?_) (fun b hb => ?_)
  · rw [hexD_at _ _ _ (by omega)] at hb
    rw [← Option.some.inj hb, nib_high (Nat.lt_of_lt_of_le (hex_len_lt V) (Nat.pow_le_pow_right (by decide) (by omega)))]
    rfl
  · rw [hexD_at _ _ _ (by omega)] at hb
    rw [← Option.some.inj hb]
    intro e
    have := toUInt8_inj (Nat.lt_of_lt_of_le (nib_lt _ _) (by decide)) (by decide) (e : _ = (48 : Nat).toUInt8)
    rw [show m - 1 - (m - (bl V + 3) / 4) = (bl V + 3) / 4 - 1 from by omega] at this
    exact nib_first h this
/-- a word's nibble -/
theorem nib_word {f : Nat → Nat} {n i j : Nat} (hf : ∀ i, i < n → f i < W64) (hi : i < n) (hj : j < 16) : nib (valB W64 f n) (16 * i + j) = hexc (f i / 16 ^ j % 16) := by
  unfold nib
  congr 1
  have e1 : (16 : Nat) ^ (16 * i + j) = W64 ^ i * 16 ^ j := by
    rw [Nat.pow_add, Nat.pow_mul]; congr 1
  rw [e1, ← Nat.div_div_eq_div_mul]
  have e2 : ∃ q, valB W64 f n / W64 ^ i = f i + W64 * q := by
    clear e1 hj
    induction n with
    | zero => omega
    | succ n ih =>
      have hp : 0 < W64 ^ i := Nat.pow_pos (by decide)
      by_cases e : i = n
      · subst e
        refine ⟨0, ?_⟩
        show (valB W64 f i + f i * W64 ^ i) / W64 ^ i = _
        rw [Nat.add_mul_div_right _ _ hp, Nat.div_eq_of_lt (valB_lt i fun k hk => hf k (by omega))]
        simp
      · obtain ⟨q, hq⟩ := ih (fun k hk => hf k (by omega)) (by omega)
        refine ⟨q + f n * W64 ^ (n - i - 1), ?_⟩
        show (valB W64 f n + f n * W64 ^ n) / W64 ^ i = _
        have : f n * W64 ^ n = f n * W64 ^ (n - i - 1) * W64 * W64 ^ i := by
          rw [Nat.mul_assoc, Nat.mul_assoc, ← Nat.pow_succ', ← Nat.pow_add]
          congr 2; omega
        rw [this, Nat.add_mul_div_right _ _ hp, hq, Nat.mul_add]
        rw [Nat.mul_comm W64 (f n * _)]
        omega
  obtain ⟨q, hq⟩ := e2
  rw [hq]
  have e3 : W64 * q = (16 * (16 ^ (15 - j) * q)) * 16 ^ j := by
    have : W64 = 16 ^ (15 - j) * 16 * 16 ^ j := by
      rw [← Nat.pow_succ, ← Nat.pow_add, show 15 - j + 1 + j = 16 from by omega]; decide
    rw [this]
    simp only [Nat.mul_assoc, Nat.mul_comm, Nat.mul_left_comm]
  rw [e3, Nat.add_mul_div_right _ _ (Nat.pow_pos (by decide)), Nat.add_mul_mod_self_left]
end Go.Proofs.YtjngofngjbjpbaaGreatDoor
end
