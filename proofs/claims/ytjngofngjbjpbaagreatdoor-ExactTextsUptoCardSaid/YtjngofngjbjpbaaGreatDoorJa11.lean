/- floats: plain laws on their words. -/
import Ieee.Arith

section
set_option linter.unusedSimpArgs false
set_option linter.unusedVariables false
namespace Go.Proofs.YtjngofngjbjpbaaGreatDoor
open Ieee

theorem dbl_binade : double.binade = 4503599627370496 := by decide
theorem dbl_inf : double.infRung = 9218868437227405312 := by decide
theorem dbl_sign : double.signWeight = 9223372036854775808 := by decide
theorem dbl_least : double.leastPlace = -1074 := by decide
theorem dbl_frac : double.fractionBits = 52 := rfl

def isNaNb (b : Nat) : Bool := decide (9218868437227405312 < b % 9223372036854775808)
/-- the finite ones -/
def isFin (b : Nat) : Bool := decide (b % 9223372036854775808 < 9218868437227405312)

/-- how a word is read -/
theorem read_fin {b : Nat} (h : b % 9223372036854775808 < 9218868437227405312) :
    ∃ s mag place, double.read b = .number s mag place ∧ mag < 9007199254740992 ∧ -1074 ≤ place ∧ place ≤ 971 ∧
      s = (b / 9223372036854775808 % 2 == 1) ∧
      ((b % 9223372036854775808 < 4503599627370496 ∧ mag = b % 9223372036854775808 ∧ place = -1074) ∨
       (4503599627370496 ≤ b % 9223372036854775808 ∧ 4503599627370496 ≤ mag ∧ mag = 4503599627370496 + b % 9223372036854775808 % 4503599627370496 ∧ place = -1074 + ((b % 9223372036854775808 / 4503599627370496 - 1 : Nat) : Int))) := by
  unfold Format.read
  simp only [dbl_sign, dbl_binade, dbl_inf, dbl_least]
  by_cases h1 : b % 9223372036854775808 < 4503599627370496
  · rw [if_pos h1]
    exact ⟨_, _, _, rfl, by omega, by omega, by omega, rfl, Or.inl ⟨h1, rfl, rfl⟩⟩
  · rw [if_neg h1, if_pos h]
    exact ⟨_, _, _, rfl, by omega, by omega, by omega, rfl, Or.inr ⟨by omega, by omega, rfl, rfl⟩⟩
theorem read_inf {b : Nat} (h : b % 9223372036854775808 = 9218868437227405312) : double.read b = .infinity (b / 9223372036854775808 % 2 == 1) := by
  unfold Format.read
  simp only [dbl_sign, dbl_binade, dbl_inf, dbl_least]
  rw [if_neg (by omega), if_neg (by omega), if_pos h]
theorem read_nan {b : Nat} (h : 9218868437227405312 < b % 9223372036854775808) : ∃ s t, double.read b = .nan s t := by
  unfold Format.read
  simp only [dbl_sign, dbl_binade, dbl_inf, dbl_least]
  rw [if_neg (by omega), if_neg (by omega), if_neg (by omega)]
  exact ⟨_, _, rfl⟩

theorem order_self (b : Nat) : (double.order b b == some .eq) = !isNaNb b := by
  unfold isNaNb Format.order
  by_cases h1 : 9218868437227405312 < b % 9223372036854775808
  · obtain ⟨s, t, e⟩ := read_nan h1
    rw [e]; simp [Datum.order, h1]
  · by_cases h2 : b % 9223372036854775808 = 9218868437227405312
    · rw [read_inf h2]
      simp [Datum.order, h1]
    · obtain ⟨s, m, p, e, _⟩ := read_fin (b := b) (by omega)
      rw [e]
      simp [Datum.order, h1]
theorem order_nan_self (b : Nat) : (double.order b b != some .eq) = isNaNb b := by
  rw [bne, order_self]; simp

theorem signed_le (s : Bool) (m : Nat) : signed s m 0 ≤ (m : Int) := by
  unfold signed
  cases s <;> simp <;> omega
theorem order_max (b : Nat) (hb : b < 18446744073709551616) : (double.order b 9218868437227405311 == some .gt) = decide (b = 9218868437227405312) := by
  have hM : double.read 9218868437227405311 = .number false 9007199254740991 971 := by decide
  unfold Format.order
  rw [hM]
  by_cases h1 : 9218868437227405312 < b % 9223372036854775808
  · obtain ⟨s, t, e⟩ := read_nan h1
    rw [e]
    have : b ≠ 9218868437227405312 := by omega
    simp [Datum.order, this]
  · by_cases h2 : b % 9223372036854775808 = 9218868437227405312
    · rw [read_inf h2]
      by_cases h3 : b = 9218868437227405312
      · subst h3; decide
      · have : b / 9223372036854775808 % 2 = 1 := by omega
        simp [Datum.order, this, h3]
    · obtain ⟨s, m, p, e, h3, h4, h5, _⟩ := read_fin (b := b) (by omega)
      rw [e]
      have hne : b ≠ 9218868437227405312 := by omega
      simp only [Datum.order, hne, decide_false]
      have hmin : min p 971 = p := by omega
      rw [hmin]
      have hz : (p - p).toNat = 0 := by omega
      rw [hz]
      have hs := signed_le s m
      have ht : (9007199254740991 : Int) ≤ signed false 9007199254740991 (971 - p).toNat := by
        unfold signed
        simp only [Bool.false_eq_true, if_false, Nat.shiftLeft_eq]
        have : 0 < 2 ^ (971 - p).toNat := Nat.two_pow_pos _
        have : 9007199254740991 * 1 ≤ 9007199254740991 * 2 ^ (971 - p).toNat := Nat.mul_le_mul_left _ this
        omega
      have hle : signed s m 0 ≤ signed false 9007199254740991 (971 - p).toNat := by omega
      have : compare (signed s m 0) (signed false 9007199254740991 (971 - p).toNat) ≠ .gt := by
        show compareOfLessAndEq _ _ ≠ _
        unfold compareOfLessAndEq
        split
        · exact fun h => by cases h
        · rw [if_pos (by omega)]; exact fun h => by cases h
      simpa using this

theorem log2_mul_pow (m j : Nat) (h : m ≠ 0) : (m * 2 ^ j).log2 = m.log2 + j := by
  have hM : m * 2 ^ j ≠ 0 := Nat.mul_ne_zero h (Nat.ne_of_gt (Nat.two_pow_pos _))
  have h1 : (m * 2 ^ j).log2 < m.log2 + 1 + j := (Nat.log2_lt hM).2 (by
    rw [Nat.pow_add]
    exact Nat.mul_lt_mul_of_pos_right ((Nat.log2_lt h).1 (by omega)) (Nat.two_pow_pos _))
  have h2 : m.log2 + j ≤ (m * 2 ^ j).log2 := (Nat.le_log2 hM).2 (by
    rw [Nat.pow_add]
    exact Nat.mul_le_mul_right _ ((Nat.le_log2 h).1 (Nat.le_refl _)))
  omega
theorem cut_exact (neg : Bool) (m j d : Nat) (h : m ≠ 0) (hd : d = j) : Toward.even.cut neg (m * 2 ^ j) d = m := by
  have hp : 0 < 2 ^ j := Nat.two_pow_pos _
  unfold Toward.cut
  rw [log2_mul_pow m j h, show min d (m.log2 + j + 2) = j from by omega, Nat.shiftLeft_eq, Nat.one_mul]
  simp only [Nat.mul_div_cancel _ hp, Nat.mul_mod_left, Nat.mul_zero]
  have e1 : ¬ (2 ^ j < 0) := by omega
  have e2 : (2 ^ j == 0) = false := by simp
  simp
/-- a number of the format is its own nearest, however it is written -/
theorem nearest_exact (neg : Bool) (mag j rung : Nat) (place p : Int) (h0 : mag ≠ 0) (hp : p = place - j)
    (h : (mag < 4503599627370496 ∧ place = -1074 ∧ rung = mag) ∨ (4503599627370496 ≤ mag ∧ mag < 9007199254740992 ∧ -1074 ≤ place ∧ place ≤ 971 ∧ (rung : Int) = (place + 1074) * 4503599627370496 + mag)) :
    double.nearest neg (mag * 2 ^ j) p = double.word neg rung := by
  unfold Format.nearest
  have hM : mag * 2 ^ j ≠ 0 := Nat.mul_ne_zero h0 (Nat.ne_of_gt (Nat.two_pow_pos _))
  rw [if_neg hM]
  have e1 : max (p + ((mag * 2 ^ j).log2 : Nat) - (double.fractionBits : Nat)) double.leastPlace = place := by
    rw [log2_mul_pow mag j h0, dbl_frac, dbl_least]
    rcases h with ⟨h1, h2, _⟩ | ⟨h1, h2, h3, _⟩
    · have := (Nat.log2_lt h0 (k := 52)).2 (by omega)
      omega
    · have := (Nat.log2_lt h0 (k := 53)).2 (by omega)
      have := (Nat.le_log2 h0 (k := 52)).2 (by omega)
      omega
  rw [e1, dbl_least, dbl_inf, dbl_binade]
  have e2 : (p - place).toNat = 0 := by omega
  have e3 : (place - p).toNat = j := by omega
  simp only [e2, e3, Nat.shiftLeft_zero]
  rw [cut_exact neg mag j j h0 rfl]
  congr 1
  omega

theorem word_false (r : Nat) : double.word false r = r := rfl
theorem word_true (r : Nat) : double.word true r = 9223372036854775808 + r := by unfold Format.word; rw [dbl_sign]; rfl
/-- a positive finite word, read -/
theorem read_pos {y : Nat} (h : y < 9218868437227405312) : ∃ mag place, double.read y = .number false mag place ∧ (y ≠ 0 → mag ≠ 0) ∧ (y = 0 → mag = 0) ∧ -1074 ≤ place ∧
    ((mag < 4503599627370496 ∧ place = -1074 ∧ y = mag) ∨ (4503599627370496 ≤ mag ∧ mag < 9007199254740992 ∧ -1074 ≤ place ∧ place ≤ 971 ∧ (y : Int) = (place + 1074) * 4503599627370496 + mag)) := by
  obtain ⟨s, mag, place, e, h1, h2, h3, h4, h5⟩ := read_fin (b := y) (by omega)
  have hm : y % 9223372036854775808 = y := by omega
  rw [hm] at h5
  have hs : s = false := by rw [h4]; simp; omega
  subst hs
  refine ⟨mag, place, e, ?_, ?_, h2, ?_⟩
  · rcases h5 with ⟨a, b, c⟩ | ⟨a, b, c, d⟩ <;> omega
  · rcases h5 with ⟨a, b, c⟩ | ⟨a, b, c, d⟩ <;> omega
  · rcases h5 with ⟨a, b, c⟩ | ⟨a, b, c, d⟩
    · exact Or.inl ⟨by omega, c, b.symm⟩
    · exact Or.inr ⟨b, h1, h2, h3, by omega⟩
theorem read_one : double.read 4607182418800017408 = .number false 4503599627370496 (-52) := by decide
theorem read_small : double.read 4368491638549381120 = .number false 4503599627370496 (-105) := by decide
theorem read_zero : double.read 0 = .number false 0 (-1074) := by decide
theorem read_minf : double.read 9218868437227405312 = .infinity false := by decide
/-- 1 times it -/
theorem mul_one_word {y : Nat} (h : y < 9218868437227405312) (h0 : y ≠ 0) : double.mul 4607182418800017408 y = some y := by
  obtain ⟨mag, place, e, h1, _, h2, h3⟩ := read_pos h
  unfold Format.mul
  rw [read_one, e]
  show some (double.nearest (false ^^ false) (4503599627370496 * mag) (-52 + place)) = some y
  rw [Nat.mul_comm]
  have := nearest_exact (false ^^ false) mag 52 y place (-52 + place) (h1 h0) (by omega) h3
  rw [show (2 : Nat) ^ 52 = 4503599627370496 from by decide] at this
  rw [this]; rfl
/-- 0 less it -/
theorem sub_zero_word {x : Nat} (h : x < 9218868437227405312) (h0 : x ≠ 0) : double.sub 0 x = some (9223372036854775808 + x) := by
  obtain ⟨mag, place, e, h1, _, h2, h3⟩ := read_pos h
  have hm := h1 h0
  unfold Format.sub
  rw [read_zero, e]
  simp only [Datum.opposite, Datum.sum]
  rw [show min (-1074) place = -1074 from by omega]
  have hs : signed false 0 (-1074 - -1074 : Int).toNat + signed (!false) mag (place - -1074).toNat = -((mag * 2 ^ (place + 1074).toNat : Nat) : Int) := by
    unfold signed
    simp only [Nat.shiftLeft_eq, Nat.zero_mul, Bool.not_false, if_true, Bool.false_eq_true, if_false]
    rw [show (place - -1074) = place + 1074 from by omega]
    simp
  rw [hs]
  have hp : 0 < mag * 2 ^ (place + 1074).toNat := Nat.mul_pos (by omega) (Nat.two_pow_pos _)
  have hne := nearest_exact true mag (place + 1074).toNat x place (-1074) hm (by omega) h3
  generalize mag * 2 ^ (place + 1074).toNat = M at hp hne
  rw [if_neg (by omega), show decide (-(M : Int) < 0) = true from by simp; omega]
  rw [show (-(M : Int)).natAbs = M from by omega]
  show some (double.nearest true M (-1074)) = _
  rw [hne, word_true]
theorem sub_zero_zero : double.sub 0 0 = some 0 := by decide
theorem sub_zero_inf : double.sub 0 9218868437227405312 = some 18442240474082181120 := by decide
theorem sub_zero_pos {x : Nat} (h : x ≤ 9218868437227405312) (h0 : x ≠ 0) : double.sub 0 x = some (9223372036854775808 + x) := by
  by_cases e : x = 9218868437227405312
  · subst e; exact sub_zero_inf
  · exact sub_zero_word (by omega) h0
/-- a whole number as a float -/
theorem nearest_int (m : Nat) (h0 : m ≠ 0) (hm : m < 18446744073709551616) : 4607182418800017408 ≤ double.nearest false m 0 ∧ double.nearest false m 0 ≤ 4899916394579099648 := by
  unfold Format.nearest
  rw [if_neg h0, dbl_frac, dbl_least, dbl_inf, dbl_binade]
  have hl := (Nat.log2_lt h0 (k := 64)).2 (by omega)
  have hlo : 2 ^ m.log2 ≤ m := (Nat.le_log2 h0).1 (Nat.le_refl _)
  have hhi : m < 2 ^ (m.log2 + 1) := (Nat.log2_lt h0).1 (by omega)
  generalize m.log2 = L at hl hlo hhi
  rw [show max ((0 : Int) + (L : Nat) - (52 : Nat)) (-1074) = (L : Int) - 52 from by omega]
  simp only
  generalize hk : Toward.even.cut false (m <<< ((0 : Int) - ((L : Int) - 52)).toNat) ((L : Int) - 52 - 0).toNat = kept
  have hkept : 4503599627370496 ≤ kept ∧ kept ≤ 9007199254740992 := by
    by_cases hL : L ≤ 52
    · have e1 : ((0 : Int) - ((L : Int) - 52)).toNat = 52 - L := by omega
      have e2 : ((L : Int) - 52 - 0).toNat = 0 := by omega
      rw [e1, e2, Nat.shiftLeft_eq] at hk
      have := cut_exact false (m * 2 ^ (52 - L)) 0 0 (Nat.mul_ne_zero h0 (Nat.ne_of_gt (Nat.two_pow_pos _))) rfl
      rw [Nat.pow_zero, Nat.mul_one, hk] at this
      rw [this]
      have p1 : 2 ^ L * 2 ^ (52 - L) ≤ m * 2 ^ (52 - L) := Nat.mul_le_mul_right _ hlo
      have p2 : m * 2 ^ (52 - L) < 2 ^ (L + 1) * 2 ^ (52 - L) := Nat.mul_lt_mul_of_pos_right hhi (Nat.two_pow_pos _)
      rw [← Nat.pow_add, show L + (52 - L) = 52 from by omega] at p1
      rw [← Nat.pow_add, show L + 1 + (52 - L) = 53 from by omega] at p2
      omega
    · have e1 : ((0 : Int) - ((L : Int) - 52)).toNat = 0 := by omega
      have e2 : ((L : Int) - 52 - 0).toNat = L - 52 := by omega
      rw [e1, e2, Nat.shiftLeft_zero] at hk
      unfold Toward.cut at hk
      simp only at hk
      have hmin : min (L - 52) (m.log2 + 2) = L - 52 := by
        have : L ≤ m.log2 := (Nat.le_log2 h0).2 hlo
        omega
      rw [hmin, Nat.shiftLeft_eq, Nat.one_mul] at hk
      have p1 : 2 ^ 52 ≤ m / 2 ^ (L - 52) := by
        rw [Nat.le_div_iff_mul_le (Nat.two_pow_pos _), ← Nat.pow_add, show 52 + (L - 52) = L from by omega]; exact hlo
      have p2 : m / 2 ^ (L - 52) < 2 ^ 53 := by
        rw [Nat.div_lt_iff_lt_mul (Nat.two_pow_pos _), ← Nat.pow_add, show 53 + (L - 52) = L + 1 from by omega]; exact hhi
      have p3 := Bool.toNat_le (decide (2 ^ (L - 52) < 2 * (m % 2 ^ (L - 52))) || 2 ^ (L - 52) == 2 * (m % 2 ^ (L - 52)) && m / 2 ^ (L - 52) % 2 == 1)
      omega
  rw [word_false]
  have e3 : (((L : Int) - 52 - -1074).toNat : Int) = (L : Int) + 1022 := by omega
  generalize ((L : Int) - 52 - -1074).toNat = q at e3
  have : q = L + 1022 := by omega
  subst this
  omega

/-- a 2 to the -53rd of a float near the least -/
theorem mul_small {y : Nat} (h1 : 9007199254740992 ≤ y) (h2 : y < 243194379878006784) : ∃ r, double.mul 4368491638549381120 y = some r ∧ r ≠ 0 ∧ r ≤ 9218868437227405312 := by
  obtain ⟨mag, place, e, hm, _, h3, h4⟩ := read_pos (y := y) (by omega)
  have h5 : 4503599627370496 ≤ mag ∧ mag < 9007199254740992 ∧ -1073 ≤ place ∧ place ≤ -1021 := by
    rcases h4 with ⟨a, b, c⟩ | ⟨a, b, c, d, f⟩
    · omega
    · omega
  obtain ⟨g1, g2, g3, g4⟩ := h5
  refine ⟨double.nearest (false ^^ false) (4503599627370496 * mag) (-105 + place), ?_, ?_⟩
  · unfold Format.mul
    rw [read_small, e]
    rfl
  have hM : mag * 2 ^ 52 ≠ 0 := Nat.mul_ne_zero (by omega) (by decide)
  have hl : (mag * 2 ^ 52).log2 = 104 := by
    rw [log2_mul_pow mag 52 (by omega)]
    have := (Nat.log2_lt (n := mag) (by omega) (k := 53)).2 (by omega)
    have := (Nat.le_log2 (n := mag) (by omega) (k := 52)).2 (by omega)
    omega
  rw [Nat.mul_comm, show 4503599627370496 = 2 ^ 52 from by decide]
  unfold Format.nearest
  rw [if_neg hM, hl, dbl_frac, dbl_least, dbl_inf, dbl_binade]
  rw [show max (-105 + place + (104 : Nat) - (52 : Nat)) (-1074) = -1074 from by omega]
  simp only
  rw [show (-1074 - -1074 : Int).toNat = 0 from by decide, show (-105 + place - -1074).toNat = 0 from by omega, Nat.shiftLeft_zero]
  obtain ⟨d, hd⟩ : ∃ d, d = (-1074 - (-105 + place)).toNat := ⟨_, rfl⟩
  have hd1 : d ≤ 104 := by omega
  rw [← hd]
  have hcut : 1 ≤ Toward.even.cut (false ^^ false) (mag * 2 ^ 52) d := by
    unfold Toward.cut
    rw [hl, show min d (104 + 2) = d from by omega, Nat.shiftLeft_eq, Nat.one_mul]
    have : 1 ≤ mag * 2 ^ 52 / 2 ^ d := by
      rw [Nat.le_div_iff_mul_le (Nat.two_pow_pos _), Nat.one_mul]
      refine Nat.le_trans (Nat.pow_le_pow_right (by decide) hd1) ?_
      omega
    exact Nat.le_trans this (Nat.le_add_right _ _)
  rw [show (false ^^ false) = false from rfl] at *
  rw [word_false]
  omega

/-- math.Ldexp of a whole number -/
def ldx (m : Nat) (e : Int) : Nat :=
  let fb := double.nearest false m 0
  let E := e + ((fb / 4503599627370496 : Nat) : Int) - 1023
  if 1023 < E then 9218868437227405312
  else if E < -1022 then (double.mul 4368491638549381120 (fb % 4503599627370496 + (E + 1076).toNat * 4503599627370496)).getD 0
  else fb % 4503599627370496 + (E + 1023).toNat * 4503599627370496
theorem ldx_pos {m : Nat} {e : Int} (h0 : m ≠ 0) (hm : m < 18446744073709551616) (he : -1074 ≤ e) : ldx m e ≠ 0 ∧ ldx m e ≤ 9218868437227405312 := by
  obtain ⟨h1, h2⟩ := nearest_int m h0 hm
  unfold ldx
  simp only
  generalize double.nearest false m 0 = fb at *
  by_cases c1 : 1023 < e + ((fb / 4503599627370496 : Nat) : Int) - 1023
  · rw [if_pos c1]; decide
  · rw [if_neg c1]
    by_cases c2 : e + ((fb / 4503599627370496 : Nat) : Int) - 1023 < -1022
    · rw [if_pos c2]
      obtain ⟨r, hr, h3, h4⟩ := mul_small (y := fb % 4503599627370496 + (e + ((fb / 4503599627370496 : Nat) : Int) - 1023 + 1076).toNat * 4503599627370496) (by omega) (by omega)
      rw [hr]
      exact ⟨h3, h4⟩
    · rw [if_neg c2]
      omega
end Go.Proofs.YtjngofngjbjpbaaGreatDoor
end
