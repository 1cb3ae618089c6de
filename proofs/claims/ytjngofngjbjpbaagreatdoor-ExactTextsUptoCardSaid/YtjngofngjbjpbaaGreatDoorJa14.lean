/- the float nearest to a quotient: plain. whole numbers in bits: plain. -/
import Derived.Test.YtjngofngjbjpbaaGreatDoorJa11
import Derived.Test.YtjngofngjbjpbaaGreatDoorJa2

section
set_option linter.unusedSimpArgs false
set_option linter.unusedVariables false
namespace Go.Proofs.YtjngofngjbjpbaaGreatDoor

/-- the mantissa, rounded -/
def rnd (a D : Nat) : Nat := if D < 2 * (a % D) ∨ (2 * (a % D) = D ∧ a / D % 2 = 1) then a / D + 1 else a / D
def shOf (a d : Nat) : Nat := bl (a / d) - 53
/-- the float nearest to z / d -/
def nearF (z : Int) (d : Nat) : Nat :=
  let s := shOf z.natAbs d
  let m := rnd z.natAbs (d * 2 ^ s)
  if m = 0 then 0 else if z < 0 then 9223372036854775808 + ldx m ((s : Int) - 1074) else ldx m ((s : Int) - 1074)

theorem bl_le_iff {x k : Nat} : bl x ≤ k ↔ x < 2 ^ k := by
  constructor
  · intro h; exact Nat.lt_of_lt_of_le (lt_bl x) (Nat.pow_le_pow_right (by decide) h)
  · exact bl_le_of_lt
theorem div_sh (a d s : Nat) : a / (d * 2 ^ s) = a / d / 2 ^ s := (Nat.div_div_eq_div_mul ..).symm
theorem sh_exit {a d s : Nat} (h1 : s ≤ shOf a d) (h2 : a / (d * 2 ^ s) < 2 ^ 53) : s = shOf a d := by
  unfold shOf at *
  rw [div_sh, Nat.div_lt_iff_lt_mul (Nat.two_pow_pos _), ← Nat.pow_add] at h2
  have := bl_le_of_lt h2
  omega
theorem sh_next {a d s : Nat} (h1 : s ≤ shOf a d) (h2 : ¬ a / (d * 2 ^ s) < 2 ^ 53) : s + 1 ≤ shOf a d := by
  unfold shOf at *
  rw [div_sh, Nat.div_lt_iff_lt_mul (Nat.two_pow_pos _), ← Nat.pow_add] at h2
  have : ¬ bl (a / d) ≤ 53 + s := fun h => h2 (bl_le_iff.1 h)
  omega
theorem sh_start {a d : Nat} (hd : 0 < d) : bl a - bl d - 54 ≤ shOf a d := by
  unfold shOf
  by_cases h : bl a - bl d - 54 = 0
  · omega
  · have ha : a ≠ 0 := by intro e; subst e; simp [bl] at h
    have h1 := bl_le ha
    have h2 := lt_bl d
    have : 2 ^ (bl a - 1 - bl d) ≤ a / d := by
      rw [Nat.le_div_iff_mul_le hd]
      refine Nat.le_trans (Nat.mul_le_mul_left _ (Nat.le_of_lt h2)) ?_
      rw [← Nat.pow_add, show bl a - 1 - bl d + bl d = bl a - 1 from by omega]
      exact h1
    have : ¬ bl (a / d) ≤ bl a - 1 - bl d := fun h => absurd (bl_le_iff.1 h) (by omega)
    omega
theorem q_start {a d s : Nat} (hd : 0 < d) (hs : bl a - bl d - 54 ≤ s) : a / (d * 2 ^ s) < 2 ^ 55 := by
  have hdne : d ≠ 0 := by omega
  have h1 := lt_bl a
  have h2 := bl_le hdne
  have h3 := bl_pos hdne
  rw [Nat.div_lt_iff_lt_mul (Nat.mul_pos hd (Nat.two_pow_pos _))]
  refine Nat.lt_of_lt_of_le h1 ?_
  refine Nat.le_trans ?_ (Nat.mul_le_mul_left _ (Nat.mul_le_mul_right _ h2))
  rw [← Nat.pow_add, ← Nat.pow_add]
  exact Nat.pow_le_pow_right (by decide) (by omega)
theorem q_half (a d s : Nat) : a / (d * 2 ^ (s + 1)) = a / (d * 2 ^ s) / 2 := by
  rw [Nat.div_div_eq_div_mul, Nat.pow_succ, Nat.mul_assoc]
theorem rnd_le {a D : Nat} (h : a / D < 2 ^ 53) : rnd a D ≤ 2 ^ 53 := by unfold rnd; split <;> omega
end Go.Proofs.YtjngofngjbjpbaaGreatDoor
end

section
set_option linter.unusedSimpArgs false
set_option linter.unusedVariables false
namespace Go.Proofs.YtjngofngjbjpbaaGreatDoor

def bt (m i : Nat) : Nat := m / 2 ^ i % 2
theorem bt_lt (m i : Nat) : bt m i < 2 := Nat.mod_lt _ (by decide)
theorem bt_high {m i : Nat} (h : bl m ≤ i) : bt m i = 0 := by
  unfold bt
  rw [Nat.div_eq_of_lt (bl_le_iff.1 h)]
theorem bt_top {m : Nat} (h : m ≠ 0) : bt m (bl m - 1) = 1 := by
  have h1 := bl_le h
  have h2 := lt_bl m
  have h3 := bl_pos h
  obtain ⟨k, hk⟩ : ∃ k, bl m = k + 1 := ⟨bl m - 1, by omega⟩
  rw [hk] at h1 h2 ⊢
  rw [Nat.add_sub_cancel] at h1 ⊢
  have h4 : m / 2 ^ k < 2 := by rw [Nat.div_lt_iff_lt_mul (Nat.two_pow_pos _), Nat.mul_comm, ← Nat.pow_succ]; exact h2
  have h5 : 0 < m / 2 ^ k := Nat.div_pos h1 (Nat.two_pow_pos _)
  unfold bt
  omega
theorem valB_bt (m n : Nat) : valB 2 (bt m) n = m % 2 ^ n := by
  induction n with
  | zero => simp [valB, Nat.mod_one]
  | succ n ih => simp only [valB]; rw [ih, Nat.pow_succ, Nat.mod_mul, bt, Nat.mul_comm]
theorem valB_bt_ge {m n : Nat} (h : bl m ≤ n) : valB 2 (bt m) n = m := by
  rw [valB_bt, Nat.mod_eq_of_lt (bl_le_iff.1 h)]
theorem bt_valB {f : Nat → Nat} {n i : Nat} (hf : ∀ i, i < n → f i < 2) (hi : i < n) : bt (valB 2 f n) i = f i := by
  unfold bt
  induction n with
  | zero => omega
  | succ n ih =>
    simp only [valB]
    by_cases e : i = n
    · subst e
      rw [Nat.add_mul_div_right _ _ (Nat.two_pow_pos _), Nat.div_eq_of_lt (valB_lt i fun k hk => hf k (by omega)), Nat.zero_add, Nat.mod_eq_of_lt (hf i hi)]
    · have e2 : f n * 2 ^ n = f n * 2 ^ (n - i - 1) * 2 * 2 ^ i := by
        rw [Nat.mul_assoc, Nat.mul_assoc, ← Nat.pow_succ', ← Nat.pow_add]
        congr 2; omega
      rw [e2, Nat.add_mul_div_right _ _ (Nat.two_pow_pos _), Nat.add_mul_mod_self_right, ih (fun k hk => hf k (by omega)) (by omega)]
theorem bl_valB {f : Nat → Nat} {n : Nat} (hf : ∀ i, i < n → f i < 2) (h : 0 < n → f (n - 1) ≠ 0) : bl (valB 2 f n) = n := by
  by_cases h0 : n = 0
  · subst h0; rfl
  · obtain ⟨k, rfl⟩ : ∃ k, n = k + 1 := ⟨n - 1, by omega⟩
    exact bl_eq (valB_lt _ hf) (valB_ge (by omega) (h (by omega)))
theorem bl_mul_pow {x : Nat} (h : x ≠ 0) (u : Nat) : bl (x * 2 ^ u) = bl x + u := by
  have h1 := bl_le h
  have h2 := lt_bl x
  have h3 := bl_pos h
  obtain ⟨k, hk⟩ : ∃ k, bl x = k + 1 := ⟨bl x - 1, by omega⟩
  rw [hk] at h1 h2 ⊢
  rw [show k + 1 + u = (k + u) + 1 from by omega]
  refine bl_eq ?_ ?_
  · rw [show k + u + 1 = (k + 1) + u from by omega, Nat.pow_add]; exact Nat.mul_lt_mul_of_pos_right h2 (Nat.two_pow_pos _)
  · rw [Nat.pow_add]; exact Nat.mul_le_mul_right _ (by simpa using h1)
theorem bt_mul_low {x u i : Nat} (h : i < u) : bt (x * 2 ^ u) i = 0 := by
  unfold bt
  rw [show x * 2 ^ u = x * 2 ^ (u - i - 1) * 2 * 2 ^ i from by rw [Nat.mul_assoc, Nat.mul_assoc, ← Nat.pow_succ', ← Nat.pow_add]; congr 2; omega, Nat.mul_div_cancel _ (Nat.two_pow_pos _), Nat.mul_mod_left]
theorem bt_mul_high (x u j : Nat) : bt (x * 2 ^ u) (u + j) = bt x j := by
  unfold bt
  rw [Nat.pow_add, ← Nat.div_div_eq_div_mul, Nat.mul_div_cancel _ (Nat.two_pow_pos _)]
theorem bt_div (m u j : Nat) : bt (m / 2 ^ u) j = bt m (u + j) := by
  unfold bt
  rw [Nat.pow_add, ← Nat.div_div_eq_div_mul]
theorem div_top (m i : Nat) : m / 2 ^ i = 2 * (m / 2 ^ (i + 1)) + bt m i := by
  unfold bt
  rw [Nat.pow_succ, ← Nat.div_div_eq_div_mul]
  omega
theorem div_pos_iff (m i : Nat) : 0 < m / 2 ^ i ↔ i < bl m := by
  constructor
  · intro h
    by_cases hi : bl m ≤ i
    · rw [Nat.div_eq_of_lt (bl_le_iff.1 hi)] at h; omega
    · omega
  · intro h
    have : ¬ m < 2 ^ i := fun h2 => absurd (bl_le_iff.2 h2) (by omega)
    exact Nat.div_pos (by omega) (Nat.two_pow_pos _)
theorem bl_div (m u : Nat) : bl (m / 2 ^ u) = bl m - u := by
  by_cases h : bl m ≤ u
  · rw [Nat.div_eq_of_lt (bl_le_iff.1 h), bl_zero]; omega
  · have h0 : m ≠ 0 := by intro e; subst e; simp [bl_zero] at h
    have h1 := bl_le h0
    have h2 := lt_bl m
    obtain ⟨k, hk⟩ : ∃ k, bl m = u + k + 1 := ⟨bl m - u - 1, by omega⟩
    rw [hk] at h1 h2 ⊢
    rw [show u + k + 1 - u = k + 1 from by omega]
    refine bl_eq ?_ ?_
    · rw [Nat.div_lt_iff_lt_mul (Nat.two_pow_pos _), ← Nat.pow_add, show k + 1 + u = u + k + 1 from by omega]; exact h2
    · rw [Nat.le_div_iff_mul_le (Nat.two_pow_pos _), ← Nat.pow_add, show k + u = u + k + 1 - 1 from by omega]; exact h1
theorem bl_mono {a b : Nat} (h : a ≤ b) : bl a ≤ bl b := bl_le_iff.2 (Nat.lt_of_le_of_lt h (lt_bl b))
theorem bl_mod (m u : Nat) : bl (m % 2 ^ u) ≤ u := bl_le_iff.2 (Nat.mod_lt _ (Nat.two_pow_pos _))
theorem bt_mod {m u j : Nat} (h : j < u) : bt (m % 2 ^ u) j = bt m j := by
  rw [← valB_bt m u]
  exact bt_valB (fun i _ => bt_lt m i) h
/-- a carry beyond both numbers -/
theorem cy_end {a b n : Nat} (ha : bl a < n) (hb : bl b < n) : cy 2 (bt a) (bt b) n = 0 := by
  obtain ⟨k, rfl⟩ : ∃ k, n = k + 1 := ⟨n - 1, by omega⟩
  have := cy_le (B := 2) (f := bt a) (g := bt b) (by decide) k (fun i _ => bt_lt a i) (fun i _ => bt_lt b i)
  simp only [cy]
  rw [bt_high (m := a) (by omega), bt_high (m := b) (by omega)]
  omega
theorem sum_bits {a b n : Nat} (ha : bl a ≤ n) (hb : bl b ≤ n) (h : cy 2 (bt a) (bt b) n = 0) : valB 2 (sumDg 2 (bt a) (bt b)) n = a + b := by
  have := sum_val (B := 2) (bt a) (bt b) n
  rw [h, valB_bt_ge ha, valB_bt_ge hb] at this
  omega
theorem dif_bits {a b n : Nat} (hn : n = bl a) (h : b ≤ a) : valB 2 (difDg 2 (bt a) (bt b)) n = a - b := by
  subst hn
  have hb := bl_mono h
  have e := dif_end (B := 2) (f := bt a) (g := bt b) (bl a) (fun i _ => bt_lt a i) (fun i _ => bt_lt b i) (by rw [valB_bt_ge (Nat.le_refl _), valB_bt_ge hb]; exact h)
  have := dif_val (B := 2) (f := bt a) (g := bt b) (bl a) (fun i _ => bt_lt b i)
  rw [e, valB_bt_ge (Nat.le_refl _), valB_bt_ge hb] at this
  omega

/-- how much a rest is, of one: 0 none, 1 less than a half, 2 a half, 3 more -/
def restOf (r D : Nat) : Nat := if r = 0 then 0 else if 2 * r < D then 1 else if 2 * r = D then 2 else 3
/-- the rest of all, given the low part of a quotient (u places) and the rest of one -/
def restLow (low u rest : Nat) : Nat :=
  if u = 0 then rest
  else if 2 ^ (u - 1) < low then 3
  else if low < 2 ^ (u - 1) then (if 0 < low ∨ rest ≠ 0 then 1 else rest)
  else if rest = 0 then 2 else 3
theorem restLow_is {low u r d : Nat} (hd : 0 < d) (hr : r < d) (hl : low < 2 ^ u) : restLow low u (restOf r d) = restOf (low * d + r) (d * 2 ^ u) := by
  unfold restLow
  by_cases h0 : u = 0
  · subst h0
    obtain rfl : low = 0 := by simpa using hl
    simp
  · rw [if_neg h0]
    obtain ⟨k, rfl⟩ : ∃ k, u = k + 1 := ⟨u - 1, by omega⟩
    rw [Nat.add_sub_cancel, Nat.pow_succ]
    have hp := Nat.two_pow_pos k
    generalize 2 ^ k = H at *
    have hD : d * (H * 2) = 2 * (H * d) := by rw [← Nat.mul_assoc, Nat.mul_comm d H, Nat.mul_comm]
    rw [hD]
    by_cases h1 : H < low
    · have : (H + 1) * d ≤ low * d := Nat.mul_le_mul_right _ h1
      rw [Nat.add_mul] at this
      rw [if_pos h1]
      unfold restOf
      rw [if_neg (by omega), if_neg (by omega), if_neg (by omega)]
    · rw [if_neg h1]
      by_cases h2 : low < H
      · have : (low + 1) * d ≤ H * d := Nat.mul_le_mul_right _ h2
        rw [Nat.add_mul] at this
        rw [if_pos h2]
        by_cases h3 : low = 0
        · subst h3
          simp only [Nat.zero_mul, Nat.zero_add, Nat.lt_irrefl, false_or]
          unfold restOf
          by_cases h4 : r = 0
          · subst h4; simp
          · rw [if_neg h4]
            split
            · simp; omega
            · split
              · simp; omega
              · simp; omega
        · rw [if_pos (Or.inl (by omega))]
          have : 1 * d ≤ low * d := Nat.mul_le_mul_right _ (by omega)
          unfold restOf
          rw [if_neg (by omega), if_pos (by omega)]
      · obtain rfl : low = H := by omega
        rw [if_neg h2]
        have : 1 * d ≤ low * d := Nat.mul_le_mul_right _ (by omega)
        unfold restOf
        by_cases h4 : r = 0
        · subst h4
          simp
          omega
        · rw [if_neg h4, if_neg (show ¬ low * d + r = 0 by omega), if_neg (show ¬ 2 * (low * d + r) < 2 * (low * d) by omega), if_neg (show ¬ 2 * (low * d + r) = 2 * (low * d) by omega)]
          split <;> (try split) <;> (try split) <;> first | omega | simp_all
/-- the mantissa, by a rest -/
def rndR (n rest : Nat) : Nat := if rest = 3 ∨ (rest = 2 ∧ n % 2 = 1) then n + 1 else n
theorem rndR_is (a D : Nat) : rndR (a / D) (restOf (a % D) D) = rnd a D := by
  unfold rndR rnd restOf
  by_cases h0 : a % D = 0
  · rw [if_pos h0, h0]
    simp
    by_cases hD : D = 0
    · subst hD; simp
    · intro h; omega
  · rw [if_neg h0]
    by_cases h1 : 2 * (a % D) < D
    · rw [if_pos h1, if_neg (by omega), if_neg (by omega)]
    · rw [if_neg h1]
      by_cases h2 : 2 * (a % D) = D
      · rw [if_pos h2]
        by_cases h3 : a / D % 2 = 1
        · rw [if_pos (Or.inr ⟨rfl, h3⟩), if_pos (Or.inr ⟨h2, h3⟩)]
        · rw [if_neg (by omega), if_neg (by omega)]
      · rw [if_neg h2, if_pos (Or.inl rfl), if_pos (Or.inl (by omega))]
/-- the book's rounded float -/
def roundF (neg : Bool) (q rest : Nat) : Nat :=
  let u := bl q - 53
  let m := rndR (q / 2 ^ u) (restLow (q % 2 ^ u) u rest)
  if m = 0 then 0 else if neg then 9223372036854775808 + ldx m ((u : Int) - 1074) else ldx m ((u : Int) - 1074)
theorem roundF_is (z : Int) (d : Nat) (hd : 0 < d) : roundF (decide (z < 0)) (z.natAbs / d) (restOf (z.natAbs % d) d) = nearF z d := by
  unfold roundF nearF shOf
  simp only
  generalize z.natAbs = a
  generalize hu : bl (a / d) - 53 = u
  rw [restLow_is hd (Nat.mod_lt _ hd) (Nat.mod_lt _ (Nat.two_pow_pos _)), ← div_sh]
  have e : a / d % 2 ^ u * d + a % d = a % (d * 2 ^ u) := by
    rw [Nat.mod_mul, Nat.mul_comm (a / d % 2 ^ u) d, Nat.add_comm]
  rw [e, rndR_is]
  by_cases h : z < 0
  · simp [h]
  · simp [h]
end Go.Proofs.YtjngofngjbjpbaaGreatDoor
end
