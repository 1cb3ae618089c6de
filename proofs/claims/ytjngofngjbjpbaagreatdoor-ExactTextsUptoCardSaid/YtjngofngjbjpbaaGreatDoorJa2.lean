/- Plain arithmetic of digits: values of rows of digits, sums, differences. Plain arithmetic: digits shifted by bits. -/

section
namespace Go.Proofs.YtjngofngjbjpbaaGreatDoor

/-- the value of n digits in base B, the lowest first -/
def valB (B : Nat) (f : Nat → Nat) : Nat → Nat
  | 0 => 0
  | n + 1 => valB B f n + f n * B ^ n

theorem valB_congr (B : Nat) {f g : Nat → Nat} (n : Nat) (h : ∀ i, i < n → f i = g i) : valB B f n = valB B g n := by
  induction n with
  | zero => rfl
  | succ n ih => simp only [valB]; rw [ih (fun i hi => h i (by omega)), h n (by omega)]
theorem valB_lt {B : Nat} {f : Nat → Nat} (n : Nat) (h : ∀ i, i < n → f i < B) : valB B f n < B ^ n := by
  induction n with
  | zero => simp [valB]
  | succ n ih =>
    simp only [valB, Nat.pow_succ]
    have h1 := ih (fun i hi => h i (by omega))
    have h2 := h n (by omega)
    have h3 : (f n + 1) * B ^ n ≤ B * B ^ n := Nat.mul_le_mul_right _ h2
    rw [Nat.add_mul] at h3
    rw [Nat.mul_comm (B ^ n) B]
    omega
theorem valB_tail {B : Nat} {f : Nat → Nat} {m n : Nat} (hm : m ≤ n) (h : ∀ i, m ≤ i → i < n → f i = 0) : valB B f n = valB B f m := by
  induction n with
  | zero => obtain rfl : m = 0 := by omega
            rfl
  | succ n ih =>
    by_cases e : m = n + 1
    · rw [e]
    · simp only [valB]
      rw [ih (by omega) (fun i h1 h2 => h i h1 (by omega)), h n (by omega) (by omega)]
      simp
theorem valB_ge {B : Nat} {f : Nat → Nat} {n : Nat} (h0 : 0 < n) (h : f (n - 1) ≠ 0) : B ^ (n - 1) ≤ valB B f n := by
  obtain ⟨m, rfl⟩ : ∃ m, n = m + 1 := ⟨n - 1, by omega⟩
  simp only [valB, Nat.add_sub_cancel] at *
  have : 1 * B ^ m ≤ f m * B ^ m := Nat.mul_le_mul_right _ (by omega)
  omega
theorem valB_pos {B : Nat} {f : Nat → Nat} {n : Nat} (hB : 0 < B) (h0 : 0 < n) (h : f (n - 1) ≠ 0) : 0 < valB B f n :=
  Nat.lt_of_lt_of_le (Nat.pow_pos hB) (valB_ge h0 h)
/-- fewer digits, a smaller value -/
theorem valB_lt_of_len {B : Nat} {f g : Nat → Nat} {m n : Nat} (hB : 0 < B) (hf : ∀ i, i < m → f i < B) (hmn : m < n) (hg : g (n - 1) ≠ 0) : valB B f m < valB B g n :=
  Nat.lt_of_lt_of_le (valB_lt m hf) (Nat.le_trans (Nat.pow_le_pow_right hB (by omega)) (valB_ge (by omega) hg))
/-- the first digit that differs, from above, decides -/
theorem valB_lt_of_top {B : Nat} {f g : Nat → Nat} {i n : Nat} (hi : i < n) (hf : ∀ j, j < n → f j < B) (hlt : f i < g i) (he : ∀ j, i < j → j < n → f j = g j) : valB B f n < valB B g n := by
  induction n with
  | zero => omega
  | succ n ih =>
    simp only [valB]
    by_cases e : i = n
    · subst e
      have h1 := valB_lt i (fun j hj => hf j (by omega))
      have h2 : (f i + 1) * B ^ i ≤ g i * B ^ i := Nat.mul_le_mul_right _ hlt
      rw [Nat.add_mul] at h2
      omega
    · have := ih (by omega) (fun j hj => hf j (by omega)) (fun j h1 h2 => he j h1 (by omega))
      rw [he n (by omega) (by omega)]
      omega

/-! sums -/
def cy (B : Nat) (f g : Nat → Nat) : Nat → Nat
  | 0 => 0
  | i + 1 => (f i + g i + cy B f g i) / B
def sumDg (B : Nat) (f g : Nat → Nat) (i : Nat) : Nat := (f i + g i + cy B f g i) % B
theorem cy_le {B : Nat} {f g : Nat → Nat} (hB : 0 < B) (n : Nat) (hf : ∀ i, i < n → f i < B) (hg : ∀ i, i < n → g i < B) : cy B f g n ≤ 1 := by
  induction n with
  | zero => simp [cy]
  | succ n ih =>
    simp only [cy]
    have h1 := ih (fun i hi => hf i (by omega)) (fun i hi => hg i (by omega))
    have h2 := hf n (by omega)
    have h3 := hg n (by omega)
    have : f n + g n + cy B f g n < 2 * B := by omega
    have := (Nat.div_lt_iff_lt_mul hB).2 this
    omega
theorem sum_val {B : Nat} (f g : Nat → Nat) (n : Nat) : valB B (sumDg B f g) n + cy B f g n * B ^ n = valB B f n + valB B g n := by
  induction n with
  | zero => simp [valB, cy]
  | succ n ih =>
    simp only [valB, cy, sumDg]
    have h := Nat.mod_add_div (f n + g n + cy B f g n) B
    have h2 : (f n + g n + cy B f g n) % B * B ^ n + (f n + g n + cy B f g n) / B * (B ^ n * B) = (f n + g n + cy B f g n) * B ^ n := by
      calc _ = ((f n + g n + cy B f g n) % B + B * ((f n + g n + cy B f g n) / B)) * B ^ n := by
            rw [Nat.add_mul]; congr 1; rw [Nat.mul_comm (B ^ n) B, ← Nat.mul_assoc, Nat.mul_comm B]
        _ = _ := by rw [h]
    rw [Nat.pow_succ]
    simp only [Nat.add_mul] at h2
    omega

/-! differences -/
def bw (f g : Nat → Nat) : Nat → Nat
  | 0 => 0
  | i + 1 => if f i < g i + bw f g i then 1 else 0
def difDg (B : Nat) (f g : Nat → Nat) (i : Nat) : Nat := (f i + B * bw f g (i + 1)) - (g i + bw f g i)
theorem bw_le (f g : Nat → Nat) (n : Nat) : bw f g n ≤ 1 := by cases n <;> simp only [bw] <;> (try split) <;> omega
theorem dif_le {B : Nat} {f g : Nat → Nat} (i : Nat) (hg : g i < B) : g i + bw f g i ≤ f i + B * bw f g (i + 1) := by
  have := bw_le f g i
  simp only [bw]
  split <;> omega
theorem difDg_lt {B : Nat} {f g : Nat → Nat} (i : Nat) (hf : f i < B) : difDg B f g i < B := by
  have := bw_le f g i
  unfold difDg
  simp only [bw]
  split <;> omega
theorem dif_val {B : Nat} {f g : Nat → Nat} (n : Nat) (hg : ∀ i, i < n → g i < B) : valB B (difDg B f g) n + valB B g n = valB B f n + bw f g n * B ^ n := by
  induction n with
  | zero => simp [valB, bw]
  | succ n ih =>
    have h1 := ih (fun i hi => hg i (by omega))
    have h2 := dif_le (f := f) n (hg n (by omega))
    simp only [valB]
    have h3 : difDg B f g n + (g n + bw f g n) = f n + B * bw f g (n + 1) := by unfold difDg; omega
    have h4 : difDg B f g n * B ^ n + (g n * B ^ n + bw f g n * B ^ n) = f n * B ^ n + bw f g (n + 1) * B ^ (n + 1) := by
      rw [← Nat.add_mul, ← Nat.add_mul, h3, Nat.add_mul, Nat.pow_succ, Nat.mul_comm (B ^ n) B, ← Nat.mul_assoc, Nat.mul_comm B]
    omega
theorem dif_end {B : Nat} {f g : Nat → Nat} (n : Nat) (hf : ∀ i, i < n → f i < B) (hg : ∀ i, i < n → g i < B) (h : valB B g n ≤ valB B f n) : bw f g n = 0 := by
  have h1 := dif_val (B := B) (f := f) n hg
  have h2 : valB B (difDg B f g) n < B ^ n := valB_lt (B := B) n (fun i hi => difDg_lt (f := f) (g := g) i (hf i hi))
  have := bw_le f g n
  by_cases e : bw f g n = 0
  · exact e
  · have e1 : bw f g n = 1 := by omega
    rw [e1] at h1
    omega

/-! the number of bits -/
def bl (x : Nat) : Nat := if x = 0 then 0 else Nat.log2 x + 1
theorem lt_bl (x : Nat) : x < 2 ^ bl x := by
  unfold bl
  split
  · subst x; decide
  · exact Nat.lt_log2_self
theorem bl_le {x : Nat} (h : x ≠ 0) : 2 ^ (bl x - 1) ≤ x := by
  unfold bl
  rw [if_neg h, Nat.add_sub_cancel]
  exact Nat.log2_self_le h
theorem bl_eq {x k : Nat} (h1 : x < 2 ^ (k + 1)) (h2 : 2 ^ k ≤ x) : bl x = k + 1 := by
  have h0 : x ≠ 0 := by have := Nat.two_pow_pos k; omega
  have a := lt_bl x
  have b := bl_le h0
  have c : k < bl x := (Nat.pow_lt_pow_iff_right (a := 2) (by decide)).1 (Nat.lt_of_le_of_lt h2 a)
  have d : bl x - 1 < k + 1 := (Nat.pow_lt_pow_iff_right (a := 2) (by decide)).1 (Nat.lt_of_le_of_lt b h1)
  omega
theorem bl_zero : bl 0 = 0 := rfl
theorem bl_pos {x : Nat} (h : x ≠ 0) : 0 < bl x := by unfold bl; rw [if_neg h]; omega
theorem bl_le_of_lt {x k : Nat} (h : x < 2 ^ k) : bl x ≤ k := by
  by_cases h0 : x = 0
  · subst h0; simp [bl]
  · have := bl_le h0
    have := (Nat.pow_lt_pow_iff_right (a := 2) (by decide)).1 (Nat.lt_of_le_of_lt this h)
    omega
theorem bl_top {f : Nat → Nat} {n : Nat} (hf : ∀ i, i < n + 1 → f i < 2 ^ 64) (h : f n ≠ 0) : bl (valB (2 ^ 64) f (n + 1)) = 64 * n + bl (f n) := by
  have h1 := valB_lt n (fun i hi => hf i (by omega))
  have h2 := lt_bl (f n)
  have h3 := bl_le h
  have h4 := bl_pos h
  rw [← Nat.pow_mul] at h1
  obtain ⟨k, hk⟩ : ∃ k, bl (f n) = k + 1 := ⟨bl (f n) - 1, by omega⟩
  rw [hk] at h2 h3 ⊢
  rw [← Nat.add_assoc]
  simp only [Nat.add_sub_cancel] at h3
  refine bl_eq ?_ ?_
  · simp only [valB, ← Nat.pow_mul]
    have : (f n + 1) * 2 ^ (64 * n) ≤ 2 ^ (k + 1) * 2 ^ (64 * n) := Nat.mul_le_mul_right _ h2
    rw [Nat.add_mul, ← Nat.pow_add] at this
    rw [show 64 * n + k + 1 = k + 1 + 64 * n by omega]
    omega
  · simp only [valB, ← Nat.pow_mul]
    have : 2 ^ k * 2 ^ (64 * n) ≤ f n * 2 ^ (64 * n) := Nat.mul_le_mul_right _ h3
    rw [← Nat.pow_add] at this
    rw [show 64 * n + k = k + 64 * n by omega]
    omega
end Go.Proofs.YtjngofngjbjpbaaGreatDoor
end

section
set_option linter.unusedSimpArgs false
namespace Go.Proofs.YtjngofngjbjpbaaGreatDoor

def W64 : Nat := 18446744073709551616
theorem W64_eq : W64 = 2 ^ 64 := by decide

def lo (r x : Nat) : Nat := x * 2 ^ r % W64
def hi (r x : Nat) : Nat := x / 2 ^ (64 - r)
theorem lo_lt (r x : Nat) : lo r x < W64 := Nat.mod_lt _ (by decide)
theorem hi_lt {r x : Nat} (hr : r < 64) (hx : x < W64) : hi r x < 2 ^ r := by
  unfold hi
  rw [Nat.div_lt_iff_lt_mul (Nat.two_pow_pos _), ← Nat.pow_add, show r + (64 - r) = 64 by omega]
  rw [W64_eq] at hx
  exact hx
theorem hi_zero {x : Nat} (h : x < W64) : hi 0 x = 0 := by
  unfold hi
  rw [Nat.sub_zero, ← W64_eq]
  exact Nat.div_eq_of_lt h
theorem lo_hi {r x : Nat} (hr : r < 64) : lo r x + W64 * hi r x = x * 2 ^ r := by
  unfold lo hi
  have e : x * 2 ^ r / W64 = x / 2 ^ (64 - r) := by
    rw [W64_eq, show (2 : Nat) ^ 64 = 2 ^ r * 2 ^ (64 - r) by rw [← Nat.pow_add]; congr 1; omega, Nat.mul_comm x, Nat.mul_div_mul_left _ _ (Nat.two_pow_pos _)]
  rw [← e]
  exact Nat.mod_add_div _ _
theorem lo_dvd {r x : Nat} (hr : r < 64) : 2 ^ r ∣ lo r x := by
  unfold lo
  have h1 : 2 ^ r ∣ W64 := by rw [W64_eq]; exact Nat.pow_dvd_pow 2 (by omega)
  exact (Nat.dvd_mod_iff h1).2 ⟨x, by rw [Nat.mul_comm]⟩
theorem or_lo {r x h : Nat} (hr : r < 64) (hh : h < 2 ^ r) : h ||| lo r x = lo r x + h := by
  obtain ⟨q, hq⟩ := lo_dvd (x := x) hr
  rw [hq, Nat.or_comm, Nat.two_pow_add_eq_or_of_lt hh]

/-- the digits of a row shifted by wd words and r bits, n digits being laid -/
def shD (f : Nat → Nat) (r wd n j : Nat) : Nat :=
  if j < wd then 0 else (if j - wd < n then lo r (f (j - wd)) else 0) + (if 0 < j - wd ∧ j - wd ≤ n then hi r (f (j - wd - 1)) else 0)
theorem shD_at (f : Nat → Nat) (r wd n : Nat) : shD f r wd n (wd + n) = if 0 < n then hi r (f (n - 1)) else 0 := by
  unfold shD
  rw [if_neg (by omega), show wd + n - wd = n by omega, if_neg (by omega)]
  by_cases h : 0 < n <;> simp [h]
theorem shD_start (f : Nat → Nat) (r wd j : Nat) : shD f r wd 0 j = 0 := by
  unfold shD
  split
  · rfl
  · rw [if_neg (by omega), if_neg (by omega)]
theorem shD_step_at (f : Nat → Nat) (r wd n : Nat) : shD f r wd (n + 1) (wd + n) = lo r (f n) + shD f r wd n (wd + n) := by
  rw [shD_at]
  unfold shD
  rw [if_neg (by omega), show wd + n - wd = n by omega, if_pos (by omega)]
  congr 1
  by_cases h : 0 < n <;> simp [h]
theorem shD_step_next (f : Nat → Nat) (r wd n : Nat) : shD f r wd (n + 1) (wd + n + 1) = hi r (f n) := by
  unfold shD
  rw [if_neg (by omega), show wd + n + 1 - wd = n + 1 by omega, if_neg (by omega)]
  simp
theorem shD_other (f : Nat → Nat) (r wd n j : Nat) (h1 : j ≠ wd + n) (h2 : j ≠ wd + n + 1) : shD f r wd (n + 1) j = shD f r wd n j := by
  unfold shD
  by_cases h : j < wd
  · simp [h]
  · rw [if_neg h, if_neg h]
    by_cases h3 : j - wd < n
    · rw [if_pos (by omega), if_pos h3]
      congr 1
      by_cases h4 : 0 < j - wd
      · rw [if_pos ⟨h4, by omega⟩, if_pos ⟨h4, by omega⟩]
      · rw [if_neg (by omega), if_neg (by omega)]
    · rw [if_neg (by omega), if_neg h3, if_neg (by omega), if_neg (by omega)]
theorem shD_beyond (f : Nat → Nat) (r wd n j : Nat) (h : wd + n < j) : shD f r wd n j = 0 := by
  unfold shD
  rw [if_neg (by omega), if_neg (by omega), if_neg (by omega)]
theorem shD_lt {f : Nat → Nat} {r wd n : Nat} (hr : r < 64) (hf : ∀ i, i < n → f i < W64) (j : Nat) : shD f r wd n j < W64 := by
  have hW : 0 < W64 := by decide
  unfold shD
  by_cases h : j < wd
  · simp [h, hW]
  · rw [if_neg h]
    by_cases h1 : 0 < j - wd ∧ j - wd ≤ n
    · rw [if_pos h1]
      have h2 := hi_lt hr (hf (j - wd - 1) (by omega))
      have h3 : 2 ^ r ≤ W64 := by rw [W64_eq]; exact Nat.pow_le_pow_right (by decide) (by omega)
      split
      · obtain ⟨q, hq⟩ := lo_dvd (x := f (j - wd)) hr
        have h4 := lo_lt r (f (j - wd))
        rw [hq] at h4 ⊢
        obtain ⟨p, hp⟩ : 2 ^ r ∣ W64 := by rw [W64_eq]; exact Nat.pow_dvd_pow 2 (by omega)
        rw [hp] at h4 ⊢
        have h5 := Nat.lt_of_mul_lt_mul_left h4
        have h6 : 2 ^ r * (q + 1) ≤ 2 ^ r * p := Nat.mul_le_mul_left _ h5
        rw [Nat.mul_add] at h6
        omega
      · omega
    · rw [if_neg h1]
      split
      · exact lo_lt _ _
      · exact hW
theorem shD_val {f : Nat → Nat} {r : Nat} (wd : Nat) (hr : r < 64) (n : Nat) : valB W64 (shD f r wd n) (wd + n + 1) = valB W64 f n * 2 ^ r * W64 ^ wd := by
  induction n with
  | zero =>
    have e0 : shD f r wd 0 wd = 0 := by have := shD_at f r wd 0; simpa using this
    simp only [valB, Nat.zero_mul, Nat.add_zero]
    rw [e0, Nat.zero_mul, Nat.add_zero]
    rw [valB_congr (g := fun _ => 0) W64 wd (fun i hi => by unfold shD; rw [if_pos hi])]
    exact valB_tail (m := 0) (Nat.zero_le _) (fun _ _ _ => rfl)
  | succ n ih =>
    have e1 : valB W64 (shD f r wd (n + 1)) (wd + n) = valB W64 (shD f r wd n) (wd + n) := valB_congr W64 _ (fun i hi => shD_other f r wd n i (by omega) (by omega))
    rw [show wd + (n + 1) + 1 = wd + n + 1 + 1 by omega]
    simp only [valB] at ih ⊢
    rw [e1, shD_step_at, shD_step_next, Nat.add_mul, Nat.add_mul (valB W64 f n), Nat.add_mul _ _ (W64 ^ wd), ← ih]
    have h := lo_hi (x := f n) hr
    have h2 : lo r (f n) * W64 ^ (wd + n) + hi r (f n) * W64 ^ (wd + n + 1) = f n * W64 ^ n * 2 ^ r * W64 ^ wd := by
      calc lo r (f n) * W64 ^ (wd + n) + hi r (f n) * W64 ^ (wd + n + 1) = (lo r (f n) + W64 * hi r (f n)) * W64 ^ (wd + n) := by
            rw [Nat.add_mul, Nat.pow_succ, Nat.mul_comm W64 (hi r (f n)), Nat.mul_assoc, Nat.mul_comm W64]
        _ = f n * 2 ^ r * (W64 ^ n * W64 ^ wd) := by rw [h, Nat.pow_add, Nat.mul_comm (W64 ^ wd)]
        _ = _ := by rw [← Nat.mul_assoc, Nat.mul_right_comm (f n)]
    omega
end Go.Proofs.YtjngofngjbjpbaaGreatDoor
end
