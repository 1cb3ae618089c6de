/- package math's small functions. math.Ldexp. -/
import Derived.Test.YtjngofngjbjpbaaGreatDoorJa3
import Derived.Test.YtjngofngjbjpbaaGreatDoorJa11
import Derived.Laws.BitsAllLaws
import Derived.Laws.Bits128

section
set_option linter.unusedSimpArgs false
set_option linter.unusedVariables false
namespace Go.Proofs.YtjngofngjbjpbaaGreatDoor
open Go.RowKit

theorem andNot_sign (b : Nat) (h : b < 18446744073709551616) : bits BinOp.andNot IntKind.u64 (b : Int) 9223372036854775808 = ((b % 9223372036854775808 : Nat) : Int) := by
  have e := u64_andNot_nat b 9223372036854775808 h (by decide)
  rw [show 18446744073709551615 - 9223372036854775808 = 2 ^ 63 - 1 from by decide, Nat.and_two_pow_sub_one_eq_mod] at e
  exact e
theorem and_sign (b : Nat) (h : b < 18446744073709551616) : bits BinOp.and IntKind.u64 (b : Int) 9223372036854775808 = ((b / 9223372036854775808 * 9223372036854775808 : Nat) : Int) := by
  have e := bits_and_u64_nat b 9223372036854775808 h (by decide)
  have e2 : b &&& 9223372036854775808 = b / 9223372036854775808 * 9223372036854775808 := by
    have h1 : b / 2 ^ 63 < 2 := by omega
    rw [show (9223372036854775808 : Nat) = 2 ^ 63 from by decide]
    apply Nat.eq_of_testBit_eq
    intro i
    rw [Nat.testBit_and, Nat.testBit_two_pow, Nat.testBit_mul_two_pow]
    by_cases hi : 63 = i
    · subst hi
      rw [Nat.testBit_eq_decide_div_mod_eq, Nat.testBit_eq_decide_div_mod_eq]
      simp
    · rw [decide_eq_false hi, Bool.and_false]
      by_cases h2 : 63 ≤ i
      · have : (b / 2 ^ 63).testBit (i - 63) = false := Nat.testBit_lt_two_pow (Nat.lt_of_lt_of_le h1 (by
          have := Nat.pow_le_pow_right (show 0 < 2 by decide) (show 1 ≤ i - 63 by omega)
          omega))
        rw [this, Bool.and_false]
      · rw [decide_eq_false h2, Bool.false_and]
  rw [e2] at e
  exact e
theorem xor_sign (b : Nat) (h : b < 18446744073709551616) : b ^^^ 9223372036854775808 = if b < 9223372036854775808 then b + 9223372036854775808 else b - 9223372036854775808 := by
  have key : ∀ x, x < 2 ^ 63 → x ^^^ 2 ^ 63 = 2 ^ 63 + x := fun x hx => by
    have e := Nat.two_pow_add_eq_or_of_lt hx 1
    rw [Nat.mul_one] at e
    rw [e]
    apply Nat.eq_of_testBit_eq
    intro i
    rw [Nat.testBit_xor, Nat.testBit_or, Nat.testBit_two_pow]
    by_cases hi : 63 = i
    · subst hi
      rw [Nat.testBit_lt_two_pow hx]; simp
    · rw [decide_eq_false hi]; simp
  by_cases hlt : b < 9223372036854775808
  · rw [if_pos hlt]
    have := key b hlt
    rw [show (2 : Nat) ^ 63 = 9223372036854775808 from by decide] at this
    omega
  · rw [if_neg hlt]
    have := key (b - 9223372036854775808) (by omega)
    rw [show (2 : Nat) ^ 63 = 9223372036854775808 from by decide, show 9223372036854775808 + (b - 9223372036854775808) = b from by omega] at this
    rw [← this, Nat.xor_assoc, Nat.xor_self, Nat.xor_zero, this]
theorem neg_word (b : Nat) (h : b < 18446744073709551616) : Op.negFloat .f64 b = if b < 9223372036854775808 then b + 9223372036854775808 else b - 9223372036854775808 :=
  xor_sign b h

theorem absF {R : Ending → World → Prop} (b : Nat) (h : b < 18446744073709551616) (w : World) (K : R (.returned (.float .f64 (b % 9223372036854775808))) w) : Calls Tryz.prog 131 #[.float .f64 b] w R := by
  have r98 := run98 b
  obtain ⟨c, hc⟩ : ∃ c, c = b % 9223372036854775808 := ⟨_, rfl⟩
  have r92 := run92 c
  have ha := andNot_sign b h
  rw [← hc] at ha K
  clear hc h
  go_enter Tryz.func131, Tryz.ntmps131
  go_wp2
  exact K
/-- math.IsInf(x, 1) -/
theorem isInf_pos {R : Ending → World → Prop} (b : Nat) (h : b < 18446744073709551616) (w : World) (K : R (.returned (.bool (decide (b = 9218868437227405312)))) w) : Calls Tryz.prog 99 #[.float .f64 b, .int .i64 1] w R := by
  rw [← order_max b h] at K
  go_enter Tryz.func99, Tryz.ntmps99
  go_wp2
  exact K
theorem isInf_neg {R : Ending → World → Prop} (b : Nat) (h : b < 18446744073709551616) (w : World) (K : R (.returned (.bool (decide (b = 18442240474082181120)))) w) : Calls Tryz.prog 99 #[.float .f64 b, .int .i64 (-1)] w R := by
  have hn := neg_word b h
  obtain ⟨c, hc⟩ : ∃ c, c = Op.negFloat .f64 b := ⟨_, rfl⟩
  have hcl : c < 18446744073709551616 := by rw [hc, hn]; split <;> omega
  have hK : decide (b = 18442240474082181120) = decide (c = 9218868437227405312) := by
    rw [hc, hn]; split <;> simp <;> omega
  rw [hK, ← order_max c hcl] at K
  subst hc
  have hun : ∀ w : World, (Op.unary UnOp.neg (.float .f64 b)).run Tryz.prog w = .ok (.float .f64 (Op.negFloat .f64 b)) w := fun _ => rfl
  clear hn hcl hK
  go_enter Tryz.func99, Tryz.ntmps99
  go_wp2
  exact K
theorem isInf_any {R : Ending → World → Prop} (b : Nat) (h : b < 18446744073709551616) (w : World) (K : R (.returned (.bool (decide (b % 9223372036854775808 = 9218868437227405312)))) w) : Calls Tryz.prog 99 #[.float .f64 b, .int .i64 0] w R := by
  rw [← order_max (b % 9223372036854775808) (by omega)] at K
  go_enter Tryz.func99, Tryz.ntmps99
  go_wp2_with fail
  refine absF b h _ ?_
  obtain ⟨c, hc⟩ : ∃ c, c = b % 9223372036854775808 := ⟨_, rfl⟩
  rw [← hc] at K ⊢
  go_wp2
  rw [hc] at K
  exact K
theorem isNaN_any {R : Ending → World → Prop} (b : Nat) (w : World) (K : R (.returned (.bool (isNaNb b))) w) : Calls Tryz.prog 305 #[.float .f64 b] w R := by
  rw [← order_nan_self] at K
  go_enter Tryz.func305, Tryz.ntmps305
  go_wp2
  exact K
theorem run92_9221120237041090561 (w : World) : (callFunc 92 #[.int .u64 9221120237041090561]).run Tryz.prog w = .ok (.value (.float .f64 9221120237041090561)) w := run92 9221120237041090561 w
theorem run92_9218868437227405312 (w : World) : (callFunc 92 #[.int .u64 9218868437227405312]).run Tryz.prog w = .ok (.value (.float .f64 9218868437227405312)) w := run92 9218868437227405312 w
theorem run92_18442240474082181120 (w : World) : (callFunc 92 #[.int .u64 18442240474082181120]).run Tryz.prog w = .ok (.value (.float .f64 18442240474082181120)) w := run92 18442240474082181120 w
theorem nan_any {R : Ending → World → Prop} (w : World) (K : R (.returned (.float .f64 9221120237041090561)) w) : Calls Tryz.prog 138 #[] w R := by
  have r92 := run92_9221120237041090561
  go_enter Tryz.func138, Tryz.ntmps138
  go_wp2
  exact K
theorem infP {R : Ending → World → Prop} (w : World) (K : R (.returned (.float .f64 9218868437227405312)) w) : Calls Tryz.prog 215 #[.int .i64 1] w R := by
  have r92 := run92_9218868437227405312
  go_enter Tryz.func215, Tryz.ntmps215
  go_wp2
  exact K
theorem infM {R : Ending → World → Prop} (w : World) (K : R (.returned (.float .f64 18442240474082181120)) w) : Calls Tryz.prog 215 #[.int .i64 (-1)] w R := by
  have r92 := run92_18442240474082181120
  go_enter Tryz.func215, Tryz.ntmps215
  go_wp2
  exact K
/-- math.Signbit -/
theorem signbit_any {R : Ending → World → Prop} (b : Nat) (h : b < 18446744073709551616) (w : World) (K : R (.returned (.bool (decide (9223372036854775808 ≤ b)))) w) : Calls Tryz.prog 133 #[.float .f64 b] w R := by
  have r98 := run98 b
  have e : decide (9223372036854775808 ≤ b) = decide (wrap64 (b : Int) < 0) := by unfold wrap64; congr 1; apply propext; omega
  rw [e] at K
  go_enter Tryz.func133, Tryz.ntmps133
  go_wp2
  exact K
/-- math.Copysign of 0 and of a float -/
theorem copysign_any {R : Ending → World → Prop} (b : Nat) (h : b < 18446744073709551616) (w : World) (K : R (.returned (.float .f64 (b / 9223372036854775808 * 9223372036854775808))) w) :
    Calls Tryz.prog 216 #[.float .f64 0, .float .f64 b] w R := by
  obtain ⟨c, hc⟩ : ∃ c, c = b / 9223372036854775808 * 9223372036854775808 := ⟨_, rfl⟩
  have r0 := run98 0
  have r98 := run98 b
  have r92 := run92 c
  have h1 := and_sign b h
  rw [← hc] at K h1
  have h2 : bits BinOp.andNot IntKind.u64 0 9223372036854775808 = 0 := by decide
  have h3 : bits BinOp.or IntKind.u64 0 (c : Int) = (c : Int) := by
    have := bits_or_u64_nat 0 c (by decide) (by omega)
    rw [Nat.zero_or] at this
    exact this
  clear h hc
  go_enter Tryz.func216, Tryz.ntmps216
  go_wp2
  exact K
end Go.Proofs.YtjngofngjbjpbaaGreatDoor
end

section
set_option linter.unusedSimpArgs false
set_option linter.unusedVariables false
namespace Go.Proofs.YtjngofngjbjpbaaGreatDoor
open Go.RowKit

theorem order_zero {x : Nat} (h0 : x ≠ 0) (h : x < 9218868437227405312) : Ieee.double.order x 0 = some .gt := by
  obtain ⟨mag, place, e, h1, _, h2, h3⟩ := read_pos h
  have hm := h1 h0
  unfold Ieee.Format.order
  rw [e, read_zero]
  simp only [Ieee.Datum.order]
  have : compare (Ieee.signed false mag (place - min place (-1074)).toNat) (Ieee.signed false 0 (-1074 - min place (-1074)).toNat) = .gt := by
    unfold Ieee.signed
    simp only [Nat.shiftLeft_eq, Nat.zero_mul, Bool.false_eq_true, if_false]
    have : 0 < mag * 2 ^ (place - min place (-1074)).toNat := Nat.mul_pos (by omega) (Nat.two_pow_pos _)
    show compareOfLessAndEq _ _ = _
    unfold compareOfLessAndEq
    rw [if_neg (by omega), if_neg (by omega)]
  rw [this]
theorem read_norm : Ieee.double.read 4503599627370496 = .number false 4503599627370496 (-1074) := by decide
theorem order_norm {x : Nat} (h0 : 4503599627370496 ≤ x) (h : x < 9218868437227405312) : (Ieee.double.order x 4503599627370496 == some .lt) = false := by
  obtain ⟨mag, place, e, h1, _, h2, h3⟩ := read_pos h
  unfold Ieee.Format.order
  rw [e, read_norm]
  simp only [Ieee.Datum.order]
  have : compare (Ieee.signed false mag (place - min place (-1074)).toNat) (Ieee.signed false 4503599627370496 (-1074 - min place (-1074)).toNat) ≠ .lt := by
    have hmag : 4503599627370496 ≤ mag := by rcases h3 with ⟨a, b, c⟩ | ⟨a, _⟩ <;> omega
    rw [show min place (-1074) = -1074 from by omega, show (-1074 - -1074 : Int).toNat = 0 from by decide]
    unfold Ieee.signed
    simp only [Nat.shiftLeft_eq, Bool.false_eq_true, if_false, Nat.pow_zero]
    have : mag * 1 ≤ mag * 2 ^ (place - -1074).toNat := Nat.mul_le_mul_left _ (Nat.two_pow_pos _)
    show compareOfLessAndEq _ _ ≠ _
    unfold compareOfLessAndEq
    rw [if_neg (by omega)]
    split <;> exact fun h => by cases h
  simpa using this
theorem i64_and2047 (n : Nat) (h : n < 2048) : bits .and .i64 (n : Int) 2047 = (n : Int) := by
  have : ∀ n : Fin 2048, bits .and .i64 (n.val : Int) 2047 = (n.val : Int) := by decide +kernel
  exact this ⟨n, h⟩
theorem floatOfNat (m : Nat) : floatOfInt .f64 (m : Int) = Ieee.double.nearest false m 0 := by
  show Ieee.double.nearest (decide ((m : Int) < 0)) (m : Int).natAbs 0 = _
  rw [decide_eq_false (by omega), Int.natAbs_natCast]
theorem and_sign_nat {b : Nat} (h : b < 9223372036854775808) : b &&& 9223372036854775808 = 0 := by
  have h1 := and_sign b (by omega)
  have h2 := bits_and_u64_nat b 9223372036854775808 (by omega) (by decide)
  have h3 : ((b &&& 9223372036854775808 : Nat) : Int) = ((b / 9223372036854775808 * 9223372036854775808 : Nat) : Int) := h2.symm.trans h1
  omega
theorem andNot_exp {b : Nat} (h : b < 9223372036854775808) : bits BinOp.andNot IntKind.u64 (b : Int) 9218868437227405312 = ((b % 4503599627370496 : Nat) : Int) := by
  have e := u64_andNot_nat b 9218868437227405312 (by omega) (by decide)
  have e2 : b &&& (18446744073709551615 - 9218868437227405312) = b % 4503599627370496 := by
    rw [show 18446744073709551615 - 9218868437227405312 = 9223372036854775808 ||| (2 ^ 52 - 1) from by decide, Nat.and_or_distrib_left, and_sign_nat h, Nat.zero_or, Nat.and_two_pow_sub_one_eq_mod]
  rw [e2] at e
  exact e
/-- math.normalize of what is no subnormal number -/
theorem normalize_any {R : Ending → World → Prop} (b : Nat) (h0 : 4503599627370496 ≤ b) (h : b < 9218868437227405312) (w : World) (K : R (.returned (.tuple #[.float .f64 b, .int .i64 0])) w) :
    Calls Tryz.prog 306 #[.float .f64 b] w R := by
  have ho : (FloatKind.f64.format.order b 4503599627370496 == some .lt) = false := order_norm h0 h
  have hab : ∀ W, Calls Tryz.prog 131 #[.float .f64 b] W fun e w' => e = .returned (.float .f64 b) ∧ w' = W := fun W => absF b (by omega) W (by rw [Nat.mod_eq_of_lt (by omega)]; exact ⟨rfl, rfl⟩)
  clear h0 h
  go_enter Tryz.func306, Tryz.ntmps306
  go_wp2_with (go_at_call 131; refine (hab _).mono ?_; rintro e w2 ⟨rfl, rfl⟩)
  exact K

set_option maxHeartbeats 1000000 in
set_option maxRecDepth 20000 in
theorem ldexp_in {R : Ending → World → Prop} (fb : Nat) (e : Int) (h1 : 4607182418800017408 ≤ fb) (h2 : fb ≤ 4899916394579099648) (he : -1074 ≤ e) (he2 : e ≤ 1099511627776) (w : World)
    (K : R (.returned (.float .f64 (let E := e + ((fb / 4503599627370496 : Nat) : Int) - 1023
      if 1023 < E then 9218868437227405312
      else if E < -1022 then (Ieee.double.mul 4368491638549381120 (fb % 4503599627370496 + (E + 1076).toNat * 4503599627370496)).getD 0
      else fb % 4503599627370496 + (E + 1023).toNat * 4503599627370496))) w) :
    Calls Tryz.prog 274 #[.float .f64 fb, .int .i64 e] w R := by
  have o1 : FloatKind.f64.format.order fb 0 = some .gt := order_zero (by omega) (by omega)
  have h99 : ∀ W, Calls Tryz.prog 99 #[.float .f64 fb, .int .i64 0] W fun e w' => e = .returned (.bool false) ∧ w' = W := fun W => isInf_any fb (by omega) W (by rw [decide_eq_false (by omega)]; exact ⟨rfl, rfl⟩)
  have h305 : ∀ W, Calls Tryz.prog 305 #[.float .f64 fb] W fun e w' => e = .returned (.bool false) ∧ w' = W := fun W => isNaN_any fb W (by unfold isNaNb; rw [decide_eq_false (by omega)]; exact ⟨rfl, rfl⟩)
  have h306 : ∀ W, Calls Tryz.prog 306 #[.float .f64 fb] W fun e w' => e = .returned (.tuple #[.float .f64 fb, .int .i64 0]) ∧ w' = W := fun W => normalize_any fb (by omega) (by omega) W ⟨rfl, rfl⟩
  have h215 : ∀ W, Calls Tryz.prog 215 #[.int .i64 1] W fun e w' => e = .returned (.float .f64 9218868437227405312) ∧ w' = W := fun W => infP W ⟨rfl, rfl⟩
  have r98 := run98 fb
  obtain ⟨q, hq⟩ : ∃ q, q = fb / 4503599627370496 := ⟨_, rfl⟩
  obtain ⟨fr, hfr⟩ : ∃ fr, fr = fb % 4503599627370496 := ⟨_, rfl⟩
  obtain ⟨E, hE⟩ : ∃ E, E = e + (q : Int) - 1023 := ⟨_, rfl⟩
  have hq2 : q < 2047 := by omega
  have v1 : (fb : Int) / 4503599627370496 = (q : Int) := by omega
  have v2 := i64_and2047 q (by omega)
  have v3 := andNot_exp (b := fb) (by omega)
  have hE1 : -1074 ≤ E := by omega
  have hE2 : E ≤ 1099511628800 := by omega
  simp only at K
  rw [← hq, ← hfr] at K
  rw [← hfr] at v3
  rw [← hE] at K
  have v4 : e + ((q : Int) - 1023) = E := by omega
  have hfr2 : fr < 4503599627370496 := by omega
  clear hq hfr hE h1 h2
  by_cases c1 : 1023 < E
  · rw [if_pos c1] at K
    go_enter Tryz.func274, Tryz.ntmps274
    go_wp2_with (first | (go_at_call 99; refine (h99 _).mono ?_; rintro e w2 ⟨rfl, rfl⟩) | (go_at_call 305; refine (h305 _).mono ?_; rintro e w2 ⟨rfl, rfl⟩) | (go_at_call 306; refine (h306 _).mono ?_; rintro e w2 ⟨rfl, rfl⟩) | (go_at_call 215; refine (h215 _).mono ?_; rintro e w2 ⟨rfl, rfl⟩))
    exact K
  · rw [if_neg c1] at K
    have c1' : E ≤ 1023 := by omega
    have key : ∀ n : Nat, n < 2048 → bits BinOp.or IntKind.u64 ((fr : Nat) : Int) ((n : Int) * 4503599627370496) = ((fr + n * 4503599627370496 : Nat) : Int) := fun n hn => by
      rw [show ((n : Int) * 4503599627370496) = ((n * 4503599627370496 : Nat) : Int) from by omega, bits_or_u64_nat _ _ (by omega) (by omega)]
      have := Nat.two_pow_add_eq_or_of_lt (i := 52) (b := fr) (by omega) n
      rw [Nat.or_comm, Nat.mul_comm n, show (4503599627370496 : Nat) = 2 ^ 52 from by decide, ← this]
      omega
    by_cases c2 : E < -1022
    · rw [if_pos c2] at K
      obtain ⟨n, hn⟩ : ∃ n : Nat, n = (E + 1076).toNat := ⟨_, rfl⟩
      have hn1 : E + 53 + 1023 = (n : Int) := by omega
      have hn2 : n < 2048 := by omega
      have hn3 : 2 ≤ n ∧ n < 54 := by omega
      have hk := key n hn2
      rw [← hn] at K
      obtain ⟨r, hr, _, _⟩ := mul_small (y := fr + n * 4503599627370496) (by omega) (by omega)
      rw [hr] at K
      obtain ⟨y, hy⟩ : ∃ y, y = fr + n * 4503599627370496 := ⟨_, rfl⟩
      rw [← hy] at hr hk
      have r92 := run92 y
      have hm := fun W => run_float_arith (P := Tryz.prog) W .mul 49 .f64 4368491638549381120 y r hr
      clear hn hy hr key hn3
      go_enter Tryz.func274, Tryz.ntmps274
      go_wp2_with (first | (go_at_call 99; refine (h99 _).mono ?_; rintro e w2 ⟨rfl, rfl⟩) | (go_at_call 305; refine (h305 _).mono ?_; rintro e w2 ⟨rfl, rfl⟩) | (go_at_call 306; refine (h306 _).mono ?_; rintro e w2 ⟨rfl, rfl⟩) | (go_at_call 215; refine (h215 _).mono ?_; rintro e w2 ⟨rfl, rfl⟩))

      exact K
    · rw [if_neg c2] at K
      have c2' : -1022 ≤ E := by omega
      obtain ⟨n, hn⟩ : ∃ n : Nat, n = (E + 1023).toNat := ⟨_, rfl⟩
      have hn1 : E + 1023 = (n : Int) := by omega
      have hn2 : n < 2048 := by omega
      have hn3 : 1 ≤ n ∧ n < 2047 := by omega
      have hk := key n hn2
      rw [← hn] at K
      obtain ⟨y, hy⟩ : ∃ y, y = fr + n * 4503599627370496 := ⟨_, rfl⟩
      have hr := mul_one_word (y := y) (by omega) (by omega)
      rw [← hy] at hk K
      have r92 := run92 y
      have hm := fun W => run_float_arith (P := Tryz.prog) W .mul 49 .f64 4607182418800017408 y y hr
      clear hn hy hr key hn3
      go_enter Tryz.func274, Tryz.ntmps274
      go_wp2_with (first | (go_at_call 99; refine (h99 _).mono ?_; rintro e w2 ⟨rfl, rfl⟩) | (go_at_call 305; refine (h305 _).mono ?_; rintro e w2 ⟨rfl, rfl⟩) | (go_at_call 306; refine (h306 _).mono ?_; rintro e w2 ⟨rfl, rfl⟩) | (go_at_call 215; refine (h215 _).mono ?_; rintro e w2 ⟨rfl, rfl⟩))

      exact K

/-- math.Ldexp of a whole number -/
theorem ldexp_any {R : Ending → World → Prop} (m : Nat) (e : Int) (h0 : m ≠ 0) (hm : m < 18446744073709551616) (he : -1074 ≤ e) (he2 : e ≤ 1099511627776) (w : World) (K : R (.returned (.float .f64 (ldx m e))) w) :
    Calls Tryz.prog 214 #[.float .f64 (floatOfInt .f64 (m : Int)), .int .i64 e] w R := by
  rw [floatOfNat]
  obtain ⟨h1, h2⟩ := nearest_int m h0 hm
  have h274 : ∀ W, Calls Tryz.prog 274 #[.float .f64 (Ieee.double.nearest false m 0), .int .i64 e] W fun en w' => en = .returned (.float .f64 (ldx m e)) ∧ w' = W := fun W => ldexp_in _ e h1 h2 he he2 W ⟨rfl, rfl⟩
  generalize Ieee.double.nearest false m 0 = fb at *
  clear h1 h2
  go_enter Tryz.func214, Tryz.ntmps214
  go_wp2_with (go_at_call 274; refine (h274 _).mono ?_; rintro e w2 ⟨rfl, rfl⟩)
  exact K
theorem ldexp_in0 {R : Ending → World → Prop} (e : Int) (w : World) (K : R (.returned (.float .f64 0)) w) :
    Calls Tryz.prog 274 #[.float .f64 0, .int .i64 e] w R := by
  have ho : FloatKind.f64.format.order 0 0 = some .eq := by decide
  go_enter Tryz.func274, Tryz.ntmps274
  go_wp2
  exact K
theorem ldexp_zero {R : Ending → World → Prop} (e : Int) (w : World) (K : R (.returned (.float .f64 0)) w) :
    Calls Tryz.prog 214 #[.float .f64 0, .int .i64 e] w R := by
  have h274 : ∀ W, Calls Tryz.prog 274 #[.float .f64 0, .int .i64 e] W fun en w' => en = .returned (.float .f64 0) ∧ w' = W := fun W => ldexp_in0 e W ⟨rfl, rfl⟩
  go_enter Tryz.func214, Tryz.ntmps214
  go_wp2_with (go_at_call 274; refine (h274 _).mono ?_; rintro e w2 ⟨rfl, rfl⟩)
  exact K
end Go.Proofs.YtjngofngjbjpbaaGreatDoor
end
