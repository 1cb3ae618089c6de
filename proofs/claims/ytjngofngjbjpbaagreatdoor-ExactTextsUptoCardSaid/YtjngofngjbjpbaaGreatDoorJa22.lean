/- abacusref09: signed, Finite; a sum as the book has it. -/
import Derived.Test.YtjngofngjbjpbaaGreatDoorJa21
import Derived.Test.YtjngofngjbjpbaaGreatDoorJa13

section
set_option linter.unusedSimpArgs false
set_option linter.unusedVariables false
namespace Go.Proofs.YtjngofngjbjpbaaGreatDoor
open Go.RowKit

/-- a number with a sign, in bits -/
abbrev BitsZ (w : World) (A : Option Addr) (n c : Nat) (z : Int) : Prop := IsBits w A n c z.natAbs
theorem IsBits.len0 {w : World} {A : Option Addr} {n c m : Nat} (h : IsBits w A n c m) : 0 < n ↔ m ≠ 0 := by
  rw [h.len]
  constructor
  · intro h e; subst e; simp [bl_zero] at h
  · exact fun h => bl_pos h

set_option maxHeartbeats 1000000 in
theorem signed_any {R : Ending → World → Prop} (A B : Option Addr) (na nb ca cb : Nat) (x y : Int) (w : World) (hn : na ≤ 1099511627776) (hn2 : nb ≤ 1099511627776) (ha : BitsZ w A na ca x) (hb : BitsZ w B nb cb y)
    (K : ∀ A' n' c' w', BitsZ w' A' n' c' (x + y) → Ext w w' → R (.returned (.tuple #[.bool (decide (x + y < 0)), .slice A' n' c'])) w') :
    Calls Tryz.prog 73 #[.bool (decide (x < 0)), .slice A na ca, .bool (decide (y < 0)), .slice B nb cb] w R := by
  obtain ⟨a, hxa⟩ : ∃ a, a = x.natAbs := ⟨_, rfl⟩
  obtain ⟨b, hyb⟩ : ∃ b, b = y.natAbs := ⟨_, rfl⟩
  obtain ⟨s, hs⟩ : ∃ s, s = decide (x < 0) := ⟨_, rfl⟩
  obtain ⟨t, ht⟩ : ∃ t, t = decide (y < 0) := ⟨_, rfl⟩
  unfold BitsZ at ha hb
  rw [← hxa] at ha
  rw [← hyb] at hb
  rw [← hs, ← ht]
  have hsx : s = true ↔ x < 0 := by rw [hs]; simp
  have hty : t = true ↔ y < 0 := by rw [ht]; simp
  by_cases hst : s = t
  · subst hst
    have K' : ∀ A' n' c' w', IsBits w' A' n' c' (a + b) → Ext w w' → R (.returned (.tuple #[.bool (s && decide (0 < n')), .slice A' n' c'])) w' := fun A' n' c' w' h hx => by
      have h0 := h.len0
      have e1 : (x + y).natAbs = a + b := by cases s <;> simp at hsx hty <;> omega
      have e2 : decide (x + y < 0) = (s && decide (0 < n')) := by
        cases s with
        | false => simp at hsx hty ⊢; omega
        | true =>
          simp at hsx hty
          have : 0 < n' := h0.2 (by omega)
          simp [this]; omega
      have := K A' n' c' w' (by unfold BitsZ; rw [e1]; exact h) hx
      rw [e2] at this
      exact this
    clear K hsx hty hs ht hxa hyb
    go_enter Tryz.func73, Tryz.ntmps73
    cases s
    all_goals
      go_wp2_with fail
      refine plus_bits A B na nb ca cb a b w hn hn2 ha hb ?_
      intro A' n' c' w' h hx
      have fin := K' A' n' c' w' h hx
      simp only [Bool.false_and, Bool.true_and] at fin
      clear K' h
      go_wp2
      exact fin
  · have hlt : ∀ {R' : Ending → World → Prop}, (∀ w', Ext w w' → R' (.returned (.bool (decide (a < b)))) w') → Calls Tryz.prog 151 #[.slice A na ca, .slice B nb cb] w R' := fun {R'} K' => less_bits A B na nb ca cb a b w hn hn2 ha hb K'
    by_cases hab : a < b
    · have K' : ∀ A' n' c' w', IsBits w' A' n' c' (b - a) → Ext w w' → R (.returned (.tuple #[.bool t, .slice A' n' c'])) w' := fun A' n' c' w' h hx => by
        have e1 : (x + y).natAbs = b - a := by cases s <;> cases t <;> simp at hst hsx hty <;> omega
        have e2 : decide (x + y < 0) = t := by cases s <;> cases t <;> simp at hst hsx hty ⊢ <;> omega
        have := K A' n' c' w' (by unfold BitsZ; rw [e1]; exact h) hx
        rw [e2] at this
        exact this
      rw [decide_eq_true hab] at hlt
      have hba : a ≤ b := by omega
      clear K hsx hty hs ht hxa hyb hab
      go_enter Tryz.func73, Tryz.ntmps73
      cases s <;> cases t <;> simp only [reduceCtorEq, not_true_eq_false, not_false_eq_true] at hst
      all_goals
        go_wp2_with fail
        refine hlt ?_
        intro w1 hx1
        have ha1 := ha.ext hx1
        have hb1 := hb.ext hx1
        go_wp2_with fail
        refine minus_bits B A nb na cb ca b a w1 hn2 hn hb1 ha1 hba ?_
        intro A' n' c' w' h hx
        have fin := K' A' n' c' w' h (hx1.trans' hx)
        clear K' h ha1 hb1
        go_wp2
        exact fin
    · have K' : ∀ A' n' c' w', IsBits w' A' n' c' (a - b) → Ext w w' → R (.returned (.tuple #[.bool (s && decide (0 < n')), .slice A' n' c'])) w' := fun A' n' c' w' h hx => by
        have h0 := h.len0
        have e1 : (x + y).natAbs = a - b := by cases s <;> cases t <;> simp at hst hsx hty <;> omega
        have e2 : decide (x + y < 0) = (s && decide (0 < n')) := by
          cases s <;> cases t <;> simp at hst hsx hty ⊢
          · omega
          · rw [h0]; omega
        have := K A' n' c' w' (by unfold BitsZ; rw [e1]; exact h) hx
        rw [e2] at this
        exact this
      rw [decide_eq_false hab] at hlt
      have hba : b ≤ a := by omega
      clear K hsx hty hs ht hxa hyb hab
      go_enter Tryz.func73, Tryz.ntmps73
      cases s <;> cases t <;> simp only [reduceCtorEq, not_true_eq_false, not_false_eq_true] at hst
      all_goals
        go_wp2_with fail
        refine hlt ?_
        intro w1 hx1
        have ha1 := ha.ext hx1
        have hb1 := hb.ext hx1
        go_wp2_with fail
        refine minus_bits A B na nb ca cb a b w1 hn hn2 ha1 hb1 hba ?_
        intro A' n' c' w' h hx
        have fin := K' A' n' c' w' h (hx1.trans' hx)
        simp only [Bool.false_and, Bool.true_and] at fin
        clear K' h ha1 hb1
        go_wp2
        exact fin

set_option maxHeartbeats 1000000 in
/-- a float's sign and amount -/
theorem finite_bits {R : Ending → World → Prop} (b : Nat) (hb : b < 18446744073709551616) (w : World)
    (K : ∀ A n c w', BitsZ w' A n c (fv b) → n ≤ 4096 → Ext w w' → R (.returned (.tuple #[.bool (decide (fv b < 0)), .slice A n c])) w') :
    Calls Tryz.prog 146 #[.float .f64 b] w R := by
  have r98 := run98 b
  obtain ⟨m, hm⟩ : ∃ m, m = b % 4503599627370496 := ⟨_, rfl⟩
  obtain ⟨q, hq⟩ : ∃ q, q = b / 4503599627370496 := ⟨_, rfl⟩
  obtain ⟨r, hr⟩ : ∃ r, r = q % 2048 := ⟨_, rfl⟩
  have v1 := and_mant b hb
  rw [← hm] at v1
  have v2 : (b : Int) / 4503599627370496 = (q : Int) := by omega
  have v3 := and_expo q (by omega)
  rw [← hr] at v3
  have v4 : (b : Int) / 9223372036854775808 = ((b / 9223372036854775808 : Nat) : Int) := by omega
  obtain ⟨s, hs⟩ : ∃ s, s = b / 9223372036854775808 := ⟨_, rfl⟩
  rw [← hs] at v4
  have hs2 : decide (9223372036854775808 ≤ b) = decide (s = 1) := by congr 1; apply propext; omega
  have hsl : s < 2 := by omega
  have hml : m < 4503599627370496 := by omega
  have hrl : r < 2048 := by omega
  have hfm : fm b = if r = 0 then m else (m + 4503599627370496) * 2 ^ (r - 1) := by unfold fm; rw [← hq, ← hr, ← hm]
  have hql : q < 4096 := by omega
  have hfv : fv b = sg (decide (s = 1)) (if r = 0 then m else (m + 4503599627370496) * 2 ^ (r - 1)) := by unfold fv; rw [hs2, hfm]
  rw [hfv] at K
  clear hm hq hr hs hs2 hfm hfv
  have v5 : IntKind.u64.wrap ((m : Int) + 4503599627370496) = ((m + 4503599627370496 : Nat) : Int) := by rw [IntKind.wrap_u64]; omega
  have hfin : ∃ M ex : Nat, M < 9007199254740992 ∧ ex ≤ 2048 ∧ (if r = 0 then m else (m + 4503599627370496) * 2 ^ (r - 1)) = M * 2 ^ ex ∧
      ((r = 0 ∧ M = m ∧ ex = 0) ∨ (r = ex + 1 ∧ M = m + 4503599627370496)) := by
    by_cases c1 : r = 0
    · exact ⟨m, 0, by omega, by omega, by rw [if_pos c1]; simp, Or.inl ⟨c1, rfl, rfl⟩⟩
    · exact ⟨m + 4503599627370496, r - 1, by omega, by omega, by rw [if_neg c1], Or.inr ⟨by omega, rfl⟩⟩
  obtain ⟨M, ex, hM, hex, he, hcase⟩ := hfin
  rw [he] at K
  have K' : ∀ A n c w', IsBits w' A n c (M * 2 ^ ex) → Ext w w' → R (.returned (.tuple #[.bool (decide (s = 1) && decide (0 < n)), .slice A n c])) w' := fun A n c w' h hx => by
    have h0 := h.len0
    have hbl : n ≤ 4096 := by
      have h2 : bl (M * 2 ^ ex) ≤ 53 + ex := by
        rw [bl_le_iff, Nat.pow_add]
        exact Nat.mul_lt_mul_of_pos_right hM (Nat.two_pow_pos _)
      rw [h.len]; omega
    have e1 : (sg (decide (s = 1)) (M * 2 ^ ex)).natAbs = M * 2 ^ ex := sg_natAbs _ _
    have e2 : decide (sg (decide (s = 1)) (M * 2 ^ ex) < 0) = (decide (s = 1) && decide (0 < n)) := by
      by_cases c : s = 1
      · rw [decide_eq_true c, Bool.true_and]
        congr 1
        apply propext
        rw [h0]
        unfold sg
        simp only [if_true]
        generalize M * 2 ^ ex = V
        omega
      · rw [decide_eq_false c, Bool.false_and]
        unfold sg
        simp only [Bool.false_eq_true, if_false, decide_eq_false_iff_not]
        generalize M * 2 ^ ex = V
        omega
    have := K A n c w' (by unfold BitsZ; rw [e1]; exact h) hbl hx
    rw [e2] at this
    exact this
  clear K he
  have hMl : M < 18446744073709551616 := by omega
  have hMi : IntKind.u64.wrap (M : Int) = (M : Int) := by rw [IntKind.wrap_u64]; omega
  have hof := fun (R' : Ending → World → Prop) K'' => of_bits (R := R') M ex w hMl (by omega) K''
  rcases hcase with ⟨rfl, rfl, rfl⟩ | ⟨rfl, hMe⟩
  · go_enter Tryz.func146, Tryz.ntmps146
    go_wp2_with fail
    refine hof _ ?_
    intro A n c w1 h hx
    have fin := K' A n c w1 h hx
    clear K' hof h
    by_cases c : s = 1
    · subst c
      go_wp2
      simpa using fin
    · have hs0 : s = 0 := by omega
      subst hs0
      go_wp2
      simpa using fin
  · rw [← hMe] at v5
    clear hMe
    go_enter Tryz.func146, Tryz.ntmps146
    go_wp2_with fail
    refine hof _ ?_
    intro A n c w1 h hx
    have fin := K' A n c w1 h hx
    clear K' hof h
    by_cases c : s = 1
    · subst c
      go_wp2
      simpa using fin
    · have hs0 : s = 0 := by omega
      subst hs0
      go_wp2
      simpa using fin
end Go.Proofs.YtjngofngjbjpbaaGreatDoor
end
