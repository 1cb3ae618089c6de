/- abacusref09: bit, trimmed, word, Less. -/
import Derived.Test.YtjngofngjbjpbaaGreatDoorJa3
import Derived.Test.YtjngofngjbjpbaaGreatDoorJa14

section
set_option linter.unusedSimpArgs false
set_option linter.unusedVariables false
namespace Go.Proofs.YtjngofngjbjpbaaGreatDoor
open Go.RowKit

/-- a slice that holds a whole number's bits, the least first -/
structure IsBits (w : World) (A : Option Addr) (n c m : Nat) : Prop where mk ::
  len : n = bl m
  cap : n ≤ c
  row : RowAt w 5 A n (fun i => v8 (bt m i))
theorem IsBits.ext {w w' : World} {A : Option Addr} {n c m : Nat} (h : IsBits w A n c m) (hx : Ext w w') : IsBits w' A n c m := ⟨h.len, h.cap, h.row.ext hx⟩
theorem IsBits.zero (w : World) : IsBits w none 0 0 0 := ⟨rfl, Nat.le_refl _, fun h => absurd h (by omega)⟩

theorem bit_any {R : Ending → World → Prop} (A : Option Addr) (n c m i : Nat) (w : World) (hn : n ≤ 1099511627776) (h : IsBits w A n c m)
    (K : R (.returned (v8 (bt m i))) w) : Calls Tryz.prog 217 #[.slice A n c, .int .i64 (i : Int)] w R := by
  by_cases hi : i < n
  · obtain ⟨g, rfl, hg, hc⟩ := h.row.cell (by omega)
    have hci := hc i hi
    have hd : decide ((i : Int) < (n : Int)) = true := by simp; omega
    clear h hc
    go_enter Tryz.func217, Tryz.ntmps217
    go_wp2
    exact K
  · have hd : decide ((i : Int) < (n : Int)) = false := by simp; omega
    rw [bt_high (by rw [← h.len]; omega)] at K
    clear h
    go_enter Tryz.func217, Tryz.ntmps217
    go_wp2
    exact K

set_option maxHeartbeats 400000 in
theorem trimmed_any {R : Ending → World → Prop} (A : Option Addr) (n c : Nat) (f : Nat → Nat) (w : World) (hn : n ≤ 1099511627777) (hc : n ≤ c) (hr : RowAt w 5 A n (fun i => v8 (f i))) (hf : ∀ i, i < n → f i < 2)
    (K : ∀ m, IsBits w A m c (valB 2 f n) → m ≤ n → R (.returned (.slice A m c)) w) :
    Calls Tryz.prog 125 #[.slice A n c] w R := by
  go_enter Tryz.func125, Tryz.ntmps125
  go_wp2
  go_loop [0] (fun v => ∃ m, m ≤ n ∧ v = .slice A m c ∧ (∀ i, m ≤ i → i < n → f i = 0)) (fun v => match v with | .slice _ n _ => n | _ => 0)
  case atStart => exact ⟨n, Nat.le_refl _, rfl, fun i _ _ => by omega⟩
  case round =>
    obtain ⟨m, hm, rfl, hz⟩ := hrel
    have HZ : Hid (∀ i, m ≤ i → i < n → f i = 0) := hz
    clear hz
    have fin : (0 < m → f (m - 1) ≠ 0) → R (.returned (.slice A m c)) w := fun h0 => by
      refine K m ?_ hm
      rw [valB_tail hm HZ.out]
      have hf2 : ∀ i, i < m → f i < 2 := fun i hi => hf i (by omega)
      exact ⟨(bl_valB hf2 h0).symm, by omega, (hr.le hm).congr fun i hi => by rw [bt_valB hf2 hi]⟩
    clear K
    by_cases h0 : m = 0
    · subst h0
      have fin := fin (fun h => absurd h (by omega))
      clear hr
      go_wp2
    · obtain ⟨g, rfl, hg, hcell⟩ := hr.cell (by omega)
      have hc1 := hcell (m - 1) (by omega)
      have hm0 : decide ((m : Int) > 0) = true := by simp; omega
      clear hr hcell
      by_cases hf0 : f (m - 1) = 0
      · rw [hf0] at hc1
        clear fin
        go_wp2
        go_round
        case rel => exact ⟨m - 1, by omega, rfl, fun i h1 h2 => by
          by_cases e : i = m - 1
          · rw [e]; exact hf0
          · exact HZ.out i (by omega) h2⟩
        case measure => simp; omega
      · have hne : (((f (m - 1) : Nat) : Int) == 0) = false := by simpa using hf0
        have fin := fin (fun _ => hf0)
        clear HZ
        go_wp2

set_option maxHeartbeats 400000 in
theorem word_any {R : Ending → World → Prop} (A : Option Addr) (n c m : Nat) (w : World) (hn : n ≤ 53) (hm : n = bl m)
    (hcell : 0 < n → ∃ g o, A = some ⟨g, o, none⟩ ∧ ∀ i, i < n → w.cell? ⟨g, o + i, none⟩ = some (v8 (bt m i)))
    (K : R (.returned (v64 m)) w) : Calls Tryz.prog 218 #[.slice A n c] w R := by
  have HM : Hid (n = bl m) := hm
  clear hm
  go_enter Tryz.func218, Tryz.ntmps218
  go_wp2
  go_loop [3, 4] (fun v i => ∃ k : Nat, k ≤ n ∧ i = .int .i64 ((k : Int) - 1) ∧ v = v64 (m / 2 ^ k)) (fun _ i => (intOf i + 1).toNat)
  case atStart => exact ⟨n, Nat.le_refl _, rfl, by rw [Nat.div_eq_of_lt (bl_le_iff.1 (by rw [HM.out]; exact Nat.le_refl _))]; rfl⟩
  case round =>
    obtain ⟨k, hk, rfl, rfl⟩ := hrel
    by_cases h0 : k = 0
    · subst h0
      have hone : m / 2 ^ 0 = m := by simp
      rw [hone]
      clear hcell
      go_wp2
      exact K
    · obtain ⟨g, o, rfl, hc⟩ := hcell (by omega)
      have hck := hc (k - 1) (by omega)
      have e1 := div_top m (k - 1)
      rw [show k - 1 + 1 = k from by omega] at e1
      have hb := bt_lt m (k - 1)
      have hlt : m / 2 ^ k < 2 ^ 53 := Nat.lt_of_le_of_lt (Nat.div_le_self _ _) (bl_le_iff.1 (by rw [← HM.out]; exact hn))
      obtain ⟨x, hx⟩ : ∃ x, x = m / 2 ^ k := ⟨_, rfl⟩
      obtain ⟨b, hbb⟩ : ∃ b, b = bt m (k - 1) := ⟨_, rfl⟩
      rw [← hx] at e1 hlt
      rw [← hbb] at e1 hb hck
      have hx' := hx
      rw [← hx']
      have H1 : Hid (m / 2 ^ (k - 1) = 2 * x + b) := e1
      have hlt' : x < 9007199254740992 := hlt
      clear hc hcell K e1 hx hbb hlt hx'
      have w1 : IntKind.u64.wrap (2 * (x : Int)) = 2 * (x : Int) := by rw [IntKind.wrap_u64]; omega
      have w2 : IntKind.u64.wrap (2 * (x : Int) + (b : Int)) = 2 * (x : Int) + (b : Int) := by rw [IntKind.wrap_u64]; omega
      have w3 : IntKind.u64.wrap (b : Int) = (b : Int) := by rw [IntKind.wrap_u64]; omega
      go_wp2
      go_round
      case rel => exact ⟨k - 1, by omega, by go_num, by rw [H1.out]; simp [v64]⟩
      case measure => simp [intOf]; omega

set_option maxHeartbeats 400000 in
theorem less_bits {R : Ending → World → Prop} (A B : Option Addr) (na nb ca cb a b : Nat) (w : World) (hn : na ≤ 1099511627776) (hn2 : nb ≤ 1099511627776) (ha : IsBits w A na ca a) (hb : IsBits w B nb cb b)
    (K : ∀ w', Ext w w' → R (.returned (.bool (decide (a < b)))) w') :
    Calls Tryz.prog 151 #[.slice A na ca, .slice B nb cb] w R := by
  obtain ⟨la, _, ra⟩ := ha
  obtain ⟨lb, _, rb⟩ := hb
  have La : Hid (na = bl a) := la
  have Lb : Hid (nb = bl b) := lb
  by_cases hl : na = nb
  · subst hl
    have hne : (((na : Nat) : Int) != (na : Int)) = false := by simp
    have va : valB 2 (bt a) na = a := valB_bt_ge (by omega)
    have vb : valB 2 (bt b) na = b := valB_bt_ge (by omega)
    have Va : Hid (valB 2 (bt a) na = a) := va
    have Vb : Hid (valB 2 (bt b) na = b) := vb
    clear la lb va vb La Lb
    go_enter Tryz.func151, Tryz.ntmps151
    go_wp2
    go_loopw [5] (fun i wr => ∃ k q, k ≤ na ∧ i = .int .i64 ((k : Nat) - 1 : Int) ∧ (∀ j, k ≤ j → j < na → bt a j = bt b j) ∧ wr = w.drewN q) (fun i _ => (intOf i + 1).toNat)
    case atStart => exact ⟨na, 0, Nat.le_refl _, rfl, fun j _ _ => by omega, rfl⟩
    case round =>
      obtain ⟨k, q, hk, rfl, he, rfl⟩ := hrel
      have HE : Hid (∀ j, k ≤ j → j < na → bt a j = bt b j) := he
      clear he
      by_cases h0 : k = 0
      · subst h0
        clear ra rb
        have e : a = b := by rw [← Va.out, ← Vb.out]; exact valB_congr 2 na (fun i hi => HE.out i (Nat.zero_le _) hi)
        have fin := K _ (below_draws (Ext.rfl' w) q)
        subst e
        rw [decide_eq_false (Nat.lt_irrefl _)] at fin
        clear K
        go_wp2
        exact fin
      · obtain ⟨ga, rfl, hga, hca⟩ := ra.cell (by omega)
        obtain ⟨gb, rfl, hgb, hcb⟩ := rb.cell (by omega)
        have hca1 := hca (k - 1) (by omega)
        have hcb1 := hcb (k - 1) (by omega)
        clear ra rb hca hcb
        by_cases hlt : bt a (k - 1) < bt b (k - 1)
        · have e : a < b := by rw [← Va.out, ← Vb.out]; exact valB_lt_of_top (i := k - 1) (by omega) (fun j _ => bt_lt a j) hlt (fun j h1 h2 => HE.out j (by omega) h2)
          have fin := fun W (hW : Ext w W) => K W hW
          rw [decide_eq_true e] at fin
          clear K
          go_wp2
          go_quiet (fail)
          go_wp2
          go_quiet (fail)
          go_wp2
          repeat (first | exact Ext.rfl' _ | apply below_draws)
        · by_cases hgt : bt b (k - 1) < bt a (k - 1)
          · have e : b < a := by rw [← Va.out, ← Vb.out]; exact valB_lt_of_top (i := k - 1) (by omega) (fun j _ => bt_lt b j) hgt (fun j h1 h2 => (HE.out j (by omega) h2).symm)
            have fin := fun W (hW : Ext w W) => K W hW
            rw [decide_eq_false (by omega)] at fin
            clear K
            go_wp2
            go_quiet (fail)
            go_wp2
            go_quiet (fail)
            go_wp2
            repeat (first | exact Ext.rfl' _ | apply below_draws)
          · have heq : bt a (k - 1) = bt b (k - 1) := by omega
            have HH : Hid (bt a (k - 1) = bt b (k - 1)) := heq
            clear heq K
            go_wp2
            go_quiet (fail)
            go_wp2
            go_roundw
            case rel => exact ⟨k - 1, _, by omega, by congr 1; omega, fun j h1 h2 => by
              by_cases e : j = k - 1
              · rw [e]; exact HH.out
              · exact HE.out j (by omega) h2, rfl⟩
            case measure => simp [intOf]; omega
  · have hne : (((na : Nat) : Int) != (nb : Int)) = true := by simp; omega
    clear ra rb la lb
    by_cases hlt : na < nb
    · have e : a < b := by
        have h1 := bl_mono (a := b) (b := a)
        have := La.out
        have := Lb.out
        omega
      have hd : decide ((na : Int) < (nb : Int)) = true := by simp; omega
      have fin := K _ (Ext.rfl' w)
      rw [decide_eq_true e] at fin
      clear K
      go_enter Tryz.func151, Tryz.ntmps151
      go_wp2
      exact fin
    · have e : ¬ a < b := by
        have h1 := bl_mono (a := a) (b := b)
        have := La.out
        have := Lb.out
        omega
      have hd : decide ((na : Int) < (nb : Int)) = false := by simp; omega
      have fin := K _ (Ext.rfl' w)
      rw [decide_eq_false e] at fin
      clear K
      go_enter Tryz.func151, Tryz.ntmps151
      go_wp2
      exact fin
end Go.Proofs.YtjngofngjbjpbaaGreatDoor
end
