/- abacusref09: special, Value, divided, Mean. -/
import Derived.Test.YtjngofngjbjpbaaGreatDoorJa23
import Derived.Test.YtjngofngjbjpbaaGreatDoorJa15

section
set_option linter.unusedSimpArgs false
set_option linter.unusedVariables false
namespace Go.Proofs.YtjngofngjbjpbaaGreatDoor
open Go.RowKit

/-- what hangs not on the number, as the book has it -/
def specR (s : SumS) : Nat × Bool :=
  if s.nan || (s.plus && s.minus) then (9221120237041090561, true)
  else if s.plus then (9218868437227405312, true)
  else if s.minus then (18442240474082181120, true)
  else if decide (0 < s.count) && !s.other then (9223372036854775808, true)
  else (0, false)
theorem nearF_zero (d : Nat) : nearF 0 d = 0 := by
  unfold nearF shOf
  have : rnd (0 : Int).natAbs (d * 2 ^ (bl ((0 : Int).natAbs / d) - 53)) = 0 := by
    simp only [Int.natAbs_zero, Nat.zero_div]
    unfold rnd
    simp
  simp only [this, if_true]
theorem valueF_is (s : SumS) : valueF s = if (specR s).2 then (specR s).1 else nearF s.z 1 := by
  unfold valueF specF specR
  split
  · simp
  · split
    · simp
    · split
      · simp
      · split
        · simp
        · by_cases h : s.z = 0
          · simp [h, nearF_zero]
          · simp [h]
theorem meanF_is (s : SumS) : meanF s = if s.count = 0 then 9221120237041090561 else if (specR s).2 then (specR s).1 else nearF s.z s.count := by
  unfold meanF specF specR
  split
  · rfl
  · split
    · simp
    · split
      · simp
      · split
        · simp
        · split
          · simp
          · by_cases h : s.z = 0
            · simp [h, nearF_zero]
            · simp [h]

set_option maxHeartbeats 4000000 in
theorem specialR_any {R : Ending → World → Prop} (A : Option Addr) (n c : Nat) (s : SumS) (w : World)
    (K : ∀ w', Ext w w' → R (.returned (.tuple #[.float .f64 (specR s).1, .bool (specR s).2])) w') :
    Calls Tryz.prog 135 #[refV A n c s] w R := by
  have h138 : ∀ W, Calls Tryz.prog 138 #[] W fun e w' => e = .returned (.float .f64 9221120237041090561) ∧ w' = W := fun W => nan_any W ⟨rfl, rfl⟩
  have h215 : ∀ W, Calls Tryz.prog 215 #[.int .i64 1] W fun e w' => e = .returned (.float .f64 9218868437227405312) ∧ w' = W := fun W => infP W ⟨rfl, rfl⟩
  have h215m : ∀ W, Calls Tryz.prog 215 #[.int .i64 (-1)] W fun e w' => e = .returned (.float .f64 18442240474082181120) ∧ w' = W := fun W => infM W ⟨rfl, rfl⟩
  have h216 : ∀ W, Calls Tryz.prog 216 #[.float .f64 0, .float .f64 13830554455654793216] W fun e w' => e = .returned (.float .f64 9223372036854775808) ∧ w' = W := fun W => copysign_any 13830554455654793216 (by decide) W ⟨rfl, rfl⟩
  obtain ⟨z, pl, mi, na, ot, cnt⟩ := s
  unfold specR at K
  simp only [refV, refCells] at *
  by_cases hc : 0 < cnt
  all_goals
    have hc' : decide (0 < (cnt : Int)) = decide (0 < cnt) := by congr 1; apply propext; omega
    simp only [hc, decide_true, decide_false] at K hc'
    cases na <;> cases pl <;> cases mi <;> cases ot
  all_goals
    simp only [Bool.false_or, Bool.true_or, Bool.false_and, Bool.true_and, Bool.and_false, Bool.and_true, Bool.not_true, Bool.not_false, if_true, if_false, Bool.false_eq_true] at K
    go_enter Tryz.func135, Tryz.ntmps135
    go_wp2_with (first | (go_at_call 138; with_reducible refine (h138 _).mono ?_; rintro e w2 ⟨rfl, rfl⟩) | (go_at_call 215; with_reducible refine (h215 _).mono ?_; rintro e w2 ⟨rfl, rfl⟩) | (go_at_call 215; with_reducible refine (h215m _).mono ?_; rintro e w2 ⟨rfl, rfl⟩) | (go_at_call 216; with_reducible refine (h216 _).mono ?_; rintro e w2 ⟨rfl, rfl⟩))
    first | exact (Ext.rfl' _).alloc' _ | assumption | exact K _ ((Ext.rfl' _).alloc' _)

set_option maxHeartbeats 1000000 in
theorem valueR_any {R : Ending → World → Prop} (A : Option Addr) (n c : Nat) (s : SumS) (w : World) (hn : n ≤ 1073741824) (h : BitsZ w A n c s.z)
    (K : ∀ w', Ext w w' → R (.returned (.float .f64 (valueF s))) w') :
    Calls Tryz.prog 64 #[refV A n c s] w R := by
  rw [valueF_is] at K
  have HSP := fun W (R' : Ending → World → Prop) K' => specialR_any (R := R') A n c s W K'
  have hround := roundF_is s.z 1 (by decide)
  rw [Nat.div_one, Nat.mod_one] at hround
  have hr0 : restOf 0 1 = 0 := rfl
  rw [hr0] at hround
  have HR := fun W (hW : Ext w W) (R' : Ending → World → Prop) K' => rounded_any (R := R') (decide (s.z < 0)) A n c s.z.natAbs 0 W hn (h.ext hW) (by decide) K'
  rw [hround] at HR
  generalize nearF s.z 1 = X at HR K
  clear hround
  by_cases h0 : (specR s).2 = true
  · rw [h0, if_pos rfl] at K
    rw [h0] at HSP
    generalize (specR s).1 = Y at HSP K
    clear HR h
    go_enter Tryz.func64, Tryz.ntmps64
    go_wp2_with fail
    refine HSP _ _ ?_
    intro w1 hx1
    have fin := K w1 (((Ext.rfl' w).alloc' _).trans' hx1)
    clear K HSP
    go_wp2
    exact fin
  · have h0 : (specR s).2 = false := by simpa using h0
    rw [h0, if_neg (by decide)] at K
    rw [h0] at HSP
    generalize (specR s).1 = Y at HSP
    go_enter Tryz.func64, Tryz.ntmps64
    go_wp2_with fail
    refine HSP _ _ ?_
    intro w1 hx1
    have b1 := (hx1.block w.heap.size (by simp)).trans (blk_1_1 w _)
    have q0 : w1.cell? ⟨w.heap.size, 0, none⟩ = some (.bool (decide (s.z < 0))) := cell_of_blk b1 0
    have q1 : w1.cell? ⟨w.heap.size, 1, none⟩ = some (.slice A n c) := cell_of_blk b1 1
    have hxw := ((Ext.rfl' w).alloc' _).trans' hx1
    clear HSP
    go_wp2_with fail
    refine HR w1 hxw _ ?_
    intro w2 hx2
    have fin := K w2 (hxw.trans' hx2)
    clear K HR
    go_wp2
    exact fin

set_option maxHeartbeats 2000000 in
theorem divided_any {R : Ending → World → Prop} (A : Option Addr) (n c m d : Nat) (w : World) (hn : n ≤ 1073741824) (h : IsBits w A n c m) (hd : 0 < d) (hd2 : d < 18446744073709551616)
    (K : ∀ A' n' c' w', IsBits w' A' n' c' (m / d) → n' ≤ n → Ext w w' → R (.returned (.tuple #[.slice A' n' c', v64 (m % d)])) w') :
    Calls Tryz.prog 139 #[.slice A n c, v64 d] w R := by
  have hmk := fun W => run_make_row' (P := Tryz.prog) 28 5 (.int .u8 0) 1 Tryz.underlying28 Tryz.info5 rfl .i64 .i64 n (by omega) (by omega) W
  have HL : Hid (n = bl m) := h.len
  have hrow := h.row
  go_enter Tryz.func139, Tryz.ntmps139
  go_wp2
  generalize hw1 : w.alloc (Obj.cells (madeCells #[Value.int IntKind.u8 0] n) 5) = w1
  have hx1 : Ext w w1 := by rw [← hw1]; exact (Below.refl _ _).alloc (Nat.le_refl _) _
  have hrow1 : w1.rowIs w.heap.size 5 n (fun _ => v8 0) := by rw [← hw1]; exact World.rowIs_made _ _ _ _
  clear hw1 hmk
  obtain ⟨b, hb0⟩ : ∃ b, b = w.heap.size := ⟨_, rfl⟩
  rw [← hb0] at hrow1 ⊢
  have hbge : w.heap.size ≤ b := by omega
  clear hb0 h
  go_loopw [7, 8] (fun rv iv wr => ∃ k, k ≤ n ∧ iv = .int .i64 ((k : Int) - 1) ∧ rv = v64 (m / 2 ^ k % d) ∧ wr.rowIs b 5 n (fun j => v8 (if k ≤ j then bt (m / d) j else 0)) ∧ Ext w wr) (fun _ iv _ => (intOf iv + 1).toNat)
  case atStart => exact ⟨n, Nat.le_refl _, rfl, by rw [Nat.div_eq_of_lt (bl_le_iff.1 (by rw [HL.out]; exact Nat.le_refl _)), Nat.zero_mod]; rfl, hrow1.congr (fun j hj => by rw [if_neg (by omega)]), hx1⟩
  case round =>
    obtain ⟨k, hk, rfl, rfl, hrk, hxk⟩ := hrel
    by_cases h0 : k = 0
    · subst h0
      have hrow2 : RowAt wr 5 (some ⟨b, 0, none⟩) n (fun i => v8 (bt (m / d) i)) := RowAt.of_rowIs (hrk.congr (fun j hj => by rw [if_pos (Nat.zero_le _)])) (Nat.le_refl _)
      have htr := fun (R' : Ending → World → Prop) K' => trimmed_any (R := R') (some ⟨b, 0, none⟩) n n (bt (m / d)) wr (by omega) (Nat.le_refl _) hrow2 (fun j _ => bt_lt _ j) K'
      have hbl : bl (m / d) ≤ n := by rw [HL.out]; exact bl_mono (Nat.div_le_self _ _)
      rw [valB_bt_ge hbl] at htr
      have e0 : m / 2 ^ 0 % d = m % d := by rw [Nat.pow_zero, Nat.div_one]
      rw [e0]
      clear hrow2 hrow hrk e0 hbl
      go_wp2_with fail
      refine htr _ ?_
      intro n' hm' hn'
      have fin := K _ n' n wr hm' hn' hxk
      clear K htr
      go_wp2
      exact fin
    · obtain ⟨g, rfl, hg, hcell⟩ := hrow.cell (by omega)
      have hck : wr.cell? ⟨g, k - 1, none⟩ = some (v8 (bt m (k - 1))) := (hxk.cell (p := ⟨g, k - 1, none⟩) hg).trans (hcell (k - 1) (by omega))
      have hcb := hrk.cell (i := k - 1) (by omega)
      have hfz := hrk.frozen (k - 1)
      rw [if_neg (by omega)] at hcb
      obtain ⟨p, hp⟩ : ∃ p, p = bt m (k - 1) := ⟨_, rfl⟩
      obtain ⟨r, hr⟩ : ∃ r, r = m / 2 ^ k % d := ⟨_, rfl⟩
      have hp2 : p < 2 := by rw [hp]; exact bt_lt _ _
      have hrd : r < d := by rw [hr]; exact Nat.mod_lt _ hd
      have hnx : m / 2 ^ (k - 1) % d = (2 * r + p) % d := by
        have := div_top m (k - 1)
        rw [show k - 1 + 1 = k from by omega, ← hp] at this
        rw [this, hr]
        rw [Nat.add_mod, Nat.mul_mod, Nat.add_mod (2 * (m / 2 ^ k % d)), Nat.mul_mod 2 (m / 2 ^ k % d), Nat.mod_mod]
      have hqb : bt (m / d) (k - 1) = (2 * r + p) / d := by
        unfold bt
        rw [Nat.div_div_eq_div_mul, Nat.mul_comm d, ← Nat.div_div_eq_div_mul]
        have := div_top m (k - 1)
        rw [show k - 1 + 1 = k from by omega, ← hp] at this
        rw [this]
        have e := Nat.div_add_mod (m / 2 ^ k) d
        rw [← hr] at e
        have e2 : 2 * (m / 2 ^ k) + p = (2 * r + p) + d * (2 * (m / 2 ^ k / d)) := by
          rw [← Nat.mul_assoc, Nat.mul_comm d 2, Nat.mul_assoc]; omega
        rw [e2, Nat.add_mul_div_left _ _ hd, Nat.add_mul_mod_self_left]
        have : (2 * r + p) / d < 2 := by rw [Nat.div_lt_iff_lt_mul hd]; omega
        exact Nat.mod_eq_of_lt this
      rw [← hr]
      rw [← hp] at hck
      have HNX : Hid (m / 2 ^ (k - 1) % d = (2 * r + p) % d) := hnx
      have HQB : Hid (bt (m / d) (k - 1) = (2 * r + p) / d) := hqb
      clear hcell hnx hqb hp hr K
      have hk1 : ((k : Int) - 1) = ((k - 1 : Nat) : Int) := by omega
      obtain ⟨i, hi⟩ : ∃ i, i = k - 1 := ⟨_, rfl⟩
      rw [← hi] at hk1 hck hcb hfz HNX HQB
      rw [hk1]
      have hin : i < n := by omega
      have HI : Hid (i = k - 1) := hi
      clear hi hk1
      have hnewrow0 : (2 * r + p) / d = 0 → wr.rowIs b 5 n (fun j => v8 (if i ≤ j then bt (m / d) j else 0)) := fun e => hrk.congr (fun j hj => by
        by_cases c1 : k ≤ j
        · rw [if_pos c1, if_pos (by have := HI.out; omega)]
        · by_cases c2 : i ≤ j
          · have : j = i := by have := HI.out; omega
            subst this
            rw [if_neg c1, if_pos c2, HQB.out, e]
          · rw [if_neg c1, if_neg c2])
      have hnewrow1 : (2 * r + p) / d = 1 → (wr.setCell ⟨b, i, none⟩ (v8 1)).rowIs b 5 n (fun j => v8 (if i ≤ j then bt (m / d) j else 0)) := fun e => (hrk.set i (v8 1)).congr (fun j hj => by
        by_cases c0 : j = i
        · subst c0
          simp only [if_true]
          rw [if_pos (Nat.le_refl _), HQB.out, e]
        · rw [if_neg c0]
          by_cases c1 : k ≤ j
          · rw [if_pos c1, if_pos (by have := HI.out; omega)]
          · rw [if_neg c1, if_neg (by have := HI.out; omega)])
      have wp8 : IntKind.u64.wrap (p : Int) = (p : Int) := by rw [IntKind.wrap_u64]; omega
      by_cases hov : 9223372036854775808 ≤ r
      · have w1 : IntKind.u64.wrap (2 * (r : Int)) = ((2 * r - 18446744073709551616 : Nat) : Int) := by rw [IntKind.wrap_u64]; omega
        obtain ⟨s, hs⟩ : ∃ s, s = 2 * r - 18446744073709551616 := ⟨_, rfl⟩
        rw [← hs] at w1
        have w2 : IntKind.u64.wrap ((s : Int) + p) = ((s + p : Nat) : Int) := by rw [IntKind.wrap_u64]; omega
        obtain ⟨t, ht⟩ : ∃ t, t = s + p := ⟨_, rfl⟩
        rw [← ht] at w2
        obtain ⟨v, hv⟩ : ∃ v, v = 2 * r + p - d := ⟨_, rfl⟩
        have w3 : IntKind.u64.wrap ((t : Int) - d) = (v : Int) := by rw [IntKind.wrap_u64]; omega
        have e1 : (2 * r + p) / d = 1 := by
          have a1 : d ≤ 2 * r + p := by omega
          have a2 : (2 * r + p) / d < 2 := by rw [Nat.div_lt_iff_lt_mul hd]; omega
          have a3 : 0 < (2 * r + p) / d := Nat.div_pos a1 hd
          omega
        have e2 : Hid (v = (2 * r + p) % d) := by
          have := Nat.div_add_mod (2 * r + p) d
          rw [e1] at this
          show v = _
          omega
        have hrw := hnewrow1 e1
        have hb1 : decide ((r : Int) ≥ 9223372036854775808) = true := by simp; omega
        have hxn := hxk.setCell (p := ⟨b, i, none⟩) hbge (v8 1)
        clear hs ht hv e1 hnewrow0 hnewrow1 hrk hxk hrow
        go_wp2
        go_roundw
        case rel => exact ⟨i, by omega, by go_num, by rw [HNX.out, ← e2.out], hrw, hxn⟩
        case measure => have := HI.out; first | (simp [intOf]; done) | (simp [intOf]; omega)
      · have w1 : IntKind.u64.wrap (2 * (r : Int)) = 2 * (r : Int) := by rw [IntKind.wrap_u64]; omega
        have w2 : IntKind.u64.wrap (2 * (r : Int) + p) = ((2 * r + p : Nat) : Int) := by rw [IntKind.wrap_u64]; omega
        obtain ⟨t, ht⟩ : ∃ t, t = 2 * r + p := ⟨_, rfl⟩
        rw [← ht] at w2 hnewrow0 hnewrow1 HNX
        have hb1 : decide ((r : Int) ≥ 9223372036854775808) = false := by simp; omega
        have htl : t < 18446744073709551616 := by omega
        by_cases hge : d ≤ t
        · obtain ⟨v, hv⟩ : ∃ v, v = t - d := ⟨_, rfl⟩
          have w3 : IntKind.u64.wrap ((t : Int) - d) = (v : Int) := by rw [IntKind.wrap_u64]; omega
          have e1 : t / d = 1 := by
            have a2 : t / d < 2 := by rw [Nat.div_lt_iff_lt_mul hd]; omega
            have a3 : 0 < t / d := Nat.div_pos hge hd
            omega
          have e2 : Hid (v = t % d) := by
            have := Nat.div_add_mod t d
            rw [e1] at this
            show v = _
            omega
          have hrw := hnewrow1 e1
          have hb2 : decide ((t : Int) ≥ (d : Int)) = true := by simp; omega
          have hxn := hxk.setCell (p := ⟨b, i, none⟩) hbge (v8 1)
          clear hv ht e1 hnewrow0 hnewrow1 hrk hxk hrow
          go_wp2
          go_roundw
          case rel => exact ⟨i, by omega, by go_num, by rw [HNX.out, ← e2.out], hrw, hxn⟩
          case measure => have := HI.out; first | (simp [intOf]; done) | (simp [intOf]; omega)
        · have e1 : t / d = 0 := Nat.div_eq_of_lt (by omega)
          have e2 : Hid (t = t % d) := (Nat.mod_eq_of_lt (by omega)).symm
          have hrw := hnewrow0 e1
          have hb2 : decide ((t : Int) ≥ (d : Int)) = false := by simp; omega
          clear ht e1 hnewrow0 hnewrow1 hrk hrow
          go_wp2
          go_roundw
          case rel => exact ⟨i, by omega, by go_num, by rw [HNX.out, ← e2.out], hrw, hxk⟩
          case measure => have := HI.out; first | (simp [intOf]; done) | (simp [intOf]; omega)

set_option maxHeartbeats 4000000 in
theorem meanR_any {R : Ending → World → Prop} (A : Option Addr) (n c : Nat) (s : SumS) (w : World) (hn : n ≤ 1073741824) (h : BitsZ w A n c s.z) (hs : s.count < 18446744073709551616)
    (K : ∀ w', Ext w w' → R (.returned (.float .f64 (meanF s))) w') :
    Calls Tryz.prog 66 #[refV A n c s] w R := by
  rw [meanF_is] at K
  have h138 : ∀ W, Calls Tryz.prog 138 #[] W fun e w' => e = .returned (.float .f64 9221120237041090561) ∧ w' = W := fun W => nan_any W ⟨rfl, rfl⟩
  obtain ⟨d, hd⟩ : ∃ d, d = s.count := ⟨_, rfl⟩
  have HSP := fun W (R' : Ending → World → Prop) K' => specialR_any (R := R') A n c s W K'
  by_cases hc0 : s.count = 0
  · rw [if_pos hc0] at K
    have hdz : d = 0 := by omega
    clear HSP
    have fin := K _ ((Ext.rfl' w).alloc' (.cells (refCells A n c s) 31))
    simp only [refV, refCells, hc0] at fin ⊢
    clear K hc0 hd hdz
    go_enter Tryz.func66, Tryz.ntmps66
    go_wp2_with (go_at_call 138; with_reducible refine (h138 _).mono ?_; rintro e w2 ⟨rfl, rfl⟩)
    exact fin
  · rw [if_neg hc0] at K
    have hdpos : 0 < d := by omega
    have hround := roundF_is s.z d hdpos
    have HD := fun W (hW : Ext w W) (R' : Ending → World → Prop) K' => divided_any (R := R') A n c s.z.natAbs d W hn (h.ext hW) hdpos (by omega) K'
    rw [← hd] at K
    obtain ⟨q, hq⟩ : ∃ q, q = s.z.natAbs / d := ⟨_, rfl⟩
    obtain ⟨r, hr⟩ : ∃ r, r = s.z.natAbs % d := ⟨_, rfl⟩
    rw [← hq, ← hr] at hround HD
    have hrd : r < d := by rw [hr]; exact Nat.mod_lt _ hdpos
    obtain ⟨ng, hng⟩ : ∃ ng, ng = decide (s.z < 0) := ⟨_, rfl⟩
    rw [← hng] at hround
    have hdl : d < 18446744073709551616 := by omega
    simp only [refV, refCells, ← hd, ← hng] at HSP ⊢
    generalize nearF s.z d = X at hround K
    clear hq hr hd hc0 hng
    by_cases h0 : (specR s).2 = true
    · rw [h0, if_pos rfl] at K
      rw [h0] at HSP
      generalize (specR s).1 = Y at HSP K
      have hne : ((d : Int) == 0) = false := by simp; omega
      clear HD h hround
      go_enter Tryz.func66, Tryz.ntmps66
      go_wp2_with fail
      refine HSP _ _ ?_
      intro w1 hx1
      have fin := K w1 (((Ext.rfl' w).alloc' _).trans' hx1)
      clear K HSP
      go_wp2
      exact fin
    · have h0 : (specR s).2 = false := by simpa using h0
      rw [h0, if_neg (by decide)] at K
      rw [h0] at HSP
      generalize (specR s).1 = Y at HSP
      have hne : ((d : Int) == 0) = false := by simp; omega
      clear h
      go_enter Tryz.func66, Tryz.ntmps66
      go_wp2_with fail
      refine HSP _ _ ?_
      intro w1 hx1
      have b1 := (hx1.block w.heap.size (by simp)).trans (blk_1_1 w _)
      have q0 : w1.cell? ⟨w.heap.size, 0, none⟩ = some (.bool ng) := cell_of_blk b1 0
      have q1 : w1.cell? ⟨w.heap.size, 1, none⟩ = some (.slice A n c) := cell_of_blk b1 1
      have q6 : w1.cell? ⟨w.heap.size, 6, none⟩ = some (v64 d) := cell_of_blk b1 6
      have hl1 : w.heap.size < w1.heap.size := (Array.getElem?_eq_some_iff.1 b1).1
      have hxw := ((Ext.rfl' w).alloc' _).trans' hx1
      clear HSP
      go_wp2_with fail
      refine HD w1 hxw _ ?_
      intro A2 n2 c2 w2 hb2 hn2 hx2
      have b2 := (hx2.block _ hl1).trans b1
      have t0 : w2.cell? ⟨w.heap.size, 0, none⟩ = some (.bool ng) := cell_of_blk b2 0
      have t6 : w2.cell? ⟨w.heap.size, 6, none⟩ = some (v64 d) := cell_of_blk b2 6
      have hxw2 := hxw.trans' hx2
      have HR : ∀ rest, restOf r d = rest → ∀ (R' : Ending → World → Prop), (∀ w', Ext w2 w' → R' (.returned (.float .f64 X)) w') → Calls Tryz.prog 136 #[.bool ng, .slice A2 n2 c2, .int .i64 (rest : Int)] w2 R' := fun rest hrest R' K' =>
        rounded_any (R := R') ng A2 n2 c2 q rest w2 (by omega) hb2 (by rw [← hrest]; unfold restOf; split; omega; split; omega; split <;> omega) (by rw [← hrest, hround]; exact K')
      have hsub : IntKind.u64.wrap ((d : Int) - r) = ((d - r : Nat) : Int) := by rw [IntKind.wrap_u64]; omega
      obtain ⟨e, he⟩ : ∃ e, e = d - r := ⟨_, rfl⟩
      rw [← he] at hsub
      clear HD hb2 hx2 hx1 b1 b2 q0 q1 q6 hround
      by_cases k0 : r = 0
      · have H := HR 0 (by unfold restOf; rw [if_pos k0])
        subst k0
        clear HR
        go_wp2_with fail
        refine H _ ?_
        intro w3 hx3
        have fin := K w3 (hxw2.trans' hx3)
        clear K H
        go_wp2
        exact fin
      · have k0' : ((r : Int) == 0) = false := by simp; omega
        by_cases k1 : r < e
        · have H := HR 1 (by unfold restOf; rw [if_neg k0, if_pos (by omega)])
          have k1' : decide ((r : Int) < (e : Int)) = true := by simp; omega
          clear HR he
          go_wp2_with fail
          refine H _ ?_
          intro w3 hx3
          have fin := K w3 (hxw2.trans' hx3)
          clear K H
          go_wp2
          exact fin
        · have k1' : decide ((r : Int) < (e : Int)) = false := by simp; omega
          by_cases k2 : r = e
          · have H := HR 2 (by unfold restOf; rw [if_neg k0, if_neg (by omega), if_pos (by omega)])
            have k2' : ((r : Int) == (e : Int)) = true := by rw [k2]; simp
            clear HR he k2
            go_wp2_with fail
            refine H _ ?_
            intro w3 hx3
            have fin := K w3 (hxw2.trans' hx3)
            clear K H
            go_wp2
            exact fin
          · have H := HR 3 (by unfold restOf; rw [if_neg k0, if_neg (by omega), if_neg (by omega)])
            have k2' : ((r : Int) == (e : Int)) = false := by simp; omega
            clear HR he
            go_wp2_with fail
            refine H _ ?_
            intro w3 hx3
            have fin := K w3 (hxw2.trans' hx3)
            clear K H
            go_wp2
            exact fin
end Go.Proofs.YtjngofngjbjpbaaGreatDoor
end
