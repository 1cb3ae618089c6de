/- abacusref09: hex, digits. abacusref09: Text. abacusref09: undigits. abacusref09: unhex. -/
import Derived.Test.YtjngofngjbjpbaaGreatDoorJa24
import Derived.Test.YtjngofngjbjpbaaGreatDoorJa16
import Derived.Test.YtjngofngjbjpbaaGreatDoorJa17

section
set_option linter.unusedSimpArgs false
set_option linter.unusedVariables false
namespace Go.Proofs.YtjngofngjbjpbaaGreatDoor
open Go.RowKit

theorem bit_at {R : Ending → World → Prop} (A : Option Addr) (n c m i p : Nat) (iv : Int) (w : World) (hn : n ≤ 1099511627776) (h : IsBits w A n c m) (hp : Hid (p = bt m i)) (hi : iv = (i : Int))
    (K : R (.returned (v8 p)) w) : Calls Tryz.prog 217 #[.slice A n c, .int .i64 iv] w R := by
  subst hi
  exact bit_any A n c m i w hn h (by rw [← hp.out]; exact K)
theorem hexslice (d : Nat) (hd : d < 16) : (⟨#[48, 49, 50, 51, 52, 53, 54, 55, 56, 57, 97, 98, 99, 100, 101, 102]⟩ : ByteArray).extract d (d + 1) = ⟨#[(hexc d).toUInt8]⟩ := by
  have : ∀ d : Fin 16, ((⟨#[48, 49, 50, 51, 52, 53, 54, 55, 56, 57, 97, 98, 99, 100, 101, 102]⟩ : ByteArray).extract d.val (d.val + 1)).data.toList = [(hexc d.val).toUInt8] := by decide +kernel
  exact ByteArray.ext (Array.toList_inj.1 (this ⟨d, hd⟩))
theorem bytes_app (a b : List UInt8) : (⟨a.toArray⟩ : ByteArray) ++ (⟨b.toArray⟩ : ByteArray) = ⟨(a ++ b).toArray⟩ := by
  refine ByteArray.ext ?_
  simp [ByteArray.data_append]
theorem nib4 (m j : Nat) : bt m (4 * j) + 2 * bt m (4 * j + 1) + 4 * bt m (4 * j + 2) + 8 * bt m (4 * j + 3) = m / 16 ^ j % 16 := by
  have e : ∀ k, bt m (4 * j + k) = m / 16 ^ j / 2 ^ k % 2 := fun k => by
    unfold bt
    rw [Nat.pow_add, pow16, ← Nat.div_div_eq_div_mul]
  have e0 := e 0
  have e1 := e 1
  have e2 := e 2
  have e3 := e 3
  rw [Nat.add_zero] at e0
  rw [e0, e1, e2, e3]
  generalize m / 16 ^ j = y
  omega

set_option maxHeartbeats 2000000 in
set_option maxRecDepth 100000 in
theorem hexR_any {R : Ending → World → Prop} (A : Option Addr) (n c m : Nat) (w : World) (hn : n ≤ 1073741824) (h : IsBits w A n c m)
    (K : R (.returned (.string ⟨(hexL m).toArray⟩)) w) :
    Calls Tryz.prog 132 #[.slice A n c] w R := by
  have HL : Hid (n = bl m) := h.len
  by_cases h0 : n = 0
  · have hm : m = 0 := by
      by_cases e : m = 0
      · exact e
      · have := bl_pos e; have := HL.out; omega
    subst hm
    subst h0
    have fin : R (.returned (.string ⟨#[48]⟩)) w := K
    clear K h
    go_enter Tryz.func132, Tryz.ntmps132
    go_wp2
    exact fin
  · have hm : m ≠ 0 := by
      intro e
      subst e
      exact h0 HL.out
    have hne : ((n : Int) == 0) = false := by simp; omega
    have hne2 : ¬ (n : Int) = 0 := by omega
    go_enter Tryz.func132, Tryz.ntmps132
    go_wp2_with fail
    go_loop [3, 4] (fun sv iv => ∃ j : Nat, 4 * j < n + 4 ∧ iv = .int .i64 ((4 * j : Nat) : Int) ∧ sv = .string ⟨(hexD m j).toArray⟩) (fun _ iv => n + 4 - (intOf iv).toNat)
    case atStart => exact ⟨0, by omega, rfl, rfl⟩
    case round =>
      obtain ⟨j, hj, rfl, rfl⟩ := hrel
      obtain ⟨I, hI⟩ : ∃ I, I = 4 * j := ⟨_, rfl⟩
      rw [← hI] at hj ⊢
      by_cases hlt : I < n
      · obtain ⟨p0, hp0⟩ : ∃ p0, p0 = bt m I := ⟨_, rfl⟩
        obtain ⟨p1, hp1⟩ : ∃ p1, p1 = bt m (I + 1) := ⟨_, rfl⟩
        obtain ⟨p2, hp2⟩ : ∃ p2, p2 = bt m (I + 2) := ⟨_, rfl⟩
        obtain ⟨p3, hp3⟩ : ∃ p3, p3 = bt m (I + 3) := ⟨_, rfl⟩
        have l0 : p0 < 2 := by rw [hp0]; exact bt_lt _ _
        have l1 : p1 < 2 := by rw [hp1]; exact bt_lt _ _
        have l2 : p2 < 2 := by rw [hp2]; exact bt_lt _ _
        have l3 : p3 < 2 := by rw [hp3]; exact bt_lt _ _
        have hn4 := nib4 m j
        rw [← hI, ← hp0, ← hp1, ← hp2, ← hp3] at hn4
        obtain ⟨d, hd⟩ : ∃ d, d = p0 + 2 * p1 + 4 * p2 + 8 * p3 := ⟨_, rfl⟩
        have hd16 : d < 16 := by omega
        have hnib : nib m j = hexc d := by unfold nib; rw [← hn4, ← hd]
        have hsucc := hexD_succ m j
        rw [hnib] at hsucc
        have hcat : (⟨#[(hexc d).toUInt8]⟩ : ByteArray) ++ (⟨(hexD m j).toArray⟩ : ByteArray) = ⟨(hexD m (j + 1)).toArray⟩ := by
          rw [hsucc]
          exact bytes_app [(hexc d).toUInt8] (hexD m j)
        have hsl := hexslice d hd16
        obtain ⟨S, hS⟩ : ∃ S : ByteArray, S = ⟨(hexD m j).toArray⟩ := ⟨_, rfl⟩
        obtain ⟨T, hT⟩ : ∃ T : ByteArray, T = ⟨(hexD m (j + 1)).toArray⟩ := ⟨_, rfl⟩
        rw [← hS, ← hT] at hcat
        rw [← hS]
        have HT : Hid (T = ⟨(hexD m (j + 1)).toArray⟩) := hT
        have P0 : Hid (p0 = bt m I) := hp0
        have P1 : Hid (p1 = bt m (I + 1)) := hp1
        have P2 : Hid (p2 = bt m (I + 2)) := hp2
        have P3 : Hid (p3 = bt m (I + 3)) := hp3
        have HI : Hid (I = 4 * j) := hI
        have w1 : IntKind.u8.wrap (2 * (p1 : Int)) = 2 * (p1 : Int) := wrap8 _ (by omega) (by omega)
        have w2 : IntKind.u8.wrap ((p0 : Int) + 2 * p1) = (p0 : Int) + 2 * p1 := wrap8 _ (by omega) (by omega)
        have w3 : IntKind.u8.wrap (4 * (p2 : Int)) = 4 * (p2 : Int) := wrap8 _ (by omega) (by omega)
        have w4 : IntKind.u8.wrap ((p0 : Int) + 2 * p1 + 4 * p2) = (p0 : Int) + 2 * p1 + 4 * p2 := wrap8 _ (by omega) (by omega)
        have w5 : IntKind.u8.wrap (8 * (p3 : Int)) = 8 * (p3 : Int) := wrap8 _ (by omega) (by omega)
        have w6 : IntKind.u8.wrap ((p0 : Int) + 2 * p1 + 4 * p2 + 8 * p3) = (d : Int) := by rw [wrap8 _ (by omega) (by omega)]; omega
        have w7 : IntKind.u8.wrap ((d : Int) + 1) = (d : Int) + 1 := wrap8 _ (by omega) (by omega)
        have hd1 : ((d : Int) + 1).toNat = d + 1 := by omega
        have E1 : Hid ((I : Int) + 1 = ((I + 1 : Nat) : Int)) := (show (I : Int) + 1 = ((I + 1 : Nat) : Int) by omega)
        have E2 : Hid ((I : Int) + 2 = ((I + 2 : Nat) : Int)) := (show (I : Int) + 2 = ((I + 2 : Nat) : Int) by omega)
        have E3 : Hid ((I : Int) + 3 = ((I + 3 : Nat) : Int)) := (show (I : Int) + 3 = ((I + 3 : Nat) : Int) by omega)
        have hnn : n ≤ 1099511627776 := by omega
        have hSs : S.size ≤ 1073741830 := by rw [hS]; show (hexD m j).toArray.size ≤ _; rw [List.size_toArray, hexD_len]; omega
        clear hp0 hp1 hp2 hp3 hn4 hd hnib hsucc hS hT hI K
        go_wp2_with (first
          | (go_at_call 217; with_reducible refine bit_at A n c m I p0 _ _ hnn h P0 rfl ?_)
          | (go_at_call 217; with_reducible refine bit_at A n c m (I + 1) p1 _ _ hnn h P1 E1.out ?_)
          | (go_at_call 217; with_reducible refine bit_at A n c m (I + 2) p2 _ _ hnn h P2 E2.out ?_)
          | (go_at_call 217; with_reducible refine bit_at A n c m (I + 3) p3 _ _ hnn h P3 E3.out ?_))
        go_round
        case rel => exact ⟨j + 1, by have := HI.out; omega, by have := HI.out; go_num, by rw [← HT.out]⟩
        case measure => have := HI.out; simp [intOf]; omega
      · have hjj : j = (bl m + 3) / 4 := by have := HL.out; omega
        have hx : hexL m = hexD m j := by unfold hexL; rw [if_neg hm, hjj]
        rw [hx] at K
        have hd : decide ((I : Int) < (n : Int)) = false := by simp; omega
        clear hI hjj hx h
        go_wp2
        exact K

set_option maxHeartbeats 1000000 in
theorem digits_any {R : Ending → World → Prop} (u : Nat) (hu : u < 18446744073709551616) (w : World)
    (K : ∀ w', Ext w w' → R (.returned (.string ⟨(Lib.decDigits u).toArray⟩)) w') :
    Calls Tryz.prog 134 #[v64 u] w R := by
  induction u using Nat.strongRecOn generalizing w R with
  | _ u ih =>
    by_cases h : u < 10
    · rw [Lib.decDigits_one h] at K
      have hd : decide ((u : Int) < 10) = true := by simp; omega
      have w1 : IntKind.u64.wrap (48 + (u : Int)) = ((48 + u : Nat) : Int) := by rw [IntKind.wrap_u64]; omega
      obtain ⟨x, hx⟩ : ∃ x, x = 48 + u := ⟨_, rfl⟩
      rw [← hx] at w1 K
      have hxl : x < 256 := by omega
      have w2 : IntKind.u8.wrap (x : Int) = (x : Int) := wrap8 _ (by omega) (by omega)
      have hcv : (convert 27 9 (.slice (some ⟨w.heap.size, 0, none⟩) 1 1)).run Tryz.prog (w.alloc (.cells #[.int .u8 (x : Int)] 5)) = .ok (.string ⟨[UInt8.ofNat x].toArray⟩) (w.alloc (.cells #[.int .u8 (x : Int)] 5)) := by
        have h := run_convert_bytes_back (P := Tryz.prog) (w.alloc (.cells #[.int .u8 (x : Int)] 5)) 27 9 5 ⟨w.heap.size, 0, none⟩ 1 [UInt8.ofNat x] Tryz.underlying27 Tryz.underlying5 Tryz.underlying9 (fun j hj => by
          have hj0 : j = 0 := by simpa using hj
          subst hj0
          have e : (UInt8.ofNat x).toNat = x := by rw [UInt8.toNat_ofNat']; omega
          show World.cell? _ ⟨w.heap.size, 0, none⟩ = _
          rw [cell_of_blk (blk_1_1 w _)]
          simp [e])
        exact h
      have fin := K _ ((Ext.rfl' w).alloc' (.cells #[.int .u8 (x : Int)] 5))
      clear K ih hx
      go_enter Tryz.func134, Tryz.ntmps134
      go_wp2
      exact fin
    · have hd : decide ((u : Int) < 10) = false := by simp; omega
      obtain ⟨q, hq⟩ : ∃ q, q = u / 10 := ⟨_, rfl⟩
      obtain ⟨r, hr⟩ : ∃ r, r = u % 10 := ⟨_, rfl⟩
      have w1 : IntKind.u64.wrap ((u : Int).tdiv 10) = (q : Int) := by rw [Int.tdiv_eq_ediv_of_nonneg (by omega), IntKind.wrap_u64]; omega
      have w2 : ((u : Int)).tmod 10 = (r : Int) := by rw [Int.tmod_eq_emod_of_nonneg (by omega)]; omega
      have w3 : (u : Int) / 10 = (q : Int) := by omega
      have w4 : (u : Int) % 10 = (r : Int) := by omega
      have hr10 : r < 10 := by omega
      have e1 := decDigits_big h
      rw [← hq, ← hr] at e1
      have hcat : (⟨(Lib.decDigits q).toArray⟩ : ByteArray) ++ (⟨(Lib.decDigits r).toArray⟩ : ByteArray) = ⟨(Lib.decDigits u).toArray⟩ := by
        rw [bytes_app, e1, Lib.decDigits_one hr10]
      have I1 := fun W (R' : Ending → World → Prop) K' => ih q (by omega) (by omega) (R := R') W K'
      have I2 := fun W (R' : Ending → World → Prop) K' => ih r (by omega) (by omega) (R := R') W K'
      have hz : ∀ v, v < 18446744073709551616 → (⟨(Lib.decDigits v).toArray⟩ : ByteArray).size ≤ 20 := fun v hv => by
        show (Lib.decDigits v).toArray.size ≤ 20
        rw [List.size_toArray]
        exact dec_short (decDigits_ok v) (by rw [decV_decDigits]; exact hv)
      have z1 := hz q (by omega)
      have z2 := hz r (by omega)
      generalize (⟨(Lib.decDigits u).toArray⟩ : ByteArray) = T at hcat K
      generalize (⟨(Lib.decDigits q).toArray⟩ : ByteArray) = S1 at hcat I1 z1
      generalize (⟨(Lib.decDigits r).toArray⟩ : ByteArray) = S2 at hcat I2 z2
      clear ih hq hr e1 hz
      go_enter Tryz.func134, Tryz.ntmps134
      go_wp2_with fail
      refine I1 _ _ ?_
      intro w1 hx1
      go_wp2_with fail
      refine I2 _ _ ?_
      intro w2 hx2
      have fin := K w2 (hx1.trans' hx2)
      clear K I1 I2
      go_wp2
      exact fin
end Go.Proofs.YtjngofngjbjpbaaGreatDoor
end

section
set_option linter.unusedSimpArgs false
set_option linter.unusedVariables false
namespace Go.Proofs.YtjngofngjbjpbaaGreatDoor
open Go.RowKit

theorem signed_eq0 (s : Bool) (m : Nat) : Ieee.signed s m 0 = 0 ↔ m = 0 := by
  unfold Ieee.signed
  cases s <;> simp
theorem order_eq0 (b : Nat) : (Ieee.double.order b 0 == some .eq) = decide (b % 9223372036854775808 = 0) := by
  unfold Ieee.Format.order
  rw [read_zero]
  by_cases h1 : 9218868437227405312 < b % 9223372036854775808
  · obtain ⟨s, t, e⟩ := read_nan h1
    rw [e]
    have : ¬ b % 9223372036854775808 = 0 := by omega
    simp [Ieee.Datum.order, this]
  · by_cases h2 : b % 9223372036854775808 = 9218868437227405312
    · rw [read_inf h2]
      have : ¬ b % 9223372036854775808 = 0 := by omega
      cases (b / 9223372036854775808 % 2 == 1) <;> simp [Ieee.Datum.order, this]
    · obtain ⟨s, m, p, e, h3, h4, h5, h6, h7⟩ := read_fin (b := b) (by omega)
      rw [e]
      have hm : m = 0 ↔ b % 9223372036854775808 = 0 := by
        rcases h7 with ⟨a, b, c⟩ | ⟨a, b, c, d⟩ <;> omega
      simp only [Ieee.Datum.order]
      rw [show min p (-1074) = -1074 from by omega]
      have hz : Ieee.signed false 0 (-1074 - -1074 : Int).toNat = 0 := by decide
      rw [hz]
      have hs : Ieee.signed s m (p - -1074).toNat = 0 ↔ m = 0 := by
        unfold Ieee.signed
        have hp : 2 ^ (p - -1074).toNat ≠ 0 := Nat.ne_of_gt (Nat.two_pow_pos _)
        rw [Nat.shiftLeft_eq]
        have hmul : m * 2 ^ (p - -1074).toNat = 0 ↔ m = 0 := by rw [Nat.mul_eq_zero]; exact ⟨fun h => h.resolve_right hp, Or.inl⟩
        rw [← hmul]
        generalize m * 2 ^ (p - -1074).toNat = Y
        cases s <;> simp
      by_cases hb : b % 9223372036854775808 = 0
      · have := hs.2 (hm.2 hb)
        rw [this, decide_eq_true hb]
        decide
      · have h0 : Ieee.signed s m (p - -1074).toNat ≠ 0 := fun e => hb (hm.1 (hs.1 e))
        rw [decide_eq_false hb]
        generalize Ieee.signed s m (p - -1074).toNat = X at h0
        show ((some (compareOfLessAndEq X 0)) == some .eq) = false
        unfold compareOfLessAndEq
        split <;> first | rfl | (split <;> first | rfl | exact absurd (by assumption) h0)
theorem nearF_form (z : Int) (d : Nat) : nearF z d = 0 ∨ (nearF z d ≠ 0 ∧ nearF z d ≤ 9218868437227405312) ∨ (9223372036854775808 < nearF z d ∧ nearF z d ≤ 18442240474082181120) := by
  unfold nearF
  simp only
  generalize hs : shOf z.natAbs d = s
  by_cases hm : rnd z.natAbs (d * 2 ^ s) = 0
  · left; rw [if_pos hm]
  · right
    rw [if_neg hm]
    have hq : z.natAbs / (d * 2 ^ s) < 2 ^ 53 := by
      rw [div_sh]
      refine bl_le_iff.1 ?_
      rw [bl_div, ← hs]
      unfold shOf
      omega
    have hr := rnd_le hq
    have h53 : (2 : Nat) ^ 53 = 9007199254740992 := by decide
    obtain ⟨h1, h2⟩ := ldx_pos (m := rnd z.natAbs (d * 2 ^ s)) (e := (s : Int) - 1074) hm (by omega) (by omega)
    generalize ldx (rnd z.natAbs (d * 2 ^ s)) ((s : Int) - 1074) = X at *
    split
    · right; omega
    · left; omega
/-- a sum that may come from a text, from adding, from merging -/
def Tidy (s : SumS) : Prop := s.count < 18446744073709551616 ∧ (s.other = false → s.z = 0 ∧ s.plus = false ∧ s.minus = false ∧ s.nan = false)
theorem Valid.tidy {s : SumS} (h : Valid s) : Tidy s := ⟨h.1, h.2.1⟩
theorem tidy_zero : Tidy zeroS := ⟨by decide, fun _ => ⟨rfl, rfl, rfl, rfl⟩⟩
theorem Tidy.merge {s o : SumS} (h : Tidy s) (h' : Tidy o) : Tidy (mergeS s o) := by
  refine ⟨Nat.mod_lt _ (by decide), fun e => ?_⟩
  have e' : (s.other || o.other) = false := e
  rw [Bool.or_eq_false_iff] at e'
  obtain ⟨a1, a2, a3, a4⟩ := h.2 e'.1
  obtain ⟨b1, b2, b3, b4⟩ := h'.2 e'.2
  refine ⟨?_, ?_, ?_, ?_⟩
  · show s.z + o.z = 0; omega
  · show (s.plus || o.plus) = false; rw [a2, b2]; rfl
  · show (s.minus || o.minus) = false; rw [a3, b3]; rfl
  · show (s.nan || o.nan) = false; rw [a4, b4]; rfl
/-- -0 is printed where the value is -0 -/
theorem value_mark {s : SumS} (h : Tidy s) : (decide (valueF s % 9223372036854775808 = 0) && decide (9223372036854775808 ≤ valueF s)) = (decide (0 < s.count) && !s.other) ∧ valueF s < 18446744073709551616 := by
  obtain ⟨h1, h2⟩ := h
  rw [valueF_is]
  unfold specR
  by_cases ho : (decide (0 < s.count) && !s.other) = true
  · have ho2 : s.other = false := by simp only [Bool.and_eq_true, Bool.not_eq_true'] at ho; exact ho.2
    obtain ⟨a, b, c, d⟩ := h2 ho2
    rw [b, c, d, ho]
    exact (by decide : (decide (9223372036854775808 % 9223372036854775808 = 0) && decide (9223372036854775808 ≤ 9223372036854775808)) = true ∧ (9223372036854775808 : Nat) < 18446744073709551616)
  · have ho' : (decide (0 < s.count) && !s.other) = false := by simpa using ho
    rw [ho']
    by_cases c1 : (s.nan || (s.plus && s.minus)) = true
    · rw [if_pos c1]; exact (by decide : (decide (9221120237041090561 % 9223372036854775808 = 0) && decide (9223372036854775808 ≤ 9221120237041090561)) = false ∧ (9221120237041090561 : Nat) < 18446744073709551616)
    · rw [if_neg c1]
      by_cases c2 : s.plus = true
      · rw [if_pos c2]; exact (by decide : (decide (9218868437227405312 % 9223372036854775808 = 0) && decide (9223372036854775808 ≤ 9218868437227405312)) = false ∧ (9218868437227405312 : Nat) < 18446744073709551616)
      · rw [if_neg c2]
        by_cases c3 : s.minus = true
        · rw [if_pos c3]; exact (by decide : (decide (18442240474082181120 % 9223372036854775808 = 0) && decide (9223372036854775808 ≤ 18442240474082181120)) = false ∧ (18442240474082181120 : Nat) < 18446744073709551616)
        · rw [if_neg c3]
          simp only [Bool.false_eq_true, if_false]
          rcases nearF_form s.z 1 with e | ⟨e1, e2⟩ | ⟨e1, e2⟩
          · rw [e]; decide
          · generalize nearF s.z 1 = X at *
            refine ⟨?_, by omega⟩
            rw [decide_eq_false (by omega : ¬ X % 9223372036854775808 = 0)]; rfl
          · generalize nearF s.z 1 = X at *
            refine ⟨?_, by omega⟩
            rw [decide_eq_false (by omega : ¬ X % 9223372036854775808 = 0)]; rfl

def lt1 (ng : Bool) (V : Nat) : List UInt8 := (if ng = true then [45] else []) ++ hexL V
def ltx (b : Bool) (x l : List UInt8) : List UInt8 := l ++ (if b = true then x else [])
theorem text_form (s : SumS) : textS s = ⟨(ltx (decide (0 < s.count) && !s.other) [32, 45, 48] (ltx s.nan [32, 110, 97, 110] (ltx s.minus [32, 45, 105, 110, 102] (ltx s.plus [32, 43, 105, 110, 102] (lt1 (decide (s.z < 0)) s.z.natAbs)))) ++ ([32] ++ Lib.decDigits s.count)).toArray⟩ := by
  refine ByteArray.ext (Array.toList_inj.1 ?_)
  show (textS s).data.toList = _
  rw [textS_data]
  unfold partsL
  rw [Lib.join_cons]
  unfold marksL ltx lt1 firstL Lib.joinTail
  cases s.plus <;> cases s.minus <;> cases s.nan <;> cases (decide (0 < s.count) && !s.other) <;> simp
theorem size_list (l : List UInt8) : (⟨l.toArray⟩ : ByteArray).size = l.length := by show l.toArray.size = _; simp
theorem ltx_len (b : Bool) (x l : List UInt8) : (ltx b x l).length ≤ l.length + x.length := by unfold ltx; cases b <;> simp
theorem hexL_len (V : Nat) : (hexL V).length ≤ bl V + 1 := by
  unfold hexL
  split
  · simp
  · rw [hexD_len]; omega
theorem lt1_len (ng : Bool) (V : Nat) : (lt1 ng V).length ≤ bl V + 2 := by
  have := hexL_len V
  unfold lt1
  cases ng <;> simp <;> omega

set_option maxHeartbeats 4000000 in
set_option maxRecDepth 100000 in
theorem textR_any {R : Ending → World → Prop} (A : Option Addr) (n c : Nat) (s : SumS) (w : World) (hn : n ≤ 1073741824) (h : BitsZ w A n c s.z) (hv : Tidy s)
    (K : ∀ w', Ext w w' → R (.returned (.string (textS s))) w') :
    Calls Tryz.prog 63 #[refV A n c s] w R := by
  obtain ⟨hmark, hvl⟩ := value_mark hv
  have hlen := h.len
  have hcount := hv.1
  have HV := fun W (hW : Ext w W) (R' : Ending → World → Prop) K' => valueR_any (R := R') A n c s W hn (h.ext hW) K'
  have HX := fun W (hW : Ext w W) (R' : Ending → World → Prop) K' => hexR_any (R := R') A n c s.z.natAbs W hn (h.ext hW) K'
  have HD := fun W (R' : Ending → World → Prop) K' => digits_any (R := R') s.count hcount W K'
  rw [text_form] at K
  have b0 : (hexL s.z.natAbs).length ≤ 1073741825 := Nat.le_trans (hexL_len _) (by omega)
  have b1 : (lt1 (decide (s.z < 0)) s.z.natAbs).length ≤ 1073741826 := Nat.le_trans (lt1_len _ _) (by omega)
  have bd : (Lib.decDigits s.count).length ≤ 20 := dec_short (decDigits_ok _) (by rw [decV_decDigits]; exact hcount)
  obtain ⟨v, hvv⟩ : ∃ v, v = valueF s := ⟨_, rfl⟩
  have ho : (FloatKind.f64.format.order v 0 == some .eq) = decide (v % 9223372036854775808 = 0) := order_eq0 v
  simp only [← hvv] at HV hmark hvl
  obtain ⟨z, pl, mi, na, ot, cnt⟩ := s
  simp only [refV, refCells] at *
  obtain ⟨mk, hmk⟩ : ∃ mk, mk = (decide (0 < cnt) && !ot) := ⟨_, rfl⟩
  rw [← hmk] at hmark K
  obtain ⟨ng, hng⟩ : ∃ ng, ng = decide (z < 0) := ⟨_, rfl⟩
  simp only [← hng] at K HV b1 ⊢
  have b2 := ltx_len pl [32, 43, 105, 110, 102] (lt1 ng z.natAbs)
  have b3 := ltx_len mi [32, 45, 105, 110, 102] (ltx pl [32, 43, 105, 110, 102] (lt1 ng z.natAbs))
  have b4 := ltx_len na [32, 110, 97, 110] (ltx mi [32, 45, 105, 110, 102] (ltx pl [32, 43, 105, 110, 102] (lt1 ng z.natAbs)))
  have b5 := ltx_len mk [32, 45, 48] (ltx na [32, 110, 97, 110] (ltx mi [32, 45, 105, 110, 102] (ltx pl [32, 43, 105, 110, 102] (lt1 ng z.natAbs))))
  simp only [List.length_cons, List.length_nil] at b2 b3 b4 b5
  have c1 : (if ng = true then (⟨#[45]⟩ : ByteArray) ++ ⟨(hexL z.natAbs).toArray⟩ else ⟨(hexL z.natAbs).toArray⟩) = ⟨(lt1 ng z.natAbs).toArray⟩ := by
    unfold lt1
    cases ng
    · simp
    · exact bytes_app [45] _
  have cx : ∀ (b : Bool) (x l : List UInt8), (if b = true then (⟨l.toArray⟩ : ByteArray) ++ ⟨x.toArray⟩ else ⟨l.toArray⟩) = ⟨(ltx b x l).toArray⟩ := fun b x l => by
    unfold ltx
    cases b
    · simp
    · exact bytes_app l x
  have c2 := cx pl [32, 43, 105, 110, 102] (lt1 ng z.natAbs)
  have c3 := cx mi [32, 45, 105, 110, 102] (ltx pl [32, 43, 105, 110, 102] (lt1 ng z.natAbs))
  have c4 := cx na [32, 110, 97, 110] (ltx mi [32, 45, 105, 110, 102] (ltx pl [32, 43, 105, 110, 102] (lt1 ng z.natAbs)))
  have c5 := cx mk [32, 45, 48] (ltx na [32, 110, 97, 110] (ltx mi [32, 45, 105, 110, 102] (ltx pl [32, 43, 105, 110, 102] (lt1 ng z.natAbs))))
  generalize ltx mk [32, 45, 48] (ltx na [32, 110, 97, 110] (ltx mi [32, 45, 105, 110, 102] (ltx pl [32, 43, 105, 110, 102] (lt1 ng z.natAbs)))) = l5 at *
  generalize ltx na [32, 110, 97, 110] (ltx mi [32, 45, 105, 110, 102] (ltx pl [32, 43, 105, 110, 102] (lt1 ng z.natAbs))) = l4 at *
  generalize ltx mi [32, 45, 105, 110, 102] (ltx pl [32, 43, 105, 110, 102] (lt1 ng z.natAbs)) = l3 at *
  generalize ltx pl [32, 43, 105, 110, 102] (lt1 ng z.natAbs) = l2 at *
  generalize lt1 ng z.natAbs = l1 at *
  have c6 : (⟨l5.toArray⟩ : ByteArray) ++ ⟨#[32]⟩ ++ ⟨(Lib.decDigits cnt).toArray⟩ = ⟨(l5 ++ ([32] ++ Lib.decDigits cnt)).toArray⟩ := by
    have := bytes_app l5 [32]
    rw [show (⟨#[32]⟩ : ByteArray) = ⟨([32] : List UInt8).toArray⟩ from rfl, this, bytes_app, List.append_assoc]
  have s0 : (⟨(hexL z.natAbs).toArray⟩ : ByteArray).size ≤ 1073741825 := by rw [size_list]; exact b0
  have s1 : (⟨l1.toArray⟩ : ByteArray).size ≤ 1073741826 := by rw [size_list]; exact b1
  have s2 : (⟨l2.toArray⟩ : ByteArray).size ≤ 1073741900 := by rw [size_list]; omega
  have s3 : (⟨l3.toArray⟩ : ByteArray).size ≤ 1073741900 := by rw [size_list]; omega
  have s4 : (⟨l4.toArray⟩ : ByteArray).size ≤ 1073741900 := by rw [size_list]; omega
  have s5 : (⟨l5.toArray⟩ : ByteArray).size ≤ 1073741900 := by rw [size_list]; omega
  have sd : (⟨(Lib.decDigits cnt).toArray⟩ : ByteArray).size ≤ 20 := by rw [size_list]; exact bd
  generalize (⟨(l5 ++ ([32] ++ Lib.decDigits cnt)).toArray⟩ : ByteArray) = X6 at *
  generalize (⟨(Lib.decDigits cnt).toArray⟩ : ByteArray) = XD at *
  generalize (⟨(hexL z.natAbs).toArray⟩ : ByteArray) = X0 at *
  generalize (⟨l5.toArray⟩ : ByteArray) = X5 at *
  generalize (⟨l4.toArray⟩ : ByteArray) = X4 at *
  generalize (⟨l3.toArray⟩ : ByteArray) = X3 at *
  generalize (⟨l2.toArray⟩ : ByteArray) = X2 at *
  generalize (⟨l1.toArray⟩ : ByteArray) = X1 at *
  have C1 : Hid _ := c1
  have C2 : Hid _ := c2
  have C3 : Hid _ := c3
  have C4 : Hid _ := c4
  have C5 : Hid _ := c5
  have C6 : Hid _ := c6
  have HM : Hid _ := hmark
  clear c1 c2 c3 c4 c5 c6 cx hmark hmk hng hvv hlen hcount b0 b1 b2 b3 b4 b5 bd hv h ho
  have ho : (FloatKind.f64.format.order v 0 == some .eq) = decide (v % 9223372036854775808 = 0) := order_eq0 v
  have hx0 : Ext w (w.alloc (.cells #[.bool ng, .slice A n c, .bool pl, .bool mi, .bool na, .bool ot, v64 cnt] 31)) := (Ext.rfl' w).alloc' _
  go_enter Tryz.func63, Tryz.ntmps63
  go_wp2_with fail
  refine HX _ hx0 _ ?_
  go_upto_if 9 with fail
  go_cut [3] from 10 to 11 (fun ov wx => ov = .string X1 ∧ wx = w.alloc (.cells #[.bool ng, .slice A n c, .bool pl, .bool mi, .bool na, .bool ot, v64 cnt] 31))
  case first =>
    clear K HV HX HD
    cases ng
    · have hc : X0 = X1 := by simpa using C1.out
      subst hc
      go_wp2_with fail
      go_meet
      exact ⟨rfl, rfl⟩
    · have hc : (⟨#[45]⟩ : ByteArray) ++ X0 = X1 := by simpa using C1.out
      go_wp2_with fail
      go_meet
      exact ⟨rfl, rfl⟩
  case rest =>
    obtain ⟨rfl, rfl⟩ := hcut
    go_upto_if 13 with fail
    go_cut [3] from 14 to 15 (fun ov wx => ov = .string X2 ∧ wx = w.alloc (.cells #[.bool ng, .slice A n c, .bool pl, .bool mi, .bool na, .bool ot, v64 cnt] 31))
    case first =>
      clear K HV HX HD
      cases pl
      · have hc : X1 = X2 := by simpa using C2.out
        subst hc
        go_wp2_with fail
        go_meet
        exact ⟨rfl, rfl⟩
      · have hc : X1 ++ (⟨#[32, 43, 105, 110, 102]⟩ : ByteArray) = X2 := by simpa using C2.out
        go_wp2_with fail
        go_meet
        exact ⟨rfl, rfl⟩
    case rest =>
      obtain ⟨rfl, rfl⟩ := hcut
      go_upto_if 17 with fail
      go_cut [3] from 18 to 19 (fun ov wx => ov = .string X3 ∧ wx = w.alloc (.cells #[.bool ng, .slice A n c, .bool pl, .bool mi, .bool na, .bool ot, v64 cnt] 31))
      case first =>
        clear K HV HX HD
        cases mi
        · have hc : X2 = X3 := by simpa using C3.out
          subst hc
          go_wp2_with fail
          go_meet
          exact ⟨rfl, rfl⟩
        · have hc : X2 ++ (⟨#[32, 45, 105, 110, 102]⟩ : ByteArray) = X3 := by simpa using C3.out
          go_wp2_with fail
          go_meet
          exact ⟨rfl, rfl⟩
      case rest =>
        obtain ⟨rfl, rfl⟩ := hcut
        go_upto_if 21 with fail
        go_cut [3] from 22 to 23 (fun ov wx => ov = .string X4 ∧ wx = w.alloc (.cells #[.bool ng, .slice A n c, .bool pl, .bool mi, .bool na, .bool ot, v64 cnt] 31))
        case first =>
          clear K HV HX HD
          cases na
          · have hc : X3 = X4 := by simpa using C4.out
            subst hc
            go_wp2_with fail
            go_meet
            exact ⟨rfl, rfl⟩
          · have hc : X3 ++ (⟨#[32, 110, 97, 110]⟩ : ByteArray) = X4 := by simpa using C4.out
            go_wp2_with fail
            go_meet
            exact ⟨rfl, rfl⟩
        case rest =>
          obtain ⟨rfl, rfl⟩ := hcut
          go_wp2_with fail
          refine HV _ hx0 _ ?_
          intro w1 hx1
          have bb := (hx1.block w.heap.size (by simp)).trans (blk_1_1 w _)
          have q6 : w1.cell? ⟨w.heap.size, 6, none⟩ = some (v64 cnt) := cell_of_blk bb 6
          have hxw := hx0.trans' hx1
          have hc6 := C6.out
          have HSB : ∀ W, Calls Tryz.prog 133 #[.float .f64 v] W fun e w' => e = .returned (.bool (decide (9223372036854775808 ≤ v))) ∧ w' = W := fun W => signbit_any v hvl W ⟨rfl, rfl⟩
          clear HV HX C1 C2 C3 C4 C6 bb
          by_cases hE : v % 9223372036854775808 = 0
          · rw [decide_eq_true hE] at ho
            by_cases hS : 9223372036854775808 ≤ v
            · have hmk : mk = true := by rw [← HM.out, decide_eq_true hE, decide_eq_true hS]; rfl
              subst hmk
              have hc5 : X4 ++ (⟨#[32, 45, 48]⟩ : ByteArray) = X5 := by simpa using C5.out
              rw [decide_eq_true hS] at HSB
              clear C5 HM hE hS hvl
              go_wp2_with (first | (go_at_call 133; with_reducible refine (HSB _).mono ?_; rintro e w9 ⟨rfl, rfl⟩) | (go_at_call 134; with_reducible refine HD _ _ ?_; intro w2 hx2; have hxf := hxw.trans' hx2))
              exact hxf
            · have hmk : mk = false := by rw [← HM.out, decide_eq_true hE, decide_eq_false hS]; rfl
              subst hmk
              have hc5 : X4 = X5 := by simpa using C5.out
              subst hc5
              rw [decide_eq_false hS] at HSB
              clear C5 HM hE hS hvl
              go_wp2_with (first | (go_at_call 133; with_reducible refine (HSB _).mono ?_; rintro e w9 ⟨rfl, rfl⟩) | (go_at_call 134; with_reducible refine HD _ _ ?_; intro w2 hx2; have hxf := hxw.trans' hx2))
              exact hxf
          · rw [decide_eq_false hE] at ho
            have hmk : mk = false := by rw [← HM.out, decide_eq_false hE]; rfl
            subst hmk
            have hc5 : X4 = X5 := by simpa using C5.out
            subst hc5
            clear C5 HM hE hvl
            go_wp2_with (first | (go_at_call 134; with_reducible refine HD _ _ ?_; intro w2 hx2; have hxf := hxw.trans' hx2))
            exact hxf
end Go.Proofs.YtjngofngjbjpbaaGreatDoor
end

section
set_option linter.unusedSimpArgs false
set_option linter.unusedVariables false
namespace Go.Proofs.YtjngofngjbjpbaaGreatDoor
open Go.RowKit

theorem take_snoc {D : List UInt8} {i : Nat} (h : i < D.length) : D.take (i + 1) = D.take i ++ [D.getD i 0] := by
  rw [List.take_add_one, List.getD_eq_getElem?_getD, List.getElem?_eq_getElem h]; rfl
theorem decV_take_le (D : List UInt8) (i : Nat) : decV (D.take i) ≤ decV D := by
  have := decV_append_ge (D.take i) (D.drop i)
  rwa [List.take_append_drop] at this
/-- a decimal below 2^64, as the book has it -/
def decOk (D : List UInt8) : Prop := digsOk isDec D = true ∧ decV D < 18446744073709551616
theorem str_at (s : ByteArray) (i : Nat) (h : i < s.size) : s[i]'h = s.data.toList.getD i 0 := by
  rw [List.getD_eq_getElem?_getD, List.getElem?_eq_getElem (by rw [Array.length_toList]; exact h)]
  rfl
theorem str_len (s : ByteArray) : s.size = s.data.toList.length := by rw [Array.length_toList]; rfl

set_option maxHeartbeats 2000000 in
set_option maxRecDepth 100000 in
theorem undigits_any {R : Ending → World → Prop} (s : ByteArray) (w : World) (hsz : s.size ≤ 1099511627776)
    (Kt : decOk s.data.toList → R (.returned (.tuple #[v64 (decV s.data.toList), .bool true])) w)
    (Kf : ¬ decOk s.data.toList → R (.returned (.tuple #[v64 0, .bool false])) w) :
    Calls Tryz.prog 58 #[.string s] w R := by
  have hlen := str_len s
  by_cases h0 : s.size = 0
  · have hs : s = ⟨#[]⟩ := by
      refine ByteArray.ext ?_
      exact Array.eq_empty_of_size_eq_zero h0
    subst hs
    have fin := Kf (by unfold decOk; decide)
    clear Kt Kf hlen
    go_enter Tryz.func58, Tryz.ntmps58
    go_wp2
    exact fin
  · have hE : s.toList.isEmpty = false := by
      rw [ByteArray.toList_eq]
      cases hd : s.data.toList with
      | nil => rw [hd] at hlen; exact absurd hlen h0
      | cons x xs => rfl
    have hE2 : ¬ s.toList = [] := by
      intro e
      rw [e] at hE
      exact absurd hE (by decide)
    by_cases h20 : 20 < s.size
    · have fin := Kf (fun ⟨a, b⟩ => by have := dec_short a b; omega)
      have hd : decide ((s.size : Int) > 20) = true := by simp; omega
      clear Kt Kf hlen
      go_enter Tryz.func58, Tryz.ntmps58
      go_wp2
      exact fin
    · obtain ⟨x0, hx0⟩ : ∃ x0, x0 = s.data.toList.getD 0 0 := ⟨_, rfl⟩
      have hat0 : ∀ h, ((s[0]'h).toNat : Int) = (x0.toNat : Int) := fun h => by rw [str_at, hx0]
      have hd20 : decide ((s.size : Int) > 20) = false := by simp; omega
      have hhead : s.data.toList.head? = some x0 := by
        rw [hx0]
        cases hd : s.data.toList with
        | nil => rw [hd] at hlen; exact absurd hlen h0
        | cons x xs => rfl
      by_cases hz : 1 < s.size ∧ x0 = 48
      · have fin := Kf (fun ⟨a, _⟩ => by
          rcases (digsOk_spec a).2.2 with h | h
          · exact h (by rw [hhead, hz.2])
          · rw [h] at hlen; simp at hlen; omega)
        have hd1 : decide ((s.size : Int) > 1) = true := by simp; omega
        have hx48 : (x0.toNat : Int) = 48 := by rw [hz.2]; rfl
        clear Kt Kf hlen hx0 hhead hz
        go_enter Tryz.func58, Tryz.ntmps58
        go_wp2
        exact fin
      · have hfirst : s.data.toList.head? ≠ some 48 ∨ s.data.toList = [48] := by
          by_cases e : x0 = 48
          · right
            have h1 : s.data.toList.length = 1 := by
              by_cases h2 : 1 < s.size
              · exact absurd ⟨h2, e⟩ hz
              · omega
            obtain ⟨y, hy⟩ := List.length_eq_one_iff.1 h1
            rw [hy] at hhead ⊢
            simp at hhead
            rw [hhead, e]
          · left; rw [hhead]; simpa using e
        have hguard : (1 < s.size ∧ ((x0.toNat : Int) == 48) = false) ∨ s.size = 1 := by
          by_cases h2 : 1 < s.size
          · left
            refine ⟨h2, ?_⟩
            have : x0 ≠ 48 := fun e => hz ⟨h2, e⟩
            have : x0.toNat ≠ 48 := fun e => this (UInt8.toNat_inj.1 e)
            simp; omega
          · right; omega
        have hgo : ∀ {S : Prop}, ((1 < s.size → ((x0.toNat : Int) == 48) = false → S) ∧ (¬ 1 < s.size → S)) → S := fun {S} ⟨a, b⟩ => by
          rcases hguard with ⟨c, d⟩ | c
          · exact a c d
          · exact b (by omega)
        have hDn : s.data.toList.length = s.size := by omega
        have KT : Hid ((∀ b, b ∈ s.data.toList → isDec b = true) → decV s.data.toList < 18446744073709551616 → R (.returned (.tuple #[v64 (decV s.data.toList), .bool true])) w) := (fun a b => Kt ⟨by
          unfold digsOk
          simp only [Bool.and_eq_true, Bool.not_eq_true', List.isEmpty_eq_false_iff, List.all_eq_true, Bool.or_eq_true, bne_iff_ne, beq_iff_eq]
          exact ⟨⟨fun e => by rw [e] at hDn; simp at hDn; omega, a⟩, hfirst⟩, b⟩)
        have HDn : Hid (s.data.toList.length = s.size) := hDn
        clear Kt hx0 hhead hz hfirst hguard hDn hlen
        refine hgo ⟨fun g1 g2 => ?_, fun g1 => ?_⟩
        all_goals
          clear hgo
          go_enter Tryz.func58, Tryz.ntmps58
          go_wp2
          go_loop [4, 5] (fun nv iv => ∃ i : Nat, i ≤ s.size ∧ iv = .int .i64 (i : Int) ∧ nv = v64 (decV (s.data.toList.take i)) ∧ decV (s.data.toList.take i) < 18446744073709551616 ∧ (∀ b, b ∈ s.data.toList.take i → isDec b = true)) (fun _ iv => s.size - (intOf iv).toNat)
          case atStart => exact ⟨0, Nat.zero_le _, rfl, rfl, by rw [List.take_zero]; decide, by simp⟩
          case round =>
            obtain ⟨i, hi, rfl, rfl, hv, hall⟩ := hrel
            have hDn := HDn.out
            by_cases hlt : i < s.size
            · obtain ⟨x, hx⟩ : ∃ x, x = s.data.toList.getD i 0 := ⟨_, rfl⟩
              have hat : ∀ h, ((s[i]'h).toNat : Int) = (x.toNat : Int) := fun h => by rw [str_at, hx]
              have hxm : x ∈ s.data.toList := by
                rw [hx, List.getD_eq_getElem?_getD, List.getElem?_eq_getElem (by omega)]
                exact List.getElem_mem _
              have hts := take_snoc (D := s.data.toList) (i := i) (by omega)
              rw [← hx] at hts
              have hvs := decV_snoc (s.data.toList.take i) x
              rw [← hts] at hvs
              have hle := decV_take_le s.data.toList (i + 1)
              obtain ⟨y, hy⟩ : ∃ y, y = x.toNat := ⟨_, rfl⟩
              have hyl : y < 256 := by rw [hy]; exact x.toNat_lt
              rw [← hy] at hat hvs
              obtain ⟨v, hvv⟩ : ∃ v, v = decV (s.data.toList.take i) := ⟨_, rfl⟩
              rw [← hvv] at hv hvs ⊢
              by_cases hdec : 48 ≤ y ∧ y ≤ 57
              · have hisx : isDec x = true := by unfold isDec; rw [← hy]; simp; omega
                obtain ⟨d, hd⟩ : ∃ d, d = y - 48 := ⟨_, rfl⟩
                have hd9 : d < 10 := by omega
                have w1 : IntKind.u8.wrap ((y : Int) - 48) = (d : Int) := by rw [IntKind.wrap_u8]; omega
                have w2 : IntKind.u64.wrap (d : Int) = (d : Int) := by rw [IntKind.wrap_u64]; omega
                have w3 : IntKind.u64.wrap (18446744073709551615 - (d : Int)) = ((18446744073709551615 - d : Nat) : Int) := by rw [IntKind.wrap_u64]; omega
                obtain ⟨q, hq⟩ : ∃ q, q = (18446744073709551615 - d) / 10 := ⟨_, rfl⟩
                obtain ⟨p, hp⟩ : ∃ p, p = 18446744073709551615 - d := ⟨_, rfl⟩
                rw [← hp] at w3 hq
                have w4 : IntKind.u64.wrap ((p : Int).tdiv 10) = (q : Int) := by rw [Int.tdiv_eq_ediv_of_nonneg (by omega), IntKind.wrap_u64]; omega
                have w4' : IntKind.u64.wrap ((p : Int) / 10) = (q : Int) := by rw [IntKind.wrap_u64]; omega
                have k1 : decide ((y : Int) < 48) = false := by simp; omega
                have k2 : decide ((y : Int) > 57) = false := by simp; omega
                have k1' : ¬ y < 48 := by omega
                have k2' : ¬ 57 < y := by omega
                have HQ2 : Hid (q = p / 10) := hq
                have hql : q ≤ 1844674407370955161 := by omega
                have hqp : Hid (v ≤ q ↔ 10 * v + d < 18446744073709551616) := (by constructor <;> intro <;> omega : v ≤ q ↔ 10 * v + d < 18446744073709551616)
                have HV : Hid (decV (s.data.toList.take (i + 1)) = 10 * v + d) := (by rw [hvs, hd] : decV (s.data.toList.take (i + 1)) = 10 * v + d)
                have HT : Hid (s.data.toList.take (i + 1) = s.data.toList.take i ++ [x]) := hts
                clear hd hq hp hvs hts hx hy hvv hDn
                by_cases hbig : q < v
                · have fin := Kf (fun ⟨_, b⟩ => by have := hqp.out; have := HV.out; omega)
                  have k3 : decide ((v : Int) > (q : Int)) = true := by simp; omega
                  clear Kf KT hle
                  go_wp2
                  exact fin
                · have k3 : decide ((v : Int) > (q : Int)) = false := by simp; omega
                  have hsm : 10 * v + d < 18446744073709551616 := hqp.out.1 (by omega)
                  have w5 : IntKind.u64.wrap (10 * (v : Int)) = 10 * (v : Int) := by rw [IntKind.wrap_u64]; omega
                  have w6 : IntKind.u64.wrap (10 * (v : Int) + d) = ((10 * v + d : Nat) : Int) := by rw [IntKind.wrap_u64]; omega
                  obtain ⟨u, hu⟩ : ∃ u, u = 10 * v + d := ⟨_, rfl⟩
                  rw [← hu] at w6 hsm
                  have HU : Hid (decV (s.data.toList.take (i + 1)) = u) := (by rw [HV.out, hu] : decV (s.data.toList.take (i + 1)) = u)
                  clear Kf KT hle hu
                  go_wp2
                  go_round
                  case rel => exact ⟨i + 1, hlt, by go_num, by rw [HU.out], by rw [HU.out]; exact hsm, fun b hb => by
                    rw [HT.out, List.mem_append] at hb
                    rcases hb with hb | hb
                    · exact hall b hb
                    · rw [List.mem_singleton.1 hb]; exact hisx⟩
                  case measure => simp [intOf]; omega
              · have fin := Kf (fun ⟨a, _⟩ => by
                  have := (digsOk_spec a).2.1 x hxm
                  unfold isDec at this
                  rw [← hy] at this
                  simp at this
                  omega)
                have k0 : y < 48 ∨ 57 < y := by omega
                clear Kf KT hle hvs hts hx hy hvv hxm hdec hDn
                rcases k0 with k0 | k0
                · have k1 : decide ((y : Int) < 48) = true := by simp; omega
                  go_wp2
                  exact fin
                · have k1 : decide ((y : Int) < 48) = false := by simp; omega
                  have k2 : decide ((y : Int) > 57) = true := by simp; omega
                  have k1' : ¬ y < 48 := by omega
                  go_wp2
                  exact fin
            · have hin : i = s.size := by omega
              have htk : s.data.toList.take i = s.data.toList := List.take_of_length_le (by omega)
              rw [htk] at hv hall ⊢
              have fin := KT.out hall hv
              have hd : decide ((i : Int) < (s.size : Int)) = false := by simp; omega
              clear Kf KT htk hall hDn
              go_wp2
              exact fin
end Go.Proofs.YtjngofngjbjpbaaGreatDoor
end

section
set_option linter.unusedSimpArgs false
set_option linter.unusedVariables false
namespace Go.Proofs.YtjngofngjbjpbaaGreatDoor
open Go.RowKit

/-- bit t of hexadecimal digits -/
def hb (D : List UInt8) (t : Nat) : Nat := dg D (t / 4) / 2 ^ (t % 4) % 2
theorem hb_val (D : List UInt8) (n : Nat) (h : ∀ i, i < n → dg D i < 16) : valB 2 (hb D) (4 * n) = valB 16 (dg D) n := by
  induction n with
  | zero => rfl
  | succ n ih =>
    have h0 : ∀ r, r < 4 → hb D (4 * n + r) = dg D n / 2 ^ r % 2 := fun r hr => by
      unfold hb
      rw [show (4 * n + r) / 4 = n from by omega, show (4 * n + r) % 4 = r from by omega]
    have e : 4 * (n + 1) = 4 * n + 1 + 1 + 1 + 1 := by omega
    rw [e]
    simp only [valB]
    rw [ih (fun i hi => h i (by omega))]
    have h00 := h0 0 (by decide)
    have h1 := h0 1 (by decide)
    have h2 := h0 2 (by decide)
    have h3 := h0 3 (by decide)
    rw [Nat.add_zero] at h00
    rw [h00, h1, show 4 * n + 1 + 1 = 4 * n + 2 from rfl, h2, show 4 * n + 2 + 1 = 4 * n + 3 from rfl, h3]
    have hd := h n (by omega)
    rw [Nat.pow_add, Nat.pow_add, Nat.pow_add, ← pow16]
    generalize 16 ^ n = X
    generalize dg D n = d at hd
    have : d = d / 2 ^ 0 % 2 + 2 * (d / 2 ^ 1 % 2) + 4 * (d / 2 ^ 2 % 2) + 8 * (d / 2 ^ 3 % 2) := by omega
    generalize d / 2 ^ 0 % 2 = a0 at *
    generalize d / 2 ^ 1 % 2 = a1 at *
    generalize d / 2 ^ 2 % 2 = a2 at *
    generalize d / 2 ^ 3 % 2 = a3 at *
    subst this
    simp only [Nat.add_mul]
    rw [show (2 : Nat) ^ 1 = 2 from rfl, show (2 : Nat) ^ 2 = 4 from rfl, show (2 : Nat) ^ 3 = 8 from rfl]
    have m1 : a1 * (X * 2) = 2 * a1 * X := by rw [Nat.mul_comm X, ← Nat.mul_assoc, Nat.mul_comm a1]
    have m2 : a2 * (X * 4) = 4 * a2 * X := by rw [Nat.mul_comm X, ← Nat.mul_assoc, Nat.mul_comm a2]
    have m3 : a3 * (X * 8) = 8 * a3 * X := by rw [Nat.mul_comm X, ← Nat.mul_assoc, Nat.mul_comm a3]
    rw [m1, m2, m3]
    omega

/-- append of four bytes -/
theorem appB4 {P : Program} {ops : Array Oper} {rest : List Oper} {o : Oper} {a : Act} {Q : Exit → Act → World → Prop} {W : World} (base : Nat) (hgd : o.guard = none) (s x : Operand) (t : TypeId)
    (ho : o.op = .call { callee := .builtin .append, args := #[s, x], argTypes := #[t, t] })
    (ht : P.underlying t = some (.slice 5)) (hinfo : (P.info? 5).map (fun i => (i.zero, i.size, i.bytes)) = some (some (.int .u8 0), 1, 1))
    (v : Value) (m : Nat) (f : Nat → Nat) (d0 d1 d2 d3 : Nat) (hs : a.eval s = v) (hx : a.eval x = .slice (some ⟨W.heap.size, 0, none⟩) 4 4)
    (HO : OwnB W base v m f) (hd0 : f m = d0) (hd1 : f (m + 1) = d1) (hd2 : f (m + 2) = d2) (hd3 : f (m + 3) = d3) (hbase : base ≤ W.heap.size) (hl : m + 4 ≤ 140737488355328)
    (h : ∀ v1 w1, OwnB w1 base v1 (m + 4) f → W.grownBy w1 v.ownBlock → wpList P ops Q rest (a.put o.dst v1) w1) :
    wpList P ops Q (o :: rest) a (W.alloc (.cells #[v8 d0, v8 d1, v8 d2, v8 d3] 5)) := by
  obtain ⟨i0, hi, hzz⟩ := Option.map_eq_some_iff.1 hinfo
  simp only [Prod.mk.injEq] at hzz
  obtain ⟨hz0, hz1, hz2⟩ := hzz
  have HO' : W.ownsRow base 5 1 v m ((List.range m).map fun s => v8 (f s)) := HO
  refine wpList_append_own (W.alloc (.cells #[v8 d0, v8 d1, v8 d2, v8 d3] 5)) hgd s x t ho base 5 i0 (.int .u8 0) 1 1 ht hi hz0 hz1 hz2 rfl (by omega) v m ((List.range m).map fun s => v8 (f s)) hs (HO'.alloc _) ⟨W.heap.size, 0, none⟩ 4 4 [v8 d0, v8 d1, v8 d2, v8 d3] hx rfl
    ?_ (by simp [Value.oneCell']) (by simp only [maxLen]; omega) (by omega) (by simp; omega) ?_
  · intro j u hj
    have hj4 : j < 4 := by have := (List.getElem?_eq_some_iff.1 hj).1; simpa using this
    have hadd : (⟨W.heap.size, 0, none⟩ : Addr).add j = ⟨W.heap.size, j, none⟩ := by unfold Addr.add; split <;> simp_all
    rw [hadd, cell_of_blk (blk_1_1 W _)]
    simpa using hj
  · intro v1 w1 hown hg _
    refine h v1 w1 ?_ (World.grownBy.trans (World.grownBy_alloc W _ _) hg)
    unfold OwnB
    have e : (List.range (m + 4)).map (fun s => v8 (f s)) = (List.range m).map (fun s => v8 (f s)) ++ [v8 d0, v8 d1, v8 d2, v8 d3] := by
      rw [show m + 4 = m + 1 + 1 + 1 + 1 from rfl, List.range_succ, List.range_succ, List.range_succ, List.range_succ]
      simp [hd0, hd1, hd2, hd3]
    rw [e]
    exact hown

theorem dg_rev (D : List UInt8) {i j : Nat} (h : i + j + 1 = D.length) : dg D j = hexv (D.getD i 0) := by
  unfold dg
  rw [show D.length - 1 - j = i from by omega]

set_option maxHeartbeats 4000000 in
set_option maxRecDepth 100000 in
theorem unhex_any {R : Ending → World → Prop} (s : ByteArray) (w : World) (hsz : s.size ≤ 1073741824)
    (Kt : digsOk isHex s.data.toList = true → ∀ A n c w', IsBits w' A n c (hexV s.data.toList) → n ≤ 4 * s.size → Ext w w' → R (.returned (.tuple #[.slice A n c, .bool true])) w')
    (Kf : digsOk isHex s.data.toList = false → ∀ w', Ext w w' → R (.returned (.tuple #[.slice none 0 0, .bool false])) w') :
    Calls Tryz.prog 57 #[.string s] w R := by
  obtain ⟨i0, hi0, hz0, hz1, hz2⟩ := info_parts Tryz.info5
  have hlen := str_len s
  by_cases h0 : s.size = 0
  · have hs : s = ⟨#[]⟩ := by
      refine ByteArray.ext ?_
      exact Array.eq_empty_of_size_eq_zero h0
    subst hs
    have fin := Kf (by decide) w (Ext.rfl' w)
    clear Kt Kf hlen
    go_enter Tryz.func57, Tryz.ntmps57
    go_wp2
    exact fin
  · have hE : s.toList.isEmpty = false := by
      rw [ByteArray.toList_eq]
      cases hd : s.data.toList with
      | nil => rw [hd] at hlen; exact absurd hlen h0
      | cons x xs => rfl
    have hE2 : ¬ s.toList = [] := by
      intro e
      rw [e] at hE
      exact absurd hE (by decide)
    obtain ⟨x0, hx0⟩ : ∃ x0, x0 = s.data.toList.getD 0 0 := ⟨_, rfl⟩
    have hat0 : ∀ h, ((s[0]'h).toNat : Int) = (x0.toNat : Int) := fun h => by rw [str_at, hx0]
    have hhead : s.data.toList.head? = some x0 := by
      rw [hx0]
      cases hd : s.data.toList with
      | nil => rw [hd] at hlen; exact absurd hlen h0
      | cons x xs => rfl
    by_cases hz : 1 < s.size ∧ x0 = 48
    · have fin := Kf (by
        rw [Bool.eq_false_iff]
        intro a
        rcases (digsOk_spec a).2.2 with h | h
        · exact h (by rw [hhead, hz.2])
        · rw [h] at hlen; simp at hlen; omega) w (Ext.rfl' w)
      have hd1 : decide ((s.size : Int) > 1) = true := by simp; omega
      have hd1' : 1 < s.size := hz.1
      have hx48 : (x0.toNat : Int) = 48 := by rw [hz.2]; rfl
      clear Kt Kf hlen hx0 hhead hz
      go_enter Tryz.func57, Tryz.ntmps57
      go_wp2
      exact fin
    · have hfirst : s.data.toList.head? ≠ some 48 ∨ s.data.toList = [48] := by
        by_cases e : x0 = 48
        · right
          have h1 : s.data.toList.length = 1 := by
            by_cases h2 : 1 < s.size
            · exact absurd ⟨h2, e⟩ hz
            · omega
          obtain ⟨y, hy⟩ := List.length_eq_one_iff.1 h1
          rw [hy] at hhead ⊢
          simp at hhead
          rw [hhead, e]
        · left; rw [hhead]; simpa using e
      have hguard : (1 < s.size ∧ ((x0.toNat : Int) == 48) = false) ∨ s.size = 1 := by
        by_cases h2 : 1 < s.size
        · left
          refine ⟨h2, ?_⟩
          have : x0 ≠ 48 := fun e => hz ⟨h2, e⟩
          have : x0.toNat ≠ 48 := fun e => this (UInt8.toNat_inj.1 e)
          simp; omega
        · right; omega
      have hgo : ∀ {S : Prop}, ((1 < s.size → ((x0.toNat : Int) == 48) = false → S) ∧ (¬ 1 < s.size → S)) → S := fun {S} ⟨a, b⟩ => by
        rcases hguard with ⟨c, d⟩ | c
        · exact a c d
        · exact b (by omega)
      have hDn : s.data.toList.length = s.size := by omega
      have KT : Hid ((∀ b, b ∈ s.data.toList → isHex b = true) → ∀ A n c w', IsBits w' A n c (hexV s.data.toList) → n ≤ 4 * s.size → Ext w w' → R (.returned (.tuple #[.slice A n c, .bool true])) w') := (fun a => Kt (by
        unfold digsOk
        simp only [Bool.and_eq_true, Bool.not_eq_true', List.isEmpty_eq_false_iff, List.all_eq_true, Bool.or_eq_true, bne_iff_ne, beq_iff_eq]
        exact ⟨⟨fun e => by rw [e] at hDn; simp at hDn; omega, a⟩, hfirst⟩))
      have HDn : Hid (s.data.toList.length = s.size) := hDn
      clear Kt hx0 hhead hz hfirst hguard hDn hlen
      refine hgo ⟨fun g1 g2 => ?_, fun g1 => ?_⟩
      all_goals
        clear hgo
        go_enter Tryz.func57, Tryz.ntmps57
        go_wp2
        go_loopw [4, 5] (fun ov iv wr => ∃ k : Nat, k ≤ s.size ∧ iv = .int .i64 ((k : Int) - 1) ∧ OwnB wr w.heap.size ov (4 * (s.size - k)) (hb s.data.toList) ∧ Ext w wr ∧ (∀ i, k ≤ i → i < s.size → isHex (s.data.toList.getD i 0) = true)) (fun _ iv _ => (intOf iv + 1).toNat)
        case atStart => exact ⟨s.size, Nat.le_refl _, rfl, by rw [Nat.sub_self]; exact OwnB.nil _ _ _, Ext.rfl' _, fun i h1 h2 => by omega⟩
        case round =>
          obtain ⟨k, hk, rfl, ho, hB, hall⟩ := hrel
          have hDn := HDn.out
          have hbase : w.heap.size ≤ wr.heap.size := hB.size
          by_cases hk0 : k = 0
          · subst hk0
            have hmem : ∀ b, b ∈ s.data.toList → isHex b = true := fun b hb => by
              obtain ⟨i, hi, rfl⟩ := List.getElem_of_mem hb
              have := hall i (Nat.zero_le _) (by omega)
              rwa [List.getD_eq_getElem?_getD, List.getElem?_eq_getElem hi] at this
            obtain ⟨A', c', rfl, hcap, hrow⟩ := ho.row
            rw [Nat.sub_zero] at hcap hrow ⊢
            have hval : valB 2 (hb s.data.toList) (4 * s.size) = hexV s.data.toList := by
              rw [hb_val _ _ (fun i hi => dg_lt hmem (by omega))]
              unfold hexV
              rw [hDn]
            have htr := fun (R' : Ending → World → Prop) K' => trimmed_any (R := R') A' (4 * s.size) c' (hb s.data.toList) wr (by omega) hcap hrow (fun j _ => Nat.mod_lt _ (by decide)) K'
            rw [hval] at htr
            have kt := KT.out hmem
            clear hval hrow ho hall hmem hDn KT Kf
            go_wp2_with fail
            refine htr _ ?_
            intro m hm hmn
            have fin := kt _ _ _ _ hm hmn hB
            clear kt htr
            go_wp2
            exact fin
          · obtain ⟨i, hi⟩ : ∃ i, i = k - 1 := ⟨_, rfl⟩
            have hki : k = i + 1 := by omega
            subst hki
            have hlt : i < s.size := by omega
            obtain ⟨x, hx⟩ : ∃ x, x = s.data.toList.getD i 0 := ⟨_, rfl⟩
            have hat : ∀ h, ((s[i]'h).toNat : Int) = (x.toNat : Int) := fun h => by rw [str_at, hx]
            have hxm : x ∈ s.data.toList := by
              rw [hx, List.getD_eq_getElem?_getD, List.getElem?_eq_getElem (by omega)]
              exact List.getElem_mem _
            have hdg := dg_rev s.data.toList (i := i) (j := s.size - (i + 1)) (by omega)
            rw [← hx] at hdg
            have hi1 : (((i + 1 : Nat) : Int) - 1) = (i : Int) := by omega
            rw [hi1]
            obtain ⟨y, hy⟩ : ∃ y, y = x.toNat := ⟨_, rfl⟩
            have hyl : y < 256 := by rw [hy]; exact x.toNat_lt
            rw [← hy] at hat
            by_cases hhex : isHex x = true
            · obtain ⟨d, hd⟩ : ∃ d, d = hexv x := ⟨_, rfl⟩
              have hd16 : d < 16 := by rw [hd]; exact (hexv_of hhex).2
              have hdy : (48 ≤ y ∧ y ≤ 57 ∧ d = y - 48) ∨ (97 ≤ y ∧ y ≤ 102 ∧ d = y - 87) := by
                unfold isHex at hhex
                unfold hexv at hd
                rw [← hy] at hhex hd
                simp only [Bool.or_eq_true, Bool.and_eq_true, decide_eq_true_eq] at hhex
                rcases hhex with h | h
                · left; rw [if_pos h.2] at hd; omega
                · right; rw [if_neg (by omega)] at hd; omega
              rw [← hd] at hdg
              obtain ⟨M, hM⟩ : ∃ M, M = 4 * (s.size - (i + 1)) := ⟨_, rfl⟩
              have hbits : ∀ r, r < 4 → hb s.data.toList (M + r) = d / 2 ^ r % 2 := fun r hr => by
                unfold hb
                rw [show (M + r) / 4 = s.size - (i + 1) from by omega, show (M + r) % 4 = r from by omega, hdg]
              obtain ⟨d0, e0⟩ : ∃ d0, d0 = d % 2 := ⟨_, rfl⟩
              obtain ⟨d1, e1⟩ : ∃ d1, d1 = d / 2 % 2 := ⟨_, rfl⟩
              obtain ⟨d2, e2⟩ : ∃ d2, d2 = d / 4 % 2 := ⟨_, rfl⟩
              obtain ⟨d3, e3⟩ : ∃ d3, d3 = d / 8 := ⟨_, rfl⟩
              have b0 : hb s.data.toList M = d0 := by have := hbits 0 (by decide); rw [Nat.add_zero] at this; rw [this, e0]; simp
              have b1 : hb s.data.toList (M + 1) = d1 := by rw [hbits 1 (by decide), e1]
              have b2 : hb s.data.toList (M + 2) = d2 := by rw [hbits 2 (by decide), e2]
              have b3 : hb s.data.toList (M + 3) = d3 := by rw [hbits 3 (by decide), e3, show (2 : Nat) ^ 3 = 8 from rfl]; omega
              have hone : M + 4 ≤ 140737488355328 := by omega
              have hMn : Hid (4 * (s.size - i) = M + 4) := (by omega : 4 * (s.size - i) = M + 4)
              have hall' : Hid (∀ i', i ≤ i' → i' < s.size → isHex (s.data.toList.getD i' 0) = true) := (fun i' h1 h2 => by
                by_cases e : i' = i
                · rw [e, ← hx]; exact hhex
                · exact hall i' (by omega) h2 : ∀ i', i ≤ i' → i' < s.size → isHex (s.data.toList.getD i' 0) = true)
              rw [← hM] at ho
              obtain ⟨q1, f1⟩ : ∃ q1, q1 = d / 2 := ⟨_, rfl⟩
              obtain ⟨q2, f2⟩ : ∃ q2, q2 = d / 4 := ⟨_, rfl⟩
              have t0 : ((d : Int)).tmod 2 = (d0 : Int) := by rw [Int.tmod_eq_emod_of_nonneg (by omega)]; omega
              have t1 : IntKind.u8.wrap (((d : Int)).tdiv 2) = (q1 : Int) := by rw [Int.tdiv_eq_ediv_of_nonneg (by omega), IntKind.wrap_u8]; omega
              have t2 : ((q1 : Int)).tmod 2 = (d1 : Int) := by rw [Int.tmod_eq_emod_of_nonneg (by omega)]; omega
              have t3 : IntKind.u8.wrap (((d : Int)).tdiv 4) = (q2 : Int) := by rw [Int.tdiv_eq_ediv_of_nonneg (by omega), IntKind.wrap_u8]; omega
              have t4 : ((q2 : Int)).tmod 2 = (d2 : Int) := by rw [Int.tmod_eq_emod_of_nonneg (by omega)]; omega
              have t5 : IntKind.u8.wrap (((d : Int)).tdiv 8) = (d3 : Int) := by rw [Int.tdiv_eq_ediv_of_nonneg (by omega), IntKind.wrap_u8]; omega
              have u0 : ((d : Int)) % 2 = (d0 : Int) := by omega
              have u1 : IntKind.u8.wrap (((d : Int)) / 2) = (q1 : Int) := by rw [IntKind.wrap_u8]; omega
              have u2 : ((q1 : Int)) % 2 = (d1 : Int) := by omega
              have u3 : IntKind.u8.wrap (((d : Int)) / 4) = (q2 : Int) := by rw [IntKind.wrap_u8]; omega
              have u4 : ((q2 : Int)) % 2 = (d2 : Int) := by omega
              have u5 : IntKind.u8.wrap (((d : Int)) / 8) = (d3 : Int) := by rw [IntKind.wrap_u8]; omega
              have v0 : IntKind.u8.wrap (d0 : Int) = (d0 : Int) := wrap8 _ (by omega) (by omega)
              have v1 : IntKind.u8.wrap (d1 : Int) = (d1 : Int) := wrap8 _ (by omega) (by omega)
              have v2 : IntKind.u8.wrap (d2 : Int) = (d2 : Int) := wrap8 _ (by omega) (by omega)
              have g0 : d0 < 2 := by omega
              have g1' : d1 < 2 := by omega
              have g2' : d2 < 2 := by omega
              have g3' : d3 < 2 := by omega
              rcases hdy with ⟨y1, y2, y3⟩ | ⟨y1, y2, y3⟩
              · have w1 : IntKind.u8.wrap ((y : Int) - 48) = (d : Int) := by rw [IntKind.wrap_u8]; omega
                have k1 : decide ((y : Int) ≥ 48) = true := by simp; omega
                have k2 : decide ((y : Int) ≤ 57) = true := by simp; omega
                clear hd hdg hx hy hxm hhex e0 e1 e2 e3 f1 f2 hbits hM y3 hall KT Kf hDn hi
                go_wp2_with (at_builtin; go_loud (refine appB4 (W := wr) w.heap.size rfl (.tmp 49) (.tmp 60) 28 rfl Tryz.underlying28 Tryz.info5 _ M (hb s.data.toList) d0 d1 d2 d3 rfl rfl ho b0 b1 b2 b3 hbase hone ?_); go_loud (intro v9 w9 ho9 hg9; have hB9 : Ext w w9 := Below.grown hB hg9 hbase (fun k hk => (ho.lt k hk).1)))
                go_roundw
                case rel => exact ⟨i, by omega, by go_num, by rw [hMn.out]; exact ho9, hB9, hall'.out⟩
                case measure => first | (simp [intOf]; done) | (simp [intOf]; omega)
              · have w1 : IntKind.u8.wrap ((y : Int) - 97) = ((y - 97 : Nat) : Int) := by rw [IntKind.wrap_u8]; omega
                obtain ⟨z, hz⟩ : ∃ z, z = y - 97 := ⟨_, rfl⟩
                rw [← hz] at w1
                have w2 : IntKind.u8.wrap ((z : Int) + 10) = (d : Int) := by rw [IntKind.wrap_u8]; omega
                have k1 : decide ((y : Int) ≥ 48) = true := by simp; omega
                have k2 : decide ((y : Int) ≤ 57) = false := by simp; omega
                have k3 : decide ((y : Int) ≥ 97) = true := by simp; omega
                have k4 : decide ((y : Int) ≤ 102) = true := by simp; omega
                have hzl : z < 6 := by omega
                clear hd hdg hx hy hxm hhex e0 e1 e2 e3 f1 f2 hbits hM y3 hall KT Kf hDn hi hz
                go_wp2_with (at_builtin; go_loud (refine appB4 (W := wr) w.heap.size rfl (.tmp 49) (.tmp 60) 28 rfl Tryz.underlying28 Tryz.info5 _ M (hb s.data.toList) d0 d1 d2 d3 rfl rfl ho b0 b1 b2 b3 hbase hone ?_); go_loud (intro v9 w9 ho9 hg9; have hB9 : Ext w w9 := Below.grown hB hg9 hbase (fun k hk => (ho.lt k hk).1)))
                go_roundw
                case rel => exact ⟨i, by omega, by go_num, by rw [hMn.out]; exact ho9, hB9, hall'.out⟩
                case measure => first | (simp [intOf]; done) | (simp [intOf]; omega)
            · have fin := Kf (by
                rw [Bool.eq_false_iff]
                intro a
                exact hhex ((digsOk_spec a).2.1 x hxm)) wr hB
              have hy2 : y < 48 ∨ (57 < y ∧ y < 97) ∨ 102 < y := by
                unfold isHex at hhex
                rw [← hy] at hhex
                simp only [Bool.or_eq_true, Bool.and_eq_true, decide_eq_true_eq] at hhex
                omega
              clear hdg hx hy hxm hhex hall KT Kf hDn hi ho
              rcases hy2 with y1 | ⟨y1, y2⟩ | y1
              · have k1 : decide ((y : Int) ≥ 48) = false := by simp; omega
                have k3 : decide ((y : Int) ≥ 97) = false := by simp; omega
                go_wp2
                exact fin
              · have k1 : decide ((y : Int) ≥ 48) = true := by simp; omega
                have k2 : decide ((y : Int) ≤ 57) = false := by simp; omega
                have k3 : decide ((y : Int) ≥ 97) = false := by simp; omega
                go_wp2
                exact fin
              · have k1 : decide ((y : Int) ≥ 48) = true := by simp; omega
                have k2 : decide ((y : Int) ≤ 57) = false := by simp; omega
                have k3 : decide ((y : Int) ≥ 97) = true := by simp; omega
                have k4 : decide ((y : Int) ≤ 102) = false := by simp; omega
                go_wp2
                exact fin
end Go.Proofs.YtjngofngjbjpbaaGreatDoor
end
