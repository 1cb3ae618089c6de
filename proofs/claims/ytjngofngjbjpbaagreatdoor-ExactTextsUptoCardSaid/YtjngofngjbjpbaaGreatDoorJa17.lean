/- numbers' texts, there and back: plain. a sum's text, there and back: plain. -/
import Derived.Test.YtjngofngjbjpbaaGreatDoorJa15
import Derived.Test.YtjngofngjbjpbaaGreatDoorJa14

section
set_option linter.unusedSimpArgs false
set_option linter.unusedVariables false
namespace Go.Proofs.YtjngofngjbjpbaaGreatDoor
open Go.RowKit

theorem snocRec {P : List UInt8 → Prop} (h0 : P []) (h1 : ∀ r b, P r → P (r ++ [b])) (l : List UInt8) : P l := by
  have : ∀ n (l : List UInt8), l.length = n → P l := by
    intro n
    induction n with
    | zero => intro l hl; rw [List.length_eq_zero_iff.1 hl]; exact h0
    | succ n ih =>
      intro l hl
      rcases List.eq_nil_or_concat l with e | ⟨r, b, e⟩
      · rw [e]; exact h0
      · rw [List.concat_eq_append] at e
        rw [e] at hl ⊢
        exact h1 r b (ih r (by simpa using hl))
  exact this _ l rfl
theorem byteAll {p : UInt8 → Prop} [DecidablePred p] (h : ∀ n : Fin 256, p (UInt8.ofNat n.val)) (b : UInt8) : p b := by
  have := h ⟨b.toNat, b.toNat_lt⟩
  simpa using this
theorem digAll : ∀ d : Fin 16, isHex (hexc d.val).toUInt8 = true ∧ hexv (hexc d.val).toUInt8 = d.val ∧ (hexc d.val).toUInt8 ≠ 32 ∧ (hexc d.val).toUInt8 ≠ 45 ∧ ((hexc d.val).toUInt8 = 48 ↔ d.val = 0) := by decide +kernel
theorem hexcAll : ∀ n : Fin 256, isHex (UInt8.ofNat n.val) = true → (hexc (hexv (UInt8.ofNat n.val))).toUInt8 = UInt8.ofNat n.val ∧ hexv (UInt8.ofNat n.val) < 16 := by decide +kernel
theorem hexc_hexv {b : UInt8} (h : isHex b = true) : (hexc (hexv b)).toUInt8 = b ∧ hexv b < 16 := by
  have := hexcAll ⟨b.toNat, b.toNat_lt⟩
  simp only [UInt8.ofNat_toNat] at this
  exact this h
theorem dg_hexD {V m i : Nat} (h : i < m) : dg (hexD V m) i = V / 16 ^ i % 16 := by
  unfold dg
  have h1 := hexD_at V m (m - 1 - i) (by omega)
  rw [hexD_len, List.getD_eq_getElem?_getD, h1, Option.getD_some, show m - 1 - (m - 1 - i) = i from by omega]
  unfold nib
  exact (digAll ⟨_, Nat.mod_lt _ (by decide)⟩).2.1
theorem valB_mod (B V n : Nat) : valB B (fun i => V / B ^ i % B) n = V % B ^ n := by
  induction n with
  | zero => simp [valB, Nat.mod_one]
  | succ n ih => simp only [valB]; rw [ih, Nat.pow_succ, Nat.mod_mul, Nat.mul_comm]
theorem hexV_hexD {V m : Nat} (h : V < 16 ^ m) : hexV (hexD V m) = V := by
  unfold hexV
  rw [hexD_len, valB_congr 16 m (fun i hi => dg_hexD hi), valB_mod, Nat.mod_eq_of_lt h]
theorem hexL_len_pos (V : Nat) : 0 < (hexL V).length := by
  unfold hexL
  split
  · simp
  · rename_i h
    have := bl_pos h
    rw [hexD_len]; omega
theorem hexL_hex (V : Nat) : ∀ b, b ∈ hexL V → isHex b = true ∧ b ≠ 32 ∧ b ≠ 45 := by
  intro b hb
  unfold hexL at hb
  split at hb
  · simp at hb; subst hb; decide
  · simp only [hexD, List.mem_map] at hb
    obtain ⟨i, _, rfl⟩ := hb
    have := digAll ⟨_, Nat.mod_lt (V / 16 ^ ((bl V + 3) / 4 - 1 - i)) (by decide : 0 < 16)⟩
    exact ⟨this.1, this.2.2.1, this.2.2.2.1⟩
theorem hexV_hexL (V : Nat) : hexV (hexL V) = V := by
  unfold hexL
  split
  · rename_i h; subst h; decide
  · exact hexV_hexD (hex_len_lt V)
theorem hexL_head {V : Nat} (h : V ≠ 0) : (hexL V).head? ≠ some 48 := by
  have h1 := bl_pos h
  have h2 := nib_first h
  unfold hexL
  rw [if_neg h, List.head?_eq_getElem?, hexD_at _ _ _ (by omega), Nat.sub_zero]
  intro e
  have := toUInt8_inj (Nat.lt_of_lt_of_le (nib_lt _ _) (by decide)) (by decide) (Option.some.inj e : _ = (48 : Nat).toUInt8)
  exact h2 this
theorem hexL_ok (V : Nat) : digsOk isHex (hexL V) = true := by
  have h1 := hexL_len_pos V
  have h2 := fun b hb => (hexL_hex V b hb).1
  unfold digsOk
  by_cases h : V = 0
  · subst h; decide
  · have h3 := hexL_head h
    cases hl : hexL V with
    | nil => rw [hl] at h1; simp at h1
    | cons x xs =>
      rw [hl] at h2 h3
      simp only [List.head?_cons, Option.some.injEq, ne_eq] at h3
      simp only [List.isEmpty_cons, Bool.not_false, Bool.true_and, List.head?_cons, Bool.and_eq_true, List.all_eq_true, Bool.or_eq_true, bne_iff_ne, ne_eq, Option.some.injEq]
      exact ⟨fun b hb => h2 b hb, Or.inl h3⟩
theorem digsOk_spec {p : UInt8 → Bool} {l : List UInt8} (h : digsOk p l = true) : l ≠ [] ∧ (∀ b, b ∈ l → p b = true) ∧ (l.head? ≠ some 48 ∨ l = [48]) := by
  unfold digsOk at h
  simp only [Bool.and_eq_true, Bool.not_eq_true', List.isEmpty_eq_false_iff, List.all_eq_true, Bool.or_eq_true, bne_iff_ne, beq_iff_eq] at h
  exact ⟨h.1.1, h.1.2, h.2⟩
theorem dg_top {D : List UInt8} (h : ∀ b, b ∈ D → isHex b = true) (h0 : D ≠ []) (h1 : D.head? ≠ some 48) : dg D (D.length - 1) ≠ 0 := by
  cases D with
  | nil => exact absurd rfl h0
  | cons x xs =>
    unfold dg
    rw [show (x :: xs).length - 1 - ((x :: xs).length - 1) = 0 from by omega]
    simp only [List.getD_cons_zero]
    intro e
    have h2 := (hexc_hexv (h x (by simp))).1
    rw [e] at h2
    apply h1
    rw [List.head?_cons, ← h2]
    rfl
theorem hexL_hexV {D : List UInt8} (h : digsOk isHex D = true) : hexL (hexV D) = D := by
  obtain ⟨h0, h1, h2⟩ := digsOk_spec h
  by_cases e : D = [48]
  · subst e; decide
  · have h3 : D.head? ≠ some 48 := h2.resolve_right e
    have h4 := dg_top h1 h0 h3
    have hl : 0 < D.length := by cases D with | nil => exact absurd rfl h0 | cons x xs => simp
    have hge := valB_ge (B := 16) (f := dg D) (n := D.length) hl h4
    have hlt : hexV D < 16 ^ D.length := valB_lt (B := 16) D.length (fun i hi => dg_lt h1 hi)
    have hV : hexV D ≠ 0 := by
      have := valB_pos (B := 16) (f := dg D) (n := D.length) (by decide) hl h4
      unfold hexV; omega
    have hbl : (bl (hexV D) + 3) / 4 = D.length := by
      have b1 : bl (hexV D) ≤ 4 * D.length := by rw [bl_le_iff, ← pow16]; exact hlt
      have b2 : ¬ bl (hexV D) ≤ 4 * (D.length - 1) := fun hh => by
        rw [bl_le_iff, ← pow16] at hh
        exact absurd hh (by unfold hexV; omega)
      omega
    unfold hexL
    rw [if_neg hV, hbl]
    refine List.ext_getElem? fun i => ?_
    by_cases hi : i < D.length
    · rw [hexD_at _ _ _ hi, List.getElem?_eq_getElem hi]
      congr 1
      have hv := nib_valB h1 (i := D.length - 1 - i) (by omega)
      rw [hv]
      unfold dg
      rw [show D.length - 1 - (D.length - 1 - i) = i from by omega, List.getD_eq_getElem?_getD, List.getElem?_eq_getElem hi, Option.getD_some]
      exact (hexc_hexv (h1 _ (List.getElem_mem _))).1
    · rw [List.getElem?_eq_none (by rw [hexD_len]; omega), List.getElem?_eq_none (by omega)]
where
  nib_valB {D : List UInt8} (h1 : ∀ b, b ∈ D → isHex b = true) {i : Nat} (hi : i < D.length) : nib (hexV D) i = hexc (dg D i) := by
    unfold nib hexV
    congr 1
    generalize hn : D.length = n at hi
    have hd : ∀ i, i < n → dg D i < 16 := fun i hi => dg_lt h1 (by omega)
    clear hn
    induction n with
    | zero => omega
    | succ n ih =>
      simp only [valB]
      by_cases e : i = n
      · subst e
        rw [Nat.add_mul_div_right _ _ (Nat.pow_pos (by decide)), Nat.div_eq_of_lt (valB_lt i fun k hk => hd k (by omega)), Nat.zero_add, Nat.mod_eq_of_lt (hd i hi)]
      · have e2 : dg D n * 16 ^ n = dg D n * 16 ^ (n - i - 1) * 16 * 16 ^ i := by
          rw [Nat.mul_assoc, Nat.mul_assoc, ← Nat.pow_succ', ← Nat.pow_add]
          congr 2; omega
        rw [e2, Nat.add_mul_div_right _ _ (Nat.pow_pos (by decide)), Nat.add_mul_mod_self_right, ih (by omega) (fun k hk => hd k (by omega))]
theorem hexV_zero {D : List UInt8} (h : digsOk isHex D = true) : hexV D = 0 ↔ D = [48] := by
  constructor
  · intro e
    rw [← hexL_hexV h, e]; rfl
  · rintro rfl; decide

/-! decimals -/
theorem decV_snoc (l : List UInt8) (b : UInt8) : decV (l ++ [b]) = 10 * decV l + (b.toNat - 48) := by unfold decV; rw [List.foldl_append]; rfl
theorem ofNat48 {d : Nat} (h : d < 10) : (UInt8.ofNat (48 + d)).toNat = 48 + d := by
  rw [UInt8.toNat_ofNat']; omega
theorem decDigits_big {u : Nat} (h : ¬ u < 10) : Lib.decDigits u = Lib.decDigits (u / 10) ++ [UInt8.ofNat (48 + u % 10)] := by rw [Lib.decDigits, dif_neg h]
theorem decV_decDigits (u : Nat) : decV (Lib.decDigits u) = u := by
  induction u using Nat.strongRecOn with
  | _ u ih =>
    by_cases h : u < 10
    · rw [Lib.decDigits_one h]
      show 10 * 0 + ((UInt8.ofNat (48 + u)).toNat - 48) = u
      rw [ofNat48 h]; omega
    · rw [decDigits_big h, decV_snoc, ih (u / 10) (by omega), ofNat48 (Nat.mod_lt _ (by decide))]
      omega
theorem decDigits_mem (u : Nat) : ∀ b, b ∈ Lib.decDigits u → isDec b = true ∧ b ≠ 32 := by
  induction u using Nat.strongRecOn with
  | _ u ih =>
    have one : ∀ d, d < 10 → isDec (UInt8.ofNat (48 + d)) = true ∧ UInt8.ofNat (48 + d) ≠ 32 := fun d hd => by
      have : ∀ d : Fin 10, isDec (UInt8.ofNat (48 + d.val)) = true ∧ UInt8.ofNat (48 + d.val) ≠ 32 := by decide
      exact this ⟨d, hd⟩
    intro b hb
    by_cases h : u < 10
    · rw [Lib.decDigits_one h] at hb
      obtain rfl := List.mem_singleton.1 hb
      exact one u h
    · rw [decDigits_big h, List.mem_append] at hb
      rcases hb with hb | hb
      · exact ih (u / 10) (by omega) b hb
      · obtain rfl := List.mem_singleton.1 hb
        exact one (u % 10) (Nat.mod_lt _ (by decide))
theorem decDigits_ne (u : Nat) : Lib.decDigits u ≠ [] := by
  intro e
  have := Lib.nDigits_pos u
  rw [← Lib.decDigits_length, e] at this
  simp at this
theorem decDigits_head {u : Nat} (h : u ≠ 0) : (Lib.decDigits u).head? ≠ some 48 := by
  induction u using Nat.strongRecOn with
  | _ u ih =>
    by_cases h1 : u < 10
    · rw [Lib.decDigits_one h1]
      have : ∀ d : Fin 10, d.val ≠ 0 → UInt8.ofNat (48 + d.val) ≠ 48 := by decide
      simpa using this ⟨u, h1⟩ h
    · rw [decDigits_big h1, List.head?_append]
      have := ih (u / 10) (by omega) (by omega)
      cases hd : Lib.decDigits (u / 10) with
      | nil => exact absurd hd (decDigits_ne _)
      | cons x xs => rw [hd] at this; simpa using this
theorem decDigits_ok (u : Nat) : digsOk isDec (Lib.decDigits u) = true := by
  by_cases h : u = 0
  · subst h; rw [Lib.decDigits_one (by decide)]; decide
  · have h1 := decDigits_ne u
    have h2 := fun b hb => (decDigits_mem u b hb).1
    have h3 := decDigits_head h
    unfold digsOk
    simp only [Bool.and_eq_true, Bool.not_eq_true', List.isEmpty_eq_false_iff, List.all_eq_true, Bool.or_eq_true, bne_iff_ne, beq_iff_eq]
    exact ⟨⟨h1, h2⟩, Or.inl h3⟩
theorem isDec_dig {b : UInt8} (h : isDec b = true) : b.toNat - 48 < 10 ∧ UInt8.ofNat (48 + (b.toNat - 48)) = b := by
  unfold isDec at h
  simp only [Bool.and_eq_true, decide_eq_true_eq] at h
  refine ⟨by omega, ?_⟩
  rw [show 48 + (b.toNat - 48) = b.toNat from by omega]
  simp
theorem decV_append_ge (l r : List UInt8) : decV l ≤ decV (l ++ r) := by
  refine snocRec (P := fun r => decV l ≤ decV (l ++ r)) (by simp) (fun r b ih => ?_) r
  rw [← List.append_assoc, decV_snoc]; omega
theorem decV_pos {l : List UInt8} (hd : ∀ b, b ∈ l → isDec b = true) (h0 : l ≠ []) (h1 : l.head? ≠ some 48) : 10 ^ (l.length - 1) ≤ decV l := by
  revert hd h0 h1
  refine snocRec (P := fun l => (∀ b, b ∈ l → isDec b = true) → l ≠ [] → l.head? ≠ some 48 → 10 ^ (l.length - 1) ≤ decV l) (fun _ h0 _ => absurd rfl h0) ?_ l
  · intro r b ih hd h0 h1
    rw [decV_snoc]
    by_cases hr : r = []
    · subst hr
      have h2 := hd b (by simp)
      unfold isDec at h2
      simp only [Bool.and_eq_true, decide_eq_true_eq] at h2
      have h3 : b.toNat ≠ 48 := fun e => h1 (by
        simp
        exact UInt8.toNat_inj.1 e)
      simp
      omega
    · have h2 := ih (fun b hb => hd b (by simp [hb])) hr (by
        cases r with
        | nil => exact absurd rfl hr
        | cons x xs => simpa using h1)
      have hl : 0 < r.length := by cases r with | nil => exact absurd rfl hr | cons x xs => simp
      rw [List.length_append, List.length_singleton, Nat.add_sub_cancel]
      have : 10 ^ r.length = 10 * 10 ^ (r.length - 1) := by rw [← Nat.pow_succ']; congr 1; omega
      omega
theorem decDigits_decV {l : List UInt8} (h : digsOk isDec l = true) : Lib.decDigits (decV l) = l := by
  obtain ⟨h0, h1, h2⟩ := digsOk_spec h
  by_cases e : l = [48]
  · subst e
    rw [show decV [48] = 0 from rfl, Lib.decDigits_one (by decide)]; rfl
  · have h3 := h2.resolve_right e
    clear h h2 e
    revert h0 h1 h3
    refine snocRec (P := fun l => l ≠ [] → (∀ b, b ∈ l → isDec b = true) → l.head? ≠ some 48 → Lib.decDigits (decV l) = l) (fun h0 _ _ => absurd rfl h0) ?_ l
    · intro r b ih h0 h1 h3
      have hb := isDec_dig (h1 b (by simp))
      rw [decV_snoc]
      by_cases hr : r = []
      · subst hr
        rw [show decV [] = 0 from rfl, Nat.mul_zero, Nat.zero_add, Lib.decDigits_one hb.1, hb.2]
        rfl
      · have hh : r.head? ≠ some 48 := by
          cases r with
          | nil => exact absurd rfl hr
          | cons x xs => simpa using h3
        have hd := fun b hb => h1 b (List.mem_append_left _ hb)
        have hp := decV_pos hd hr hh
        have : 0 < 10 ^ (r.length - 1) := Nat.pow_pos (by decide)
        rw [decDigits_big (by omega), show (10 * decV r + (b.toNat - 48)) / 10 = decV r from by omega, show (10 * decV r + (b.toNat - 48)) % 10 = b.toNat - 48 from by omega, hb.2, ih hr hd hh]
theorem parseUint_spec (l : List UInt8) (u : Nat) : Lib.parseUintB 64 l = .ok u ↔ l ≠ [] ∧ (∀ b, b ∈ l → isDec b = true) ∧ decV l < 18446744073709551616 ∧ u = decV l := by
  have hM : ∀ (l : List UInt8) (acc u : Nat), Lib.parseUintM 18446744073709551615 acc l = .ok u ↔ (∀ b, b ∈ l → isDec b = true) ∧ (l = [] ∨ l.foldl (fun n b => 10 * n + (b.toNat - 48)) acc < 18446744073709551616) ∧ u = l.foldl (fun n b => 10 * n + (b.toNat - 48)) acc := by
    intro l
    have hmono : ∀ (l : List UInt8) (a : Nat), a ≤ l.foldl (fun n b => 10 * n + (b.toNat - 48)) a := fun l => by
      induction l with
      | nil => intro a; exact Nat.le_refl _
      | cons c r ih => intro a; rw [List.foldl_cons]; have := ih (10 * a + (c.toNat - 48)); omega
    induction l with
    | nil => intro acc u; simp only [Lib.parseUintM, List.not_mem_nil, false_imp_iff, implies_true, true_or, true_and, List.foldl_nil, Lib.NumEnd.ok.injEq]; exact eq_comm
    | cons c r ih =>
      intro acc u
      have hm := hmono r (10 * acc + (c.toNat - 48))
      simp only [Lib.parseUintM, List.foldl_cons]
      by_cases hc : 48 ≤ c.toNat ∧ c.toNat ≤ 57
      · have hc' : isDec c = true := by unfold isDec; simp [hc]
        rw [if_pos hc]
        by_cases h1 : 1844674407370955162 ≤ acc
        · rw [if_pos h1]
          simp
          intro _ _; omega
        · rw [if_neg h1]
          by_cases h2 : 18446744073709551615 < acc * 10 + (c.toNat - 48)
          · rw [if_pos h2]
            simp
            intro _ _; omega
          · rw [if_neg h2, Nat.mul_comm acc 10, ih]
            simp only [List.mem_cons, forall_eq_or_imp, hc', true_and, List.cons_ne_nil, false_or, reduceCtorEq]
            constructor
            · rintro ⟨a, b, e⟩
              refine ⟨a, ?_, e⟩
              rcases b with rfl | b
              · simp; omega
              · exact b
            · rintro ⟨a, b, e⟩
              exact ⟨a, Or.inr b, e⟩
      · have hc' : isDec c = false := by unfold isDec; simp; omega
        rw [if_neg hc]
        simp [hc']
  unfold Lib.parseUintB
  by_cases h : l = []
  · subst h; simp
  · rw [if_neg h, show (2 : Nat) ^ 64 - 1 = 18446744073709551615 from by decide, hM]
    unfold decV
    simp [h]
theorem dec_short {l : List UInt8} (h : digsOk isDec l = true) (hv : decV l < 18446744073709551616) : l.length ≤ 20 := by
  obtain ⟨h0, h1, h2⟩ := digsOk_spec h
  rcases h2 with h2 | rfl
  · have := decV_pos h1 h0 h2
    by_cases hl : l.length ≤ 20
    · exact hl
    · have h3 : 10 ^ 20 ≤ 10 ^ (l.length - 1) := Nat.pow_le_pow_right (by decide) (by omega)
      have h4 : (10 : Nat) ^ 20 = 100000000000000000000 := by decide
      omega
  · simp
end Go.Proofs.YtjngofngjbjpbaaGreatDoor
end

section
set_option linter.unusedSimpArgs false
set_option linter.unusedVariables false
namespace Go.Proofs.YtjngofngjbjpbaaGreatDoor
open Go.RowKit

def words4 (s : SumS) : List ByteArray :=
  ((([hexS (decide (s.z < 0)) s.z.natAbs] ++ (if s.plus = true then [⟨#[43, 105, 110, 102]⟩] else [])) ++ (if s.minus = true then [⟨#[45, 105, 110, 102]⟩] else [])) ++ (if s.nan = true then [⟨#[110, 97, 110]⟩] else []))
theorem words4_len (s : SumS) : (words4 s).length ≤ 100 := by unfold words4; simp; split <;> split <;> split <;> simp
def wordsS (s : SumS) : List ByteArray :=
  (words4 s ++ (if (decide (0 < s.count) && !s.other) = true then [⟨#[45, 48]⟩] else [])) ++ [⟨(Lib.decDigits s.count).toArray⟩]
/-- a sum's text -/
def textS (s : SumS) : ByteArray := ⟨(Lib.join ((wordsS s).map fun x => x.data.toList) [32]).toArray⟩

/-- the marks of a sum's text -/
def marksL (s : SumS) : List (List UInt8) :=
  (if s.plus = true then [wP] else []) ++ ((if s.minus = true then [wM] else []) ++ ((if s.nan = true then [wN] else []) ++ (if (decide (0 < s.count) && !s.other) = true then [wZ] else [])))
def firstL (s : SumS) : List UInt8 := (if decide (s.z < 0) then [45] else []) ++ hexL s.z.natAbs
def partsL (s : SumS) : List (List UInt8) := firstL s :: (marksL s ++ [Lib.decDigits s.count])
theorem wordsS_data (s : SumS) : (wordsS s).map (fun x => x.data.toList) = partsL s := by
  unfold wordsS words4 partsL firstL marksL hexS
  cases s.plus <;> cases s.minus <;> cases s.nan <;> cases (decide (0 < s.count) && !s.other) <;> simp
theorem textS_data (s : SumS) : (textS s).data.toList = Lib.join (partsL s) [32] := by unfold textS; rw [wordsS_data]

theorem wordsL_one {x : List UInt8} (h : ∀ b, b ∈ x → b ≠ 32) : wordsL x = [x] := by
  induction x with
  | nil => rfl
  | cons b r ih =>
    simp only [wordsL]
    rw [if_neg (h b (by simp)), ih (fun b hb => h b (by simp [hb]))]
    rfl
theorem wordsL_app {x : List UInt8} (h : ∀ b, b ∈ x → b ≠ 32) (r : List UInt8) : wordsL (x ++ 32 :: r) = x :: wordsL r := by
  induction x with
  | nil => simp [wordsL]
  | cons b x ih =>
    simp only [List.cons_append, wordsL]
    rw [if_neg (h b (by simp)), ih (fun b hb => h b (by simp [hb]))]
    rfl
theorem wordsL_join (x : List UInt8) (xs : List (List UInt8)) (h : ∀ y, y ∈ x :: xs → ∀ b, b ∈ y → b ≠ 32) : wordsL (Lib.join (x :: xs) [32]) = x :: xs := by
  rw [Lib.join_cons]
  induction xs generalizing x with
  | nil => simp only [Lib.joinTail, List.map_nil, List.flatten_nil, List.append_nil]; exact wordsL_one (h x (by simp))
  | cons y r ih =>
    have e : x ++ Lib.joinTail [32] (y :: r) = x ++ 32 :: (y ++ Lib.joinTail [32] r) := by simp [Lib.joinTail]
    rw [e, wordsL_app (h x (by simp)), ih y (fun z hz => h z (by simp only [List.mem_cons] at hz ⊢; exact Or.inr hz))]
theorem join_wordsL (l : List UInt8) : Lib.join (wordsL l) [32] = l := by
  induction l with
  | nil => simp [wordsL, Lib.join_one]
  | cons b r ih =>
    simp only [wordsL]
    have h := wordsL_cons r
    by_cases e : b = 32
    · rw [if_pos e, Lib.join_cons, List.nil_append]
      have : Lib.joinTail [32] (wordsL r) = 32 :: Lib.join (wordsL r) [32] := by
        rw [← h, Lib.join_cons]; simp [Lib.joinTail]
      rw [this, ih, e]
    · rw [if_neg e, Lib.join_cons]
      rw [← h, Lib.join_cons] at ih
      rw [List.cons_append, ih]

/-- a sum as it comes about -/
def Valid (s : SumS) : Prop := s.count < 18446744073709551616 ∧ (s.other = false → s.z = 0 ∧ s.plus = false ∧ s.minus = false ∧ s.nan = false) ∧ (s.count = 0 → s = zeroS)
/-- a sum's text, read -/
def parseL (ws : List (List UInt8)) : Option SumS :=
  if ws.length < 2 then none
  else if digsOk isHex (noNeg (ws.headD [])) = true ∧ digsOk isDec (ws.getLastD []) = true ∧ decV (ws.getLastD []) < 18446744073709551616 ∧ ws.headD [] ≠ [45, 48] then
    match (ws.tail.dropLast).foldl (markR (decide (hexV (noNeg (ws.headD [])) = 0))) (some (false, false, false, false)) with
    | none => none
    | some (p, m, n, o) =>
      if decV (ws.getLastD []) = 0 ∧ (hexV (noNeg (ws.headD [])) ≠ 0 ∨ p = true ∨ m = true ∨ n = true ∨ o = true) then none
      else some ⟨sg (hasNeg (ws.headD [])) (hexV (noNeg (ws.headD []))), p, m, n, decide (0 < decV (ws.getLastD [])) && !o, decV (ws.getLastD [])⟩
  else none

theorem partsL_noblank (s : SumS) : ∀ y, y ∈ partsL s → ∀ b, b ∈ y → b ≠ 32 := by
  intro y hy b hb
  unfold partsL at hy
  simp only [List.mem_cons, List.mem_append, List.not_mem_nil, or_false] at hy
  rcases hy with rfl | hy | rfl
  · unfold firstL at hb
    rw [List.mem_append] at hb
    rcases hb with hb | hb
    · split at hb
      · simp at hb; subst hb; decide
      · simp at hb
    · exact (hexL_hex _ b hb).2.1
  · have key : ∀ y, y ∈ [wP, wM, wN, wZ] → ∀ b, b ∈ y → b ≠ 32 := by decide
    refine key y ?_ b hb
    unfold marksL at hy
    simp only [List.mem_append] at hy
    rcases hy with hy | hy | hy | hy <;> (split at hy <;> simp at hy <;> subst hy <;> simp)
  · exact (decDigits_mem _ b hb).2
theorem words_text (s : SumS) : wordsL (textS s).data.toList = partsL s := by
  rw [textS_data]
  exact wordsL_join _ _ (partsL_noblank s)
theorem firstL_spec (s : SumS) : hasNeg (firstL s) = decide (s.z < 0) ∧ noNeg (firstL s) = hexL s.z.natAbs := by
  have h : ∀ V, hasNeg (hexL V) = false := fun V => by
    unfold hasNeg
    cases hl : hexL V with
    | nil => rfl
    | cons x xs =>
      have := (hexL_hex V x (by rw [hl]; simp)).2.2
      simpa using this
  unfold firstL noNeg
  by_cases hz : s.z < 0
  · simp [hz, hasNeg]
  · simp [hz, h]
theorem marks_marksL (p m n z : Bool) : marks ((if p = true then [wP] else []) ++ ((if m = true then [wM] else []) ++ ((if n = true then [wN] else []) ++ (if z = true then [wZ] else [])))) = ((p, m, n, z), []) := by
  cases p <;> cases m <;> cases n <;> cases z <;> decide
theorem takeW_form (w : List UInt8) (l : List (List UInt8)) : l = (if (takeW w l).1 = true then [w] else []) ++ (takeW w l).2 := by
  unfold takeW
  cases l with
  | nil => simp
  | cons x r =>
    by_cases h : x = w
    · subst h; simp
    · simp [h]
theorem marks_form (l : List (List UInt8)) : l = (if (marks l).1.1 = true then [wP] else []) ++ ((if (marks l).1.2.1 = true then [wM] else []) ++ ((if (marks l).1.2.2.1 = true then [wN] else []) ++ ((if (marks l).1.2.2.2 = true then [wZ] else []) ++ (marks l).2))) := by
  have e1 := takeW_form wP l
  have e2 := takeW_form wM (takeW wP l).2
  have e3 := takeW_form wN (takeW wM (takeW wP l).2).2
  have e4 := takeW_form wZ (takeW wN (takeW wM (takeW wP l).2).2).2
  unfold marks
  simp only
  rw [← e4, ← e3, ← e2, ← e1]
theorem parse_text {s : SumS} (h : Valid s) : parseL (wordsL (textS s).data.toList) = some s := by
  obtain ⟨h1, h2, h3⟩ := h
  obtain ⟨f1, f2⟩ := firstL_spec s
  rw [words_text]
  have hlen : ¬ (partsL s).length < 2 := by unfold partsL; simp
  have hhd : (partsL s).headD [] = firstL s := rfl
  have hla : (partsL s).getLastD [] = Lib.decDigits s.count := by unfold partsL; rw [← List.cons_append, List.getLastD_eq_getLast?, List.getLast?_append]; rfl
  have hmid : (partsL s).tail.dropLast = marksL s := by unfold partsL; simp
  unfold parseL
  rw [if_neg hlen, hhd, hla, hmid, f1, f2, hexV_hexL, decV_decDigits]
  have hne : firstL s ≠ [45, 48] := fun e => by
    have hz : s.z < 0 := by rw [e] at f1; simpa [hasNeg] using f1.symm
    have : hexL s.z.natAbs = [48] := by rw [← f2, e]; rfl
    have h4 := hexL_head (V := s.z.natAbs) (by omega)
    rw [this] at h4
    exact h4 rfl
  rw [if_pos ⟨hexL_ok _, decDigits_ok _, h1, hne⟩, marks_is]
  have hm : marks (marksL s) = ((s.plus, s.minus, s.nan, decide (0 < s.count) && !s.other), []) := marks_marksL _ _ _ _
  rw [hm]
  have hcond : (decide (0 < s.count) && !s.other) = true → decide (s.z.natAbs = 0) = true ∧ s.plus = false ∧ s.minus = false ∧ s.nan = false := fun e => by
    simp only [Bool.and_eq_true, Bool.not_eq_true'] at e
    obtain ⟨a, b, c, d⟩ := h2 e.2
    exact ⟨by simp [a], b, c, d⟩
  rw [if_pos ⟨rfl, hcond⟩]
  simp only
  have hsg : sg (decide (s.z < 0)) s.z.natAbs = s.z := by
    unfold sg
    by_cases hz : s.z < 0
    · simp [hz]; omega
    · simp [hz]; omega
  rw [hsg]
  by_cases hc : s.count = 0
  · have := h3 hc
    subst this
    rw [if_neg (by simp [zeroS])]
    rfl
  · rw [if_neg (fun e => hc e.1)]
    have : (decide (0 < s.count) && !(decide (0 < s.count) && !s.other)) = s.other := by
      rw [decide_eq_true (by omega : 0 < s.count)]; simp
    rw [this]
theorem text_parse {t : ByteArray} {s : SumS} (h : parseL (wordsL t.data.toList) = some s) : textS s = t ∧ Valid s := by
  have key : ∀ ws : List (List UInt8), parseL ws = some s → partsL s = ws ∧ Valid s := by
    intro ws h
    unfold parseL at h
    split at h
    · cases h
    · rename_i hlen
      split at h
      · rename_i hok
        obtain ⟨k1, k2, k3, k4⟩ := hok
        rw [marks_is] at h
        generalize hmid : ws.tail.dropLast = mid at h
        generalize hfi : ws.headD [] = fi at *
        generalize hla : ws.getLastD [] = la at *
        have hws : ws = fi :: (mid ++ [la]) := by
          cases ws with
          | nil => simp at hlen
          | cons x xs =>
            simp only [List.headD_cons, List.tail_cons] at hfi hmid
            subst hfi hmid
            cases xs with
            | nil => simp at hlen
            | cons y ys =>
              have : la = (y :: ys).getLast (by simp) := by rw [← hla]; simp [List.getLastD]
              rw [this, List.dropLast_concat_getLast]
        have hform := marks_form mid
        generalize marks mid = M at h hform
        obtain ⟨⟨p, m, n, o⟩, rest⟩ := M
        simp only at h hform
        split at h
        · cases h
        · rename_i heq
          split at heq
          · rename_i hcond
            obtain ⟨c1, c2⟩ := hcond
            simp only [Option.some.injEq, Prod.mk.injEq] at heq
            obtain ⟨rfl, rfl, rfl, rfl⟩ := heq
            split at h
            · cases h
            · rename_i hzero
              simp only [Option.some.injEq] at h
              have hzn : decide (sg (hasNeg fi) (hexV (noNeg fi)) < 0) = hasNeg fi ∧ (sg (hasNeg fi) (hexV (noNeg fi))).natAbs = hexV (noNeg fi) := by
                unfold sg
                cases hn : hasNeg fi with
                | false => simp
                | true =>
                  have : hexV (noNeg fi) ≠ 0 := fun e => by
                    rw [hexV_zero k1] at e
                    apply k4
                    unfold noNeg at e
                    rw [hn] at e
                    unfold hasNeg at hn
                    cases fi with
                    | nil => simp at hn
                    | cons x xs => simp at hn e; rw [hn, e]
                  simp
                  omega
              have hfirst : firstL s = fi := by
                rw [← h]
                unfold firstL
                simp only
                rw [hzn.1, hzn.2, hexL_hexV k1]
                unfold noNeg
                cases hn : hasNeg fi with
                | false => simp
                | true =>
                  unfold hasNeg at hn
                  cases fi with
                  | nil => simp at hn
                  | cons x xs => simp at hn; simp [hn]
              have hdec : Lib.decDigits s.count = la := by rw [← h]; exact decDigits_decV k2
              have hcount : s.count = decV la := by rw [← h]
              have hor : decV la = 0 → o = false := fun e => by
                cases o with
                | false => rfl
                | true => exact absurd ⟨e, Or.inr (Or.inr (Or.inr (Or.inr rfl)))⟩ hzero
              have hmk : marksL s = mid := by
                rw [← h, hform, c1]
                unfold marksL
                simp only
                have : (decide (0 < decV la) && !(decide (0 < decV la) && !o)) = o := by
                  by_cases e : decV la = 0
                  · rw [hor e, e]; rfl
                  · rw [decide_eq_true (by omega : 0 < decV la)]; simp
                rw [this, List.append_nil]
              refine ⟨by unfold partsL; rw [hfirst, hmk, hdec, hws], ?_⟩
              refine ⟨by rw [hcount]; exact k3, ?_, ?_⟩
              · intro e
                rw [← h] at e ⊢
                simp only at e ⊢
                by_cases hc : decV la = 0
                · have : ¬ (hexV (noNeg fi) ≠ 0 ∨ p = true ∨ m = true ∨ n = true ∨ o = true) := fun x => hzero ⟨hc, x⟩
                  simp only [not_or, Bool.not_eq_true, Decidable.not_not] at this
                  obtain ⟨a1, a2, a3, a4, _⟩ := this
                  exact ⟨by rw [a1]; unfold sg; cases hasNeg fi <;> rfl, a2, a3, a4⟩
                · rw [decide_eq_true (by omega : 0 < decV la)] at e
                  have : o = true := by simpa using e
                  obtain ⟨b1, b2, b3, b4⟩ := c2 this
                  simp only [decide_eq_true_eq] at b1
                  exact ⟨by rw [b1]; unfold sg; cases hasNeg fi <;> rfl, b2, b3, b4⟩
              · intro e
                rw [hcount] at e
                have : ¬ (hexV (noNeg fi) ≠ 0 ∨ p = true ∨ m = true ∨ n = true ∨ o = true) := fun x => hzero ⟨e, x⟩
                simp only [not_or, Bool.not_eq_true, Decidable.not_not] at this
                obtain ⟨a1, a2, a3, a4, a5⟩ := this
                rw [← h, a1, a2, a3, a4, a5, e]
                unfold sg zeroS
                cases hasNeg fi <;> rfl
          · cases heq
      · cases h
  obtain ⟨e1, e2⟩ := key _ h
  refine ⟨?_, e2⟩
  have e3 : (textS s).data.toList = t.data.toList := by rw [textS_data, e1, join_wordsL]
  exact ByteArray.ext (Array.toList_inj.1 e3)
end Go.Proofs.YtjngofngjbjpbaaGreatDoor
end
