/- abacusref09: Of, plus, minus. abacusref09: plus, minus. -/
import Derived.Test.YtjngofngjbjpbaaGreatDoorJa20
import Derived.Test.YtjngofngjbjpbaaGreatDoorJa8

section
set_option linter.unusedSimpArgs false
set_option linter.unusedVariables false
namespace Go.Proofs.YtjngofngjbjpbaaGreatDoor
open Go.RowKit

theorem OwnB.row {w : World} {base m : Nat} {v : Value} {f : Nat → Nat} (h : OwnB w base v m f) : ∃ A c, v = .slice A m c ∧ m ≤ c ∧ RowAt w 5 A m (fun i => v8 (f i)) := by
  by_cases h0 : m = 0
  · subst h0
    rcases h.2 with ⟨h1, _⟩ | ⟨g, cap, cur, hv, _, _, h1, _⟩
    · exact ⟨none, 0, h1, Nat.le_refl _, fun h => absurd h (by omega)⟩
    · exact ⟨_, cap, hv, h1, fun h => absurd h (by omega)⟩
  · obtain ⟨g, cap, cur, hv, _, hb, h1, _, _, h4⟩ := ownsRow_form h (by omega)
    exact ⟨_, cap, hv, h1, fun _ => ⟨g, cur, rfl, hb, fun i hi => h4 i _ (by simp [hi])⟩⟩

theorem wrap8 (x : Int) (h0 : 0 ≤ x) (h1 : x < 256) : IntKind.u8.wrap x = x := by rw [IntKind.wrap_u8]; omega

set_option maxHeartbeats 1000000 in
set_option maxRecDepth 100000 in
theorem of_bits {R : Ending → World → Prop} (x up : Nat) (w : World) (hx : x < 18446744073709551616) (hup : up ≤ 1099511627776)
    (K : ∀ A n c w', IsBits w' A n c (x * 2 ^ up) → Ext w w' → R (.returned (.slice A n c)) w') :
    Calls Tryz.prog 219 #[v64 x, .int .i64 (up : Int)] w R := by
  obtain ⟨i0, hi0, hz0, hz1, hz2⟩ := info_parts Tryz.info5
  by_cases h0 : x = 0
  · subst h0
    have fin := K none 0 0 w (by rw [Nat.zero_mul]; exact IsBits.zero w) (Ext.rfl' w)
    clear K
    go_enter Tryz.func219, Tryz.ntmps219
    go_wp2
    go_loop [5, 6] (fun v i => v = .slice none 0 0 ∧ i = .int .i64 0) (fun _ _ => 0)
    case atStart => exact ⟨rfl, rfl⟩
    case round =>
      obtain ⟨rfl, rfl⟩ := hrel
      by_cases hu : 0 < up
      · have hd : decide ((0 : Int) < (up : Int)) = true := by simp; omega
        go_wp2
        go_loop [0, 5] (fun x v => x = v64 0 ∧ v = .slice none 0 0) (fun _ _ => 0)
        case atStart => exact ⟨rfl, rfl⟩
        case round =>
          obtain ⟨rfl, rfl⟩ := hrel
          go_wp2
          try exact fin
      · have hd : decide ((0 : Int) < (up : Int)) = false := by simp; omega
        go_wp2
        go_loop [0, 5] (fun x v => x = v64 0 ∧ v = .slice none 0 0) (fun _ _ => 0)
        case atStart => exact ⟨rfl, rfl⟩
        case round =>
          obtain ⟨rfl, rfl⟩ := hrel
          go_wp2
          try exact fin
  · have hp : decide ((x : Int) > 0) = true := by simp; omega
    go_enter Tryz.func219, Tryz.ntmps219
    go_wp2
    go_loopw [5, 6] (fun ov iv wr => ∃ i : Nat, i ≤ up ∧ iv = .int .i64 (i : Int) ∧ OwnB wr w.heap.size ov i (fun _ => 0) ∧ Ext w wr) (fun _ iv _ => up - (intOf iv).toNat)
    case atStart => exact ⟨0, Nat.zero_le _, rfl, OwnB.nil _ _ _, Ext.rfl' _⟩
    case round =>
      obtain ⟨i, hi, rfl, ho, hB⟩ := hrel
      have hbase : w.heap.size ≤ wr.heap.size := hB.size
      by_cases hlt : i < up
      · have hone : i + 1 ≤ 140737488355328 := by omega
        clear K
        go_wp2_with (at_builtin; refine appB (W := wr) w.heap.size rfl (.tmp 16) (.tmp 17) 28 rfl Tryz.underlying28 Tryz.info5 _ _ _ 0 rfl rfl ho rfl hbase hone ?_)
        intro v1 w1 ho1 hg1
        have hB1 : Ext w w1 := hB.grown hg1 hbase (fun k hk => (ho.lt k hk).1)
        go_wp2
        go_roundw
        case rel => exact ⟨i + 1, by omega, by go_num, ho1, hB1⟩
        case measure => simp [intOf]; omega
      · have hiu : i = up := by omega
        have hd : decide ((i : Int) < (up : Int)) = false := by simp; omega
        subst hiu
        obtain ⟨X, hX⟩ : ∃ X, X = x * 2 ^ i := ⟨_, rfl⟩
        have hlow : ∀ j, j < i → bt X j = 0 := fun j hj => by rw [hX]; exact bt_mul_low hj
        have hhigh : ∀ j, bt X (i + j) = bt x j := fun j => by rw [hX]; exact bt_mul_high x i j
        have hbl : bl X = bl x + i := by rw [hX]; exact bl_mul_pow h0 i
        have hbx : bl x ≤ 64 := bl_le_of_lt hx
        have ho' := ho.congr (g := bt X) (fun j hj => (hlow j hj).symm)
        have HL : Hid (bl X = bl x + i) := hbl
        rw [← hX] at K
        obtain ⟨L, hL⟩ : ∃ L, L = bl x := ⟨_, rfl⟩
        have HL2 : Hid (L = bl x) := hL
        rw [← hL] at hbx
        clear hX hlow ho hbl hL
        go_wp2
        go_loopw [0, 5] (fun xv ov wr' => ∃ j : Nat, j ≤ L ∧ xv = v64 (x / 2 ^ j) ∧ OwnB wr' w.heap.size ov (i + j) (bt X) ∧ Ext w wr') (fun xv _ _ => (intOf xv).toNat)
        case atStart => exact ⟨0, Nat.zero_le _, by simp, ho', hB⟩
        case round =>
          obtain ⟨j, hj, rfl, ho2, hB2⟩ := hrel
          have hbase2 : w.heap.size ≤ wr.heap.size := hB2.size
          have hpos := div_pos_iff x j
          rw [← HL2.out] at hpos
          obtain ⟨y, hy⟩ : ∃ y, y = x / 2 ^ j := ⟨_, rfl⟩
          have hyl : y < 18446744073709551616 := by rw [hy]; exact Nat.lt_of_le_of_lt (Nat.div_le_self _ _) hx
          have hnext : y / 2 = x / 2 ^ (j + 1) := by rw [hy, Nat.div_div_eq_div_mul, Nat.pow_succ]
          have hbit : bt X (i + j) = y % 2 := by rw [hhigh]; unfold bt; rw [hy]
          rw [← hy] at hpos ⊢
          obtain ⟨z, hz⟩ : ∃ z, z = y / 2 := ⟨_, rfl⟩
          have hquo : IntKind.u64.wrap ((y : Int).tdiv 2) = (z : Int) := by
            rw [Int.tdiv_eq_ediv_of_nonneg (by omega), IntKind.wrap_u64]; omega
          have HN : Hid (z = x / 2 ^ (j + 1)) := (hz.trans hnext)
          have HZ : Hid (z = y / 2) := hz
          have hzy : z ≤ y / 2 := by omega
          clear hy hnext hz
          by_cases hj2 : j < L
          · have hy0 : 0 < y := hpos.2 hj2
            have hd2 : decide ((y : Int) > 0) = true := by simp; omega
            obtain ⟨d, hdd⟩ : ∃ d, d = y % 2 := ⟨_, rfl⟩
            have hd2' : d < 2 := by omega
            have hbit' : bt X (i + j) = d := by rw [hbit, hdd]
            have hrem : ((y : Int)) % 2 = (d : Int) := by omega
            have hrem2 : ((y : Int)).tmod 2 = (d : Int) := by rw [Int.tmod_eq_emod_of_nonneg (by omega)]; exact hrem
            have hw8 : IntKind.u8.wrap (d : Int) = (d : Int) := wrap8 _ (by omega) (by omega)
            have hone : i + j + 1 ≤ 140737488355328 := by omega
            clear hpos hbit hdd K hhigh
            go_wp2_with (at_builtin; refine appB (W := wr) w.heap.size rfl (.tmp 23) (.tmp 27) 28 rfl Tryz.underlying28 Tryz.info5 _ _ _ d rfl rfl ho2 hbit' hbase2 hone ?_)
            intro v1 w1 ho1 hg1
            have hB1 : Ext w w1 := hB2.grown hg1 hbase2 (fun k hk => (ho2.lt k hk).1)
            go_wp2
            go_roundw
            case rel => exact ⟨j + 1, by omega, congrArg v64 (HZ.out.symm.trans HN.out), ho1, hB1⟩
            case measure => simp [intOf]; omega
          · have hjl : j = L := by omega
            have hy0 : y = 0 := by
              have : ¬ 0 < y := fun h => hj2 (hpos.1 h)
              omega
            obtain ⟨A, c, rfl, hc, hrow⟩ := ho2.row
            have fin := K A (i + j) c wr ⟨by rw [HL.out, hjl, HL2.out]; omega, hc, hrow⟩ hB2
            clear K hhigh hpos hbit hrow ho2 ho' HN HZ HL HL2 hquo
            subst hy0 hjl
            go_wp2
            exact fin
end Go.Proofs.YtjngofngjbjpbaaGreatDoor
end

section
set_option linter.unusedSimpArgs false
set_option linter.unusedVariables false
namespace Go.Proofs.YtjngofngjbjpbaaGreatDoor
open Go.RowKit

theorem bit_is {R : Ending → World → Prop} (A : Option Addr) (n c m i p : Nat) (w : World) (hn : n ≤ 1099511627776) (h : IsBits w A n c m) (hp : Hid (p = bt m i))
    (K : R (.returned (v8 p)) w) : Calls Tryz.prog 217 #[.slice A n c, .int .i64 (i : Int)] w R :=
  bit_any A n c m i w hn h (by rw [← hp.out]; exact K)

set_option maxHeartbeats 2000000 in
set_option maxRecDepth 100000 in
theorem plus_bits {R : Ending → World → Prop} (A B : Option Addr) (na nb ca cb a b : Nat) (w : World) (hn : na ≤ 1099511627776) (hn2 : nb ≤ 1099511627776) (ha : IsBits w A na ca a) (hb : IsBits w B nb cb b)
    (K : ∀ A' n' c' w', IsBits w' A' n' c' (a + b) → Ext w w' → R (.returned (.slice A' n' c')) w') :
    Calls Tryz.prog 150 #[.slice A na ca, .slice B nb cb] w R := by
  obtain ⟨i0, hi0, hz0, hz1, hz2⟩ := info_parts Tryz.info5
  have la := ha.len
  have lb := hb.len
  have La : Hid (na = bl a) := la
  have Lb : Hid (nb = bl b) := lb
  have hcl : ∀ i, cy 2 (bt a) (bt b) i ≤ 1 := fun i => cy_le (B := 2) (by decide) i (fun j _ => bt_lt a j) (fun j _ => bt_lt b j)
  have hce : ∀ i, na < i → nb < i → cy 2 (bt a) (bt b) i = 0 := fun i h1 h2 => cy_end (by omega) (by omega)
  clear la lb
  go_enter Tryz.func150, Tryz.ntmps150
  go_wp2
  go_loopw [5, 6, 7] (fun ov cv iv wr => ∃ i : Nat, (i ≤ na + 1 ∨ i ≤ nb + 1) ∧ iv = .int .i64 (i : Int) ∧ cv = v8 (cy 2 (bt a) (bt b) i) ∧ OwnB wr w.heap.size ov i (sumDg 2 (bt a) (bt b)) ∧ Ext w wr) (fun _ _ iv _ => na + nb + 2 - (intOf iv).toNat)
  case atStart => exact ⟨0, Or.inl (Nat.zero_le _), rfl, rfl, OwnB.nil _ _ _, Ext.rfl' _⟩
  case round =>
    obtain ⟨i, hi, rfl, rfl, ho, hB⟩ := hrel
    have hbase : w.heap.size ≤ wr.heap.size := hB.size
    have hA := ha.ext hB
    have hB' := hb.ext hB
    obtain ⟨p, hp⟩ : ∃ p, p = bt a i := ⟨_, rfl⟩
    obtain ⟨q, hq⟩ : ∃ q, q = bt b i := ⟨_, rfl⟩
    obtain ⟨c, hc⟩ : ∃ c, c = cy 2 (bt a) (bt b) i := ⟨_, rfl⟩
    have hp2 := bt_lt a i
    have hq2 := bt_lt b i
    have hc2 := hcl i
    have hce' := hce i
    rw [← hp] at hp2
    rw [← hq] at hq2
    rw [← hc] at hc2 hce' ⊢
    by_cases hgo : (i < na ∨ i < nb ∨ 0 < c)
    · obtain ⟨d, hd⟩ : ∃ d, d = (p + q + c) % 2 := ⟨_, rfl⟩
      obtain ⟨c', hc'⟩ : ∃ c', c' = (p + q + c) / 2 := ⟨_, rfl⟩
      have hdd : sumDg 2 (bt a) (bt b) i = d := by unfold sumDg; rw [← hp, ← hq, ← hc, hd]
      have hcc : Hid (c' = cy 2 (bt a) (bt b) (i + 1)) := by show c' = (bt a i + bt b i + cy 2 (bt a) (bt b) i) / 2; rw [← hp, ← hq, ← hc, hc']
      have hd2 : d < 2 := by omega
      have hc2' : c' < 2 := by omega
      have wr1 : IntKind.u8.wrap ((p : Int) + q) = (p : Int) + q := wrap8 _ (by omega) (by omega)
      have wr2 : IntKind.u8.wrap ((p : Int) + q + c) = (p : Int) + q + c := wrap8 _ (by omega) (by omega)
      have wr3 : ((p : Int) + q + c).tmod 2 = (d : Int) := by rw [Int.tmod_eq_emod_of_nonneg (by omega)]; omega
      have wr4 : IntKind.u8.wrap (((p : Int) + q + c).tdiv 2) = (c' : Int) := by rw [Int.tdiv_eq_ediv_of_nonneg (by omega), IntKind.wrap_u8]; omega
      have wr5 : IntKind.u8.wrap ((d : Nat) : Int) = (d : Int) := wrap8 _ (by omega) (by omega)
      have hone : i + 1 ≤ 140737488355328 := by omega
      have HP : Hid (p = bt a i) := hp
      have HQ : Hid (q = bt b i) := hq
      have hi3 : i ≤ na + nb + 1 := by omega
      have hi4 : i + 1 ≤ na + 1 ∨ i + 1 ≤ nb + 1 := by
        by_cases h1 : na < i
        · by_cases h2 : nb < i
          · have := hce' h1 h2; omega
          · omega
        · omega
      clear hp hq hc hd hc' hce' K hce hcl
      have key : ∀ {S : Prop}, ((i < na → S) ∧ (¬ i < na → i < nb → S) ∧ (¬ i < na → ¬ i < nb → 0 < c → S)) → S := fun {S} ⟨h1, h2, h3⟩ => by
        by_cases x1 : i < na
        · exact h1 x1
        · by_cases x2 : i < nb
          · exact h2 x1 x2
          · exact h3 x1 x2 (by omega)
      refine key ⟨fun x1 => ?_, fun x1 x2 => ?_, fun x1 x2 x3 => ?_⟩
      · have d1 : decide ((i : Int) < (na : Int)) = true := by simp; omega
        clear key hgo
        go_wp2_with (first
          | (go_at_call 217; with_reducible refine bit_is A na ca a i p _ hn hA HP ?_)
          | (go_at_call 217; with_reducible refine bit_is B nb cb b i q _ hn2 hB' HQ ?_)
          | (at_builtin; refine appB (W := wr) w.heap.size rfl (.tmp 34) (.tmp 37) 28 rfl Tryz.underlying28 Tryz.info5 _ _ _ d rfl rfl ho hdd hbase hone ?_; intro v1 w1 ho1 hg1; have hB1 : Ext w w1 := hB.grown hg1 hbase (fun k hk => (ho.lt k hk).1)))
        go_roundw
        case rel => exact ⟨i + 1, hi4, by go_num, congrArg v8 hcc.out, ho1, hB1⟩
        case measure => simp [intOf]; omega
      · have d1 : decide ((i : Int) < (na : Int)) = false := by simp; omega
        have d2 : decide ((i : Int) < (nb : Int)) = true := by simp; omega
        clear key hgo
        go_wp2_with (first
          | (go_at_call 217; with_reducible refine bit_is A na ca a i p _ hn hA HP ?_)
          | (go_at_call 217; with_reducible refine bit_is B nb cb b i q _ hn2 hB' HQ ?_)
          | (at_builtin; refine appB (W := wr) w.heap.size rfl (.tmp 34) (.tmp 37) 28 rfl Tryz.underlying28 Tryz.info5 _ _ _ d rfl rfl ho hdd hbase hone ?_; intro v1 w1 ho1 hg1; have hB1 : Ext w w1 := hB.grown hg1 hbase (fun k hk => (ho.lt k hk).1)))
        go_roundw
        case rel => exact ⟨i + 1, hi4, by go_num, congrArg v8 hcc.out, ho1, hB1⟩
        case measure => simp [intOf]; omega
      · have d1 : decide ((i : Int) < (na : Int)) = false := by simp; omega
        have d2 : decide ((i : Int) < (nb : Int)) = false := by simp; omega
        have d3 : decide ((c : Int) > 0) = true := by simp; omega
        clear key hgo
        go_wp2_with (first
          | (go_at_call 217; with_reducible refine bit_is A na ca a i p _ hn hA HP ?_)
          | (go_at_call 217; with_reducible refine bit_is B nb cb b i q _ hn2 hB' HQ ?_)
          | (at_builtin; refine appB (W := wr) w.heap.size rfl (.tmp 34) (.tmp 37) 28 rfl Tryz.underlying28 Tryz.info5 _ _ _ d rfl rfl ho hdd hbase hone ?_; intro v1 w1 ho1 hg1; have hB1 : Ext w w1 := hB.grown hg1 hbase (fun k hk => (ho.lt k hk).1)))
        go_roundw
        case rel => exact ⟨i + 1, hi4, by go_num, congrArg v8 hcc.out, ho1, hB1⟩
        case measure => simp [intOf]; omega
    · have d1 : decide ((i : Int) < (na : Int)) = false := by simp; omega
      have d2 : decide ((i : Int) < (nb : Int)) = false := by simp; omega
      have c0 : c = 0 := by omega
      have n1 : ¬ i < na := by omega
      have n2 : ¬ i < nb := by omega
      have hcy0 : cy 2 (bt a) (bt b) i = 0 := by rw [← hc, c0]
      obtain ⟨A', c', rfl, hcap, hrow⟩ := ho.row
      have hval : valB 2 (sumDg 2 (bt a) (bt b)) i = a + b := sum_bits (by have := La.out; omega) (by have := Lb.out; omega) hcy0
      have hi2 : i ≤ 1099511627777 := by omega
      have htr := fun (R' : Ending → World → Prop) K' => trimmed_any (R := R') A' i c' (sumDg 2 (bt a) (bt b)) wr hi2 hcap hrow (fun j _ => Nat.mod_lt _ (by decide)) K'
      rw [hval] at htr
      subst c0
      clear hp hq hc hcy0 hval hrow ho hcl hce hce' hgo
      go_wp2_with fail
      refine htr _ ?_
      intro m hm _
      have fin := K _ _ _ _ hm hB
      clear K htr
      go_wp2
      exact fin

set_option maxHeartbeats 2000000 in
set_option maxRecDepth 100000 in
/-- a less b, which is not above it -/
theorem minus_bits {R : Ending → World → Prop} (A B : Option Addr) (na nb ca cb a b : Nat) (w : World) (hn : na ≤ 1099511627776) (hn2 : nb ≤ 1099511627776) (ha : IsBits w A na ca a) (hb : IsBits w B nb cb b) (hab : b ≤ a)
    (K : ∀ A' n' c' w', IsBits w' A' n' c' (a - b) → Ext w w' → R (.returned (.slice A' n' c')) w') :
    Calls Tryz.prog 152 #[.slice A na ca, .slice B nb cb] w R := by
  obtain ⟨i0, hi0, hz0, hz1, hz2⟩ := info_parts Tryz.info5
  have La : Hid (na = bl a) := ha.len
  go_enter Tryz.func152, Tryz.ntmps152
  go_wp2
  go_loopw [5, 6, 7] (fun ov cv iv wr => ∃ i : Nat, i ≤ na ∧ iv = .int .i64 (i : Int) ∧ cv = v8 (bw (bt a) (bt b) i) ∧ OwnB wr w.heap.size ov i (difDg 2 (bt a) (bt b)) ∧ Ext w wr) (fun _ _ iv _ => na - (intOf iv).toNat)
  case atStart => exact ⟨0, Nat.zero_le _, rfl, rfl, OwnB.nil _ _ _, Ext.rfl' _⟩
  case round =>
    obtain ⟨i, hi, rfl, rfl, ho, hB⟩ := hrel
    have hbase : w.heap.size ≤ wr.heap.size := hB.size
    have hA := ha.ext hB
    have hB' := hb.ext hB
    by_cases hlt : i < na
    · obtain ⟨p, hp⟩ : ∃ p, p = bt a i := ⟨_, rfl⟩
      obtain ⟨q, hq⟩ : ∃ q, q = bt b i := ⟨_, rfl⟩
      obtain ⟨c, hc⟩ : ∃ c, c = bw (bt a) (bt b) i := ⟨_, rfl⟩
      have hp2 := bt_lt a i
      have hq2 := bt_lt b i
      have hc2 := bw_le (bt a) (bt b) i
      rw [← hp] at hp2
      rw [← hq] at hq2
      rw [← hc] at hc2 ⊢
      obtain ⟨d, hd⟩ : ∃ d, d = (2 + p - q - c) % 2 := ⟨_, rfl⟩
      obtain ⟨c', hc'⟩ : ∃ c', c' = 1 - (2 + p - q - c) / 2 := ⟨_, rfl⟩
      have hnx : bw (bt a) (bt b) (i + 1) = if p < q + c then 1 else 0 := by show (if bt a i < bt b i + bw (bt a) (bt b) i then 1 else 0) = _; rw [← hp, ← hq, ← hc]
      have hdd : difDg 2 (bt a) (bt b) i = d := by
        unfold difDg
        rw [hnx, ← hp, ← hq, ← hc, hd]
        split <;> omega
      have hcc : Hid (c' = bw (bt a) (bt b) (i + 1)) := by
        show c' = _
        rw [hnx, hc']
        split <;> omega
      have hd2 : d < 2 := by omega
      have hc2' : c' < 2 := by omega
      obtain ⟨e, he⟩ : ∃ e, e = 2 + p - q - c := ⟨_, rfl⟩
      have he2 : e < 4 := by omega
      have wr1 : IntKind.u8.wrap (2 + (p : Int)) = 2 + (p : Int) := wrap8 _ (by omega) (by omega)
      have wr2 : IntKind.u8.wrap (2 + (p : Int) - q) = 2 + (p : Int) - q := wrap8 _ (by omega) (by omega)
      have wr3 : IntKind.u8.wrap (2 + (p : Int) - q - c) = (e : Int) := by rw [wrap8 _ (by omega) (by omega)]; omega
      have wr4 : ((e : Int)).tmod 2 = (d : Int) := by rw [Int.tmod_eq_emod_of_nonneg (by omega)]; omega
      have wr5 : IntKind.u8.wrap ((d : Nat) : Int) = (d : Int) := wrap8 _ (by omega) (by omega)
      obtain ⟨h, hh⟩ : ∃ h, h = e / 2 := ⟨_, rfl⟩
      have wr6 : IntKind.u8.wrap (((e : Int)).tdiv 2) = (h : Int) := by rw [Int.tdiv_eq_ediv_of_nonneg (by omega), IntKind.wrap_u8]; omega
      have wr7 : IntKind.u8.wrap (1 - (h : Int)) = (c' : Int) := by rw [IntKind.wrap_u8]; omega
      have HE : Hid ((1 : Int) - (e : Int) / 2 = (c' : Int)) := (show (1 : Int) - (e : Int) / 2 = (c' : Int) by omega)
      have hone : i + 1 ≤ 140737488355328 := by omega
      have hh2 : h < 2 := by omega
      have HP : Hid (p = bt a i) := hp
      have HQ : Hid (q = bt b i) := hq
      clear hp hq hc hd hc' hnx he hh K
      go_wp2_with (first
          | (go_at_call 217; with_reducible refine bit_is A na ca a i p _ hn hA HP ?_)
          | (go_at_call 217; with_reducible refine bit_is B nb cb b i q _ hn2 hB' HQ ?_)
          | (at_builtin; refine appB (W := wr) w.heap.size rfl (.tmp 25) (.tmp 28) 28 rfl Tryz.underlying28 Tryz.info5 _ _ _ d rfl rfl ho hdd hbase hone ?_; intro v1 w1 ho1 hg1; have hB1 : Ext w w1 := hB.grown hg1 hbase (fun k hk => (ho.lt k hk).1)))
      go_roundw
      case rel => exact ⟨i + 1, hlt, by go_num, (by rw [← hcc.out]; exact congrArg (Value.int .u8) HE.out), ho1, hB1⟩
      case measure => simp [intOf]; omega
    · have hin : i = na := by omega
      have hval : valB 2 (difDg 2 (bt a) (bt b)) i = a - b := dif_bits (by rw [hin]; exact La.out) hab
      obtain ⟨A', c', rfl, hcap, hrow⟩ := ho.row
      have hi2 : i ≤ 1099511627777 := by omega
      have htr := fun (R' : Ending → World → Prop) K' => trimmed_any (R := R') A' i c' (difDg 2 (bt a) (bt b)) wr (by omega) hcap hrow (fun j _ => difDg_lt (B := 2) j (bt_lt a j)) K'
      rw [hval] at htr
      subst hin
      clear hval hrow ho
      go_wp2_with fail
      refine htr _ ?_
      intro m hm _
      have fin := K _ _ _ _ hm hB
      clear K htr
      go_wp2
      exact fin
end Go.Proofs.YtjngofngjbjpbaaGreatDoor
end
