/- The functions of package whole: the walks of made, plus, less, Cmp. -/
import Derived.Test.YtjngofngjbjpbaaGreatDoorJa3
import Derived.Laws.Externs
import Derived.Shelf.Spec.BitsCarry

section
namespace Go.Proofs.YtjngofngjbjpbaaGreatDoor
open Go.RowKit

def lenOf : Value → Nat | .slice _ n _ => n | _ => 0

set_option maxHeartbeats 400000 in
theorem made_any {R : Ending → World → Prop} (neg : Bool) (A : Option Addr) (n c : Nat) (f : Nat → Nat) (w : World) (hn : n ≤ 1099511627777) (hc : n ≤ c) (hr : RowAt w 29 A n (fun i => v64 (f i)))
    (K : ∀ m w', m ≤ n → (∀ i, m ≤ i → i < n → f i = 0) → (0 < m → f (m - 1) ≠ 0) → Ext w w' → R (.returned (.agg #[.bool (neg && decide (0 < m)), .slice A m c])) w') :
    Calls Tryz.prog 124 #[.bool neg, .slice A n c] w R := by
  go_enter Tryz.func124, Tryz.ntmps124
  go_wp2
  go_loop [1] (fun v => ∃ m, m ≤ n ∧ v = .slice A m c ∧ (∀ i, m ≤ i → i < n → f i = 0)) (fun v => lenOf v)
  case atStart => exact ⟨n, Nat.le_refl _, rfl, fun i _ _ => by omega⟩
  case round =>
    obtain ⟨m, hm, rfl, hz⟩ := hrel
    have HZ : Hid (∀ i, m ≤ i → i < n → f i = 0) := hz
    clear hz
    have fin : ∀ w', w.alloc (Obj.cells #[Value.bool (neg && decide (0 < m)), Value.slice A m c] 112) = w' → (0 < m → f (m - 1) ≠ 0) → R (.returned (.agg #[.bool (neg && decide (0 < m)), .slice A m c])) w' := fun w' e h0 =>
      K m w' hm HZ.out h0 (by rw [← e]; exact (Below.refl _ _).alloc (Nat.le_refl _) _)
    clear K
    by_cases h0 : m = 0
    · subst h0
      clear hr
      go_wp2
      all_goals
        refine bodyPost_ret (v := .agg #[.bool false, .slice A 0 c]) (by simp [results, Tryz.results124, go_sem] <;> omega) rfl ?_
        simpa using fin _ rfl (fun h => absurd h (by omega))
    · obtain ⟨g, rfl, hg, hcell⟩ := hr.cell (by omega)
      have hc1 := hcell (m - 1) (by omega)
      clear hr hcell
      by_cases hf : f (m - 1) = 0
      · rw [hf] at hc1
        clear fin
        go_wp2
        go_round
        case rel => exact ⟨m - 1, by omega, rfl, fun i h1 h2 => by
          by_cases e : i = m - 1
          · rw [e]; exact hf
          · exact HZ.out i (by omega) h2⟩
        case measure => simp [lenOf]; omega
      · have hne : (((f (m - 1) : Nat) : Int) == 0) = false := by simpa using hf
        clear HZ
        cases neg
        all_goals
          go_wp2
          refine bodyPost_ret (v := .agg #[.bool (_ && decide (0 < m)), .slice (some ⟨g, 0, none⟩) m c]) (by simp [results, Tryz.results124, go_sem] <;> omega) rfl (fin _ ?_ (fun _ => hf))
          simp [show 0 < m by omega]
theorem run_add64' (x y c : Nat) (hx : x < W64) (hy : y < W64) (hc : c ≤ 1) (w : World) :
    (callFunc 230 #[v64 x, v64 y, v64 c]).run Tryz.prog w = .ok (.value (.tuple #[v64 ((x + y + c) % W64), v64 ((x + y + c) / W64)])) w := by
  unfold W64 at *
  rw [run_callFunc_extern Tryz.func230 (by kernel_rfl) (by kernel_rfl) (by kernel_rfl) (e := add64Entry) (by kernel_rfl), run_add64 x y c (by omega) (by omega) (by omega) (by omega)]
  simp only [Result.andThen]
  congr 5 <;> omega
theorem Tryz.info29 : (Tryz.prog.info? 29).map (fun i => (i.zero, i.size, i.bytes)) = some (some (.int .u64 0), 1, 8) := by kernel_rfl

/-- the other row's digit, 0 beyond its end -/
def ext (g : Nat → Nat) (n : Nat) (i : Nat) : Nat := if i < n then g i else 0

set_option maxHeartbeats 400000 in
theorem plus_any {R : Ending → World → Prop} (A B : Option Addr) (na nb ca cb : Nat) (f g : Nat → Nat) (w : World) (hn : na ≤ 1099511627776) (hnb : nb ≤ na)
    (ha : RowAt w 29 A na (fun i => v64 (f i))) (hb : RowAt w 29 B nb (fun i => v64 (g i))) (hf : ∀ i, i < na → f i < W64) (hg : ∀ i, i < nb → g i < W64)
    (K : ∀ b w', w'.rowIs b 29 (na + 1) (fun i => v64 (if i < na then sumDg W64 f (ext g nb) i else cy W64 f (ext g nb) na)) → Ext w w' →
      R (.returned (.slice (some ⟨b, 0, none⟩) (na + 1) (na + 1))) w') :
    Calls Tryz.prog 148 #[.slice A na ca, .slice B nb cb] w R := by
  have hmk := fun W => run_make_row' (P := Tryz.prog) 110 29 (.int .u64 0) 8 Tryz.underlying110 Tryz.info29 rfl .i64 .i64 (na + 1) (by omega) (by omega) W
  rw [show ((na + 1 : Nat) : Int) = (na : Int) + 1 from by omega] at hmk
  have hW : 0 < W64 := by decide
  have hge : ∀ i, i < na → ext g nb i < W64 := fun i _ => by unfold ext; split; exact hg i ‹_›; exact hW
  have hcy := fun i (hi : i ≤ na) => cy_le (B := W64) (f := f) (g := ext g nb) hW i (fun j hj => hf j (by omega)) (fun j hj => hge j (by omega))
  go_enter Tryz.func148, Tryz.ntmps148
  go_wp2
  generalize hw1 : w.alloc (Obj.cells (madeCells #[Value.int IntKind.u64 0] (na + 1)) 29) = w1
  have hx1 : Ext w w1 := by rw [← hw1]; exact (Below.refl _ _).alloc (Nat.le_refl _) _
  have hrow : w1.rowIs w.heap.size 29 (na + 1) (fun _ => v64 0) := by rw [← hw1]; exact World.rowIs_made _ _ _ _
  clear hw1 hmk
  obtain ⟨b, hb0⟩ : ∃ b, b = w.heap.size := ⟨_, rfl⟩
  rw [← hb0] at hrow ⊢
  have hbge : w.heap.size ≤ b := by omega
  clear hb0
  go_loopw [6, 15] (fun c i wr => ∃ k, k ≤ na ∧ i = .int .i64 (k : Nat) ∧ c = v64 (cy W64 f (ext g nb) k) ∧ wr.rowIs b 29 (na + 1) (fun j => v64 (upTo (sumDg W64 f (ext g nb)) k j)) ∧ Ext w wr) (fun _ i _ => na - (intOf i).toNat)
  case atStart => exact ⟨0, Nat.zero_le _, rfl, rfl, hrow.congr (fun j _ => rfl), hx1⟩
  case round =>
    obtain ⟨k, hk, rfl, rfl, hrk, hxk⟩ := hrel
    have hck := hcy k hk
    by_cases hlt : k < na
    · obtain ⟨ga, rfl, hga, hca⟩ := ha.cell (by omega)
      have hcak : wr.cell? ⟨ga, k, none⟩ = some (v64 (f k)) := by
        have := hca k hlt
        rw [hxk.cell (World.block_lt_of_cell? _ _ this)]; exact this
      have hadd : ∀ w, (callFunc 230 #[v64 (f k), v64 (ext g nb k), v64 (cy W64 f (ext g nb) k)]).run Tryz.prog w = .ok (.value (.tuple #[v64 (sumDg W64 f (ext g nb) k), v64 (cy W64 f (ext g nb) (k + 1))])) w :=
        run_add64' (f k) (ext g nb k) (cy W64 f (ext g nb) k) (hf k hlt) (hge k hlt) hck
      have hck0 := hrk.cell (i := k) (by omega)
      have hfz := hrk.frozen k
      clear ha hca
      have HF : Hid (∀ j, j < na → f j < W64) := hf
      have HG : Hid (∀ j, j < na → ext g nb j < W64) := hge
      clear hf hg hge hcy K
      by_cases hkb : k < nb
      · obtain ⟨gb, rfl, hgb, hcb⟩ := hb.cell (by omega)
        have hcbk : wr.cell? ⟨gb, k, none⟩ = some (v64 (ext g nb k)) := by
          have := hcb k hkb
          rw [hxk.cell (World.block_lt_of_cell? _ _ this)]; simp only [ext, if_pos hkb]; exact this
        clear hb hcb
        go_wp2
        go_roundw
        case rel => exact ⟨k + 1, by omega, by go_num, rfl, rowUp_set hrk rfl, hxk.setCell (p := ⟨b, k, none⟩) hbge _⟩
        case measure => simp [intOf]; omega
      · clear hb
        rw [show ext g nb k = 0 from if_neg hkb] at hadd
        simp only [v64, Int.natCast_zero] at hadd
        go_wp2
        go_roundw
        case rel => exact ⟨k + 1, by omega, by go_num, rfl, rowUp_set hrk rfl, hxk.setCell (p := ⟨b, k, none⟩) hbge _⟩
        case measure => simp [intOf]; omega
    · obtain rfl : k = na := by omega
      have hck0 := hrk.cell (i := k) (by omega)
      have hfz := hrk.frozen k
      clear ha hb
      go_wp2
      refine K b _ ((hrk.set k _).congr (fun j hj => ?_)) (hxk.setCell (p := ⟨b, k, none⟩) hbge _)
      unfold upTo
      by_cases e : j = k
      · subst e; simp
      · simp [e, show j < k by omega]

theorem run_sub64' (x y c : Nat) (hc : c ≤ 1) (w : World) :
    (callFunc 231 #[v64 x, v64 y, v64 c]).run Tryz.prog w = .ok (.value (.tuple #[v64 ((x + W64 - y - c) % W64), v64 (if x < y + c then 1 else 0)])) w := by
  unfold W64 at *
  rw [run_callFunc_extern Tryz.func231 (by kernel_rfl) (by kernel_rfl) (by kernel_rfl) (e := sub64Entry) (by kernel_rfl), run_sub64 x y c hc]
  rfl
theorem sub_dig (f g : Nat → Nat) (k : Nat) (hf : f k < W64) (hg : g k < W64) (w : World) :
    (callFunc 231 #[v64 (f k), v64 (g k), v64 (bw f g k)]).run Tryz.prog w = .ok (.value (.tuple #[v64 (difDg W64 f g k), v64 (bw f g (k + 1))])) w := by
  rw [run_sub64' _ _ _ (bw_le f g k)]
  have h := bw_le f g k
  have e : (f k + W64 - g k - bw f g k) % W64 = difDg W64 f g k := by
    unfold difDg
    simp only [bw]
    split
    · rw [Nat.mod_eq_of_lt (by omega)]; omega
    · rw [show f k + W64 - g k - bw f g k = (f k - (g k + bw f g k)) + W64 by omega, Nat.add_mod_right, Nat.mod_eq_of_lt (by omega)]; omega
  rw [e]
  simp only [bw]

set_option maxHeartbeats 400000 in
theorem less_any {R : Ending → World → Prop} (A B : Option Addr) (na nb ca cb : Nat) (f g : Nat → Nat) (w : World) (hn : na ≤ 1099511627777) (hnb : nb ≤ na)
    (ha : RowAt w 29 A na (fun i => v64 (f i))) (hb : RowAt w 29 B nb (fun i => v64 (g i))) (hf : ∀ i, i < na → f i < W64) (hg : ∀ i, i < nb → g i < W64)
    (K : ∀ b w', w'.rowIs b 29 na (fun i => v64 (difDg W64 f (ext g nb) i)) → Ext w w' → R (.returned (.slice (some ⟨b, 0, none⟩) na na)) w') :
    Calls Tryz.prog 149 #[.slice A na ca, .slice B nb cb] w R := by
  have hmk := fun W => run_make_row' (P := Tryz.prog) 110 29 (.int .u64 0) 8 Tryz.underlying110 Tryz.info29 rfl .i64 .i64 na (by omega) (by omega) W
  have hW : 0 < W64 := by decide
  have hge : ∀ i, i < na → ext g nb i < W64 := fun i _ => by unfold ext; split; exact hg i ‹_›; exact hW
  go_enter Tryz.func149, Tryz.ntmps149
  go_wp2
  generalize hw1 : w.alloc (Obj.cells (madeCells #[Value.int IntKind.u64 0] na) 29) = w1
  have hx1 : Ext w w1 := by rw [← hw1]; exact (Below.refl _ _).alloc (Nat.le_refl _) _
  have hrow : w1.rowIs w.heap.size 29 na (fun _ => v64 0) := by rw [← hw1]; exact World.rowIs_made _ _ _ _
  clear hw1 hmk
  obtain ⟨b, hb0⟩ : ∃ b, b = w.heap.size := ⟨_, rfl⟩
  rw [← hb0] at hrow ⊢
  have hbge : w.heap.size ≤ b := by omega
  clear hb0
  go_loopw [6, 14] (fun c i wr => ∃ k, k ≤ na ∧ i = .int .i64 (k : Nat) ∧ c = v64 (bw f (ext g nb) k) ∧ wr.rowIs b 29 na (fun j => v64 (upTo (difDg W64 f (ext g nb)) k j)) ∧ Ext w wr) (fun _ i _ => na - (intOf i).toNat)
  case atStart => exact ⟨0, Nat.zero_le _, rfl, rfl, hrow.congr (fun j _ => rfl), hx1⟩
  case round =>
    obtain ⟨k, hk, rfl, rfl, hrk, hxk⟩ := hrel
    by_cases hlt : k < na
    · obtain ⟨ga, rfl, hga, hca⟩ := ha.cell (by omega)
      have hcak : wr.cell? ⟨ga, k, none⟩ = some (v64 (f k)) := (hxk.cell (p := ⟨ga, k, none⟩) hga).trans (hca k hlt)
      have hsub := sub_dig f (ext g nb) k (hf k hlt) (hge k hlt)
      have hck0 := hrk.cell (i := k) (by omega)
      have hfz := hrk.frozen k
      clear ha hca hf hg hge K
      by_cases hkb : k < nb
      · obtain ⟨gb, rfl, hgb, hcb⟩ := hb.cell (by omega)
        have hcbk : wr.cell? ⟨gb, k, none⟩ = some (v64 (ext g nb k)) := by
          rw [hxk.cell (p := ⟨gb, k, none⟩) hgb]; simp only [ext, if_pos hkb]; exact hcb k hkb
        clear hb hcb
        go_wp2
        go_roundw
        case rel => exact ⟨k + 1, by omega, by go_num, rfl, rowUp_set hrk rfl, hxk.setCell (p := ⟨b, k, none⟩) hbge _⟩
        case measure => simp [intOf]; omega
      · clear hb
        rw [show ext g nb k = 0 from if_neg hkb] at hsub
        simp only [v64, Int.natCast_zero] at hsub
        go_wp2
        go_roundw
        case rel => exact ⟨k + 1, by omega, by go_num, rfl, rowUp_set hrk rfl, hxk.setCell (p := ⟨b, k, none⟩) hbge _⟩
        case measure => simp [intOf]; omega
    · obtain rfl : k = na := by omega
      clear ha hb
      go_wp2
      exact K b _ (hrk.congr (fun j hj => by rw [upTo_lt hj])) hxk

def cmpN (a b : Nat) : Int := if a < b then -1 else if a = b then 0 else 1

set_option maxHeartbeats 400000 in
theorem cmp_any {R : Ending → World → Prop} (s1 s2 : Bool) (A B : Option Addr) (na nb ca cb : Nat) (f g : Nat → Nat) (w : World) (hn : na ≤ 1099511627777) (hnb : nb ≤ 1099511627777)
    (ha : RowAt w 29 A na (fun i => v64 (f i))) (hb : RowAt w 29 B nb (fun i => v64 (g i))) (hf : ∀ i, i < na → f i < W64) (hg : ∀ i, i < nb → g i < W64)
    (tf : 0 < na → f (na - 1) ≠ 0) (tg : 0 < nb → g (nb - 1) ≠ 0)
    (K : ∀ w', Ext w w' → R (.returned (.int .i64 (cmpN (valB W64 f na) (valB W64 g nb)))) w') :
    Calls Tryz.prog 147 #[.agg #[.bool s1, .slice A na ca], .agg #[.bool s2, .slice B nb cb]] w R := by
  have hx : Ext w ((w.alloc (Obj.cells #[.bool s1, .slice A na ca] 112)).alloc (Obj.cells #[.bool s2, .slice B nb cb] 112)) := ((Ext.rfl' w).alloc' _).alloc' _
  have hW : 0 < W64 := by decide
  by_cases hl : na = nb
  · subst hl
    have hne : (((na : Nat) : Int) != (na : Int)) = false := by simp
    go_enter Tryz.func147, Tryz.ntmps147
    go_wp2
    go_loopw [5] (fun i wr => ∃ k q, k ≤ na ∧ i = .int .i64 ((k : Nat) - 1 : Int) ∧ (∀ j, k ≤ j → j < na → f j = g j) ∧
        wr = ((w.alloc (Obj.cells #[.bool s1, .slice A na ca] 112)).alloc (Obj.cells #[.bool s2, .slice B na cb] 112)).drewN q) (fun i _ => (intOf i + 1).toNat)
    case atStart => exact ⟨na, 0, Nat.le_refl _, rfl, fun j _ _ => by omega, rfl⟩
    case round =>
      obtain ⟨k, q, hk, rfl, he, rfl⟩ := hrel
      have HE : Hid (∀ j, k ≤ j → j < na → f j = g j) := he
      clear he
      by_cases h0 : k = 0
      · subst h0
        clear ha hb
        go_wp2
        have e : valB W64 f na = valB W64 g na := valB_congr W64 na (fun i hi => HE.out i (Nat.zero_le _) hi)
        have := K _ (below_draws hx q)
        rw [e] at this
        simpa [cmpN] using this
      · obtain ⟨ga, rfl, hga, hca⟩ := ha.cell (by omega)
        obtain ⟨gb, rfl, hgb, hcb⟩ := hb.cell (by omega)
        have hca1 := hca (k - 1) (by omega)
        have hcb1 := hcb (k - 1) (by omega)
        clear ha hb hca hcb
        have HF : Hid (∀ i, i < na → f i < W64) := hf
        have HG : Hid (∀ i, i < na → g i < W64) := hg
        clear hf hg
        by_cases hlt : f (k - 1) < g (k - 1)
        · have e : valB W64 f na < valB W64 g na := valB_lt_of_top (i := k - 1) (by omega) HF.out hlt (fun j h1 h2 => HE.out j (by omega) h2)
          go_wp2
          go_quiet (fail)
          go_wp2
          have := K _ (below_draws hx (q + nq))
          simpa [cmpN, e] using this
        · by_cases hgt : g (k - 1) < f (k - 1)
          · have e : valB W64 g na < valB W64 f na := valB_lt_of_top (i := k - 1) (by omega) HG.out hgt (fun j h1 h2 => (HE.out j (by omega) h2).symm)
            go_wp2
            go_quiet (fail)
            go_wp2
            go_quiet (fail)
            go_wp2
            have := fun W (h : Ext w W) => K W h
            simp only [cmpN, show ¬ valB W64 f na < valB W64 g na by omega, show ¬ valB W64 f na = valB W64 g na by omega, if_false] at this
            exact this _ (by repeat (first | exact hx | apply below_draws))
          · have heq : f (k - 1) = g (k - 1) := by omega
            have HH : Hid (f (k - 1) = g (k - 1)) := heq
            clear heq K
            go_wp2
            go_quiet (fail)
            go_wp2
            go_quiet (fail)
            go_wp2
            go_roundw
            case rel => exact ⟨k - 1, _, by omega, by congr 1; omega, fun j h1 h2 => by
              by_cases e : j = k - 1
              · rw [e]; exact HH.out
              · exact HE.out j (by omega) h2, rfl⟩
            case measure => simp [intOf]; omega
  · have hne : (((na : Nat) : Int) != (nb : Int)) = true := by simp; omega
    clear ha hb
    by_cases hlt : na < nb
    · have e : valB W64 f na < valB W64 g nb := valB_lt_of_len hW hf hlt (tg (by omega))
      have hd : decide ((na : Int) < (nb : Int)) = true := by simp; omega
      have := K _ hx
      simp only [cmpN, e, if_true] at this
      clear K
      go_enter Tryz.func147, Tryz.ntmps147
      go_wp2
      exact this
    · have e : valB W64 g nb < valB W64 f na := valB_lt_of_len hW hg (by omega) (tf (by omega))
      have hd : decide ((na : Int) < (nb : Int)) = false := by simp; omega
      have := K _ hx
      simp only [cmpN, show ¬ valB W64 f na < valB W64 g nb by omega, show ¬ valB W64 f na = valB W64 g nb by omega, if_false] at this
      clear K
      go_enter Tryz.func147, Tryz.ntmps147
      go_wp2
      exact this
end Go.Proofs.YtjngofngjbjpbaaGreatDoor
end
