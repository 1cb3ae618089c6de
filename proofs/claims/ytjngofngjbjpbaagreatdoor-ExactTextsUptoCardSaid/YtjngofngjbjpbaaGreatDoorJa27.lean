/- abacusref09: words. abacusref09: Parse. exact.cutLeft. exact.cutRight, exact.digits. exact.digits. exact.Parse: its closure. -/
import Derived.Test.YtjngofngjbjpbaaGreatDoorJa25
import Derived.Test.YtjngofngjbjpbaaGreatDoorJa16
import Derived.BigRegion
import Derived.Deep.CutRange
import Derived.Deep.CutBlock
import Derived.Laws.RangeAny
import Derived.Lib.RuneCount

section
set_option linter.unusedSimpArgs false
set_option linter.unusedVariables false
namespace Go.Proofs.YtjngofngjbjpbaaGreatDoor
open Go.RowKit

/-- the last string of a row is set -/
theorem OwnT.setLast {w : World} {base : Nat} {v : Value} {xs : List ByteArray} {l x : ByteArray} (h : OwnT w base v (xs ++ [l])) :
    ∃ g cap, v = .slice (some ⟨g, 0, none⟩) (xs.length + 1) cap ∧ xs.length + 1 ≤ cap ∧ cap ≤ 9223372036854775807 ∧ base ≤ g ∧ w.cell? ⟨g, xs.length, none⟩ = some (.string l) ∧ w.frozen? ⟨g, xs.length, none⟩ = false ∧
      OwnT (w.setCell ⟨g, xs.length, none⟩ (.string x)) base v (xs ++ [x]) := by
  unfold OwnT at h
  obtain ⟨g, cap, cur, hv, hg, hb, h1, h2, h3, h4⟩ := ownsRow_form h (by simp)
  have hlen : (xs ++ [l]).length = xs.length + 1 := by simp
  rw [hlen] at hv h1
  refine ⟨g, cap, hv, h1, h2, hg, ?_, frozen_of_blk hb _, ?_⟩
  · rw [cell_of_blk hb]
    exact h4 _ _ (by simp)
  · unfold OwnT World.ownsRow
    rw [show (xs ++ [x]).length = xs.length + 1 from by simp]
    refine ⟨by simp, Or.inr ⟨g, cap, cur.setIfInBounds xs.length (.string x), hv, hg, blk_setCell hb _ _, h1, h2, by simp [h3], ?_⟩⟩
    refine List.ext_getElem? fun i => ?_
    rw [Nat.mul_one]
    by_cases hi : i < xs.length + 1
    · rw [List.getElem?_take_of_lt hi]
      by_cases e : i = xs.length
      · subst e
        have h1' : xs.length < cur.size := by omega
        simp [h1']
      · have := h4 i (.string (xs[i]'(by omega))) (by rw [List.map_append, List.getElem?_append_left (by simp; omega)]; simp [show i < xs.length by omega])
        rw [List.map_append, List.getElem?_append_left (by simp; omega)]
        simp only [Array.toList_setIfInBounds, List.getElem?_set_ne (Ne.symm e)]
        simp [show i < xs.length by omega]
        simpa using this
    · rw [List.getElem?_eq_none (by simp; omega), List.getElem?_eq_none (by simp; omega)]
theorem OwnT.len {w : World} {base : Nat} {v : Value} {xs : List ByteArray} (h : OwnT w base v xs) : w.ownsRow base 9 1 v (xs.map Value.string).length (xs.map Value.string) := by
  unfold OwnT at h
  rw [List.length_map]
  exact h
theorem wordsL_le (l : List UInt8) : ∀ y, y ∈ wordsL l → y.length ≤ l.length := by
  induction l with
  | nil => intro y hy; simp [wordsL] at hy; subst hy; simp
  | cons b r ih =>
    intro y hy
    have hc := wordsL_cons r
    simp only [wordsL] at hy
    split at hy
    · rcases List.mem_cons.1 hy with rfl | hy
      · simp
      · have := ih y hy; simp; omega
    · rcases List.mem_cons.1 hy with rfl | hy
      · have := ih ((wordsL r).headD []) (by rw [← hc]; simp)
        rw [List.length_cons, List.length_cons]; omega
      · have := ih y (by rw [← hc]; exact List.mem_cons_of_mem _ hy)
        simp; omega
theorem wordsL_count (l : List UInt8) : (wordsL l).length ≤ l.length + 1 := by
  induction l with
  | nil => simp [wordsL]
  | cons b r ih =>
    have hc := congrArg List.length (wordsL_cons r)
    simp only [List.length_cons] at hc
    simp only [wordsL]
    split <;> simp <;> omega

theorem snoc_words {ws : List (List UInt8)} (h : ws ≠ []) (b : UInt8) : snocW ws b = if b = 32 then ws ++ [[]] else ws.dropLast ++ [(ws.getLastD []) ++ [b]] := rfl
theorem one_byte_slice (s : ByteArray) (i : Nat) (h : i < s.size) : s.extract i (i + 1) = ⟨#[s.data.toList.getD i 0]⟩ := by
  refine ByteArray.ext (Array.toList_inj.1 ?_)
  rw [Lib.extract_data]
  have hl := str_len s
  rw [show i + 1 - i = 1 from by omega, List.getD_eq_getElem?_getD, List.getElem?_eq_getElem (by omega)]
  simp only [Option.getD_some]
  rw [List.drop_eq_getElem_cons (by omega)]
  rfl

set_option maxHeartbeats 4000000 in
set_option maxRecDepth 100000 in
theorem words_any {R : Ending → World → Prop} (s : ByteArray) (w : World) (hsz : s.size ≤ 1073741824)
    (K : ∀ v w' (xs : List ByteArray), OwnT w' w.heap.size v xs → xs.map (fun x => x.data.toList) = wordsL s.data.toList → Ext w w' → R (.returned v) w') :
    Calls Tryz.prog 56 #[.string s] w R := by
  obtain ⟨i0, hi0, hz0, hz1, hz2⟩ := info_parts Tryz.info9
  have hlen := str_len s
  have HL : Hid (s.size = s.data.toList.length) := hlen
  clear hlen
  have o1 : OwnT (w.alloc (.cells #[.string ⟨#[]⟩] 9)) w.heap.size (.slice (some ⟨w.heap.size, 0, none⟩) 1 1) [⟨#[]⟩] := by
    unfold OwnT World.ownsRow
    exact ⟨rfl, Or.inr ⟨w.heap.size, 1, #[.string ⟨#[]⟩], rfl, Nat.le_refl _, blk_1_1 w _, Nat.le_refl _, by decide, rfl, rfl⟩⟩
  have hx1 : Ext w (w.alloc (.cells #[.string ⟨#[]⟩] 9)) := (Ext.rfl' w).alloc' _
  go_enter Tryz.func56, Tryz.ntmps56
  go_wp2
  go_loopw [3, 4] (fun ov iv wr => ∃ (i : Nat) (ys : List ByteArray) (l : ByteArray), i ≤ s.size ∧ iv = .int .i64 (i : Int) ∧ OwnT wr w.heap.size ov (ys ++ [l]) ∧ (ys ++ [l]).map (fun x => x.data.toList) = wordsL (s.data.toList.take i) ∧ Ext w wr) (fun _ iv _ => s.size - (intOf iv).toNat)
  case atStart => exact ⟨0, [], ⟨#[]⟩, Nat.zero_le _, rfl, o1, rfl, hx1⟩
  case round =>
    obtain ⟨i, ys, l, hi, rfl, ho, hw, hB⟩ := hrel
    have hDn := HL.out
    have hbase : w.heap.size ≤ wr.heap.size := hB.size
    by_cases hlt : i < s.size
    · obtain ⟨x, hx⟩ : ∃ x, x = s.data.toList.getD i 0 := ⟨_, rfl⟩
      have hat : ∀ h, ((s[i]'h).toNat : Int) = (x.toNat : Int) := fun h => by rw [str_at, hx]
      have hts := take_snoc (D := s.data.toList) (i := i) (by omega)
      rw [← hx] at hts
      have hsn := wordsL_snoc (s.data.toList.take i) x
      rw [← hts, ← hw] at hsn
      have hcount := wordsL_count (s.data.toList.take i)
      rw [← hw] at hcount
      simp only [List.length_map, List.length_append, List.length_singleton, List.length_take] at hcount
      have hyl : ys.length ≤ 1073741824 := by omega
      have hll : l.size ≤ 1073741824 := by
        have := wordsL_le (s.data.toList.take i) l.data.toList (by rw [← hw]; simp)
        rw [List.length_take] at this
        rw [str_len l]
        omega
      by_cases h32 : x = 32
      · have hb : (x.toNat : Int) = 32 := by rw [h32]; rfl
        have hnew : Hid (((ys ++ [l]) ++ [(⟨#[]⟩ : ByteArray)]).map (fun (x : ByteArray) => x.data.toList) = wordsL (s.data.toList.take (i + 1))) := (by
          rw [hsn]
          unfold snocW
          rw [if_pos h32, List.map_append]
          rfl : ((ys ++ [l]) ++ [(⟨#[]⟩ : ByteArray)]).map (fun (x : ByteArray) => x.data.toList) = wordsL (s.data.toList.take (i + 1)))
        have hone : ((ys ++ [l]).map Value.string).length + 1 ≤ 8796093022208 := by simp; omega
        have hon2 : (((ys ++ [l]).map Value.string).length + 1) * 16 ≤ 140737488355328 := by omega
        have ho' := ho.len
        clear hx hts hsn hw h32 K hcount hDn hone
        go_wp2_with (at_builtin; refine app1 (W := wr) w.heap.size rfl (.tmp 16) (.tmp 17) 102 9 (.string ⟨#[]⟩) 16 rfl Tryz.underlying102 Tryz.info9 rfl (by decide) _ ((ys ++ [l]).map Value.string) (.string ⟨#[]⟩) rfl rfl rfl ho' hbase hon2 ?_; intro v9 w9 ho9 hg9; have hB9 : Ext w w9 := Below.grown hB hg9 hbase (fun k hk => (ho.lt k hk).1))
        go_roundw
        case rel => exact ⟨i + 1, ys ++ [l], ⟨#[]⟩, hlt, by go_num, by unfold OwnT; rw [List.map_append, List.length_append]; simpa using ho9, hnew.out, hB9⟩
        case measure => first | (simp [intOf]; done) | (simp [intOf]; omega)
      · obtain ⟨y, hy⟩ : ∃ y, y = x.toNat := ⟨_, rfl⟩
        rw [← hy] at hat
        have hb : ((y : Int) == 32) = false := by
          have : y ≠ 32 := fun e => h32 (UInt8.toNat_inj.1 (by rw [← hy, e]; rfl))
          simp; omega
        have hext := one_byte_slice s i hlt
        rw [← hx] at hext
        obtain ⟨L, hL⟩ : ∃ L : ByteArray, L = l ++ ⟨#[x]⟩ := ⟨_, rfl⟩
        obtain ⟨X, hX⟩ : ∃ X : ByteArray, X = ⟨#[x]⟩ := ⟨_, rfl⟩
        rw [← hX] at hext hL
        have hXs : X.size = 1 := by rw [hX]; rfl
        have hod : OwnT wr.drew w.heap.size _ (ys ++ [l]) := World.ownsRow.drew ho
        obtain ⟨g, cap, rfl, hcap, hcap2, hgb, hcell, hfz, hset⟩ := hod.setLast (x := L)
        replace hcell : wr.cell? ⟨g, ys.length, none⟩ = some (.string l) := hcell
        replace hfz : wr.frozen? ⟨g, ys.length, none⟩ = false := hfz
        have hnew : Hid ((ys ++ [L]).map (fun x => x.data.toList) = wordsL (s.data.toList.take (i + 1))) := (by
          rw [hsn]
          unfold snocW
          rw [if_neg h32, hL, hX]
          simp : (ys ++ [L]).map (fun x => x.data.toList) = wordsL (s.data.toList.take (i + 1)))
        have hcat : l ++ X = L := hL.symm
        obtain ⟨n, hn⟩ : ∃ n, n = ys.length := ⟨_, rfl⟩
        rw [← hn] at hcell hfz hset hcap hyl ⊢
        have e1 : ((n + 1 : Nat) : Int) - 1 = (n : Int) := by omega
        have wr1 : IntKind.i64.wrap (((n + 1 : Nat) : Int) - 1) = (n : Int) := by rw [e1]; exact wrapI_in _ (by omega) (by omega)
        have hgw : w.heap.size ≤ g := hgb
        clear hx hts hsn hw h32 K hcount hDn hL hX hn hy ho hod
        have hBn : Ext w (wr.drew.setCell ⟨g, n, none⟩ (.string L)) := Below.setCell (p := ⟨g, n, none⟩) (Below.drew hB) hgw _
        go_wp2
        go_region
        all_goals
          go_wp2
          go_roundw
          case rel => exact ⟨i + 1, ys, L, hlt, by go_num, hset, hnew.out, hBn⟩
          case measure => first | (simp [intOf]; done) | (simp [intOf]; omega)
    · have hin : i = s.size := by omega
      have htk : s.data.toList.take i = s.data.toList := List.take_of_length_le (by omega)
      rw [htk] at hw
      have fin := K _ wr _ ho hw hB
      have hd : decide ((i : Int) < (s.size : Int)) = false := by simp; omega
      clear K hw htk ho hDn
      go_wp2
      exact fin
end Go.Proofs.YtjngofngjbjpbaaGreatDoor
end

section
set_option linter.unusedSimpArgs false
set_option linter.unusedVariables false
namespace Go.Proofs.YtjngofngjbjpbaaGreatDoor
open Go.RowKit

abbrev cells7 (ng : Bool) (A : Option Addr) (n c : Nat) (p m nn o : Bool) (cnt : Nat) : Array Value := #[.bool ng, .slice A n c, .bool p, .bool m, .bool nn, .bool o, v64 cnt]

/-- a row of strings, cell by cell -/
theorem OwnT.cells {w : World} {base : Nat} {v : Value} {xs : List ByteArray} (h : OwnT w base v xs) (h0 : 0 < xs.length) :
    ∃ g cap, v = .slice (some ⟨g, 0, none⟩) xs.length cap ∧ xs.length ≤ cap ∧ g < w.heap.size ∧ base ≤ g ∧ ∀ i x, xs[i]? = some x → w.cell? ⟨g, i, none⟩ = some (.string x) := by
  unfold OwnT at h
  obtain ⟨g, cap, cur, hv, hg, hb, h1, h2, h3, h4⟩ := ownsRow_form h h0
  exact ⟨g, cap, hv, h1, (Array.getElem?_eq_some_iff.1 hb).1, hg, fun i x hx => by rw [cell_of_blk hb]; exact h4 i _ (by simp [hx])⟩
theorem ends_form {xs : List ByteArray} (h : 2 ≤ xs.length) : ∃ f mid la, xs = f :: (mid ++ [la]) := by
  cases xs with
  | nil => simp at h
  | cons x r =>
    cases r with
    | nil => simp at h
    | cons y ys => exact ⟨x, (y :: ys).dropLast, (y :: ys).getLast (by simp), by rw [List.dropLast_concat_getLast]⟩
/-- the strings of a row stay -/
def RowS (w : World) (g : Nat) (xs : List ByteArray) : Prop := g < w.heap.size ∧ ∀ i x, xs[i]? = some x → w.cell? ⟨g, i, none⟩ = some (.string x)
theorem RowS.ext {w w' : World} {g : Nat} {xs : List ByteArray} (h : RowS w g xs) (hx : Ext w w') : RowS w' g xs :=
  ⟨Nat.lt_of_lt_of_le h.1 hx.size, fun i x hi => (hx.cell (p := ⟨g, i, none⟩) h.1).trans (h.2 i x hi)⟩
theorem RowS.set {w : World} {g : Nat} {xs : List ByteArray} (h : RowS w g xs) {b : Nat} (hb : b ≠ g) (i : Nat) (v : Value) : RowS (w.setCell ⟨b, i, none⟩ v) g xs :=
  ⟨by simp [World.setCell]; exact h.1, fun j x hj => by rw [World.cell?_setCell_far _ _ _ _ hb]; exact h.2 j x hj⟩
theorem take_noNeg {D : List UInt8} (h : hasNeg D = true) : noNeg D = D.drop 1 := by
  unfold noNeg
  rw [h, if_pos rfl]
  cases D <;> rfl
/-- what a text's parts give -/
def parseParts (f la : List UInt8) (mid : List (List UInt8)) : Option SumS :=
  if digsOk isHex (noNeg f) = true ∧ digsOk isDec la = true ∧ decV la < 18446744073709551616 ∧ f ≠ [45, 48] then
    match mid.foldl (markR (decide (hexV (noNeg f) = 0))) (some (false, false, false, false)) with
    | none => none
    | some (p, m, n, o) =>
      if decV la = 0 ∧ (hexV (noNeg f) ≠ 0 ∨ p = true ∨ m = true ∨ n = true ∨ o = true) then none
      else some ⟨sg (hasNeg f) (hexV (noNeg f)), p, m, n, decide (0 < decV la) && !o, decV la⟩
  else none
theorem parseL_form (f la : List UInt8) (mid : List (List UInt8)) : parseL (f :: (mid ++ [la])) = parseParts f la mid := by
  unfold parseL
  rw [if_neg (by simp)]
  have e1 : (f :: (mid ++ [la])).headD [] = f := rfl
  have e2 : (f :: (mid ++ [la])).getLastD [] = la := by rw [← List.cons_append, List.getLastD_eq_getLast?, List.getLast?_append]; rfl
  have e3 : (f :: (mid ++ [la])).tail.dropLast = mid := by simp
  rw [e1, e2, e3]
  rfl
theorem neg_zero {f : List UInt8} (h1 : digsOk isHex (noNeg f) = true) : (f = [45, 48]) ↔ (hasNeg f = true ∧ hexV (noNeg f) = 0) := by
  rw [hexV_zero h1]
  constructor
  · rintro rfl; decide
  · rintro ⟨a, b⟩
    unfold noNeg at b
    rw [a] at b
    unfold hasNeg at a
    cases f with
    | nil => simp at a
    | cons x xs => simp at a b; rw [a, b]

set_option maxHeartbeats 8000000 in
set_option maxRecDepth 100000 in
theorem parseR_any {R : Ending → World → Prop} (t : ByteArray) (w : World) (hsz : t.size ≤ 268435456)
    (Kt : ∀ s, parseL (wordsL t.data.toList) = some s → ∀ A n c w', BitsZ w' A n c s.z → n ≤ 4 * t.size → Ext w w' → R (.returned (.tuple #[refV A n c s, .int .i64 0])) w')
    (Kf : parseL (wordsL t.data.toList) = none → ∀ w', Ext w w' → R (.returned (.tuple #[refV none 0 0 zeroS, .int .i64 90])) w') :
    Calls Tryz.prog 14 #[.string t] w R := by
  go_enter Tryz.func14, Tryz.ntmps14
  go_wp2_with fail
  refine words_any t _ (by omega) ?_
  intro v w1 xs ho hws hx1
  have hxw : Ext w w1 := ((Ext.rfl' w).alloc' _).trans' hx1
  have bq0 := (hx1.block w.heap.size (by simp)).trans (blk_1_1 w _)
  have hne : xs ≠ [] := by
    intro e
    rw [e] at hws
    exact wordsL_ne _ hws.symm
  have hpos : 0 < xs.length := by
    cases xs with
    | nil => exact absurd rfl hne
    | cons _ _ => simp
  obtain ⟨g, cap, rfl, hcap, hg, hgb, hcell⟩ := ho.cells hpos
  have hlen : xs.length ≤ t.size + 1 := by
    have h1 := congrArg List.length hws
    rw [List.length_map] at h1
    have := wordsL_count t.data.toList
    have := str_len t
    omega
  have hwle : ∀ x, x ∈ xs → x.size ≤ t.size := fun x hx => by
    have h1 := wordsL_le t.data.toList x.data.toList (by rw [← hws]; exact List.mem_map_of_mem hx)
    rw [str_len x, str_len t]
    exact h1
  go_upto_region 3 with fail
  have bq : (w1.alloc (.cells (cells7 false none 0 0 false false false true 0) 31)).heap[w.heap.size]? = some (.cells zero7 31 (0, 0)) := (Below.heap_alloc _ _ _ (by have := hx1.size; simp at this; omega)).trans bq0
  have bp : (w1.alloc (.cells (cells7 false none 0 0 false false false true 0) 31)).heap[w1.heap.size]? = some (.cells (cells7 false none 0 0 false false false true 0) 31 (0, 0)) := blk_1_1 w1 _
  have hrow : RowS (w1.alloc (.cells (cells7 false none 0 0 false false false true 0) 31)) g xs := RowS.ext ⟨hg, hcell⟩ ((Ext.rfl' w1).alloc' _)
  have hxV : Ext w (w1.alloc (.cells (cells7 false none 0 0 false false false true 0) 31)) := hxw.alloc' _
  obtain ⟨pb, hpb⟩ : ∃ pb, pb = w1.heap.size := ⟨_, rfl⟩
  have hpg : pb ≠ g := by omega
  have hwp : w.heap.size < pb := by have := hx1.size; simp at this; omega
  simp only [cells7] at bq bp hrow hxV
  rw [← hpb] at bp ⊢
  generalize hV : w1.alloc (.cells #[.bool false, .slice none 0 0, .bool false, .bool false, .bool false, .bool true, v64 0] 31) = V at bq bp hrow hxV ⊢
  clear hcell ho hg hgb bq0 hxw hx1 hV hpb hne
  by_cases h2 : xs.length < 2
  · have hpn : parseL (wordsL t.data.toList) = none := by
      unfold parseL
      rw [if_pos (by rw [← hws, List.length_map]; exact h2)]
    have hd : decide ((xs.length : Int) < 2) = true := by simp; omega
    clear hrow hws Kt hwle
    have ey := fun i => frozen_of_blk bq i
    have et0 : (V).cell? ⟨w.heap.size, 0, none⟩ = some (.bool false) := cell_of_blk bq 0
    have et1 : (V).cell? ⟨w.heap.size, 1, none⟩ = some (.slice none 0 0) := cell_of_blk bq 1
    have et2 : (V).cell? ⟨w.heap.size, 2, none⟩ = some (.bool false) := cell_of_blk bq 2
    have et3 : (V).cell? ⟨w.heap.size, 3, none⟩ = some (.bool false) := cell_of_blk bq 3
    have et4 : (V).cell? ⟨w.heap.size, 4, none⟩ = some (.bool false) := cell_of_blk bq 4
    have et5 : (V).cell? ⟨w.heap.size, 5, none⟩ = some (.bool false) := cell_of_blk bq 5
    have et6 : (V).cell? ⟨w.heap.size, 6, none⟩ = some (.int .u64 0) := cell_of_blk bq 6
    obtain ⟨k0, _, k2, _, _⟩ := ret7 bq (.bool false) (.slice none 0 0) (.bool false) (.bool false) (.bool false) (.bool false) (.int .u64 0)
    have efin := Kf hpn _ (k2 w hxV (Nat.le_refl _))
    unfold set7 at k0 efin
    replace efin : R (.returned (.tuple #[.agg #[.bool false, .slice none 0 0, .bool false, .bool false, .bool false, .bool false, .int .u64 0], .int .i64 90])) _ := efin
    have d0 := cell_of_blk k0 0
    have d1 := cell_of_blk k0 1
    have d2 := cell_of_blk k0 2
    have d3 := cell_of_blk k0 3
    have d4 := cell_of_blk k0 4
    have d5 := cell_of_blk k0 5
    have d6 := cell_of_blk k0 6
    clear k0 k2 bq bp hxV hpn
    go_wp2_with fail
    exact bodyPost_ret (v := .tuple #[.agg #[.bool false, .slice none 0 0, .bool false, .bool false, .bool false, .bool false, .int .u64 0], .int .i64 90]) (by simp [results, Tryz.results14, go_sem, d0, d1, d2, d3, d4, d5, d6]) rfl efin
  · obtain ⟨f, mid, la, hxs⟩ := ends_form (xs := xs) (by omega)
    have hc0 : V.cell? ⟨g, 0, none⟩ = some (.string f) := hrow.2 0 f (by rw [hxs]; rfl)
    have hfs : f.size ≤ t.size := hwle f (by rw [hxs]; simp)
    have hls : la.size ≤ t.size := hwle la (by rw [hxs]; simp)
    have hxl : xs.length = mid.length + 2 := by rw [hxs]; simp
    have hform : parseL (wordsL t.data.toList) = parseParts f.data.toList la.data.toList (mid.map fun x => x.data.toList) := by
      rw [← hws, hxs, List.map_cons, List.map_append]
      exact parseL_form f.data.toList la.data.toList (mid.map fun x => x.data.toList)
    have hlast : ∀ W, RowS W g xs → W.cell? ⟨g, mid.length + 1, none⟩ = some (.string la) := fun W hW => hW.2 _ la (by rw [hxs]; simp)
    have hmid : ∀ W, RowS W g xs → ∀ j x, mid[j]? = some x → W.cell? ⟨g, 1 + j, none⟩ = some (.string x) := fun W hW j x hj => hW.2 _ x (by
      rw [hxs, Nat.add_comm, List.getElem?_cons_succ, List.getElem?_append_left (List.getElem?_eq_some_iff.1 hj).1]
      exact hj)
    rw [hform] at Kt Kf
    clear hform hws hwle
    obtain ⟨N, hN⟩ : ∃ N, N = xs.length := ⟨_, rfl⟩
    have hNm : N = mid.length + 2 := by omega
    rw [← hN] at hcap hlen ⊢
    have HXS : Hid (xs = f :: (mid ++ [la])) := hxs
    clear hxs hxl hpos h2 hN
    obtain ⟨ng, hng⟩ : ∃ ng, ng = hasNeg f.data.toList := ⟨_, rfl⟩
    have hd2 : decide ((N : Int) < 2) = false := by simp; omega
    have hd2' : ¬ N < 2 := by omega
    have hflen := str_len f
    have HFL : Hid (f.size = f.data.toList.length) := hflen
    obtain ⟨f1, hf1⟩ : ∃ f1 : ByteArray, f1 = ⟨(noNeg f.data.toList).toArray⟩ := ⟨_, rfl⟩
    have hf1d : f1.data.toList = noNeg f.data.toList := by rw [hf1]
    have hN0 : Hid (N = mid.length + 2) := hNm
    clear hflen hNm
    go_upto_region 6 with fail
    go_cut [29] from 23 to 29 (fun b wx => b = .bool ng ∧ wx = V)
    case first =>
      clear Kt Kf hlast hmid
      by_cases hf0 : f.size = 0
      · have hs : f = ⟨#[]⟩ := by
          refine ByteArray.ext ?_
          exact Array.eq_empty_of_size_eq_zero hf0
        have hng0 : ng = false := by rw [hng, hs]; rfl
        subst hng0
        clear hng hf1d hf1 HXS HFL hN0
        subst hs
        go_wp2_with fail
        go_meet
        exact ⟨rfl, rfl⟩
      · have hE : f.toList.isEmpty = false := by
          have := HFL.out
          rw [ByteArray.toList_eq]
          cases hd : f.data.toList with
          | nil => rw [hd] at this; exact absurd this hf0
          | cons x xs => rfl
        have hE2 : ¬ f.toList = [] := by
          intro e
          rw [e] at hE
          exact absurd hE (by decide)
        obtain ⟨x0, hx0⟩ : ∃ x0, x0 = f.data.toList.getD 0 0 := ⟨_, rfl⟩
        have hat0 : ∀ h, ((f[0]'h).toNat : Int) = (x0.toNat : Int) := fun h => by rw [str_at, hx0]
        have hhead : ng = (x0 == 45) := by
          rw [hng, hx0]
          unfold hasNeg
          have := HFL.out
          cases hd : f.data.toList with
          | nil => rw [hd] at this; exact absurd this hf0
          | cons x xs => rfl
        have hb : ((x0.toNat : Int) == 45) = ng := by
          rw [hhead]
          by_cases e : x0 = 45
          · subst e; rfl
          · have : x0.toNat ≠ 45 := fun h => e (UInt8.toNat_inj.1 h)
            have e2 : (x0 == 45) = false := by simpa using e
            rw [e2]
            simp; omega
        clear hx0 hhead hng hf1d hf1 HXS HFL hN0
        go_wp2_with fail
        go_meet
        exact ⟨rfl, rfl⟩
    case rest =>
      obtain ⟨rfl, rfl⟩ := hcut
      go_upto_if 29 with fail
      have p0 : wc.cell? ⟨pb, 0, none⟩ = some (.bool false) := cell_of_blk bp 0
      have pz := fun i => frozen_of_blk bp i
      go_cut [6] from 30 to 32 (fun fv wx => fv = .string f1 ∧ wx.heap[pb]? = some (.cells (cells7 ng none 0 0 false false false true 0) 31 (0, 0)) ∧ wx.heap[w.heap.size]? = some (.cells zero7 31 (0, 0)) ∧ RowS wx g xs ∧ Ext w wx)
      case first =>
        clear Kt Kf hlast hmid
        cases ng
        · have hff : f1 = f := by
            rw [hf1]
            unfold noNeg
            rw [← hng, if_neg (by decide)]
          clear hng hf1d hf1 HXS HFL hN0
          subst hff
          go_wp2_with fail
          go_meet
          exact ⟨rfl, bp, bq, hrow, hxV⟩
        · have hf0 : 1 ≤ f.size := by
            have h1 := HFL.out
            have h2 : hasNeg f.data.toList = true := hng.symm
            unfold hasNeg at h2
            cases hd : f.data.toList with
            | nil => rw [hd] at h2; simp at h2
            | cons x xs => rw [hd] at h1; simp at h1; omega
          have hext : f.extract 1 f.size = f1 := by
            refine ByteArray.ext (Array.toList_inj.1 ?_)
            rw [hf1d, take_noNeg hng.symm, Lib.extract_data, HFL.out]
            exact List.take_of_length_le (by rw [List.length_drop]; exact Nat.le_refl _)
          have fin := And.intro (blk_setCell bp 0 (.bool true)) (And.intro ((Below.heap_setCell _ ⟨pb, 0, none⟩ (.bool true) w.heap.size (by simp; omega)).trans bq) (And.intro (hrow.set hpg 0 (.bool true)) (hxV.setCell (p := ⟨pb, 0, none⟩) (by simp; omega) (.bool true))))
          have hfne : ¬ f.size = 0 := by omega
          clear hng hf1d hf1 HXS HFL hN0
          go_wp2_with fail
          go_meet
          exact ⟨rfl, fin⟩
      case rest =>
        clear p0 pz bp bq hrow hxV hc0
        obtain ⟨rfl, bp, bq, hrow, hxV⟩ := hcut
        have hf1s : f1.size ≤ t.size := by
          have h1 := str_len f1
          rw [hf1d] at h1
          have h2 := HFL.out
          unfold noNeg at h1
          split at h1
          · rw [List.length_tail] at h1; omega
          · omega
        obtain ⟨L, hL⟩ : ∃ L, L = mid.length := ⟨_, rfl⟩
        have hNL : N = L + 2 := by rw [hL]; exact hN0.out
        subst hNL
        rw [← hL] at hlast
        have HLL : Hid (L = mid.length) := hL
        clear hL hN0 hf1
        have HF1 : Hid (f1.data.toList = noNeg f.data.toList) := hf1d
        have HNG : Hid (ng = hasNeg f.data.toList) := hng
        clear hng hd2 hd2'
        rw [HF1.out.symm.symm] at hf1d
        clear hf1d
        go_wp2_with fail
        refine unhex_any f1 wc (by omega) ?_ ?_
        rotate_left
        · intro hh w5 hx5
          rw [HF1.out] at hh
          have hc5 := hlast w5 (hrow.ext hx5)
          go_wp2_with fail
          refine undigits_any la w5 (by omega) ?_ ?_
          · intro _
            have bqe := (hx5.block _ (Array.getElem?_eq_some_iff.1 bq).1).trans bq
            have hxe := hxV.trans' hx5
            have hpn : parseParts f.data.toList la.data.toList (mid.map fun x => x.data.toList) = none := by
              unfold parseParts
              rw [if_neg (fun ⟨a, _⟩ => by rw [hh] at a; exact absurd a (by decide))]
            have ey := fun i => frozen_of_blk bqe i
            have et0 : (w5).cell? ⟨w.heap.size, 0, none⟩ = some (.bool false) := cell_of_blk bqe 0
            have et1 : (w5).cell? ⟨w.heap.size, 1, none⟩ = some (.slice none 0 0) := cell_of_blk bqe 1
            have et2 : (w5).cell? ⟨w.heap.size, 2, none⟩ = some (.bool false) := cell_of_blk bqe 2
            have et3 : (w5).cell? ⟨w.heap.size, 3, none⟩ = some (.bool false) := cell_of_blk bqe 3
            have et4 : (w5).cell? ⟨w.heap.size, 4, none⟩ = some (.bool false) := cell_of_blk bqe 4
            have et5 : (w5).cell? ⟨w.heap.size, 5, none⟩ = some (.bool false) := cell_of_blk bqe 5
            have et6 : (w5).cell? ⟨w.heap.size, 6, none⟩ = some (.int .u64 0) := cell_of_blk bqe 6
            obtain ⟨k0, _, k2, _, _⟩ := ret7 bqe (.bool false) (.slice none 0 0) (.bool false) (.bool false) (.bool false) (.bool false) (.int .u64 0)
            have efin := Kf hpn _ (k2 w hxe (Nat.le_refl _))
            unfold set7 at k0 efin
            replace efin : R (.returned (.tuple #[.agg #[.bool false, .slice none 0 0, .bool false, .bool false, .bool false, .bool false, .int .u64 0], .int .i64 90])) _ := efin
            have d0 := cell_of_blk k0 0
            have d1 := cell_of_blk k0 1
            have d2 := cell_of_blk k0 2
            have d3 := cell_of_blk k0 3
            have d4 := cell_of_blk k0 4
            have d5 := cell_of_blk k0 5
            have d6 := cell_of_blk k0 6
            clear hh hc5 k0 k2 bqe hxe hpn bq bp hxV hx5 hrow hlast hmid Kt
            go_wp2_with fail
            exact bodyPost_ret (v := .tuple #[.agg #[.bool false, .slice none 0 0, .bool false, .bool false, .bool false, .bool false, .int .u64 0], .int .i64 90]) (by simp [results, Tryz.results14, go_sem, d0, d1, d2, d3, d4, d5, d6]) rfl efin
          · intro _
            have bqe := (hx5.block _ (Array.getElem?_eq_some_iff.1 bq).1).trans bq
            have hxe := hxV.trans' hx5
            have hpn : parseParts f.data.toList la.data.toList (mid.map fun x => x.data.toList) = none := by
              unfold parseParts
              rw [if_neg (fun ⟨a, _⟩ => by rw [hh] at a; exact absurd a (by decide))]
            have ey := fun i => frozen_of_blk bqe i
            have et0 : (w5).cell? ⟨w.heap.size, 0, none⟩ = some (.bool false) := cell_of_blk bqe 0
            have et1 : (w5).cell? ⟨w.heap.size, 1, none⟩ = some (.slice none 0 0) := cell_of_blk bqe 1
            have et2 : (w5).cell? ⟨w.heap.size, 2, none⟩ = some (.bool false) := cell_of_blk bqe 2
            have et3 : (w5).cell? ⟨w.heap.size, 3, none⟩ = some (.bool false) := cell_of_blk bqe 3
            have et4 : (w5).cell? ⟨w.heap.size, 4, none⟩ = some (.bool false) := cell_of_blk bqe 4
            have et5 : (w5).cell? ⟨w.heap.size, 5, none⟩ = some (.bool false) := cell_of_blk bqe 5
            have et6 : (w5).cell? ⟨w.heap.size, 6, none⟩ = some (.int .u64 0) := cell_of_blk bqe 6
            obtain ⟨k0, _, k2, _, _⟩ := ret7 bqe (.bool false) (.slice none 0 0) (.bool false) (.bool false) (.bool false) (.bool false) (.int .u64 0)
            have efin := Kf hpn _ (k2 w hxe (Nat.le_refl _))
            unfold set7 at k0 efin
            replace efin : R (.returned (.tuple #[.agg #[.bool false, .slice none 0 0, .bool false, .bool false, .bool false, .bool false, .int .u64 0], .int .i64 90])) _ := efin
            have d0 := cell_of_blk k0 0
            have d1 := cell_of_blk k0 1
            have d2 := cell_of_blk k0 2
            have d3 := cell_of_blk k0 3
            have d4 := cell_of_blk k0 4
            have d5 := cell_of_blk k0 5
            have d6 := cell_of_blk k0 6
            clear hh hc5 k0 k2 bqe hxe hpn bq bp hxV hx5 hrow hlast hmid Kt
            go_wp2_with fail
            exact bodyPost_ret (v := .tuple #[.agg #[.bool false, .slice none 0 0, .bool false, .bool false, .bool false, .bool false, .int .u64 0], .int .i64 90]) (by simp [results, Tryz.results14, go_sem, d0, d1, d2, d3, d4, d5, d6]) rfl efin
        · intro hh A n c w5 hb hn hx5
          rw [HF1.out] at hh hb
          have hc5 := hlast w5 (hrow.ext hx5)
          go_wp2_with fail
          refine undigits_any la w5 (by omega) ?_ ?_
          rotate_left
          · intro hdo
            have bqe := (hx5.block _ (Array.getElem?_eq_some_iff.1 bq).1).trans bq
            have hxe := hxV.trans' hx5
            have hpn : parseParts f.data.toList la.data.toList (mid.map fun x => x.data.toList) = none := by
              unfold parseParts
              rw [if_neg (fun ⟨_, a, b, _⟩ => hdo ⟨a, b⟩)]
            have ey := fun i => frozen_of_blk bqe i
            have et0 : (w5).cell? ⟨w.heap.size, 0, none⟩ = some (.bool false) := cell_of_blk bqe 0
            have et1 : (w5).cell? ⟨w.heap.size, 1, none⟩ = some (.slice none 0 0) := cell_of_blk bqe 1
            have et2 : (w5).cell? ⟨w.heap.size, 2, none⟩ = some (.bool false) := cell_of_blk bqe 2
            have et3 : (w5).cell? ⟨w.heap.size, 3, none⟩ = some (.bool false) := cell_of_blk bqe 3
            have et4 : (w5).cell? ⟨w.heap.size, 4, none⟩ = some (.bool false) := cell_of_blk bqe 4
            have et5 : (w5).cell? ⟨w.heap.size, 5, none⟩ = some (.bool false) := cell_of_blk bqe 5
            have et6 : (w5).cell? ⟨w.heap.size, 6, none⟩ = some (.int .u64 0) := cell_of_blk bqe 6
            obtain ⟨k0, _, k2, _, _⟩ := ret7 bqe (.bool false) (.slice none 0 0) (.bool false) (.bool false) (.bool false) (.bool false) (.int .u64 0)
            have efin := Kf hpn _ (k2 w hxe (Nat.le_refl _))
            unfold set7 at k0 efin
            replace efin : R (.returned (.tuple #[.agg #[.bool false, .slice none 0 0, .bool false, .bool false, .bool false, .bool false, .int .u64 0], .int .i64 90])) _ := efin
            have d0 := cell_of_blk k0 0
            have d1 := cell_of_blk k0 1
            have d2 := cell_of_blk k0 2
            have d3 := cell_of_blk k0 3
            have d4 := cell_of_blk k0 4
            have d5 := cell_of_blk k0 5
            have d6 := cell_of_blk k0 6
            clear hh hc5 hb hdo k0 k2 bqe hxe hpn bq bp hxV hx5 hrow hlast hmid Kt
            go_wp2_with fail
            exact bodyPost_ret (v := .tuple #[.agg #[.bool false, .slice none 0 0, .bool false, .bool false, .bool false, .bool false, .int .u64 0], .int .i64 90]) (by simp [results, Tryz.results14, go_sem, d0, d1, d2, d3, d4, d5, d6]) rfl efin
          · intro hdo
            obtain ⟨mag, hmag⟩ : ∃ mag, mag = hexV (noNeg f.data.toList) := ⟨_, rfl⟩
            obtain ⟨cnt, hcnt⟩ : ∃ cnt, cnt = decV la.data.toList := ⟨_, rfl⟩
            rw [← hmag] at hb
            rw [← hcnt]
            have hn0 := hb.len0
            have bp5 := (hx5.block _ (Array.getElem?_eq_some_iff.1 bp).1).trans bp
            have bq5 := (hx5.block _ (Array.getElem?_eq_some_iff.1 bq).1).trans bq
            have hrow5 := hrow.ext hx5
            have hxe5 := hxV.trans' hx5
            have hnl : n ≤ 1073741824 := by omega
            have hcl : cnt < 18446744073709551616 := by rw [hcnt]; exact hdo.2
            have HPF : Hid ((ng = true ∧ mag = 0) ↔ f.data.toList = [45, 48]) := (by rw [HNG.out, hmag]; exact (neg_zero hh).symm : (ng = true ∧ mag = 0) ↔ f.data.toList = [45, 48])
            have HPP : Hid (¬ (ng = true ∧ mag = 0) → parseParts f.data.toList la.data.toList (mid.map fun x => x.data.toList) =
                match (mid.map fun x => x.data.toList).foldl (markR (decide (mag = 0))) (some (false, false, false, false)) with
                | none => none
                | some (p, m, n, o) =>
                  if cnt = 0 ∧ (mag ≠ 0 ∨ p = true ∨ m = true ∨ n = true ∨ o = true) then none
                  else some ⟨sg ng mag, p, m, n, decide (0 < cnt) && !o, cnt⟩) := (fun hne => by
              unfold parseParts
              rw [if_pos ⟨hh, hdo.1, hdo.2, fun e => hne (HPF.out.2 e)⟩, ← hmag, ← hcnt, ← HNG.out])
            have q0 : w5.cell? ⟨pb, 0, none⟩ = some (.bool ng) := cell_of_blk bp5 0
            have q1 : w5.cell? ⟨pb, 1, none⟩ = some (.slice none 0 0) := cell_of_blk bp5 1
            have q6 : w5.cell? ⟨pb, 6, none⟩ = some (v64 0) := cell_of_blk bp5 6
            have qz := fun i => frozen_of_blk bp5 i
            clear bp bq hrow hxV hx5 hmag hcnt hc5
            go_upto_region 11 with fail
            go_cut [62] from 48 to 62 (fun b wx => b = .bool (ng && decide (n = 0)) ∧ wx = w5)
            case first =>
              clear Kt Kf hlast hmid HXS HPP HPF HNG HLL HFL
              have hnn : ((n : Int) == 0) = decide (n = 0) := by
                by_cases e : n = 0
                · subst e; rfl
                · rw [decide_eq_false e]; simp; omega
              cases ng
              · go_wp2_with fail
                go_meet
                exact ⟨rfl, rfl⟩
              · go_wp2_with fail
                go_meet
                exact ⟨by simp, rfl⟩
            case rest =>
              obtain ⟨rfl, rfl⟩ := hcut
              by_cases hz : ng = true ∧ n = 0
              · have hb1 : (ng && decide (n = 0)) = true := by rw [hz.1, hz.2]; rfl
                have hpn : parseParts f.data.toList la.data.toList (mid.map fun x => x.data.toList) = none := by
                  unfold parseParts
                  rw [if_neg (fun ⟨_, _, _, a⟩ => a (HPF.out.1 ⟨hz.1, by
                    by_cases e : mag = 0
                    · exact e
                    · exact absurd (hn0.2 e) (by omega)⟩))]
                rw [hb1]
                clear hz hh hb hdo
                have ey := fun i => frozen_of_blk bq5 i
                have et0 : (wc).cell? ⟨w.heap.size, 0, none⟩ = some (.bool false) := cell_of_blk bq5 0
                have et1 : (wc).cell? ⟨w.heap.size, 1, none⟩ = some (.slice none 0 0) := cell_of_blk bq5 1
                have et2 : (wc).cell? ⟨w.heap.size, 2, none⟩ = some (.bool false) := cell_of_blk bq5 2
                have et3 : (wc).cell? ⟨w.heap.size, 3, none⟩ = some (.bool false) := cell_of_blk bq5 3
                have et4 : (wc).cell? ⟨w.heap.size, 4, none⟩ = some (.bool false) := cell_of_blk bq5 4
                have et5 : (wc).cell? ⟨w.heap.size, 5, none⟩ = some (.bool false) := cell_of_blk bq5 5
                have et6 : (wc).cell? ⟨w.heap.size, 6, none⟩ = some (.int .u64 0) := cell_of_blk bq5 6
                obtain ⟨k0, _, k2, _, _⟩ := ret7 bq5 (.bool false) (.slice none 0 0) (.bool false) (.bool false) (.bool false) (.bool false) (.int .u64 0)
                have efin := Kf hpn _ (k2 w hxe5 (Nat.le_refl _))
                unfold set7 at k0 efin
                replace efin : R (.returned (.tuple #[.agg #[.bool false, .slice none 0 0, .bool false, .bool false, .bool false, .bool false, .int .u64 0], .int .i64 90])) _ := efin
                have d0 := cell_of_blk k0 0
                have d1 := cell_of_blk k0 1
                have d2 := cell_of_blk k0 2
                have d3 := cell_of_blk k0 3
                have d4 := cell_of_blk k0 4
                have d5 := cell_of_blk k0 5
                have d6 := cell_of_blk k0 6
                clear k0 k2 bq5 bp5 hxe5 hpn hrow5 hlast hmid Kt
                go_wp2_with fail
                exact bodyPost_ret (v := .tuple #[.agg #[.bool false, .slice none 0 0, .bool false, .bool false, .bool false, .bool false, .int .u64 0], .int .i64 90]) (by simp [results, Tryz.results14, go_sem, d0, d1, d2, d3, d4, d5, d6]) rfl efin
              · have hb1 : (ng && decide (n = 0)) = false := by
                  cases ng
                  · rfl
                  · have : ¬ n = 0 := fun e => hz ⟨rfl, e⟩
                    simp [this]
                have hpp := HPP.out (fun e => hz ⟨e.1, by
                  by_cases e2 : n = 0
                  · exact e2
                  · exact absurd (hn0.1 (by omega)) (by simp [e.2])⟩)
                rw [hpp] at Kt Kf
                rw [hb1]
                clear hpp HPP HPF hb1
                have bp6 : ((wc.setCell ⟨pb, 1, none⟩ (.slice A n c)).setCell ⟨pb, 6, none⟩ (v64 cnt)).heap[pb]? = some (.cells (cells7 ng A n c false false false true cnt) 31 (0, 0)) := blk_setCell (blk_setCell bp5 1 (.slice A n c)) 6 (v64 cnt)
                have bq6 : ((wc.setCell ⟨pb, 1, none⟩ (.slice A n c)).setCell ⟨pb, 6, none⟩ (v64 cnt)).heap[w.heap.size]? = some (.cells zero7 31 (0, 0)) := (Below.heap_setCell _ ⟨pb, 6, none⟩ (v64 cnt) w.heap.size (by simp; omega)).trans ((Below.heap_setCell _ ⟨pb, 1, none⟩ (.slice A n c) w.heap.size (by simp; omega)).trans bq5)
                have hrow6 := (hrow5.set hpg 1 (.slice A n c)).set hpg 6 (v64 cnt)
                have hb6 := (hb.setCell (a := ⟨pb, 1, none⟩) (tyAt_of_blk bp5) (.slice A n c)).setCell (a := ⟨pb, 6, none⟩) (by rw [tyAt_setCell]; exact tyAt_of_blk bp5) (v64 cnt)
                have hx6 : Ext w ((wc.setCell ⟨pb, 1, none⟩ (.slice A n c)).setCell ⟨pb, 6, none⟩ (v64 cnt)) := (hxe5.setCell (p := ⟨pb, 1, none⟩) (by simp; omega) (.slice A n c)).setCell (p := ⟨pb, 6, none⟩) (by simp; omega) (v64 cnt)
                have hcap1 : ¬ cap = 1 := by omega
                have hLb : L ≤ 268435456 := by omega
                have wl1 : wrap64 ((L : Int) + 2 - 1) = (L : Int) + 1 := by rw [wrap_in _ (by omega) (by omega)]; omega
                have wl2 : IntKind.i64.wrap ((L : Int) + 2 - 1) = (L : Int) + 1 := by rw [wrapI_in _ (by omega) (by omega)]; omega
                have wl3 : ((L : Int) + 1).toNat = L + 1 := by omega
                have wl4 : (0 : Int) ≤ (L : Int) + 1 := by omega
                have wl5 : (L : Int) + 1 ≤ cap := by omega
                have wl6 : (1 : Int) ≤ (L : Int) + 1 := by omega
                have wl7 : max ((L : Int) + 1) 0 = (L : Int) + 1 := by omega
                obtain ⟨zr, hzr⟩ : ∃ zr, zr = decide (mag = 0) := ⟨_, rfl⟩
                rw [← hzr] at Kt Kf
                have hnz : decide (n = 0) = zr := by
                  rw [hzr]
                  congr 1
                  apply propext
                  constructor
                  · intro e
                    by_cases e2 : mag = 0
                    · exact e2
                    · exact absurd (hn0.2 e2) (by omega)
                  · intro e
                    by_cases e2 : n = 0
                    · exact e2
                    · exact absurd e (hn0.1 (by omega))
                have HZR : Hid (zr = decide (mag = 0)) := hzr
                have HNZ : Hid (decide (n = 0) = zr) := hnz
                have HN0 : Hid (0 < n ↔ mag ≠ 0) := hn0
                obtain ⟨ws, hws⟩ : ∃ ws, ws = mid.map (fun x => x.data.toList) := ⟨_, rfl⟩
                rw [← hws] at Kt Kf
                have hwl : ws.length = L := by rw [hws, List.length_map]; exact HLL.out.symm
                have hat : ∀ W, RowS W g xs → ∀ j, j < L → ∃ x : ByteArray, x.data.toList = ws.getD j [] ∧ W.cell? ⟨g, 1 + j, none⟩ = some (.string x) := fun W hW j hj => by
                  have hjm : j < mid.length := by have := HLL.out; omega
                  refine ⟨mid[j], ?_, hmid W hW j _ (List.getElem?_eq_getElem hjm)⟩
                  rw [hws, List.getD_eq_getElem?_getD, List.getElem?_map, List.getElem?_eq_getElem hjm]
                  rfl
                have HWL : Hid (ws.length = L) := hwl
                have hKf : ∀ (_ : ws.foldl (markR zr) (some (false, false, false, false)) = none), (match ws.foldl (markR zr) (some (false, false, false, false)) with
                  | none => none
                  | some (p, m, n, o) =>
                    if cnt = 0 ∧ (mag ≠ 0 ∨ p = true ∨ m = true ∨ n = true ∨ o = true) then none
                    else some (⟨sg ng mag, p, m, n, decide (0 < cnt) && !o, cnt⟩ : SumS)) = none := fun e => by rw [e]
                have HNEG : Hid (decide (sg ng mag < 0) = ng ∧ (sg ng mag).natAbs = mag) := (by
                  refine ⟨?_, sg_natAbs _ _⟩
                  cases ng with
                  | false => simp [sg]
                  | true =>
                    have : mag ≠ 0 := hn0.1 (by
                      by_cases e : n = 0
                      · exact absurd ⟨rfl, e⟩ hz
                      · omega)
                    simp [sg]
                    omega : decide (sg ng mag < 0) = ng ∧ (sg ng mag).natAbs = mag)
                have hnt : n ≤ 4 * t.size := by omega
                clear hzr hnz hn0 hws hwl hmid hlast HLL HXS hh hdo hz HFL HF1 HNG hf1s hfs hls hlen
                go_wp2_with fail
                clear q0 q1 q6 qz bp5 bq5 hrow5 hxe5 hb
                go_loopw [74] (fun iv wr => ∃ (j : Nat) (p m nn z : Bool), j ≤ L ∧ iv = .int .i64 (j : Int) ∧ (ws.take j).foldl (markR zr) (some (false, false, false, false)) = some (p, m, nn, z) ∧ wr.heap[pb]? = some (.cells (cells7 ng A n c p m nn (!z) cnt) 31 (0, 0)) ∧ wr.heap[w.heap.size]? = some (.cells zero7 31 (0, 0)) ∧ RowS wr g xs ∧ IsBits wr A n c mag ∧ Ext w wr) (fun iv _ => L - (intOf iv).toNat)
                case atStart => exact ⟨0, false, false, false, false, Nat.zero_le _, rfl, rfl, bp6, bq6, hrow6, hb6, hx6⟩
                case round =>
                  obtain ⟨j, p, m, nn, z, hj, rfl, hfold, bp, bq, hrow, hb, hx⟩ := hrel
                  clear bp6 bq6 hrow6 hb6 hx6
                  by_cases hlt : j < L
                  · obtain ⟨x, hxd, hcx⟩ := hat wr hrow j hlt
                    have q2 : wr.cell? ⟨pb, 2, none⟩ = some (.bool p) := cell_of_blk bp 2
                    have q3 : wr.cell? ⟨pb, 3, none⟩ = some (.bool m) := cell_of_blk bp 3
                    have q4 : wr.cell? ⟨pb, 4, none⟩ = some (.bool nn) := cell_of_blk bp 4
                    have q5 : wr.cell? ⟨pb, 5, none⟩ = some (.bool (!z)) := cell_of_blk bp 5
                    have qz := fun i => frozen_of_blk bp i
                    have hstep : (ws.take (j + 1)).foldl (markR zr) (some (false, false, false, false)) = markR zr (some (p, m, nn, z)) (ws.getD j []) := by
                      have hjw : j < ws.length := by rw [HWL.out]; exact hlt
                      rw [List.take_add_one, List.foldl_append, hfold, List.getD_eq_getElem?_getD, List.getElem?_eq_getElem hjw]
                      rfl
                    rw [← hxd, ← ByteArray.toList_eq] at hstep
                    have HST : Hid ((ws.take (j + 1)).foldl (markR zr) (some (false, false, false, false)) = markR zr (some (p, m, nn, z)) x.toList) := hstep
                    have hbad : ∀ (_ : markR zr (some (p, m, nn, z)) x.toList = none), ws.foldl (markR zr) (some (false, false, false, false)) = none := fun e => by
                      rw [← List.take_append_drop (j + 1) ws, List.foldl_append, HST.out, e, markR_none]
                    clear hat hstep hxd hfold
                    by_cases hP : x.toList = [43, 105, 110, 102]
                    · rw [hP] at hbad
                      have HW : Hid (x.toList = wP) := hP
                      cases p
                      case true =>
                        have hfn := hbad (by unfold markR; simp)
                        clear hbad HST HW
                        have ey := fun i => frozen_of_blk bq i
                        have et0 : (wr).cell? ⟨w.heap.size, 0, none⟩ = some (.bool false) := cell_of_blk bq 0
                        have et1 : (wr).cell? ⟨w.heap.size, 1, none⟩ = some (.slice none 0 0) := cell_of_blk bq 1
                        have et2 : (wr).cell? ⟨w.heap.size, 2, none⟩ = some (.bool false) := cell_of_blk bq 2
                        have et3 : (wr).cell? ⟨w.heap.size, 3, none⟩ = some (.bool false) := cell_of_blk bq 3
                        have et4 : (wr).cell? ⟨w.heap.size, 4, none⟩ = some (.bool false) := cell_of_blk bq 4
                        have et5 : (wr).cell? ⟨w.heap.size, 5, none⟩ = some (.bool false) := cell_of_blk bq 5
                        have et6 : (wr).cell? ⟨w.heap.size, 6, none⟩ = some (.int .u64 0) := cell_of_blk bq 6
                        obtain ⟨k0, _, k2, _, _⟩ := ret7 bq (.bool false) (.slice none 0 0) (.bool false) (.bool false) (.bool false) (.bool false) (.int .u64 0)
                        have efin := Kf (hKf hfn) _ (k2 w hx (Nat.le_refl _))
                        unfold set7 at k0 efin
                        replace efin : R (.returned (.tuple #[.agg #[.bool false, .slice none 0 0, .bool false, .bool false, .bool false, .bool false, .int .u64 0], .int .i64 90])) _ := efin
                        have d0 := cell_of_blk k0 0
                        have d1 := cell_of_blk k0 1
                        have d2 := cell_of_blk k0 2
                        have d3 := cell_of_blk k0 3
                        have d4 := cell_of_blk k0 4
                        have d5 := cell_of_blk k0 5
                        have d6 := cell_of_blk k0 6
                        clear k0 k2 hKf bq bp hx hrow hb hfn Kt HNEG
                        go_wp2_with fail
                        exact bodyPost_ret (v := .tuple #[.agg #[.bool false, .slice none 0 0, .bool false, .bool false, .bool false, .bool false, .int .u64 0], .int .i64 90]) (by simp [results, Tryz.results14, go_sem, d0, d1, d2, d3, d4, d5, d6]) rfl efin
                      case false =>
                        cases m
                        case true =>
                          have hfn := hbad (by unfold markR; simp)
                          clear hbad HST HW
                          have ey := fun i => frozen_of_blk bq i
                          have et0 : (wr).cell? ⟨w.heap.size, 0, none⟩ = some (.bool false) := cell_of_blk bq 0
                          have et1 : (wr).cell? ⟨w.heap.size, 1, none⟩ = some (.slice none 0 0) := cell_of_blk bq 1
                          have et2 : (wr).cell? ⟨w.heap.size, 2, none⟩ = some (.bool false) := cell_of_blk bq 2
                          have et3 : (wr).cell? ⟨w.heap.size, 3, none⟩ = some (.bool false) := cell_of_blk bq 3
                          have et4 : (wr).cell? ⟨w.heap.size, 4, none⟩ = some (.bool false) := cell_of_blk bq 4
                          have et5 : (wr).cell? ⟨w.heap.size, 5, none⟩ = some (.bool false) := cell_of_blk bq 5
                          have et6 : (wr).cell? ⟨w.heap.size, 6, none⟩ = some (.int .u64 0) := cell_of_blk bq 6
                          obtain ⟨k0, _, k2, _, _⟩ := ret7 bq (.bool false) (.slice none 0 0) (.bool false) (.bool false) (.bool false) (.bool false) (.int .u64 0)
                          have efin := Kf (hKf hfn) _ (k2 w hx (Nat.le_refl _))
                          unfold set7 at k0 efin
                          replace efin : R (.returned (.tuple #[.agg #[.bool false, .slice none 0 0, .bool false, .bool false, .bool false, .bool false, .int .u64 0], .int .i64 90])) _ := efin
                          have d0 := cell_of_blk k0 0
                          have d1 := cell_of_blk k0 1
                          have d2 := cell_of_blk k0 2
                          have d3 := cell_of_blk k0 3
                          have d4 := cell_of_blk k0 4
                          have d5 := cell_of_blk k0 5
                          have d6 := cell_of_blk k0 6
                          clear k0 k2 hKf bq bp hx hrow hb hfn Kt HNEG
                          go_wp2_with fail
                          exact bodyPost_ret (v := .tuple #[.agg #[.bool false, .slice none 0 0, .bool false, .bool false, .bool false, .bool false, .int .u64 0], .int .i64 90]) (by simp [results, Tryz.results14, go_sem, d0, d1, d2, d3, d4, d5, d6]) rfl efin
                        case false =>
                          cases nn
                          case true =>
                            have hfn := hbad (by unfold markR; simp)
                            clear hbad HST HW
                            have ey := fun i => frozen_of_blk bq i
                            have et0 : (wr).cell? ⟨w.heap.size, 0, none⟩ = some (.bool false) := cell_of_blk bq 0
                            have et1 : (wr).cell? ⟨w.heap.size, 1, none⟩ = some (.slice none 0 0) := cell_of_blk bq 1
                            have et2 : (wr).cell? ⟨w.heap.size, 2, none⟩ = some (.bool false) := cell_of_blk bq 2
                            have et3 : (wr).cell? ⟨w.heap.size, 3, none⟩ = some (.bool false) := cell_of_blk bq 3
                            have et4 : (wr).cell? ⟨w.heap.size, 4, none⟩ = some (.bool false) := cell_of_blk bq 4
                            have et5 : (wr).cell? ⟨w.heap.size, 5, none⟩ = some (.bool false) := cell_of_blk bq 5
                            have et6 : (wr).cell? ⟨w.heap.size, 6, none⟩ = some (.int .u64 0) := cell_of_blk bq 6
                            obtain ⟨k0, _, k2, _, _⟩ := ret7 bq (.bool false) (.slice none 0 0) (.bool false) (.bool false) (.bool false) (.bool false) (.int .u64 0)
                            have efin := Kf (hKf hfn) _ (k2 w hx (Nat.le_refl _))
                            unfold set7 at k0 efin
                            replace efin : R (.returned (.tuple #[.agg #[.bool false, .slice none 0 0, .bool false, .bool false, .bool false, .bool false, .int .u64 0], .int .i64 90])) _ := efin
                            have d0 := cell_of_blk k0 0
                            have d1 := cell_of_blk k0 1
                            have d2 := cell_of_blk k0 2
                            have d3 := cell_of_blk k0 3
                            have d4 := cell_of_blk k0 4
                            have d5 := cell_of_blk k0 5
                            have d6 := cell_of_blk k0 6
                            clear k0 k2 hKf bq bp hx hrow hb hfn Kt HNEG
                            go_wp2_with fail
                            exact bodyPost_ret (v := .tuple #[.agg #[.bool false, .slice none 0 0, .bool false, .bool false, .bool false, .bool false, .int .u64 0], .int .i64 90]) (by simp [results, Tryz.results14, go_sem, d0, d1, d2, d3, d4, d5, d6]) rfl efin
                          case false =>
                            cases z
                            case true =>
                              have hfn := hbad (by unfold markR; simp)
                              clear hbad HST HW
                              have ey := fun i => frozen_of_blk bq i
                              have et0 : (wr).cell? ⟨w.heap.size, 0, none⟩ = some (.bool false) := cell_of_blk bq 0
                              have et1 : (wr).cell? ⟨w.heap.size, 1, none⟩ = some (.slice none 0 0) := cell_of_blk bq 1
                              have et2 : (wr).cell? ⟨w.heap.size, 2, none⟩ = some (.bool false) := cell_of_blk bq 2
                              have et3 : (wr).cell? ⟨w.heap.size, 3, none⟩ = some (.bool false) := cell_of_blk bq 3
                              have et4 : (wr).cell? ⟨w.heap.size, 4, none⟩ = some (.bool false) := cell_of_blk bq 4
                              have et5 : (wr).cell? ⟨w.heap.size, 5, none⟩ = some (.bool false) := cell_of_blk bq 5
                              have et6 : (wr).cell? ⟨w.heap.size, 6, none⟩ = some (.int .u64 0) := cell_of_blk bq 6
                              obtain ⟨k0, _, k2, _, _⟩ := ret7 bq (.bool false) (.slice none 0 0) (.bool false) (.bool false) (.bool false) (.bool false) (.int .u64 0)
                              have efin := Kf (hKf hfn) _ (k2 w hx (Nat.le_refl _))
                              unfold set7 at k0 efin
                              replace efin : R (.returned (.tuple #[.agg #[.bool false, .slice none 0 0, .bool false, .bool false, .bool false, .bool false, .int .u64 0], .int .i64 90])) _ := efin
                              have d0 := cell_of_blk k0 0
                              have d1 := cell_of_blk k0 1
                              have d2 := cell_of_blk k0 2
                              have d3 := cell_of_blk k0 3
                              have d4 := cell_of_blk k0 4
                              have d5 := cell_of_blk k0 5
                              have d6 := cell_of_blk k0 6
                              clear k0 k2 hKf bq bp hx hrow hb hfn Kt HNEG
                              go_wp2_with fail
                              exact bodyPost_ret (v := .tuple #[.agg #[.bool false, .slice none 0 0, .bool false, .bool false, .bool false, .bool false, .int .u64 0], .int .i64 90]) (by simp [results, Tryz.results14, go_sem, d0, d1, d2, d3, d4, d5, d6]) rfl efin
                            case false =>
                              have hfin : Hid ((ws.take (j + 1)).foldl (markR zr) (some (false, false, false, false)) = some (true, false, false, false)) := (by rw [HST.out, HW.out]; unfold markR; simp : (ws.take (j + 1)).foldl (markR zr) (some (false, false, false, false)) = some (true, false, false, false))
                              have f1 := blk_setCell bp 2 (.bool true)
                              have f2 := (Below.heap_setCell wr ⟨pb, 2, none⟩ (.bool true) w.heap.size (by simp; omega)).trans bq
                              have f3 := hrow.set hpg 2 (.bool true)
                              have f4 := hb.setCell (a := ⟨pb, 2, none⟩) (tyAt_of_blk bp) (.bool true)
                              have f5 := hx.setCell (p := ⟨pb, 2, none⟩) (by simp; omega) (.bool true)
                              clear hbad HST HW bp bq hrow hb hx hKf Kt Kf
                              go_wp2_with fail
                              go_roundw
                              case rel => exact ⟨j + 1, true, false, false, false, hlt, by go_num, hfin.out, f1, f2, f3, f4, f5⟩
                              case measure => first | (simp [intOf]; done) | (simp [intOf]; omega)
                    · by_cases hM : x.toList = [45, 105, 110, 102]
                      · rw [hM] at hbad
                        have HW : Hid (x.toList = wM) := hM
                        clear hP
                        cases m
                        case true =>
                          have hfn := hbad (by unfold markR; simp)
                          clear hbad HST HW
                          have ey := fun i => frozen_of_blk bq i
                          have et0 : (wr).cell? ⟨w.heap.size, 0, none⟩ = some (.bool false) := cell_of_blk bq 0
                          have et1 : (wr).cell? ⟨w.heap.size, 1, none⟩ = some (.slice none 0 0) := cell_of_blk bq 1
                          have et2 : (wr).cell? ⟨w.heap.size, 2, none⟩ = some (.bool false) := cell_of_blk bq 2
                          have et3 : (wr).cell? ⟨w.heap.size, 3, none⟩ = some (.bool false) := cell_of_blk bq 3
                          have et4 : (wr).cell? ⟨w.heap.size, 4, none⟩ = some (.bool false) := cell_of_blk bq 4
                          have et5 : (wr).cell? ⟨w.heap.size, 5, none⟩ = some (.bool false) := cell_of_blk bq 5
                          have et6 : (wr).cell? ⟨w.heap.size, 6, none⟩ = some (.int .u64 0) := cell_of_blk bq 6
                          obtain ⟨k0, _, k2, _, _⟩ := ret7 bq (.bool false) (.slice none 0 0) (.bool false) (.bool false) (.bool false) (.bool false) (.int .u64 0)
                          have efin := Kf (hKf hfn) _ (k2 w hx (Nat.le_refl _))
                          unfold set7 at k0 efin
                          replace efin : R (.returned (.tuple #[.agg #[.bool false, .slice none 0 0, .bool false, .bool false, .bool false, .bool false, .int .u64 0], .int .i64 90])) _ := efin
                          have d0 := cell_of_blk k0 0
                          have d1 := cell_of_blk k0 1
                          have d2 := cell_of_blk k0 2
                          have d3 := cell_of_blk k0 3
                          have d4 := cell_of_blk k0 4
                          have d5 := cell_of_blk k0 5
                          have d6 := cell_of_blk k0 6
                          clear k0 k2 hKf bq bp hx hrow hb hfn Kt HNEG
                          go_wp2_with fail
                          exact bodyPost_ret (v := .tuple #[.agg #[.bool false, .slice none 0 0, .bool false, .bool false, .bool false, .bool false, .int .u64 0], .int .i64 90]) (by simp [results, Tryz.results14, go_sem, d0, d1, d2, d3, d4, d5, d6]) rfl efin
                        case false =>
                          cases nn
                          case true =>
                            have hfn := hbad (by unfold markR; simp)
                            clear hbad HST HW
                            have ey := fun i => frozen_of_blk bq i
                            have et0 : (wr).cell? ⟨w.heap.size, 0, none⟩ = some (.bool false) := cell_of_blk bq 0
                            have et1 : (wr).cell? ⟨w.heap.size, 1, none⟩ = some (.slice none 0 0) := cell_of_blk bq 1
                            have et2 : (wr).cell? ⟨w.heap.size, 2, none⟩ = some (.bool false) := cell_of_blk bq 2
                            have et3 : (wr).cell? ⟨w.heap.size, 3, none⟩ = some (.bool false) := cell_of_blk bq 3
                            have et4 : (wr).cell? ⟨w.heap.size, 4, none⟩ = some (.bool false) := cell_of_blk bq 4
                            have et5 : (wr).cell? ⟨w.heap.size, 5, none⟩ = some (.bool false) := cell_of_blk bq 5
                            have et6 : (wr).cell? ⟨w.heap.size, 6, none⟩ = some (.int .u64 0) := cell_of_blk bq 6
                            obtain ⟨k0, _, k2, _, _⟩ := ret7 bq (.bool false) (.slice none 0 0) (.bool false) (.bool false) (.bool false) (.bool false) (.int .u64 0)
                            have efin := Kf (hKf hfn) _ (k2 w hx (Nat.le_refl _))
                            unfold set7 at k0 efin
                            replace efin : R (.returned (.tuple #[.agg #[.bool false, .slice none 0 0, .bool false, .bool false, .bool false, .bool false, .int .u64 0], .int .i64 90])) _ := efin
                            have d0 := cell_of_blk k0 0
                            have d1 := cell_of_blk k0 1
                            have d2 := cell_of_blk k0 2
                            have d3 := cell_of_blk k0 3
                            have d4 := cell_of_blk k0 4
                            have d5 := cell_of_blk k0 5
                            have d6 := cell_of_blk k0 6
                            clear k0 k2 hKf bq bp hx hrow hb hfn Kt HNEG
                            go_wp2_with fail
                            exact bodyPost_ret (v := .tuple #[.agg #[.bool false, .slice none 0 0, .bool false, .bool false, .bool false, .bool false, .int .u64 0], .int .i64 90]) (by simp [results, Tryz.results14, go_sem, d0, d1, d2, d3, d4, d5, d6]) rfl efin
                          case false =>
                            cases z
                            case true =>
                              have hfn := hbad (by unfold markR; simp)
                              clear hbad HST HW
                              have ey := fun i => frozen_of_blk bq i
                              have et0 : (wr).cell? ⟨w.heap.size, 0, none⟩ = some (.bool false) := cell_of_blk bq 0
                              have et1 : (wr).cell? ⟨w.heap.size, 1, none⟩ = some (.slice none 0 0) := cell_of_blk bq 1
                              have et2 : (wr).cell? ⟨w.heap.size, 2, none⟩ = some (.bool false) := cell_of_blk bq 2
                              have et3 : (wr).cell? ⟨w.heap.size, 3, none⟩ = some (.bool false) := cell_of_blk bq 3
                              have et4 : (wr).cell? ⟨w.heap.size, 4, none⟩ = some (.bool false) := cell_of_blk bq 4
                              have et5 : (wr).cell? ⟨w.heap.size, 5, none⟩ = some (.bool false) := cell_of_blk bq 5
                              have et6 : (wr).cell? ⟨w.heap.size, 6, none⟩ = some (.int .u64 0) := cell_of_blk bq 6
                              obtain ⟨k0, _, k2, _, _⟩ := ret7 bq (.bool false) (.slice none 0 0) (.bool false) (.bool false) (.bool false) (.bool false) (.int .u64 0)
                              have efin := Kf (hKf hfn) _ (k2 w hx (Nat.le_refl _))
                              unfold set7 at k0 efin
                              replace efin : R (.returned (.tuple #[.agg #[.bool false, .slice none 0 0, .bool false, .bool false, .bool false, .bool false, .int .u64 0], .int .i64 90])) _ := efin
                              have d0 := cell_of_blk k0 0
                              have d1 := cell_of_blk k0 1
                              have d2 := cell_of_blk k0 2
                              have d3 := cell_of_blk k0 3
                              have d4 := cell_of_blk k0 4
                              have d5 := cell_of_blk k0 5
                              have d6 := cell_of_blk k0 6
                              clear k0 k2 hKf bq bp hx hrow hb hfn Kt HNEG
                              go_wp2_with fail
                              exact bodyPost_ret (v := .tuple #[.agg #[.bool false, .slice none 0 0, .bool false, .bool false, .bool false, .bool false, .int .u64 0], .int .i64 90]) (by simp [results, Tryz.results14, go_sem, d0, d1, d2, d3, d4, d5, d6]) rfl efin
                            case false =>
                              have hfin : Hid ((ws.take (j + 1)).foldl (markR zr) (some (false, false, false, false)) = some (p, true, false, false)) := (by rw [HST.out, HW.out]; unfold markR; simp : (ws.take (j + 1)).foldl (markR zr) (some (false, false, false, false)) = some (p, true, false, false))
                              have f1 := blk_setCell bp 3 (.bool true)
                              have f2 := (Below.heap_setCell wr ⟨pb, 3, none⟩ (.bool true) w.heap.size (by simp; omega)).trans bq
                              have f3 := hrow.set hpg 3 (.bool true)
                              have f4 := hb.setCell (a := ⟨pb, 3, none⟩) (tyAt_of_blk bp) (.bool true)
                              have f5 := hx.setCell (p := ⟨pb, 3, none⟩) (by simp; omega) (.bool true)
                              clear hbad HST HW bp bq hrow hb hx hKf Kt Kf
                              go_wp2_with fail
                              go_roundw
                              case rel => exact ⟨j + 1, p, true, false, false, hlt, by go_num, hfin.out, f1, f2, f3, f4, f5⟩
                              case measure => first | (simp [intOf]; done) | (simp [intOf]; omega)
                      · by_cases hN : x.toList = [110, 97, 110]
                        · rw [hN] at hbad
                          have HW : Hid (x.toList = wN) := hN
                          clear hP hM
                          cases nn
                          case true =>
                            have hfn := hbad (by unfold markR; simp)
                            clear hbad HST HW
                            have ey := fun i => frozen_of_blk bq i
                            have et0 : (wr).cell? ⟨w.heap.size, 0, none⟩ = some (.bool false) := cell_of_blk bq 0
                            have et1 : (wr).cell? ⟨w.heap.size, 1, none⟩ = some (.slice none 0 0) := cell_of_blk bq 1
                            have et2 : (wr).cell? ⟨w.heap.size, 2, none⟩ = some (.bool false) := cell_of_blk bq 2
                            have et3 : (wr).cell? ⟨w.heap.size, 3, none⟩ = some (.bool false) := cell_of_blk bq 3
                            have et4 : (wr).cell? ⟨w.heap.size, 4, none⟩ = some (.bool false) := cell_of_blk bq 4
                            have et5 : (wr).cell? ⟨w.heap.size, 5, none⟩ = some (.bool false) := cell_of_blk bq 5
                            have et6 : (wr).cell? ⟨w.heap.size, 6, none⟩ = some (.int .u64 0) := cell_of_blk bq 6
                            obtain ⟨k0, _, k2, _, _⟩ := ret7 bq (.bool false) (.slice none 0 0) (.bool false) (.bool false) (.bool false) (.bool false) (.int .u64 0)
                            have efin := Kf (hKf hfn) _ (k2 w hx (Nat.le_refl _))
                            unfold set7 at k0 efin
                            replace efin : R (.returned (.tuple #[.agg #[.bool false, .slice none 0 0, .bool false, .bool false, .bool false, .bool false, .int .u64 0], .int .i64 90])) _ := efin
                            have d0 := cell_of_blk k0 0
                            have d1 := cell_of_blk k0 1
                            have d2 := cell_of_blk k0 2
                            have d3 := cell_of_blk k0 3
                            have d4 := cell_of_blk k0 4
                            have d5 := cell_of_blk k0 5
                            have d6 := cell_of_blk k0 6
                            clear k0 k2 hKf bq bp hx hrow hb hfn Kt HNEG
                            go_wp2_with fail
                            exact bodyPost_ret (v := .tuple #[.agg #[.bool false, .slice none 0 0, .bool false, .bool false, .bool false, .bool false, .int .u64 0], .int .i64 90]) (by simp [results, Tryz.results14, go_sem, d0, d1, d2, d3, d4, d5, d6]) rfl efin
                          case false =>
                            cases z
                            case true =>
                              have hfn := hbad (by unfold markR; simp)
                              clear hbad HST HW
                              have ey := fun i => frozen_of_blk bq i
                              have et0 : (wr).cell? ⟨w.heap.size, 0, none⟩ = some (.bool false) := cell_of_blk bq 0
                              have et1 : (wr).cell? ⟨w.heap.size, 1, none⟩ = some (.slice none 0 0) := cell_of_blk bq 1
                              have et2 : (wr).cell? ⟨w.heap.size, 2, none⟩ = some (.bool false) := cell_of_blk bq 2
                              have et3 : (wr).cell? ⟨w.heap.size, 3, none⟩ = some (.bool false) := cell_of_blk bq 3
                              have et4 : (wr).cell? ⟨w.heap.size, 4, none⟩ = some (.bool false) := cell_of_blk bq 4
                              have et5 : (wr).cell? ⟨w.heap.size, 5, none⟩ = some (.bool false) := cell_of_blk bq 5
                              have et6 : (wr).cell? ⟨w.heap.size, 6, none⟩ = some (.int .u64 0) := cell_of_blk bq 6
                              obtain ⟨k0, _, k2, _, _⟩ := ret7 bq (.bool false) (.slice none 0 0) (.bool false) (.bool false) (.bool false) (.bool false) (.int .u64 0)
                              have efin := Kf (hKf hfn) _ (k2 w hx (Nat.le_refl _))
                              unfold set7 at k0 efin
                              replace efin : R (.returned (.tuple #[.agg #[.bool false, .slice none 0 0, .bool false, .bool false, .bool false, .bool false, .int .u64 0], .int .i64 90])) _ := efin
                              have d0 := cell_of_blk k0 0
                              have d1 := cell_of_blk k0 1
                              have d2 := cell_of_blk k0 2
                              have d3 := cell_of_blk k0 3
                              have d4 := cell_of_blk k0 4
                              have d5 := cell_of_blk k0 5
                              have d6 := cell_of_blk k0 6
                              clear k0 k2 hKf bq bp hx hrow hb hfn Kt HNEG
                              go_wp2_with fail
                              exact bodyPost_ret (v := .tuple #[.agg #[.bool false, .slice none 0 0, .bool false, .bool false, .bool false, .bool false, .int .u64 0], .int .i64 90]) (by simp [results, Tryz.results14, go_sem, d0, d1, d2, d3, d4, d5, d6]) rfl efin
                            case false =>
                              have hfin : Hid ((ws.take (j + 1)).foldl (markR zr) (some (false, false, false, false)) = some (p, m, true, false)) := (by rw [HST.out, HW.out]; unfold markR; simp : (ws.take (j + 1)).foldl (markR zr) (some (false, false, false, false)) = some (p, m, true, false))
                              have f1 := blk_setCell bp 4 (.bool true)
                              have f2 := (Below.heap_setCell wr ⟨pb, 4, none⟩ (.bool true) w.heap.size (by simp; omega)).trans bq
                              have f3 := hrow.set hpg 4 (.bool true)
                              have f4 := hb.setCell (a := ⟨pb, 4, none⟩) (tyAt_of_blk bp) (.bool true)
                              have f5 := hx.setCell (p := ⟨pb, 4, none⟩) (by simp; omega) (.bool true)
                              clear hbad HST HW bp bq hrow hb hx hKf Kt Kf
                              go_wp2_with fail
                              go_roundw
                              case rel => exact ⟨j + 1, p, m, true, false, hlt, by go_num, hfin.out, f1, f2, f3, f4, f5⟩
                              case measure => first | (simp [intOf]; done) | (simp [intOf]; omega)
                        · by_cases hZ : x.toList = [45, 48]
                          · rw [hZ] at hbad
                            have HW : Hid (x.toList = wZ) := hZ
                            clear hP hM hN
                            cases z
                            case true =>
                              have hfn := hbad (by unfold markR; simp)
                              clear hbad HST HW
                              have ey := fun i => frozen_of_blk bq i
                              have et0 : (wr).cell? ⟨w.heap.size, 0, none⟩ = some (.bool false) := cell_of_blk bq 0
                              have et1 : (wr).cell? ⟨w.heap.size, 1, none⟩ = some (.slice none 0 0) := cell_of_blk bq 1
                              have et2 : (wr).cell? ⟨w.heap.size, 2, none⟩ = some (.bool false) := cell_of_blk bq 2
                              have et3 : (wr).cell? ⟨w.heap.size, 3, none⟩ = some (.bool false) := cell_of_blk bq 3
                              have et4 : (wr).cell? ⟨w.heap.size, 4, none⟩ = some (.bool false) := cell_of_blk bq 4
                              have et5 : (wr).cell? ⟨w.heap.size, 5, none⟩ = some (.bool false) := cell_of_blk bq 5
                              have et6 : (wr).cell? ⟨w.heap.size, 6, none⟩ = some (.int .u64 0) := cell_of_blk bq 6
                              obtain ⟨k0, _, k2, _, _⟩ := ret7 bq (.bool false) (.slice none 0 0) (.bool false) (.bool false) (.bool false) (.bool false) (.int .u64 0)
                              have efin := Kf (hKf hfn) _ (k2 w hx (Nat.le_refl _))
                              unfold set7 at k0 efin
                              replace efin : R (.returned (.tuple #[.agg #[.bool false, .slice none 0 0, .bool false, .bool false, .bool false, .bool false, .int .u64 0], .int .i64 90])) _ := efin
                              have d0 := cell_of_blk k0 0
                              have d1 := cell_of_blk k0 1
                              have d2 := cell_of_blk k0 2
                              have d3 := cell_of_blk k0 3
                              have d4 := cell_of_blk k0 4
                              have d5 := cell_of_blk k0 5
                              have d6 := cell_of_blk k0 6
                              clear k0 k2 hKf bq bp hx hrow hb hfn Kt HNEG
                              go_wp2_with fail
                              exact bodyPost_ret (v := .tuple #[.agg #[.bool false, .slice none 0 0, .bool false, .bool false, .bool false, .bool false, .int .u64 0], .int .i64 90]) (by simp [results, Tryz.results14, go_sem, d0, d1, d2, d3, d4, d5, d6]) rfl efin
                            case false =>
                              cases p
                              case true =>
                                have hfn := hbad (by unfold markR; simp)
                                clear hbad HST HW
                                have ey := fun i => frozen_of_blk bq i
                                have et0 : (wr).cell? ⟨w.heap.size, 0, none⟩ = some (.bool false) := cell_of_blk bq 0
                                have et1 : (wr).cell? ⟨w.heap.size, 1, none⟩ = some (.slice none 0 0) := cell_of_blk bq 1
                                have et2 : (wr).cell? ⟨w.heap.size, 2, none⟩ = some (.bool false) := cell_of_blk bq 2
                                have et3 : (wr).cell? ⟨w.heap.size, 3, none⟩ = some (.bool false) := cell_of_blk bq 3
                                have et4 : (wr).cell? ⟨w.heap.size, 4, none⟩ = some (.bool false) := cell_of_blk bq 4
                                have et5 : (wr).cell? ⟨w.heap.size, 5, none⟩ = some (.bool false) := cell_of_blk bq 5
                                have et6 : (wr).cell? ⟨w.heap.size, 6, none⟩ = some (.int .u64 0) := cell_of_blk bq 6
                                obtain ⟨k0, _, k2, _, _⟩ := ret7 bq (.bool false) (.slice none 0 0) (.bool false) (.bool false) (.bool false) (.bool false) (.int .u64 0)
                                have efin := Kf (hKf hfn) _ (k2 w hx (Nat.le_refl _))
                                unfold set7 at k0 efin
                                replace efin : R (.returned (.tuple #[.agg #[.bool false, .slice none 0 0, .bool false, .bool false, .bool false, .bool false, .int .u64 0], .int .i64 90])) _ := efin
                                have d0 := cell_of_blk k0 0
                                have d1 := cell_of_blk k0 1
                                have d2 := cell_of_blk k0 2
                                have d3 := cell_of_blk k0 3
                                have d4 := cell_of_blk k0 4
                                have d5 := cell_of_blk k0 5
                                have d6 := cell_of_blk k0 6
                                clear k0 k2 hKf bq bp hx hrow hb hfn Kt HNEG
                                go_wp2_with fail
                                exact bodyPost_ret (v := .tuple #[.agg #[.bool false, .slice none 0 0, .bool false, .bool false, .bool false, .bool false, .int .u64 0], .int .i64 90]) (by simp [results, Tryz.results14, go_sem, d0, d1, d2, d3, d4, d5, d6]) rfl efin
                              case false =>
                                cases m
                                case true =>
                                  have hfn := hbad (by unfold markR; simp)
                                  clear hbad HST HW
                                  have ey := fun i => frozen_of_blk bq i
                                  have et0 : (wr).cell? ⟨w.heap.size, 0, none⟩ = some (.bool false) := cell_of_blk bq 0
                                  have et1 : (wr).cell? ⟨w.heap.size, 1, none⟩ = some (.slice none 0 0) := cell_of_blk bq 1
                                  have et2 : (wr).cell? ⟨w.heap.size, 2, none⟩ = some (.bool false) := cell_of_blk bq 2
                                  have et3 : (wr).cell? ⟨w.heap.size, 3, none⟩ = some (.bool false) := cell_of_blk bq 3
                                  have et4 : (wr).cell? ⟨w.heap.size, 4, none⟩ = some (.bool false) := cell_of_blk bq 4
                                  have et5 : (wr).cell? ⟨w.heap.size, 5, none⟩ = some (.bool false) := cell_of_blk bq 5
                                  have et6 : (wr).cell? ⟨w.heap.size, 6, none⟩ = some (.int .u64 0) := cell_of_blk bq 6
                                  obtain ⟨k0, _, k2, _, _⟩ := ret7 bq (.bool false) (.slice none 0 0) (.bool false) (.bool false) (.bool false) (.bool false) (.int .u64 0)
                                  have efin := Kf (hKf hfn) _ (k2 w hx (Nat.le_refl _))
                                  unfold set7 at k0 efin
                                  replace efin : R (.returned (.tuple #[.agg #[.bool false, .slice none 0 0, .bool false, .bool false, .bool false, .bool false, .int .u64 0], .int .i64 90])) _ := efin
                                  have d0 := cell_of_blk k0 0
                                  have d1 := cell_of_blk k0 1
                                  have d2 := cell_of_blk k0 2
                                  have d3 := cell_of_blk k0 3
                                  have d4 := cell_of_blk k0 4
                                  have d5 := cell_of_blk k0 5
                                  have d6 := cell_of_blk k0 6
                                  clear k0 k2 hKf bq bp hx hrow hb hfn Kt HNEG
                                  go_wp2_with fail
                                  exact bodyPost_ret (v := .tuple #[.agg #[.bool false, .slice none 0 0, .bool false, .bool false, .bool false, .bool false, .int .u64 0], .int .i64 90]) (by simp [results, Tryz.results14, go_sem, d0, d1, d2, d3, d4, d5, d6]) rfl efin
                                case false =>
                                  cases nn
                                  case true =>
                                    have hfn := hbad (by unfold markR; simp)
                                    clear hbad HST HW
                                    have ey := fun i => frozen_of_blk bq i
                                    have et0 : (wr).cell? ⟨w.heap.size, 0, none⟩ = some (.bool false) := cell_of_blk bq 0
                                    have et1 : (wr).cell? ⟨w.heap.size, 1, none⟩ = some (.slice none 0 0) := cell_of_blk bq 1
                                    have et2 : (wr).cell? ⟨w.heap.size, 2, none⟩ = some (.bool false) := cell_of_blk bq 2
                                    have et3 : (wr).cell? ⟨w.heap.size, 3, none⟩ = some (.bool false) := cell_of_blk bq 3
                                    have et4 : (wr).cell? ⟨w.heap.size, 4, none⟩ = some (.bool false) := cell_of_blk bq 4
                                    have et5 : (wr).cell? ⟨w.heap.size, 5, none⟩ = some (.bool false) := cell_of_blk bq 5
                                    have et6 : (wr).cell? ⟨w.heap.size, 6, none⟩ = some (.int .u64 0) := cell_of_blk bq 6
                                    obtain ⟨k0, _, k2, _, _⟩ := ret7 bq (.bool false) (.slice none 0 0) (.bool false) (.bool false) (.bool false) (.bool false) (.int .u64 0)
                                    have efin := Kf (hKf hfn) _ (k2 w hx (Nat.le_refl _))
                                    unfold set7 at k0 efin
                                    replace efin : R (.returned (.tuple #[.agg #[.bool false, .slice none 0 0, .bool false, .bool false, .bool false, .bool false, .int .u64 0], .int .i64 90])) _ := efin
                                    have d0 := cell_of_blk k0 0
                                    have d1 := cell_of_blk k0 1
                                    have d2 := cell_of_blk k0 2
                                    have d3 := cell_of_blk k0 3
                                    have d4 := cell_of_blk k0 4
                                    have d5 := cell_of_blk k0 5
                                    have d6 := cell_of_blk k0 6
                                    clear k0 k2 hKf bq bp hx hrow hb hfn Kt HNEG
                                    go_wp2_with fail
                                    exact bodyPost_ret (v := .tuple #[.agg #[.bool false, .slice none 0 0, .bool false, .bool false, .bool false, .bool false, .int .u64 0], .int .i64 90]) (by simp [results, Tryz.results14, go_sem, d0, d1, d2, d3, d4, d5, d6]) rfl efin
                                  case false =>
                                    by_cases hn00 : n = 0
                                    · have hzt : zr = true := by rw [← HNZ.out, hn00]; rfl
                                      have hn01 : ((n : Int) == 0) = true := by rw [hn00]; rfl
                                      have HZT : Hid (zr = true) := hzt
                                      clear hzt hn00
                                      have hfin : Hid ((ws.take (j + 1)).foldl (markR zr) (some (false, false, false, false)) = some (false, false, false, true)) := (by rw [HST.out, HW.out]; unfold markR; simp [HZT.out] : (ws.take (j + 1)).foldl (markR zr) (some (false, false, false, false)) = some (false, false, false, true))
                                      have f1 := blk_setCell bp 5 (.bool false)
                                      have f2 := (Below.heap_setCell wr ⟨pb, 5, none⟩ (.bool false) w.heap.size (by simp; omega)).trans bq
                                      have f3 := hrow.set hpg 5 (.bool false)
                                      have f4 := hb.setCell (a := ⟨pb, 5, none⟩) (tyAt_of_blk bp) (.bool false)
                                      have f5 := hx.setCell (p := ⟨pb, 5, none⟩) (by simp; omega) (.bool false)
                                      clear hbad HST HW bp bq hrow hb hx hKf Kt Kf
                                      go_wp2_with fail
                                      go_roundw
                                      case rel => exact ⟨j + 1, false, false, false, true, hlt, by go_num, hfin.out, f1, f2, f3, f4, f5⟩
                                      case measure => first | (simp [intOf]; done) | (simp [intOf]; omega)
                                    · have hzt : zr = false := by rw [← HNZ.out]; exact decide_eq_false hn00
                                      have hn01 : ((n : Int) == 0) = false := by simp; omega
                                      have HZT : Hid (zr = false) := hzt
                                      clear hzt
                                      have hfn := hbad (by unfold markR; simp [HZT.out])
                                      clear hbad HST HW
                                      have ey := fun i => frozen_of_blk bq i
                                      have et0 : (wr).cell? ⟨w.heap.size, 0, none⟩ = some (.bool false) := cell_of_blk bq 0
                                      have et1 : (wr).cell? ⟨w.heap.size, 1, none⟩ = some (.slice none 0 0) := cell_of_blk bq 1
                                      have et2 : (wr).cell? ⟨w.heap.size, 2, none⟩ = some (.bool false) := cell_of_blk bq 2
                                      have et3 : (wr).cell? ⟨w.heap.size, 3, none⟩ = some (.bool false) := cell_of_blk bq 3
                                      have et4 : (wr).cell? ⟨w.heap.size, 4, none⟩ = some (.bool false) := cell_of_blk bq 4
                                      have et5 : (wr).cell? ⟨w.heap.size, 5, none⟩ = some (.bool false) := cell_of_blk bq 5
                                      have et6 : (wr).cell? ⟨w.heap.size, 6, none⟩ = some (.int .u64 0) := cell_of_blk bq 6
                                      obtain ⟨k0, _, k2, _, _⟩ := ret7 bq (.bool false) (.slice none 0 0) (.bool false) (.bool false) (.bool false) (.bool false) (.int .u64 0)
                                      have efin := Kf (hKf hfn) _ (k2 w hx (Nat.le_refl _))
                                      unfold set7 at k0 efin
                                      replace efin : R (.returned (.tuple #[.agg #[.bool false, .slice none 0 0, .bool false, .bool false, .bool false, .bool false, .int .u64 0], .int .i64 90])) _ := efin
                                      have d0 := cell_of_blk k0 0
                                      have d1 := cell_of_blk k0 1
                                      have d2 := cell_of_blk k0 2
                                      have d3 := cell_of_blk k0 3
                                      have d4 := cell_of_blk k0 4
                                      have d5 := cell_of_blk k0 5
                                      have d6 := cell_of_blk k0 6
                                      clear k0 k2 hKf bq bp hx hrow hb hfn Kt HNEG
                                      go_wp2_with fail
                                      exact bodyPost_ret (v := .tuple #[.agg #[.bool false, .slice none 0 0, .bool false, .bool false, .bool false, .bool false, .int .u64 0], .int .i64 90]) (by simp [results, Tryz.results14, go_sem, d0, d1, d2, d3, d4, d5, d6]) rfl efin
                          · have hfn := hbad (by unfold markR; simp [hP, hM, hN, hZ])
                            clear hbad HST
                            have ey := fun i => frozen_of_blk bq i
                            have et0 : (wr).cell? ⟨w.heap.size, 0, none⟩ = some (.bool false) := cell_of_blk bq 0
                            have et1 : (wr).cell? ⟨w.heap.size, 1, none⟩ = some (.slice none 0 0) := cell_of_blk bq 1
                            have et2 : (wr).cell? ⟨w.heap.size, 2, none⟩ = some (.bool false) := cell_of_blk bq 2
                            have et3 : (wr).cell? ⟨w.heap.size, 3, none⟩ = some (.bool false) := cell_of_blk bq 3
                            have et4 : (wr).cell? ⟨w.heap.size, 4, none⟩ = some (.bool false) := cell_of_blk bq 4
                            have et5 : (wr).cell? ⟨w.heap.size, 5, none⟩ = some (.bool false) := cell_of_blk bq 5
                            have et6 : (wr).cell? ⟨w.heap.size, 6, none⟩ = some (.int .u64 0) := cell_of_blk bq 6
                            obtain ⟨k0, _, k2, _, _⟩ := ret7 bq (.bool false) (.slice none 0 0) (.bool false) (.bool false) (.bool false) (.bool false) (.int .u64 0)
                            have efin := Kf (hKf hfn) _ (k2 w hx (Nat.le_refl _))
                            unfold set7 at k0 efin
                            replace efin : R (.returned (.tuple #[.agg #[.bool false, .slice none 0 0, .bool false, .bool false, .bool false, .bool false, .int .u64 0], .int .i64 90])) _ := efin
                            have d0 := cell_of_blk k0 0
                            have d1 := cell_of_blk k0 1
                            have d2 := cell_of_blk k0 2
                            have d3 := cell_of_blk k0 3
                            have d4 := cell_of_blk k0 4
                            have d5 := cell_of_blk k0 5
                            have d6 := cell_of_blk k0 6
                            clear k0 k2 hKf bq bp hx hrow hb hfn Kt HNEG
                            go_wp2_with fail
                            exact bodyPost_ret (v := .tuple #[.agg #[.bool false, .slice none 0 0, .bool false, .bool false, .bool false, .bool false, .int .u64 0], .int .i64 90]) (by simp [results, Tryz.results14, go_sem, d0, d1, d2, d3, d4, d5, d6]) rfl efin
                  · have hjl : j = L := by omega
                    subst hjl
                    rw [List.take_of_length_le (by rw [HWL.out]; exact Nat.le_refl _)] at hfold
                    rw [hfold] at Kt Kf
                    simp only at Kt Kf
                    clear hfold hat hKf
                    have q0 : wr.cell? ⟨pb, 0, none⟩ = some (.bool ng) := cell_of_blk bp 0
                    have q1 : wr.cell? ⟨pb, 1, none⟩ = some (.slice A n c) := cell_of_blk bp 1
                    have q2 : wr.cell? ⟨pb, 2, none⟩ = some (.bool p) := cell_of_blk bp 2
                    have q3 : wr.cell? ⟨pb, 3, none⟩ = some (.bool m) := cell_of_blk bp 3
                    have q4 : wr.cell? ⟨pb, 4, none⟩ = some (.bool nn) := cell_of_blk bp 4
                    have q5 : wr.cell? ⟨pb, 5, none⟩ = some (.bool (!z)) := cell_of_blk bp 5
                    have q6 : wr.cell? ⟨pb, 6, none⟩ = some (v64 cnt) := cell_of_blk bp 6
                    have qz := fun i => frozen_of_blk bp i
                    by_cases hc0 : cnt = 0
                    · have hb0 : ((cnt : Int) == 0) = true := by rw [hc0]; rfl
                      have HC0 : Hid (cnt = 0) := hc0
                      clear hc0
                      have hn4 : n ≤ 4 * t.size := hnt
                      by_cases hn00 : 0 < n
                      · have hgt : decide ((n : Int) > 0) = true := by simp; omega
                        have ey := fun i => frozen_of_blk bq i
                        have et0 : (wr).cell? ⟨w.heap.size, 0, none⟩ = some (.bool false) := cell_of_blk bq 0
                        have et1 : (wr).cell? ⟨w.heap.size, 1, none⟩ = some (.slice none 0 0) := cell_of_blk bq 1
                        have et2 : (wr).cell? ⟨w.heap.size, 2, none⟩ = some (.bool false) := cell_of_blk bq 2
                        have et3 : (wr).cell? ⟨w.heap.size, 3, none⟩ = some (.bool false) := cell_of_blk bq 3
                        have et4 : (wr).cell? ⟨w.heap.size, 4, none⟩ = some (.bool false) := cell_of_blk bq 4
                        have et5 : (wr).cell? ⟨w.heap.size, 5, none⟩ = some (.bool false) := cell_of_blk bq 5
                        have et6 : (wr).cell? ⟨w.heap.size, 6, none⟩ = some (.int .u64 0) := cell_of_blk bq 6
                        obtain ⟨k0, _, k2, _, _⟩ := ret7 bq (.bool false) (.slice none 0 0) (.bool false) (.bool false) (.bool false) (.bool false) (.int .u64 0)
                        have efin := Kf (if_pos ⟨HC0.out, Or.inl (HN0.out.1 hn00)⟩) _ (k2 w hx (Nat.le_refl _))
                        unfold set7 at k0 efin
                        replace efin : R (.returned (.tuple #[.agg #[.bool false, .slice none 0 0, .bool false, .bool false, .bool false, .bool false, .int .u64 0], .int .i64 90])) _ := efin
                        have d0 := cell_of_blk k0 0
                        have d1 := cell_of_blk k0 1
                        have d2 := cell_of_blk k0 2
                        have d3 := cell_of_blk k0 3
                        have d4 := cell_of_blk k0 4
                        have d5 := cell_of_blk k0 5
                        have d6 := cell_of_blk k0 6
                        clear k0 k2 bq bp hx hrow hb Kt HNEG
                        go_wp2_with fail
                        exact bodyPost_ret (v := .tuple #[.agg #[.bool false, .slice none 0 0, .bool false, .bool false, .bool false, .bool false, .int .u64 0], .int .i64 90]) (by simp [results, Tryz.results14, go_sem, d0, d1, d2, d3, d4, d5, d6]) rfl efin
                      · have hgt : decide ((n : Int) > 0) = false := by simp; omega
                        cases p
                        case true =>
                          have ey := fun i => frozen_of_blk bq i
                          have et0 : (wr).cell? ⟨w.heap.size, 0, none⟩ = some (.bool false) := cell_of_blk bq 0
                          have et1 : (wr).cell? ⟨w.heap.size, 1, none⟩ = some (.slice none 0 0) := cell_of_blk bq 1
                          have et2 : (wr).cell? ⟨w.heap.size, 2, none⟩ = some (.bool false) := cell_of_blk bq 2
                          have et3 : (wr).cell? ⟨w.heap.size, 3, none⟩ = some (.bool false) := cell_of_blk bq 3
                          have et4 : (wr).cell? ⟨w.heap.size, 4, none⟩ = some (.bool false) := cell_of_blk bq 4
                          have et5 : (wr).cell? ⟨w.heap.size, 5, none⟩ = some (.bool false) := cell_of_blk bq 5
                          have et6 : (wr).cell? ⟨w.heap.size, 6, none⟩ = some (.int .u64 0) := cell_of_blk bq 6
                          obtain ⟨k0, _, k2, _, _⟩ := ret7 bq (.bool false) (.slice none 0 0) (.bool false) (.bool false) (.bool false) (.bool false) (.int .u64 0)
                          have efin := Kf (if_pos ⟨HC0.out, Or.inr (Or.inl rfl)⟩) _ (k2 w hx (Nat.le_refl _))
                          unfold set7 at k0 efin
                          replace efin : R (.returned (.tuple #[.agg #[.bool false, .slice none 0 0, .bool false, .bool false, .bool false, .bool false, .int .u64 0], .int .i64 90])) _ := efin
                          have d0 := cell_of_blk k0 0
                          have d1 := cell_of_blk k0 1
                          have d2 := cell_of_blk k0 2
                          have d3 := cell_of_blk k0 3
                          have d4 := cell_of_blk k0 4
                          have d5 := cell_of_blk k0 5
                          have d6 := cell_of_blk k0 6
                          clear k0 k2 bq bp hx hrow hb Kt HNEG
                          go_wp2_with fail
                          exact bodyPost_ret (v := .tuple #[.agg #[.bool false, .slice none 0 0, .bool false, .bool false, .bool false, .bool false, .int .u64 0], .int .i64 90]) (by simp [results, Tryz.results14, go_sem, d0, d1, d2, d3, d4, d5, d6]) rfl efin
                        case false =>
                          cases m
                          case true =>
                            have ey := fun i => frozen_of_blk bq i
                            have et0 : (wr).cell? ⟨w.heap.size, 0, none⟩ = some (.bool false) := cell_of_blk bq 0
                            have et1 : (wr).cell? ⟨w.heap.size, 1, none⟩ = some (.slice none 0 0) := cell_of_blk bq 1
                            have et2 : (wr).cell? ⟨w.heap.size, 2, none⟩ = some (.bool false) := cell_of_blk bq 2
                            have et3 : (wr).cell? ⟨w.heap.size, 3, none⟩ = some (.bool false) := cell_of_blk bq 3
                            have et4 : (wr).cell? ⟨w.heap.size, 4, none⟩ = some (.bool false) := cell_of_blk bq 4
                            have et5 : (wr).cell? ⟨w.heap.size, 5, none⟩ = some (.bool false) := cell_of_blk bq 5
                            have et6 : (wr).cell? ⟨w.heap.size, 6, none⟩ = some (.int .u64 0) := cell_of_blk bq 6
                            obtain ⟨k0, _, k2, _, _⟩ := ret7 bq (.bool false) (.slice none 0 0) (.bool false) (.bool false) (.bool false) (.bool false) (.int .u64 0)
                            have efin := Kf (if_pos ⟨HC0.out, Or.inr (Or.inr (Or.inl rfl))⟩) _ (k2 w hx (Nat.le_refl _))
                            unfold set7 at k0 efin
                            replace efin : R (.returned (.tuple #[.agg #[.bool false, .slice none 0 0, .bool false, .bool false, .bool false, .bool false, .int .u64 0], .int .i64 90])) _ := efin
                            have d0 := cell_of_blk k0 0
                            have d1 := cell_of_blk k0 1
                            have d2 := cell_of_blk k0 2
                            have d3 := cell_of_blk k0 3
                            have d4 := cell_of_blk k0 4
                            have d5 := cell_of_blk k0 5
                            have d6 := cell_of_blk k0 6
                            clear k0 k2 bq bp hx hrow hb Kt HNEG
                            go_wp2_with fail
                            exact bodyPost_ret (v := .tuple #[.agg #[.bool false, .slice none 0 0, .bool false, .bool false, .bool false, .bool false, .int .u64 0], .int .i64 90]) (by simp [results, Tryz.results14, go_sem, d0, d1, d2, d3, d4, d5, d6]) rfl efin
                          case false =>
                            cases nn
                            case true =>
                              have ey := fun i => frozen_of_blk bq i
                              have et0 : (wr).cell? ⟨w.heap.size, 0, none⟩ = some (.bool false) := cell_of_blk bq 0
                              have et1 : (wr).cell? ⟨w.heap.size, 1, none⟩ = some (.slice none 0 0) := cell_of_blk bq 1
                              have et2 : (wr).cell? ⟨w.heap.size, 2, none⟩ = some (.bool false) := cell_of_blk bq 2
                              have et3 : (wr).cell? ⟨w.heap.size, 3, none⟩ = some (.bool false) := cell_of_blk bq 3
                              have et4 : (wr).cell? ⟨w.heap.size, 4, none⟩ = some (.bool false) := cell_of_blk bq 4
                              have et5 : (wr).cell? ⟨w.heap.size, 5, none⟩ = some (.bool false) := cell_of_blk bq 5
                              have et6 : (wr).cell? ⟨w.heap.size, 6, none⟩ = some (.int .u64 0) := cell_of_blk bq 6
                              obtain ⟨k0, _, k2, _, _⟩ := ret7 bq (.bool false) (.slice none 0 0) (.bool false) (.bool false) (.bool false) (.bool false) (.int .u64 0)
                              have efin := Kf (if_pos ⟨HC0.out, Or.inr (Or.inr (Or.inr (Or.inl rfl)))⟩) _ (k2 w hx (Nat.le_refl _))
                              unfold set7 at k0 efin
                              replace efin : R (.returned (.tuple #[.agg #[.bool false, .slice none 0 0, .bool false, .bool false, .bool false, .bool false, .int .u64 0], .int .i64 90])) _ := efin
                              have d0 := cell_of_blk k0 0
                              have d1 := cell_of_blk k0 1
                              have d2 := cell_of_blk k0 2
                              have d3 := cell_of_blk k0 3
                              have d4 := cell_of_blk k0 4
                              have d5 := cell_of_blk k0 5
                              have d6 := cell_of_blk k0 6
                              clear k0 k2 bq bp hx hrow hb Kt HNEG
                              go_wp2_with fail
                              exact bodyPost_ret (v := .tuple #[.agg #[.bool false, .slice none 0 0, .bool false, .bool false, .bool false, .bool false, .int .u64 0], .int .i64 90]) (by simp [results, Tryz.results14, go_sem, d0, d1, d2, d3, d4, d5, d6]) rfl efin
                            case false =>
                              cases z
                              case true =>
                                have ey := fun i => frozen_of_blk bq i
                                have et0 : (wr).cell? ⟨w.heap.size, 0, none⟩ = some (.bool false) := cell_of_blk bq 0
                                have et1 : (wr).cell? ⟨w.heap.size, 1, none⟩ = some (.slice none 0 0) := cell_of_blk bq 1
                                have et2 : (wr).cell? ⟨w.heap.size, 2, none⟩ = some (.bool false) := cell_of_blk bq 2
                                have et3 : (wr).cell? ⟨w.heap.size, 3, none⟩ = some (.bool false) := cell_of_blk bq 3
                                have et4 : (wr).cell? ⟨w.heap.size, 4, none⟩ = some (.bool false) := cell_of_blk bq 4
                                have et5 : (wr).cell? ⟨w.heap.size, 5, none⟩ = some (.bool false) := cell_of_blk bq 5
                                have et6 : (wr).cell? ⟨w.heap.size, 6, none⟩ = some (.int .u64 0) := cell_of_blk bq 6
                                obtain ⟨k0, _, k2, _, _⟩ := ret7 bq (.bool false) (.slice none 0 0) (.bool false) (.bool false) (.bool false) (.bool false) (.int .u64 0)
                                have efin := Kf (if_pos ⟨HC0.out, Or.inr (Or.inr (Or.inr (Or.inr rfl)))⟩) _ (k2 w hx (Nat.le_refl _))
                                unfold set7 at k0 efin
                                replace efin : R (.returned (.tuple #[.agg #[.bool false, .slice none 0 0, .bool false, .bool false, .bool false, .bool false, .int .u64 0], .int .i64 90])) _ := efin
                                have d0 := cell_of_blk k0 0
                                have d1 := cell_of_blk k0 1
                                have d2 := cell_of_blk k0 2
                                have d3 := cell_of_blk k0 3
                                have d4 := cell_of_blk k0 4
                                have d5 := cell_of_blk k0 5
                                have d6 := cell_of_blk k0 6
                                clear k0 k2 bq bp hx hrow hb Kt HNEG
                                go_wp2_with fail
                                exact bodyPost_ret (v := .tuple #[.agg #[.bool false, .slice none 0 0, .bool false, .bool false, .bool false, .bool false, .int .u64 0], .int .i64 90]) (by simp [results, Tryz.results14, go_sem, d0, d1, d2, d3, d4, d5, d6]) rfl efin
                              case false =>
                                have f1 := blk_setCell bp 5 (.bool false)
                                have f2 := (Below.heap_setCell wr ⟨pb, 5, none⟩ (.bool false) w.heap.size (by simp; omega)).trans bq
                                have f4 := hb.setCell (a := ⟨pb, 5, none⟩) (tyAt_of_blk bp) (.bool false)
                                have f5 := hx.setCell (p := ⟨pb, 5, none⟩) (by simp; omega) (.bool false)
                                have hm0 : mag = 0 := by
                                  by_cases e : mag = 0
                                  · exact e
                                  · exact absurd (HN0.out.2 e) hn00
                                have hks : (if cnt = 0 ∧ (mag ≠ 0 ∨ false = true ∨ false = true ∨ false = true ∨ false = true) then none else some (⟨sg ng mag, false, false, false, decide (0 < cnt) && !false, cnt⟩ : SumS)) = some ⟨sg ng mag, false, false, false, false, cnt⟩ := by
                                  rw [if_neg (by simp [hm0]), HC0.out]
                                  rfl
                                clear Kf hm0
                                have ey := fun i => frozen_of_blk f2 i
                                have et0 : ((wr.setCell ⟨pb, 5, none⟩ (.bool false))).cell? ⟨w.heap.size, 0, none⟩ = some (.bool false) := cell_of_blk f2 0
                                have et1 : ((wr.setCell ⟨pb, 5, none⟩ (.bool false))).cell? ⟨w.heap.size, 1, none⟩ = some (.slice none 0 0) := cell_of_blk f2 1
                                have et2 : ((wr.setCell ⟨pb, 5, none⟩ (.bool false))).cell? ⟨w.heap.size, 2, none⟩ = some (.bool false) := cell_of_blk f2 2
                                have et3 : ((wr.setCell ⟨pb, 5, none⟩ (.bool false))).cell? ⟨w.heap.size, 3, none⟩ = some (.bool false) := cell_of_blk f2 3
                                have et4 : ((wr.setCell ⟨pb, 5, none⟩ (.bool false))).cell? ⟨w.heap.size, 4, none⟩ = some (.bool false) := cell_of_blk f2 4
                                have et5 : ((wr.setCell ⟨pb, 5, none⟩ (.bool false))).cell? ⟨w.heap.size, 5, none⟩ = some (.bool false) := cell_of_blk f2 5
                                have et6 : ((wr.setCell ⟨pb, 5, none⟩ (.bool false))).cell? ⟨w.heap.size, 6, none⟩ = some (.int .u64 0) := cell_of_blk f2 6
                                obtain ⟨k0, k1, k2, _, _⟩ := ret7 f2 (.bool ng) (.slice A n c) (.bool false) (.bool false) (.bool false) (.bool false) (v64 cnt)
                                have efin := Kt ⟨sg ng mag, false, false, false, false, cnt⟩ hks A n c _ (by unfold BitsZ; rw [HNEG.out.2]; exact k1 _ _ _ _ f4) hnt (k2 w f5 (Nat.le_refl _))
                                simp only [refV, refCells, HNEG.out.1] at efin
                                unfold set7 at k0 efin
                                have d0 := cell_of_blk k0 0
                                have d1 := cell_of_blk k0 1
                                have d2 := cell_of_blk k0 2
                                have d3 := cell_of_blk k0 3
                                have d4 := cell_of_blk k0 4
                                have d5 := cell_of_blk k0 5
                                have d6 := cell_of_blk k0 6
                                clear k0 k1 k2 Kt f1 f2 f4 f5 hks bp bq hb hx hrow HNEG
                                go_wp2_with fail
                                exact bodyPost_ret (v := .tuple #[.agg #[.bool ng, .slice A n c, .bool false, .bool false, .bool false, .bool false, v64 cnt], .int .i64 0]) (by simp [results, Tryz.results14, go_sem, d0, d1, d2, d3, d4, d5, d6]) rfl efin
                    · have hb0 : ((cnt : Int) == 0) = false := by simp; omega
                      have hoth : (decide (0 < cnt) && !z) = !z := by rw [decide_eq_true (by omega)]; rfl
                      rw [if_neg (fun e => hc0 e.1), hoth] at Kt
                      clear Kf hb0
                      have hb0 : ((cnt : Int) == 0) = false := by simp; omega
                      have ey := fun i => frozen_of_blk bq i
                      have et0 : (wr).cell? ⟨w.heap.size, 0, none⟩ = some (.bool false) := cell_of_blk bq 0
                      have et1 : (wr).cell? ⟨w.heap.size, 1, none⟩ = some (.slice none 0 0) := cell_of_blk bq 1
                      have et2 : (wr).cell? ⟨w.heap.size, 2, none⟩ = some (.bool false) := cell_of_blk bq 2
                      have et3 : (wr).cell? ⟨w.heap.size, 3, none⟩ = some (.bool false) := cell_of_blk bq 3
                      have et4 : (wr).cell? ⟨w.heap.size, 4, none⟩ = some (.bool false) := cell_of_blk bq 4
                      have et5 : (wr).cell? ⟨w.heap.size, 5, none⟩ = some (.bool false) := cell_of_blk bq 5
                      have et6 : (wr).cell? ⟨w.heap.size, 6, none⟩ = some (.int .u64 0) := cell_of_blk bq 6
                      obtain ⟨k0, k1, k2, _, _⟩ := ret7 bq (.bool ng) (.slice A n c) (.bool p) (.bool m) (.bool nn) (.bool (!z)) (v64 cnt)
                      have efin := Kt ⟨sg ng mag, p, m, nn, (!z), cnt⟩ rfl A n c _ (by unfold BitsZ; rw [HNEG.out.2]; exact k1 _ _ _ _ hb) hnt (k2 w hx (Nat.le_refl _))
                      simp only [refV, refCells, HNEG.out.1] at efin
                      unfold set7 at k0 efin
                      have d0 := cell_of_blk k0 0
                      have d1 := cell_of_blk k0 1
                      have d2 := cell_of_blk k0 2
                      have d3 := cell_of_blk k0 3
                      have d4 := cell_of_blk k0 4
                      have d5 := cell_of_blk k0 5
                      have d6 := cell_of_blk k0 6
                      clear k0 k1 k2 Kt bp bq hb hx hrow HNEG
                      go_wp2_with fail
                      exact bodyPost_ret (v := .tuple #[.agg #[.bool ng, .slice A n c, .bool p, .bool m, .bool nn, .bool (!z), v64 cnt], .int .i64 0]) (by simp [results, Tryz.results14, go_sem, d0, d1, d2, d3, d4, d5, d6]) rfl efin
end Go.Proofs.YtjngofngjbjpbaaGreatDoor
end

section
set_option linter.unusedSimpArgs false
set_option linter.unusedVariables false
namespace Go.Proofs.YtjngofngjbjpbaaGreatDoor
open Go.RowKit

/-- an iterator set anew -/
def itSet (W : World) (g : Nat) (s : ByteArray) (p : Nat) : World := { W with heap := W.heap.setIfInBounds g (.stringIter s p) }
theorem itSet_same {W : World} {g : Nat} {s : ByteArray} {p : Nat} (h : g < W.heap.size) : (itSet W g s p).heap[g]? = some (.stringIter s p) := by
  unfold itSet; simp [h]
theorem itSet_other {W : World} {g k : Nat} {s : ByteArray} {p : Nat} (h : k ≠ g) : (itSet W g s p).heap[k]? = W.heap[k]? := by
  unfold itSet; simp [Array.getElem?_setIfInBounds_ne (Ne.symm h)]
theorem itSet_size (W : World) (g : Nat) (s : ByteArray) (p : Nat) : (itSet W g s p).heap.size = W.heap.size := by unfold itSet; simp
theorem itSet_ext {w W : World} {g : Nat} {s : ByteArray} {p : Nat} (h : Ext w W) (hg : w.heap.size ≤ g) : Ext w (itSet W g s p) :=
  ⟨h.os, h.tape, h.output, by rw [itSet_size]; exact h.size, fun k hk => (itSet_other (by omega)).trans (h.block k hk)⟩
theorem nextA (W : World) (g : Nat) (s : ByteArray) (pos : Nat) (ty : TypeId) (hb : W.heap[g]? = some (.stringIter s pos)) (h : pos < s.size) :
    (Instr.next (.pointer (some ⟨g, 0, none⟩)) true ty).run Tryz.prog W = .ok (.tuple #[.bool true, .int .i64 pos, .int .i32 (Utf8.decode s pos).1]) (itSet W g s (pos + (Utf8.decode s pos).2)) := by
  simp only [Instr.next, getObj, setObj, Sem.run_bind, Sem.run, hb, Result.andThen, h, if_true]
  simp [goInt]
  rfl
theorem nextE (W : World) (g : Nat) (s : ByteArray) (pos : Nat) (ty : TypeId) (hb : W.heap[g]? = some (.stringIter s pos)) (h : ¬ pos < s.size) :
    (Instr.next (.pointer (some ⟨g, 0, none⟩)) true ty).run Tryz.prog W = .ok (.tuple #[.bool false]) W := by
  simp [Instr.next, getObj, Sem.run, hb, h]
theorem iterPos_of {W : World} {g : Nat} {s : ByteArray} {p : Nat} (h : W.heap[g]? = some (.stringIter s p)) : W.iterPos g = p := by unfold World.iterPos; rw [h]

/-- is it one of the first q -/
def anyTo (S : List UInt8) (c q : Nat) : Bool := (S.take q).any fun d => d.toNat == c
theorem anyTo_succ {S : List UInt8} {c q : Nat} (h : q < S.length) : anyTo S c (q + 1) = (anyTo S c q || (S.getD q 0).toNat == c) := by
  unfold anyTo
  rw [take_snoc h, List.any_append]
  simp
def inSet (S : List UInt8) (b : UInt8) : Bool := S.any fun d => d.toNat == b.toNat
theorem iter_blk (w : World) (s : ByteArray) : (w.iter s 0).heap[w.heap.size]? = some (.stringIter s 0) := World.iter_heap w s 0

set_option maxHeartbeats 4000000 in
set_option maxRecDepth 100000 in
theorem cutLeft_any {R : Ending → World → Prop} (s S : ByteArray) (w : World) (hsz : s.size ≤ 1073741824) (hSz : S.size ≤ 1000) (hS : ∀ i, i < S.size → (S.data.toList.getD i 0).toNat < 128)
    (K : ∀ r w', ((∀ b, b ∈ s.data.toList → inSet S.data.toList b = true) ∧ r = ⟨#[]⟩) ∨ (¬ (∀ b, b ∈ s.data.toList → inSet S.data.toList b = true) ∧ ∃ b t, r.data.toList = b :: t ∧ inSet S.data.toList b = false) → r.size ≤ s.size → Ext w w' → R (.returned (.string r)) w') :
    Calls Tryz.prog 120 #[.string s, .string S] w R := by
  have hlen := str_len s
  have HL : Hid (s.size = s.data.toList.length) := hlen
  have HSL : Hid (S.size = S.data.toList.length) := str_len S
  clear hlen
  go_enter Tryz.func120, Tryz.ntmps120
  go_wp2
  obtain ⟨g, hg⟩ : ∃ g, g = w.heap.size := ⟨_, rfl⟩
  have hb0 : (w.iter s 0).heap[g]? = some (.stringIter s 0) := by rw [hg]; exact iter_blk w s
  have hgw : w.heap.size ≤ g := by omega
  have hx0 : Ext w (w.iter s 0) := (Ext.rfl' w).alloc' _
  rw [← hg]
  generalize w.iter s 0 = W0 at hb0 hx0 ⊢
  clear hg
  go_loopw [] (fun wr => ∃ i : Nat, i ≤ s.size ∧ (∀ k, k < i → inSet S.data.toList (s.data.toList.getD k 0) = true) ∧ wr.heap[g]? = some (.stringIter s i) ∧ Ext w wr) (fun wr => s.size - wr.iterPos g)
  case atStart => exact ⟨0, Nat.zero_le _, fun k hk => by omega, hb0, hx0⟩
  case round =>
    obtain ⟨i, hi, hall, hb, hx⟩ := hrel
    clear hb0 hx0
    have hDn := HL.out
    have hgl : g < wr.heap.size := (Array.getElem?_eq_some_iff.1 hb).1
    have KPO : Hid (wr.iterPos g = i) := iterPos_of hb
    by_cases hlt : i < s.size
    · obtain ⟨x, hxd⟩ : ∃ x, x = s.data.toList.getD i 0 := ⟨_, rfl⟩
      have hxat : s[i]'hlt = x := by rw [str_at, hxd]
      obtain ⟨c, hc⟩ : ∃ c, c = (Utf8.decode s i).1 := ⟨_, rfl⟩
      obtain ⟨d, hd⟩ : ∃ d, d = (Utf8.decode s i).2 := ⟨_, rfl⟩
      have hnx := fun ty => nextA wr g s i ty hb hlt
      rw [← hc, ← hd] at hnx
      have hcx : (x.toNat < 128 ∧ c = x.toNat ∧ d = 1) ∨ (128 ≤ x.toNat ∧ 128 ≤ c) := by
        by_cases ha : x.toNat < 128
        · left
          have := decode_ascii s i hlt (by rw [hxat]; exact ha)
          rw [this] at hc hd
          exact ⟨ha, by rw [hc, hxat], hd⟩
        · right
          have := (decode_high s i hlt (by rw [hxat]; omega)).1
          exact ⟨by omega, by omega⟩
      have hcb : c ≤ 2147483647 := by rw [hc]; exact decode_le s i
      -- c is in the set as x is
      have hin : anyTo S.data.toList c S.size = inSet S.data.toList x := by
        unfold anyTo inSet
        rw [List.take_of_length_le (by rw [HSL.out]; exact Nat.le_refl _)]
        rcases hcx with ⟨_, e, _⟩ | ⟨e1, e2⟩
        · rw [e]
        · have hno : ∀ n, 128 ≤ n → (S.data.toList.any fun d => d.toNat == n) = false := fun n hn => by
            rw [List.any_eq_false]
            intro y hy
            obtain ⟨k, hk, rfl⟩ := List.getElem_of_mem hy
            have := hS k (by rw [HSL.out]; exact hk)
            rw [List.getD_eq_getElem?_getD, List.getElem?_eq_getElem hk] at this
            simp at this ⊢
            omega
          rw [hno c e2, hno _ e1]
      have hstep : inSet S.data.toList x = true → d = 1 := fun h => by
        rcases hcx with ⟨_, _, e⟩ | ⟨e1, e2⟩
        · exact e
        · exfalso
          unfold inSet at h
          rw [List.any_eq_true] at h
          obtain ⟨y, hy, hyx⟩ := h
          obtain ⟨k, hk, rfl⟩ := List.getElem_of_mem hy
          have := hS k (by rw [HSL.out]; exact hk)
          rw [List.getD_eq_getElem?_getD, List.getElem?_eq_getElem hk] at this
          simp at this hyx
          omega
      have h1 := itSet_same (s := s) (p := i + d) hgl
      have h1x := itSet_ext (s := s) (p := i + d) hx hgw
      generalize itSet wr g s (i + d) = W1 at hnx h1 h1x
      have HXD : Hid (x = s.data.toList.getD i 0) := hxd
      have HIN : Hid (anyTo S.data.toList c S.size = inSet S.data.toList x) := hin
      clear hxat hc hd hcx hin hb hx hxd hDn
      go_wp2
      obtain ⟨g2, hg2⟩ : ∃ g2, g2 = W1.heap.size := ⟨_, rfl⟩
      have hb2 : (W1.iter S 0).heap[g2]? = some (.stringIter S 0) := by rw [hg2]; exact iter_blk W1 S
      have hg1l : g < W1.heap.size := (Array.getElem?_eq_some_iff.1 h1).1
      have hgg : g ≠ g2 := by omega
      have h2 : (W1.iter S 0).heap[g]? = some (.stringIter s (i + d)) := (Below.heap_alloc _ _ _ hg1l).trans h1
      have hx2 : Ext w (W1.iter S 0) := h1x.alloc' _
      have hgw2 : w.heap.size ≤ g2 := by omega
      rw [← hg2]
      generalize W1.iter S 0 = W2 at hb2 h2 hx2 ⊢
      clear hg2 h1 h1x hnx
      go_loopw [7] (fun inv wr => ∃ q : Nat, q ≤ S.size ∧ inv = .bool (anyTo S.data.toList c q) ∧ wr.heap[g2]? = some (.stringIter S q) ∧ wr.heap[g]? = some (.stringIter s (i + d)) ∧ Ext w wr) (fun _ wr => S.size - wr.iterPos g2)
      case atStart => exact ⟨0, Nat.zero_le _, rfl, hb2, h2, hx2⟩
      case round =>
        obtain ⟨q, hq, rfl, hb, hb', hx⟩ := hrel
        clear hb2 h2 hx2
        have hgl2 : g2 < wr.heap.size := (Array.getElem?_eq_some_iff.1 hb).1
        obtain ⟨a, ha⟩ : ∃ a, a = anyTo S.data.toList c q := ⟨_, rfl⟩
        rw [← ha]
        by_cases hql : q < S.size
        · have hasc : (S[q]'hql).toNat < 128 := by rw [str_at]; exact hS q hql
          have hnx2 := fun ty => nextA wr g2 S q ty hb hql
          rw [decode_ascii S q hql hasc, str_at] at hnx2
          obtain ⟨y, hy⟩ : ∃ y, y = (S.data.toList.getD q 0).toNat := ⟨_, rfl⟩
          have hyl : y < 128 := by rw [hy, ← str_at S q hql]; exact hasc
          simp only [← hy] at hnx2
          have hnext : Hid (anyTo S.data.toList c (q + 1) = (a || decide (c = y))) := (by
            rw [anyTo_succ (by rw [← HSL.out]; exact hql), ← ha, ← hy]
            congr 1
            by_cases e : c = y
            · subst e; simp
            · rw [decide_eq_false e]; simp; omega : anyTo S.data.toList c (q + 1) = (a || decide (c = y)))
          have k1 := itSet_same (s := S) (p := q + 1) hgl2
          have k2 := (itSet_other (W := wr) (s := S) (p := q + 1) hgg).trans hb'
          have k3 := itSet_ext (s := S) (p := q + 1) hx hgw2
          have kp := iterPos_of hb
          have kp2 := iterPos_of k1
          generalize itSet wr g2 S (q + 1) = W3 at hnx2 k1 k2 k3 kp2
          have hcy : ((c : Int) == (y : Int)) = decide (c = y) := by
            by_cases e : c = y
            · subst e; simp
            · rw [decide_eq_false e]; simp; omega
          have KP : Hid (wr.iterPos g2 = q) := kp
          have KP2 : Hid (W3.iterPos g2 = q + 1) := kp2
          clear ha hy hasc hb hb' hx kp kp2
          cases a
          · go_wp2
            go_roundw
            case rel => exact ⟨q + 1, hql, by rw [hnext.out]; rfl, k1, k2, k3⟩
            case measure => rw [KP.out, KP2.out]; omega
          · go_wp2
            go_roundw
            case rel => exact ⟨q + 1, hql, by rw [hnext.out]; rfl, k1, k2, k3⟩
            case measure => rw [KP.out, KP2.out]; omega
        · have hqe : q = S.size := by omega
          have hnx2 := fun ty => nextE wr g2 S q ty hb hql
          have ha2 : a = inSet S.data.toList x := by rw [ha, hqe]; exact HIN.out
          have HDn := HL.out
          clear ha
          cases hsx : inSet S.data.toList x with
          | true =>
            have hd1 := hstep hsx
            rw [hsx] at ha2
            subst ha2
            subst hd1
            have hall2 : ∀ k, k < i + 1 → inSet S.data.toList (s.data.toList.getD k 0) = true := fun k hk => by
              by_cases e : k = i
              · rw [e, ← HXD.out]; exact hsx
              · exact hall k (by omega)
            have KP : Hid (wr.iterPos g = i + 1) := iterPos_of hb'
            clear hall hsx K hb hstep HDn
            go_wp2
            go_roundw
            case rel => exact ⟨i + 1, hlt, hall2, hb', hx⟩
            case measure => rw [KPO.out, KP.out]; omega
          | false =>
            rw [hsx] at ha2
            subst ha2
            have hmem : x ∈ s.data.toList := by
              rw [HXD.out, List.getD_eq_getElem?_getD, List.getElem?_eq_getElem (by omega)]
              exact List.getElem_mem _
            have hi0 : (0 : Int) ≤ (i : Int) := Int.natCast_nonneg _
            have hil : (i : Int) ≤ (s.size : Int) := by omega
            have fin := K (s.extract i s.size) wr (Or.inr ⟨fun h => by rw [h x hmem] at hsx; exact absurd hsx (by decide), x, s.data.toList.drop (i + 1), by
              rw [Lib.extract_to_end, List.drop_eq_getElem_cons (by omega), HXD.out, List.getD_eq_getElem?_getD, List.getElem?_eq_getElem (by omega)]; rfl, hsx⟩) (by rw [ByteArray.size_extract]; omega) hx
            clear K hmem hall hsx hb hb' hx HDn hstep
            go_wp2
            exact fin
    · have hin : i = s.size := by omega
      have hnx := fun ty => nextE wr g s i ty hb hlt
      have fin := K ⟨#[]⟩ wr (Or.inl ⟨fun b hbm => by
        obtain ⟨k, hk, rfl⟩ := List.getElem_of_mem hbm
        have := hall k (by omega)
        rwa [List.getD_eq_getElem?_getD, List.getElem?_eq_getElem hk] at this, rfl⟩) (Nat.zero_le _) hx
      clear K hall hb hx hDn
      go_wp2
      exact fin
end Go.Proofs.YtjngofngjbjpbaaGreatDoor
end

section
set_option linter.unusedSimpArgs false
set_option linter.unusedVariables false
namespace Go.Proofs.YtjngofngjbjpbaaGreatDoor
open Go.RowKit

theorem lastStart_lt {l : List UInt8} (h : l ≠ []) : Lib.lastStart l < l.length := by
  have : 0 < l.length := List.length_pos_iff.2 h
  unfold Lib.lastStart
  simp only
  repeat' split
  all_goals omega
theorem last_cases {l : List UInt8} (h : l ≠ []) : ((l.getD (l.length - 1) 0).toNat < 128 ∧ Lib.decodeLastL l = ((l.getD (l.length - 1) 0).toNat, 1)) ∨ (128 ≤ (l.getD (l.length - 1) 0).toNat ∧ 128 ≤ (Lib.decodeLastL l).1 ∧ (Lib.decodeLastL l).1 ≤ 2147483647) := by
  have hs := lastStart_lt h
  unfold Lib.decodeLastL
  rw [if_neg h]
  by_cases ha : (l.getD (l.length - 1) 0).toNat < 128
  · left; rw [if_pos ha]; exact ⟨ha, rfl⟩
  · right
    rw [if_neg ha]
    refine ⟨by omega, ?_⟩
    simp only
    split
    · rename_i he
      unfold Lib.decodeL at he ⊢
      have hsz : 0 < (⟨(l.drop (Lib.lastStart l)).toArray⟩ : ByteArray).size := by rw [size_list, List.length_drop]; omega
      have hat := str_at (⟨(l.drop (Lib.lastStart l)).toArray⟩ : ByteArray) 0 hsz
      by_cases hb : ((⟨(l.drop (Lib.lastStart l)).toArray⟩ : ByteArray)[0]'hsz).toNat < 128
      · exfalso
        rw [decode_ascii _ 0 hsz hb] at he
        simp only at he
        rw [hat] at hb
        simp only [List.getD_eq_getElem?_getD, List.getElem?_drop, Nat.add_zero] at hb
        rw [List.getD_eq_getElem?_getD, show l.length - 1 = Lib.lastStart l from by omega] at ha
        exact ha hb
      · exact ⟨(decode_high _ 0 hsz (by omega)).1, decode_le _ 0⟩
    · simp [Utf8.runeError]
def strLen : Value → Nat | .string s => s.size | _ => 0

set_option maxHeartbeats 4000000 in
set_option maxRecDepth 100000 in
theorem cutRight_any {R : Ending → World → Prop} (s S : ByteArray) (w : World) (hT : ∀ W, Ext w W → Lib.Utf8Tabs 7 8 W) (hsz : s.size ≤ 1073741824) (hSz : S.size ≤ 1000) (hS : ∀ i, i < S.size → (S.data.toList.getD i 0).toNat < 128)
    (K : ∀ (r : ByteArray) w', (s.size = 0 → r.size = 0) → ((0 < s.size ∧ inSet S.data.toList (s.data.toList.getD 0 0) = false) → 0 < r.size) → Ext w w' → R (.returned (.string r)) w') :
    Calls Tryz.prog 119 #[.string s, .string S] w R := by
  have HL : Hid (s.size = s.data.toList.length) := str_len s
  have HSL : Hid (S.size = S.data.toList.length) := str_len S
  go_enter Tryz.func119, Tryz.ntmps119
  go_wp2
  go_loopw [0] (fun sv wr => ∃ (m : Nat) (r : ByteArray), m ≤ s.size ∧ sv = .string r ∧ r.data.toList = s.data.toList.take m ∧ ((0 < s.size ∧ inSet S.data.toList (s.data.toList.getD 0 0) = false) → 1 ≤ m) ∧ Ext w wr) (fun sv _ => strLen sv)
  case atStart => exact ⟨s.size, s, Nat.le_refl _, rfl, by rw [List.take_of_length_le (by rw [HL.out]; exact Nat.le_refl _)], fun h => h.1, Ext.rfl' w⟩
  case round =>
    obtain ⟨m, r, hm, rfl, hr, hfirst, hx⟩ := hrel
    have hrs : r.size = m := by
      have h1 := str_len r
      have h2 := congrArg List.length hr
      rw [List.length_take] at h2
      have := HL.out
      omega
    by_cases hm0 : m = 0
    · have hd : decide ((r.size : Int) > 0) = false := decide_eq_false (by omega)
      have hd0 : r.size = 0 := by omega
      have fin := K r wr (fun _ => hd0) (fun h => absurd (hfirst h) (by rw [hm0]; decide)) hx
      have hz' : ¬ 0 < r.size := by omega
      have HD : Hid (r.size = 0) := hd0
      clear K hr hfirst hrs hd0 hm0
      go_wp2
      exact fin
    · have hd : decide ((r.size : Int) > 0) = true := decide_eq_true (by omega)
      have hne : r.data.toList ≠ [] := fun e => by
        have h0 : r.data.toList.length = 0 := by rw [e]; rfl
        have := str_len r
        omega
      have hlc := last_cases hne
      rw [← str_len r, hrs] at hlc
      obtain ⟨y, hy⟩ : ∃ y, y = r.data.toList.getD (m - 1) 0 := ⟨_, rfl⟩
      rw [← hy] at hlc
      have hyd : y = s.data.toList.getD (m - 1) 0 := by
        rw [hy, hr, List.getD_eq_getElem?_getD, List.getElem?_take_of_lt (by omega), ← List.getD_eq_getElem?_getD]
      have hdec := fun (R' : Ending → World → Prop) (k : ∀ w', Ext wr w' → R' (.returned (.tuple #[.int .i32 (Lib.decodeLastL r.data.toList).1, .int .i64 (Lib.decodeLastL r.data.toList).2])) w') =>
        (Tryz.utf8_DecodeLastRuneInString r wr (by omega) (hT wr hx)).mono (R' := R') (by rintro e w' ⟨rfl, hb⟩; exact k w' hb)
      obtain ⟨c, hc⟩ : ∃ c, c = (Lib.decodeLastL r.data.toList).1 := ⟨_, rfl⟩
      obtain ⟨n, hn⟩ : ∃ n, n = (Lib.decodeLastL r.data.toList).2 := ⟨_, rfl⟩
      simp only [← hc, ← hn] at hdec
      have hcy : (y.toNat < 128 ∧ c = y.toNat ∧ n = 1) ∨ (128 ≤ y.toNat ∧ 128 ≤ c) := by
        rcases hlc with ⟨a, b⟩ | ⟨a, b, _⟩
        · left; rw [b] at hc hn; exact ⟨a, hc, hn⟩
        · right; exact ⟨a, by omega⟩
      have hcb : c ≤ 2147483647 := by
        rcases hlc with ⟨a, b⟩ | ⟨a, _, b⟩
        · rw [b] at hc; simp only at hc; omega
        · omega
      have hin : anyTo S.data.toList c S.size = inSet S.data.toList y := by
        unfold anyTo inSet
        rw [List.take_of_length_le (by rw [HSL.out]; exact Nat.le_refl _)]
        rcases hcy with ⟨_, e, _⟩ | ⟨e1, e2⟩
        · rw [e]
        · have hno : ∀ n, 128 ≤ n → (S.data.toList.any fun d => d.toNat == n) = false := fun n hn => by
            rw [List.any_eq_false]
            intro y hy
            obtain ⟨k, hk, rfl⟩ := List.getElem_of_mem hy
            have := hS k (by rw [HSL.out]; exact hk)
            rw [List.getD_eq_getElem?_getD, List.getElem?_eq_getElem hk] at this
            simp at this ⊢
            omega
          rw [hno c e2, hno _ e1]
      have hstep : inSet S.data.toList y = true → n = 1 := fun h => by
        rcases hcy with ⟨_, _, e⟩ | ⟨e1, e2⟩
        · exact e
        · exfalso
          unfold inSet at h
          rw [List.any_eq_true] at h
          obtain ⟨z, hz, hzx⟩ := h
          obtain ⟨k, hk, rfl⟩ := List.getElem_of_mem hz
          have := hS k (by rw [HSL.out]; exact hk)
          rw [List.getD_eq_getElem?_getD, List.getElem?_eq_getElem hk] at this
          simp at this hzx
          omega
      have HYD : Hid (y = s.data.toList.getD (m - 1) 0) := hyd
      have HIN : Hid (anyTo S.data.toList c S.size = inSet S.data.toList y) := hin
      have HR : Hid (r.data.toList = s.data.toList.take m) := hr
      have HRS : Hid (r.size = m) := hrs
      have hrp : 0 < r.size := by omega
      have hrl : r.size ≤ 1073741824 := by omega
      clear hne hlc hy hyd hc hn hcy hin hr hrs hd
      have hd : decide ((r.size : Int) > 0) = true := decide_eq_true (by omega)
      go_wp2_with fail
      refine hdec _ ?_
      intro w1 hx1
      have h1x := hx.trans' hx1
      clear hdec hx hx1
      go_wp2_with fail
      obtain ⟨g2, hg2⟩ : ∃ g2, g2 = w1.heap.size := ⟨_, rfl⟩
      have hb2 : (w1.iter S 0).heap[g2]? = some (.stringIter S 0) := by rw [hg2]; exact iter_blk w1 S
      have hx2 : Ext w (w1.iter S 0) := h1x.alloc' _
      have hgw2 : w.heap.size ≤ g2 := by have := h1x.size; omega
      rw [← hg2]
      generalize w1.iter S 0 = W2 at hb2 hx2 ⊢
      clear hg2 h1x
      go_loopw [7] (fun inv wr => ∃ q : Nat, q ≤ S.size ∧ inv = .bool (anyTo S.data.toList c q) ∧ wr.heap[g2]? = some (.stringIter S q) ∧ Ext w wr) (fun _ wr => S.size - wr.iterPos g2)
      case atStart => exact ⟨0, Nat.zero_le _, rfl, hb2, hx2⟩
      case round =>
        obtain ⟨q, hq, rfl, hb, hx⟩ := hrel
        clear hb2 hx2
        have hgl2 : g2 < wr.heap.size := (Array.getElem?_eq_some_iff.1 hb).1
        obtain ⟨a, ha⟩ : ∃ a, a = anyTo S.data.toList c q := ⟨_, rfl⟩
        rw [← ha]
        by_cases hql : q < S.size
        · have hasc : (S[q]'hql).toNat < 128 := by rw [str_at]; exact hS q hql
          have hnx2 := fun ty => nextA wr g2 S q ty hb hql
          rw [decode_ascii S q hql hasc, str_at] at hnx2
          obtain ⟨z, hz⟩ : ∃ z, z = (S.data.toList.getD q 0).toNat := ⟨_, rfl⟩
          have hzl : z < 128 := by rw [hz, ← str_at S q hql]; exact hasc
          simp only [← hz] at hnx2
          have hnext : Hid (anyTo S.data.toList c (q + 1) = (a || decide (c = z))) := (by
            rw [anyTo_succ (by rw [← HSL.out]; exact hql), ← ha, ← hz]
            congr 1
            by_cases e : c = z
            · subst e; simp
            · rw [decide_eq_false e]; simp; omega : anyTo S.data.toList c (q + 1) = (a || decide (c = z)))
          have k1 := itSet_same (s := S) (p := q + 1) hgl2
          have k3 := itSet_ext (s := S) (p := q + 1) hx hgw2
          have KP : Hid (wr.iterPos g2 = q) := iterPos_of hb
          have KP2 : Hid ((itSet wr g2 S (q + 1)).iterPos g2 = q + 1) := iterPos_of k1
          generalize itSet wr g2 S (q + 1) = W3 at hnx2 k1 k3 KP2
          have hcy : ((c : Int) == (z : Int)) = decide (c = z) := by
            by_cases e : c = z
            · subst e; simp
            · rw [decide_eq_false e]; simp; omega
          clear ha hz hasc hb hx
          cases a
          · go_wp2
            go_roundw
            case rel => exact ⟨q + 1, hql, by rw [hnext.out]; rfl, k1, k3⟩
            case measure => rw [KP.out, KP2.out]; omega
          · go_wp2
            go_roundw
            case rel => exact ⟨q + 1, hql, by rw [hnext.out]; rfl, k1, k3⟩
            case measure => rw [KP.out, KP2.out]; omega
        · have hqe : q = S.size := by omega
          have hnx2 := fun ty => nextE wr g2 S q ty hb hql
          have ha2 : a = inSet S.data.toList y := by rw [ha, hqe]; exact HIN.out
          clear ha
          cases hsx : inSet S.data.toList y with
          | true =>
            have hd1 := hstep hsx
            rw [hsx] at ha2
            subst ha2
            subst hd1
            obtain ⟨r2, hr2⟩ : ∃ r2, r2 = r.extract 0 (r.size - 1) := ⟨_, rfl⟩
            have hrd : r2.data.toList = s.data.toList.take (m - 1) := by
              rw [hr2, Lib.extract_from_zero, HR.out, List.take_take, HRS.out]
              congr 1
              omega
            have hr2s : r2.size = r.size - 1 := by rw [hr2, ByteArray.size_extract]; omega
            have hfirst2 : (0 < s.size ∧ inSet S.data.toList (s.data.toList.getD 0 0) = false) → 1 ≤ m - 1 := fun h => by
              have h1 := hfirst h
              by_cases e : m = 1
              · exfalso
                have := HYD.out
                rw [e] at this
                rw [this] at hsx
                rw [h.2] at hsx
                exact absurd hsx (by decide)
              · omega
            have e1 : ((r.size : Int) - 1) = ((r.size - 1 : Nat) : Int) := by omega
            have wr1 : IntKind.i64.wrap ((r.size : Int) - 1) = ((r.size - 1 : Nat) : Int) := by rw [wrapI_in _ (by omega) (by omega)]; omega
            have e2 : ((r.size : Int) - 1).toNat = r.size - 1 := by omega
            have e3 : (0 : Int) ≤ (r.size : Int) - 1 := by omega
            have e4 : (r.size : Int) - 1 ≤ r.size := by omega
            have HR2 : Hid (r.extract 0 (r.size - 1) = r2) := hr2.symm
            clear hsx K hb hstep hfirst hr2 e1 wr1
            have hmm : m - 1 ≤ s.size := by omega
            go_wp2
            go_roundw
            case rel => exact ⟨m - 1, r2, hmm, by rw [← HR2.out], hrd, hfirst2, hx⟩
            case measure => simp only [strLen]; first | omega | (rw [HR2.out, hr2s]; omega)
          | false =>
            rw [hsx] at ha2
            subst ha2
            have fin := K r wr (fun h => by have := HRS.out; omega) (fun _ => hrp) hx
            clear K hsx hb hx hstep hfirst
            go_wp2
            exact fin
end Go.Proofs.YtjngofngjbjpbaaGreatDoor
end

section
set_option linter.unusedSimpArgs false
set_option linter.unusedVariables false
namespace Go.Proofs.YtjngofngjbjpbaaGreatDoor
open Go.RowKit

theorem nonempty_facts {r : ByteArray} (h : 0 < r.size) : r.toList.isEmpty = false ∧ ¬ r.toList = [] := by
  have h1 := str_len r
  have h2 : ¬ r.toList = [] := by
    rw [ByteArray.toList_eq]
    intro e
    rw [e] at h1
    rw [h1] at h
    exact absurd h (by decide)
  refine ⟨?_, h2⟩
  cases he : r.toList with
  | nil => exact absurd he h2
  | cons x xs => rfl
theorem empty_of {r : ByteArray} (h : r.size = 0) : r = ⟨#[]⟩ := ByteArray.ext (Array.eq_empty_of_size_eq_zero h)

set_option maxHeartbeats 2000000 in
set_option maxRecDepth 100000 in
theorem digits51_any {R : Ending → World → Prop} (s S : ByteArray) (p : UInt8 → Bool) (w : World) (hT : ∀ W, Ext w W → Lib.Utf8Tabs 7 8 W) (hsz : s.size ≤ 1073741824) (hSz : S.size ≤ 1000) (hS : ∀ i, i < S.size → (S.data.toList.getD i 0).toNat < 128)
    (hp : ∀ b, inSet S.data.toList b = p b)
    (K : ∀ w', Ext w w' → R (.returned (.bool (digsOk p s.data.toList))) w') :
    Calls Tryz.prog 51 #[.string s, .string S] w R := by
  have hlen := str_len s
  by_cases h0 : s.size = 0
  · have hs := empty_of h0
    subst hs
    have fin : R (.returned (.bool false)) w := K w (Ext.rfl' w)
    clear K hlen
    go_enter Tryz.func51, Tryz.ntmps51
    go_wp2
    exact fin
  · obtain ⟨hE, hE2⟩ := nonempty_facts (r := s) (by omega)
    obtain ⟨x0, hx0⟩ : ∃ x0, x0 = s.data.toList.getD 0 0 := ⟨_, rfl⟩
    have hat0 : ∀ h, ((s[0]'h).toNat : Int) = (x0.toNat : Int) := fun h => by rw [str_at, hx0]
    have hhead : s.data.toList.head? = some x0 := by
      rw [hx0]
      cases hd : s.data.toList with
      | nil => rw [hd] at hlen; exact absurd hlen h0
      | cons x xs => rfl
    have hval : digsOk p s.data.toList = (s.data.toList.all p && ((x0.toNat != 48) || decide (s.toList = [48]))) := by
      unfold digsOk
      rw [hhead]
      have e1 : (!s.data.toList.isEmpty) = true := by
        rw [← ByteArray.toList_eq, hE]; rfl
      have e2 : (some x0 != some (48 : UInt8)) = (x0.toNat != 48) := by
        by_cases e : x0 = 48
        · subst e; rfl
        · have : x0.toNat ≠ 48 := fun h => e (UInt8.toNat_inj.1 h)
          rw [show (some x0 != some (48 : UInt8)) = true from by simpa using e, show (x0.toNat != 48) = true from by simpa using this]
      have e3 : (s.data.toList == [48]) = decide (s.toList = [48]) := by
        rw [ByteArray.toList_eq]
        by_cases e : s.data.toList = [48]
        · rw [e]; rfl
        · rw [decide_eq_false e]; simpa using e
      rw [e1, e2, e3, Bool.true_and]
    rw [hval] at K
    have hpos : 0 < s.size := by omega
    have hall : (∀ b, b ∈ s.data.toList → inSet S.data.toList b = true) ↔ s.data.toList.all p = true := by
      rw [List.all_eq_true]
      constructor
      · intro h b hb; rw [← hp]; exact h b hb
      · intro h b hb; rw [hp]; exact h b hb
    have HX : Hid (x0 = s.data.toList.getD 0 0) := hx0
    clear hval hlen hhead hx0
    go_enter Tryz.func51, Tryz.ntmps51
    go_wp2_with fail
    refine cutLeft_any s S w hsz hSz hS ?_
    intro r w1 hr hrs hx1
    go_wp2_with fail
    refine cutRight_any r S w1 (fun W hW => hT W (hx1.trans' hW)) (by omega) hSz hS ?_
    intro r2 w2 hz hnz hx2
    have hxw := hx1.trans' hx2
    have fin := K w2 hxw
    clear K hx1 hx2 hxw hT
    rcases hr with ⟨h1, h2⟩ | ⟨h1, b, t, h2, h3⟩
    · have hr2 := empty_of (hz (by rw [h2]; rfl))
      subst hr2
      rw [hall.1 h1, Bool.true_and] at fin
      obtain ⟨y, hy⟩ : ∃ y, y = x0.toNat := ⟨_, rfl⟩
      rw [← hy] at fin hat0
      have hyl : y < 256 := by rw [hy]; exact x0.toNat_lt
      clear hz hnz h1 h2 hall hp hS hy
      by_cases hy48 : y = 48
      · have k1 : ((y : Int) != 48) = false := by rw [hy48]; rfl
        have e1 : (y != 48) = false := by rw [hy48]; rfl
        rw [e1, Bool.false_or] at fin
        clear e1 hy48
        by_cases hs0 : s.toList = [48]
        · rw [decide_eq_true hs0] at fin
          go_wp2
          exact fin
        · rw [decide_eq_false hs0] at fin
          have hs1 : (s.toList == [48]) = false := by simpa using hs0
          go_wp2
          exact fin
      · have k1 : ((y : Int) != 48) = true := by simp; omega
        have e1 : (y != 48) = true := by simp [hy48]
        rw [e1, Bool.true_or] at fin
        clear e1
        go_wp2
        exact fin
    · have hlr := str_len r
      have hrpos : 0 < r2.size := hnz ⟨by rw [hlr, h2]; simp, by rw [h2]; exact h3⟩
      obtain ⟨g1, g2⟩ := nonempty_facts hrpos
      have e1 : s.data.toList.all p = false := by
        cases e : s.data.toList.all p with
        | false => rfl
        | true => exact absurd (hall.2 e) h1
      rw [e1, Bool.false_and] at fin
      clear hz hnz h1 h2 h3 hall hp hS hlr e1
      go_wp2
      exact fin
end Go.Proofs.YtjngofngjbjpbaaGreatDoor
end

section
set_option linter.unusedSimpArgs false
set_option linter.unusedVariables false
namespace Go.Proofs.YtjngofngjbjpbaaGreatDoor
open Go.RowKit

/-- a slice of strings, somewhere in a row -/
def IsRest (w : World) (A : Option Addr) (m c : Nat) (ws : List ByteArray) : Prop :=
  m = ws.length ∧ m ≤ c ∧ (0 < m → ∃ g o, A = some ⟨g, o, none⟩ ∧ tyAt w g = some 9 ∧ ∀ i x, ws[i]? = some x → w.cell? ⟨g, o + i, none⟩ = some (.string x))
theorem tyAt_lt {w : World} {g : Nat} {t : TypeId} (h : tyAt w g = some t) : g < w.heap.size := by
  unfold tyAt at h
  split at h
  · rename_i e; exact (Array.getElem?_eq_some_iff.1 e).1
  · cases h
theorem IsRest.ext {w w' : World} {A : Option Addr} {m c : Nat} {ws : List ByteArray} (h : IsRest w A m c ws) (hx : Ext w w') : IsRest w' A m c ws := by
  obtain ⟨h1, h2, h3⟩ := h
  refine ⟨h1, h2, fun h0 => ?_⟩
  obtain ⟨g, o, hA, ht, hc⟩ := h3 h0
  have hl := tyAt_lt ht
  exact ⟨g, o, hA, by rw [tyAt_ext hx hl]; exact ht, fun i x hi => (hx.cell (p := ⟨g, o + i, none⟩) hl).trans (hc i x hi)⟩
theorem IsRest.setC {w : World} {A : Option Addr} {m c : Nat} {ws : List ByteArray} (h : IsRest w A m c ws) {p : Nat} (hp : tyAt w p ≠ some 9) (i : Nat) (v : Value) : IsRest (w.setCell ⟨p, i, none⟩ v) A m c ws := by
  obtain ⟨h1, h2, h3⟩ := h
  refine ⟨h1, h2, fun h0 => ?_⟩
  obtain ⟨g, o, hA, ht, hc⟩ := h3 h0
  refine ⟨g, o, hA, by rw [tyAt_setCell]; exact ht, fun i x hi => ?_⟩
  rw [World.cell?_setCell_far _ _ _ _ (show p ≠ g from fun e => hp (by rw [e]; exact ht))]
  exact hc i x hi
theorem grown_setC {w : World} (p i : Nat) (v : Value) : w.grownBy (w.setCell ⟨p, i, none⟩ v) (some p) :=
  grown_set (World.grownBy.refl w (some p)) i v

set_option maxHeartbeats 2000000 in
set_option maxRecDepth 100000 in
theorem take54_any {R : Ending → World → Prop} (wd : ByteArray) (p m c : Nat) (A : Option Addr) (ws : List ByteArray) (w : World) (hp : w.heap[p]? = some (.cells #[.slice A m c] 102 (0, 0))) (hr : IsRest w A m c ws) (hm : m ≤ 1099511627776)
    (K : ∀ (b : Bool) (A' : Option Addr) (m' c' : Nat) (ws' : List ByteArray) (w' : World), (b, ws'.map (fun x => x.data.toList)) = takeW wd.data.toList (ws.map fun x => x.data.toList) → ws'.length ≤ ws.length → w'.heap[p]? = some (.cells #[.slice A' m' c'] 102 (0, 0)) → IsRest w' A' m' c' ws' → w.grownBy w' (some p) → R (.returned (.bool b)) w') :
    Calls Tryz.prog 54 #[.string wd, .pointer (some ⟨p, 0, none⟩)] w R := by
  have q0 : w.cell? ⟨p, 0, none⟩ = some (.slice A m c) := cell_of_blk hp 0
  have z0 := frozen_of_blk hp 0
  obtain ⟨h1, h2, h3⟩ := hr
  cases ws with
  | nil =>
    have hm0 : m = 0 := h1
    subst hm0
    have fin := K false A 0 c [] w (by unfold takeW; simp) (Nat.le_refl _) hp ⟨rfl, h2, h3⟩ (World.grownBy.refl _ _)
    clear K h3 hp h1 h2 hm
    go_enter Tryz.func54, Tryz.ntmps54
    go_wp2
    exact fin
  | cons y r =>
    have hm1 : m = r.length + 1 := h1
    obtain ⟨g, o, rfl, ht, hc⟩ := h3 (by omega)
    have hc0 : w.cell? ⟨g, o, none⟩ = some (.string y) := hc 0 y rfl
    have hd : decide ((m : Int) > 0) = true := decide_eq_true (by omega)
    have hmp : 0 < m := by omega
    have htp : tyAt w p = some 102 := tyAt_of_blk hp
    by_cases hy : y.toList = wd.toList
    · have hy' : y.data.toList = wd.data.toList := by rw [← ByteArray.toList_eq, ← ByteArray.toList_eq]; exact hy
      have hyb : (y.toList == wd.toList) = true := by simpa using hy
      have hne9 : tyAt w p ≠ some 9 := by rw [htp]; decide
      have hbl : ∀ v, (w.setCell ⟨p, 0, none⟩ v).heap[p]? = some (.cells #[v] 102 (0, 0)) := fun v => blk_setCell hp 0 v
      have htk : ((true, r.map (fun x => x.data.toList)) : Bool × List (List UInt8)) = takeW wd.data.toList ((y :: r).map fun x => x.data.toList) := by unfold takeW; simp [hy']
      by_cases hc1 : c = 1
      · have hr0 : r = [] := by
          cases r with
          | nil => rfl
          | cons a b => simp at hm1; omega
        have fin := K true (some ⟨g, o, none⟩) 0 0 r _ htk (by simp) (hbl _) (IsRest.setC (w := w) ⟨by rw [hr0]; rfl, Nat.le_refl _, fun h => absurd h (by omega)⟩ hne9 0 (.slice (some ⟨g, o, none⟩) 0 0)) (grown_setC p 0 _)
        have HM : Hid (m = r.length + 1) := hm1
        clear K h3 hp hc hm1 h1 hy hy' htk hbl hr0
        subst hc1
        go_enter Tryz.func54, Tryz.ntmps54
        go_wp2
        exact fin
      · have hrest : IsRest w (some ⟨g, o + 1, none⟩) (m - 1) (c - 1) r := ⟨by omega, by omega, fun _ => ⟨g, o + 1, rfl, ht, fun i x hi => by
          have := hc (i + 1) x (by simpa using hi)
          rw [show o + 1 + i = o + (i + 1) from by omega]
          exact this⟩⟩
        have fin := K true (some ⟨g, o + 1, none⟩) (m - 1) (c - 1) r _ htk (by simp) (hbl _) (hrest.setC hne9 0 (.slice (some ⟨g, o + 1, none⟩) (m - 1) (c - 1))) (grown_setC p 0 _)
        have HM : Hid (m = r.length + 1) := hm1
        clear K h3 hp hc hm1 h1 hy hy' htk hbl hrest
        go_enter Tryz.func54, Tryz.ntmps54
        go_wp2
        exact fin
    · have hy' : ¬ y.data.toList = wd.data.toList := by rw [← ByteArray.toList_eq, ← ByteArray.toList_eq]; exact hy
      have fin := K false _ m c (y :: r) w (by unfold takeW; simp [hy']) (Nat.le_refl _) hp ⟨h1, h2, fun _ => ⟨g, o, rfl, ht, hc⟩⟩ (World.grownBy.refl _ _)
      have HM : Hid (m = r.length + 1) := hm1
      clear K h3 hp hc hm1 h1
      go_enter Tryz.func54, Tryz.ntmps54
      have hyb : (y.toList == wd.toList) = false := by simpa using hy
      clear hy hy'
      go_wp2
      exact fin
end Go.Proofs.YtjngofngjbjpbaaGreatDoor
end
