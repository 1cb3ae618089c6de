/- exact.Parse. -/
import Derived.Test.YtjngofngjbjpbaaGreatDoorJa28
import Derived.Test.YtjngofngjbjpbaaGreatDoorJa27
import Derived.Test.YtjngofngjbjpbaaGreatDoorJa15

section
set_option linter.unusedSimpArgs false
set_option linter.unusedVariables false
namespace Go.Proofs.YtjngofngjbjpbaaGreatDoor
open Go.RowKit

theorem inDec : ∀ b, inSet (⟨#[48, 49, 50, 51, 52, 53, 54, 55, 56, 57]⟩ : ByteArray).data.toList b = isDec b :=
  byteAll (p := fun b => inSet (⟨#[48, 49, 50, 51, 52, 53, 54, 55, 56, 57]⟩ : ByteArray).data.toList b = isDec b) (by decide +kernel)
theorem inHex : ∀ b, inSet (⟨#[48, 49, 50, 51, 52, 53, 54, 55, 56, 57, 97, 98, 99, 100, 101, 102]⟩ : ByteArray).data.toList b = isHex b :=
  byteAll (p := fun b => inSet (⟨#[48, 49, 50, 51, 52, 53, 54, 55, 56, 57, 97, 98, 99, 100, 101, 102]⟩ : ByteArray).data.toList b = isHex b) (by decide +kernel)
theorem decAsc : ∀ i, i < (⟨#[48, 49, 50, 51, 52, 53, 54, 55, 56, 57]⟩ : ByteArray).size → ((⟨#[48, 49, 50, 51, 52, 53, 54, 55, 56, 57]⟩ : ByteArray).data.toList.getD i 0).toNat < 128 := by
  have : ∀ i : Fin 10, ((⟨#[48, 49, 50, 51, 52, 53, 54, 55, 56, 57]⟩ : ByteArray).data.toList.getD i.val 0).toNat < 128 := by decide +kernel
  exact fun i hi => this ⟨i, hi⟩
theorem hexAsc : ∀ i, i < (⟨#[48, 49, 50, 51, 52, 53, 54, 55, 56, 57, 97, 98, 99, 100, 101, 102]⟩ : ByteArray).size → ((⟨#[48, 49, 50, 51, 52, 53, 54, 55, 56, 57, 97, 98, 99, 100, 101, 102]⟩ : ByteArray).data.toList.getD i 0).toNat < 128 := by
  have : ∀ i : Fin 16, ((⟨#[48, 49, 50, 51, 52, 53, 54, 55, 56, 57, 97, 98, 99, 100, 101, 102]⟩ : ByteArray).data.toList.getD i.val 0).toNat < 128 := by decide +kernel
  exact fun i hi => this ⟨i, hi⟩

theorem parts_is {f la : List UInt8} {ws : List (List UInt8)} (h1 : digsOk isHex (noNeg f) = true) (h2 : digsOk isDec la = true) (h3 : decV la < 18446744073709551616) (h4 : f ≠ [45, 48]) {a b c d : Bool} {r : List (List UInt8)} (hm : marks ws = ((a, b, c, d), r)) :
    parseParts f la ws = if r = [] ∧ (d = true → hexV (noNeg f) = 0 ∧ a = false ∧ b = false ∧ c = false) then
        (if decV la = 0 ∧ (hexV (noNeg f) ≠ 0 ∨ a = true ∨ b = true ∨ c = true ∨ d = true) then none
         else some ⟨sg (hasNeg f) (hexV (noNeg f)), a, b, c, decide (0 < decV la) && !d, decV la⟩) else none := by
  unfold parseParts
  rw [if_pos ⟨h1, h2, h3, h4⟩, marks_is, hm]
  simp only [decide_eq_true_eq]
  by_cases h : r = [] ∧ (d = true → hexV (noNeg f) = 0 ∧ a = false ∧ b = false ∧ c = false)
  · rw [if_pos h, if_pos h]
  · rw [if_neg h, if_neg h]

set_option maxHeartbeats 4000000 in
set_option maxRecDepth 100000 in
theorem parseE_any {R : Ending → World → Prop} (t : ByteArray) (w : World) (hL : LaidW w) (hsz : t.size ≤ 268435456)
    (Kt : ∀ s, parseL (wordsL t.data.toList) = some s → ∀ g w', w.heap.size ≤ g → IsSum w' g (t.size + 40) s → Ext w w' → R (.returned (.tuple #[.pointer (some ⟨g, 0, none⟩), .int .i64 0])) w')
    (Kf : parseL (wordsL t.data.toList) = none → ∀ w', Ext w w' → R (.returned (.tuple #[.pointer none, .int .i64 90])) w') :
    Calls Tryz.prog 13 #[.string t] w R := by
  go_enter Tryz.func13, Tryz.ntmps13
  go_wp2_with fail
  refine split_any t _ (by omega) hL.mx ?_
  intro xs w1 hbk hws hx1
  obtain ⟨g, hg⟩ : ∃ g, g = w.heap.size := ⟨_, rfl⟩
  rw [← hg] at hbk ⊢
  have hgw : w.heap.size ≤ g := by omega
  clear hg
  have hpos : 0 < xs.length := by
    cases xs with
    | nil => exact absurd hws.symm (wordsL_ne _)
    | cons _ _ => simp
  have hlen : xs.length ≤ t.size + 1 := by
    have h1 := congrArg List.length hws
    rw [List.length_map] at h1
    have := wordsL_count t.data.toList
    have := str_len t
    omega
  have hwle : ∀ x, x ∈ xs → x.size ≤ t.size := fun x hx => by
    have h1 := wordsL_le t.data.toList x.data.toList (by rw [← hws]; exact List.mem_map_of_mem hx)
    rw [str_len x, str_len t]
    exact h1
  by_cases h2 : xs.length < 2
  · have efin := Kf (by
      unfold parseL
      rw [if_pos (by rw [← hws, List.length_map]; exact h2)]) w1 hx1
    have hd : decide ((xs.length : Int) < 2) = true := decide_eq_true (by omega)
    clear Kf Kt hws hwle hbk
    go_wp2_with fail
    exact efin
  · obtain ⟨f, mid, la, hxs⟩ := ends_form (xs := xs) (by omega)
    have hfs : f.size ≤ t.size := hwle f (by rw [hxs]; simp)
    have hls : la.size ≤ t.size := hwle la (by rw [hxs]; simp)
    have hxl : xs.length = mid.length + 2 := by rw [hxs]; simp
    have hform : parseL (wordsL t.data.toList) = parseParts f.data.toList la.data.toList (mid.map fun x => x.data.toList) := by
      rw [← hws, hxs, List.map_cons, List.map_append]
      exact parseL_form f.data.toList la.data.toList (mid.map fun x => x.data.toList)
    rw [hform] at Kt Kf
    obtain ⟨L, hLm⟩ : ∃ L, L = mid.length := ⟨_, rfl⟩
    have hN : xs.length = L + 2 := by omega
    have hrw : ∀ i x, xs[i]? = some x → w1.cell? ⟨g, i, none⟩ = some (.string x) := fun i x hi => by rw [cell_of_blk hbk]; simp [hi]
    have c0 : w1.cell? ⟨g, 0, none⟩ = some (.string f) := hrw 0 f (by rw [hxs]; rfl)
    have cN : w1.cell? ⟨g, L + 1, none⟩ = some (.string la) := hrw _ la (by rw [hxs, hLm]; simp)
    have hmid : ∀ i x, mid[i]? = some x → w1.cell? ⟨g, 1 + i, none⟩ = some (.string x) := fun i x hi => hrw _ x (by
      rw [hxs, Nat.add_comm, List.getElem?_cons_succ, List.getElem?_append_left (List.getElem?_eq_some_iff.1 hi).1]
      exact hi)
    have hty : tyAt w1 g = some 9 := tyAt_of_blk hbk
    rw [hN] at hlen h2 ⊢
    have HLM : Hid (L = mid.length) := hLm
    clear hform hws hwle hrw hbk hN hxl hpos hxs hLm
    have hd2 : decide (((L + 2 : Nat) : Int) < 2) = false := decide_eq_false (by omega)
    go_upto_region 4 with fail
    go_quiet (fail)
    have hx2 : Ext w (w1.drewN nq) := below_draws hx1 nq
    replace hty : tyAt (w1.drewN nq) g = some 9 := hty
    replace hmid : ∀ i x, mid[i]? = some x → (w1.drewN nq).cell? ⟨g, 1 + i, none⟩ = some (.string x) := hmid
    generalize w1.drewN nq = W at hx2 hty hmid ⊢
    clear c0 cN hx1
    go_wp2_with fail
    refine puint_any la W (hL.ext hx2) (by omega) ?_ ?_
    rotate_left
    · intro v N w3 hno hx3
      have hx03 := hx2.trans' hx3
      have efin := Kf (by unfold parseParts; rw [if_neg (fun ⟨_, a, b, _⟩ => hno _ ((parseUint_spec la.data.toList _).2 ⟨(digsOk_spec a).1, (digsOk_spec a).2.1, b, rfl⟩))]) w3 hx03
      clear Kf Kt hno hmid
      go_wp2_with fail
      exact efin
    · intro u w3 hok hx3
      obtain ⟨_, _, hu64, hud⟩ := (parseUint_spec la.data.toList u).1 hok
      have HUD : Hid (u = decV la.data.toList) := hud
      clear hud
      have hx03 := hx2.trans' hx3
      clear hok
      go_wp2_with fail
      refine digits51_any la _ isDec w3 (fun V hV => (hL.ext (hx03.trans' hV)).utf) (by omega) (by decide) decAsc inDec ?_
      intro w4 hx4
      have hx04 := hx03.trans' hx4
      cases hdd : digsOk isDec la.data.toList with
      | false =>
        have efin := Kf (by unfold parseParts; rw [if_neg (fun ⟨_, a, _⟩ => by rw [hdd] at a; exact absurd a (by decide))]) w4 hx04
        clear Kf Kt hmid
        go_wp2_with fail
        exact efin
      | true =>
        obtain ⟨tn1, tn2⟩ := trim_neg f.data.toList
        have htrim : ∀ V, Calls Tryz.prog 52 #[.string f, .string ⟨#[45]⟩] V fun e w' => e = .returned (.string ⟨(noNeg f.data.toList).toArray⟩) ∧ w' = V := fun V => by
          refine (Tryz.strings_TrimPrefix f ⟨#[45]⟩ V).mono ?_
          rintro e w' ⟨rfl, rfl⟩
          exact ⟨by rw [show (⟨#[45]⟩ : ByteArray).data.toList = [45] from rfl, tn1], rfl⟩
        have hf1s : (⟨(noNeg f.data.toList).toArray⟩ : ByteArray).size ≤ 1073741824 := by
          rw [size_list]
          have h1 := str_len f
          unfold noNeg
          split
          · rw [List.length_tail]; omega
          · omega
        have hdig := fun (V : World) (hV : Ext w V) (R' : Ending → World → Prop) K' => digits51_any (R := R') (⟨(noNeg f.data.toList).toArray⟩ : ByteArray) ⟨#[48, 49, 50, 51, 52, 53, 54, 55, 56, 57, 97, 98, 99, 100, 101, 102]⟩ isHex V (fun V' hV' => (hL.ext (hV.trans' hV')).utf) hf1s (by decide) hexAsc inHex K'
        rw [show (⟨(noNeg f.data.toList).toArray⟩ : ByteArray).data.toList = noNeg f.data.toList from rfl] at hdig
        generalize (⟨(noNeg f.data.toList).toArray⟩ : ByteArray) = f1 at htrim hdig
        clear hf1s
        go_wp2_with (go_at_call 52; with_reducible refine (htrim _).mono ?_; rintro e w9 ⟨rfl, rfl⟩)
        refine hdig _ hx04 _ ?_
        intro w5 hx5
        have hx05 := hx04.trans' hx5
        clear hdig htrim
        cases hhh : digsOk isHex (noNeg f.data.toList) with
        | false =>
          have efin := Kf (by unfold parseParts; rw [if_neg (fun ⟨a, _⟩ => by rw [hhh] at a; exact absurd a (by decide))]) w5 hx05
          clear Kf Kt hmid
          go_wp2_with fail
          exact efin
        | true =>
          by_cases hz0 : f.data.toList = [45, 48]
          · have hz1 : (f.toList == [45, 48]) = true := by rw [ByteArray.toList_eq, hz0]; rfl
            have efin := Kf (by unfold parseParts; rw [if_neg (fun ⟨_, _, _, a⟩ => a hz0)]) w5 hx05
            clear Kf Kt hmid hz0
            go_wp2_with fail
            exact efin
          · have hz1 : (f.toList == [45, 48]) = false := by rw [ByteArray.toList_eq]; simpa using hz0
            obtain ⟨ng, hng⟩ : ∃ ng, ng = hasNeg f.data.toList := ⟨_, rfl⟩
            obtain ⟨DD, hDD⟩ : ∃ DD, DD = noNeg f.data.toList := ⟨_, rfl⟩
            have hpi := fun a b c d r hm => parts_is (f := f.data.toList) (la := la.data.toList) (ws := mid.map fun x => x.data.toList) hhh hdd hu64 hz0 (a := a) (b := b) (c := c) (d := d) (r := r) hm
            rw [← HUD.out, ← hng, ← hDD] at hpi
            have hDl : DD.length ≤ f.size := by
              have h1 := str_len f
              rw [hDD]
              unfold noNeg
              split
              · rw [List.length_tail]; omega
              · omega
            have hul : u < 18446744073709551616 := by rw [HUD.out]; exact hu64
            have hpw53 := fun (V : World) (R' : Ending → World → Prop) K' => parseW_any (R := R') f ng DD V (by rw [tn1, hDD]) (by rw [tn2, hng]) (by omega) (fun b hb => by rw [hDD] at hb; exact (digsOk_spec hhh).2.1 b hb) K'
            have hVV : hexV DD = valB 16 (dg DD) DD.length := rfl
            rw [← hVV] at hpw53
            obtain ⟨mag, hmag⟩ : ∃ mag, mag = hexV DD := ⟨_, rfl⟩
            rw [← hmag] at hpi hpw53
            obtain ⟨z, hz⟩ : ∃ z, z = sg ng mag := ⟨_, rfl⟩
            rw [← hz] at hpi hpw53
            have hzm : z = 0 ↔ mag = 0 := by
              rw [hz]
              cases ng <;> simp [sg]
            have hw5 : W.heap.size ≤ w5.heap.size := Nat.le_trans hx3.size (Nat.le_trans hx4.size hx5.size)
            have hgl : g < W.heap.size := tyAt_lt hty
            have hxW5 : Ext W w5 := hx3.trans' (hx4.trans' hx5)
            clear hng hDD hmag hz hVV tn1 tn2 hhh hdd HUD hu64 hls
            go_wp2_with fail
            refine hpw53 _ _ ?_
            intro neg7 A7 m7 c7 w7 hi7 hx7
            clear hpw53
            have bs7 := (hx7.block w5.heap.size (by simp)).trans (blk_1_1 w5 _)
            obtain ⟨gs, hgs⟩ : ∃ gs, gs = w5.heap.size := ⟨_, rfl⟩
            rw [← hgs] at bs7 ⊢
            have hgsw : w.heap.size ≤ gs := by have := hx05.size; omega
            have q0 : w7.cell? ⟨gs, 0, none⟩ = some (.bool false) := cell_of_blk bs7 0
            have q1 : w7.cell? ⟨gs, 1, none⟩ = some (.slice none 0 0) := cell_of_blk bs7 1
            have qz := fun i => frozen_of_blk bs7 i
            have hx07 : Ext w w7 := (hx05.alloc' _).trans' hx7
            have hxW7 : Ext W w7 := (hxW5.alloc' _).trans' hx7
            have bs8 := blk_setCell (blk_setCell bs7 0 (.bool neg7)) 1 (.slice A7 m7 c7)
            have hi8 := (hi7.setC (tyAt_of_blk bs7) 0 (.bool neg7)).setC (by rw [tyAt_setCell]; exact tyAt_of_blk bs7) 1 (.slice A7 m7 c7)
            have hgsW : W.heap.size ≤ gs := by omega
            have hx08 : Ext w ((w7.setCell ⟨gs, 0, none⟩ (.bool neg7)).setCell ⟨gs, 1, none⟩ (.slice A7 m7 c7)) := (hx07.setCell (p := ⟨gs, 0, none⟩) hgsw _).setCell (p := ⟨gs, 1, none⟩) hgsw _
            have hxW8 : Ext W ((w7.setCell ⟨gs, 0, none⟩ (.bool neg7)).setCell ⟨gs, 1, none⟩ (.slice A7 m7 c7)) := (hxW7.setCell (p := ⟨gs, 0, none⟩) hgsW _).setCell (p := ⟨gs, 1, none⟩) hgsW _
            have wl1 : wrap64 ((L : Int) + 2 - 1) = (L : Int) + 1 := by rw [wrap_in _ (by omega) (by omega)]; omega
            have wl2 : IntKind.i64.wrap ((L : Int) + 2 - 1) = (L : Int) + 1 := by rw [wrapI_in _ (by omega) (by omega)]; omega
            have wl3 : ((L : Int) + 1).toNat = L + 1 := by omega
            have wl4 : (0 : Int) ≤ (L : Int) + 1 := by omega
            have wl5 : (L : Int) + 1 ≤ (L : Int) + 2 := by omega
            have wl6 : (1 : Int) ≤ (L : Int) + 1 := by omega
            have wl7 : max ((L : Int) + 1) 0 = (L : Int) + 1 := by omega
            have hlenDD : DD.length ≤ t.size := by omega
            clear hgs hx7 hi7
            go_upto_region 12 with fail
            have hs8 : ((w7.setCell ⟨gs, 0, none⟩ (.bool neg7)).setCell ⟨gs, 1, none⟩ (.slice A7 m7 c7)).heap.size = w7.heap.size := by simp [World.setCell]
            have hgs7 : gs < w7.heap.size := (Array.getElem?_eq_some_iff.1 bs7).1
            have bs9 := (Below.heap_alloc ((w7.setCell ⟨gs, 0, none⟩ (.bool neg7)).setCell ⟨gs, 1, none⟩ (.slice A7 m7 c7)) (.cells #[.slice (some ⟨g, 1, none⟩) L (L + 1)] 102) gs (by omega)).trans bs8
            have bp9 := heap_alloc_new ((w7.setCell ⟨gs, 0, none⟩ (.bool neg7)).setCell ⟨gs, 1, none⟩ (.slice A7 m7 c7)) (.cells #[.slice (some ⟨g, 1, none⟩) L (L + 1)] 102)
            rw [hs8] at bp9
            have hi9 := hi8.ext ((Ext.rfl' ((w7.setCell ⟨gs, 0, none⟩ (.bool neg7)).setCell ⟨gs, 1, none⟩ (.slice A7 m7 c7))).alloc' (.cells #[.slice (some ⟨g, 1, none⟩) L (L + 1)] 102))
            have hx9 : Ext w (((w7.setCell ⟨gs, 0, none⟩ (.bool neg7)).setCell ⟨gs, 1, none⟩ (.slice A7 m7 c7)).alloc (.cells #[.slice (some ⟨g, 1, none⟩) L (L + 1)] 102)) := hx08.alloc' _
            have hxW9 : Ext W (((w7.setCell ⟨gs, 0, none⟩ (.bool neg7)).setCell ⟨gs, 1, none⟩ (.slice A7 m7 c7)).alloc (.cells #[.slice (some ⟨g, 1, none⟩) L (L + 1)] 102)) := hxW8.alloc' _
            have hr9 : IsRest (((w7.setCell ⟨gs, 0, none⟩ (.bool neg7)).setCell ⟨gs, 1, none⟩ (.slice A7 m7 c7)).alloc (.cells #[.slice (some ⟨g, 1, none⟩) L (L + 1)] 102)) (some ⟨g, 1, none⟩) L (L + 1) mid := ⟨HLM.out, by omega, fun _ => ⟨g, 1, rfl, by rw [tyAt_ext hxW9 hgl]; exact hty, fun i x hi => (hxW9.cell (p := ⟨g, 1 + i, none⟩) hgl).trans (hmid i x hi)⟩⟩
            generalize ((w7.setCell ⟨gs, 0, none⟩ (.bool neg7)).setCell ⟨gs, 1, none⟩ (.slice A7 m7 c7)).alloc (.cells #[.slice (some ⟨g, 1, none⟩) L (L + 1)] 102) = W9 at bs9 bp9 hi9 hx9 hr9 hxW9 ⊢
            obtain ⟨pr, hpr⟩ : ∃ pr, pr = w7.heap.size := ⟨_, rfl⟩
            rw [← hpr] at bp9 hgs7 ⊢
            have hpw : w.heap.size ≤ pr := by omega
            have hgp : gs ≠ pr := by omega
            have hkb : DD.length / 16 + 1 ≤ t.size + 40 := by omega
            have hLb : L ≤ 268435456 := by omega
            have hML : mid.length ≤ 268435456 := by have := HLM.out; omega
            replace bs9 : W9.heap[gs]? = some (.cells (sumCells neg7 A7 m7 c7 ⟨z, false, false, false, true, u⟩) 114 (0, 0)) := bs9
            clear bs8 hi8 hx08 hxW8 hxW9 hxW7 hx07 q0 q1 qz bs7 hs8 hpr wl1 wl2 wl3 wl4 wl5 wl6 wl7 hmid hty hgl hxW5 hgsW hw5 hx5 hx05 hx4 hx04 hx3 hx03 hx2 HLM hz1 hz0
            go_wp2_with fail
            refine take54_any ⟨#[43, 105, 110, 102]⟩ pr L (L + 1) _ mid W9 bp9 hr9 (by omega) ?_
            intro fa A10 m10 c10 ws10 w10 e10 hl10 bp10 hr10 hg10
            have bs10 := (hg10.block gs (Array.getElem?_eq_some_iff.1 bs9).1 (by simp; omega)).trans bs9
            have hi10 := hi9.grown hg10 (by rintro b ⟨⟩; rw [tyAt_of_blk bp9]; decide)
            have hx10 : Ext w w10 := Below.grown hx9 hg10 hx9.size (fun k hk => by cases hk; exact hpw)
            have hlen10 : m10 ≤ 1099511627776 := by have := hr10.1; omega
            go_wp2_with fail
            refine take54_any ⟨#[45, 105, 110, 102]⟩ pr m10 c10 _ ws10 w10 bp10 hr10 hlen10 ?_
            intro fb A11 m11 c11 ws11 w11 e11 hl11 bp11 hr11 hg11
            have bs11 := (hg11.block gs (Array.getElem?_eq_some_iff.1 bs10).1 (by simp; omega)).trans bs10
            have hi11 := hi10.grown hg11 (by rintro b ⟨⟩; rw [tyAt_of_blk bp10]; decide)
            have hx11 : Ext w w11 := Below.grown hx10 hg11 hx10.size (fun k hk => by cases hk; exact hpw)
            have hlen11 : m11 ≤ 1099511627776 := by have := hr11.1; omega
            go_wp2_with fail
            refine take54_any ⟨#[110, 97, 110]⟩ pr m11 c11 _ ws11 w11 bp11 hr11 hlen11 ?_
            intro fc A12 m12 c12 ws12 w12 e12 hl12 bp12 hr12 hg12
            have bs12 := (hg12.block gs (Array.getElem?_eq_some_iff.1 bs11).1 (by simp; omega)).trans bs11
            have hi12 := hi11.grown hg12 (by rintro b ⟨⟩; rw [tyAt_of_blk bp11]; decide)
            have hx12 : Ext w w12 := Below.grown hx11 hg12 hx11.size (fun k hk => by cases hk; exact hpw)
            have hlen12 : m12 ≤ 1099511627776 := by have := hr12.1; omega
            -- the three stores
            have p2 : w12.cell? ⟨gs, 2, none⟩ = some (.bool false) := cell_of_blk bs12 2
            have p3 : w12.cell? ⟨gs, 3, none⟩ = some (.bool false) := cell_of_blk bs12 3
            have p4 : w12.cell? ⟨gs, 4, none⟩ = some (.bool false) := cell_of_blk bs12 4
            have pz := fun i => frozen_of_blk bs12 i
            have bs13 : (((w12.setCell ⟨gs, 2, none⟩ (.bool fa)).setCell ⟨gs, 3, none⟩ (.bool fb)).setCell ⟨gs, 4, none⟩ (.bool fc)).heap[gs]? = some (.cells (sumCells neg7 A7 m7 c7 ⟨z, fa, fb, fc, true, u⟩) 114 (0, 0)) := blk_setCell (blk_setCell (blk_setCell bs12 2 (.bool fa)) 3 (.bool fb)) 4 (.bool fc)
            have hgt := tyAt_of_blk bs12
            have hi13 := ((hi12.setC hgt 2 (.bool fa)).setC (by rw [tyAt_setCell]; exact hgt) 3 (.bool fb)).setC (by rw [tyAt_setCell, tyAt_setCell]; exact hgt) 4 (.bool fc)
            have hx13 : Ext w (((w12.setCell ⟨gs, 2, none⟩ (.bool fa)).setCell ⟨gs, 3, none⟩ (.bool fb)).setCell ⟨gs, 4, none⟩ (.bool fc)) := ((hx12.setCell (p := ⟨gs, 2, none⟩) hgsw _).setCell (p := ⟨gs, 3, none⟩) hgsw _).setCell (p := ⟨gs, 4, none⟩) hgsw _
            have bp13 : (((w12.setCell ⟨gs, 2, none⟩ (.bool fa)).setCell ⟨gs, 3, none⟩ (.bool fb)).setCell ⟨gs, 4, none⟩ (.bool fc)).heap[pr]? = some (.cells #[.slice A12 m12 c12] 102 (0, 0)) := (Below.heap_setCell _ _ _ _ (by simp; omega)).trans ((Below.heap_setCell _ _ _ _ (by simp; omega)).trans ((Below.heap_setCell _ _ _ _ (by simp; omega)).trans bp12))
            have hr13 := ((hr12.setC (p := gs) (by rw [hgt]; decide) 2 (.bool fa)).setC (p := gs) (by rw [tyAt_setCell, hgt]; decide) 3 (.bool fb)).setC (p := gs) (by rw [tyAt_setCell, tyAt_setCell, hgt]; decide) 4 (.bool fc)
            clear bs9 bp9 hi9 hx9 hr9 bs10 bp10 hi10 hx10 hr10 hg10 bs11 bp11 hi11 hx11 hr11 hg11 bs12 bp12 hi12 hx12 hr12 hg12
            go_upto_region 13 with fail
            generalize ((w12.setCell ⟨gs, 2, none⟩ (.bool fa)).setCell ⟨gs, 3, none⟩ (.bool fb)).setCell ⟨gs, 4, none⟩ (.bool fc) = W13 at bs13 hi13 hx13 bp13 hr13 ⊢
            clear p2 p3 p4 pz hgt
            go_wp2_with fail
            refine take54_any ⟨#[45, 48]⟩ pr m12 c12 _ ws12 W13 bp13 hr13 hlen12 ?_
            intro fd A14 m14 c14 ws14 w14 e14 hl14 bp14 hr14 hg14
            have bs14 := (hg14.block gs (Array.getElem?_eq_some_iff.1 bs13).1 (by simp; omega)).trans bs13
            have hi14 := hi13.grown hg14 (by rintro b ⟨⟩; rw [tyAt_of_blk bp13]; decide)
            have hx14 : Ext w w14 := Below.grown hx13 hg14 hx13.size (fun k hk => by cases hk; exact hpw)
            have hmk : marks (mid.map fun x => x.data.toList) = ((fa, fb, fc, fd), ws14.map fun x => x.data.toList) := by
              unfold marks
              have t1 : (takeW wP (mid.map fun x => x.data.toList)).1 = fa ∧ (takeW wP (mid.map fun x => x.data.toList)).2 = ws10.map fun x => x.data.toList := by rw [← e10]; exact ⟨rfl, rfl⟩
              have t2 : (takeW wM (ws10.map fun x => x.data.toList)).1 = fb ∧ (takeW wM (ws10.map fun x => x.data.toList)).2 = ws11.map fun x => x.data.toList := by rw [← e11]; exact ⟨rfl, rfl⟩
              have t3 : (takeW wN (ws11.map fun x => x.data.toList)).1 = fc ∧ (takeW wN (ws11.map fun x => x.data.toList)).2 = ws12.map fun x => x.data.toList := by rw [← e12]; exact ⟨rfl, rfl⟩
              have t4 : (takeW wZ (ws12.map fun x => x.data.toList)).1 = fd ∧ (takeW wZ (ws12.map fun x => x.data.toList)).2 = ws14.map fun x => x.data.toList := by rw [← e14]; exact ⟨rfl, rfl⟩
              simp only [t1.1, t1.2, t2.1, t2.2, t3.1, t3.2, t4.1, t4.2]
            have hpx := hpi fa fb fc fd _ hmk
            rw [hpx] at Kt Kf
            clear hpx hpi hmk e10 e11 e12 e14 hl10 hl11 hl12 hl14 hML
            have r5 : w14.cell? ⟨gs, 5, none⟩ = some (.bool true) := cell_of_blk bs14 5
            have rz := fun i => frozen_of_blk bs14 i
            obtain ⟨ot, hot⟩ : ∃ ot, ot = (decide (0 < u) && !fd) := ⟨_, rfl⟩
            rw [← hot] at Kt Kf
            have bs15 : (w14.setCell ⟨gs, 5, none⟩ (.bool ot)).heap[gs]? = some (.cells (sumCells neg7 A7 m7 c7 ⟨z, fa, fb, fc, ot, u⟩) 114 (0, 0)) := blk_setCell bs14 5 (.bool ot)
            have hi15 := hi14.setC (tyAt_of_blk bs14) 5 (.bool ot)
            have hx15 : Ext w (w14.setCell ⟨gs, 5, none⟩ (.bool ot)) := hx14.setCell (p := ⟨gs, 5, none⟩) hgsw _
            have bp15 : (w14.setCell ⟨gs, 5, none⟩ (.bool ot)).heap[pr]? = some (.cells #[.slice A14 m14 c14] 102 (0, 0)) := (Below.heap_setCell _ _ _ _ (by simp; omega)).trans bp14
            have hm14 : m14 = ws14.length := hr14.1
            clear bs13 bp13 hi13 hx13 hr13 hg14 hi14 hx14 bp14 hr14 bs14
            go_upto_region 14 with fail
            go_cut [] from 81 to 89 (fun wx => wx = w14.setCell ⟨gs, 5, none⟩ (.bool ot))
            case first =>
              clear Kt Kf
              have hub : decide ((u : Int) > 0) = decide (0 < u) := by congr 1; apply propext; omega
              cases fd
              · rw [Bool.not_false, Bool.and_true] at hot
                have HOT : Hid (ot = decide (0 < u)) := hot
                clear hot
                go_wp2_with fail
                go_meet
                rw [HOT.out]
              · rw [Bool.not_true, Bool.and_false] at hot
                subst hot
                go_wp2_with fail
                go_meet
                rfl
            case rest =>
              subst hcut
              generalize w14.setCell ⟨gs, 5, none⟩ (.bool ot) = W15 at bs15 hi15 hx15 bp15 ⊢
              have HOT : Hid (ot = (decide (0 < u) && !fd)) := hot
              clear hot r5 rz
              have y0 : W15.cell? ⟨gs, 0, none⟩ = some (.bool neg7) := cell_of_blk bs15 0
              have y1 : W15.cell? ⟨gs, 1, none⟩ = some (.slice A7 m7 c7) := cell_of_blk bs15 1
              have y2 : W15.cell? ⟨gs, 2, none⟩ = some (.bool fa) := cell_of_blk bs15 2
              have y3 : W15.cell? ⟨gs, 3, none⟩ = some (.bool fb) := cell_of_blk bs15 3
              have y4 : W15.cell? ⟨gs, 4, none⟩ = some (.bool fc) := cell_of_blk bs15 4
              have yp : W15.cell? ⟨pr, 0, none⟩ = some (.slice A14 m14 c14) := cell_of_blk bp15 0
              obtain ⟨sp, hsp⟩ : ∃ sp, sp = (fa || fb || fc) := ⟨_, rfl⟩
              have HSP : Hid (sp = (fa || fb || fc)) := hsp
              go_upto_region 15 with fail
              go_cut [13] from 90 to 105 (fun sv wx => sv = .bool sp ∧ wx = W15)
              case first =>
                clear Kt Kf
                subst hsp
                cases fa <;> cases fb
                all_goals
                  go_wp2_with fail
                  go_meet
                  exact ⟨by simp, rfl⟩
              case rest =>
                obtain ⟨rfl, rfl⟩ := hcut
                have hspf : sp = false → fa = false ∧ fb = false ∧ fc = false := fun e => by
                  rw [hsp] at e
                  simp only [Bool.or_eq_false_iff] at e
                  exact ⟨e.1.1, e.1.2, e.2⟩
                have hspt : sp = true → ¬ (fa = false ∧ fb = false ∧ fc = false) := fun e ⟨a, b, c⟩ => by
                  rw [hsp, a, b, c] at e
                  exact absurd e (by decide)
                have hspo : sp = true → fa = true ∨ fb = true ∨ fc = true := fun e => by
                  rw [hsp] at e
                  simp only [Bool.or_eq_true] at e
                  rcases e with (e | e) | e
                  · exact Or.inl e
                  · exact Or.inr (Or.inl e)
                  · exact Or.inr (Or.inr e)
                clear hsp
                obtain ⟨sgn, hsg⟩ : ∃ sgn, sgn = z.sign := ⟨_, rfl⟩
                have hsz : (sgn != 0) = decide (mag ≠ 0) := by
                  rw [hsg]
                  by_cases e : mag = 0
                  · have e2 := hzm.2 e
                    rw [e2]; simp [e]
                  · have e2 : z ≠ 0 := fun h => e (hzm.1 h)
                    have e3 : z.sign ≠ 0 := fun h => e2 (Int.sign_eq_zero_iff_zero.1 h)
                    simp [e, e3]
                have HS := fun (R' : Ending → World → Prop) K' => sign_any (R := R') neg7 A7 m7 c7 _ z _ hi15 K'
                rw [← hsg] at HS
                clear hsg
                by_cases hrest : m14 = 0
                · have hwsn : ws14.map (fun x => x.data.toList) = [] := by
                    rw [hm14] at hrest
                    rw [List.length_eq_zero_iff.1 hrest]; rfl
                  have hd14 : decide ((m14 : Int) > 0) = false := decide_eq_false (by omega)
                  have hd15 : ¬ 0 < m14 := by omega
                  have HM0 : Hid (m14 = 0) := hrest
                  clear hm14 hrest
                  cases fd
                  · by_cases hu0 : u = 0
                    · have hub : ((u : Int) == 0) = true := by rw [hu0]; rfl
                      have HU0 : Hid (u = 0) := hu0
                      clear hu0
                      go_wp2_with fail
                      refine HS _ ?_
                      intro w16 hx16
                      have bs16 := (hx16.block _ (Array.getElem?_eq_some_iff.1 bs15).1).trans bs15
                      have hi16 := hi15.ext hx16
                      have hx016 := hx15.trans' hx16
                      have v0 : w16.cell? ⟨gs, 0, none⟩ = some (.bool neg7) := cell_of_blk bs16 0
                      have v1 : w16.cell? ⟨gs, 1, none⟩ = some (.slice A7 m7 c7) := cell_of_blk bs16 1
                      clear HS
                      by_cases hm0 : mag = 0
                      · rw [decide_eq_false (by simp [hm0])] at hsz
                        cases sp
                        · obtain ⟨s1, s2, s3⟩ := hspf rfl
                          have efin := Kt ⟨z, fa, fb, fc, ot, u⟩ ((if_pos ⟨hwsn, fun e => absurd e (by decide)⟩).trans ((if_neg (fun e => by rcases e.2 with h | h | h | h | h; exact h hm0; rw [s1] at h; exact absurd h (by decide); rw [s2] at h; exact absurd h (by decide); rw [s3] at h; exact absurd h (by decide); exact absurd h (by decide))).trans rfl)) gs w16 hgsw ⟨neg7, A7, m7, c7, bs16, hi16.le hkb, hul⟩ hx016
                          clear Kf Kt
                          go_wp2_with fail
                          exact efin
                        · have hor := hspo rfl
                          have efin := Kf ((if_pos ⟨hwsn, fun e => absurd e (by decide)⟩).trans (if_pos ⟨HU0.out, by rcases hor with h | h | h; exact Or.inr (Or.inl h); exact Or.inr (Or.inr (Or.inl h)); exact Or.inr (Or.inr (Or.inr (Or.inl h)))⟩)) w16 hx016
                          clear Kf Kt 
                          go_wp2_with fail
                          exact efin
                      · rw [decide_eq_true hm0] at hsz
                        have efin := Kf ((if_pos ⟨hwsn, fun e => absurd e (by decide)⟩).trans (if_pos ⟨HU0.out, Or.inl hm0⟩)) w16 hx016
                        clear Kf Kt 
                        go_wp2_with fail
                        exact efin
                    · have hub : ((u : Int) == 0) = false := by simp; omega
                      have efin := Kt ⟨z, fa, fb, fc, ot, u⟩ ((if_pos ⟨hwsn, fun e => absurd e (by decide)⟩).trans ((if_neg (fun e => hu0 e.1)).trans rfl)) gs _ hgsw ⟨neg7, A7, m7, c7, bs15, hi15.le hkb, hul⟩ hx15
                      clear Kf Kt
                      go_wp2_with fail
                      exact efin
                  · by_cases hm0 : mag = 0
                    · rw [decide_eq_false (by simp [hm0])] at hsz
                      go_wp2_with fail
                      refine HS _ ?_
                      intro w16 hx16
                      have bs16 := (hx16.block _ (Array.getElem?_eq_some_iff.1 bs15).1).trans bs15
                      have hi16 := hi15.ext hx16
                      have hx016 := hx15.trans' hx16
                      have v0 : w16.cell? ⟨gs, 0, none⟩ = some (.bool neg7) := cell_of_blk bs16 0
                      have v1 : w16.cell? ⟨gs, 1, none⟩ = some (.slice A7 m7 c7) := cell_of_blk bs16 1
                      clear HS
                      by_cases hu0 : u = 0
                      · have hub : ((u : Int) == 0) = true := by rw [hu0]; rfl
                        have HU0 : Hid (u = 0) := hu0
                        clear hu0
                        have efin := Kf (by split; exact if_pos ⟨HU0.out, Or.inr (Or.inr (Or.inr (Or.inr (by first | trivial | rfl))))⟩; rfl) w16 hx016
                        clear Kf Kt 
                        go_wp2_with fail
                        exact efin
                      · have hub : ((u : Int) == 0) = false := by simp; omega
                        cases sp
                        · obtain ⟨s1, s2, s3⟩ := hspf rfl
                          have efin := Kt ⟨z, fa, fb, fc, ot, u⟩ ((if_pos ⟨hwsn, fun _ => ⟨hm0, s1, s2, s3⟩⟩).trans ((if_neg (fun e => hu0 e.1)).trans rfl)) gs w16 hgsw ⟨neg7, A7, m7, c7, bs16, hi16.le hkb, hul⟩ hx016
                          clear Kf Kt
                          go_wp2_with fail
                          exact efin
                        · have hnt := hspt rfl
                          have efin := Kf (if_neg (fun e => hnt (e.2 (by first | trivial | rfl)).2)) w16 hx016
                          clear Kf Kt 
                          go_wp2_with fail
                          exact efin
                    · rw [decide_eq_true hm0] at hsz
                      go_wp2_with fail
                      refine HS _ ?_
                      intro w16 hx16
                      have bs16 := (hx16.block _ (Array.getElem?_eq_some_iff.1 bs15).1).trans bs15
                      have hi16 := hi15.ext hx16
                      have hx016 := hx15.trans' hx16
                      have v0 : w16.cell? ⟨gs, 0, none⟩ = some (.bool neg7) := cell_of_blk bs16 0
                      have v1 : w16.cell? ⟨gs, 1, none⟩ = some (.slice A7 m7 c7) := cell_of_blk bs16 1
                      clear HS
                      have efin := Kf (if_neg (fun e => hm0 (e.2 (by first | trivial | rfl)).1)) w16 hx016
                      clear Kf Kt 
                      go_wp2_with fail
                      exact efin
                · have hd14 : decide ((m14 : Int) > 0) = true := decide_eq_true (by omega)
                  have hwsn : ws14.map (fun x => x.data.toList) ≠ [] := by
                    intro e
                    rw [hm14] at hrest
                    exact hrest (by have := congrArg List.length e; simpa using this)
                  have efin := Kf (if_neg (fun e => hwsn e.1)) _ hx15
                  clear Kf Kt 
                  go_wp2_with fail
                  exact efin
end Go.Proofs.YtjngofngjbjpbaaGreatDoor
end
