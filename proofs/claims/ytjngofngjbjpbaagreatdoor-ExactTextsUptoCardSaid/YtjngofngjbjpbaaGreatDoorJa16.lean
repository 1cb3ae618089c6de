/- strconv.FormatUint at base 10. exact.Sum.Text: its closure. a laid table stays as it was. -/
import Derived.Test.YtjngofngjbjpbaaGreatDoorJa15
import Derived.Lib.AppendIntMem

section
set_option linter.unusedSimpArgs false
set_option linter.unusedVariables false
namespace Go.Proofs.YtjngofngjbjpbaaGreatDoor
open Go.RowKit Go.Sort Go.Lib

theorem ext_grow (w : World) (os : Array Obj) (k : Nat) : Ext w (grow (w.drewN k) os) := by
  refine ⟨rfl, rfl, rfl, ?_, ?_⟩
  · simp [grow]
  · intro i hi
    simp [grow, Array.getElem?_append_left hi]

set_option maxRecDepth 100000 in
set_option maxHeartbeats 2000000 in
theorem formatUint_in (u : Nat) (hu64 : u < 18446744073709551616) (w : World) (htab : Lib.TabIs Tryz.prog w "internal/strconv.uint64pow10" .u64 Lib.pow10Tab) {R : Ending → World → Prop}
    (K : ∀ w', Ext w w' → R (.returned (.string ⟨(Lib.decDigits u).toArray⟩)) w') :
    Calls Tryz.prog 145 #[.int .u64 (u : Int), .int .i64 10] w R := by
  by_cases hs : u < 100
  · have hlt : (u : Int) < 100 := by omega
    have fin := K w (Ext.rfl' w)
    clear K
    go_enter Tryz.func145, Tryz.ntmps145
    go_wp2_with (go_at_call 226; refine (Tryz.internal_strconv_small u hs _).mono ?_; rintro e w' ⟨rfl, rfl⟩)
    exact fin
  · have hge : ¬ (u : Int) < 100 := by omega
    have hu1 : 1 ≤ u := by omega
    have hnd20 : Lib.nDigits u ≤ 20 := by have := Lib.numDigits_eq u hu1 hu64; split at this <;> omega
    have hal : Tryz.prog.arrayLen 304 = 24 := by simp [Program.arrayLen, Tryz.underlying304]
    have hsl : ∀ W, (Instr.sliceAt 304 (.pointer (some ⟨w.heap.size, 0, none⟩)) none (some (.int .i64 (Lib.nDigits u : Int))) none).run Tryz.prog W = .ok (.slice (some ⟨w.heap.size, 0, none⟩) (Lib.nDigits u) 24) W := fun W => by
      rw [run_sliceAt_array_h W 304 ⟨w.heap.size, 0, none⟩ (by simp [Program.arrayLen, Program.elem, Tryz.underlying304]) .i64 (Lib.nDigits u : Int) (by omega) (by rw [hal]; omega)]
      go_simp
    have hH0 := Lib.holds_zero0 w 304 (Lib.nDigits u) (by omega)
    have hfmt := Tryz.internal_strconv_formatBase10 w.heap.size 0 24 u (Array.replicate (Lib.nDigits u) 0) (w.alloc (.cells Lib.zeros24 304)) hH0 (by rw [Array.size_replicate]; exact Lib.lt_pow_nDigits u) hu64 (by rw [Array.size_replicate]; omega)
    rw [Array.size_replicate] at hfmt
    have HH0 := Lib.hid hH0
    clear hH0 hal
    go_enter Tryz.func145, Tryz.ntmps145
    go_wp2_with (go_at_call 227; refine (Tryz.internal_strconv_numDigits u hu1 hu64 _ (Lib.tabIs_alloc htab _)).mono ?_; rintro e w' ⟨rfl, rfl⟩)
    refine hfmt.mono ?_
    rintro e w' ⟨rfl, k, v', dk, rfl, hF⟩
    have hcv : (convert 27 9 (.slice (some ⟨w.heap.size, 0, none⟩) (Lib.nDigits u) 24)).run Tryz.prog ((putRow (fun (b : UInt8) => Value.int .u8 (b.toNat : Int)) (w.alloc (.cells Lib.zeros24 304)) w.heap.size 0 dk).drewN k) = .ok (.string ⟨(Lib.decDigits u).toArray⟩) ((putRow (fun (b : UInt8) => Value.int .u8 (b.toNat : Int)) (w.alloc (.cells Lib.zeros24 304)) w.heap.size 0 dk).drewN k) := by
      have h := run_convert_bytes_back (P := Tryz.prog) ((putRow (fun (b : UInt8) => Value.int .u8 (b.toNat : Int)) (w.alloc (.cells Lib.zeros24 304)) w.heap.size 0 dk).drewN k) 27 9 5 ⟨w.heap.size, 0, none⟩ 24 (Lib.decDigits u) Tryz.underlying27 Tryz.underlying5 Tryz.underlying9 (fun j hj => by
        rw [Lib.row_is_numeral hF j hj, Lib.add_plain, World.cell?_drewN]
        exact cell?_putRow (fun (b : UInt8) => Value.int .u8 (b.toNat : Int)) _ w.heap.size 0 _ dk HH0.out (by rw [hF.size, Array.size_replicate]) j (by rw [hF.size]; rw [Lib.decDigits_length] at hj; exact hj))
      rw [Lib.decDigits_length] at h
      exact h
    have hx : Ext w ((putRow (fun (b : UInt8) => Value.int .u8 (b.toNat : Int)) (w.alloc (.cells Lib.zeros24 304)) w.heap.size 0 dk).drewN k) := by
      rw [alloc_eq_grow]
      obtain ⟨os', _, e⟩ := putRow_grow_new (fun (b : UInt8) => Value.int .u8 (b.toNat : Int)) w #[.cells Lib.zeros24 304] w.heap.size 0 dk (Nat.le_refl _)
      rw [e]
      exact ext_grow w os' k
    have fin := K _ hx
    clear K hx hfmt
    go_wp2
    exact fin

/-- strconv.FormatUint at base 10 -/
theorem formatUint_any {R : Ending → World → Prop} (u : Nat) (hu64 : u < 18446744073709551616) (w : World) (htab : Lib.TabIs Tryz.prog w "internal/strconv.uint64pow10" .u64 Lib.pow10Tab)
    (K : ∀ w', Ext w w' → R (.returned (.string ⟨(Lib.decDigits u).toArray⟩)) w') :
    Calls Tryz.prog 70 #[.int .u64 (u : Int), .int .i64 10] w R := by
  have H := fun (R' : Ending → World → Prop) K' => formatUint_in (R := R') u hu64 w htab K'
  go_enter Tryz.func70, Tryz.ntmps70
  go_wp2_with (go_at_call 145; refine H _ ?_; intro w1 hx1)
  assumption
end Go.Proofs.YtjngofngjbjpbaaGreatDoor
end

section
set_option linter.unusedSimpArgs false
set_option linter.unusedVariables false
namespace Go.Proofs.YtjngofngjbjpbaaGreatDoor
open Go.RowKit

theorem Tryz.info9 : (Tryz.prog.info? 9).map (fun i => (i.zero, i.size, i.bytes)) = some (some (.string ⟨#[]⟩), 1, 16) := by kernel_rfl
/-- a row of strings of the call's own -/
def OwnT (w : World) (base : Nat) (v : Value) (xs : List ByteArray) : Prop := w.ownsRow base 9 1 v xs.length (xs.map Value.string)
theorem OwnT.ext {w w' : World} {base : Nat} {v : Value} {xs : List ByteArray} (h : OwnT w base v xs) (hx : Ext w w') : OwnT w' base v xs := by
  unfold OwnT at *
  exact World.ownsRow.kept h (Ext.isGrown hx none) (by cases hv : v.ownBlock <;> simp)

theorem own_ne {w : World} {base n : Nat} {v : Value} {xs : List Value} {p : Nat} {c : Array Value} (h : w.ownsRow base 9 1 v n xs) (hp : w.heap[p]? = some (.cells c 102 (0, 0))) : v.ownBlock ≠ some p := by
  intro e
  rcases h.2 with ⟨h1, _⟩ | ⟨g, cap, cur, hv, _, hb, _⟩
  · rw [h1] at e; simp [Value.ownBlock] at e
  · rw [hv] at e
    simp only [Value.ownBlock, Option.some.injEq] at e
    subst e
    rw [hb] at hp
    cases hp

set_option maxHeartbeats 1000000 in
set_option maxRecDepth 20000 in
theorem text1_any {R : Ending → World → Prop} (b : Bool) (x : ByteArray) (p B base : Nat) (v : Value) (xs : List ByteArray) (w : World) (hp : w.heap[p]? = some (.cells #[v] 102 (0, 0))) (ho : OwnT w base v xs) (hl : xs.length ≤ 100) (hB : B ≤ p) (hB2 : B ≤ base) (hbase : base ≤ w.heap.size)
    (K : ∀ v' w', w'.heap[p]? = some (.cells #[v'] 102 (0, 0)) → OwnT w' base v' (xs ++ (if b = true then [x] else [])) → Below B w w' → R (.returned (.tuple #[])) w') :
    Calls Tryz.prog 68 #[.bool b, .string x, .pointer (some ⟨p, 0, none⟩)] w R := by
  have q0 : w.cell? ⟨p, 0, none⟩ = some v := cell_of_blk hp 0
  have z0 := frozen_of_blk hp 0
  cases b
  · have fin := K v w hp (by simpa using ho) (Below.refl _ _)
    clear K
    go_enter Tryz.func68, Tryz.ntmps68
    go_wp2
    go_end0
    exact fin
  · have hpl : p + 1 ≤ w.heap.size := (Array.getElem?_eq_some_iff.1 hp).1
    obtain ⟨i0, hi0, hz0, hz1, hz2⟩ := info_parts Tryz.info9
    go_enter Tryz.func68, Tryz.ntmps68
    go_wp2_with (at_builtin; go_loud (refine app1 (W := w) base rfl (.tmp 6) (.tmp 8) 102 9 (.string ⟨#[]⟩) 16 rfl Tryz.underlying102 Tryz.info9 rfl (by decide) v (xs.map Value.string) (.string x) rfl rfl rfl (by simpa [OwnT] using ho) hbase (by simp; omega) ?_))
    intro v1 w1 h1 hg
    obtain ⟨gg, cap, cur, hv1, _⟩ := ownsRow_form h1 (by simp)
    obtain ⟨nn, hnn⟩ : ∃ nn, nn = xs.length + 1 := ⟨_, rfl⟩
    rw [← hnn] at hv1
    subst hv1
    have hp1 : w1.heap[p]? = some (.cells #[v] 102 (0, 0)) := (hg.block p hpl (fun e => own_ne ho hp e.symm)).trans hp
    have q1 : w1.cell? ⟨p, 0, none⟩ = some v := cell_of_blk hp1 0
    have z1 := frozen_of_blk hp1 0
    have hb1 : Below B w w1 := Below.grown (Below.refl B w) hg (by omega) (fun k hk => by have := (ho.lt k hk).1; omega)
    have ho1 : OwnT w1 base (.slice (some ⟨gg, 0, none⟩) nn cap) (xs ++ [x]) := by unfold OwnT; simpa [hnn] using h1
    have ho2 : OwnT (w1.setCell ⟨p, 0, none⟩ (.slice (some ⟨gg, 0, none⟩) nn cap)) base (.slice (some ⟨gg, 0, none⟩) nn cap) (xs ++ [x]) := by
      unfold OwnT at *
      exact World.ownsRow.kept ho1 (row := some p) ⟨rfl, rfl, rfl, by simp [World.setCell], fun j hj hne => Below.heap_setCell _ _ _ _ (fun e => hne (by rw [e]))⟩ (Or.inr (own_ne ho1 hp1))
    have fin := K _ _ (blk_setCell hp1 0 (.slice (some ⟨gg, 0, none⟩) nn cap)) ho2 (hb1.setCell (p := ⟨p, 0, none⟩) hB _)
    clear hnn K ho ho1 ho2 hb1 h1 hg hp hp1 q0 z0 hl hB hB2 hbase hpl hi0 hz0 hz1 hz2
    go_wp2
    go_end0
    exact fin
end Go.Proofs.YtjngofngjbjpbaaGreatDoor
end

section
set_option linter.unusedSimpArgs false
set_option linter.unusedVariables false
namespace Go.Proofs.YtjngofngjbjpbaaGreatDoor
open Go.RowKit

theorem tabIs_block {w : World} {name : String} {k : IntKind} {zs : List Int} (h : Lib.TabIs Tryz.prog w name k zs) :
    ∃ gl t fr, Tryz.prog.globalNamed name = some gl ∧ w.heap[gl]? = some (.cells (zs.map fun z => Value.int k z).toArray t fr) := by
  unfold Lib.TabIs World.var? at h
  cases hg : Tryz.prog.globalNamed name with
  | none => simp [hg] at h
  | some g =>
    simp only [hg, Option.bind_some] at h
    cases hb : w.heap[g]? with
    | none => rw [hb] at h; cases h
    | some o =>
      rw [hb] at h
      cases o with
      | cells cs t fr => simp only [Option.some.injEq] at h; subst h; exact ⟨g, t, fr, rfl, hb⟩
      | _ => cases h
theorem tabIs_of_block {w : World} {name : String} {k : IntKind} {zs : List Int} {gl : Nat} {t : TypeId} {fr : Nat × Nat} (hg : Tryz.prog.globalNamed name = some gl) (hb : w.heap[gl]? = some (.cells (zs.map fun z => Value.int k z).toArray t fr)) :
    Lib.TabIs Tryz.prog w name k zs := by
  unfold Lib.TabIs World.var?
  simp only [hg, Option.bind_some, hb]
theorem tabIs_ext {w w' : World} {name : String} {k : IntKind} {zs : List Int} (h : Lib.TabIs Tryz.prog w name k zs) (hx : Ext w w') : Lib.TabIs Tryz.prog w' name k zs := by
  obtain ⟨gl, t, fr, hg, hb⟩ := tabIs_block h
  exact tabIs_of_block hg (hx.blk hb)
/-- .. where a sum was written -/
theorem tabIs_sum {w w' : World} {name : String} {k : IntKind} {zs : List Int} (h : Lib.TabIs Tryz.prog w name k zs) {g kk : Nat} {s : SumS} (hs : IsSum w g kk s) (hg' : w.grownBy w' (some g)) : Lib.TabIs Tryz.prog w' name k zs := by
  obtain ⟨gl, t, fr, hg, hb⟩ := tabIs_block h
  refine tabIs_of_block hg ((hg'.block gl (Array.getElem?_eq_some_iff.1 hb).1 ?_).trans hb)
  intro e
  cases e
  obtain ⟨neg, A, n, c, h1, _⟩ := hs
  rw [h1] at hb
  simp only [Option.some.injEq, Obj.cells.injEq] at hb
  have h0 := congrArg (fun a => a[0]?) hb.1
  cases zs with
  | nil => simp [sumCells] at h0
  | cons z zs => simp [sumCells] at h0
end Go.Proofs.YtjngofngjbjpbaaGreatDoor
end
