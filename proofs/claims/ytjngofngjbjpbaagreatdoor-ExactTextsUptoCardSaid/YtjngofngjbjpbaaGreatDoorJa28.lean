/- exact.Parse: what the library's functions give. -/
import Derived.Test.YtjngofngjbjpbaaGreatDoorJa27
import Derived.Test.YtjngofngjbjpbaaGreatDoorJa17
import Derived.Test.YtjngofngjbjpbaaGreatDoorJa16
import Derived.Lib.SmallJoins

section
set_option linter.unusedSimpArgs false
set_option linter.unusedVariables false
namespace Go.Proofs.YtjngofngjbjpbaaGreatDoor
open Go.RowKit

theorem split_any {R : Ending → World → Prop} (t : ByteArray) (w : World) (hsz : t.size ≤ 1073741824) (hm : ∃ m, w.cell? ⟨5, 0, none⟩ = some (.int .i64 m))
    (K : ∀ (xs : List ByteArray) w', w'.heap[w.heap.size]? = some (.cells (xs.map Value.string).toArray 9 (0, 0)) → xs.map (fun x => x.data.toList) = wordsL t.data.toList → Ext w w' → R (.returned (.slice (some ⟨w.heap.size, 0, none⟩) xs.length xs.length)) w') :
    Calls Tryz.prog 49 #[.string t, .string ⟨#[32]⟩] w R := by
  obtain ⟨m, hm⟩ := hm
  refine (Tryz.strings_Split t ⟨#[32]⟩ m w (by omega) hm (by decide)).mono ?_
  rintro e w' ⟨rfl, rfl⟩
  have hl := Lib.splitB_all ⟨#[32]⟩ (by decide) 0 (Lib.countB t ⟨#[32]⟩) t rfl
  have := K (Lib.splitB ⟨#[32]⟩ 0 (Lib.countB t ⟨#[32]⟩) t) _ (blk_1_1 w _) (by rw [Lib.splitB_data]; exact split_words _) ((Ext.rfl' w).alloc' _)
  rw [hl] at this
  exact this

/-- the laid variables that these functions read -/
structure LaidW (w : World) : Prop where mk ::
  utf : Lib.Utf8Tabs 7 8 w
  mx : ∃ m, w.cell? ⟨5, 0, none⟩ = some (.int .i64 m)
  es : ∃ ev, w.cell? ⟨2, 0, none⟩ = some ev ∧ (ev = .nilIface ∨ ∃ te pe, ev = .iface te pe)
  er : ∃ ev, w.cell? ⟨3, 0, none⟩ = some ev ∧ (ev = .nilIface ∨ ∃ te pe, ev = .iface te pe)
  pow : Lib.TabIs Tryz.prog w "internal/strconv.uint64pow10" .u64 Lib.pow10Tab
theorem cell_ext {w w' : World} (hx : Ext w w') {a : Addr} {v : Value} (h : w.cell? a = some v) : w'.cell? a = some v :=
  (hx.cell (World.block_lt_of_cell? _ _ h)).trans h
theorem LaidW.ext {w w' : World} (h : LaidW w) (hx : Ext w w') : LaidW w' := by
  obtain ⟨⟨u1, u2⟩, ⟨m, hm⟩, ⟨e1, h1, h1'⟩, ⟨e2, h2, h2'⟩, hp⟩ := h
  exact ⟨⟨fun c hc => cell_ext hx (u1 c hc), fun i hi => ⟨cell_ext hx (u2 i hi).1, cell_ext hx (u2 i hi).2⟩⟩, ⟨m, cell_ext hx hm⟩, ⟨e1, cell_ext hx h1, h1'⟩, ⟨e2, cell_ext hx h2, h2'⟩, tabIs_ext hp hx⟩

theorem puint_any {R : Ending → World → Prop} (s : ByteArray) (w : World) (hL : LaidW w) (hsz : s.size ≤ 1073741824)
    (Kok : ∀ u w', Lib.parseUintB 64 s.data.toList = .ok u → Ext w w' → R (.returned (.tuple #[.int .u64 (u : Int), .nilIface])) w')
    (Kno : ∀ (v : Value) N w', (∀ u, Lib.parseUintB 64 s.data.toList ≠ .ok u) → Ext w w' → R (.returned (.tuple #[v, .iface 283 (.pointer (some ⟨N, 0, none⟩))])) w') :
    Calls Tryz.prog 50 #[.string s, .int .i64 10, .int .i64 64] w R := by
  cases h : Lib.parseUintB 64 s.data.toList
  case ok u =>
    refine (Tryz.strconv_ParseUint_10_at64_ok s (by omega) u h w).mono ?_
    rintro e w' ⟨rfl, hw⟩
    refine Kok u w' h ?_
    rcases hw with rfl | rfl
    · exact Ext.rfl' w'
    · exact Lib.bytesWorld_below w 5 s
  case range =>
    obtain ⟨ev, hv, hev⟩ := hL.er
    refine (Tryz.strconv_ParseUint_10_at64_range s (by omega) h ev w hv hev).mono ?_
    rintro e w' ⟨N, rfl, _, _, hx⟩
    exact Kno _ N w' (fun u e => by rw [h] at e; cases e) hx
  all_goals
    obtain ⟨ev, hv, hev⟩ := hL.es
    refine (Tryz.strconv_ParseUint_10_at64_syntax s (by omega) h ev w hv hev).mono ?_
    rintro e w' ⟨N, rfl, _, _, hx⟩
    exact Kno _ N w' (fun u e => by rw [h] at e; cases e) hx
theorem trim_neg (D : List UInt8) : Lib.trimPrefix D [45] = noNeg D ∧ Lib.hasPrefix D [45] = hasNeg D := by
  have h : Lib.hasPrefix D [45] = hasNeg D := by
    unfold Lib.hasPrefix hasNeg
    cases D with
    | nil => rfl
    | cons x xs =>
      show ((45 : UInt8) == x && _) = _
      simp only [List.isPrefixOf, Bool.and_true, List.head?_cons]
      by_cases e : x = 45
      · subst e; rfl
      · have e2 : ((45 : UInt8) == x) = false := by simpa using (fun h => e h.symm)
        rw [e2]
        symm
        simpa using e
  refine ⟨?_, h⟩
  unfold Lib.trimPrefix noNeg
  rw [h]
  cases D <;> simp
end Go.Proofs.YtjngofngjbjpbaaGreatDoor
end
