/- abacuslaw09.ExactTexts answers true for every text and every list of floats, where what it reads is of bulk at most 1048576; the variables that its row lists start as the program's text lays them. -/
import Derived.Test.YtjngofngjbjpbaaGreatDoorCards
import Derived.Test.YtjngofngjbjpbaaGreatDoorTie
import Derived.Test.YtjngofngjbjpbaaGreatDoorJa1
import Derived.Test.YtjngofngjbjpbaaGreatDoorJa35
import Derived.Test.YtjngofngjbjpbaaGreatDoorJa36

section
set_option linter.unusedSimpArgs false
set_option linter.unusedVariables false
set_option maxRecDepth 100000
namespace Go.Proofs.YtjngofngjbjpbaaGreatDoor
open Go.RowKit Go.WideShapes Go.ChangeShapes Go.Lib Go.ChangeAt Go.ChangeMaps

theorem spot_none {W : World} {a : Addr} {v : Value} (h : W.cell? a = some v) : a = ⟨a.block, a.off, none⟩ := by
  obtain ⟨b, o, sp⟩ := a
  cases sp with
  | none => rfl
  | some s =>
    unfold World.cell? at h
    simp only at h
    split at h
    · simp at h
    · cases h
theorem add_off (b o i : Nat) : (⟨b, o, none⟩ : Addr).add i = ⟨b, o + i, none⟩ := by
  unfold Addr.add
  split
  · rename_i e; subst e; rfl
  · rfl
theorem trod_f64 {H : Type} {enc : TypeId × Value → H} {P : Program} {w : World} {base : Nat} {sp : Nat → Bool} {held : Bool} {fuel : Nat} {t : TypeId} {v : Value} {x : DataW H × List MemPlace} (ht : P.underlying t = some (.float .f64))
    (h : DataW.trod enc P w base sp held fuel t [v] = some x) : ∃ b, v = .float .f64 b ∧ b < 18446744073709551616 := by
  cases fuel with
  | zero => cases h
  | succ fuel =>
    rw [DataW.trod_step] at h
    unfold DataW.trodStep at h
    simp only [ht] at h
    match v, h with
    | .float k b, h =>
      simp only at h
      split at h
      · rename_i hc
        obtain ⟨rfl, hw⟩ := hc
        refine ⟨b, rfl, ?_⟩
        simpa [Lit.wf] using hw
      · cases h
theorem open_floats {H : Type} {enc : TypeId × Value → H} {W : World} {sp : Nat → Bool} {v : Value} {d : DataW H} {ps : List MemPlace} {base : Nat} (hval : Value.okWide Tryz.prog W .any base 22 v) (h : DataW.Trod enc Tryz.prog W 0 sp true 22 v d ps) :
    ∃ (A : Option Addr) (n c : Nat) (f : Nat → Nat), v = .slice A n c ∧ RowG W A n (fun i => .float .f64 (f i)) ∧ (∀ i, i < n → f i < 18446744073709551616) ∧ n + 1 ≤ Rows.uptoBulk d := by
  obtain ⟨a0, l0, c0, rfl⟩ := okWide_slice Tryz.underlying22 hval
  obtain ⟨fuel, h⟩ := h
  rcases Go.Deep.open_slice1 Tryz.underlying22 (by kernel_rfl) h with ⟨hc, hx⟩ | ⟨a, len, cap, m, n, V, D, Pl, hc, _, hl, _, hm, hx, hcell⟩
  · refine ⟨none, 0, 0, fun _ => 0, List.head_eq_of_cons_eq hc, fun h0 => absurd h0 (by omega), fun i hi => absurd hi (by omega), ?_⟩
    have := Prod.mk.inj hx
    rw [this.1]
    simp [Rows.uptoBulk]
  · have hm' : len ≤ m := by rw [hm]; split <;> omega
    have hd := (Prod.mk.inj hx).1
    have hb : len + 1 ≤ Rows.uptoBulk d := by
      rw [hd]
      have := bulks.slice_le ((List.range len).map D) ((List.range (m - len)).map fun j => D (len + j))
      simp at this ⊢
      omega
    obtain ⟨f, hf⟩ := Go.Deep.choose_lt (α := Nat) (n := len) (p := fun i b => V i = .float .f64 b ∧ b < 18446744073709551616) (fun i hi => trod_f64 Tryz.underlying49 (hcell i (by omega)).2)
    refine ⟨some a, len, cap, f, List.head_eq_of_cons_eq hc, fun h0 => ?_, fun i hi => (hf i hi).2, hb⟩
    have h00 := (hcell 0 (by omega)).1
    have e : a.add 0 = a := by simp [Addr.add]
    rw [e] at h00
    have ea := spot_none h00
    refine ⟨a.block, a.off, by rw [← ea], World.block_lt_of_cell? _ _ h00, fun i hi => ?_⟩
    have h1 := (hcell i (by omega)).1
    rw [ea, add_off] at h1
    rw [h1, (hf i hi).1]

theorem texts_any {R : Ending → World → Prop} (t : ByteArray) (A : Option Addr) (n c : Nat) (f : Nat → Nat) (w : World) (hL : LaidW w) (ht : t.size ≤ 1048576) (hn : n ≤ 1048576)
    (hf : ∀ i, i < n → f i < 18446744073709551616) (hr : RowG w A n (fun i => .float .f64 (f i)))
    (K : ∀ w', Ext w w' → R (.returned (.bool true)) w') :
    Calls Tryz.prog 3 #[.string t, .slice A n c] w R := by
  cases hp : parseL (wordsL t.data.toList) with
  | none => exact texts_none t A n c f w hL ht hn hf hr hp K
  | some s =>
    obtain ⟨e, hval⟩ := text_parse hp
    subst e
    exact texts_some s A n c f w hL ht hn hf hr hval K
/-! ### the row of ExactTexts -/
namespace exactTexts
theorem own : ownKnob Tryz.prog.godebug = none := by kernel_rfl
theorem contract (H : Type) (enc : TypeId × Value → H) (W : World) (base : Nat) (args : Array Value) (ds gs : List (DataW H)) (before : List MemPlace)
    (hval : ∀ (j : Nat) t v, Tryz.f3.params[j]? = some t → args[j]? = some v → Value.okWide Tryz.prog W .any base t v)
    (hW : DataW.Whole enc Tryz.prog Tryz.f3.params.toList Rows.exactTextsSpec.vars false W args.toList ds gs before) (hk : Rows.uptoSmall H (ds ++ gs) = true) (hL : laidMetH Tryz.prog Rows.exactTextsUptoRow.laid W) (hsh : W.ShapedOpen Tryz.prog) :
    Calls Tryz.prog 3 args W fun e W' => ∃ v, e = .returned v ∧ Rows.exactTextsSpec.post enc Tryz.prog Tryz.f3 false true false false W args v W' := by
  have hW0 := hW
  have hb := bulks.bound hk
  obtain ⟨p, q, hA0, hV, rfl, hfz, hnd⟩ := hW
  obtain ⟨rfl, rfl⟩ := trodVars_none hV
  rw [List.append_nil] at hb
  have hA : DataW.TrodAll enc Tryz.prog W 0 (fun _ => true) true Tryz.f3.params.toList args.toList ds p := hA0
  rw [Tryz.params3] at hA
  obtain ⟨v0, vs0, d0, ds0, p0, q0, hargs, rfl, rfl, h0, r0⟩ := trodAll_cons hA
  obtain ⟨v1, vs1, d1, ds1, p1, q1, rfl, rfl, rfl, h1, r1⟩ := trodAll_cons r0
  obtain ⟨rfl, rfl, rfl⟩ := trodAll_nil r1
  obtain rfl : args = #[v0, v1] := by cases args; simp_all
  simp only [Rows.uptoBulkAll] at hb
  obtain ⟨t, rfl, rfl, hp0, _⟩ := open_string Tryz.underlying9 (hval 0 9 v0 rfl rfl) h0
  obtain ⟨A, n, c, f, rfl, hr, hf, hn⟩ := open_floats (hval 1 22 v1 rfl rfl) h1
  have hLW : LaidW W := laidW_of (l := Rows.exactTextsUptoRow.laid) (by
      have e : (Rows.exactTextsUptoRow.laid.filter fun x => x.2.handleName?.isSome) = [] := by kernel_rfl
      unfold laidMetH at hL
      rw [e] at hL
      exact hL) (.tail _ (.tail _ (.head _))) (.tail _ (.tail _ (.tail _ (.head _)))) (.tail _ (.tail _ (.tail _ (.tail _ (.head _))))) (.tail _ (.tail _ (.tail _ (.tail _ (.tail _ (.head _)))))) (.tail _ (.tail _ (.tail _ (.tail _ (.tail _ (.tail _ (.head _))))))) hsh
  have hts : t.size ≤ 1048576 := by
    have e := bulks.string_eq (H := H) t.data.toList
    rw [e] at hb
    have : t.size = t.data.toList.length := Array.length_toList.symm
    omega
  refine texts_any t A n c f W hLW hts (by omega) hf hr ?_
  intro W' hx
  exact ⟨_, rfl, post_true hW0 rfl rfl (fun t ht => by
    rw [Tryz.params3] at ht
    simp only [List.mem_cons, List.not_mem_nil, or_false] at ht
    rcases ht with rfl | rfl
    · exact ⟨by kernel_rfl, of_decide_eq_true (by kernel_rfl)⟩
    · exact ⟨by kernel_rfl, of_decide_eq_true (by kernel_rfl)⟩) (by kernel_rfl) hx⟩

theorem reads (os : Os) {H : Type} (enc : TypeId × Value → H) : ∃ places, DataW.whole enc Tryz.prog ((laidWorld os).forCall (fun _ _ => 0) ⟨#[], #[.string ⟨#[]⟩, .slice none 0 0], []⟩).memory Tryz.f3.params.toList Rows.exactTextsSpec.vars false #[Value.string ⟨#[]⟩, .slice none 0 0].toList 8 = some ([.lit (.string []), .nil], [], places) :=
  ⟨[], by kernel_rfl⟩
theorem liftedUpto (os : Os) (started : os.Started) (H : Type) (enc : TypeId × Value → H) (F : Stop.Interp) :
    ReturnsInHanded {} Tryz.checked os 3 .any ((Rows.OpenSpec.upto Rows.exactTextsSpec).preRow enc Tryz.prog Tryz.f3 Rows.exactTextsUptoRow.domain false Rows.exactTextsUptoRow.laid) (((Rows.OpenSpec.upto Rows.exactTextsSpec).at F).post enc Tryz.prog Tryz.f3 false true false false) := by
  obtain ⟨places, hx⟩ := reads os enc
  refine returnsInHanded_of_row (C := Tryz.checked) (s := Rows.OpenSpec.upto Rows.exactTextsSpec) own started (by kernel_rfl) Tryz.func3
    (witness_row_atRef (enc := enc) (C := Tryz.checked) false (laidWorld os) #[.string ⟨#[]⟩, .slice none 0 0] rfl (by kernel_rfl) (by kernel_rfl) (by kernel_rfl)
      (OpenSpec.preRow_of_cond 8 hx (by kernel_rfl) (fun k hk => by cases hk; kernel_rfl) (by kernel_rfl) (laid_met os _))) ?_
  intro W base args ds gs before hval hW _ hk _ hL hsh _
  exact contract H enc W base args ds gs before hval hW (hk _ rfl) hL hsh
set_option maxHeartbeats 8000000 in
theorem facts : joinedFacts Tryz.pinned.checked.prog 3 Tryz.f3 (Rows.OpenSpec.upto Rows.exactTextsSpec).bare Rows.exactTextsUptoRow = true := by
  unfold joinedFacts
  simp only [Bool.and_eq_true]
  repeat' apply And.intro
  all_goals (as_aux_lemma => kernel_rfl)
theorem saidUpto : Rows.ExactTextsUptoSaid :=
  OpenClaim.holds_of_cond 3 Tryz.f3 rfl rfl rfl rfl rfl rfl rfl ⟨rfl, rfl, rfl, rfl, rfl⟩ rfl rfl rfl rfl rfl (by kernel_rfl) Tryz.func3 facts
    (of_decide_eq_true (by kernel_rfl)) (by unfold Func.isWrapper; first | (rw [if_pos (by decide +kernel)]; kernel_rfl) | (rw [if_neg (by decide +kernel)]; exact ⟨rfl, rfl⟩))
    (fun os started H enc _ F => by rw [OpenClaim.pre_eq_preRow]; exact liftedUpto os started H enc F)
theorem plain (f : FuncId) (fn : Func) (hf : Tryz.pinned.checked.prog.funcNamed "abacus/abacuslaw09.ExactTexts" = some f) (hfn : Tryz.pinned.checked.prog.funcs[f]? = some fn) :
    true = Tryz.pinned.checked.prog.looks [] ∧ ∀ (j : Nat) t, fn.params[j]? = some t → Tryz.pinned.checked.prog.wantsStandIn t = false := by
  obtain rfl : f = 3 := Option.some.inj ((show Tryz.prog.funcNamed "abacus/abacuslaw09.ExactTexts" = some 3 by kernel_rfl).symm.trans hf) |>.symm
  obtain rfl : fn = Tryz.f3 := (Option.some.inj (Tryz.func3.symm.trans hfn)).symm
  refine ⟨by kernel_rfl, fun j t ht => ?_⟩
  have ht' : t ∈ Tryz.f3.params.toList := by simpa using Array.mem_of_getElem? ht
  rw [Tryz.params3] at ht'
  simp only [List.mem_cons, List.not_mem_nil, or_false] at ht'
  rcases ht' with rfl | rfl
  · exact (show Tryz.prog.wantsStandIn 9 = false by kernel_rfl)
  · exact (show Tryz.prog.wantsStandIn 22 = false by kernel_rfl)
/-- THE CARD OF ExactTexts, THE SECOND FORM -/
theorem cardUpto : Rows.ExactTextsUptoCardSaid :=
  Claim7.holds_tied_plain_at .later [] _ _ _ _ saidUpto (fun _ h => by cases h) (by kernel_rfl) (fun _ h => by cases h) exactTextsUpto_row_tie rfl ⟨rfl, rfl⟩ (by kernel_rfl) rfl plain (by kernel_rfl)
#print axioms cardUpto
end exactTexts
end Go.Proofs.YtjngofngjbjpbaaGreatDoor
end
