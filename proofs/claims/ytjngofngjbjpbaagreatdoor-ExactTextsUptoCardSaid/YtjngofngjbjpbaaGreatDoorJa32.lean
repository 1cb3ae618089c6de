/- the steps of a drawn region of reads, each by its law. exact.Sum.Merge: the region of its four marks. -/
import Derived.Test.YtjngofngjbjpbaaGreatDoorJa31
import Derived.Test.YtjngofngjbjpbaaGreatDoorJa13
import Derived.BigRegion

section
set_option linter.unusedSimpArgs false
set_option linter.unusedVariables false
namespace Go.Proofs.YtjngofngjbjpbaaGreatDoor
open Go.RowKit

theorem eval_put_same {a : Act} {d : Nat} {v : Value} (h : d < a.tmps.size) : (a.put (some d) v).eval (.tmp d) = v := by
  simp [Act.eval, Act.put, h]
theorem eval_put_ne {a : Act} {d t : Nat} {v : Value} (h : d ≠ t) : (a.put (some d) v).eval (.tmp t) = a.eval (.tmp t) := by
  simp [Act.eval, Act.put, Array.getElem?_setIfInBounds_ne h]
theorem size_put {a : Act} {d : Option Tmp} {v : Value} : (a.put d v).tmps.size = a.tmps.size := by cases d <;> simp [Act.put]

section
variable {ops : Array Oper} {w : World} {o : Oper} {a : Act}
theorem yield_of {ops : Array Oper} {a : Act} {j t : Nat} {b : Bool} (h : (ops[j]?).bind (·.dst) = some t) (he : a.eval (.tmp t) = .bool b) : yielded ops a.tmps j = some b := by
  unfold yielded
  rw [h]
  simp only [Option.bind_some]
  simp only [Act.eval] at he
  rw [Array.getD_eq_getD_getElem?] at he
  cases ht : a.tmps[t]? with
  | none => rw [ht] at he; cases he
  | some u => rw [ht] at he; simp only [Option.getD_some] at he; rw [he]
theorem run_mv {x : Operand} {v : Value} (h : o.op = .move x) (he : a.eval x = v) : (execOp a.eval o).run Tryz.prog w = .ok (.value v) w := by
  unfold execOp; rw [h]; simp [he]
theorem run_pk {c x y : Operand} {b : Bool} {v u : Value} (h : o.op = .pick c x y) (hc : a.eval c = .bool b) (hx : a.eval x = v) (hy : a.eval y = u) : (execOp a.eval o).run Tryz.prog w = .ok (.value (if b = true then v else u)) w := by
  unfold execOp; rw [h]; simp [hc, hx, hy, asBool]
theorem run_nc {x : Operand} {p : Addr} (h : o.op = .nilCheck x) (he : a.eval x = .pointer (some p)) : (execOp a.eval o).run Tryz.prog w = .ok (.value (.pointer (some p))) w := by
  unfold execOp; rw [h]; simp [he]
theorem run_fa {x : Operand} {g f off : Nat} (h : o.op = .fieldAddr 114 x f) (he : a.eval x = .pointer (some ⟨g, 0, none⟩)) (hf : (Instr.fieldAt 114 (.pointer (some ⟨g, 0, none⟩)) f).run Tryz.prog w = .ok (.pointer (some ⟨g, off, none⟩)) w) :
    (execOp a.eval o).run Tryz.prog w = .ok (.value (.pointer (some ⟨g, off, none⟩))) w := by
  unfold execOp; rw [h]; simp only [he]; rw [Sem.run_bind, hf]; rfl
theorem run_ld {x : Operand} {p : Addr} {t : TypeId} {v : Value} (h : o.op = .load t x) (he : a.eval x = .pointer (some p)) (hl : (Instr.loadAt t (.pointer (some p))).run Tryz.prog w = .ok v w) :
    (execOp a.eval o).run Tryz.prog w = .ok (.value v) w := by
  unfold execOp; rw [h]; simp only [he]; rw [Sem.run_bind, hl]; rfl
theorem Y_plain {v : Value} (hg : o.guard = none) (h : (execOp a.eval o).run Tryz.prog w = .ok (.value v) w) : YieldsAt Tryz.prog ops w o v a :=
  Or.inl ⟨by unfold Region.wanted; rw [hg], h⟩
theorem Y_guard {j : Nat} {b : Bool} {v : Value} (hg : o.guard = some (j, false)) (hy : yielded ops a.tmps j = some b) (h : b = false → (execOp a.eval o).run Tryz.prog w = .ok (.value v) w) : YieldsAt Tryz.prog ops w o (if b = true then undef else v) a := by
  cases b with
  | false => exact Or.inl ⟨by unfold Region.wanted; rw [hg]; simp [hy], h rfl⟩
  | true => exact Or.inr ⟨by unfold Region.wanted; rw [hg]; simp [hy], rfl⟩
theorem Y_plainA {v : Value} (hg : o.guard = none) (h : ∀ w, (execOp a.eval o).run Tryz.prog w = .ok (.value v) w) : Yields Tryz.prog ops o v a :=
  Or.inl ⟨by unfold Region.wanted; rw [hg], h⟩
theorem Y_guardA {j : Nat} {b : Bool} {v : Value} (hg : o.guard = some (j, false)) (hy : yielded ops a.tmps j = some b) (h : b = false → ∀ w, (execOp a.eval o).run Tryz.prog w = .ok (.value v) w) : Yields Tryz.prog ops o (if b = true then undef else v) a := by
  cases b with
  | false => exact Or.inl ⟨by unfold Region.wanted; rw [hg]; simp [hy], h rfl⟩
  | true => exact Or.inr ⟨by unfold Region.wanted; rw [hg]; simp [hy], rfl⟩
end
theorem fa2 (g f off : Nat) (w : World) (h : (f = 1 ∧ off = 2) ∨ (f = 2 ∧ off = 3) ∨ (f = 3 ∧ off = 4) ∨ (f = 4 ∧ off = 5)) : (Instr.fieldAt 114 (.pointer (some ⟨g, 0, none⟩)) f).run Tryz.prog w = .ok (.pointer (some ⟨g, off, none⟩)) w := by
  rcases h with ⟨rfl, rfl⟩ | ⟨rfl, rfl⟩ | ⟨rfl, rfl⟩ | ⟨rfl, rfl⟩ <;> go_simp
theorem ld4 (p : Addr) (v : Value) (w : World) (h : w.cell? p = some v) : (Instr.loadAt 4 (.pointer (some p))).run Tryz.prog w = .ok v w := by
  go_simp
end Go.Proofs.YtjngofngjbjpbaaGreatDoor
end

section
set_option linter.unusedSimpArgs false
set_option linter.unusedVariables false
namespace Go.Proofs.YtjngofngjbjpbaaGreatDoor
open Go.RowKit

def findReg (k : Nat) : Code → Option (Array Oper)
  | .region n ops _ => if n = k then some ops else none
  | .seq a b => (findReg k a).or (findReg k b)
  | .cond _ a b => (findReg k a).or (findReg k b)
  | .block _ a => findReg k a
  | _ => none
noncomputable def mops : Array Oper := ((Tryz.f20.body).bind (findReg 4)).getD #[]
theorem wpAny_cast {P : Program} {md : Region.Mode} {ops ops' : Array Oper} {Q : Exit → Act → World → Prop} {fuel : Nat} {l : Array Bool} {a : Act} {w : World} (h : ops = ops') (hh : wpAny P md ops' Q fuel l a w) : wpAny P md ops Q fuel l a w := h ▸ hh

def upd (e : Nat → Value) (d : Nat) (v : Value) : Nat → Value := fun t => if t = d then v else e t
structure Inv (a : Act) (e : Nat → Value) : Prop where mk ::
  sz : a.tmps.size = 86
  ev : ∀ t, a.eval (.tmp t) = e t
theorem Inv.put {a : Act} {e : Nat → Value} (h : Inv a e) {d : Nat} (hd : d < 86) (v : Value) : Inv (a.put (some d) v) (upd e d v) :=
  ⟨by rw [size_put]; exact h.sz, fun t => by
    unfold upd
    by_cases c : t = d
    · subst c; rw [if_pos rfl]; exact eval_put_same (by rw [h.sz]; exact hd)
    · rw [if_neg c, eval_put_ne (fun x => c x.symm)]; exact h.ev t⟩
theorem fact_of {i : Nat} {x : Option Nat × Op × Option (Nat × Bool)} (hM : (mops[i]?).map (fun o => (o.dst, o.op, o.guard)) = some x) : ∃ o, mops[i]? = some o ∧ o.dst = x.1 ∧ o.op = x.2.1 ∧ o.guard = x.2.2 := by
  obtain ⟨o, ho, he⟩ := Option.map_eq_some_iff.1 hM
  subst he
  exact ⟨o, ho, rfl, rfl, rfl⟩
def QP (Q : Exit → Act → World → Prop) : Prop := ∀ c a d v w, Q (.panic c) (a.put d v) w → Q (.panic c) a w
theorem tk {Q : Exit → Act → World → Prop} {fuel : Nat} {listed : Array Bool} {a : Act} {w : World} {e : Nat → Value} (hQ : QP Q) (i d : Nat) (op : Op) (guard : Option (Nat × Bool)) (v : Value) (inv : Inv a e) (hd : d < 86)
    (hs : Region.noSelect mops = true) (hM : (mops[i]?).map (fun o => (o.dst, o.op, o.guard)) = some (some d, op, guard)) (hf : Region.free .any mops listed i = true) (hr : (Region.ready .any mops listed).contains i = true)
    (hy : ∀ o : Oper, o.op = op → o.guard = guard → Yields Tryz.prog mops o v a)
    (h : ∀ a', Hid (a' = a.put (some d) v) → Inv a' (upd e d v) → wpAny Tryz.prog .any mops Q fuel (listed.setIfInBounds i true) a' w) : wpAny Tryz.prog .any mops Q (fuel + 1) listed a w := by
  obtain ⟨o, ho, h1, h2, h3⟩ := fact_of hM
  refine wpAny_take ho hs hf hr (fun c a w hh => hQ c a o.dst v w hh) (hy o h2 h3) ?_
  rw [show o.dst = some d from h1]
  exact h _ rfl (inv.put hd v)
theorem tkR {Q : Exit → Act → World → Prop} {fuel : Nat} {listed : Array Bool} {a : Act} {w : World} {e : Nat → Value} (hQ : QP Q) (i d : Nat) (op : Op) (guard : Option (Nat × Bool)) (v : Value) (inv : Inv a e) (hd : d < 86)
    (hs : Region.noSelect mops = true) (hM : (mops[i]?).map (fun o => (o.dst, o.op, o.guard)) = some (some d, op, guard)) (hf : freeR .any mops listed i = true) (hr : (Region.ready .any mops listed).contains i = true)
    (hy : ∀ o : Oper, o.op = op → o.guard = guard → YieldsAt Tryz.prog mops w o v a)
    (h : ∀ a', Hid (a' = a.put (some d) v) → Inv a' (upd e d v) → wpAny Tryz.prog .any mops Q fuel (listed.setIfInBounds i true) a' w) : wpAny Tryz.prog .any mops Q (fuel + 1) listed a w := by
  obtain ⟨o, ho, h1, h2, h3⟩ := fact_of hM
  refine wpAny_takeR ho hs hf hr (fun c a w hh => hQ c a o.dst v w hh) (hy o h2 h3) ?_
  rw [show o.dst = some d from h1]
  exact h _ rfl (inv.put hd v)
theorem run_st (x y : Operand) (o : Oper) (a : Act) (w : World) (p : Addr) (b : Bool) (h : o.op = .store 4 x y) (hx : a.eval x = .pointer (some p)) (hy : a.eval y = .bool b) (u : Value) (hc : w.cell? p = some u) (hz : w.frozen? p = false) :
    (execOp a.eval o).run Tryz.prog w = .ok .skip (w.setCell p (.bool b)) := by
  unfold execOp
  rw [h]
  simp only [hx, hy]
  go_simp
theorem tkS {Q : Exit → Act → World → Prop} {fuel : Nat} {listed : Array Bool} {a : Act} {w : World} (i : Nat) (x y : Operand) (p : Addr) (b : Bool) (u : Value)
    (hM : (mops[i]?).map (fun o => (o.dst, o.op, o.guard)) = some (none, .store 4 x y, none)) (hr : Region.ready .any mops listed = [i]) (hx : a.eval x = .pointer (some p)) (hy : a.eval y = .bool b) (hc : w.cell? p = some u) (hz : w.frozen? p = false)
    (h : wpAny Tryz.prog .any mops Q fuel (listed.setIfInBounds i true) a (w.setCell p (.bool b))) : wpAny Tryz.prog .any mops Q (fuel + 1) listed a w := by
  obtain ⟨o, ho, h1, h2, h3⟩ := fact_of hM
  refine wpAny_ready hr (by simp) (BigFrame.allReady_want ho (by unfold Region.wanted; rw [show o.guard = none from h3]) (fun K' hK => ?_) AllReady.nil)
  unfold Oper.wp
  rw [run_st x y o a w p b h2 hx hy u hc hz]
  simp only [Oper.upon]
  rw [show o.dst = none from h1]
  exact hK _ _ h
theorem fa2A (g f off : Nat) (h : (f = 1 ∧ off = 2) ∨ (f = 2 ∧ off = 3) ∨ (f = 3 ∧ off = 4) ∨ (f = 4 ∧ off = 5)) (w : World) : (Instr.fieldAt 114 (.pointer (some ⟨g, 0, none⟩)) f).run Tryz.prog w = .ok (.pointer (some ⟨g, off, none⟩)) w := fa2 g f off w h
theorem yM {a : Act} {j t : Nat} {b : Bool} (h : (mops[j]?).bind (·.dst) = some t) (he : a.eval (.tmp t) = .bool b) : yielded mops a.tmps j = some b := yield_of h he
theorem cellG (w : World) (g i j : Nat) (v : Value) (h : i ≠ j) : (w.setCell ⟨g, i, none⟩ v).cell? ⟨g, j, none⟩ = w.cell? ⟨g, j, none⟩ := World.cell?_setCell_other _ _ _ _ (by simp [h])
theorem nosel : Region.noSelect mops = true := by kernel_rfl

set_option maxHeartbeats 4000000 in
set_option maxRecDepth 100000 in
theorem marks_region {Q : Exit → Act → World → Prop} (hQ : QP Q) (g g2 : Nat) (pl mi na ot pl2 mi2 na2 ot2 : Bool) (V : World) (a0 : Act) (hs : a0.tmps.size = 86)
    (p0 : a0.eval (.tmp 0) = .pointer (some ⟨g, 0, none⟩)) (p1 : a0.eval (.tmp 1) = .pointer (some ⟨g2, 0, none⟩))
    (q2 : V.cell? ⟨g, 2, none⟩ = some (.bool pl)) (q3 : V.cell? ⟨g, 3, none⟩ = some (.bool mi)) (q4 : V.cell? ⟨g, 4, none⟩ = some (.bool na)) (q5 : V.cell? ⟨g, 5, none⟩ = some (.bool ot))
    (r2 : V.cell? ⟨g2, 2, none⟩ = some (.bool pl2)) (r3 : V.cell? ⟨g2, 3, none⟩ = some (.bool mi2)) (r4 : V.cell? ⟨g2, 4, none⟩ = some (.bool na2)) (r5 : V.cell? ⟨g2, 5, none⟩ = some (.bool ot2))
    (z0 : ∀ i, V.frozen? ⟨g, i, none⟩ = false)
    (h : ∀ a, a = ((((((((((((((((((((((((((((((((((((((((((((((((((((a0.put (some 23) ((.pointer (some ⟨g, 0, none⟩)))).put (some 24) ((.pointer (some ⟨g, 0, none⟩)))).put (some 25) ((.pointer (some ⟨g, 0, none⟩)))).put (some 26) ((.pointer (some ⟨g, 0, none⟩)))).put (some 27) ((.pointer (some ⟨g, 0, none⟩)))).put (some 28) ((.pointer (some ⟨g, 0, none⟩)))).put (some 29) ((.pointer (some ⟨g, 2, none⟩)))).put (some 30) (.bool pl)).put (some 31) (.bool pl)).put (some 32) (if pl = true then undef else (.pointer (some ⟨g2, 0, none⟩)))).put (some 33) (if pl = true then undef else (.pointer (some ⟨g2, 0, none⟩)))).put (some 34) (if pl = true then undef else (.pointer (some ⟨g2, 2, none⟩)))).put (some 35) (if pl = true then undef else (.bool pl2))).put (some 36) (.bool (pl || pl2))).put (some 37) ((.pointer (some ⟨g, 0, none⟩)))).put (some 38) ((.pointer (some ⟨g, 0, none⟩)))).put (some 39) ((.pointer (some ⟨g, 3, none⟩)))).put (some 40) (.bool mi)).put (some 41) (.bool mi)).put (some 42) (if mi = true then undef else (.pointer (some ⟨g2, 0, none⟩)))).put (some 43) (if mi = true then undef else (.pointer (some ⟨g2, 0, none⟩)))).put (some 44) (if mi = true then undef else (.pointer (some ⟨g2, 3, none⟩)))).put (some 45) (if mi = true then undef else (.bool mi2))).put (some 46) (.bool (mi || mi2))).put (some 47) ((.pointer (some ⟨g, 0, none⟩)))).put (some 48) ((.pointer (some ⟨g, 0, none⟩)))).put (some 49) ((.pointer (some ⟨g, 4, none⟩)))).put (some 50) (.bool na)).put (some 51) (.bool na)).put (some 52) (if na = true then undef else (.pointer (some ⟨g2, 0, none⟩)))).put (some 53) (if na = true then undef else (.pointer (some ⟨g2, 0, none⟩)))).put (some 54) (if na = true then undef else (.pointer (some ⟨g2, 4, none⟩)))).put (some 55) (if na = true then undef else (.bool na2))).put (some 56) (.bool (na || na2))).put (some 57) ((.pointer (some ⟨g, 0, none⟩)))).put (some 58) ((.pointer (some ⟨g, 0, none⟩)))).put (some 59) ((.pointer (some ⟨g, 5, none⟩)))).put (some 60) (.bool ot)).put (some 61) (.bool ot)).put (some 62) (if ot = true then undef else (.pointer (some ⟨g2, 0, none⟩)))).put (some 63) (if ot = true then undef else (.pointer (some ⟨g2, 0, none⟩)))).put (some 64) (if ot = true then undef else (.pointer (some ⟨g2, 5, none⟩)))).put (some 65) (if ot = true then undef else (.bool ot2))).put (some 66) (.bool (ot || ot2))).put (some 67) ((.pointer (some ⟨g, 0, none⟩)))).put (some 68) ((.pointer (some ⟨g, 2, none⟩)))).put (some 69) ((.pointer (some ⟨g, 0, none⟩)))).put (some 70) ((.pointer (some ⟨g, 3, none⟩)))).put (some 71) ((.pointer (some ⟨g, 0, none⟩)))).put (some 72) ((.pointer (some ⟨g, 4, none⟩)))).put (some 73) ((.pointer (some ⟨g, 0, none⟩)))).put (some 74) ((.pointer (some ⟨g, 5, none⟩)))) → Q .normal a ((((V.setCell ⟨g, 2, none⟩ (.bool (pl || pl2))).setCell ⟨g, 3, none⟩ (.bool (mi || mi2))).setCell ⟨g, 4, none⟩ (.bool (na || na2))).setCell ⟨g, 5, none⟩ (.bool (ot || ot2)))) :
    wpAny Tryz.prog .any mops Q 56 (Array.replicate 56 false) a0 V := by
  have inv : Inv a0 (fun t => a0.eval (.tmp t)) := ⟨hs, fun _ => rfl⟩
  refine tk hQ 0 23 (.move (.tmp 0)) (none) ((.pointer (some ⟨g, 0, none⟩))) inv (by decide) nosel (by kernel_rfl) (by kernel_rfl) (by kernel_rfl) (fun o ho hg => Y_plainA hg (fun w => run_mv ho ((inv.ev 0).trans p0))) ?_
  intro a0 E0 inv0
  have inv := inv0
  refine tk hQ 1 24 (.move (.tmp 0)) (none) ((.pointer (some ⟨g, 0, none⟩))) inv (by decide) nosel (by kernel_rfl) (by kernel_rfl) (by kernel_rfl) (fun o ho hg => Y_plainA hg (fun w => run_mv ho ((inv.ev 0).trans p0))) ?_
  intro a1 E1 inv1
  have inv := inv1
  refine tk hQ 2 25 (.move (.tmp 0)) (none) ((.pointer (some ⟨g, 0, none⟩))) inv (by decide) nosel (by kernel_rfl) (by kernel_rfl) (by kernel_rfl) (fun o ho hg => Y_plainA hg (fun w => run_mv ho ((inv.ev 0).trans p0))) ?_
  intro a2 E2 inv2
  have inv := inv2
  refine tk hQ 3 26 (.move (.tmp 0)) (none) ((.pointer (some ⟨g, 0, none⟩))) inv (by decide) nosel (by kernel_rfl) (by kernel_rfl) (by kernel_rfl) (fun o ho hg => Y_plainA hg (fun w => run_mv ho ((inv.ev 0).trans p0))) ?_
  intro a3 E3 inv3
  have inv := inv3
  refine tk hQ 4 27 (.move (.tmp 0)) (none) ((.pointer (some ⟨g, 0, none⟩))) inv (by decide) nosel (by kernel_rfl) (by kernel_rfl) (by kernel_rfl) (fun o ho hg => Y_plainA hg (fun w => run_mv ho ((inv.ev 0).trans p0))) ?_
  intro a4 E4 inv4
  have inv := inv4
  refine tk hQ 5 28 (.nilCheck (.tmp 27)) (none) ((.pointer (some ⟨g, 0, none⟩))) inv (by decide) nosel (by kernel_rfl) (by kernel_rfl) (by kernel_rfl) (fun o ho hg => Y_plainA hg (fun w => run_nc ho ((inv.ev 27).trans rfl))) ?_
  intro a5 E5 inv5
  have inv := inv5
  refine tk hQ 6 29 (.fieldAddr 114 (.tmp 28) 1) (none) ((.pointer (some ⟨g, 2, none⟩))) inv (by decide) nosel (by kernel_rfl) (by kernel_rfl) (by kernel_rfl) (fun o ho hg => Y_plainA hg (fun w => run_fa ho ((inv.ev 28).trans rfl) (fa2A g 1 2 (by decide) w))) ?_
  intro a6 E6 inv6
  have inv := inv6
  refine tkR hQ 7 30 (.load 4 (.tmp 29)) (none) (.bool pl) inv (by decide) nosel (by kernel_rfl) (by kernel_rfl) (by kernel_rfl) (fun o ho hg => Y_plain hg (run_ld (p := ⟨g, 2, none⟩) ho ((inv.ev 29).trans rfl) (ld4 _ _ _ q2))) ?_
  intro a7 E7 inv7
  have inv := inv7
  refine tk hQ 8 31 (.move (.tmp 30)) (none) (.bool pl) inv (by decide) nosel (by kernel_rfl) (by kernel_rfl) (by kernel_rfl) (fun o ho hg => Y_plainA hg (fun w => run_mv ho ((inv.ev 30).trans rfl))) ?_
  intro a8 E8 inv8
  have inv := inv8
  refine tk hQ 9 32 (.move (.tmp 1)) (some (8, false)) (if pl = true then undef else (.pointer (some ⟨g2, 0, none⟩))) inv (by decide) nosel (by kernel_rfl) (by kernel_rfl) (by kernel_rfl) (fun o ho hg => Y_guardA hg (yM (t := 31) (b := pl) (by kernel_rfl) ((inv.ev 31).trans rfl)) (fun hx w => run_mv ho ((inv.ev 1).trans p1))) ?_
  intro a9 E9 inv9
  have inv := inv9
  refine tk hQ 10 33 (.nilCheck (.tmp 32)) (some (8, false)) (if pl = true then undef else (.pointer (some ⟨g2, 0, none⟩))) inv (by decide) nosel (by kernel_rfl) (by kernel_rfl) (by kernel_rfl) (fun o ho hg => Y_guardA hg (yM (t := 31) (b := pl) (by kernel_rfl) ((inv.ev 31).trans rfl)) (fun hx w => run_nc (p := ⟨g2, 0, none⟩) ho ((inv.ev 32).trans (show (if pl = true then undef else _) = _ by rw [hx]; rfl)))) ?_
  intro a10 E10 inv10
  have inv := inv10
  refine tk hQ 11 34 (.fieldAddr 114 (.tmp 33) 1) (some (8, false)) (if pl = true then undef else (.pointer (some ⟨g2, 2, none⟩))) inv (by decide) nosel (by kernel_rfl) (by kernel_rfl) (by kernel_rfl) (fun o ho hg => Y_guardA hg (yM (t := 31) (b := pl) (by kernel_rfl) ((inv.ev 31).trans rfl)) (fun hx w => run_fa (g := g2) ho ((inv.ev 33).trans (show (if pl = true then undef else _) = _ by rw [hx]; rfl)) (fa2A g2 1 2 (by decide) w))) ?_
  intro a11 E11 inv11
  have inv := inv11
  refine tkR hQ 12 35 (.load 4 (.tmp 34)) (some (8, false)) (if pl = true then undef else (.bool pl2)) inv (by decide) nosel (by kernel_rfl) (by kernel_rfl) (by kernel_rfl) (fun o ho hg => Y_guard hg (yM (t := 31) (b := pl) (by kernel_rfl) ((inv.ev 31).trans rfl)) (fun hx => run_ld (p := ⟨g2, 2, none⟩) ho ((inv.ev 34).trans (show (if pl = true then undef else _) = _ by rw [hx]; rfl)) (ld4 _ _ _ r2))) ?_
  intro a12 E12 inv12
  have inv := inv12
  refine tk hQ 13 36 (.pick (.tmp 31) (.const (.bool true)) (.tmp 35)) (none) (.bool (pl || pl2)) inv (by decide) nosel (by kernel_rfl) (by kernel_rfl) (by kernel_rfl) (fun o ho hg => Y_plainA hg (fun w => (run_pk (b := pl) (v := .bool true) (u := if pl = true then undef else .bool pl2) ho ((inv.ev 31).trans rfl) rfl ((inv.ev 35).trans rfl)).trans (by cases pl <;> rfl))) ?_
  intro a13 E13 inv13
  have inv := inv13
  refine tk hQ 14 37 (.move (.tmp 0)) (none) ((.pointer (some ⟨g, 0, none⟩))) inv (by decide) nosel (by kernel_rfl) (by kernel_rfl) (by kernel_rfl) (fun o ho hg => Y_plainA hg (fun w => run_mv ho ((inv.ev 0).trans p0))) ?_
  intro a14 E14 inv14
  have inv := inv14
  refine tk hQ 15 38 (.nilCheck (.tmp 37)) (none) ((.pointer (some ⟨g, 0, none⟩))) inv (by decide) nosel (by kernel_rfl) (by kernel_rfl) (by kernel_rfl) (fun o ho hg => Y_plainA hg (fun w => run_nc ho ((inv.ev 37).trans rfl))) ?_
  intro a15 E15 inv15
  have inv := inv15
  refine tk hQ 16 39 (.fieldAddr 114 (.tmp 38) 2) (none) ((.pointer (some ⟨g, 3, none⟩))) inv (by decide) nosel (by kernel_rfl) (by kernel_rfl) (by kernel_rfl) (fun o ho hg => Y_plainA hg (fun w => run_fa ho ((inv.ev 38).trans rfl) (fa2A g 2 3 (by decide) w))) ?_
  intro a16 E16 inv16
  have inv := inv16
  refine tkR hQ 17 40 (.load 4 (.tmp 39)) (none) (.bool mi) inv (by decide) nosel (by kernel_rfl) (by kernel_rfl) (by kernel_rfl) (fun o ho hg => Y_plain hg (run_ld (p := ⟨g, 3, none⟩) ho ((inv.ev 39).trans rfl) (ld4 _ _ _ q3))) ?_
  intro a17 E17 inv17
  have inv := inv17
  refine tk hQ 18 41 (.move (.tmp 40)) (none) (.bool mi) inv (by decide) nosel (by kernel_rfl) (by kernel_rfl) (by kernel_rfl) (fun o ho hg => Y_plainA hg (fun w => run_mv ho ((inv.ev 40).trans rfl))) ?_
  intro a18 E18 inv18
  have inv := inv18
  refine tk hQ 19 42 (.move (.tmp 1)) (some (18, false)) (if mi = true then undef else (.pointer (some ⟨g2, 0, none⟩))) inv (by decide) nosel (by kernel_rfl) (by kernel_rfl) (by kernel_rfl) (fun o ho hg => Y_guardA hg (yM (t := 41) (b := mi) (by kernel_rfl) ((inv.ev 41).trans rfl)) (fun hx w => run_mv ho ((inv.ev 1).trans p1))) ?_
  intro a19 E19 inv19
  have inv := inv19
  refine tk hQ 20 43 (.nilCheck (.tmp 42)) (some (18, false)) (if mi = true then undef else (.pointer (some ⟨g2, 0, none⟩))) inv (by decide) nosel (by kernel_rfl) (by kernel_rfl) (by kernel_rfl) (fun o ho hg => Y_guardA hg (yM (t := 41) (b := mi) (by kernel_rfl) ((inv.ev 41).trans rfl)) (fun hx w => run_nc (p := ⟨g2, 0, none⟩) ho ((inv.ev 42).trans (show (if mi = true then undef else _) = _ by rw [hx]; rfl)))) ?_
  intro a20 E20 inv20
  have inv := inv20
  refine tk hQ 21 44 (.fieldAddr 114 (.tmp 43) 2) (some (18, false)) (if mi = true then undef else (.pointer (some ⟨g2, 3, none⟩))) inv (by decide) nosel (by kernel_rfl) (by kernel_rfl) (by kernel_rfl) (fun o ho hg => Y_guardA hg (yM (t := 41) (b := mi) (by kernel_rfl) ((inv.ev 41).trans rfl)) (fun hx w => run_fa (g := g2) ho ((inv.ev 43).trans (show (if mi = true then undef else _) = _ by rw [hx]; rfl)) (fa2A g2 2 3 (by decide) w))) ?_
  intro a21 E21 inv21
  have inv := inv21
  refine tkR hQ 22 45 (.load 4 (.tmp 44)) (some (18, false)) (if mi = true then undef else (.bool mi2)) inv (by decide) nosel (by kernel_rfl) (by kernel_rfl) (by kernel_rfl) (fun o ho hg => Y_guard hg (yM (t := 41) (b := mi) (by kernel_rfl) ((inv.ev 41).trans rfl)) (fun hx => run_ld (p := ⟨g2, 3, none⟩) ho ((inv.ev 44).trans (show (if mi = true then undef else _) = _ by rw [hx]; rfl)) (ld4 _ _ _ r3))) ?_
  intro a22 E22 inv22
  have inv := inv22
  refine tk hQ 23 46 (.pick (.tmp 41) (.const (.bool true)) (.tmp 45)) (none) (.bool (mi || mi2)) inv (by decide) nosel (by kernel_rfl) (by kernel_rfl) (by kernel_rfl) (fun o ho hg => Y_plainA hg (fun w => (run_pk (b := mi) (v := .bool true) (u := if mi = true then undef else .bool mi2) ho ((inv.ev 41).trans rfl) rfl ((inv.ev 45).trans rfl)).trans (by cases mi <;> rfl))) ?_
  intro a23 E23 inv23
  have inv := inv23
  refine tk hQ 24 47 (.move (.tmp 0)) (none) ((.pointer (some ⟨g, 0, none⟩))) inv (by decide) nosel (by kernel_rfl) (by kernel_rfl) (by kernel_rfl) (fun o ho hg => Y_plainA hg (fun w => run_mv ho ((inv.ev 0).trans p0))) ?_
  intro a24 E24 inv24
  have inv := inv24
  refine tk hQ 25 48 (.nilCheck (.tmp 47)) (none) ((.pointer (some ⟨g, 0, none⟩))) inv (by decide) nosel (by kernel_rfl) (by kernel_rfl) (by kernel_rfl) (fun o ho hg => Y_plainA hg (fun w => run_nc ho ((inv.ev 47).trans rfl))) ?_
  intro a25 E25 inv25
  have inv := inv25
  refine tk hQ 26 49 (.fieldAddr 114 (.tmp 48) 3) (none) ((.pointer (some ⟨g, 4, none⟩))) inv (by decide) nosel (by kernel_rfl) (by kernel_rfl) (by kernel_rfl) (fun o ho hg => Y_plainA hg (fun w => run_fa ho ((inv.ev 48).trans rfl) (fa2A g 3 4 (by decide) w))) ?_
  intro a26 E26 inv26
  have inv := inv26
  refine tkR hQ 27 50 (.load 4 (.tmp 49)) (none) (.bool na) inv (by decide) nosel (by kernel_rfl) (by kernel_rfl) (by kernel_rfl) (fun o ho hg => Y_plain hg (run_ld (p := ⟨g, 4, none⟩) ho ((inv.ev 49).trans rfl) (ld4 _ _ _ q4))) ?_
  intro a27 E27 inv27
  have inv := inv27
  refine tk hQ 28 51 (.move (.tmp 50)) (none) (.bool na) inv (by decide) nosel (by kernel_rfl) (by kernel_rfl) (by kernel_rfl) (fun o ho hg => Y_plainA hg (fun w => run_mv ho ((inv.ev 50).trans rfl))) ?_
  intro a28 E28 inv28
  have inv := inv28
  refine tk hQ 29 52 (.move (.tmp 1)) (some (28, false)) (if na = true then undef else (.pointer (some ⟨g2, 0, none⟩))) inv (by decide) nosel (by kernel_rfl) (by kernel_rfl) (by kernel_rfl) (fun o ho hg => Y_guardA hg (yM (t := 51) (b := na) (by kernel_rfl) ((inv.ev 51).trans rfl)) (fun hx w => run_mv ho ((inv.ev 1).trans p1))) ?_
  intro a29 E29 inv29
  have inv := inv29
  refine tk hQ 30 53 (.nilCheck (.tmp 52)) (some (28, false)) (if na = true then undef else (.pointer (some ⟨g2, 0, none⟩))) inv (by decide) nosel (by kernel_rfl) (by kernel_rfl) (by kernel_rfl) (fun o ho hg => Y_guardA hg (yM (t := 51) (b := na) (by kernel_rfl) ((inv.ev 51).trans rfl)) (fun hx w => run_nc (p := ⟨g2, 0, none⟩) ho ((inv.ev 52).trans (show (if na = true then undef else _) = _ by rw [hx]; rfl)))) ?_
  intro a30 E30 inv30
  have inv := inv30
  refine tk hQ 31 54 (.fieldAddr 114 (.tmp 53) 3) (some (28, false)) (if na = true then undef else (.pointer (some ⟨g2, 4, none⟩))) inv (by decide) nosel (by kernel_rfl) (by kernel_rfl) (by kernel_rfl) (fun o ho hg => Y_guardA hg (yM (t := 51) (b := na) (by kernel_rfl) ((inv.ev 51).trans rfl)) (fun hx w => run_fa (g := g2) ho ((inv.ev 53).trans (show (if na = true then undef else _) = _ by rw [hx]; rfl)) (fa2A g2 3 4 (by decide) w))) ?_
  intro a31 E31 inv31
  have inv := inv31
  refine tkR hQ 32 55 (.load 4 (.tmp 54)) (some (28, false)) (if na = true then undef else (.bool na2)) inv (by decide) nosel (by kernel_rfl) (by kernel_rfl) (by kernel_rfl) (fun o ho hg => Y_guard hg (yM (t := 51) (b := na) (by kernel_rfl) ((inv.ev 51).trans rfl)) (fun hx => run_ld (p := ⟨g2, 4, none⟩) ho ((inv.ev 54).trans (show (if na = true then undef else _) = _ by rw [hx]; rfl)) (ld4 _ _ _ r4))) ?_
  intro a32 E32 inv32
  have inv := inv32
  refine tk hQ 33 56 (.pick (.tmp 51) (.const (.bool true)) (.tmp 55)) (none) (.bool (na || na2)) inv (by decide) nosel (by kernel_rfl) (by kernel_rfl) (by kernel_rfl) (fun o ho hg => Y_plainA hg (fun w => (run_pk (b := na) (v := .bool true) (u := if na = true then undef else .bool na2) ho ((inv.ev 51).trans rfl) rfl ((inv.ev 55).trans rfl)).trans (by cases na <;> rfl))) ?_
  intro a33 E33 inv33
  have inv := inv33
  refine tk hQ 34 57 (.move (.tmp 0)) (none) ((.pointer (some ⟨g, 0, none⟩))) inv (by decide) nosel (by kernel_rfl) (by kernel_rfl) (by kernel_rfl) (fun o ho hg => Y_plainA hg (fun w => run_mv ho ((inv.ev 0).trans p0))) ?_
  intro a34 E34 inv34
  have inv := inv34
  refine tk hQ 35 58 (.nilCheck (.tmp 57)) (none) ((.pointer (some ⟨g, 0, none⟩))) inv (by decide) nosel (by kernel_rfl) (by kernel_rfl) (by kernel_rfl) (fun o ho hg => Y_plainA hg (fun w => run_nc ho ((inv.ev 57).trans rfl))) ?_
  intro a35 E35 inv35
  have inv := inv35
  refine tk hQ 36 59 (.fieldAddr 114 (.tmp 58) 4) (none) ((.pointer (some ⟨g, 5, none⟩))) inv (by decide) nosel (by kernel_rfl) (by kernel_rfl) (by kernel_rfl) (fun o ho hg => Y_plainA hg (fun w => run_fa ho ((inv.ev 58).trans rfl) (fa2A g 4 5 (by decide) w))) ?_
  intro a36 E36 inv36
  have inv := inv36
  refine tkR hQ 37 60 (.load 4 (.tmp 59)) (none) (.bool ot) inv (by decide) nosel (by kernel_rfl) (by kernel_rfl) (by kernel_rfl) (fun o ho hg => Y_plain hg (run_ld (p := ⟨g, 5, none⟩) ho ((inv.ev 59).trans rfl) (ld4 _ _ _ q5))) ?_
  intro a37 E37 inv37
  have inv := inv37
  refine tk hQ 38 61 (.move (.tmp 60)) (none) (.bool ot) inv (by decide) nosel (by kernel_rfl) (by kernel_rfl) (by kernel_rfl) (fun o ho hg => Y_plainA hg (fun w => run_mv ho ((inv.ev 60).trans rfl))) ?_
  intro a38 E38 inv38
  have inv := inv38
  refine tk hQ 39 62 (.move (.tmp 1)) (some (38, false)) (if ot = true then undef else (.pointer (some ⟨g2, 0, none⟩))) inv (by decide) nosel (by kernel_rfl) (by kernel_rfl) (by kernel_rfl) (fun o ho hg => Y_guardA hg (yM (t := 61) (b := ot) (by kernel_rfl) ((inv.ev 61).trans rfl)) (fun hx w => run_mv ho ((inv.ev 1).trans p1))) ?_
  intro a39 E39 inv39
  have inv := inv39
  refine tk hQ 40 63 (.nilCheck (.tmp 62)) (some (38, false)) (if ot = true then undef else (.pointer (some ⟨g2, 0, none⟩))) inv (by decide) nosel (by kernel_rfl) (by kernel_rfl) (by kernel_rfl) (fun o ho hg => Y_guardA hg (yM (t := 61) (b := ot) (by kernel_rfl) ((inv.ev 61).trans rfl)) (fun hx w => run_nc (p := ⟨g2, 0, none⟩) ho ((inv.ev 62).trans (show (if ot = true then undef else _) = _ by rw [hx]; rfl)))) ?_
  intro a40 E40 inv40
  have inv := inv40
  refine tk hQ 41 64 (.fieldAddr 114 (.tmp 63) 4) (some (38, false)) (if ot = true then undef else (.pointer (some ⟨g2, 5, none⟩))) inv (by decide) nosel (by kernel_rfl) (by kernel_rfl) (by kernel_rfl) (fun o ho hg => Y_guardA hg (yM (t := 61) (b := ot) (by kernel_rfl) ((inv.ev 61).trans rfl)) (fun hx w => run_fa (g := g2) ho ((inv.ev 63).trans (show (if ot = true then undef else _) = _ by rw [hx]; rfl)) (fa2A g2 4 5 (by decide) w))) ?_
  intro a41 E41 inv41
  have inv := inv41
  refine tkR hQ 42 65 (.load 4 (.tmp 64)) (some (38, false)) (if ot = true then undef else (.bool ot2)) inv (by decide) nosel (by kernel_rfl) (by kernel_rfl) (by kernel_rfl) (fun o ho hg => Y_guard hg (yM (t := 61) (b := ot) (by kernel_rfl) ((inv.ev 61).trans rfl)) (fun hx => run_ld (p := ⟨g2, 5, none⟩) ho ((inv.ev 64).trans (show (if ot = true then undef else _) = _ by rw [hx]; rfl)) (ld4 _ _ _ r5))) ?_
  intro a42 E42 inv42
  have inv := inv42
  refine tk hQ 43 66 (.pick (.tmp 61) (.const (.bool true)) (.tmp 65)) (none) (.bool (ot || ot2)) inv (by decide) nosel (by kernel_rfl) (by kernel_rfl) (by kernel_rfl) (fun o ho hg => Y_plainA hg (fun w => (run_pk (b := ot) (v := .bool true) (u := if ot = true then undef else .bool ot2) ho ((inv.ev 61).trans rfl) rfl ((inv.ev 65).trans rfl)).trans (by cases ot <;> rfl))) ?_
  intro a43 E43 inv43
  have inv := inv43
  refine tk hQ 44 67 (.nilCheck (.tmp 23)) (none) ((.pointer (some ⟨g, 0, none⟩))) inv (by decide) nosel (by kernel_rfl) (by kernel_rfl) (by kernel_rfl) (fun o ho hg => Y_plainA hg (fun w => run_nc ho ((inv.ev 23).trans rfl))) ?_
  intro a44 E44 inv44
  have inv := inv44
  refine tk hQ 45 68 (.fieldAddr 114 (.tmp 67) 1) (none) ((.pointer (some ⟨g, 2, none⟩))) inv (by decide) nosel (by kernel_rfl) (by kernel_rfl) (by kernel_rfl) (fun o ho hg => Y_plainA hg (fun w => run_fa ho ((inv.ev 67).trans rfl) (fa2A g 1 2 (by decide) w))) ?_
  intro a45 E45 inv45
  have inv := inv45
  have n2 : V.cell? ⟨g, 2, none⟩ = some (.bool pl) := by exact q2
  have f2 : V.frozen? ⟨g, 2, none⟩ = false := by exact z0 2
  refine tkS 46 (.tmp 68) (.tmp 36) ⟨g, 2, none⟩ (pl || pl2) (.bool pl) (by kernel_rfl) (by kernel_rfl) ((inv.ev 68).trans rfl) ((inv.ev 36).trans rfl) n2 f2 ?_
  refine tk hQ 47 69 (.nilCheck (.tmp 24)) (none) ((.pointer (some ⟨g, 0, none⟩))) inv (by decide) nosel (by kernel_rfl) (by kernel_rfl) (by kernel_rfl) (fun o ho hg => Y_plainA hg (fun w => run_nc ho ((inv.ev 24).trans rfl))) ?_
  intro a47 E47 inv47
  have inv := inv47
  refine tk hQ 48 70 (.fieldAddr 114 (.tmp 69) 2) (none) ((.pointer (some ⟨g, 3, none⟩))) inv (by decide) nosel (by kernel_rfl) (by kernel_rfl) (by kernel_rfl) (fun o ho hg => Y_plainA hg (fun w => run_fa ho ((inv.ev 69).trans rfl) (fa2A g 2 3 (by decide) w))) ?_
  intro a48 E48 inv48
  have inv := inv48
  have n3 : (V.setCell ⟨g, 2, none⟩ (.bool (pl || pl2))).cell? ⟨g, 3, none⟩ = some (.bool mi) := by rw [cellG _ g 2 3 _ (by decide)]; exact q3
  have f3 : (V.setCell ⟨g, 2, none⟩ (.bool (pl || pl2))).frozen? ⟨g, 3, none⟩ = false := by rw [World.frozen?_setCell]; exact z0 3
  refine tkS 49 (.tmp 70) (.tmp 46) ⟨g, 3, none⟩ (mi || mi2) (.bool mi) (by kernel_rfl) (by kernel_rfl) ((inv.ev 70).trans rfl) ((inv.ev 46).trans rfl) n3 f3 ?_
  refine tk hQ 50 71 (.nilCheck (.tmp 25)) (none) ((.pointer (some ⟨g, 0, none⟩))) inv (by decide) nosel (by kernel_rfl) (by kernel_rfl) (by kernel_rfl) (fun o ho hg => Y_plainA hg (fun w => run_nc ho ((inv.ev 25).trans rfl))) ?_
  intro a50 E50 inv50
  have inv := inv50
  refine tk hQ 51 72 (.fieldAddr 114 (.tmp 71) 3) (none) ((.pointer (some ⟨g, 4, none⟩))) inv (by decide) nosel (by kernel_rfl) (by kernel_rfl) (by kernel_rfl) (fun o ho hg => Y_plainA hg (fun w => run_fa ho ((inv.ev 71).trans rfl) (fa2A g 3 4 (by decide) w))) ?_
  intro a51 E51 inv51
  have inv := inv51
  have n4 : ((V.setCell ⟨g, 2, none⟩ (.bool (pl || pl2))).setCell ⟨g, 3, none⟩ (.bool (mi || mi2))).cell? ⟨g, 4, none⟩ = some (.bool na) := by rw [cellG _ g 3 4 _ (by decide)]; rw [cellG _ g 2 4 _ (by decide)]; exact q4
  have f4 : ((V.setCell ⟨g, 2, none⟩ (.bool (pl || pl2))).setCell ⟨g, 3, none⟩ (.bool (mi || mi2))).frozen? ⟨g, 4, none⟩ = false := by rw [World.frozen?_setCell]; rw [World.frozen?_setCell]; exact z0 4
  refine tkS 52 (.tmp 72) (.tmp 56) ⟨g, 4, none⟩ (na || na2) (.bool na) (by kernel_rfl) (by kernel_rfl) ((inv.ev 72).trans rfl) ((inv.ev 56).trans rfl) n4 f4 ?_
  refine tk hQ 53 73 (.nilCheck (.tmp 26)) (none) ((.pointer (some ⟨g, 0, none⟩))) inv (by decide) nosel (by kernel_rfl) (by kernel_rfl) (by kernel_rfl) (fun o ho hg => Y_plainA hg (fun w => run_nc ho ((inv.ev 26).trans rfl))) ?_
  intro a53 E53 inv53
  have inv := inv53
  refine tk hQ 54 74 (.fieldAddr 114 (.tmp 73) 4) (none) ((.pointer (some ⟨g, 5, none⟩))) inv (by decide) nosel (by kernel_rfl) (by kernel_rfl) (by kernel_rfl) (fun o ho hg => Y_plainA hg (fun w => run_fa ho ((inv.ev 73).trans rfl) (fa2A g 4 5 (by decide) w))) ?_
  intro a54 E54 inv54
  have inv := inv54
  have n5 : (((V.setCell ⟨g, 2, none⟩ (.bool (pl || pl2))).setCell ⟨g, 3, none⟩ (.bool (mi || mi2))).setCell ⟨g, 4, none⟩ (.bool (na || na2))).cell? ⟨g, 5, none⟩ = some (.bool ot) := by rw [cellG _ g 4 5 _ (by decide)]; rw [cellG _ g 3 5 _ (by decide)]; rw [cellG _ g 2 5 _ (by decide)]; exact q5
  have f5 : (((V.setCell ⟨g, 2, none⟩ (.bool (pl || pl2))).setCell ⟨g, 3, none⟩ (.bool (mi || mi2))).setCell ⟨g, 4, none⟩ (.bool (na || na2))).frozen? ⟨g, 5, none⟩ = false := by rw [World.frozen?_setCell]; rw [World.frozen?_setCell]; rw [World.frozen?_setCell]; exact z0 5
  refine tkS 55 (.tmp 74) (.tmp 66) ⟨g, 5, none⟩ (ot || ot2) (.bool ot) (by kernel_rfl) (by kernel_rfl) ((inv.ev 74).trans rfl) ((inv.ev 66).trans rfl) n5 f5 ?_
  refine wpAny_done (by kernel_rfl) ?_ _
  obtain rfl := E0.out
  obtain rfl := E1.out
  obtain rfl := E2.out
  obtain rfl := E3.out
  obtain rfl := E4.out
  obtain rfl := E5.out
  obtain rfl := E6.out
  obtain rfl := E7.out
  obtain rfl := E8.out
  obtain rfl := E9.out
  obtain rfl := E10.out
  obtain rfl := E11.out
  obtain rfl := E12.out
  obtain rfl := E13.out
  obtain rfl := E14.out
  obtain rfl := E15.out
  obtain rfl := E16.out
  obtain rfl := E17.out
  obtain rfl := E18.out
  obtain rfl := E19.out
  obtain rfl := E20.out
  obtain rfl := E21.out
  obtain rfl := E22.out
  obtain rfl := E23.out
  obtain rfl := E24.out
  obtain rfl := E25.out
  obtain rfl := E26.out
  obtain rfl := E27.out
  obtain rfl := E28.out
  obtain rfl := E29.out
  obtain rfl := E30.out
  obtain rfl := E31.out
  obtain rfl := E32.out
  obtain rfl := E33.out
  obtain rfl := E34.out
  obtain rfl := E35.out
  obtain rfl := E36.out
  obtain rfl := E37.out
  obtain rfl := E38.out
  obtain rfl := E39.out
  obtain rfl := E40.out
  obtain rfl := E41.out
  obtain rfl := E42.out
  obtain rfl := E43.out
  obtain rfl := E44.out
  obtain rfl := E45.out
  obtain rfl := E47.out
  obtain rfl := E48.out
  obtain rfl := E50.out
  obtain rfl := E51.out
  obtain rfl := E53.out
  obtain rfl := E54.out
  exact h _ rfl
end Go.Proofs.YtjngofngjbjpbaaGreatDoor
end
