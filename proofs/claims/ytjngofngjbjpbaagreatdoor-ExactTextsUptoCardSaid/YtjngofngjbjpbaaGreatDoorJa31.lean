/- regions that draw their order: an operation that only reads may be taken first, in the world as it stands, if what may come ahead of it only reads too. -/
import Derived.Orders
import Derived.RegionTactic
import Derived.Laws.Sem

section
set_option linter.unusedSimpArgs false
set_option linter.unusedVariables false
namespace Go.Proofs.YtjngofngjbjpbaaGreatDoor
open Go

/-- it leaves the world as it was -/
def KeepsW {α : Type} (P : Program) (s : Sem α) : Prop := ∀ w r w', s.run P w = .ok r w' → w' = w
theorem KeepsW.pure {α : Type} {P : Program} (a : α) : KeepsW P (Pure.pure a : Sem α) := fun w r w' h => by cases h; rfl
theorem KeepsW.halt {α : Type} {P : Program} (x : Halt) : KeepsW P (Sem.halt x : Sem α) := fun w r w' h => by cases h
theorem KeepsW.bind {α β : Type} {P : Program} {s : Sem α} {f : α → Sem β} (h1 : KeepsW P s) (h2 : ∀ a, KeepsW P (f a)) : KeepsW P (s >>= f) := fun w r w' h => by
  rw [Sem.run_bind] at h
  cases hs : s.run P w with
  | ok a w1 =>
    rw [hs] at h
    have e1 := h1 _ _ _ hs
    have e2 := h2 _ _ _ _ h
    rw [e2, e1]
  | halt x w1 => rw [hs] at h; cases h
theorem KeepsW.program {P : Program} : KeepsW P (Go.program) := fun w r w' h => by cases h; rfl
theorem KeepsW.load {P : Program} (a : Addr) (m : Mode) : KeepsW P (Go.load a m) := fun w r w' h => by
  rw [run_load] at h
  split at h
  · cases h; rfl
  · split at h
    · cases h; rfl
    · cases h
theorem KeepsW.underlying {P : Program} (t : TypeId) : KeepsW P (Go.underlying t) := by
  unfold Go.underlying
  refine KeepsW.bind KeepsW.program fun p => ?_
  split
  · exact KeepsW.pure _
  · exact KeepsW.halt _
theorem KeepsW.typeInfo {P : Program} (t : TypeId) : KeepsW P (Go.typeInfo t) := by
  unfold Go.typeInfo
  refine KeepsW.bind KeepsW.program fun p => ?_
  split
  · exact KeepsW.pure _
  · exact KeepsW.halt _
theorem KeepsW.sizeOf {P : Program} (t : TypeId) : KeepsW P (Go.sizeOf t) := KeepsW.bind (KeepsW.typeInfo t) fun _ => KeepsW.pure _
theorem KeepsW.isAgg {P : Program} (t : TypeId) : KeepsW P (Go.isAgg t) := by
  unfold Go.isAgg
  refine KeepsW.bind (KeepsW.underlying t) fun p => ?_
  split <;> exact KeepsW.pure _
theorem KeepsW.loadCellsFrom {P : Program} (a : Addr) : ∀ (n i : Nat) (acc : Array Value), KeepsW P (Go.loadCellsFrom a i n acc)
  | 0, i, acc => KeepsW.pure _
  | n + 1, i, acc => KeepsW.bind (KeepsW.load _ _) fun v => KeepsW.loadCellsFrom a n (i + 1) _
theorem KeepsW.loadVar {P : Program} (t : TypeId) (a : Addr) : KeepsW P (Go.loadVar t a) := by
  unfold Go.loadVar
  refine KeepsW.bind (KeepsW.isAgg t) fun b => ?_
  split
  · exact KeepsW.bind (KeepsW.sizeOf t) fun n => KeepsW.bind (KeepsW.loadCellsFrom a n 0 #[]) fun c => KeepsW.pure _
  · exact KeepsW.load _ _
theorem KeepsW.sureAddr {P : Program} (v : Value) : KeepsW P (Instr.sureAddr v) := by
  unfold Instr.sureAddr
  split
  · exact KeepsW.pure _
  · exact KeepsW.halt _
theorem KeepsW.nilDeref {α : Type} {P : Program} : KeepsW P (Go.runtimePanic .nilDeref : Sem α) :=
  KeepsW.bind KeepsW.program fun p => KeepsW.halt _
theorem KeepsW.asBool {P : Program} (v : Value) : KeepsW P (Go.asBool v) := by
  unfold Go.asBool
  split
  · exact KeepsW.pure _
  · exact KeepsW.halt _
theorem KeepsW.shape {P : Program} (r : Nat) : KeepsW P (Go.shape r) := fun w r w' h => by cases h; rfl
theorem KeepsW.part {P : Program} (t : TypeId) (cs : Array Value) (off : Nat) : KeepsW P (Go.part t cs off) := by
  unfold Go.part
  refine KeepsW.bind (KeepsW.isAgg t) fun b => ?_
  split
  · exact KeepsW.bind (KeepsW.sizeOf t) fun n => KeepsW.pure _
  · split
    · exact KeepsW.pure _
    · exact KeepsW.halt _
theorem KeepsW.followBlind {P : Program} : ∀ (l : List FieldStep) (t : TypeId) (x : Option Value), KeepsW P (followBlind l t x)
  | [], t, x => KeepsW.pure _
  | s :: rest, t, x => by
    unfold Go.followBlind
    refine KeepsW.bind (KeepsW.underlying _) fun d => ?_
    split
    · split
      · split
        · exact KeepsW.pure _
        · exact KeepsW.followBlind rest _ _
        · exact KeepsW.halt _
        · exact KeepsW.pure _
        · exact KeepsW.bind (KeepsW.part _ _ _) fun v => KeepsW.followBlind rest _ _
        · exact KeepsW.halt _
        · exact KeepsW.followBlind rest _ _
      · exact KeepsW.halt _
    · exact KeepsW.halt _
theorem KeepsW.nilAhead {P : Program} : ∀ (n : Nat) (t : TypeId) (v : Value) (s : String), KeepsW P (nilAhead n t v s)
  | 0, t, v, s => KeepsW.pure _
  | n + 1, t, v, s => by
    unfold Go.nilAhead
    refine KeepsW.bind (KeepsW.typeInfo _) fun d => ?_
    split
    · refine KeepsW.bind (KeepsW.followBlind _ _ _) fun r => ?_
      split
      · exact KeepsW.pure _
      · split
        · exact KeepsW.nilAhead n _ _ _
        · exact KeepsW.pure _
        · exact KeepsW.halt _
        · exact KeepsW.pure _
        · exact KeepsW.pure _
        · refine KeepsW.bind (KeepsW.underlying _) fun d => ?_
          split <;> exact KeepsW.pure _
    · exact KeepsW.halt _
theorem KeepsW.getObj {P : Program} (r : Nat) : KeepsW P (Go.getObj r) := fun w x w' h => by
  unfold Go.getObj at h
  simp only [Sem.run] at h
  split at h
  · cases h
  · cases h; rfl
  · cases h
theorem KeepsW.viewAt {P : Program} (r : Nat) : KeepsW P (Go.viewAt r) := by
  unfold Go.viewAt
  refine KeepsW.bind (KeepsW.shape _) fun d => ?_
  split
  · exact KeepsW.pure _
  · refine KeepsW.bind (KeepsW.getObj _) fun d => ?_
    split <;> exact KeepsW.pure _
theorem KeepsW.noView {P : Program} (a : Addr) : KeepsW P (Go.noView a) := by
  unfold Go.noView
  refine KeepsW.bind (KeepsW.viewAt _) fun d => ?_
  split
  · exact KeepsW.halt _
  · exact KeepsW.pure _
theorem KeepsW.byteOf {P : Program} (a : Addr) : KeepsW P (Go.byteOf a) := by
  unfold Go.byteOf
  split
  · exact KeepsW.pure _
  · refine KeepsW.bind KeepsW.program fun p => ?_
    refine KeepsW.bind (KeepsW.noView _) fun u => ?_
    refine KeepsW.bind (KeepsW.shape _) fun d => ?_
    split
    · dsimp only
      split
      · exact KeepsW.pure _
      · split
        · exact KeepsW.pure _
        · exact KeepsW.halt _
    · exact KeepsW.halt _
theorem KeepsW.fieldAt {P : Program} (t : TypeId) (v : Value) (n : Nat) : KeepsW P (Instr.fieldAt t v n) := by
  unfold Instr.fieldAt
  refine KeepsW.bind (KeepsW.underlying _) fun d => ?_
  split
  · split
    · refine KeepsW.bind (KeepsW.sureAddr _) fun a => ?_
      refine KeepsW.bind ?_ fun p => KeepsW.pure _
      unfold fieldPlace
      refine KeepsW.bind (KeepsW.sizeOf _) fun n => ?_
      split
      · unfold partAt
        refine KeepsW.bind (KeepsW.byteOf _) fun b => ?_
        refine KeepsW.bind (KeepsW.byteOf _) fun b => KeepsW.pure _
      · exact KeepsW.pure _
    · exact KeepsW.halt _
  · exact KeepsW.halt _

/-- the operations that only read -/
def rdOp : Op → Bool
  | .move _ | .assign _ | .pick .. | .load .. | .nilCheck _ | .fieldAddr .. => true
  | _ => false
theorem rd_keeps {P : Program} {o : Oper} (ho : rdOp o.op = true) (ρ : Operand → Value) (w : World) (n : Next) (w' : World) (h : (execOp ρ o).run P w = .ok n w') : w' = w ∧ ∃ u, n = .value u := by
  have hv : ∀ (s : Sem Value), KeepsW P s → (s >>= fun v => (Pure.pure (Next.value v) : Sem Next)).run P w = .ok n w' → w' = w ∧ ∃ u, n = .value u := fun s hs h => by
    rw [Sem.run_bind] at h
    cases hr : s.run P w with
    | ok a w1 => rw [hr] at h; cases h; exact ⟨hs _ _ _ hr, _, rfl⟩
    | halt x w1 => rw [hr] at h; cases h
  obtain ⟨dst, op, ty, pos, after, guard⟩ := o
  cases op <;> simp only [rdOp] at ho <;> try (exact absurd ho (by decide))
  case move x => simp only [execOp] at h; cases h; exact ⟨rfl, _, rfl⟩
  case assign x => simp only [execOp] at h; cases h; exact ⟨rfl, _, rfl⟩
  case pick c a b =>
    simp only [execOp] at h
    rw [Sem.run_bind] at h
    cases hr : (asBool (ρ c)).run P w with
    | ok a w1 => rw [hr] at h; cases h; exact ⟨KeepsW.asBool _ _ _ _ hr, _, rfl⟩
    | halt x w1 => rw [hr] at h; cases h
  case load t a => exact hv _ (KeepsW.bind (KeepsW.sureAddr _) fun _ => KeepsW.loadVar _ _) h
  case fieldAddr t x f => exact hv _ (KeepsW.fieldAt _ _ _) h
  case nilCheck x =>
    simp only [execOp] at h
    have hk : ∀ s : Sem Next, (∀ w n w', s.run P w = .ok n w' → w' = w ∧ ∃ u, n = .value u) → s.run P w = .ok n w' → w' = w ∧ ∃ u, n = .value u := fun s hs h => hs _ _ _ h
    have hpure : ∀ v, (Pure.pure (Next.value v) : Sem Next).run P w = .ok n w' → w' = w ∧ ∃ u, n = .value u := fun v h => by cases h; exact ⟨rfl, _, rfl⟩
    have hpanic : (Go.runtimePanic .nilDeref : Sem Next).run P w = .ok n w' → w' = w ∧ ∃ u, n = .value u := fun h => by
      unfold Go.runtimePanic at h
      rw [Sem.run_bind] at h
      cases h
    split at h
    · exact hpanic h
    · exact hpanic h
    · exact hpanic h
    · split at h
      · exact hpanic h
      · rw [Sem.run_bind] at h
        cases hr : (Go.program).run P w with
        | ok p w1 =>
          rw [hr] at h
          have e1 := KeepsW.program _ _ _ hr
          subst e1
          simp only [Result.andThen_ok] at h
          rw [Sem.run_bind] at h
          cases hq : (nilAhead (p.types.size + Made.depth) _ _ _).run P w1 with
          | ok b w2 =>
            rw [hq] at h
            have e2 := KeepsW.nilAhead _ _ _ _ _ _ _ hq
            subst e2
            simp only [Result.andThen_ok] at h
            split at h
            · rw [Sem.run_bind] at h; cases h
            · exact hpure _ h
          | halt x w2 => rw [hq] at h; cases h
        | halt x w1 => rw [hr] at h; cases h
      · exact hpure _ h
    · exact hpure _ h

section
variable {P : Program} {ops : Array Oper} {Q : Exit → Act → World → Prop} {md : Region.Mode}
/-- in this state and this world the operation yields v and leaves the world as it was -/
def YieldsAt (P : Program) (ops : Array Oper) (w : World) (o : Oper) (v : Value) (a : Act) : Prop :=
  (Region.wanted o (yielded ops a.tmps) = true ∧ (execOp a.eval o).run P w = .ok (.value v) w) ∨
  (Region.wanted o (yielded ops a.tmps) = false ∧ v = undef)
theorem YieldsAt.wpOp {i : Nat} {o : Oper} {v : Value} {a : Act} {w : World} (hi : ops[i]? = some o) (hy : YieldsAt P ops w o v a)
    {K : Act → World → Prop} (h : K (a.put o.dst v) w) : wpOp P ops Q i K a w := by
  unfold Go.wpOp
  simp only [hi]
  rcases hy with ⟨hw, hv⟩ | ⟨hw, rfl⟩
  · simp only [hw, if_true, Oper.wp, hv, Oper.upon]; exact .inl h
  · simp only [hw, Bool.false_eq_true, if_false]; exact h
theorem YieldsAt.of_same {w : World} {o : Oper} {v : Value} {a a' : Act} (hy : YieldsAt P ops w o v a) (he : execOp a'.eval o = execOp a.eval o)
    (hw : Region.wanted o (yielded ops a'.tmps) = Region.wanted o (yielded ops a.tmps)) : YieldsAt P ops w o v a' := by
  unfold YieldsAt at *
  rw [he, hw]
  exact hy
theorem wpOp_putR {j : Nat} {oi oj : Oper} {v : Value} (hj : ops[j]? = some oj) (hap : oi.apart ops oj = true) (hrd : rdOp oj.op = true)
    (hsi : ∀ cs b, oi.op ≠ .select cs b) (hsj : ∀ cs b, oj.op ≠ .select cs b)
    (hQ : ∀ c a w, Q (.panic c) (a.put oi.dst v) w → Q (.panic c) a w) {K : Act → World → Prop} {a : Act} {w : World}
    (hy : YieldsAt P ops w oi v a) (h : wpOp P ops Q j K (a.put oi.dst v) w) :
    wpOp P ops Q j (fun a' w' => w' = w ∧ YieldsAt P ops w oi v a' ∧ K (a'.put oi.dst v) w') a w := by
  obtain ⟨h1, h2, h3⟩ := Oper.apart_spec hap
  have keep : ∀ (a : Act), YieldsAt P ops w oi v a → ∀ u, YieldsAt P ops w oi v (a.put oj.dst u) := fun a hy u =>
    hy.of_same (execOp_put oi hsi a oj.dst u h3) (wanted_put oi a oj.dst u h3)
  unfold wpOp at *
  simp only [hj] at *
  rw [wanted_put oj a oi.dst v h1] at h
  split
  · rename_i hw
    simp only [hw, if_true] at h
    rcases h with h | ⟨hasks, hlets⟩
    case inr => exact .inr ⟨by unfold Oper.asks at *; rw [execOp_put oj hsj a oi.dst v h1] at hasks; exact hasks, hlets⟩
    refine .inl ?_
    unfold Oper.wp at *
    rw [execOp_put oj hsj a oi.dst v h1] at h
    have hrd' := rd_keeps (P := P) hrd a.eval w
    generalize (execOp a.eval oj).run P w = r at *
    cases r with
    | ok n w' =>
      obtain ⟨e1, u, e2⟩ := hrd' n w' rfl
      subst e1 e2
      simp only [Oper.upon] at h ⊢
      exact ⟨trivial, keep a hy u, by rw [← Act.put_comm a v u h2]; exact h⟩
    | halt x w' =>
      cases x <;> simp only [Oper.upon] at h ⊢
      case panic u => exact hQ _ _ _ h
      all_goals exact h
  · rename_i hw
    simp only [hw] at h
    exact ⟨trivial, keep a hy _, by rw [← Act.put_comm a v undef h2]; exact h⟩
theorem wpAny_firstR {i : Nat} {oi : Oper} {v : Value} (hi : ops[i]? = some oi) (hsel : ∀ (j : Nat) (o : Oper) cs b, ops[j]? = some o → o.op ≠ .select cs b)
    (hQ : ∀ c a w, Q (.panic c) (a.put oi.dst v) w → Q (.panic c) a w) :
    ∀ (fuel : Nat) (listed : Array Bool) (a : Act) (w : World),
      (∀ j oj, ops[j]? = some oj → j ≠ i → listed.getD j true = false → (∀ e ∈ oj.after, Region.binds md e = true → e.on ≠ i) → oi.apart ops oj = true ∧ rdOp oj.op = true) →
      i ∈ Region.ready md ops listed → YieldsAt P ops w oi v a →
      wpAny P md ops Q fuel (listed.setIfInBounds i true) (a.put oi.dst v) w → wpAny P md ops Q (fuel + 1) listed a w := by
  intro fuel
  induction fuel with
  | zero =>
    intro listed a w _ hr hy H
    refine ⟨fun h => (by rw [h] at hr; cases hr), fun j hj => ?_⟩
    by_cases hji : j = i
    · subst hji; exact hy.wpOp hi H
    · have := ready_mono hj hji
      rw [H.1] at this
      cases this
  | succ fuel ih =>
    intro listed a w hfree hr hy H
    refine ⟨fun h => (by rw [h] at hr; cases hr), fun j hj => ?_⟩
    by_cases hji : j = i
    · subst hji; exact hy.wpOp hi H
    · have h1 := H.2 j (ready_mono hj hji)
      obtain ⟨hjun, oj, hoj, hall⟩ := mem_ready.1 hj
      have hnot : ∀ e ∈ oj.after, Region.binds md e = true → e.on ≠ i := fun e he hb heq => by
        have h1 := hall e he hb
        have h0 := (mem_ready.1 hr).1
        rw [heq] at h1
        rcases Nat.lt_or_ge i listed.size with h' | h'
        · simp [h'] at h0 h1; rw [h0] at h1; cases h1
        · simp [Array.getElem?_eq_none h'] at h1
      have hf := hfree j oj hoj hji hjun hnot
      have h2 := wpOp_putR hoj hf.1 hf.2 (fun cs b => hsel i oi cs b hi) (fun cs b => hsel j oj cs b hoj) hQ hy h1
      have hfree' : ∀ k ok, ops[k]? = some ok → k ≠ i → (listed.setIfInBounds j true).getD k true = false →
          (∀ e ∈ ok.after, Region.binds md e = true → e.on ≠ i) → oi.apart ops ok = true ∧ rdOp ok.op = true := fun k ok hk hki hun hno => by
        refine hfree k ok hk hki ?_ hno
        by_cases hjk : j = k
        · subst hjk; exact hjun
        · rw [getD_set_ne true hjk] at hun; exact hun
      refine wpOp_mono (fun a' w' h3 => ?_) h2
      obtain ⟨e, h4, h5⟩ := h3
      subst e
      refine ih (listed.setIfInBounds j true) a' w' hfree' (ready_mono hr (Ne.symm hji)) h4 ?_
      rw [Array.setIfInBounds_comm _ _ hji]
      exact h5
def freeR (md : Region.Mode) (ops : Array Oper) (listed : Array Bool) (i : Nat) : Bool :=
  match ops[i]? with
  | none => false
  | some oi => (List.range ops.size).all fun j => j == i || listed.getD j true || match ops[j]? with
      | some oj => oj.after.any (fun e => Region.binds md e && e.on == i) || (oi.apart ops oj && rdOp oj.op)
      | none => true
theorem freeR_spec {i : Nat} {oi : Oper} {listed : Array Bool} (hi : ops[i]? = some oi) (h : freeR md ops listed i = true) (j : Nat) (oj : Oper)
    (hj : ops[j]? = some oj) (hne : j ≠ i) (hun : listed.getD j true = false) (hno : ∀ e ∈ oj.after, Region.binds md e = true → e.on ≠ i) :
    oi.apart ops oj = true ∧ rdOp oj.op = true := by
  simp only [freeR, hi, List.all_eq_true, List.mem_range] at h
  have h1 := h j (Array.getElem?_eq_some_iff.1 hj).1
  simp only [hj, Bool.or_eq_true, beq_iff_eq, hne, false_or, hun, Bool.false_eq_true, Bool.and_eq_true] at h1
  rcases h1 with h1 | h1
  · obtain ⟨e, he, hb⟩ := Array.any_eq_true'.1 h1
    simp only [Bool.and_eq_true, beq_iff_eq] at hb
    exact absurd hb.2 (hno e he hb.1)
  · exact h1
/-- an operation that may come up now is taken first, in the world as it stands -/
theorem wpAny_takeR {i : Nat} {oi : Oper} {v : Value} {fuel : Nat} {listed : Array Bool} {a : Act} {w : World} (hi : ops[i]? = some oi)
    (hs : Region.noSelect ops = true) (hf : freeR md ops listed i = true) (hr : (Region.ready md ops listed).contains i = true)
    (hQ : ∀ c a w, Q (.panic c) (a.put oi.dst v) w → Q (.panic c) a w) (hy : YieldsAt P ops w oi v a)
    (h : wpAny P md ops Q fuel (listed.setIfInBounds i true) (a.put oi.dst v) w) : wpAny P md ops Q (fuel + 1) listed a w :=
  wpAny_firstR hi (Region.noSelect_spec hs) hQ fuel listed a w (freeR_spec hi hf) (by simpa using hr) hy h
end
end Go.Proofs.YtjngofngjbjpbaaGreatDoor
end
