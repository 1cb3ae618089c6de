/- The words that all the texts use: what memory holds, and what a call leaves. append of one element to a row of the call's own; slices.Reverse at bytes. floats: their bits. -/
import Derived.Test.YtjngofngjbjpbaaGreatDoorProg
import Derived.Test.YtjngofngjbjpbaaGreatDoorJa2
import Derived.WalkKit
import Derived.WalkLawsBesides
import Derived.WalkSpells
import Derived.Deep.OwnRows
import Derived.Deep.QuietTactic
import Derived.BigQuiet
import Derived.KernelRfl
import Derived.Maps.AppendAt
import Derived.OwnWalk
import Derived.Laws.Externs
import Derived.Laws.FloatArith

section
set_option linter.unusedSimpArgs false
set_option linter.unusedVariables false
namespace Go.Proofs.YtjngofngjbjpbaaGreatDoor
open Go.RowKit

/-- All that was there is as it was; new blocks may lie behind it. -/
abbrev Ext (w w' : World) : Prop := Below w.heap.size w w'

abbrev v64 (n : Nat) : Value := .int .u64 (n : Int)


/-- n cells of type t lie at a slice's address; cell i holds f i -/
def RowAt (w : World) (t : TypeId) (A : Option Addr) (n : Nat) (f : Nat → Value) : Prop :=
  0 < n → ∃ g c, A = some ⟨g, 0, none⟩ ∧ w.heap[g]? = some (.cells c t (0, 0)) ∧ ∀ i, i < n → c[i]? = some (f i)

theorem RowAt.cell {w : World} {t : TypeId} {A : Option Addr} {n : Nat} {f : Nat → Value} (h : RowAt w t A n f) (h0 : 0 < n) :
    ∃ g, A = some ⟨g, 0, none⟩ ∧ g < w.heap.size ∧ ∀ i, i < n → w.cell? ⟨g, i, none⟩ = some (f i) := by
  obtain ⟨g, c, rfl, hb, hc⟩ := h h0
  exact ⟨g, rfl, (Array.getElem?_eq_some_iff.1 hb).1, fun i hi => by simp [World.cell?, hb, hc i hi]⟩
theorem RowAt.le {w : World} {t : TypeId} {A : Option Addr} {n m : Nat} {f : Nat → Value} (h : RowAt w t A n f) (hm : m ≤ n) : RowAt w t A m f := fun h0 => by
  obtain ⟨g, c, e, hb, hc⟩ := h (by omega)
  exact ⟨g, c, e, hb, fun i hi => hc i (by omega)⟩

/-- the first k places filled -/
def upTo (f : Nat → Nat) (k j : Nat) : Nat := if j < k then f j else 0
theorem upTo_lt {f : Nat → Nat} {k j : Nat} (h : j < k) : upTo f k j = f j := if_pos h
theorem upTo_zero (f : Nat → Nat) (j : Nat) : upTo f 0 j = 0 := rfl
theorem rowUp_set {w : World} {b t N : Nat} {f : Nat → Nat} {k : Nat} (h : w.rowIs b t N (fun j => v64 (upTo f k j))) {v : Nat} (hv : v = f k) : (w.setCell ⟨b, k, none⟩ (v64 v)).rowIs b t N (fun j => v64 (upTo f (k + 1) j)) :=
  (h.set k (v64 v)).congr fun j _ => by
    subst hv
    unfold upTo
    by_cases e : j = k
    · subst e; simp
    · by_cases h1 : j < k
      · simp [e, h1, show j < k + 1 by omega]
      · simp [e, h1, show ¬ j < k + 1 by omega]

theorem RowAt.ext {w w' : World} {t : TypeId} {A : Option Addr} {n : Nat} {f : Nat → Value} (h : RowAt w t A n f) (hx : Ext w w') : RowAt w' t A n f := fun h0 => by
  obtain ⟨g, c, e, hb, hc⟩ := h h0
  exact ⟨g, c, e, (hx.block g (Array.getElem?_eq_some_iff.1 hb).1).trans hb, hc⟩
theorem RowAt.of_rowIs {w : World} {b t N n : Nat} {f : Nat → Value} (h : w.rowIs b t N f) (hn : n ≤ N) : RowAt w t (some ⟨b, 0, none⟩) n f := fun _ => by
  obtain ⟨c, hb, _, hc⟩ := h
  exact ⟨b, c, rfl, hb, fun i hi => hc i (by omega)⟩
theorem RowAt.congr {w : World} {t : TypeId} {A : Option Addr} {n : Nat} {f g : Nat → Value} (h : RowAt w t A n f) (e : ∀ i, i < n → f i = g i) : RowAt w t A n g := fun h0 => by
  obtain ⟨b, c, e1, hb, hc⟩ := h h0
  exact ⟨b, c, e1, hb, fun i hi => by rw [hc i hi, e i hi]⟩
theorem bcell {W w1 : World} (hb : Ext W w1) : (∀ b o, b < W.heap.size → w1.cell? ⟨b, o, none⟩ = W.cell? ⟨b, o, none⟩) ∧ (∀ b o, b < W.heap.size → w1.frozen? ⟨b, o, none⟩ = W.frozen? ⟨b, o, none⟩) :=
  ⟨fun b o h => hb.cell (p := ⟨b, o, none⟩) h, fun b o h => hb.frozen (p := ⟨b, o, none⟩) h⟩
theorem Ext.rfl' (w : World) : Ext w w := Below.refl _ _
theorem Ext.trans' {a b c : World} (h : Ext a b) (k : Ext b c) : Ext a c := Below.trans h (k.mono h.size)
theorem Ext.undrew {a b : World} (h : Ext a.drew b) : Ext a b := ⟨h.os, h.tape, h.output, h.size, h.block⟩
theorem Ext.alloc' {a b : World} (h : Ext a b) (o : Obj) : Ext a (b.alloc o) := Below.alloc h h.size o

theorem below_draws {B : Nat} {a b : World} (h : Below B a b) (n : Nat) : Below B a (b.drewN n) := ⟨h.os, h.tape, h.output, h.size, h.block⟩

def sg (neg : Bool) (m : Nat) : Int := if neg then -(m : Int) else (m : Int)

/-- a whole number of the program's package whole, part by part: at most k words -/
structure IsInt (w : World) (neg : Bool) (A : Option Addr) (n c k : Nat) (z : Int) : Prop where mk ::
  ex : ∃ f, n ≤ c ∧ n ≤ k ∧ RowAt w 29 A n (fun i => v64 (f i)) ∧ (∀ i, i < n → f i < W64) ∧
    (0 < n → f (n - 1) ≠ 0) ∧ (neg = true → 0 < n) ∧ z = sg neg (valB W64 f n)
theorem IsInt.ext {w w' : World} {neg : Bool} {A : Option Addr} {n c k : Nat} {z : Int} (h : IsInt w neg A n c k z) (hx : Ext w w') : IsInt w' neg A n c k z := by
  obtain ⟨f, h2, h3, h4, h5⟩ := h.ex
  exact ⟨f, h2, h3, h4.ext hx, h5⟩
theorem IsInt.le {w : World} {neg : Bool} {A : Option Addr} {n c k k' : Nat} {z : Int} (h : IsInt w neg A n c k z) (hk : k ≤ k') : IsInt w neg A n c k' z := by
  obtain ⟨f, h2, h3, h4⟩ := h.ex
  exact ⟨f, h2, by omega, h4⟩
/-- the whole number as a value -/
abbrev intV (neg : Bool) (A : Option Addr) (n c : Nat) : Value := .agg #[.bool neg, .slice A n c]

/-- the type of a block's cells -/
def tyAt (w : World) (b : Nat) : Option TypeId := match w.heap[b]? with | some (.cells _ t _) => some t | _ => none
theorem tyAt_ext {w w' : World} (h : Ext w w') {b : Nat} (hb : b < w.heap.size) : tyAt w' b = tyAt w b := by simp only [tyAt, h.block b hb]
theorem tyAt_setCell (w : World) (a : Addr) (v : Value) (b : Nat) : tyAt (w.setCell a v) b = tyAt w b := by
  simp only [tyAt, World.setCell, Array.getElem?_modify]
  by_cases e : a.block = b
  · rw [if_pos e]
    cases w.heap[b]? with
    | none => rfl
    | some o => cases o <;> rfl
  · rw [if_neg e]
theorem tyAt_new (w : World) (c : Array Value) (t : TypeId) (fr : Nat × Nat) : tyAt (w.alloc (.cells c t fr)) w.heap.size = some t := by
  simp only [tyAt, heap_alloc_new]
theorem tyAt_old (w : World) (o : Obj) {b : Nat} (h : b < w.heap.size) : tyAt (w.alloc o) b = tyAt w b := by
  simp only [tyAt, Below.heap_alloc w o b h]
theorem tyAt_two (w : World) (o : Obj) (c : Array Value) (t : TypeId) (fr : Nat × Nat) : tyAt ((w.alloc o).alloc (.cells c t fr)) (w.heap.size + 1) = some t := by
  have h := tyAt_new (w.alloc o) c t fr
  rwa [World.size_alloc] at h
theorem tyAt_three (w : World) (o o' : Obj) (c : Array Value) (t : TypeId) (fr : Nat × Nat) : tyAt (((w.alloc o).alloc o').alloc (.cells c t fr)) (w.heap.size + 1 + 1) = some t := by
  have h := tyAt_two (w.alloc o) o' c t fr
  rwa [World.size_alloc] at h
theorem RowAt.setCell {w : World} {t : TypeId} {A : Option Addr} {n : Nat} {f : Nat → Value} (h : RowAt w t A n f) {a : Addr} (ha : tyAt w a.block ≠ some t) (v : Value) : RowAt (w.setCell a v) t A n f := fun h0 => by
  obtain ⟨g, c, e, hb, hc⟩ := h h0
  refine ⟨g, c, e, ?_, hc⟩
  rw [Below.heap_setCell _ _ _ _ (fun e => ha (by rw [← e]; simp [tyAt, hb]))]
  exact hb
theorem IsInt.setCell {w : World} {neg : Bool} {A : Option Addr} {n c k : Nat} {z : Int} (h : IsInt w neg A n c k z) {a : Addr} (ha : tyAt w a.block ≠ some 29) (v : Value) : IsInt (w.setCell a v) neg A n c k z := by
  obtain ⟨f, h2, h3, h4, h5⟩ := h.ex
  exact ⟨f, h2, h3, h4.setCell ha v, h5⟩
/-- a whole number stored as a result -/
theorem IsInt.stored {w : World} {neg : Bool} {A : Option Addr} {n c k : Nat} {z : Int} (h : IsInt w neg A n c k z) (b : Nat) (hb : tyAt w b = some 112) (u v : Value) :
    IsInt ((w.setCell ⟨b, 0, none⟩ u).setCell ⟨b, 1, none⟩ v) neg A n c k z :=
  (h.setCell (a := ⟨b, 0, none⟩) (by rw [show (⟨b, 0, none⟩ : Addr).block = b from rfl, hb]; decide) u).setCell (a := ⟨b, 1, none⟩) (by rw [tyAt_setCell, show (⟨b, 1, none⟩ : Addr).block = b from rfl, hb]; decide) v
theorem Ext.stored {w w1 : World} (h : Ext w w1) (b : Nat) (hb : w.heap.size ≤ b) (u v : Value) : Ext w ((w1.setCell ⟨b, 0, none⟩ u).setCell ⟨b, 1, none⟩ v) :=
  (h.setCell (p := ⟨b, 0, none⟩) hb u).setCell (p := ⟨b, 1, none⟩) hb v

theorem rowAt_new (w : World) (c : Array Value) (t : TypeId) (n : Nat) (f : Nat → Value) (h : ∀ i, i < n → c[i]? = some (f i)) : RowAt (w.alloc (.cells c t)) t (some ⟨w.heap.size, 0, none⟩) n f :=
  fun _ => ⟨w.heap.size, c, rfl, heap_alloc_new w _, h⟩
theorem rowAt_two (w : World) (o : Obj) (c : Array Value) (t : TypeId) (n : Nat) (f : Nat → Value) (h : ∀ i, i < n → c[i]? = some (f i)) : RowAt ((w.alloc o).alloc (.cells c t)) t (some ⟨w.heap.size + 1, 0, none⟩) n f := by
  have := rowAt_new (w.alloc o) c t n f h
  rwa [World.size_alloc] at this
theorem rowAt_one (w : World) (o : Obj) (v : Value) (t : TypeId) : RowAt ((w.alloc o).alloc (.cells #[v] t)) t (some ⟨w.heap.size + 1, 0, none⟩) 1 (fun _ => v) :=
  rowAt_two w o #[v] t 1 _ (fun i hi => by obtain rfl : i = 0 := by omega
                                           rfl)
theorem tyAt_first (w : World) (c : Array Value) (t : TypeId) (fr : Nat × Nat) (o : Obj) : tyAt ((w.alloc (.cells c t fr)).alloc o) w.heap.size = some t := by
  rw [tyAt_old _ _ (by simp), tyAt_new]

/-! blocks just made: the k-th of n -/
theorem blk_1_1 (w : World) (o : Obj) : (w.alloc o).heap[w.heap.size]? = some o := heap_alloc_new w o
theorem blk_1_2 (w : World) (o o2 : Obj) : ((w.alloc o).alloc o2).heap[w.heap.size]? = some o := (Below.heap_alloc _ _ _ (by simp)).trans (heap_alloc_new w o)
theorem blk_2_2 (w : World) (o o2 : Obj) : ((w.alloc o).alloc o2).heap[w.heap.size + 1]? = some o2 := by
  have := heap_alloc_new (w.alloc o) o2
  rwa [World.size_alloc] at this
theorem blk_1_3 (w : World) (o o2 o3 : Obj) : (((w.alloc o).alloc o2).alloc o3).heap[w.heap.size]? = some o := (Below.heap_alloc _ _ _ (by simp; omega)).trans (blk_1_2 w o o2)
theorem blk_2_3 (w : World) (o o2 o3 : Obj) : (((w.alloc o).alloc o2).alloc o3).heap[w.heap.size + 1]? = some o2 := by
  have := blk_1_2 (w.alloc o) o2 o3
  rwa [World.size_alloc] at this
theorem blk_3_3 (w : World) (o o2 o3 : Obj) : (((w.alloc o).alloc o2).alloc o3).heap[w.heap.size + 1 + 1]? = some o3 := by
  have := blk_2_2 (w.alloc o) o2 o3
  rwa [World.size_alloc] at this
theorem cell_of_blk {w : World} {b : Nat} {c : Array Value} {t : TypeId} {fr : Nat × Nat} (h : w.heap[b]? = some (.cells c t fr)) (i : Nat) : w.cell? ⟨b, i, none⟩ = c[i]? := by simp [World.cell?, h]
theorem frozen_of_blk {w : World} {b : Nat} {c : Array Value} {t : TypeId} (h : w.heap[b]? = some (.cells c t (0, 0))) (i : Nat) : w.frozen? ⟨b, i, none⟩ = false := by simp [World.frozen?, h]
theorem tyAt_of_blk {w : World} {b : Nat} {c : Array Value} {t : TypeId} {fr : Nat × Nat} (h : w.heap[b]? = some (.cells c t fr)) : tyAt w b = some t := by simp [tyAt, h]
theorem blk_setCell {w : World} {b : Nat} {c : Array Value} {t : TypeId} {fr : Nat × Nat} (h : w.heap[b]? = some (.cells c t fr)) (i : Nat) (v : Value) : (w.setCell ⟨b, i, none⟩ v).heap[b]? = some (.cells (c.setIfInBounds i v) t fr) := by
  simp [World.setCell, Array.getElem?_modify, h]
theorem ret_int' {w1 : World} {b : Nat} {p q : Value} (h1 : w1.heap[b]? = some (.cells #[p, q] 112 (0, 0))) {neg : Bool} {A : Option Addr} {n c k : Nat} {z : Int} (hi : IsInt w1 neg A n c k z) :
    IsInt ((w1.setCell ⟨b, 0, none⟩ (.bool neg)).setCell ⟨b, 1, none⟩ (.slice A n c)) neg A n c k z ∧
    ((w1.setCell ⟨b, 0, none⟩ (.bool neg)).setCell ⟨b, 1, none⟩ (.slice A n c)).cell? ⟨b, 0, none⟩ = some (.bool neg) ∧
    ((w1.setCell ⟨b, 0, none⟩ (.bool neg)).setCell ⟨b, 1, none⟩ (.slice A n c)).cell? ⟨b, 1, none⟩ = some (.slice A n c) := by
  have h2 := blk_setCell h1 0 (.bool neg)
  have h3 := blk_setCell h2 1 (.slice A n c)
  exact ⟨hi.stored b (tyAt_of_blk h1) _ _, by rw [cell_of_blk h3]; rfl, by rw [cell_of_blk h3]; rfl⟩
/-- two boxes exchange what they hold -/
theorem swap_boxes {w1 : World} {n : Nat} {p q r s : Value} {o : Option Obj} (b1 : w1.heap[n]? = some (.cells #[p, q] 112 (0, 0))) (b2 : w1.heap[n + 1]? = some (.cells #[r, s] 112 (0, 0))) (b3 : w1.heap[n + 1 + 1]? = o) :
    ((((w1.setCell ⟨n, 0, none⟩ r).setCell ⟨n, 1, none⟩ s).setCell ⟨n + 1, 0, none⟩ p).setCell ⟨n + 1, 1, none⟩ q).heap[n]? = some (.cells #[r, s] 112 (0, 0)) ∧
    ((((w1.setCell ⟨n, 0, none⟩ r).setCell ⟨n, 1, none⟩ s).setCell ⟨n + 1, 0, none⟩ p).setCell ⟨n + 1, 1, none⟩ q).heap[n + 1]? = some (.cells #[p, q] 112 (0, 0)) ∧
    ((((w1.setCell ⟨n, 0, none⟩ r).setCell ⟨n, 1, none⟩ s).setCell ⟨n + 1, 0, none⟩ p).setCell ⟨n + 1, 1, none⟩ q).heap[n + 1 + 1]? = o ∧
    ((((w1.setCell ⟨n, 0, none⟩ r).setCell ⟨n, 1, none⟩ s).setCell ⟨n + 1, 0, none⟩ p).setCell ⟨n + 1, 1, none⟩ q).heap.size = w1.heap.size := by
  refine ⟨?_, ?_, ?_, by simp [World.setCell]⟩
  · rw [Below.heap_setCell _ _ _ _ (by simp), Below.heap_setCell _ _ _ _ (by simp)]
    exact blk_setCell (blk_setCell b1 0 r) 1 s
  · refine blk_setCell (c := #[p, s]) (blk_setCell (c := #[r, s]) ?_ 0 p) 1 q
    rw [Below.heap_setCell _ _ _ _ (by simp), Below.heap_setCell _ _ _ _ (by simp)]
    exact b2
  · rw [Below.heap_setCell _ _ _ _ (by simp), Below.heap_setCell _ _ _ _ (by simp), Below.heap_setCell _ _ _ _ (by simp; omega), Below.heap_setCell _ _ _ _ (by simp; omega)]
    exact b3
/-- a whole number stored as a call's result, read again -/
theorem ret_int {W w1 : World} (hx : Ext W w1) {b : Nat} {p q : Value} (hW : W.heap[b]? = some (.cells #[p, q] 112 (0, 0))) {neg : Bool} {A : Option Addr} {n c k : Nat} {z : Int} (hi : IsInt w1 neg A n c k z) :
    IsInt ((w1.setCell ⟨b, 0, none⟩ (.bool neg)).setCell ⟨b, 1, none⟩ (.slice A n c)) neg A n c k z ∧
    ((w1.setCell ⟨b, 0, none⟩ (.bool neg)).setCell ⟨b, 1, none⟩ (.slice A n c)).cell? ⟨b, 0, none⟩ = some (.bool neg) ∧
    ((w1.setCell ⟨b, 0, none⟩ (.bool neg)).setCell ⟨b, 1, none⟩ (.slice A n c)).cell? ⟨b, 1, none⟩ = some (.slice A n c) := by
  have h1 := (hx.block b (Array.getElem?_eq_some_iff.1 hW).1).trans hW
  have h2 := blk_setCell h1 0 (.bool neg)
  have h3 := blk_setCell h2 1 (.slice A n c)
  exact ⟨hi.stored b (tyAt_of_blk h1) _ _, by rw [cell_of_blk h3]; rfl, by rw [cell_of_blk h3]; rfl⟩

/-! sums that do not wrap -/
theorem wrap_in (x : Int) (h0 : -9223372036854775808 ≤ x) (h1 : x ≤ 9223372036854775807) : wrap64 x = x := by unfold wrap64; omega
theorem wrapI_in (x : Int) (h0 : -9223372036854775808 ≤ x) (h1 : x ≤ 9223372036854775807) : IntKind.i64.wrap x = x := by rw [IntKind.wrap_i64]; omega
theorem wrap_add2 (a b : Nat) (h : a + b ≤ 9223372036854775807) : wrap64 ((a : Int) + b) = (a : Int) + b := wrap_in _ (by omega) (by omega)
theorem wrapI_add2 (a b : Nat) (h : a + b ≤ 9223372036854775807) : IntKind.i64.wrap ((a : Int) + b) = (a : Int) + b := wrapI_in _ (by omega) (by omega)
theorem wrap_lo (x r : Nat) : IntKind.u64.wrap ((x : Int) * 2 ^ r) = ((lo r x : Nat) : Int) := by
  rw [IntKind.wrap_u64]
  unfold lo W64
  rw [Int.natCast_emod, Int.natCast_mul, Int.natCast_pow]
  rfl
/-! the operators of uint64 on numbers -/
theorem run_shl64 (P : Program) (t : TypeId) (yk : IntKind) (x c : Nat) (hc : c ≤ 64) (w : World) : (binOp .shl t (v64 x) (.int yk (c : Int))).run P w = .ok (v64 (x * 2 ^ c % W64)) w := by

  simp [binOp, v64]
  rw [IntKind.wrap_u64]
  rfl
theorem run_shr64 (P : Program) (t : TypeId) (yk : IntKind) (x c : Nat) (hc : c ≤ 64) (w : World) : (binOp .shr t (v64 x) (.int yk (c : Int))).run P w = .ok (v64 (x / 2 ^ c)) w := by

  simp [binOp, v64]
theorem run_or64 (P : Program) (t : TypeId) (x y : Nat) (hx : x < W64) (hy : y < W64) (w : World) : (binOp .or t (v64 x) (v64 y)).run P w = .ok (v64 (x ||| y)) w := by
  have e := bits_or_u64_nat x y hx hy
  simp [binOp, v64, go_sem, e]
theorem or_one_even (q : Nat) (h : q * 2 + 1 < W64) : bits BinOp.or IntKind.u64 ((q * 2 : Nat) : Int) 1 = ((q * 2 + 1 : Nat) : Int) := by
  have e := bits_or_u64_nat (q * 2) 1 (by unfold W64 at h; omega) (by decide)
  have e2 : q * 2 ||| 1 = q * 2 + 1 := by
    have := Nat.two_pow_add_eq_or_of_lt (b := 1) (i := 1) (by decide) q
    rw [Nat.mul_comm q]; simpa using this.symm
  rw [e2] at e
  exact e
theorem run_and64 (P : Program) (t : TypeId) (x y : Nat) (hx : x < W64) (hy : y < W64) (w : World) : (binOp .and t (v64 x) (v64 y)).run P w = .ok (v64 (x &&& y)) w := by
  have e := bits_and_u64_nat x y hx hy
  simp [binOp, v64, go_sem, e]
end Go.Proofs.YtjngofngjbjpbaaGreatDoor
end

section
set_option linter.unusedSimpArgs false
set_option linter.unusedVariables false
namespace Go.Proofs.YtjngofngjbjpbaaGreatDoor
open Go.RowKit

section
variable {P : Program} {ops : Array Oper} {rest : List Oper} {o : Oper} {a : Act} {Q : Exit → Act → World → Prop}
/-- one element of one cell is appended; the goal's world is W with the variadic's box -/
theorem app1 {W : World} (base : Nat) (hgd : o.guard = none) (s x : Operand) (t e : TypeId) (z : Value) (bytes : Nat)
    (ho : o.op = .call { callee := .builtin .append, args := #[s, x], argTypes := #[t, t] })
    (ht : P.underlying t = some (.slice e)) (hinfo : (P.info? e).map (fun i => (i.zero, i.size, i.bytes)) = some (some z, 1, bytes)) (hz : z.cells.size = 1) (hb0 : 0 < bytes)
    (v : Value) (xs : List Value) (y : Value) (hs : a.eval s = v) (hx : a.eval x = .slice (some ⟨W.heap.size, 0, none⟩) 1 1) (h1 : y.oneCell' = true)
    (HO : W.ownsRow base e 1 v xs.length xs) (hbase : base ≤ W.heap.size) (hl : (xs.length + 1) * bytes ≤ 140737488355328)
    (h : ∀ v1 w1, w1.ownsRow base e 1 v1 (xs ++ [y]).length (xs ++ [y]) → W.grownBy w1 v.ownBlock → wpList P ops Q rest (a.put o.dst v1) w1) :
    wpList P ops Q (o :: rest) a (W.alloc (.cells #[y] e)) := by
  obtain ⟨i0, hi, hzz⟩ := Option.map_eq_some_iff.1 hinfo
  simp only [Prod.mk.injEq] at hzz
  obtain ⟨hz0, hz1, hz2⟩ := hzz
  have hlen : xs.length + 1 ≤ 140737488355328 := Nat.le_trans (Nat.le_mul_of_pos_right _ hb0) hl
  refine wpList_append_own (W.alloc (.cells #[y] e)) hgd s x t ho base e i0 z 1 bytes ht hi hz0 hz1 hz2 hz (by omega) v xs.length xs hs (HO.alloc _) ⟨W.heap.size, 0, none⟩ 1 1 [y] hx rfl
    ?_ (by simpa using h1) (by simp only [maxLen]; omega) hl (by simp; omega) ?_
  · intro j u hj
    match j, hj with
    | 0, hj =>
      simp at hj
      subst hj
      simp only [Addr.add, if_true]
      rw [cell_of_blk (blk_1_1 W _)]
      rfl
    | j + 1, hj => simp at hj
  · intro v1 w1 hown hg _
    exact h v1 w1 (by simpa using hown) (World.grownBy.trans (World.grownBy_alloc W _ _) hg)
end
theorem ownsRow_form {w : World} {base : Nat} {e : TypeId} {v : Value} {n : Nat} {xs : List Value} (h : w.ownsRow base e 1 v n xs) (h0 : 0 < n) :
    ∃ g cap cur, v = .slice (some ⟨g, 0, none⟩) n cap ∧ base ≤ g ∧ w.heap[g]? = some (.cells cur e (0, 0)) ∧ n ≤ cap ∧ cap ≤ 9223372036854775807 ∧ cur.size = cap ∧ ∀ (i : Nat) (x : Value), xs[i]? = some x → cur[i]? = some x := by
  rcases h.2 with ⟨_, h1⟩ | ⟨g, cap, cur, hv, hg, hb, h1, h2, h3, h4⟩
  · omega
  · refine ⟨g, cap, cur, hv, hg, hb, h1, h2, by omega, fun i x hx => ?_⟩
    rw [← h4] at hx
    have : i < n := by
      have := (List.getElem?_eq_some_iff.1 hx).1
      simp at this; omega
    rw [List.getElem?_take_of_lt (by omega)] at hx
    simpa using hx
abbrev v8 (n : Nat) : Value := .int .u8 (n : Int)

/-- a row of n turned round, k pairs being exchanged -/
def revK (f : Nat → Nat) (n k j : Nat) : Nat := if j < n ∧ (j < k ∨ n - 1 - k < j) then f (n - 1 - j) else f j
theorem revK_mid {f : Nat → Nat} {n k : Nat} (h : k < n - 1 - k) : revK f n k k = f k ∧ revK f n k (n - 1 - k) = f (n - 1 - k) := by
  unfold revK
  constructor <;> rw [if_neg (by omega)]
theorem revK_step {f : Nat → Nat} {n k j : Nat} (h : k < n - 1 - k) :
    (if j = n - 1 - k then v8 (f k) else if j = k then v8 (f (n - 1 - k)) else v8 (revK f n k j)) = v8 (revK f n (k + 1) j) := by
  by_cases e1 : j = n - 1 - k
  · rw [if_pos e1]; unfold revK; rw [if_pos (by omega)]; congr 3; omega
  · rw [if_neg e1]
    by_cases e2 : j = k
    · rw [if_pos e2]; unfold revK; rw [if_pos (by omega), e2]
    · rw [if_neg e2]; unfold revK
      by_cases e3 : j < n ∧ (j < k ∨ n - 1 - k < j)
      · rw [if_pos e3, if_pos (by omega)]
      · rw [if_neg e3, if_neg (by omega)]

/-- the row, its spare cells unknown -/
def revV (F : Nat → Value) (f : Nat → Nat) (n k j : Nat) : Value := if j < n then v8 (revK f n k j) else F j
theorem revV_start (F : Nat → Value) (f : Nat → Nat) (n j : Nat) : (if j < n then v8 (f j) else F j) = revV F f n 0 j := by
  unfold revV revK
  by_cases h : j < n
  · rw [if_pos h, if_pos h, if_neg (by omega)]
  · rw [if_neg h, if_neg h]
theorem revV_step {F : Nat → Value} {f : Nat → Nat} {n k j : Nat} (h : k < n - 1 - k) :
    (if j = n - 1 - k then v8 (f k) else if j = k then v8 (f (n - 1 - k)) else revV F f n k j) = revV F f n (k + 1) j := by
  by_cases hj : j < n
  · unfold revV
    rw [if_pos hj, if_pos hj]
    exact revK_step h
  · unfold revV
    rw [if_neg (by omega), if_neg (by omega), if_neg hj, if_neg hj]

set_option maxHeartbeats 1000000 in
theorem reverse_any {R : Ending → World → Prop} (g N n c : Nat) (F : Nat → Value) (f : Nat → Nat) (w : World) (hn : n ≤ N) (hb : n ≤ 1099511627776) (h : w.rowIs g 5 N (fun j => if j < n then v8 (f j) else F j))
    (K : ∀ w', w'.rowIs g 5 N (fun j => if j < n then v8 (f (n - 1 - j)) else F j) → w.grownBy w' (some g) → R (.returned (.tuple #[])) w') :
    Calls Tryz.prog 140 #[.slice (some ⟨g, 0, none⟩) n c] w R := by
  go_enter Tryz.func140, Tryz.ntmps140
  go_wp2
  go_loopw [2, 3] (fun iv jv wr => ∃ k : Nat, k ≤ n ∧ iv = .int .i64 (k : Int) ∧ jv = .int .i64 ((n : Int) - 1 - k) ∧ wr.rowIs g 5 N (revV F f n k) ∧ w.grownBy wr (some g)) (fun iv _ _ => n - (intOf iv).toNat)
  case atStart => exact ⟨0, Nat.zero_le _, rfl, by simp, h.congr (g := revV F f n 0) (fun j hj => revV_start F f n j), World.grownBy.refl _ _⟩
  case round =>
    obtain ⟨k, hk, rfl, rfl, hr, hg⟩ := hrel
    by_cases hlt : k < n - 1 - k
    · have c1 := hr.cell (i := k) (by omega)
      have c2 := hr.cell (i := n - 1 - k) (by omega)
      have z1 := hr.frozen k
      have z2 := hr.frozen (n - 1 - k)
      obtain ⟨e1, e2⟩ := revK_mid (f := f) hlt
      unfold revV at c1 c2
      rw [if_pos (by omega), e1] at c1
      rw [if_pos (by omega), e2] at c2
      have x1 : ((n : Int) - 1 - k).toNat = n - 1 - k := by omega
      have x2 : (0 : Int) ≤ (n : Int) - 1 - k := by omega
      have x3 : (n : Int) - 1 - k < n := by omega
      have x4 : (k : Int) < n := by omega
      clear e1 e2 h K
      go_wp2
      go_region
      all_goals
        go_wp2
        go_roundw
        case rel =>
          refine ⟨k + 1, by omega, by go_num, by congr 1; omega, World.rowIs.congr (g := revV F f n (k + 1)) ((hr.set k _).set (n - 1 - k) _) (fun j hj => revV_step hlt), ?_⟩
          exact World.grownBy.trans hg ⟨rfl, rfl, rfl, by simp [World.setCell], fun i hi hne => (Below.heap_setCell _ _ _ _ (fun e => hne (by rw [e]))).trans (Below.heap_setCell _ _ _ _ (fun e => hne (by rw [e])))⟩
        case measure => simp [intOf]; omega
    · have : ∀ wr : World, wr.rowIs g 5 N (revV F f n k) → wr.rowIs g 5 N (fun j => if j < n then v8 (f (n - 1 - j)) else F j) := fun wr h => h.congr (fun j hj => by
        unfold revV revK
        by_cases h1 : j < n
        · rw [if_pos h1, if_pos h1]
          by_cases h2 : j < k ∨ n - 1 - k < j
          · rw [if_pos ⟨h1, h2⟩]
          · rw [if_neg (by omega)]; congr 3; omega
        · rw [if_neg h1, if_neg h1])
      have fin := K _ (this _ hr) hg
      clear this K h hr
      go_wp2
      go_end0
      exact fin
end Go.Proofs.YtjngofngjbjpbaaGreatDoor
end

section
set_option linter.unusedSimpArgs false
set_option linter.unusedVariables false
namespace Go.Proofs.YtjngofngjbjpbaaGreatDoor
open Go.RowKit

theorem run98 (b : Nat) (w : World) : (callFunc 98 #[.float .f64 b]).run Tryz.prog w = .ok (.value (.int .u64 (b : Int))) w := by
  rw [run_callFunc_extern (fn := Tryz.f98) (e := Extern.MathFloatBits.float64bits) (by kernel_rfl) (by kernel_rfl) (by kernel_rfl) (by kernel_rfl) (by kernel_rfl)]
  rfl
theorem run92 (n : Nat) (w : World) : (callFunc 92 #[.int .u64 (n : Int)]).run Tryz.prog w = .ok (.value (.float .f64 n)) w := by
  rw [run_callFunc_extern (fn := Tryz.f92) (e := Extern.MathFloatBits.float64frombits) (by kernel_rfl) (by kernel_rfl) (by kernel_rfl) (by kernel_rfl) (by kernel_rfl)]
  rfl
end Go.Proofs.YtjngofngjbjpbaaGreatDoor
end
