/- Hex: the walk. -/
import Derived.Test.YtjngofngjbjpbaaGreatDoorJa6
import Derived.Test.YtjngofngjbjpbaaGreatDoorJa7
import Derived.Test.YtjngofngjbjpbaaGreatDoorJa5
import Derived.Laws.IdiomStrings

section
set_option linter.unusedSimpArgs false
set_option linter.unusedVariables false
namespace Go.Proofs.YtjngofngjbjpbaaGreatDoor
open Go.RowKit

theorem and_15 (x : Nat) (h : x < W64) : bits BinOp.and IntKind.u64 (x : Int) 15 = ((x % 16 : Nat) : Int) := by
  have e := bits_and_u64_nat x 15 (by unfold W64 at h; exact h) (by decide)
  rw [show x &&& 15 = x % 16 from Nat.and_two_pow_sub_one_eq_mod x 4] at e
  exact e

theorem hexc_at (d : Nat) (hd : d < 16) : (⟨#[48, 49, 50, 51, 52, 53, 54, 55, 56, 57, 97, 98, 99, 100, 101, 102]⟩ : ByteArray)[d]? = some (hexc d).toUInt8 ∧ hexc d < 256 := by
  have : ∀ d : Fin 16, (⟨#[48, 49, 50, 51, 52, 53, 54, 55, 56, 57, 97, 98, 99, 100, 101, 102]⟩ : ByteArray)[d.val]? = some (hexc d.val).toUInt8 ∧ hexc d.val < 256 := by decide +kernel
  exact this ⟨d, hd⟩
theorem hexch (d : Nat) (hd : d < 16) (h) : (((⟨#[48, 49, 50, 51, 52, 53, 54, 55, 56, 57, 97, 98, 99, 100, 101, 102]⟩ : ByteArray)[d]'h).toNat : Int) = (hexc d : Int) := by
  obtain ⟨h1, h2⟩ := hexc_at d hd
  have e : (⟨#[48, 49, 50, 51, 52, 53, 54, 55, 56, 57, 97, 98, 99, 100, 101, 102]⟩ : ByteArray)[d]'h = (hexc d).toUInt8 := by
    rw [getElem?_pos _ d h] at h1; exact Option.some.inj h1
  rw [e, show (hexc d).toUInt8.toNat = hexc d % 256 from rfl, Nat.mod_eq_of_lt h2]
theorem Tryz.info5 : (Tryz.prog.info? 5).map (fun i => (i.zero, i.size, i.bytes)) = some (some (.int .u8 0), 1, 1) := by kernel_rfl
/-- a row of bytes of the call's own -/
def OwnB (w : World) (base : Nat) (v : Value) (m : Nat) (f : Nat → Nat) : Prop := w.ownsRow base 5 1 v m ((List.range m).map fun s => v8 (f s))
theorem OwnB.congr {w : World} {base : Nat} {v : Value} {m : Nat} {f g : Nat → Nat} (h : OwnB w base v m f) (e : ∀ i, i < m → f i = g i) : OwnB w base v m g := by
  unfold OwnB at h ⊢
  rw [show (List.range m).map (fun s => v8 (g s)) = (List.range m).map (fun s => v8 (f s)) from List.map_congr_left fun i hi => by rw [e i (List.mem_range.1 hi)]]
  exact h
theorem OwnB.nil (w : World) (base : Nat) (f : Nat → Nat) : OwnB w base (.slice none 0 0) 0 f := World.ownsRow_nil _ _ _ _
/-- append of one byte -/
theorem appB {P : Program} {ops : Array Oper} {rest : List Oper} {o : Oper} {a : Act} {Q : Exit → Act → World → Prop} {W : World} (base : Nat) (hgd : o.guard = none) (s x : Operand) (t : TypeId)
    (ho : o.op = .call { callee := .builtin .append, args := #[s, x], argTypes := #[t, t] })
    (ht : P.underlying t = some (.slice 5)) (hinfo : (P.info? 5).map (fun i => (i.zero, i.size, i.bytes)) = some (some (.int .u8 0), 1, 1))
    (v : Value) (m : Nat) (f : Nat → Nat) (d : Nat) (hs : a.eval s = v) (hx : a.eval x = .slice (some ⟨W.heap.size, 0, none⟩) 1 1)
    (HO : OwnB W base v m f) (hd : f m = d) (hbase : base ≤ W.heap.size) (hl : m + 1 ≤ 140737488355328)
    (h : ∀ v1 w1, OwnB w1 base v1 (m + 1) f → W.grownBy w1 v.ownBlock → wpList P ops Q rest (a.put o.dst v1) w1) :
    wpList P ops Q (o :: rest) a (W.alloc (.cells #[v8 d] 5)) := by
  refine app1 base hgd s x t 5 (.int .u8 0) 1 ho ht hinfo rfl (by decide) v ((List.range m).map fun s => v8 (f s)) (v8 d) hs hx rfl (by simpa [OwnB] using HO) hbase (by simpa using hl) fun v1 w1 h1 hg => h v1 w1 ?_ hg
  unfold OwnB
  rw [List.range_succ, List.map_append, List.map_singleton, hd]
  simpa using h1


/-- what a row of bytes of the call's own gives as a string -/
theorem OwnB.str {P : Program} {w : World} {base m : Nat} {v : Value} {f : Nat → Nat} (h : OwnB w base v m f) (h0 : 0 < m) (hf : ∀ i, i < m → f i < 256) :
    ∃ g cap cur, v = .slice (some ⟨g, 0, none⟩) m cap ∧ base ≤ g ∧ w.heap[g]? = some (.cells cur 5 (0, 0)) ∧ cur.size = cap ∧ m ≤ cap ∧ ∀ i, i < m → cur[i]? = some (v8 (f i)) := by
  obtain ⟨g, cap, cur, h1, h2, h3, h4, h5, h6, h7⟩ := ownsRow_form h h0
  exact ⟨g, cap, cur, h1, h2, h3, h6, h4, fun i hi => h7 i _ (by simp [hi])⟩

set_option maxHeartbeats 2000000 in
set_option maxRecDepth 100000 in
theorem hex_any {R : Ending → World → Prop} (neg : Bool) (A : Option Addr) (n c k : Nat) (z : Int) (w : World) (hk : k ≤ 1073741824) (h : IsInt w neg A n c k z)
    (K : ∀ w', Ext w w' → R (.returned (.string (hexS (decide (z < 0)) z.natAbs))) w') :
    Calls Tryz.prog 67 #[intV neg A n c] w R := by
  obtain ⟨f, h1, h2, h3, h4, h5, h6, rfl⟩ := h.ex
  by_cases h0 : n = 0
  · subst h0
    have hne : neg = false := by cases neg with | false => rfl | true => exact absurd (h6 rfl) (by omega)
    subst hne
    have fin : ∀ w', Ext w w' → R (.returned (.string ⟨#[48]⟩)) w' := fun w' hx => K w' hx
    clear K
    go_enter Tryz.func67, Tryz.ntmps67
    go_wp2
    exact (Ext.rfl' w).alloc' _
  · have hne : ((n : Int) == 0) = false := by simp; omega
    obtain ⟨g, rfl, hg, hcell⟩ := h3.cell (by omega)
    clear h3
    have hVpos : valB W64 f n ≠ 0 := by have := valB_pos (B := W64) (by decide) (by omega) (h5 (by omega)); omega
    have hVlt : valB W64 f n < 16 ^ (16 * n) := by
      have := valB_lt n h4
      rw [show (16 : Nat) ^ (16 * n) = W64 ^ n from by rw [Nat.pow_mul]; congr 1]; exact this
    have hzb : decide (sg neg (valB W64 f n) < 0) = neg := by cases neg <;> simp [sg] <;> omega
    have hza : (sg neg (valB W64 f n)).natAbs = valB W64 f n := by cases neg <;> simp [sg]
    rw [hzb, hza] at K
    obtain ⟨V, hV⟩ : ∃ V, V = valB W64 f n := ⟨_, rfl⟩
    have hnw : ∀ i j, i < n → j < 16 → nib V (16 * i + j) = hexc (f i / 16 ^ j % 16) := fun i j hi hj => by rw [hV]; exact nib_word h4 hi hj
    rw [← hV] at K hVpos hVlt
    have h4' : ∀ i, i < n → f i < W64 := h4
    obtain ⟨i0, hi0, hz0, hz1, hz2⟩ := info_parts Tryz.info5
    clear hzb hza hV h4 h5 h6 h
    go_enter Tryz.func67, Tryz.ntmps67
    go_wp2
    go_loopw [3, 14] (fun ov iv wr => ∃ i : Nat, i ≤ n ∧ iv = .int .i64 (i : Int) ∧ OwnB wr (w.heap.size + 1) ov (16 * i) (nib V) ∧
        Below (w.heap.size + 1) (w.alloc (.cells #[.bool neg, .slice (some ⟨g, 0, none⟩) n c] 112)) wr) (fun _ iv _ => n - (intOf iv).toNat)
    case atStart => exact ⟨0, Nat.zero_le _, rfl, OwnB.nil _ _ _, Below.refl _ _⟩
    case round =>
      obtain ⟨i, hi, rfl, ho, hB⟩ := hrel
      by_cases hlt : i < n
      · have hci : wr.cell? ⟨g, i, none⟩ = some (v64 (f i)) := (hB.cell (p := ⟨g, i, none⟩) (by simp; omega)).trans ((World.cell?_alloc_lt _ _ _ hg).trans (hcell i hlt))
        clear hcell
        go_wp2
        go_loopw [3, 5, 18] (fun ov xv jv wr' => ∃ j : Nat, j ≤ 16 ∧ jv = .int .i64 (j : Int) ∧ xv = v64 (f i / 16 ^ j) ∧ OwnB wr' (w.heap.size + 1) ov (16 * i + j) (nib V) ∧
            Below (w.heap.size + 1) (w.alloc (.cells #[.bool neg, .slice (some ⟨g, 0, none⟩) n c] 112)) wr') (fun _ _ jv _ => 16 - (intOf jv).toNat)
        case atStart => exact ⟨0, Nat.zero_le _, rfl, by simp, ho, hB⟩
        case round =>
          obtain ⟨j, hj, rfl, rfl, ho', hB'⟩ := hrel
          by_cases hjl : j < 16
          · obtain ⟨x, hx⟩ : ∃ x, x = f i / 16 ^ j := ⟨_, rfl⟩
            rw [← hx]
            obtain ⟨d, hd⟩ : ∃ d, d = x % 16 := ⟨_, rfl⟩
            have hd16 : d < 16 := by omega
            have hand : bits BinOp.and IntKind.u64 ((x : Nat) : Int) 15 = ((d : Nat) : Int) := by
              rw [hd]; exact and_15 _ (by rw [hx]; exact Nat.lt_of_le_of_lt (Nat.div_le_self _ _) (h4' i hlt))
            have hshr : ((x : Nat) : Int) / 2 ^ 4 = ((x / 16 : Nat) : Int) := by simp
            have hch : ∀ h, (((⟨#[48, 49, 50, 51, 52, 53, 54, 55, 56, 57, 97, 98, 99, 100, 101, 102]⟩ : ByteArray)[d]'h).toNat : Int) = (hexc d : Int) := fun h => hexch d hd16 h
            have hone : 16 * i + j + 1 ≤ 140737488355328 := by omega
            have hbase : w.heap.size + 1 ≤ wr.heap.size := by have := hB'.size; simp at this; omega
            have hnib : nib V (16 * i + j) = hexc d := by rw [hnw i j hlt hjl, hd, hx]
            have hnext : x / 16 = f i / 16 ^ (j + 1) := by rw [hx, Nat.div_div_eq_div_mul, Nat.pow_succ]
            have HN : Hid (x / 16 = f i / 16 ^ (j + 1)) := hnext
            clear hd hx hnext
            go_wp2_with (at_builtin; refine appB (W := wr) (w.heap.size + 1) rfl (.tmp 20) (.tmp 24) 27 rfl Tryz.underlying27 Tryz.info5 _ _ _ (hexc d) rfl rfl ho' hnib hbase hone ?_)
            intro v1 w1 ho1 hg1
            have hB1 : Below (w.heap.size + 1) (w.alloc (.cells #[.bool neg, .slice (some ⟨g, 0, none⟩) n c] 112)) w1 := hB'.grown hg1 hbase (fun k hk => (ho'.lt k hk).1)
            go_wp2
            go_roundw
            case rel => exact ⟨j + 1, by omega, by go_num, congrArg v64 HN, ho1, hB1⟩
            case measure => simp [intOf]; omega
          · have hj16 : j = 16 := by omega
            subst hj16
            go_wp2
            go_roundw
            case rel => exact ⟨i + 1, by omega, by go_num, by rw [show 16 * (i + 1) = 16 * i + 16 from by omega]; exact ho', hB'⟩
            case measure => simp [intOf]; omega
      · have hin : i = n := by omega
        subst hin
        obtain ⟨gg, cap, cur, rfl, hgg, hblk, hsz, hcap, hcur⟩ := ho.str (P := Tryz.prog) (by omega) (fun j hj => Nat.lt_of_lt_of_le (nib_lt _ _) (by decide))
        have hrow : wr.rowIs gg 5 cap (fun j => if j < 16 * i then v8 (nib V j) else cur.getD j (v8 0)) := ⟨cur, hblk, hsz, fun j hj => by
          by_cases e : j < 16 * i
          · exact (hcur j e).trans (by simp [e])
          · simp [e, Array.getD, hsz, hj]⟩
        have hbox : wr.heap[w.heap.size]? = some (.cells #[.bool neg, .slice (some ⟨g, 0, none⟩) i c] 112 (0, 0)) := (hB.block _ (by omega)).trans (blk_1_1 w _)
        have hbox' : w.heap.size < wr.heap.size := (Array.getElem?_eq_some_iff.1 hbox).1
        clear hcell hblk hcur ho
        go_wp2_with fail
        refine reverse_any gg cap (16 * i) cap _ (nib V) wr hcap (by omega) hrow ?_
        intro w1 hr1 hg1
        have hbox1 : w1.heap[w.heap.size]? = some (.cells #[.bool neg, .slice (some ⟨g, 0, none⟩) i c] 112 (0, 0)) := (hg1.block _ hbox' (by simp; omega)).trans hbox
        have hx : Ext w w1 := (((Ext.rfl' w).alloc' _).trans' (hB.mono (by simp))).grown hg1 (by omega) (fun k hk => by cases hk; omega)
        have hcv : (convert 27 9 (.slice (some ⟨gg, 0, none⟩) (16 * i) cap)).run Tryz.prog w1 = .ok (.string ⟨(hexD V (16 * i)).toArray⟩) w1 := by
          have := run_convert_bytes_back w1 27 9 5 ⟨gg, 0, none⟩ cap (hexD V (16 * i)) Tryz.underlying27 Tryz.underlying5 Tryz.underlying9 (fun j hj => by
            have hj' : j < 16 * i := by rw [hexD_len] at hj; exact hj
            have e := hr1.cell (i := j) (by omega)
            rw [if_pos hj'] at e
            rw [show (⟨gg, 0, none⟩ : Addr).add j = ⟨gg, j, none⟩ from by simp [Addr.add]; exact fun h => h.symm, e]
            have e2 := hexD_at V (16 * i) j hj'
            rw [List.getElem?_eq_getElem hj] at e2
            rw [Option.some.inj e2]
            show some (Value.int .u8 _) = _
            congr 2
            rw [show (nib V (16 * i - 1 - j)).toUInt8.toNat = nib V (16 * i - 1 - j) % 256 from rfl, Nat.mod_eq_of_lt (Nat.lt_of_lt_of_le (nib_lt _ _) (by decide))])
          rw [hexD_len] at this
          exact this
        have hsz1 : (Lib.trimLeftB (hexD V (16 * i)) 48) = hexL V := hex_trim hVpos hVlt
        have hc0 : w1.cell? ⟨w.heap.size, 0, none⟩ = some (.bool neg) := by rw [cell_of_blk hbox1]; rfl
        have hlen : ¬ 9223372036854775807 < 1 + (hexL V).length := by
          have : (hexL V).length ≤ 16 * i := by rw [← hsz1]; unfold Lib.trimLeftB; exact Nat.le_trans (List.dropWhile_sublist _).length_le (by rw [hexD_len]; exact Nat.le_refl _)
          omega
        have fint : neg = true → R (.returned (.string (⟨#[45]⟩ ++ ⟨(hexL V).toArray⟩))) w1 := fun e => by
          have := K w1 hx
          subst e
          have e2 : hexS true V = ⟨#[45]⟩ ++ ⟨(hexL V).toArray⟩ := by
            apply ByteArray.ext
            rw [ByteArray.data_append]
            simp [hexS]
          rwa [e2] at this
        have finf : neg = false → R (.returned (.string ⟨(hexL V).toArray⟩)) w1 := fun e => by
          have := K w1 hx
          subst e
          exact this
        clear hrow hbox hr1 hg1 K hx hB hVlt hnw h4'
        go_wp2_with (go_at_call 141; refine (Tryz.strings_TrimLeft_one _ 48 (by decide) _).mono ?_; rintro e w2 ⟨rfl, rfl⟩)
        · exact fint (by assumption)
        · assumption
end Go.Proofs.YtjngofngjbjpbaaGreatDoor
end
