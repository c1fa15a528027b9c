/- cell.Of with any pen (48). The tables hold what the program's text lays. cell.Mark (48). The tables hold what the program's text lays. strconv.ParseUint of six bytes in base 16 (48). No condition. -/
import Derived.Test.YthcndmchlpohpaaGreatDoorMkI
import Derived.Lib.ConvBytes
import Derived.Lib.Strings
import Derived.Lib.Walk
import Derived.Laws.Strings3
import Derived.Laws.Closers25
import Derived.Laws.Closers25b
import Derived.WalkKit
import Derived.BigCall
import Derived.BigGuard
namespace Go.Proofs.YthcndmchlpohpaaGreatDoor
set_option linter.unusedVariables false
set_option linter.unusedSimpArgs false
open Go.RowKit Go.Shelf
attribute [local go_sem] Oper.semAt_some

/-- The cells of a rune, with a cell's pen. -/
def ofC (r k : Int) (q : Cell) : Cell := { q with rune := r, m0 := 0, m1 := 0, m2 := 0, width := k }
def ofL (r : Int) (q : Cell) : List Cell := ofC r (wOf r) q :: (if wOf r = 2 then [q.spacer] else [])
set_option maxHeartbeats 1000000 in
theorem cellOf_bad (r : Int) (q : Cell) (w : World) (ht : Tabs w) (h : wOf r < 1) : Calls Tryz.prog 65 #[.int .i32 r, q.pen] w fun e w' => e = .returned (.tuple #[.slice none 0 0, .int .i64 2]) ∧ Sees w w' := by
  have HT := Lib.hid ht
  have S0 := Sees.refl w
  have HW := Lib.hid (fun W (hs : Sees w W) => widthOf_any r W (ht.sees hs))
  clear ht
  generalize wOf r = k at *
  unfold Cell.pen at *
  go_enter Tryz.func65, Tryz.ntmps65
  go_upto_region 1 with fail
  refine wp_world fun W1 hW1 => ?_
  have S1 : Hid (Sees w W1) := by subst hW1; exact (Sees.refl w).alloc _
  clear hW1 S0
  go_wp2_with fail
  refine (HW.out W1 S1.out).mono ?_
  rintro e w2 ⟨rfl, hs⟩
  have S2 := Lib.hid (S1.out.trans hs)
  clear hs
  go_wp2
  go_ret2
  exact ⟨rfl, S2.out⟩
theorem cell_row_of {F : Nat → Prop} {base : Nat} (G : Nat → Prop) {w : World} {v : Value} {cs : List Cell} (h : cellEl.Own F w v cs) (hb : ∀ g, F g → base ≤ g) : cellEl.Row base G w v cs := by
  obtain ⟨vals, h1, h2, h3⟩ := h
  exact ⟨vals, El.rowMono h1 (fun g hg => hb g (h2 g hg)), ⟨h3.rel.1, fun i x hx => h3.rel.2 i x hx⟩⟩
/-- A cell in a block of its own. -/
theorem own_new_cell {W : World} {g : Nat} {c : Cell} (hg : W.heap[g]? = some (.cells c.vals.toArray 42 (0, 0))) : cellEl.Own (fun b => b = g) W (.slice (some ⟨g, 0, none⟩) 1 1) [c] :=
  ⟨c.vals, ⟨rfl, .inr ⟨g, 1, _, rfl, Nat.zero_le _, hg, Nat.le_refl _, by decide, rfl, rfl⟩⟩, fun b hb => by cases hb; rfl, El.ownIn_one (E := cellEl) rfl⟩
def PnAt (W : World) (b : Nat) (q : Cell) : Prop := W.heap[b]? = some (.cells #[.int .i64 q.f0, .int .u8 q.f1, .int .u8 q.f2, .int .u8 q.f3, .int .u8 q.f4, .int .i64 q.b0, .int .u8 q.b1, .int .u8 q.b2, .int .u8 q.b3, .int .u8 q.b4, .int .u8 q.flags] 40 (0, 0))
theorem PnAt.sees {W W' : World} {b : Nat} {q : Cell} (h : PnAt W b q) (hs : Sees W W') : PnAt W' b q := by
  unfold PnAt at *
  rw [hs.block _ (Array.getElem?_eq_some_iff.1 h).1]; exact h
theorem PnAt.c {W : World} {b : Nat} {q : Cell} (h : PnAt W b q) : W.cell? ⟨b, 0, none⟩ = some (.int .i64 q.f0) ∧ W.cell? ⟨b, 1, none⟩ = some (.int .u8 q.f1) ∧ W.cell? ⟨b, 2, none⟩ = some (.int .u8 q.f2) ∧ W.cell? ⟨b, 3, none⟩ = some (.int .u8 q.f3) ∧ W.cell? ⟨b, 4, none⟩ = some (.int .u8 q.f4) ∧ W.cell? ⟨b, 5, none⟩ = some (.int .i64 q.b0) ∧ W.cell? ⟨b, 6, none⟩ = some (.int .u8 q.b1) ∧ W.cell? ⟨b, 7, none⟩ = some (.int .u8 q.b2) ∧ W.cell? ⟨b, 8, none⟩ = some (.int .u8 q.b3) ∧ W.cell? ⟨b, 9, none⟩ = some (.int .u8 q.b4) ∧ W.cell? ⟨b, 10, none⟩ = some (.int .u8 q.flags) :=
  ⟨by rw [cell_of_row _ _ _ _ _ _ h]; rfl, by rw [cell_of_row _ _ _ _ _ _ h]; rfl, by rw [cell_of_row _ _ _ _ _ _ h]; rfl, by rw [cell_of_row _ _ _ _ _ _ h]; rfl, by rw [cell_of_row _ _ _ _ _ _ h]; rfl, by rw [cell_of_row _ _ _ _ _ _ h]; rfl, by rw [cell_of_row _ _ _ _ _ _ h]; rfl, by rw [cell_of_row _ _ _ _ _ _ h]; rfl, by rw [cell_of_row _ _ _ _ _ _ h]; rfl, by rw [cell_of_row _ _ _ _ _ _ h]; rfl, by rw [cell_of_row _ _ _ _ _ _ h]; rfl⟩
theorem wOf_ways (r : Int) : wOf r = -1 ∨ wOf r = 0 ∨ wOf r = 1 ∨ wOf r = 2 := by
  unfold wOf
  split
  · split
    · simp
    · split <;> simp
  · simp
set_option maxHeartbeats 1000000 in
theorem cellOf_ok (r : Int) (q : Cell) (hq : q.pOk = true) (w : World) (ht : Tabs w) (h : 1 ≤ wOf r) : Calls Tryz.prog 65 #[.int .i32 r, q.pen] w fun e w' => ∃ v, e = .returned (.tuple #[v, .int .i64 0]) ∧ cellEl.Own (fun b => w.heap.size ≤ b) w' v (ofL r q) ∧ Sees w w' := by
  have HT := Lib.hid ht
  have S0 := Sees.refl w
  have HW := Lib.hid (fun W (hs : Sees w W) => widthOf_any r W (ht.sees hs))
  have KV := Lib.hid (fun W => penValid_any q.f0 q.f1 q.f2 q.f3 q.f4 q.b0 q.b1 q.b2 q.b3 q.b4 q.flags W)
  have KS : Hid (∀ W, Calls Tryz.prog 68 #[.agg #[.int .i64 q.f0, .int .u8 q.f1, .int .u8 q.f2, .int .u8 q.f3, .int .u8 q.f4, .int .i64 q.b0, .int .u8 q.b1, .int .u8 q.b2, .int .u8 q.b3, .int .u8 q.b4, .int .u8 q.flags]] W fun e w' => e = .returned (.agg #[.int .i32 0, .int .i32 0, .int .i32 0, .int .i32 0, .int .i64 0, .int .i64 q.f0, .int .u8 q.f1, .int .u8 q.f2, .int .u8 q.f3, .int .u8 q.f4, .int .i64 q.b0, .int .u8 q.b1, .int .u8 q.b2, .int .u8 q.b3, .int .u8 q.b4, .int .u8 q.flags]) ∧ Sees W w') := fun W => spacer_any q W
  clear ht
  obtain ⟨L, hL⟩ : ∃ L, L = ofL r q := ⟨_, rfl⟩
  rw [← hL]
  have hL1 : wOf r = 1 → L = [ofC r 1 q] := fun h => by rw [hL]; unfold ofL; rw [h]; rfl
  have hL2 : wOf r = 2 → L = [ofC r 2 q, (q.spacer)] := fun h => by rw [hL]; unfold ofL; rw [h]; rfl
  have HL1 := Lib.hid hL1
  have HL2' := Lib.hid hL2
  clear hL hL1 hL2
  have hk : wOf r = 1 ∨ wOf r = 2 := by rcases wOf_ways r with h' | h' | h' | h' <;> omega
  unfold Cell.pen at *
  go_enter Tryz.func65, Tryz.ntmps65
  go_upto_region 1 with fail
  refine wp_world fun W1 hW1 => ?_
  have S1 : Hid (Sees w W1) := by subst hW1; exact (Sees.refl w).alloc _
  have P1 : PnAt W1 w.heap.size q := by subst hW1; exact heap_alloc_new w _
  obtain ⟨b3, hb3⟩ : ∃ b3, b3 = w.heap.size := ⟨_, rfl⟩
  rw [← hb3] at P1 ⊢
  have HB3 := Lib.hid hb3
  clear hW1 S0 hb3
  go_wp2_with fail
  refine (HW.out W1 S1.out).mono ?_
  rintro e w2 ⟨rfl, hs⟩
  have S2 := Lib.hid (S1.out.trans hs)
  have P2 := Lib.hid (P1.sees hs)
  clear hs P1
  have hv : vPen q.f0 q.f1 q.f2 q.f3 q.f4 q.b0 q.b1 q.b2 q.b3 q.b4 = true := hq
  rw [hv] at KV
  obtain ⟨q0, q1, q2, q3, q4, q5, q6, q7, q8, q9, q10⟩ := P2.out.c
  rcases hk with hk | hk
  · have hLL := Lib.hid (HL1.out hk)
    rw [hk]
    clear hk h
    go_wp2_with fail
    refine (KV.out w2).mono ?_
    rintro e w3 ⟨rfl, hs⟩
    have S3 := Lib.hid (S2.out.trans hs)
    have P3 := Lib.hid (P2.out.sees hs)
    clear hs q0 q1 q2 q3 q4 q5 q6 q7 q8 q9 q10 P2
    obtain ⟨q0, q1, q2, q3, q4, q5, q6, q7, q8, q9, q10⟩ := P3.out.c
    go_wp2
    go_ret2
    refine ⟨_, rfl, ?_, S3.out.alloc _⟩
    rw [hLL.out]
    exact (own_new_cell (c := ofC r 1 q) (heap_alloc_new w3 _)).mono (fun b _ hb => by have e : b = w3.heap.size := hb; have := S3.out.size; omega)
  · have hLL := Lib.hid (HL2'.out hk)
    rw [hk]
    clear hk h
    go_wp2_with fail
    refine (KV.out w2).mono ?_
    rintro e w3 ⟨rfl, hs⟩
    have S3 := Lib.hid (S2.out.trans hs)
    have P3 := Lib.hid (P2.out.sees hs)
    clear hs q0 q1 q2 q3 q4 q5 q6 q7 q8 q9 q10 P2
    obtain ⟨q0, q1, q2, q3, q4, q5, q6, q7, q8, q9, q10⟩ := P3.out.c
    go_upto_region 5 with fail
    refine wp_world fun w4 hw4 => ?_
    have O4 : cellEl.Own (fun b => b = w3.heap.size) w4 (.slice (some ⟨w3.heap.size, 0, none⟩) 1 1) [ofC r 2 q] := by subst hw4; exact own_new_cell (c := ofC r 2 q) (heap_alloc_new w3 _)
    have s4 : Sees w3 w4 := by subst hw4; exact (Sees.refl w3).alloc _
    obtain ⟨g, hg⟩ : ∃ g, g = w3.heap.size := ⟨_, rfl⟩
    rw [← hg] at O4 ⊢
    have HG := Lib.hid (show w.heap.size ≤ g by have := S3.out.size; omega)
    have S4 := Lib.hid (S3.out.trans s4)
    have P4 := Lib.hid (P3.out.sees s4)
    have O := Lib.hid O4
    clear hw4 s4 O4 hg q0 q1 q2 q3 q4 q5 q6 q7 q8 q9 q10 P3
    obtain ⟨q0, q1, q2, q3, q4, q5, q6, q7, q8, q9, q10⟩ := P4.out.c
    go_wp2_with fail
    refine (KS.out w4).mono ?_
    rintro e w5 ⟨rfl, hs⟩
    have S5 := Lib.hid (S4.out.trans hs)
    have O5 := Lib.hid (O.out.cut.sees hs)
    have H45 := Lib.hid hs.size
    clear hs q0 q1 q2 q3 q4 q5 q6 q7 q8 q9 q10 P4
    have hrow := heap_alloc_new w5 (.cells #[Value.int .i32 0, .int .i32 0, .int .i32 0, .int .i32 0, .int .i64 0, .int .i64 q.f0, .int .u8 q.f1, .int .u8 q.f2, .int .u8 q.f3, .int .u8 q.f4, .int .i64 q.b0, .int .u8 q.b1, .int .u8 q.b2, .int .u8 q.b3, .int .u8 q.b4, .int .u8 q.flags] 42)
    have sA : Sees w5 (w5.alloc (.cells #[Value.int .i32 0, .int .i32 0, .int .i32 0, .int .i32 0, .int .i64 0, .int .i64 q.f0, .int .u8 q.f1, .int .u8 q.f2, .int .u8 q.f3, .int .u8 q.f4, .int .i64 q.b0, .int .u8 q.b1, .int .u8 q.b2, .int .u8 q.b3, .int .u8 q.b4, .int .u8 q.flags] 42)) := (Sees.refl w5).alloc _
    have HO := Lib.hid (O5.out.sees sA)
    have Hrow := Lib.hid hrow
    have HF := Lib.hid (show ∀ b, (b = g ∧ b < w4.heap.size) → b < (w5.alloc (.cells #[Value.int .i32 0, .int .i32 0, .int .i32 0, .int .i32 0, .int .i64 0, .int .i64 q.f0, .int .u8 q.f1, .int .u8 q.f2, .int .u8 q.f3, .int .u8 q.f4, .int .i64 q.b0, .int .u8 q.b1, .int .u8 q.b2, .int .u8 q.b3, .int .u8 q.b4, .int .u8 q.flags] 42)).heap.size from fun b hb => by rw [World.size_alloc]; have := H45.out; omega)
    have HL2 := Lib.hid (show [ofC r 2 q].length + [(q.spacer)].length ≤ 100000000 by show 1 + 1 ≤ 100000000; decide)
    have HS := Lib.hid (S5.out.trans sA)
    have H5 := Lib.hid S5.out.size
    clear hrow sA
    go_wp2_with (at_builtin; refine El.wpList_append_own (v := .slice (some ⟨g, 0, none⟩) 1 1) typedCell rfl (.tmp 24) (.tmp 27) rfl (by go_simp) HO.out ⟨w5.heap.size, 0, none⟩ 1 1 (by go_simp) (q.spacer).vals [(q.spacer)] (fun _ => False) (El.ownIn_one (E := cellEl) rfl) rfl (fun j u hu => El.row_cells Hrow.out j u hu) HF.out (fun b hb => hb.elim) HL2.out ?_; intro v7 w7 ho7 hk7; obtain ⟨a7, c7, rfl, _⟩ := ho7.slice; have HO7 := Lib.hid ho7; have HK7 := Lib.hid hk7; clear ho7 hk7)
    go_ret2
    refine ⟨_, rfl, ?_, El.keep_new HS.out HK7.out (fun g' hg' => by have e := (HO.out.base hg').1.1; have := HG.out; omega)⟩
    rw [hLL.out]
    refine HO7.out.mono fun b _ hb => ?_
    have := HG.out
    have := H5.out
    rcases hb with hb | hb | hb
    · omega
    · exact hb.elim
    · rw [World.size_alloc] at hb; omega
set_option maxHeartbeats 1000000 in
theorem cellOf_badP (r : Int) (q : Cell) (hq : q.pOk = false) (w : World) (ht : Tabs w) (h : 1 ≤ wOf r) : Calls Tryz.prog 65 #[.int .i32 r, q.pen] w fun e w' => e = .returned (.tuple #[.slice none 0 0, .int .i64 2]) ∧ Sees w w' := by
  have HT := Lib.hid ht
  have S0 := Sees.refl w
  have HW := Lib.hid (fun W (hs : Sees w W) => widthOf_any r W (ht.sees hs))
  have KV := Lib.hid (fun W => penValid_any q.f0 q.f1 q.f2 q.f3 q.f4 q.b0 q.b1 q.b2 q.b3 q.b4 q.flags W)
  clear ht
  have hv : vPen q.f0 q.f1 q.f2 q.f3 q.f4 q.b0 q.b1 q.b2 q.b3 q.b4 = false := hq
  rw [hv] at KV
  have hk : wOf r = 1 ∨ wOf r = 2 := by rcases wOf_ways r with h' | h' | h' | h' <;> omega
  unfold Cell.pen at *
  generalize wOf r = k at *
  go_enter Tryz.func65, Tryz.ntmps65
  go_upto_region 1 with fail
  refine wp_world fun W1 hW1 => ?_
  have S1 : Hid (Sees w W1) := by subst hW1; exact (Sees.refl w).alloc _
  have P1 : PnAt W1 w.heap.size q := by subst hW1; exact heap_alloc_new w _
  clear hW1 S0
  go_wp2_with fail
  refine (HW.out W1 S1.out).mono ?_
  rintro e w2 ⟨rfl, hs⟩
  have S2 := Lib.hid (S1.out.trans hs)
  have P2 := Lib.hid (P1.sees hs)
  clear hs P1 hq hv
  obtain ⟨q0, q1, q2, q3, q4, q5, q6, q7, q8, q9, q10⟩ := P2.out.c
  go_wp2_with fail
  refine (KV.out w2).mono ?_
  rintro e w3 ⟨rfl, hs⟩
  have S3 := Lib.hid (S2.out.trans hs)
  clear hs q0 q1 q2 q3 q4 q5 q6 q7 q8 q9 q10 P2
  go_wp2
  go_ret2
  exact ⟨rfl, S3.out⟩
/-- What a rune and a pen give. -/
def ofOk (r : Int) (q : Cell) : Bool := decide (1 ≤ wOf r) && q.pOk
theorem cellOf_any (r : Int) (q : Cell) (w : World) (ht : Tabs w) : Calls Tryz.prog 65 #[.int .i32 r, q.pen] w fun e w' => ∃ v, e = .returned (.tuple #[v, .int .i64 (if ofOk r q then 0 else 2)]) ∧ cellEl.Own (fun b => w.heap.size ≤ b) w' v (if ofOk r q then ofL r q else []) ∧ Sees w w' := by
  unfold ofOk
  by_cases h : 1 ≤ wOf r
  · cases hq : q.pOk
    · simp only [Bool.and_false, Bool.false_eq_true, if_false]
      exact (cellOf_badP r q hq w ht h).mono fun e w' ⟨he, hs⟩ => ⟨_, he, El.Own.nil _ _, hs⟩
    · simp only [h, decide_true, Bool.and_true, if_true]
      exact cellOf_ok r q hq w ht h
  · simp only [h, decide_false, Bool.false_and, Bool.false_eq_true, if_false]
    exact (cellOf_bad r q w ht (by omega)).mono fun e w' ⟨he, hs⟩ => ⟨_, he, El.Own.nil _ _, hs⟩
end Go.Proofs.YthcndmchlpohpaaGreatDoor

namespace Go.Proofs.YthcndmchlpohpaaGreatDoor
set_option linter.unusedVariables false
set_option linter.unusedSimpArgs false
open Go.RowKit Go.Shelf
attribute [local go_sem] Oper.semAt_some

def zeroM : Cell := ⟨0, 0, 0, 0, 0, 0, 0, 0, 0, 0, 0, 0, 0, 0, 0, 0⟩
/-- A cell with one more mark; what Mark answers. -/
def markC (c : Cell) (r : Int) : Cell := if c.m0 = 0 then { c with m0 := r } else if c.m1 = 0 then { c with m1 := r } else { c with m2 := r }
def markE (c : Cell) (r : Int) : Int := if c.valid = false ∨ wOf r ≠ 0 then 2 else if c.rune = 0 then 8 else if c.m0 = 0 ∨ c.m1 = 0 ∨ c.m2 = 0 then 0 else 7
def CqAt (W : World) (b : Nat) (c : Cell) : Prop := W.heap[b]? = some (.cells c.vals.toArray 42 (0, 0))
namespace CqAt
variable {W W' : World} {b : Nat} {c : Cell}
theorem sees (h : CqAt W b c) (hs : Sees W W') : CqAt W' b c := by
  unfold CqAt at *
  rw [hs.block _ (Array.getElem?_eq_some_iff.1 h).1]; exact h
theorem at' (h : CqAt W b c) : CellAt W b 0 c := fun j x hx => by
  rw [Nat.zero_add, cell_of_row _ _ _ _ _ _ h]
  simpa using hx
theorem lt (h : CqAt W b c) : b < W.heap.size := (Array.getElem?_eq_some_iff.1 h).1
theorem set (h : CqAt W b c) (d : Cell) : CqAt (W.setRow b d.vals.toArray) b d := setRow_heap _ _ _ _ _ _ h
end CqAt
theorem run_storeCl {W : World} {b : Nat} {c : Cell} (h : CqAt W b c) (d : Cell) : (Instr.storeAt 42 (.pointer (some ⟨b, 0, none⟩)) d.val).run Tryz.prog W = .ok () (W.setRow b d.vals.toArray) :=
  run_storeAt_row (P := Tryz.prog) (W := W) 42 b _ 42 d.vals cell_sizeOf h rfl (vals_one d)
theorem exec_buildZ {ρ : Operand → Value} {o : Oper} {W : World} (ho : o.op = .build 42 #[]) : (execOp ρ o).run Tryz.prog W = .ok (.value zeroM.val) W := by
  have h : (Instr.build 42 #[]).run Tryz.prog W = .ok zeroM.val W := by kernel_rfl
  unfold execOp
  rw [ho]
  simp only [List.map_toArray, List.map_nil, Sem.run_bind, h, Result.andThen_ok]
  rfl
theorem results_ct {fn : Func} {tmps : Array Value} {W : World} {i j b : Nat} {c : Cell} {v : Value} (hr : fn.results = #[.cell i 42, .tmp j]) (hi : tmps[i]?.getD undef = .pointer (some ⟨b, 0, none⟩)) (hj : tmps[j]?.getD undef = v) (h : CellAt W b 0 c) :
    (results fn tmps).run Tryz.prog W = .ok (.tuple #[c.val, v]) W := by
  have h1 : (loadVar 42 ⟨b, 0, none⟩).run Tryz.prog W = .ok c.val W := run_loadCell h
  unfold results
  rw [hr]
  simp [hi, hj, asAddr, h1]
theorem written_any (c : Cell) (w : World) : Calls Tryz.prog 78 #[c.val] w fun e w' => e = .returned (.bool (c.rune != 0)) ∧ Sees w w' := by
  unfold Cell.val
  go_enter Tryz.func78, Tryz.ntmps78
  go_wp2
  go_ret
  exact ⟨rfl, (Sees.refl _).alloc _⟩
set_option maxHeartbeats 2000000 in
set_option maxRecDepth 100000 in
theorem mark_any (c : Cell) (r : Int) (w : World) (ht : Tabs w) : Calls Tryz.prog 66 #[c.val, .int .i32 r] w fun e w' => e = .returned (.tuple #[(if markE c r = 0 then markC c r else zeroM).val, .int .i64 (markE c r)]) ∧ Sees w w' := by
  have KV := Lib.hid (fun W (hs : Sees w W) => cellValid_any c W (ht.sees hs))
  have KW := Lib.hid (fun W (hs : Sees w W) => widthOf_any r W (ht.sees hs))
  have KR := Lib.hid (written_any c)
  obtain ⟨E, hE⟩ : ∃ E, E = markE c r := ⟨_, rfl⟩
  obtain ⟨D, hD⟩ : ∃ D, D = (if markE c r = 0 then markC c r else zeroM) := ⟨_, rfl⟩
  rw [← hD, ← hE]
  have HE := Lib.hid hE
  have HD := Lib.hid hD
  clear ht hE hD
  have H0 : Hid (∀ X, X = w.alloc (.cells c.vals.toArray 42) → ∀ Y, Y = X.alloc (.cells zeroM.vals.toArray 42) → Sees w Y ∧ CqAt Y w.heap.size c ∧ CqAt Y (w.heap.size + 1) zeroM) := by
    rintro X rfl Y rfl
    refine ⟨((Sees.refl w).alloc _).alloc _, ?_, ?_⟩
    · exact CqAt.sees (heap_alloc_new w _) ((Sees.refl _).alloc _)
    · have := heap_alloc_new (w.alloc (.cells c.vals.toArray 42)) (.cells zeroM.vals.toArray 42)
      rwa [World.size_alloc] at this
  unfold Cell.val
  go_enter Tryz.func66, Tryz.ntmps66
  go_upto_region 1 with fail
  refine wp_world fun W1 hW1 => ?_
  obtain ⟨s1, c1, z1⟩ := H0.out _ rfl W1 hW1
  have S1 := Lib.hid s1
  have C1 := Lib.hid c1
  have Z1 := Lib.hid z1
  have A1 := c1.at'
  clear hW1 s1 c1 z1 H0
  go_wp2_with (guard_target = wpList _ _ _ ({ dst := _, op := Op.load 42 _, type := _, pos := _, after := _, guard := _ } :: _) _ _; refine wpList_val rfl (exec_load (v := c.val) rfl rfl (run_loadCell A1)) (fun K hK => ?_); go_simp; refine hK _ _ ?_; clear hK K)
  refine (KV.out _ S1.out).mono ?_
  rintro e W2 ⟨rfl, s2⟩
  have S2 := Lib.hid (S1.out.trans s2)
  have C2 := Lib.hid (C1.out.sees s2)
  have Z2 := Lib.hid (Z1.out.sees s2)
  clear s2 S1 C1 Z1 A1 KV
  have K2 : ∀ (W W' : World) (d : Cell) (X : Int), CqAt W (w.heap.size + 1) zeroM → Sees w W → W' = W.setRow (w.heap.size + 1) d.vals.toArray → CellAt W' (w.heap.size + 1) 0 d ∧ Sees w W' := by
    rintro W W' d X h1 h2 rfl
    exact ⟨(h1.set d).at', (Keeps.setRow' (F := fun _ => False) (Keeps.of_sees h2) (Nat.le_succ _) _).sees_end (fun _ _ h => h)⟩
  have HK2 := Lib.hid K2
  clear K2
  obtain ⟨vd, hvd⟩ : ∃ vd, vd = c.valid := ⟨_, rfl⟩
  have HVD := Lib.hid hvd
  rw [← hvd]
  clear hvd
  cases vd with
  | false =>
    have hE2 : E = 2 := by rw [HE.out]; unfold markE; rw [if_pos (.inl HVD.out.symm)]
    have hD2 : D = zeroM := by rw [HD.out, ← HE.out, hE2]; rfl
    go_upto_region 2 with fail
    have hZ := Z2.out
    go_wp2_with (first
      | (guard_target = wpList _ _ _ ({ dst := _, op := Op.build _ _, type := _, pos := _, after := _, guard := _ } :: _) _ _; refine wpList_val rfl (exec_buildZ rfl) (fun K hK => ?_); go_simp; refine hK _ _ ?_; clear hK K)
      | (guard_target = wpList _ _ _ ({ dst := _, op := Op.store 42 _ _, type := _, pos := _, after := _, guard := _ } :: _) _ _; refine wpList_skip rfl (exec_store (v := zeroM.val) rfl rfl rfl (run_storeCl hZ zeroM)) (fun K hK => ?_); go_simp; refine hK _ _ ?_; clear hK K))
    obtain ⟨k1, k2⟩ := HK2.out _ _ zeroM 0 Z2.out S2.out rfl
    exact bodyPost_ret (results_ct rfl rfl rfl k1) rfl ⟨by rw [hE2, hD2]; rfl, k2⟩
  | true =>
    go_wp2_with fail
    refine (KW.out _ S2.out).mono ?_
    rintro e W3 ⟨rfl, s3⟩
    have S3 := Lib.hid (S2.out.trans s3)
    have C3 := Lib.hid (C2.out.sees s3)
    have Z3 := Lib.hid (Z2.out.sees s3)
    clear s3 S2 C2 Z2 KW
    by_cases hw0 : wOf r = 0
    · have hwb : (wOf r != 0) = false := by simpa using hw0
      rw [hw0]
      have A3 := C3.out.at'
      go_wp2_with (guard_target = wpList _ _ _ ({ dst := _, op := Op.load 42 _, type := _, pos := _, after := _, guard := _ } :: _) _ _; refine wpList_val rfl (exec_load (v := c.val) rfl rfl (run_loadCell A3)) (fun K hK => ?_); go_simp; refine hK _ _ ?_; clear hK K)
      refine (KR.out _).mono ?_
      rintro e W4 ⟨rfl, s4⟩
      have S4 := Lib.hid (S3.out.trans s4)
      have C4 := Lib.hid (C3.out.sees s4)
      have Z4 := Lib.hid (Z3.out.sees s4)
      clear s4 S3 C3 Z3 KR A3
      by_cases hr0 : c.rune = 0
      · have hrb : (c.rune != 0) = false := by simpa using hr0
        rw [hrb]
        have hE2 : E = 8 := by rw [HE.out]; unfold markE; rw [if_neg (by exact fun h => h.elim (fun e => absurd (HVD.out.trans e) (by decide)) (fun e => e hw0)), if_pos hr0]
        have hD2 : D = zeroM := by rw [HD.out, ← HE.out, hE2]; rfl
        go_upto_region 4 with fail
        have hZ := Z4.out
        go_wp2_with (first
          | (guard_target = wpList _ _ _ ({ dst := _, op := Op.build _ _, type := _, pos := _, after := _, guard := _ } :: _) _ _; refine wpList_val rfl (exec_buildZ rfl) (fun K hK => ?_); go_simp; refine hK _ _ ?_; clear hK K)
          | (guard_target = wpList _ _ _ ({ dst := _, op := Op.store 42 _ _, type := _, pos := _, after := _, guard := _ } :: _) _ _; refine wpList_skip rfl (exec_store (v := zeroM.val) rfl rfl rfl (run_storeCl hZ zeroM)) (fun K hK => ?_); go_simp; refine hK _ _ ?_; clear hK K))
        obtain ⟨k1, k2⟩ := HK2.out _ _ zeroM 0 Z4.out S4.out rfl
        exact bodyPost_ret (results_ct rfl rfl rfl k1) rfl ⟨by rw [hE2, hD2]; rfl, k2⟩
      · have hrb : (c.rune != 0) = true := by simpa using hr0
        rw [hrb]
        obtain ⟨f0, f1, f2, f3, _⟩ := C4.out.at'.all
        go_wp2
        go_loopw [25] (fun v W => W = W4 ∧ ∃ k : Nat, k ≤ 3 ∧ v = .int .i64 k ∧ (1 ≤ k → c.m0 ≠ 0) ∧ (2 ≤ k → c.m1 ≠ 0) ∧ (3 ≤ k → c.m2 ≠ 0)) (fun v _ => 3 - (intOf v).toNat)
        case atStart => exact ⟨rfl, 0, by omega, rfl, (fun h => absurd h (by omega)), (fun h => absurd h (by omega)), (fun h => absurd h (by omega))⟩
        case round =>
        obtain ⟨rfl, k, hk, rfl, hp0, hp1, hp2⟩ := hrel
        rcases (show k = 0 ∨ k = 1 ∨ k = 2 ∨ k = 3 by omega) with rfl | rfl | rfl | rfl
        · -- mark 0
          have hx : ∀ W, (Instr.index 34 (.agg #[.int .i32 c.m0, .int .i32 c.m1, .int .i32 c.m2]) (.int .i64 0)).run Tryz.prog W = .ok (.int .i32 c.m0) W := fun W => mark_at c 0 (by decide) W
          by_cases hm : c.m0 = 0
          · have hmb : (c.m0 == 0) = true := by simpa using hm
            have hE0 : E = 0 := by rw [HE.out]; unfold markE; rw [if_neg (by exact fun h => h.elim (fun e => absurd (HVD.out.trans e) (by decide)) (fun e => e hw0)), if_neg hr0, if_pos (by exact .inl hm)]
            have hmc : markC c r = { c with m0 := r } := by unfold markC; rw [if_pos hm]
            have hDc : D = markC c r := by rw [HD.out, ← HE.out, hE0, if_pos rfl]
            have hfz : wr.frozen? ⟨w.heap.size, 1, none⟩ = false := frozen_of_row _ _ _ _ _ C4.out
            obtain ⟨Wn, hWn⟩ : ∃ Wn, Wn = wr.setCell ⟨w.heap.size, 1, none⟩ (.int .i32 r) := ⟨_, rfl⟩
            have hCn : CqAt Wn w.heap.size (markC c r) := by
              rw [hmc, hWn]
              exact heap_setCell_same _ _ _ _ _ _ C4.out
            have hZn : CqAt Wn (w.heap.size + 1) zeroM := by
              rw [hWn]
              unfold CqAt
              rw [heap_setCell_other _ _ _ _ (by show w.heap.size + 1 ≠ w.heap.size; omega)]
              exact Z4.out
            have hSn : Sees w Wn := by rw [hWn]; exact S4.out.setCell (Nat.le_refl _) _
            have HWn := Lib.hid hWn
            have HCn := Lib.hid hCn
            have HZn := Lib.hid hZn
            have HSn := Lib.hid hSn
            have hA := hCn.at'
            clear hCn hZn hSn hmc hWn hm hw0 hr0
            go_upto_region 10 with fail
            rw [← HWn.out]
            go_wp2_with (first
              | (guard_target = wpList _ _ _ ({ dst := _, op := Op.load 42 _, type := _, pos := _, after := _, guard := _ } :: _) _ _; refine wpList_val rfl (exec_load (v := (markC c r).val) rfl rfl (run_loadCell hA)) (fun K hK => ?_); go_simp; refine hK _ _ ?_; clear hK K)
              | (guard_target = wpList _ _ _ ({ dst := _, op := Op.store 42 _ _, type := _, pos := _, after := _, guard := _ } :: _) _ _; refine wpList_skip rfl (exec_store (v := (markC c r).val) rfl rfl rfl (run_storeCl HZn.out (markC c r))) (fun K hK => ?_); go_simp; refine hK _ _ ?_; clear hK K))
            obtain ⟨k1, k2⟩ := HK2.out _ _ (markC c r) 0 HZn.out HSn.out rfl
            exact bodyPost_ret (results_ct rfl rfl rfl k1) rfl ⟨by rw [hE0, hDc]; rfl, k2⟩
          · have hmb : (c.m0 == 0) = false := by simpa using hm
            have HM := Lib.hid hm
            clear hm hw0 hr0
            go_wp2
            go_roundw
            case rel => exact ⟨trivial, 1, by omega, by go_num, (fun _ => HM.out), (fun h => absurd h (by omega)), (fun h => absurd h (by omega))⟩
            case measure => simp [intOf]
        · -- mark 1
          have hx : ∀ W, (Instr.index 34 (.agg #[.int .i32 c.m0, .int .i32 c.m1, .int .i32 c.m2]) (.int .i64 1)).run Tryz.prog W = .ok (.int .i32 c.m1) W := fun W => mark_at c 1 (by decide) W
          by_cases hm : c.m1 = 0
          · have hmb : (c.m1 == 0) = true := by simpa using hm
            have hE0 : E = 0 := by rw [HE.out]; unfold markE; rw [if_neg (by exact fun h => h.elim (fun e => absurd (HVD.out.trans e) (by decide)) (fun e => e hw0)), if_neg hr0, if_pos (by exact .inr (.inl hm))]
            have hmc : markC c r = { c with m1 := r } := by unfold markC; rw [if_neg (hp0 (by omega)), if_pos hm]
            have hDc : D = markC c r := by rw [HD.out, ← HE.out, hE0, if_pos rfl]
            have hfz : wr.frozen? ⟨w.heap.size, 2, none⟩ = false := frozen_of_row _ _ _ _ _ C4.out
            obtain ⟨Wn, hWn⟩ : ∃ Wn, Wn = wr.setCell ⟨w.heap.size, 2, none⟩ (.int .i32 r) := ⟨_, rfl⟩
            have hCn : CqAt Wn w.heap.size (markC c r) := by
              rw [hmc, hWn]
              exact heap_setCell_same _ _ _ _ _ _ C4.out
            have hZn : CqAt Wn (w.heap.size + 1) zeroM := by
              rw [hWn]
              unfold CqAt
              rw [heap_setCell_other _ _ _ _ (by show w.heap.size + 1 ≠ w.heap.size; omega)]
              exact Z4.out
            have hSn : Sees w Wn := by rw [hWn]; exact S4.out.setCell (Nat.le_refl _) _
            have HWn := Lib.hid hWn
            have HCn := Lib.hid hCn
            have HZn := Lib.hid hZn
            have HSn := Lib.hid hSn
            have hA := hCn.at'
            clear hCn hZn hSn hmc hWn hm hw0 hr0
            go_upto_region 10 with fail
            rw [← HWn.out]
            go_wp2_with (first
              | (guard_target = wpList _ _ _ ({ dst := _, op := Op.load 42 _, type := _, pos := _, after := _, guard := _ } :: _) _ _; refine wpList_val rfl (exec_load (v := (markC c r).val) rfl rfl (run_loadCell hA)) (fun K hK => ?_); go_simp; refine hK _ _ ?_; clear hK K)
              | (guard_target = wpList _ _ _ ({ dst := _, op := Op.store 42 _ _, type := _, pos := _, after := _, guard := _ } :: _) _ _; refine wpList_skip rfl (exec_store (v := (markC c r).val) rfl rfl rfl (run_storeCl HZn.out (markC c r))) (fun K hK => ?_); go_simp; refine hK _ _ ?_; clear hK K))
            obtain ⟨k1, k2⟩ := HK2.out _ _ (markC c r) 0 HZn.out HSn.out rfl
            exact bodyPost_ret (results_ct rfl rfl rfl k1) rfl ⟨by rw [hE0, hDc]; rfl, k2⟩
          · have hmb : (c.m1 == 0) = false := by simpa using hm
            have HM := Lib.hid hm
            clear hm hw0 hr0
            go_wp2
            go_roundw
            case rel => exact ⟨trivial, 2, by omega, by go_num, (fun _ => hp0 (by omega)), (fun _ => HM.out), (fun h => absurd h (by omega))⟩
            case measure => simp [intOf]
        · -- mark 2
          have hx : ∀ W, (Instr.index 34 (.agg #[.int .i32 c.m0, .int .i32 c.m1, .int .i32 c.m2]) (.int .i64 2)).run Tryz.prog W = .ok (.int .i32 c.m2) W := fun W => mark_at c 2 (by decide) W
          by_cases hm : c.m2 = 0
          · have hmb : (c.m2 == 0) = true := by simpa using hm
            have hE0 : E = 0 := by rw [HE.out]; unfold markE; rw [if_neg (by exact fun h => h.elim (fun e => absurd (HVD.out.trans e) (by decide)) (fun e => e hw0)), if_neg hr0, if_pos (by exact .inr (.inr hm))]
            have hmc : markC c r = { c with m2 := r } := by unfold markC; rw [if_neg (hp0 (by omega)), if_neg (hp1 (by omega))]
            have hDc : D = markC c r := by rw [HD.out, ← HE.out, hE0, if_pos rfl]
            have hfz : wr.frozen? ⟨w.heap.size, 3, none⟩ = false := frozen_of_row _ _ _ _ _ C4.out
            obtain ⟨Wn, hWn⟩ : ∃ Wn, Wn = wr.setCell ⟨w.heap.size, 3, none⟩ (.int .i32 r) := ⟨_, rfl⟩
            have hCn : CqAt Wn w.heap.size (markC c r) := by
              rw [hmc, hWn]
              exact heap_setCell_same _ _ _ _ _ _ C4.out
            have hZn : CqAt Wn (w.heap.size + 1) zeroM := by
              rw [hWn]
              unfold CqAt
              rw [heap_setCell_other _ _ _ _ (by show w.heap.size + 1 ≠ w.heap.size; omega)]
              exact Z4.out
            have hSn : Sees w Wn := by rw [hWn]; exact S4.out.setCell (Nat.le_refl _) _
            have HWn := Lib.hid hWn
            have HCn := Lib.hid hCn
            have HZn := Lib.hid hZn
            have HSn := Lib.hid hSn
            have hA := hCn.at'
            clear hCn hZn hSn hmc hWn hm hw0 hr0
            go_upto_region 10 with fail
            rw [← HWn.out]
            go_wp2_with (first
              | (guard_target = wpList _ _ _ ({ dst := _, op := Op.load 42 _, type := _, pos := _, after := _, guard := _ } :: _) _ _; refine wpList_val rfl (exec_load (v := (markC c r).val) rfl rfl (run_loadCell hA)) (fun K hK => ?_); go_simp; refine hK _ _ ?_; clear hK K)
              | (guard_target = wpList _ _ _ ({ dst := _, op := Op.store 42 _ _, type := _, pos := _, after := _, guard := _ } :: _) _ _; refine wpList_skip rfl (exec_store (v := (markC c r).val) rfl rfl rfl (run_storeCl HZn.out (markC c r))) (fun K hK => ?_); go_simp; refine hK _ _ ?_; clear hK K))
            obtain ⟨k1, k2⟩ := HK2.out _ _ (markC c r) 0 HZn.out HSn.out rfl
            exact bodyPost_ret (results_ct rfl rfl rfl k1) rfl ⟨by rw [hE0, hDc]; rfl, k2⟩
          · have hmb : (c.m2 == 0) = false := by simpa using hm
            have HM := Lib.hid hm
            clear hm hw0 hr0
            go_wp2
            go_roundw
            case rel => exact ⟨trivial, 3, by omega, by go_num, (fun _ => hp0 (by omega)), (fun _ => hp1 (by omega)), (fun _ => HM.out)⟩
            case measure => simp [intOf]
        · -- none is free
          have hE2 : E = 7 := by rw [HE.out]; unfold markE; rw [if_neg (by exact fun h => h.elim (fun e => absurd (HVD.out.trans e) (by decide)) (fun e => e hw0)), if_neg hr0, if_neg (by exact fun h => h.elim (fun e => hp0 (by omega) e) (fun h => h.elim (fun e => hp1 (by omega) e) (fun e => hp2 (by omega) e)))]
          have hD2 : D = zeroM := by rw [HD.out, ← HE.out, hE2]; rfl
          go_upto_region 12 with fail
          have hZ := Z4.out
          go_wp2_with (first
            | (guard_target = wpList _ _ _ ({ dst := _, op := Op.build _ _, type := _, pos := _, after := _, guard := _ } :: _) _ _; refine wpList_val rfl (exec_buildZ rfl) (fun K hK => ?_); go_simp; refine hK _ _ ?_; clear hK K)
            | (guard_target = wpList _ _ _ ({ dst := _, op := Op.store 42 _ _, type := _, pos := _, after := _, guard := _ } :: _) _ _; refine wpList_skip rfl (exec_store (v := zeroM.val) rfl rfl rfl (run_storeCl hZ zeroM)) (fun K hK => ?_); go_simp; refine hK _ _ ?_; clear hK K))
          obtain ⟨k1, k2⟩ := HK2.out _ _ zeroM 0 Z4.out S4.out rfl
          exact bodyPost_ret (results_ct rfl rfl rfl k1) rfl ⟨by rw [hE2, hD2]; rfl, k2⟩
    · have hwb : (wOf r != 0) = true := by simpa using hw0
      have hE2 : E = 2 := by rw [HE.out]; unfold markE; rw [if_pos (.inr hw0)]
      have hD2 : D = zeroM := by rw [HD.out, ← HE.out, hE2]; rfl
      go_upto_region 2 with fail
      have hZ := Z3.out
      go_wp2_with (first
        | (guard_target = wpList _ _ _ ({ dst := _, op := Op.build _ _, type := _, pos := _, after := _, guard := _ } :: _) _ _; refine wpList_val rfl (exec_buildZ rfl) (fun K hK => ?_); go_simp; refine hK _ _ ?_; clear hK K)
        | (guard_target = wpList _ _ _ ({ dst := _, op := Op.store 42 _ _, type := _, pos := _, after := _, guard := _ } :: _) _ _; refine wpList_skip rfl (exec_store (v := zeroM.val) rfl rfl rfl (run_storeCl hZ zeroM)) (fun K hK => ?_); go_simp; refine hK _ _ ?_; clear hK K))
      obtain ⟨k1, k2⟩ := HK2.out _ _ zeroM 0 Z3.out S3.out rfl
      exact bodyPost_ret (results_ct rfl rfl rfl k1) rfl ⟨by rw [hE2, hD2]; rfl, k2⟩
end Go.Proofs.YthcndmchlpohpaaGreatDoor

namespace Go.Proofs.YthcndmchlpohpaaGreatDoor
set_option linter.unusedVariables false
set_option linter.unusedSimpArgs false
open Go.RowKit Go.Shelf
attribute [local go_sem] Oper.semAt_some

/-- A hexadecimal digit's number; of another byte 16 or more. -/
def hexQ (c : UInt8) : Nat := if 48 ≤ c.toNat ∧ c.toNat ≤ 57 then c.toNat - 48 else if 97 ≤ (c.toNat ||| 32) ∧ (c.toNat ||| 32) ≤ 122 then (c.toNat ||| 32) - 87 else 99
def hexF : Nat → List UInt8 → Option Nat
  | acc, [] => some acc
  | acc, c :: cs => if hexQ c < 16 then hexF (acc * 16 + hexQ c) cs else none
theorem or32 (n : Nat) (hn : n < 256) : bits BinOp.or IntKind.u8 (n : Int) 32 = ((n ||| 32 : Nat) : Int) :=
  (show ∀ m : Fin 256, bits BinOp.or IntKind.u8 ((m.val : Nat) : Int) 32 = ((m.val ||| 32 : Nat) : Int) by decide +kernel) ⟨n, hn⟩
theorem or32_lt (n : Nat) (hn : n < 256) : (n ||| 32) < 256 :=
  (show ∀ m : Fin 256, (m.val ||| 32) < 256 by decide +kernel) ⟨n, hn⟩
theorem lower_any (c : Nat) (hc : c < 256) (w : World) : Calls Tryz.prog 104 #[.int .u8 (c : Int)] w fun e w' => e = .returned (.int .u8 ((c ||| 32 : Nat) : Int)) ∧ w' = w := by
  have h := or32 c hc
  go_enter Tryz.func104, Tryz.ntmps104
  go_wp2
  go_ret
  exact ⟨rfl, rfl⟩
set_option maxHeartbeats 4000000 in
set_option maxRecDepth 100000 in
theorem parse16_in (t : ByteArray) (hs : t.size = 6) (w : World) :
    Calls Tryz.prog 91 #[.string t, .int .i64 16, .int .i64 32] w fun e w' => e = .returned (.tuple #[.int .u64 (((hexF 0 t.data.toList).getD 0 : Nat) : Int), if (hexF 0 t.data.toList).isSome then .nilIface else .iface 157 (.int .i64 2)]) ∧ Sees w w' := by
  have hemp : t.toList.isEmpty = false := by
    rw [← decide_eq_emptyBytes]
    exact decide_eq_false (fun h => by rw [h] at hs; cases hs)
  have hcv := Lib.run_convert_string_bytes (P := Tryz.prog) w 9 23 5 t (u := .string) Tryz.underlying9 Tryz.underlying23 Tryz.underlying5
  have hB : ∀ j, j < t.size → (Lib.bytesWorld w 5 t).cell? ⟨w.heap.size, j, none⟩ = some (.int .u8 (t.data.toList.getD j 0).toNat) := fun j hj => Lib.bytesWorld_cell w 5 t j hj
  have hSW : Sees w (Lib.bytesWorld w 5 t) := Lib.bytesWorld_below _ _ _
  obtain ⟨W1, hW1⟩ : ∃ W1, W1 = Lib.bytesWorld w 5 t := ⟨_, rfl⟩
  rw [← hW1] at hcv hB hSW
  clear hW1
  have HSW := Lib.hid hSW
  clear hSW
  obtain ⟨bs, hL⟩ : ∃ bs, bs = t.data.toList := ⟨_, rfl⟩
  have hLn : bs.length = 6 := by rw [hL, ← Lib.size_eq, hs]
  rw [← hL] at hB ⊢
  clear hL
  obtain ⟨r, hr⟩ : ∃ r, r = hexF 0 bs := ⟨_, rfl⟩
  rw [← hr]
  obtain ⟨RR, hRR⟩ : ∃ RR, RR = Ending.returned (.tuple #[.int .u64 ((r.getD 0 : Nat) : Int), if r.isSome then .nilIface else .iface 157 (.int .i64 2)]) := ⟨_, rfl⟩
  rw [← hRR]
  have HRR := Lib.hid hRR
  clear hRR
  have hmv : IntKind.u64.wrap (IntKind.u64.wrap 4294967296 - 1) = 4294967295 := by
    rw [IntKind.wrap_u64, IntKind.wrap_u64]
    decide
  go_enter Tryz.func91, Tryz.ntmps91
  go_wp2
  go_loop [12, 13, 101] (fun vu vn vi => ∃ (k acc : Nat) (a : Int), vu = .bool false ∧ vn = .int .u64 a ∧ vi = .int .i64 k ∧ k ≤ 6 ∧ Hid (a = (acc : Int) ∧ acc < 16 ^ k ∧ r = hexF acc (bs.drop k)))
    (fun _ _ vi => 6 - (intOf vi).toNat)
  case atStart => exact ⟨0, 0, 0, rfl, rfl, rfl, by omega, rfl, by decide, by rw [hr]; rfl⟩
  case round =>
    obtain ⟨k, acc, a, rfl, rfl, rfl, hk, hh⟩ := hrel
    obtain ⟨ha, hacc, hdec⟩ := hh.out
    clear hh hr
    by_cases hkn : k < 6
    · have hc := hB k (by omega)
      have hp : 16 ^ k ≤ 16 ^ 5 := Nat.pow_le_pow_right (by decide) (by omega)
      have a2 : acc < 1048576 := Nat.lt_of_lt_of_le hacc (Nat.le_trans hp (by decide))
      have a0 : 0 ≤ a := by omega
      have a1 : a < 1048576 := by omega
      have hdrop : bs.drop k = bs[k]'(by omega) :: bs.drop (k + 1) := List.drop_eq_getElem_cons (by omega)
      have hget : bs.getD k 0 = bs[k]'(by omega) := by simp [List.getD, List.getElem?_eq_getElem (show k < bs.length by omega)]
      rw [hdrop] at hdec
      rw [hget] at hc
      generalize bs[k]'(by omega) = c at hc hdec
      have hc256 : c.toNat < 256 := c.toNat_lt
      clear hB hdrop hget hp
      rw [hexF] at hdec
      obtain ⟨q, hq⟩ : ∃ q, q = hexQ c := ⟨_, rfl⟩
      rw [← hq] at hdec
      have KL := Lib.hid (fun W => lower_any c.toNat hc256 W)
      have h32 := or32_lt c.toNat hc256
      obtain ⟨m, hm⟩ : ∃ m, m = (c.toNat ||| 32) := ⟨_, rfl⟩
      have hm95 : c.toNat = 95 → m = 127 := fun h => by rw [hm, h]; decide
      unfold hexQ at hq
      rw [← hm] at KL h32 hq
      clear hm
      by_cases hdig : 48 ≤ c.toNat ∧ c.toNat ≤ 57
      · rw [if_pos hdig] at hq
        obtain ⟨hd0, hd1⟩ := hdig
        have h95 : ((c.toNat : Int) == 95) = false := by simp; omega
        clear KL h32 hm95
        have HN : Hid (a * 16 + ((c.toNat : Int) - 48) = ((acc * 16 + q : Nat) : Int) ∧ acc * 16 + q < 16 ^ (k + 1) ∧ r = hexF (acc * 16 + q) (bs.drop (k + 1))) := Lib.hid ⟨by omega, by rw [Nat.pow_succ]; omega, by rw [hdec, if_pos (by omega)]⟩
        clear hdec hacc hq ha
        go_wp2
        all_goals exact ⟨⟨k + 1, acc * 16 + q, a * 16 + ((c.toNat : Int) - 48), rfl, (by first | rfl | (congr 1; omega)), (by first | rfl | (congr 1; omega)), by omega, HN⟩, by simp [intOf]; omega⟩
      · rw [if_neg hdig] at hq
        have hdi : (48 : Int) ≤ (c.toNat : Int) → ¬ ((c.toNat : Int) ≤ 57) := fun h1 h2 => hdig ⟨by omega, by omega⟩
        have hdd : ¬ (48 : Int) ≤ (c.toNat : Int) ∨ ((48 : Int) ≤ (c.toNat : Int) ∧ ¬ ((c.toNat : Int) ≤ 57)) := by omega
        clear hdi hdig
        by_cases hm : 97 ≤ m ∧ m ≤ 122
        · rw [if_pos hm] at hq
          obtain ⟨hm0, hm1⟩ := hm
          have h95 : ((c.toNat : Int) == 95) = false := by simp; omega
          clear hm95
          by_cases hm2 : m ≤ 102
          · rcases hdd with hdd | ⟨hd1, hd2⟩
            all_goals
              have HN : Hid (a * 16 + ((m : Int) - 87) = ((acc * 16 + q : Nat) : Int) ∧ acc * 16 + q < 16 ^ (k + 1) ∧ r = hexF (acc * 16 + q) (bs.drop (k + 1))) := Lib.hid ⟨by omega, by rw [Nat.pow_succ]; omega, by rw [hdec, if_pos (by omega)]⟩
              clear hdec hacc hq ha
              go_wp2_with (go_at_call 104; refine (KL.out _).mono ?_; rintro e w' ⟨rfl, rfl⟩)
              all_goals exact ⟨⟨k + 1, acc * 16 + q, a * 16 + ((m : Int) - 87), rfl, (by first | rfl | (congr 1; omega)), (by first | rfl | (congr 1; omega)), by omega, HN⟩, by simp [intOf]; omega⟩
          · rcases hdd with hdd | ⟨hd1, hd2⟩
            all_goals
              have HD : Hid (r = none) := by unfold RowKit.Hid; rw [hdec, if_neg (by omega)]
              clear hdec hacc hq ha
              go_wp2_with (go_at_call 104; refine (KL.out _).mono ?_; rintro e w' ⟨rfl, rfl⟩)
              all_goals go_ret2
              all_goals exact ⟨by rw [HRR.out, HD.out]; rfl, HSW.out⟩
        · rw [if_neg hm] at hq
          have hmm : ¬ 97 ≤ m ∨ (97 ≤ m ∧ ¬ m ≤ 122) := by omega
          clear hm
          by_cases h9 : c.toNat = 95
          · obtain rfl : m = 127 := hm95 h9
            rw [h9] at KL hc
            have HD : Hid (r = none) := by unfold RowKit.Hid; rw [hdec, if_neg (by omega)]
            clear hdec hacc hq ha hmm hm95 h9 hdd hc256
            go_wp2_with (go_at_call 104; refine (KL.out _).mono ?_; rintro e w' ⟨rfl, rfl⟩)
            all_goals go_ret2
            all_goals exact ⟨by rw [HRR.out, HD.out]; rfl, HSW.out⟩
          · have h95 : ((c.toNat : Int) == 95) = false := by simp; omega
            clear hm95
            rcases hmm with hm | ⟨hm, hm2⟩
            all_goals
              rcases hdd with hdd | ⟨hd1, hd2⟩
              all_goals
                have HD : Hid (r = none) := by unfold RowKit.Hid; rw [hdec, if_neg (by omega)]
                clear hdec hacc hq ha
                go_wp2_with (go_at_call 104; refine (KL.out _).mono ?_; rintro e w' ⟨rfl, rfl⟩)
                all_goals go_ret2
                all_goals exact ⟨by rw [HRR.out, HD.out]; rfl, HSW.out⟩
    · obtain rfl : k = 6 := by omega
      have HD : Hid (r = some acc) := by unfold RowKit.Hid; rw [hdec, List.drop_of_length_le (by omega)]; rfl
      clear hdec hacc
      subst ha
      go_wp2
      go_ret2
      exact ⟨by rw [HRR.out, HD.out]; rfl, HSW.out⟩
set_option maxHeartbeats 1000000 in
theorem parse16_any (t : ByteArray) (hs : t.size = 6) (w : World) (hw : Sd w) :
    Calls Tryz.prog 76 #[.string t, .int .i64 16, .int .i64 32] w fun e w' => ∃ ev, e = .returned (.tuple #[.int .u64 (((hexF 0 t.data.toList).getD 0 : Nat) : Int), ev]) ∧ Sees w w' := by
  have KP := Lib.hid (parse16_in t hs w)
  have HW := Lib.hid hw
  clear hw
  cases h : hexF 0 t.data.toList with
  | some u =>
    rw [h] at KP
    have KP2 : Hid (Calls Tryz.prog 91 #[.string t, .int .i64 16, .int .i64 32] w fun e w' => e = .returned (.tuple #[.int .u64 ((u : Nat) : Int), .nilIface]) ∧ Sees w w') := KP.out
    clear KP h
    go_enter Tryz.func76, Tryz.ntmps76
    go_wp2_with fail
    refine KP2.out.mono ?_
    rintro e w' ⟨rfl, hs⟩
    go_wp2
    go_ret2
    exact ⟨_, rfl, hs⟩
  | none =>
    rw [h] at KP
    have KP2 : Hid (Calls Tryz.prog 91 #[.string t, .int .i64 16, .int .i64 32] w fun e w' => e = .returned (.tuple #[.int .u64 0, .iface 157 (.int .i64 2)]) ∧ Sees w w') := KP.out
    have KE : Hid (∀ W, Sees w W → Calls Tryz.prog 92 #[.string ⟨#[80, 97, 114, 115, 101, 85, 105, 110, 116]⟩, .string t, .int .i64 16, .int .i64 32, .iface 157 (.int .i64 2)] W fun e w' => ∃ v, e = .returned v ∧ Sees W w') := fun W hW => by
      obtain ⟨te, pe, hv⟩ := (HW.out.sees hW).es
      refine (Any.strconv_toError_syntax { Tryz.laysC172 with } ⟨#[80, 97, 114, 115, 101, 85, 105, 110, 116]⟩ t 16 32 _ W (by omega) hv (.inr ⟨_, _, rfl⟩)).mono ?_
      rintro e w' ⟨N, rfl, _, _, hb⟩
      exact ⟨_, rfl, hb⟩
    clear KP h
    go_enter Tryz.func76, Tryz.ntmps76
    go_wp2_with fail
    refine KP2.out.mono ?_
    rintro e w' ⟨rfl, hs⟩
    go_wp2_with fail
    refine (KE.out _ hs).mono ?_
    rintro e w'' ⟨v, rfl, hs2⟩
    go_wp2
    go_ret2
    exact ⟨_, rfl, hs.trans hs2⟩
end Go.Proofs.YthcndmchlpohpaaGreatDoor
