/- cell.Of, and ChooseBytes (41). The tables hold what the program's text lays. -/
import Derived.Test.YtooiiefipdjbjaaDoorChZ
namespace Go.Proofs.YtooiiefipdjbjaaDoor
set_option linter.unusedVariables false
set_option linter.unusedSimpArgs false
open Go.RowKit Go.Shelf
attribute [local go_sem] Oper.semAt_some

abbrev penZ : Value := .agg #[.int .i64 0, .int .u8 0, .int .u8 0, .int .u8 0, .int .u8 0, .int .i64 0, .int .u8 0, .int .u8 0, .int .u8 0, .int .u8 0, .int .u8 0]
theorem spacer_any (w : World) : Calls Tryd.prog 55 #[penZ] w fun e w' => e = .returned zC.val ∧ Sees w w' := by
  go_enter Tryd.func55, Tryd.ntmps55
  have h := cellAt_new (w.alloc (.cells #[.int .i64 0, .int .u8 0, .int .u8 0, .int .u8 0, .int .u8 0, .int .i64 0, .int .u8 0, .int .u8 0, .int .u8 0, .int .u8 0, .int .u8 0] 71)) zC 85
  rw [World.size_alloc] at h
  go_wp2
  exact bodyPost_ret (results_one rfl rfl (run_loadCell h)) rfl ⟨rfl, ((Sees.refl w).alloc _).alloc _⟩
set_option maxHeartbeats 1000000 in
theorem cellOf_bad (r : Int) (w : World) (ht : Tabs w) (h : wOf r < 1) : Calls Tryd.prog 30 #[.int .i32 r, penZ] w fun e w' => e = .returned (.tuple #[.slice none 0 0, .int .i64 2]) ∧ Sees w w' := by
  have HT := Lib.hid ht
  have S0 := Sees.refl w
  have HW := Lib.hid (fun W (hs : Sees w W) => widthOf_any r W (ht.sees hs))
  clear ht
  generalize wOf r = k at *
  go_enter Tryd.func30, Tryd.ntmps30
  go_upto_region 1 with fail
  refine wp_world fun W1 hW1 => ?_
  have S1 : Hid (Sees w W1) := by subst hW1; exact (Sees.refl w).alloc _
  clear hW1 S0
  go_wp2_with fail
  refine (HW.out W1 S1.out).mono ?_
  rintro e w2 ⟨rfl, hs⟩
  have S2 := Lib.hid (S1.out.trans hs)
  clear hs
  go_wp2
  go_ret2
  exact ⟨rfl, S2.out⟩
theorem cell_row_of {F : Nat → Prop} {base : Nat} (G : Nat → Prop) {w : World} {v : Value} {cs : List Cell} (h : cellEl.Own F w v cs) (hb : ∀ g, F g → base ≤ g) : cellEl.Row base G w v cs := by
  obtain ⟨vals, h1, h2, h3⟩ := h
  exact ⟨vals, El.rowMono h1 (fun g hg => hb g (h2 g hg)), ⟨h3.rel.1, fun i x hx => h3.rel.2 i x hx⟩⟩
/-- A cell in a block of its own. -/
theorem own_new_cell {W : World} {g : Nat} {c : Cell} (hg : W.heap[g]? = some (.cells c.vals.toArray 85 (0, 0))) : cellEl.Own (fun b => b = g) W (.slice (some ⟨g, 0, none⟩) 1 1) [c] :=
  ⟨c.vals, ⟨rfl, .inr ⟨g, 1, _, rfl, Nat.zero_le _, hg, Nat.le_refl _, by decide, rfl, rfl⟩⟩, fun b hb => by cases hb; rfl, El.ownIn_one (E := cellEl) rfl⟩
def PnAt (W : World) (b : Nat) : Prop := W.heap[b]? = some (.cells #[.int .i64 0, .int .u8 0, .int .u8 0, .int .u8 0, .int .u8 0, .int .i64 0, .int .u8 0, .int .u8 0, .int .u8 0, .int .u8 0, .int .u8 0] 71 (0, 0))
theorem PnAt.sees {W W' : World} {b : Nat} (h : PnAt W b) (hs : Sees W W') : PnAt W' b := by
  unfold PnAt at *
  rw [hs.block _ (Array.getElem?_eq_some_iff.1 h).1]; exact h
theorem PnAt.c {W : World} {b : Nat} (h : PnAt W b) : W.cell? ⟨b, 0, none⟩ = some (.int .i64 0) ∧ W.cell? ⟨b, 1, none⟩ = some (.int .u8 0) ∧ W.cell? ⟨b, 2, none⟩ = some (.int .u8 0) ∧ W.cell? ⟨b, 3, none⟩ = some (.int .u8 0) ∧ W.cell? ⟨b, 4, none⟩ = some (.int .u8 0) ∧ W.cell? ⟨b, 5, none⟩ = some (.int .i64 0) ∧ W.cell? ⟨b, 6, none⟩ = some (.int .u8 0) ∧ W.cell? ⟨b, 7, none⟩ = some (.int .u8 0) ∧ W.cell? ⟨b, 8, none⟩ = some (.int .u8 0) ∧ W.cell? ⟨b, 9, none⟩ = some (.int .u8 0) ∧ W.cell? ⟨b, 10, none⟩ = some (.int .u8 0) :=
  ⟨by rw [cell_of_row _ _ _ _ _ _ h]; rfl, by rw [cell_of_row _ _ _ _ _ _ h]; rfl, by rw [cell_of_row _ _ _ _ _ _ h]; rfl, by rw [cell_of_row _ _ _ _ _ _ h]; rfl, by rw [cell_of_row _ _ _ _ _ _ h]; rfl, by rw [cell_of_row _ _ _ _ _ _ h]; rfl, by rw [cell_of_row _ _ _ _ _ _ h]; rfl, by rw [cell_of_row _ _ _ _ _ _ h]; rfl, by rw [cell_of_row _ _ _ _ _ _ h]; rfl, by rw [cell_of_row _ _ _ _ _ _ h]; rfl, by rw [cell_of_row _ _ _ _ _ _ h]; rfl⟩
def ofC (r k : Int) : Cell := ⟨r, 0, 0, 0, k, 0, 0, 0, 0, 0, 0, 0, 0, 0, 0, 0⟩
def ofL (r : Int) : List Cell := ofC r (wOf r) :: (if wOf r = 2 then [zC] else [])
theorem wOf_ways (r : Int) : wOf r = -1 ∨ wOf r = 0 ∨ wOf r = 1 ∨ wOf r = 2 := by
  unfold wOf
  split
  · split
    · simp
    · split <;> simp
  · simp
set_option maxHeartbeats 1000000 in
theorem cellOf_ok (r : Int) (w : World) (ht : Tabs w) (h : 1 ≤ wOf r) : Calls Tryd.prog 30 #[.int .i32 r, penZ] w fun e w' => ∃ v, e = .returned (.tuple #[v, .int .i64 0]) ∧ cellEl.Own (fun b => w.heap.size ≤ b) w' v (ofL r) ∧ Sees w w' := by
  have HT := Lib.hid ht
  have S0 := Sees.refl w
  have HW := Lib.hid (fun W (hs : Sees w W) => widthOf_any r W (ht.sees hs))
  have KV := Lib.hid (fun W => penValid_any 0 0 0 0 0 0 0 0 0 0 0 W)
  have KS := Lib.hid (fun W => spacer_any W)
  clear ht
  obtain ⟨L, hL⟩ : ∃ L, L = ofL r := ⟨_, rfl⟩
  rw [← hL]
  have hL1 : wOf r = 1 → L = [ofC r 1] := fun h => by rw [hL]; unfold ofL; rw [h]; rfl
  have hL2 : wOf r = 2 → L = [ofC r 2, zC] := fun h => by rw [hL]; unfold ofL; rw [h]; rfl
  have HL1 := Lib.hid hL1
  have HL2' := Lib.hid hL2
  clear hL hL1 hL2
  have hk : wOf r = 1 ∨ wOf r = 2 := by rcases wOf_ways r with h' | h' | h' | h' <;> omega
  go_enter Tryd.func30, Tryd.ntmps30
  go_upto_region 1 with fail
  refine wp_world fun W1 hW1 => ?_
  have S1 : Hid (Sees w W1) := by subst hW1; exact (Sees.refl w).alloc _
  have P1 : PnAt W1 w.heap.size := by subst hW1; exact heap_alloc_new w _
  obtain ⟨b3, hb3⟩ : ∃ b3, b3 = w.heap.size := ⟨_, rfl⟩
  rw [← hb3] at P1 ⊢
  have HB3 := Lib.hid hb3
  clear hW1 S0 hb3
  go_wp2_with fail
  refine (HW.out W1 S1.out).mono ?_
  rintro e w2 ⟨rfl, hs⟩
  have S2 := Lib.hid (S1.out.trans hs)
  have P2 := Lib.hid (P1.sees hs)
  clear hs P1
  have hv : vPen 0 0 0 0 0 0 0 0 0 0 = true := by decide
  rw [hv] at KV
  obtain ⟨q0, q1, q2, q3, q4, q5, q6, q7, q8, q9, q10⟩ := P2.out.c
  rcases hk with hk | hk
  · have hLL := Lib.hid (HL1.out hk)
    rw [hk]
    clear hk h
    go_wp2_with fail
    refine (KV.out w2).mono ?_
    rintro e w3 ⟨rfl, hs⟩
    have S3 := Lib.hid (S2.out.trans hs)
    have P3 := Lib.hid (P2.out.sees hs)
    clear hs q0 q1 q2 q3 q4 q5 q6 q7 q8 q9 q10 P2
    obtain ⟨q0, q1, q2, q3, q4, q5, q6, q7, q8, q9, q10⟩ := P3.out.c
    go_wp2
    go_ret2
    refine ⟨_, rfl, ?_, S3.out.alloc _⟩
    rw [hLL.out]
    exact (own_new_cell (c := ofC r 1) (heap_alloc_new w3 _)).mono (fun b _ hb => by have e : b = w3.heap.size := hb; have := S3.out.size; omega)
  · have hLL := Lib.hid (HL2'.out hk)
    rw [hk]
    clear hk h
    go_wp2_with fail
    refine (KV.out w2).mono ?_
    rintro e w3 ⟨rfl, hs⟩
    have S3 := Lib.hid (S2.out.trans hs)
    have P3 := Lib.hid (P2.out.sees hs)
    clear hs q0 q1 q2 q3 q4 q5 q6 q7 q8 q9 q10 P2
    obtain ⟨q0, q1, q2, q3, q4, q5, q6, q7, q8, q9, q10⟩ := P3.out.c
    go_upto_region 5 with fail
    refine wp_world fun w4 hw4 => ?_
    have O4 : cellEl.Own (fun b => b = w3.heap.size) w4 (.slice (some ⟨w3.heap.size, 0, none⟩) 1 1) [ofC r 2] := by subst hw4; exact own_new_cell (c := ofC r 2) (heap_alloc_new w3 _)
    have s4 : Sees w3 w4 := by subst hw4; exact (Sees.refl w3).alloc _
    obtain ⟨g, hg⟩ : ∃ g, g = w3.heap.size := ⟨_, rfl⟩
    rw [← hg] at O4 ⊢
    have HG := Lib.hid (show w.heap.size ≤ g by have := S3.out.size; omega)
    have S4 := Lib.hid (S3.out.trans s4)
    have P4 := Lib.hid (P3.out.sees s4)
    have O := Lib.hid O4
    clear hw4 s4 O4 hg q0 q1 q2 q3 q4 q5 q6 q7 q8 q9 q10 P3
    obtain ⟨q0, q1, q2, q3, q4, q5, q6, q7, q8, q9, q10⟩ := P4.out.c
    go_wp2_with fail
    refine (KS.out w4).mono ?_
    rintro e w5 ⟨rfl, hs⟩
    have S5 := Lib.hid (S4.out.trans hs)
    have O5 := Lib.hid (O.out.cut.sees hs)
    have H45 := Lib.hid hs.size
    clear hs q0 q1 q2 q3 q4 q5 q6 q7 q8 q9 q10 P4
    have hrow := heap_alloc_new w5 (.cells #[Value.int .i32 0, .int .i32 0, .int .i32 0, .int .i32 0, .int .i64 0, .int .i64 0, .int .u8 0, .int .u8 0, .int .u8 0, .int .u8 0, .int .i64 0, .int .u8 0, .int .u8 0, .int .u8 0, .int .u8 0, .int .u8 0] 85)
    have sA : Sees w5 (w5.alloc (.cells #[Value.int .i32 0, .int .i32 0, .int .i32 0, .int .i32 0, .int .i64 0, .int .i64 0, .int .u8 0, .int .u8 0, .int .u8 0, .int .u8 0, .int .i64 0, .int .u8 0, .int .u8 0, .int .u8 0, .int .u8 0, .int .u8 0] 85)) := (Sees.refl w5).alloc _
    have HO := Lib.hid (O5.out.sees sA)
    have Hrow := Lib.hid hrow
    have HF := Lib.hid (show ∀ b, (b = g ∧ b < w4.heap.size) → b < (w5.alloc (.cells #[Value.int .i32 0, .int .i32 0, .int .i32 0, .int .i32 0, .int .i64 0, .int .i64 0, .int .u8 0, .int .u8 0, .int .u8 0, .int .u8 0, .int .i64 0, .int .u8 0, .int .u8 0, .int .u8 0, .int .u8 0, .int .u8 0] 85)).heap.size from fun b hb => by rw [World.size_alloc]; have := H45.out; omega)
    have HL2 := Lib.hid (show [ofC r 2].length + [zC].length ≤ 100000000 by show 1 + 1 ≤ 100000000; decide)
    have HS := Lib.hid (S5.out.trans sA)
    have H5 := Lib.hid S5.out.size
    clear hrow sA
    go_wp2_with (at_builtin; refine El.wpList_append_own (v := .slice (some ⟨g, 0, none⟩) 1 1) typedCell rfl (.tmp 24) (.tmp 27) rfl (by go_simp) HO.out ⟨w5.heap.size, 0, none⟩ 1 1 (by go_simp) zC.vals [zC] (fun _ => False) (El.ownIn_one (E := cellEl) rfl) rfl (fun j u hu => El.row_cells Hrow.out j u hu) HF.out (fun b hb => hb.elim) HL2.out ?_; intro v7 w7 ho7 hk7; obtain ⟨a7, c7, rfl, _⟩ := ho7.slice; have HO7 := Lib.hid ho7; have HK7 := Lib.hid hk7; clear ho7 hk7)
    go_ret2
    refine ⟨_, rfl, ?_, El.keep_new HS.out HK7.out (fun g' hg' => by have e := (HO.out.base hg').1.1; have := HG.out; omega)⟩
    rw [hLL.out]
    refine HO7.out.mono fun b _ hb => ?_
    have := HG.out
    have := H5.out
    rcases hb with hb | hb | hb
    · omega
    · exact hb.elim
    · rw [World.size_alloc] at hb; omega
end Go.Proofs.YtooiiefipdjbjaaDoor
