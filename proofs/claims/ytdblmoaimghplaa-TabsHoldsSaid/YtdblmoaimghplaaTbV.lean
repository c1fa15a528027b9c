/- The methods of tab stops (20): Next, Prev, Resize (maps.DeleteFunc), List (slices.Sorted of maps.Keys), Copy (maps.Clone); all methods of none. No condition. -/
import Derived.Test.YtdblmoaimghplaaTbU
import Derived.Test.YtdblmoaimghplaaShelf
import Derived.Test.YtdblmoaimghplaaSeq
import Derived.Shelf.SlIterI.Nil
import Derived.Shelf.SortM.Plain
import Derived.Shelf.SortM.SortNone
import Derived.Shelf.SlMaps.DeleteFunc
import Derived.Shelf.SlMaps.Clone
namespace Go.Proofs.Ytdblmoaimghplaa
set_option linter.unusedVariables false
set_option linter.unusedSimpArgs false
open Go.RowKit Go.Maps Go.Shelf

section
variable {w : World} {p mb : Nat} {L : List Bool}
theorem walk_out (h : SpAt w p mb L) (col n a b : Int) (hc : ¬ (0 ≤ col ∧ col < L.length)) : Calls Try.prog 33 #[ptr p, i64 col, i64 n, i64 a, i64 b] w fun e w' => e = .returned (.tuple #[i64 0, i64 3]) ∧ w' = w := by
  have hl := h.2
  have hk := check_out h.1 (by omega) col hc
  go_enter Try.func33, Try.ntmps33
  go_wp2_with (go_at_call 30; refine hk.mono ?_)
  try (rintro e W ⟨rfl, rfl⟩; go_wp2)
  go_ret2
  exact ⟨rfl, rfl⟩
theorem walk_neg (h : SpAt w p mb L) (col n a b : Int) (hc : 0 ≤ col ∧ col < L.length) (hn : n < 0) : Calls Try.prog 33 #[ptr p, i64 col, i64 n, i64 a, i64 b] w fun e w' => e = .returned (.tuple #[i64 0, i64 2]) ∧ w' = w := by
  have hl := h.2
  have hk := check_ok h.1 (by omega) col hc
  have d0 : decide (n < 0) = true := decide_eq_true hn
  go_enter Try.func33, Try.ntmps33
  go_wp2_with (go_at_call 30; refine hk.mono ?_)
  try (rintro e W ⟨rfl, rfl⟩; go_wp2)
  go_ret2
  exact ⟨rfl, rfl⟩
/-- What Next gives. -/
theorem next_from (h : SpAt w p mb L) (col n x y : Int) (hk : Calls Try.prog 33 #[ptr p, i64 col, i64 n, i64 1, i64 ((L.length : Int) - 1)] w fun e w' => e = .returned (.tuple #[i64 x, i64 y]) ∧ w' = w) :
    Calls Try.prog 20 #[ptr p, i64 col, i64 n] w fun e w' => e = .returned (.tuple #[i64 x, i64 y]) ∧ w' = w := by
  have hl := h.2
  obtain ⟨q0, q1⟩ := h.1.cs
  clear h
  have hw1 := IntWalk.i64_in ((L.length : Int) - 1) (by omega)
  go_enter Try.func20, Try.ntmps20
  go_wp2_with (go_at_call 33; refine hk.mono ?_)
  try (rintro e W ⟨rfl, rfl⟩; go_wp2)
  go_ret2
  exact ⟨rfl, rfl⟩
theorem prev_from (p : Option Addr) (col n x y : Int) (hk : Calls Try.prog 33 #[.pointer p, i64 col, i64 n, i64 (-1), i64 0] w fun e w' => e = .returned (.tuple #[i64 x, i64 y]) ∧ w' = w) :
    Calls Try.prog 21 #[.pointer p, i64 col, i64 n] w fun e w' => e = .returned (.tuple #[i64 x, i64 y]) ∧ w' = w := by
  go_enter Try.func21, Try.ntmps21
  go_wp2_with (go_at_call 33; refine hk.mono ?_)
  try (rintro e W ⟨rfl, rfl⟩; go_wp2)
  go_ret2
  exact ⟨rfl, rfl⟩
theorem keeps_grown {W W' : World} {b : Nat} (g : W.grownBy W' (some b)) : Keeps (fun c => c = b) W W' :=
  ⟨g.os, g.tape, g.output, g.size, fun c hc hne => g.block c hc (fun e => hne (by cases e; rfl))⟩
/-- The closure: from so many columns on. -/
theorem closure_at (k c : Int) (v : Value) (bx : Nat) (W : World) (hx : W.cell? ⟨bx, 0, none⟩ = some (i64 c)) :
    Calls Try.prog 35 (#[i64 k, v] ++ #[ptr bx]) W fun e w' => e = .returned (.bool (decide (c ≤ k))) ∧ w' = W := by
  by_cases h : c ≤ k
  · have d1 : decide (k ≥ c) = true := decide_eq_true h
    have d2 : decide (c ≤ k) = true := decide_eq_true h
    go_enter Try.func35, Try.ntmps35
    go_wp2
    go_ret
    exact ⟨by first | rfl | (rw [d2]; rfl), rfl⟩
  · have d1 : decide (k ≥ c) = false := decide_eq_false h
    have d2 : decide (c ≤ k) = false := decide_eq_false h
    go_enter Try.func35, Try.ntmps35
    go_wp2
    go_ret
    exact ⟨by first | rfl | (rw [d2]; rfl), rfl⟩
theorem cut_at {W : World} {c c0 : Int} {g : Int → Bool} (h : GpAt W p mb c0 g) (bx : Nat) (hx : W.cell? ⟨bx, 0, none⟩ = some (i64 c)) (hne : bx ≠ mb) :
    Calls Try.prog 34 #[.map (some mb), .func (.func 35) #[] #[ptr bx]] W fun e w' => e = .returned (.tuple #[]) ∧ GpAt w' p mb c0 (fun j => g j && decide (j < c)) ∧ Keeps (fun b => b = mb) W w' := by
  have eg : ∀ args w, (callFunc 35 args).run Try.prog w = .ok (.enter 35 args) w := enters_of Try.func35 (by kernel_rfl) rfl
  obtain ⟨D, h1, h2⟩ := h.map
  have hcon : Calls Try.prog 34 #[.map (some mb), .func (.func 35) #[] #[ptr bx]] W (fun e w' => e = .returned (.tuple #[]) ∧ w'.ownsMap Try.prog 3 RV mb 1000 (Lib.deleteFuncD (fromD c) D) ∧ W.grownBy w' (some mb)) :=
    AnyDf.maps_DeleteFunc Try.delA intKeyed RV (fromD c) 35 _ mb 1000 D W eg h1 (fun W2 key val kl yd yp hgW hk hv => by
      obtain ⟨x, rfl, rfl, _⟩ := Maps.keyOf_i64 Try.underlying3 hk
      exact (closure_at x c val bx W2 (hgW.cell hx (fun e => by have := Option.some.inj e; simp at this; omega))).mono fun _ _ ⟨he, hw⟩ => ⟨he, hw ▸ World.grownBy.refl _ _⟩)
  refine hcon.mono fun e w' ⟨he, h3, h4⟩ => ?_
  have hK := keeps_grown h4
  have hm := h2.cut h1.isMap c
  refine ⟨he, ⟨hK.row h.ne h.row, ⟨_, h3, hm⟩, h.ne, fun k hk => ?_⟩, hK⟩
  rw [Bool.and_eq_true] at hk
  exact h.rng k hk.1
set_option maxHeartbeats 2000000 in
theorem resize_ok (h : SpAt w p mb L) (c : Nat) (hc : 1 ≤ c ∧ c ≤ 1000) : Calls Try.prog 22 #[ptr p, i64 c] w fun e w' => e = .returned (i64 0) ∧ SpAt w' p mb (resL L c) ∧ Keeps (fun b => b = p ∨ b = mb) w w' := by
  have hl := h.2
  have d1 : decide ((c : Int) < 1) = false := decide_eq_false (by omega)
  have d2 : decide ((c : Int) > 1000) = false := decide_eq_false (by omega)
  have d3 : decide (1000 < (c : Int)) = false := decide_eq_false (by omega)
  have hs0 : Sees w (w.alloc (.cells #[i64 c] 3)) := (Sees.refl w).alloc _
  have hb0 : (w.alloc (.cells #[i64 c] 3)).heap[w.heap.size]? = some (.cells #[i64 c] 3 (0, 0)) := heap_alloc_new w _
  have hpw := h.1.lt
  have hmw := h.1.mlt
  have h1 := h.1.sees hs0
  have hk := check_ok h1 (by omega) 0 (by omega)
  have hsz1 : (w.setCell ⟨p, 0, none⟩ (i64 c)).heap.size = w.heap.size := by simp [World.setCell]
  have hG0 : GpAt (w.setCell ⟨p, 0, none⟩ (i64 c)) p mb c (getB L) :=
    ⟨heap_setCell_same _ _ _ _ _ _ h.1.row, by obtain ⟨D, e1, e2⟩ := h.1.map; exact ⟨D, e1.setCell (a := ⟨p, 0, none⟩) (fun e => h.1.ne e.symm) _, e2⟩, h.1.ne, h.1.rng⟩
  have hG1 : GpAt ((w.setCell ⟨p, 0, none⟩ (i64 c)).alloc (.cells #[i64 c] 3)) p mb c (getB L) := hG0.sees ((Sees.refl _).alloc _)
  have hK1 : Keeps (fun b => b = p ∨ b = mb) w ((w.setCell ⟨p, 0, none⟩ (i64 c)).alloc (.cells #[i64 c] 3)) := ((Keeps.refl _ w).setCell (p := ⟨p, 0, none⟩) (fun _ => .inl rfl) _).alloc _
  have hx1 : ((w.setCell ⟨p, 0, none⟩ (i64 c)).alloc (.cells #[i64 c] 3)).cell? ⟨w.heap.size, 0, none⟩ = some (i64 c) := by
    have hn := heap_alloc_new (w.setCell ⟨p, 0, none⟩ (i64 c)) (.cells #[i64 c] 3)
    rw [hsz1] at hn
    rw [Go.cell_of_row _ w.heap.size 0 #[i64 c] 3 (0, 0) hn]
    rfl
  obtain ⟨q0, q1⟩ := h1.cs
  obtain ⟨f0, f1⟩ := h1.fr
  obtain ⟨r0, r1⟩ := h.1.cs
  obtain ⟨s0, s1⟩ := h.1.fr
  have hx0 : (w.alloc (.cells #[i64 c] 3)).cell? ⟨w.heap.size, 0, none⟩ = some (i64 c) := by
    rw [Go.cell_of_row _ w.heap.size 0 #[i64 c] 3 (0, 0) hb0]
    rfl
  have hcut := cut_at (c := c) hG1 w.heap.size hx1 (by omega)
  clear h h1
  go_enter Try.func22, Try.ntmps22
  go_wp2_with (first
    | (go_at_call 30; refine hk.mono ?_)
    | (go_at_call 34; refine hcut.mono ?_))
  try (rintro e W ⟨rfl, rfl⟩; go_wp2_with (go_at_call 34; refine hcut.mono ?_))
  rintro e W2 ⟨rfl, hG2, hK2⟩
  have hF := fill_at hG2 (by omega) (L.length : Int)
  go_wp2_with fail
  refine hF.mono ?_
  rintro e W3 ⟨rfl, hG3, hK3⟩
  go_wp2
  go_ret
  refine ⟨rfl, ⟨?_, by rw [resL_length]; omega⟩, (hK1.trans (hK2.mono fun b _ e => .inr e)).trans (hK3.mono fun b _ e => .inr e)⟩
  rw [resL_length]
  exact hG3.congr fun k => (getB_resL L c k).symm
theorem resize_bad (h : SpAt w p mb L) (c : Int) (hc : ¬ (1 ≤ c ∧ c ≤ 1000)) : Calls Try.prog 22 #[ptr p, i64 c] w fun e w' => e = .returned (i64 2) ∧ Sees w w' := by
  have hl := h.2
  have hs0 : Sees w (w.alloc (.cells #[i64 c] 3)) := (Sees.refl w).alloc _
  have h1 := h.1.sees hs0
  have hk := check_ok h1 (by omega) 0 (by omega)
  by_cases h2 : c < 1
  · have d1 : decide (c < 1) = true := decide_eq_true h2
    go_enter Try.func22, Try.ntmps22
    go_wp2_with (go_at_call 30; refine hk.mono ?_)
    try (rintro e W ⟨rfl, rfl⟩; go_wp2)
    go_ret
    exact ⟨rfl, hs0⟩
  · have d1 : decide (c < 1) = false := decide_eq_false h2
    have d2 : decide (c > 1000) = true := decide_eq_true (by omega)
    have d3 : decide (1000 < c) = true := decide_eq_true (by omega)
    go_enter Try.func22, Try.ntmps22
    go_wp2_with (go_at_call 30; refine hk.mono ?_)
    try (rintro e W ⟨rfl, rfl⟩; go_wp2)
    go_ret
    exact ⟨rfl, hs0⟩
/-- slices.Sort's two contracts, at the fence that asks nothing. -/
theorem sortsA (m : Nat) : AnyZI.SortsIn Try.prog Try.sortedA_ren Fence.wide m :=
  ⟨fun blk off cap ss W hH hblk hsz => callsIn_wide.2 (AnyM.slices_Sort_int Try.sortA blk off cap ss W hH hblk hsz),
   fun p cap W => callsIn_wide.2 (AnyM.slices_Sort_int_none Try.sortA p cap W)⟩
set_option maxHeartbeats 2000000 in
theorem list_at (h : SpAt w p mb L) : Calls Try.prog 19 #[ptr p] w fun e w' => ∃ v, e = .returned v ∧ w'.ownsRow w.heap.size 3 1 v (stopsL L).length ((stopsL L).map i64) ∧ Sees w w' := by
  refine (callsIn_wide (n := 6)).1 ?_
  obtain ⟨q0, q1⟩ := h.1.cs
  have hmw := h.1.mlt
  have hl := h.2
  have hl2 := stopsL_len L
  obtain ⟨D, hown, hm⟩ := h.1.map
  have hperm := keys_perm hown hm (stopsL_nodup L) (mem_stopsL L)
  have hsz : Maps.size D ≤ 1000 := hown.size_le
  clear h
  have hseq : Go.SeqGives Fence.wide 2 Try.prog 39 #[.pointer (some ⟨w.heap.size, 0, none⟩)] encZ (fun ss => ss.Perm (intKeys D)) (Maps.size D) (w.alloc (.cells #[.map (some mb)] 51)) :=
    AnyZI.keys_gives (ρ := Try.keysA_ren) { Try.keysA with } Fence.wide _ trivial rfl (by omega) w.heap.size mb 1000 D _ (by simp) (by simp) (by
      obtain ⟨es, clock, hb, Ft, hs, hD⟩ := hown
      exact ⟨es, clock, (Below.heap_alloc _ _ mb hmw).trans hb, Ft, hs, hD⟩)
  have cK : ∀ mb W, CallsIn Fence.wide 5 Try.prog 32 #[.map mb] W fun e w' => e = .returned (.func (.func 39) #[] #[.pointer (some ⟨W.heap.size, 0, none⟩)]) ∧ w' = W.alloc (.cells #[.map mb] 51) := fun mb W => AnyZI.keys_in Try.keysA Fence.wide 5 trivial rfl mb W
  have cS := AnyZI.sorted_in Try.sortedA Fence.wide 5 trivial trivial trivial trivial rfl (by omega) (sortsA _) (enters_of Try.func38 (by kernel_rfl) rfl) 39 #[.pointer (some ⟨w.heap.size, 0, none⟩)] trivial (enters_of Try.func39 (by kernel_rfl) rfl) _ _ (by unfold maxLen; omega) (by omega) _ hseq
  change CallsIn _ _ Try.prog 31 _ _ _ at cS
  have hfK : Fence.wide.fn 32 := trivial
  have hfS : Fence.wide.fn 31 := trivial
  refine callsIn_of_wp Try.func19 rfl trivial ?_ rfl
  simp only [Try.ntmps19, List.size_toArray, List.length_cons, List.length_nil, Nat.reduceAdd, Nat.reduceSub, Array.replicate_succ, Array.replicate_zero, List.push_toArray, List.append_toArray, List.nil_append, List.cons_append]
  gi_wp2_with (first
    | (gi_at_call 32; refine (cK _ _).mono ?_; rintro e w' ⟨rfl, rfl⟩)
    | (gi_at_call 31; refine cS.mono ?_; rintro e w' ⟨v, ss, rfl, hS, hrow, hnil, hb⟩))
  go_ret
  have hp := hS.trans hperm.symm
  rw [sort_stopsL L hp, hp.length_eq] at hrow
  exact ⟨v, rfl, ownsRow_base_a hrow (by simp), ((Below.refl _ w).alloc (Nat.le_refl _) _).trans (hb.mono (by simp))⟩
theorem list_nil (w : World) : Calls Try.prog 19 #[.pointer none] w fun e w' => e = .returned (.slice none 0 0) ∧ Sees w w' := by
  have hr := Sees.refl w
  go_enter Try.func19, Try.ntmps19
  go_wp2
  go_ret
  exact ⟨rfl, hr⟩
set_option maxHeartbeats 2000000 in
theorem list_zero (w : World) (p : Nat) (q1 : w.cell? ⟨p, 1, none⟩ = some (.map none)) : Calls Try.prog 19 #[ptr p] w fun e w' => e = .returned (.slice none 0 0) ∧ Sees w w' := by
  refine (callsIn_wide (n := 6)).1 ?_
  have hseq : Go.SeqGives Fence.wide 2 Try.prog 39 #[.pointer (some ⟨w.heap.size, 0, none⟩)] encZ (fun ss : List Int => ss = []) 0 (w.alloc (.cells #[.map none] 51)) :=
    AnyZI.keys_gives_nil (ρ := Try.keysA_ren) { Try.keysA with } Fence.wide _ trivial rfl w.heap.size _ (by simp) (by simp)
  have cK : ∀ mb W, CallsIn Fence.wide 5 Try.prog 32 #[.map mb] W fun e w' => e = .returned (.func (.func 39) #[] #[.pointer (some ⟨W.heap.size, 0, none⟩)]) ∧ w' = W.alloc (.cells #[.map mb] 51) := fun mb W => AnyZI.keys_in Try.keysA Fence.wide 5 trivial rfl mb W
  have cS := AnyZI.sorted_in Try.sortedA Fence.wide 5 trivial trivial trivial trivial rfl (by omega) (sortsA _) (enters_of Try.func38 (by kernel_rfl) rfl) 39 #[.pointer (some ⟨w.heap.size, 0, none⟩)] trivial (enters_of Try.func39 (by kernel_rfl) rfl) _ 0 (Nat.zero_le _) (by omega) _ hseq
  change CallsIn _ _ Try.prog 31 _ _ _ at cS
  have hfK : Fence.wide.fn 32 := trivial
  have hfS : Fence.wide.fn 31 := trivial
  refine callsIn_of_wp Try.func19 rfl trivial ?_ rfl
  simp only [Try.ntmps19, List.size_toArray, List.length_cons, List.length_nil, Nat.reduceAdd, Nat.reduceSub, Array.replicate_succ, Array.replicate_zero, List.push_toArray, List.append_toArray, List.nil_append, List.cons_append]
  gi_wp2_with (first
    | (gi_at_call 32; refine (cK _ _).mono ?_; rintro e w' ⟨rfl, rfl⟩)
    | (gi_at_call 31; refine cS.mono ?_; rintro e w' ⟨v, ss, rfl, rfl, hrow, hnil, hb⟩; obtain rfl : v = .slice none 0 0 := hnil.2 rfl))
  go_ret
  exact ⟨rfl, ((Below.refl _ w).alloc (Nat.le_refl _) _).trans (hb.mono (by simp))⟩
theorem clone_at {W : World} {D : DataW Value} (h : BMap W mb D) : Calls Try.prog 36 #[.map (some mb)] W fun e w' => e = .returned (.map (some W.heap.size)) ∧ BMap w' W.heap.size D ∧ Sees W w' :=
  (AnyW.maps_Clone_owns Try.cloneA 3 RV mb 1000 D W h).mono fun e w' ⟨h1, h2, _, h4⟩ => ⟨h1, h2, h4⟩
set_option maxHeartbeats 4000000 in
theorem copy_at (h : SpAt w p mb L) : Calls Try.prog 23 #[ptr p] w fun e w' => ∃ q m, e = .returned (ptr q) ∧ w.heap.size ≤ q ∧ w.heap.size ≤ m ∧ SpAt w' q m L ∧ Sees w w' := by
  have hl := h.2
  have hk := check_ok h.1 (by omega) 0 (by omega)
  have H := Lib.hid h.1
  obtain ⟨c, hc⟩ : ∃ c, c = (L.length : Int) := ⟨_, rfl⟩
  rw [← hc] at H
  have hc := Lib.hid hc
  have hl := Lib.hid hl
  clear h
  go_enter Try.func23, Try.ntmps23
  go_wp2_with (first | (go_at_call 30; refine hk.mono ?_) | fail)
  try (rintro e W ⟨rfl, rfl⟩; go_wp2_with fail)
  clear hk
  refine wpFrom_go (by kernel_rfl) (by kernel_rfl) (fun hB w2 hw2 => ?_)
  have hval : ∀ x v, (Spec.is x).val v = x := fun _ _ => rfl
  have hval2 : ∀ V v, (Spec.so V).val v = v := fun _ _ => rfl
  have hst : segStay (Sees w2) [.is (ptr p), .is (ptr p), .is (ptr p), .is (i64 c), .is (ptr p), .is (ptr p), .is (.pointer (some ⟨p, 1, none⟩)), .is (.map (some mb)),
      .so (fun v W => ∃ m, v = .map (some m) ∧ w2.heap.size ≤ m ∧ ∃ D, BMap W m D ∧ MapIs D (getB L)), .so (fun v W => ∃ m, v = .agg #[i64 c, .map (some m)] ∧ w2.heap.size ≤ m ∧ ∃ D, BMap W m D ∧ MapIs D (getB L)),
      .so (fun v W => ∃ q m, v = ptr q ∧ w2.heap.size ≤ q ∧ w2.heap.size ≤ m ∧ GpAt W q m c (getB L))] :=
    ⟨fun u W W' _ ⟨m, h1, h2, D, h3, h4⟩ hs => ⟨m, h1, h2, D, h3.keeps (Keeps.of_sees (F := fun _ => False) hs) (fun h => h), h4⟩, fun u W W' _ ⟨m, h1, h2, D, h3, h4⟩ hs => ⟨m, h1, h2, D, h3.keeps (Keeps.of_sees (F := fun _ => False) hs) (fun h => h), h4⟩, fun u W W' _ ⟨q, m, h1, h2, h3, h4⟩ hs => ⟨q, m, h1, h2, h3, h4.sees hs⟩, trivial⟩
  refine wpFrom_any 11 _ hB (by kernel_rfl) rfl hst (by simp only [List.cons_append, List.nil_append, List.drop_succ_cons, List.drop_zero, List.take_succ_cons, List.take_zero, Nat.reduceSub]; rfl) ?_
  refine ⟨fun vs W hI hV => .inl ⟨by clear hI hV hst; go_simp, .inl (by clear hI hV hst; (try simp only [Act.put, hval, hval2, List.setIfInBounds_toArray, List.set_cons_zero, List.set_cons_succ]); go_simp)⟩, ?_⟩
  refine ⟨fun vs W hI hV => .inl ⟨by clear hI hV hst; go_simp, .inl (by clear hI hV hst; (try simp only [Act.put, hval, hval2, List.setIfInBounds_toArray, List.set_cons_zero, List.set_cons_succ]); go_simp)⟩, ?_⟩
  refine ⟨fun vs W hI hV => .inl ⟨by clear hI hV hst; go_simp, .inl (by clear hI hV hst; (try simp only [Act.put, hval, hval2, List.setIfInBounds_toArray, List.set_cons_zero, List.set_cons_succ]); go_simp)⟩, ?_⟩
  refine ⟨fun vs W hI hV => .inl ⟨by clear hI hV hst; go_simp, .inl (by obtain ⟨q0, q1⟩ := (H.out.sees (hw2.trans hI)).cs; clear hI hV hst; (try simp only [Act.put, hval, hval2, List.setIfInBounds_toArray, List.set_cons_zero, List.set_cons_succ]); go_simp)⟩, ?_⟩
  refine ⟨fun vs W hI hV => .inl ⟨by clear hI hV hst; go_simp, .inl (by clear hI hV hst; (try simp only [Act.put, hval, hval2, List.setIfInBounds_toArray, List.set_cons_zero, List.set_cons_succ]); go_simp)⟩, ?_⟩
  refine ⟨fun vs W hI hV => .inl ⟨by clear hI hV hst; go_simp, .inl (by clear hI hV hst; (try simp only [Act.put, hval, hval2, List.setIfInBounds_toArray, List.set_cons_zero, List.set_cons_succ]); go_simp)⟩, ?_⟩
  refine ⟨fun vs W hI hV => .inl ⟨by clear hI hV hst; go_simp, .inl (by clear hI hV hst; (try simp only [Act.put, hval, hval2, List.setIfInBounds_toArray, List.set_cons_zero, List.set_cons_succ]); go_simp)⟩, ?_⟩
  refine ⟨fun vs W hI hV => .inl ⟨by clear hI hV hst; go_simp, .inl (by obtain ⟨q0, q1⟩ := (H.out.sees (hw2.trans hI)).cs; clear hI hV hst; (try simp only [Act.put, hval, hval2, List.setIfInBounds_toArray, List.set_cons_zero, List.set_cons_succ]); go_simp)⟩, ?_⟩
  refine ⟨fun vs W hI hV => .inl ⟨by clear hI hV hst; (try simp only [Act.put, hval, hval2, List.setIfInBounds_toArray, List.set_cons_zero, List.set_cons_succ]); go_simp, .inr (.inr ⟨36, #[.map (some mb)], by clear hI hV hst; (try simp only [Act.put, hval, hval2, List.setIfInBounds_toArray, List.set_cons_zero, List.set_cons_succ]); go_simp, ?_⟩)⟩, ?_⟩
  · obtain ⟨D, h1, h2⟩ := (H.out.sees (hw2.trans hI)).map
    refine (clone_at h1).mono ?_
    rintro e w' ⟨rfl, h3, hs⟩
    exact ⟨_, rfl, rgGood_mk hst hI ⟨_, rfl, hI.size, D, h3, h2⟩ hs⟩
  refine ⟨fun vs W hI hV => .inl ⟨by clear hI hV hst; (try simp only [Act.put, hval, hval2, List.setIfInBounds_toArray, List.set_cons_zero, List.set_cons_succ]); go_simp, .inl (by obtain ⟨m, em, hm, D, h1, h2⟩ := hV 8 _ (by kernel_rfl) rfl; exact ⟨.agg #[i64 c, vs 8], W, by clear hI hV hst; (try simp only [Act.put, hval, hval2, List.setIfInBounds_toArray, List.set_cons_zero, List.set_cons_succ]); go_simp, rgGood_mk hst hI ⟨m, by rw [em], hm, D, h1, h2⟩ (Sees.refl W)⟩)⟩, ?_⟩
  refine ⟨fun vs W hI hV => .inl ⟨by clear hI hV hst; (try simp only [Act.put, hval, hval2, List.setIfInBounds_toArray, List.set_cons_zero, List.set_cons_succ]); go_simp, .inl (by
    obtain ⟨m, em, hm, D, h1, h2⟩ := hV 9 _ (by kernel_rfl) rfl
    refine ⟨ptr W.heap.size, W.alloc (.cells #[i64 c, .map (some m)] 53), by clear hI hV hst; (try simp only [Act.put, hval, hval2, List.setIfInBounds_toArray, List.set_cons_zero, List.set_cons_succ]); go_simp, rgGood_mk hst hI ⟨W.heap.size, m, rfl, hI.size, hm, ⟨heap_alloc_new _ _, ⟨D, h1.keeps (Keeps.of_sees (F := fun _ => False) ((Sees.refl W).alloc _)) (fun h => h), h2⟩, by have := h1.lt; omega, H.out.rng⟩⟩ ((Sees.refl W).alloc _)⟩)⟩, ?_⟩
  intro vs W hI hV
  obtain ⟨q, m, eq, hq, hm, hG⟩ := hV 10 _ rfl
  have HS := Lib.hid (hw2.trans hI)
  have HG := Lib.hid hG
  have hq2 := Nat.le_trans hw2.size hq
  have hm2 := Nat.le_trans hw2.size hm
  clear hV hI hst hG hw2
  go_simp
  refine wpFrom_to 12 hB (fun _ _ _ _ _ h => h) (by kernel_rfl) (by simp only [List.cons_append, List.nil_append, List.drop_succ_cons, List.drop_zero, List.take_succ_cons, List.take_zero, Nat.reduceSub]; rfl) ?_
  go_wp2
  refine wpFrom_end rfl ?_
  go_wp2
  go_ret
  exact ⟨q, m, rfl, hq2, hm2, ⟨by rw [← hc.out]; exact HG.out, hl.out⟩, HS.out⟩
/-! none, and a zero struct -/
theorem new_zero (w : World) : True := trivial
end
end Go.Proofs.Ytdblmoaimghplaa
