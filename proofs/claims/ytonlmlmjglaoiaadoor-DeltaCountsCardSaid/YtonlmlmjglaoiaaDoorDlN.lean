/- The chapter's examples. The tables hold what the program's text lays. -/
import Derived.Test.YtonlmlmjglaoiaaDoorDlK
namespace Go.Proofs.YtonlmlmjglaoiaaDoor
set_option linter.unusedVariables false
set_option linter.unusedSimpArgs false
open Go.RowKit

def wide45 : Cell := ⟨28450, 0, 0, 0, 2, 0, 0, 0, 0, 0, 0, 0, 0, 0, 0, 0⟩
def zero45 : Cell := ⟨0, 0, 0, 0, 0, 0, 0, 0, 0, 0, 0, 0, 0, 0, 0, 0⟩

set_option maxRecDepth 1000000 in
set_option maxHeartbeats 8000000 in
theorem known45 (w : World) (ht : Tabs w) : Calls Tryd.prog 9 #[] w fun e w' => e = .returned (.bool true) ∧ Sees w w' := by
  have Ht := Lib.hid ht
  clear ht
  have hval : ∀ x v, (Spec.is x).val v = x := fun _ _ => rfl
  have hval2 : ∀ V v, (Spec.so V).val v = v := fun _ _ => rfl
  go_enter Tryd.func9, Tryd.ntmps9
  go_wp2
  refine wpFrom_go (by kernel_rfl) (by kernel_rfl) (fun hB w2 hw2 => ?_)
  have C1 : Hid (CellAt w2 w.heap.size 0 wide45) := Lib.hid ((cellAt_new w wide45 _).sees hw2)
  have Hw2 := Lib.hid (Sees.refl w2)
  have S2 := Lib.hid (((Sees.refl w).alloc _).trans hw2)
  clear hw2
  have hst : segStay (Sees w2) [.is (.agg #[.int .i32 97, .int .i32 0, .int .i32 0, .int .i32 0, .int .i64 1, .int .i64 0, .int .u8 0, .int .u8 0, .int .u8 0, .int .u8 0, .int .i64 0, .int .u8 0, .int .u8 0, .int .u8 0, .int .u8 0, .int .u8 0]), .is (.agg #[.int .i32 98, .int .i32 0, .int .i32 0, .int .i32 0, .int .i64 1, .int .i64 0, .int .u8 0, .int .u8 0, .int .u8 0, .int .u8 0, .int .i64 0, .int .u8 0, .int .u8 0, .int .u8 0, .int .u8 0, .int .u8 0]), .is (.agg #[.int .i32 28450, .int .i32 0, .int .i32 0, .int .i32 0, .int .i64 2, .int .i64 0, .int .u8 0, .int .u8 0, .int .u8 0, .int .u8 0, .int .i64 0, .int .u8 0, .int .u8 0, .int .u8 0, .int .u8 0, .int .u8 0]), .is (.agg #[.int .i32 0, .int .i32 0, .int .i32 0, .int .i32 0, .int .i64 0, .int .i64 0, .int .u8 0, .int .u8 0, .int .u8 0, .int .u8 0, .int .i64 0, .int .u8 0, .int .u8 0, .int .u8 0, .int .u8 0, .int .u8 0]), .is (.agg #[.int .i32 100, .int .i32 0, .int .i32 0, .int .i32 0, .int .i64 1, .int .i64 0, .int .u8 0, .int .u8 0, .int .u8 0, .int .u8 0, .int .i64 0, .int .u8 0, .int .u8 0, .int .u8 0, .int .u8 0, .int .u8 0]), .is (.agg #[.int .i32 32, .int .i32 0, .int .i32 0, .int .i32 0, .int .i64 1, .int .i64 0, .int .u8 0, .int .u8 0, .int .u8 0, .int .u8 0, .int .i64 0, .int .u8 0, .int .u8 0, .int .u8 0, .int .u8 0, .int .u8 0]), .so (fun v W => cellEl.Rd (fun _ => True) W v [one45 97, one45 98, wide45, zero45, one45 100, one45 32])] := ⟨fun u W W' _ h hs => h.sees hs, trivial⟩
  refine wpFrom_any 7 _ hB (by kernel_rfl) rfl hst (by simp only [List.cons_append, List.nil_append, List.drop_succ_cons, List.drop_zero, List.take_succ_cons, List.take_zero, Nat.reduceSub]; rfl) ?_
  refine ⟨fun vs W hI hV => .inl ⟨by clear hI hV hst; (try simp only [Act.put, hval, hval2, List.setIfInBounds_toArray, List.set_cons_zero, List.set_cons_succ]); go_simp, .inr (.inr ⟨20, #[.int .i32 97], by clear hI hV hst; (try simp only [Act.put, hval, hval2, List.setIfInBounds_toArray, List.set_cons_zero, List.set_cons_succ]); go_simp, one45_any 97 W⟩)⟩, ?_⟩
  refine ⟨fun vs W hI hV => .inl ⟨by clear hI hV hst; (try simp only [Act.put, hval, hval2, List.setIfInBounds_toArray, List.set_cons_zero, List.set_cons_succ]); go_simp, .inr (.inr ⟨20, #[.int .i32 98], by clear hI hV hst; (try simp only [Act.put, hval, hval2, List.setIfInBounds_toArray, List.set_cons_zero, List.set_cons_succ]); go_simp, one45_any 98 W⟩)⟩, ?_⟩
  refine ⟨fun vs W hI hV => .inl ⟨by clear hI hV hst; (try simp only [Act.put, hval, hval2, List.setIfInBounds_toArray, List.set_cons_zero, List.set_cons_succ]); go_simp, .inl (exec_load rfl (by clear hI hV hst; (try simp only [Act.put, hval, hval2, List.setIfInBounds_toArray, List.set_cons_zero, List.set_cons_succ]); go_simp) (run_loadCell (c := wide45) (C1.out.sees (Hw2.out.trans hI))))⟩, ?_⟩
  refine ⟨fun vs W hI hV => .inl ⟨by clear hI hV hst; (try simp only [Act.put, hval, hval2, List.setIfInBounds_toArray, List.set_cons_zero, List.set_cons_succ]); go_simp, .inl (by clear hI hV hst; (try simp only [Act.put, hval, hval2, List.setIfInBounds_toArray, List.set_cons_zero, List.set_cons_succ]); go_simp)⟩, ?_⟩
  refine ⟨fun vs W hI hV => .inl ⟨by clear hI hV hst; (try simp only [Act.put, hval, hval2, List.setIfInBounds_toArray, List.set_cons_zero, List.set_cons_succ]); go_simp, .inr (.inr ⟨20, #[.int .i32 100], by clear hI hV hst; (try simp only [Act.put, hval, hval2, List.setIfInBounds_toArray, List.set_cons_zero, List.set_cons_succ]); go_simp, one45_any 100 W⟩)⟩, ?_⟩
  refine ⟨fun vs W hI hV => .inl ⟨by clear hI hV hst; (try simp only [Act.put, hval, hval2, List.setIfInBounds_toArray, List.set_cons_zero, List.set_cons_succ]); go_simp, .inr (.inr ⟨20, #[.int .i32 32], by clear hI hV hst; (try simp only [Act.put, hval, hval2, List.setIfInBounds_toArray, List.set_cons_zero, List.set_cons_succ]); go_simp, one45_any 32 W⟩)⟩, ?_⟩
  refine ⟨fun vs W hI hV => .inl ⟨by clear hI hV hst; (try simp only [Act.put, hval, hval2, List.setIfInBounds_toArray, List.set_cons_zero, List.set_cons_succ]); go_simp, .inl ⟨.slice (some ⟨W.heap.size, 0, none⟩) 6 6, W.alloc (.cells #[.int .i32 97, .int .i32 0, .int .i32 0, .int .i32 0, .int .i64 1, .int .i64 0, .int .u8 0, .int .u8 0, .int .u8 0, .int .u8 0, .int .i64 0, .int .u8 0, .int .u8 0, .int .u8 0, .int .u8 0, .int .u8 0, .int .i32 98, .int .i32 0, .int .i32 0, .int .i32 0, .int .i64 1, .int .i64 0, .int .u8 0, .int .u8 0, .int .u8 0, .int .u8 0, .int .i64 0, .int .u8 0, .int .u8 0, .int .u8 0, .int .u8 0, .int .u8 0, .int .i32 28450, .int .i32 0, .int .i32 0, .int .i32 0, .int .i64 2, .int .i64 0, .int .u8 0, .int .u8 0, .int .u8 0, .int .u8 0, .int .i64 0, .int .u8 0, .int .u8 0, .int .u8 0, .int .u8 0, .int .u8 0, .int .i32 0, .int .i32 0, .int .i32 0, .int .i32 0, .int .i64 0, .int .i64 0, .int .u8 0, .int .u8 0, .int .u8 0, .int .u8 0, .int .i64 0, .int .u8 0, .int .u8 0, .int .u8 0, .int .u8 0, .int .u8 0, .int .i32 100, .int .i32 0, .int .i32 0, .int .i32 0, .int .i64 1, .int .i64 0, .int .u8 0, .int .u8 0, .int .u8 0, .int .u8 0, .int .i64 0, .int .u8 0, .int .u8 0, .int .u8 0, .int .u8 0, .int .u8 0, .int .i32 32, .int .i32 0, .int .i32 0, .int .i32 0, .int .i64 1, .int .i64 0, .int .u8 0, .int .u8 0, .int .u8 0, .int .u8 0, .int .i64 0, .int .u8 0, .int .u8 0, .int .u8 0, .int .u8 0, .int .u8 0] 46), by clear hI hV hst; (try simp only [Act.put, hval, hval2, List.setIfInBounds_toArray, List.set_cons_zero, List.set_cons_succ]); go_simp, rgGood_mk hst hI (rd_row_cells [one45 97, one45 98, wide45, zero45, one45 100, one45 32] 6 (heap_alloc_new _ _) (by decide) ⟨rfl, by unfold maxLen; omega⟩) ((Sees.refl W).alloc _)⟩⟩, ?_⟩
  intro vs w3 hI hV
  have h6 : cellEl.Rd (fun _ => True) w3 (vs 6) [one45 97, one45 98, wide45, zero45, one45 100, one45 32] := hV 6 _ rfl
  obtain ⟨a2, c2, e6, _⟩ := h6.slice'
  have C1b := Lib.hid (C1.out.sees hI)
  have S3 := Lib.hid (S2.out.trans hI)
  rw [e6] at h6
  have L2 := Lib.hid h6
  clear hI hV hst h6 C1 S2 Hw2
  (try simp only [Act.put, hval, hval2, List.setIfInBounds_toArray, List.set_cons_zero, List.set_cons_succ])
  go_simp
  clear e6
  refine wpFrom_to 8 hB (fun _ _ _ _ _ h => h) (by kernel_rfl) (by simp only [List.cons_append, List.nil_append, List.drop_succ_cons, List.drop_zero, List.take_succ_cons, List.take_zero, Nat.reduceSub]; rfl) ?_
  go_wp2
  refine wpFrom_end rfl ?_
  clear hB
  go_wp2_with fail
  refine (row45_any false _ _ _ L2.out).mono ?_
  rintro e w4 ⟨v3, rfl, h3, s4⟩
  have H3 := Lib.hid h3
  obtain ⟨a3, c3, rfl, _⟩ := h3.slice'
  have S4 := Lib.hid (S3.out.trans s4)
  have s4' := Lib.hid s4
  clear h3 s4
  go_wp2_with fail
  refine (one45_any 97 _).mono ?_
  rintro e x0 ⟨rfl, t0⟩
  go_wp2_with fail
  refine (one45_any 66 _).mono ?_
  rintro e x1 ⟨rfl, t1⟩
  go_wp2_with fail
  refine (one45_any 120 _).mono ?_
  rintro e x2 ⟨rfl, t2⟩
  go_wp2_with fail
  refine (one45_any 121 _).mono ?_
  rintro e x3 ⟨rfl, t3⟩
  go_wp2_with fail
  refine (one45_any 100 _).mono ?_
  rintro e x4 ⟨rfl, t4⟩
  go_wp2_with fail
  refine (one45_any 32 _).mono ?_
  rintro e x5 ⟨rfl, t5⟩
  have HX := Lib.hid (t0.trans (t1.trans (t2.trans (t3.trans (t4.trans t5)))))
  clear t0 t1 t2 t3 t4 t5
  have H5 := Lib.hid (rd_row_cells [one45 97, one45 66, one45 120, one45 121, one45 100, one45 32] 6 (heap_alloc_new x5 (.cells #[.int .i32 97, .int .i32 0, .int .i32 0, .int .i32 0, .int .i64 1, .int .i64 0, .int .u8 0, .int .u8 0, .int .u8 0, .int .u8 0, .int .i64 0, .int .u8 0, .int .u8 0, .int .u8 0, .int .u8 0, .int .u8 0, .int .i32 66, .int .i32 0, .int .i32 0, .int .i32 0, .int .i64 1, .int .i64 0, .int .u8 0, .int .u8 0, .int .u8 0, .int .u8 0, .int .i64 0, .int .u8 0, .int .u8 0, .int .u8 0, .int .u8 0, .int .u8 0, .int .i32 120, .int .i32 0, .int .i32 0, .int .i32 0, .int .i64 1, .int .i64 0, .int .u8 0, .int .u8 0, .int .u8 0, .int .u8 0, .int .i64 0, .int .u8 0, .int .u8 0, .int .u8 0, .int .u8 0, .int .u8 0, .int .i32 121, .int .i32 0, .int .i32 0, .int .i32 0, .int .i64 1, .int .i64 0, .int .u8 0, .int .u8 0, .int .u8 0, .int .u8 0, .int .i64 0, .int .u8 0, .int .u8 0, .int .u8 0, .int .u8 0, .int .u8 0, .int .i32 100, .int .i32 0, .int .i32 0, .int .i32 0, .int .i64 1, .int .i64 0, .int .u8 0, .int .u8 0, .int .u8 0, .int .u8 0, .int .i64 0, .int .u8 0, .int .u8 0, .int .u8 0, .int .u8 0, .int .u8 0, .int .i32 32, .int .i32 0, .int .i32 0, .int .i32 0, .int .i64 1, .int .i64 0, .int .u8 0, .int .u8 0, .int .u8 0, .int .u8 0, .int .i64 0, .int .u8 0, .int .u8 0, .int .u8 0, .int .u8 0, .int .u8 0] 46)) (by decide) ⟨rfl, by unfold maxLen; omega⟩)
  go_wp2_with fail
  refine (row45_any false _ _ _ H5.out).mono ?_
  rintro e w5 ⟨v4, rfl, h4, s5⟩
  have R4a := Lib.hid h4
  obtain ⟨a4, c4, rfl, _⟩ := h4.slice'
  have s45 : Sees w4 w5 := HX.out.trans (((Sees.refl _).alloc _).trans s5)
  have R3 := Lib.hid (H3.out.sees s45)
  have R4 := R4a
  have S5 := Lib.hid (S4.out.trans s45)
  have C1 := Lib.hid (C1b.out.sees (s4'.out.trans s45))
  have L5 := Lib.hid (L2.out.sees (s4'.out.trans s45))
  have HT : Hid (∀ W, Sees w5 W → Tabs W) := Lib.hid fun W h => Ht.out.sees (S5.out.trans h)
  clear h4 s45 HX H5 s5 s4' R4a H3 C1b L2 S3 S4
  go_wp2_with fail
  refine wpFrom_go (by kernel_rfl) (by kernel_rfl) (fun hB w6 hw4 => ?_)
  have hst : segStay (Sees w6) [.is (.slice a3 1 c3), .is (.slice a4 1 c4), .is (.agg #[.int .i32 66, .int .i32 0, .int .i32 0, .int .i32 0, .int .i64 1, .int .i64 0, .int .u8 0, .int .u8 0, .int .u8 0, .int .u8 0, .int .i64 0, .int .u8 0, .int .u8 0, .int .u8 0, .int .u8 0, .int .u8 0]), .is (.agg #[.int .i32 120, .int .i32 0, .int .i32 0, .int .i32 0, .int .i64 1, .int .i64 0, .int .u8 0, .int .u8 0, .int .u8 0, .int .u8 0, .int .i64 0, .int .u8 0, .int .u8 0, .int .u8 0, .int .u8 0, .int .u8 0]), .is (.agg #[.int .i32 121, .int .i32 0, .int .i32 0, .int .i32 0, .int .i64 1, .int .i64 0, .int .u8 0, .int .u8 0, .int .u8 0, .int .u8 0, .int .i64 0, .int .u8 0, .int .u8 0, .int .u8 0, .int .u8 0, .int .u8 0]), .so (fun v W => cellEl.Rd (fun _ => True) W v [one45 66, one45 120, one45 121]), .so (fun x W => ∃ sv, x = .agg #[.int .i64 0, .int .i64 1, sv, .bool false] ∧ cellEl.Rd (fun _ => True) W sv [one45 66, one45 120, one45 121]), .so (fun x W => ptEl.Rd (fun _ => True) W x [⟨0, 1, [one45 66, one45 120, one45 121], false⟩]), .is (.bool true), .is (.bool false), .is (.bool false), .is (.slice a3 1 c3), .is (.slice a3 1 c3), .is (.bool true), .is (.bool false), .is (.bool false), .is (.bool false), .is (.slice a4 1 c4), .is (.slice a3 1 c3), .is (.agg #[.int .i32 98, .int .i32 0, .int .i32 0, .int .i32 0, .int .i64 1, .int .i64 0, .int .u8 0, .int .u8 0, .int .u8 0, .int .u8 0, .int .i64 0, .int .u8 0, .int .u8 0, .int .u8 0, .int .u8 0, .int .u8 0]), .is (.agg #[.int .i32 28450, .int .i32 0, .int .i32 0, .int .i32 0, .int .i64 2, .int .i64 0, .int .u8 0, .int .u8 0, .int .u8 0, .int .u8 0, .int .i64 0, .int .u8 0, .int .u8 0, .int .u8 0, .int .u8 0, .int .u8 0]), .is (.agg #[.int .i32 0, .int .i32 0, .int .i32 0, .int .i32 0, .int .i64 0, .int .i64 0, .int .u8 0, .int .u8 0, .int .u8 0, .int .u8 0, .int .i64 0, .int .u8 0, .int .u8 0, .int .u8 0, .int .u8 0, .int .u8 0]), .so (fun v W => cellEl.Rd (fun _ => True) W v [one45 98, wide45, zero45]), .so (fun x W => ∃ sv, x = .agg #[.int .i64 0, .int .i64 1, sv, .bool false] ∧ cellEl.Rd (fun _ => True) W sv [one45 98, wide45, zero45]), .so (fun x W => ptEl.Rd (fun _ => True) W x [⟨0, 1, [one45 98, wide45, zero45], false⟩]), .is (.bool true), .is (.bool false), .is (.bool false)] := ⟨fun u W W' _ h hs => h.sees hs, fun u W W' _ ⟨sv, h1, h2⟩ hs => ⟨sv, h1, h2.sees hs⟩, fun u W W' _ h hs => h.sees hs, fun u W W' _ h hs => h.sees hs, fun u W W' _ ⟨sv, h1, h2⟩ hs => ⟨sv, h1, h2.sees hs⟩, fun u W W' _ h hs => h.sees hs, trivial⟩
  refine wpFrom_any 28 _ hB (by kernel_rfl) rfl hst (by simp only [List.cons_append, List.nil_append, List.drop_succ_cons, List.drop_zero, List.take_succ_cons, List.take_zero, Nat.reduceSub]; rfl) ?_
  refine ⟨fun vs W hI hV => .inl ⟨by clear hI hV hst; (try simp only [Act.put, hval, hval2, List.setIfInBounds_toArray, List.set_cons_zero, List.set_cons_succ]); go_simp, .inl (by clear hI hV hst; (try simp only [Act.put, hval, hval2, List.setIfInBounds_toArray, List.set_cons_zero, List.set_cons_succ]); go_simp)⟩, ?_⟩
  refine ⟨fun vs W hI hV => .inl ⟨by clear hI hV hst; (try simp only [Act.put, hval, hval2, List.setIfInBounds_toArray, List.set_cons_zero, List.set_cons_succ]); go_simp, .inl (by clear hI hV hst; (try simp only [Act.put, hval, hval2, List.setIfInBounds_toArray, List.set_cons_zero, List.set_cons_succ]); go_simp)⟩, ?_⟩
  refine ⟨fun vs W hI hV => .inl ⟨by clear hI hV hst; (try simp only [Act.put, hval, hval2, List.setIfInBounds_toArray, List.set_cons_zero, List.set_cons_succ]); go_simp, .inr (.inr ⟨20, #[.int .i32 66], by clear hI hV hst; (try simp only [Act.put, hval, hval2, List.setIfInBounds_toArray, List.set_cons_zero, List.set_cons_succ]); go_simp, one45_any 66 W⟩)⟩, ?_⟩
  refine ⟨fun vs W hI hV => .inl ⟨by clear hI hV hst; (try simp only [Act.put, hval, hval2, List.setIfInBounds_toArray, List.set_cons_zero, List.set_cons_succ]); go_simp, .inr (.inr ⟨20, #[.int .i32 120], by clear hI hV hst; (try simp only [Act.put, hval, hval2, List.setIfInBounds_toArray, List.set_cons_zero, List.set_cons_succ]); go_simp, one45_any 120 W⟩)⟩, ?_⟩
  refine ⟨fun vs W hI hV => .inl ⟨by clear hI hV hst; (try simp only [Act.put, hval, hval2, List.setIfInBounds_toArray, List.set_cons_zero, List.set_cons_succ]); go_simp, .inr (.inr ⟨20, #[.int .i32 121], by clear hI hV hst; (try simp only [Act.put, hval, hval2, List.setIfInBounds_toArray, List.set_cons_zero, List.set_cons_succ]); go_simp, one45_any 121 W⟩)⟩, ?_⟩
  refine ⟨fun vs W hI hV => .inl ⟨by clear hI hV hst; (try simp only [Act.put, hval, hval2, List.setIfInBounds_toArray, List.set_cons_zero, List.set_cons_succ]); go_simp, .inl ⟨.slice (some ⟨W.heap.size, 0, none⟩) 3 3, W.alloc (.cells #[.int .i32 66, .int .i32 0, .int .i32 0, .int .i32 0, .int .i64 1, .int .i64 0, .int .u8 0, .int .u8 0, .int .u8 0, .int .u8 0, .int .i64 0, .int .u8 0, .int .u8 0, .int .u8 0, .int .u8 0, .int .u8 0, .int .i32 120, .int .i32 0, .int .i32 0, .int .i32 0, .int .i64 1, .int .i64 0, .int .u8 0, .int .u8 0, .int .u8 0, .int .u8 0, .int .i64 0, .int .u8 0, .int .u8 0, .int .u8 0, .int .u8 0, .int .u8 0, .int .i32 121, .int .i32 0, .int .i32 0, .int .i32 0, .int .i64 1, .int .i64 0, .int .u8 0, .int .u8 0, .int .u8 0, .int .u8 0, .int .i64 0, .int .u8 0, .int .u8 0, .int .u8 0, .int .u8 0, .int .u8 0] 46), by clear hI hV hst; (try simp only [Act.put, hval, hval2, List.setIfInBounds_toArray, List.set_cons_zero, List.set_cons_succ]); go_simp, rgGood_mk hst hI (rd_row_cells [one45 66, one45 120, one45 121] 3 (heap_alloc_new _ _) (by decide) ⟨rfl, by unfold maxLen; omega⟩) ((Sees.refl W).alloc _)⟩⟩, ?_⟩
  refine ⟨fun vs W hI hV => ?_, ?_⟩
  · have h : cellEl.Rd (fun _ => True) W (vs 5) [one45 66, one45 120, one45 121] := hV 5 _ (by kernel_rfl) rfl
    obtain ⟨a', c', e, _⟩ := h.slice'
    exact .inl ⟨by clear hI hV hst h; (try simp only [Act.put, hval, hval2, List.setIfInBounds_toArray, List.set_cons_zero, List.set_cons_succ]); go_simp, .inl ⟨.agg #[.int .i64 0, .int .i64 1, .slice a' 3 c', .bool false], W, by clear hI hV hst h; (try simp only [Act.put, hval, hval2, List.setIfInBounds_toArray, List.set_cons_zero, List.set_cons_succ]); go_simp, rgGood_mk hst hI ⟨_, rfl, e ▸ h⟩ (Sees.refl W)⟩⟩
  refine ⟨fun vs W hI hV => ?_, ?_⟩
  · obtain ⟨sv, e, h⟩ : ∃ sv, vs 6 = .agg #[.int .i64 0, .int .i64 1, sv, .bool false] ∧ cellEl.Rd (fun _ => True) W sv [one45 66, one45 120, one45 121] := hV 6 _ (by kernel_rfl) rfl
    obtain ⟨a', c', rfl, _⟩ := h.slice'
    have hs : Sees W (W.alloc (.cells #[.int .i64 0, .int .i64 1, .slice a' 3 c', .bool false] 37)) := (Sees.refl W).alloc _
    exact .inl ⟨by clear hI hV hst h hs; (try simp only [Act.put, hval, hval2, List.setIfInBounds_toArray, List.set_cons_zero, List.set_cons_succ]); go_simp, .inl ⟨.slice (some ⟨W.heap.size, 0, none⟩) 1 1, W.alloc (.cells #[.int .i64 0, .int .i64 1, .slice a' 3 c', .bool false] 37), by clear hI hV hst h hs; (try simp only [Act.put, hval, hval2, List.setIfInBounds_toArray, List.set_cons_zero, List.set_cons_succ]); go_simp, rgGood_mk hst hI (rd_row_patch (p := ⟨0, 1, [one45 66, one45 120, one45 121], false⟩) (heap_alloc_new _ _) (h.sees hs)) hs⟩⟩
  refine ⟨fun vs W hI hV => ?_, ?_⟩
  · have h7 : ptEl.Rd (fun _ => True) W (vs 7) [⟨0, 1, [one45 66, one45 120, one45 121], false⟩] := hV 7 _ (by kernel_rfl) rfl
    exact .inl ⟨by clear hI hV hst h7; (try simp only [Act.put, hval, hval2, List.setIfInBounds_toArray, List.set_cons_zero, List.set_cons_succ]); go_simp, .inr (.inr ⟨11, #[.slice a3 1 c3, .slice a4 1 c4, vs 7, .int .i64 0], by clear hI hV hst h7; (try simp only [Act.put, hval, hval2, List.setIfInBounds_toArray, List.set_cons_zero, List.set_cons_succ]); go_simp, ofs_is _ _ _ _ _ _ _ _ W [⟨0, 1, [one45 66, one45 120, one45 121], false⟩] 0 true (HT.out W (hw4.trans hI)) (R3.out.sees (hw4.trans hI)) (R4.out.sees (hw4.trans hI)) h7 ⟨by decide, by intro l hl; simp at hl; subst hl; simp, by decide, by intro l hl; simp at hl; subst hl; simp⟩ (by kernel_rfl)⟩)⟩
  refine ⟨fun vs W hI hV => .inl ⟨by clear hI hV hst; (try simp only [Act.put, hval, hval2, List.setIfInBounds_toArray, List.set_cons_zero, List.set_cons_succ]); go_simp, .inl (by clear hI hV hst; (try simp only [Act.put, hval, hval2, List.setIfInBounds_toArray, List.set_cons_zero, List.set_cons_succ]); go_simp)⟩, ?_⟩
  refine ⟨fun vs W hI hV => .inl ⟨by clear hI hV hst; (try simp only [Act.put, hval, hval2, List.setIfInBounds_toArray, List.set_cons_zero, List.set_cons_succ]); go_simp, .inl (by clear hI hV hst; (try simp only [Act.put, hval, hval2, List.setIfInBounds_toArray, List.set_cons_zero, List.set_cons_succ]); go_simp)⟩, ?_⟩
  refine ⟨fun vs W hI hV => .inl ⟨by clear hI hV hst; (try simp only [Act.put, hval, hval2, List.setIfInBounds_toArray, List.set_cons_zero, List.set_cons_succ]); go_simp, .inl (by clear hI hV hst; (try simp only [Act.put, hval, hval2, List.setIfInBounds_toArray, List.set_cons_zero, List.set_cons_succ]); go_simp)⟩, ?_⟩
  refine ⟨fun vs W hI hV => .inl ⟨by clear hI hV hst; (try simp only [Act.put, hval, hval2, List.setIfInBounds_toArray, List.set_cons_zero, List.set_cons_succ]); go_simp, .inl (by clear hI hV hst; (try simp only [Act.put, hval, hval2, List.setIfInBounds_toArray, List.set_cons_zero, List.set_cons_succ]); go_simp)⟩, ?_⟩
  refine ⟨fun vs W hI hV => ?_, ?_⟩
  · exact .inl ⟨by clear hI hV hst ; (try simp only [Act.put, hval, hval2, List.setIfInBounds_toArray, List.set_cons_zero, List.set_cons_succ]); go_simp, .inr (.inr ⟨11, #[.slice a3 1 c3, .slice a3 1 c3, .slice none 0 0, .int .i64 0], by clear hI hV hst ; (try simp only [Act.put, hval, hval2, List.setIfInBounds_toArray, List.set_cons_zero, List.set_cons_succ]); go_simp, ofs_is _ _ (fun _ => True) _ _ _ _ _ W [] 0 true (HT.out W (hw4.trans hI)) (R3.out.sees (hw4.trans hI)) (R3.out.sees (hw4.trans hI)) (El.Rd.nil _ _) ⟨by decide, by intro l hl; simp at hl; subst hl; simp, by decide, by intro l hl; simp at hl; subst hl; simp⟩ (by kernel_rfl)⟩)⟩
  refine ⟨fun vs W hI hV => .inl ⟨by clear hI hV hst; (try simp only [Act.put, hval, hval2, List.setIfInBounds_toArray, List.set_cons_zero, List.set_cons_succ]); go_simp, .inl (by clear hI hV hst; (try simp only [Act.put, hval, hval2, List.setIfInBounds_toArray, List.set_cons_zero, List.set_cons_succ]); go_simp)⟩, ?_⟩
  refine ⟨fun vs W hI hV => .inl ⟨by clear hI hV hst; (try simp only [Act.put, hval, hval2, List.setIfInBounds_toArray, List.set_cons_zero, List.set_cons_succ]); go_simp, .inl (by clear hI hV hst; (try simp only [Act.put, hval, hval2, List.setIfInBounds_toArray, List.set_cons_zero, List.set_cons_succ]); go_simp)⟩, ?_⟩
  refine ⟨fun vs W hI hV => .inl ⟨by clear hI hV hst; (try simp only [Act.put, hval, hval2, List.setIfInBounds_toArray, List.set_cons_zero, List.set_cons_succ]); go_simp, .inl (by clear hI hV hst; (try simp only [Act.put, hval, hval2, List.setIfInBounds_toArray, List.set_cons_zero, List.set_cons_succ]); go_simp)⟩, ?_⟩
  refine ⟨fun vs W hI hV => .inl ⟨by clear hI hV hst; (try simp only [Act.put, hval, hval2, List.setIfInBounds_toArray, List.set_cons_zero, List.set_cons_succ]); go_simp, .inl (by clear hI hV hst; (try simp only [Act.put, hval, hval2, List.setIfInBounds_toArray, List.set_cons_zero, List.set_cons_succ]); go_simp)⟩, ?_⟩
  refine ⟨fun vs W hI hV => .inl ⟨by clear hI hV hst; (try simp only [Act.put, hval, hval2, List.setIfInBounds_toArray, List.set_cons_zero, List.set_cons_succ]); go_simp, .inl (by clear hI hV hst; (try simp only [Act.put, hval, hval2, List.setIfInBounds_toArray, List.set_cons_zero, List.set_cons_succ]); go_simp)⟩, ?_⟩
  refine ⟨fun vs W hI hV => .inl ⟨by clear hI hV hst; (try simp only [Act.put, hval, hval2, List.setIfInBounds_toArray, List.set_cons_zero, List.set_cons_succ]); go_simp, .inr (.inr ⟨20, #[.int .i32 98], by clear hI hV hst; (try simp only [Act.put, hval, hval2, List.setIfInBounds_toArray, List.set_cons_zero, List.set_cons_succ]); go_simp, one45_any 98 W⟩)⟩, ?_⟩
  refine ⟨fun vs W hI hV => .inl ⟨by clear hI hV hst; (try simp only [Act.put, hval, hval2, List.setIfInBounds_toArray, List.set_cons_zero, List.set_cons_succ]); go_simp, .inl (exec_load rfl (by clear hI hV hst; (try simp only [Act.put, hval, hval2, List.setIfInBounds_toArray, List.set_cons_zero, List.set_cons_succ]); go_simp) (run_loadCell (c := wide45) (C1.out.sees (hw4.trans hI))))⟩, ?_⟩
  refine ⟨fun vs W hI hV => .inl ⟨by clear hI hV hst; (try simp only [Act.put, hval, hval2, List.setIfInBounds_toArray, List.set_cons_zero, List.set_cons_succ]); go_simp, .inl (by clear hI hV hst; (try simp only [Act.put, hval, hval2, List.setIfInBounds_toArray, List.set_cons_zero, List.set_cons_succ]); go_simp)⟩, ?_⟩
  refine ⟨fun vs W hI hV => .inl ⟨by clear hI hV hst; (try simp only [Act.put, hval, hval2, List.setIfInBounds_toArray, List.set_cons_zero, List.set_cons_succ]); go_simp, .inl ⟨.slice (some ⟨W.heap.size, 0, none⟩) 3 3, W.alloc (.cells #[.int .i32 98, .int .i32 0, .int .i32 0, .int .i32 0, .int .i64 1, .int .i64 0, .int .u8 0, .int .u8 0, .int .u8 0, .int .u8 0, .int .i64 0, .int .u8 0, .int .u8 0, .int .u8 0, .int .u8 0, .int .u8 0, .int .i32 28450, .int .i32 0, .int .i32 0, .int .i32 0, .int .i64 2, .int .i64 0, .int .u8 0, .int .u8 0, .int .u8 0, .int .u8 0, .int .i64 0, .int .u8 0, .int .u8 0, .int .u8 0, .int .u8 0, .int .u8 0, .int .i32 0, .int .i32 0, .int .i32 0, .int .i32 0, .int .i64 0, .int .i64 0, .int .u8 0, .int .u8 0, .int .u8 0, .int .u8 0, .int .i64 0, .int .u8 0, .int .u8 0, .int .u8 0, .int .u8 0, .int .u8 0] 46), by clear hI hV hst; (try simp only [Act.put, hval, hval2, List.setIfInBounds_toArray, List.set_cons_zero, List.set_cons_succ]); go_simp, rgGood_mk hst hI (rd_row_cells [one45 98, wide45, zero45] 3 (heap_alloc_new _ _) (by decide) ⟨rfl, by unfold maxLen; omega⟩) ((Sees.refl W).alloc _)⟩⟩, ?_⟩
  refine ⟨fun vs W hI hV => ?_, ?_⟩
  · have h : cellEl.Rd (fun _ => True) W (vs 22) [one45 98, wide45, zero45] := hV 22 _ (by kernel_rfl) rfl
    obtain ⟨a', c', e, _⟩ := h.slice'
    exact .inl ⟨by clear hI hV hst h; (try simp only [Act.put, hval, hval2, List.setIfInBounds_toArray, List.set_cons_zero, List.set_cons_succ]); go_simp, .inl ⟨.agg #[.int .i64 0, .int .i64 1, .slice a' 3 c', .bool false], W, by clear hI hV hst h; (try simp only [Act.put, hval, hval2, List.setIfInBounds_toArray, List.set_cons_zero, List.set_cons_succ]); go_simp, rgGood_mk hst hI ⟨_, rfl, e ▸ h⟩ (Sees.refl W)⟩⟩
  refine ⟨fun vs W hI hV => ?_, ?_⟩
  · obtain ⟨sv, e, h⟩ : ∃ sv, vs 23 = .agg #[.int .i64 0, .int .i64 1, sv, .bool false] ∧ cellEl.Rd (fun _ => True) W sv [one45 98, wide45, zero45] := hV 23 _ (by kernel_rfl) rfl
    obtain ⟨a', c', rfl, _⟩ := h.slice'
    have hs : Sees W (W.alloc (.cells #[.int .i64 0, .int .i64 1, .slice a' 3 c', .bool false] 37)) := (Sees.refl W).alloc _
    exact .inl ⟨by clear hI hV hst h hs; (try simp only [Act.put, hval, hval2, List.setIfInBounds_toArray, List.set_cons_zero, List.set_cons_succ]); go_simp, .inl ⟨.slice (some ⟨W.heap.size, 0, none⟩) 1 1, W.alloc (.cells #[.int .i64 0, .int .i64 1, .slice a' 3 c', .bool false] 37), by clear hI hV hst h hs; (try simp only [Act.put, hval, hval2, List.setIfInBounds_toArray, List.set_cons_zero, List.set_cons_succ]); go_simp, rgGood_mk hst hI (rd_row_patch (p := ⟨0, 1, [one45 98, wide45, zero45], false⟩) (heap_alloc_new _ _) (h.sees hs)) hs⟩⟩
  refine ⟨fun vs W hI hV => ?_, ?_⟩
  · have h24 : ptEl.Rd (fun _ => True) W (vs 24) [⟨0, 1, [one45 98, wide45, zero45], false⟩] := hV 24 _ (by kernel_rfl) rfl
    exact .inl ⟨by clear hI hV hst h24; (try simp only [Act.put, hval, hval2, List.setIfInBounds_toArray, List.set_cons_zero, List.set_cons_succ]); go_simp, .inr (.inr ⟨11, #[.slice a4 1 c4, .slice a3 1 c3, vs 24, .int .i64 0], by clear hI hV hst h24; (try simp only [Act.put, hval, hval2, List.setIfInBounds_toArray, List.set_cons_zero, List.set_cons_succ]); go_simp, ofs_is _ _ _ _ _ _ _ _ W [⟨0, 1, [one45 98, wide45, zero45], false⟩] 0 true (HT.out W (hw4.trans hI)) (R4.out.sees (hw4.trans hI)) (R3.out.sees (hw4.trans hI)) h24 ⟨by decide, by intro l hl; simp at hl; subst hl; simp, by decide, by intro l hl; simp at hl; subst hl; simp⟩ (by kernel_rfl)⟩)⟩
  refine ⟨fun vs W hI hV => .inl ⟨by clear hI hV hst; (try simp only [Act.put, hval, hval2, List.setIfInBounds_toArray, List.set_cons_zero, List.set_cons_succ]); go_simp, .inl (by clear hI hV hst; (try simp only [Act.put, hval, hval2, List.setIfInBounds_toArray, List.set_cons_zero, List.set_cons_succ]); go_simp)⟩, ?_⟩
  refine ⟨fun vs W hI hV => .inl ⟨by clear hI hV hst; (try simp only [Act.put, hval, hval2, List.setIfInBounds_toArray, List.set_cons_zero, List.set_cons_succ]); go_simp, .inl (by clear hI hV hst; (try simp only [Act.put, hval, hval2, List.setIfInBounds_toArray, List.set_cons_zero, List.set_cons_succ]); go_simp)⟩, ?_⟩
  intro vs w7 hI hV
  have S7 := Lib.hid (hw4.trans hI)
  clear hI hV hst hw4
  (try simp only [Act.put, hval, hval2, List.setIfInBounds_toArray, List.set_cons_zero, List.set_cons_succ])
  go_simp
  refine wpFrom_end rfl ?_
  clear hB
  have hchk : chk [⟨[one45 97, one45 98, wide45, zero45, one45 100, one45 32], false⟩] [⟨[one45 97, one45 66, one45 120, one45 121, one45 100, one45 32], false⟩] = 0 := by kernel_rfl
  have Hof : Hid (ofR [⟨[one45 97, one45 98, wide45, zero45, one45 100, one45 32], false⟩] [⟨[one45 97, one45 66, one45 120, one45 121, one45 100, one45 32], false⟩] = [⟨0, 1, [one45 66, one45 120, one45 121], false⟩]) := by unfold Hid; kernel_rfl
  go_wp2_with fail
  refine (of_any _ _ _ _ [⟨[one45 97, one45 98, wide45, zero45, one45 100, one45 32], false⟩] [⟨[one45 97, one45 66, one45 120, one45 121, one45 100, one45 32], false⟩] _ (HT.out _ S7.out) (R3.out.sees S7.out) (R4.out.sees S7.out) (by decide) (by intro l hl; simp at hl; subst hl; simp) (by decide) (by intro l hl; simp at hl; subst hl; simp)).mono ?_
  rintro e w8 ⟨v5, rfl, h5, s8⟩
  rw [Hof.out] at h5
  obtain ⟨a5, c5, rfl, _⟩ := h5.slice
  have H5 := Lib.hid h5.rd
  have S8 := Lib.hid (S7.out.trans s8)
  have s8' := Lib.hid (Sees.refl w8)
  clear h5 s8 S7
  go_wp2_with fail
  refine (row45_any true _ _ _ (L5.out.sees S8.out)).mono ?_
  rintro e w9 ⟨v9, rfl, h9, s9⟩
  have H9 := Lib.hid h9
  obtain ⟨a9, c9, rfl, _⟩ := h9.slice'
  have S9 := Lib.hid (S8.out.trans (s9.trans ((Sees.refl w9).alloc (.cells #[.int .i64 0, .int .i64 0, .slice none 0 0, .bool true] 37))))
  have T9 := Lib.hid (s9.trans ((Sees.refl w9).alloc (.cells #[.int .i64 0, .int .i64 0, .slice none 0 0, .bool true] 37)))
  have HP9 := Lib.hid (rd_row_patch (p := ⟨0, 0, [], true⟩) (heap_alloc_new w9 (.cells #[.int .i64 0, .int .i64 0, .slice none 0 0, .bool true] 37)) (El.Rd.nil _ _))
  have H9b := Lib.hid (H9.out.sees ((Sees.refl w9).alloc (.cells #[.int .i64 0, .int .i64 0, .slice none 0 0, .bool true] 37)))
  clear h9 s9
  go_wp2_with fail
  refine (ofs_is _ _ _ _ _ _ _ _ _ [⟨0, 0, [], true⟩] 0 true (HT.out _ S9.out) (R3.out.sees S9.out) H9b.out HP9.out ⟨by decide, by intro l hl; simp at hl; subst hl; simp, by decide, by intro l hl; simp at hl; subst hl; simp⟩ (by kernel_rfl)).mono ?_
  rintro e w10 ⟨rfl, s10⟩
  have S10 := Lib.hid (S9.out.trans s10)
  have T10 := Lib.hid (T9.out.trans s10)
  clear s10 H9b HP9 H9 S9 T9
  go_wp2_with fail
  refine (same_is _ _ _ _ _ _ _ false 0 true (HT.out _ S10.out) (R3.out.sees S10.out) (R4.out.sees S10.out) ⟨by decide, by intro l hl; simp at hl; subst hl; simp, by decide, by intro l hl; simp at hl; subst hl; simp⟩ (by kernel_rfl)).mono ?_
  rintro e w11 ⟨rfl, s11⟩
  have S11 := Lib.hid (S10.out.trans s11)
  have T11 := Lib.hid (T10.out.trans s11)
  have hcn : cellsOf [⟨0, 1, [one45 66, one45 120, one45 121], false⟩] = 3 := rfl
  clear s11 S10 T10
  go_wp2_with fail
  refine (cellsN_any _ _ [⟨0, 1, [one45 66, one45 120, one45 121], false⟩] _ (H5.out.sees T11.out) (by decide) (by intro l hl; simp at hl; subst hl; simp)).mono ?_
  rintro e w12 ⟨rfl, s12⟩
  have S12 := Lib.hid (S11.out.trans s12)
  clear s12 S11 T11
  go_wp2_with fail
  refine (one45_any 122 _).mono ?_
  rintro e w13 ⟨rfl, s13⟩
  have S13 := Lib.hid (S12.out.trans (s13.trans ((Sees.refl w13).alloc (.cells #[.int .i32 122, .int .i32 0, .int .i32 0, .int .i32 0, .int .i64 1, .int .i64 0, .int .u8 0, .int .u8 0, .int .u8 0, .int .u8 0, .int .i64 0, .int .u8 0, .int .u8 0, .int .u8 0, .int .u8 0, .int .u8 0] 46))))
  have H13 := Lib.hid (rd_row_cells [one45 122] 1 (heap_alloc_new w13 (.cells #[.int .i32 122, .int .i32 0, .int .i32 0, .int .i32 0, .int .i64 1, .int .i64 0, .int .u8 0, .int .u8 0, .int .u8 0, .int .u8 0, .int .i64 0, .int .u8 0, .int .u8 0, .int .u8 0, .int .u8 0, .int .u8 0] 46)) (by decide) ⟨rfl, by unfold maxLen; omega⟩)
  clear s13 S12 hcn hchk
  go_wp2_with fail
  refine wpFrom_go (by kernel_rfl) (by kernel_rfl) (fun hB w14 hw14 => ?_)
  have S14 := Lib.hid (S13.out.trans hw14)
  have L7 := Lib.hid (H13.out.sees hw14)
  generalize w13.heap.size = b7 at *
  have C1 := Lib.hid (C1.out.sees S14.out)
  have R3 := Lib.hid (R3.out.sees S14.out)
  have HT := Lib.hid (fun W (h : Sees w14 W) => HT.out W (S14.out.trans h))
  have hw10 := Sees.refl w14
  clear hw14 H13 S13 H5 R4 L5
  have hst : segStay (Sees w14) [.is (.slice a3 1 c3), .is (.slice (some ⟨b7, 0, none⟩) 1 1), .so (fun x W => ∃ sv, x = .agg #[.int .i64 0, .int .i64 3, sv, .bool false] ∧ cellEl.Rd (fun _ => True) W sv [one45 122]), .so (fun x W => ptEl.Rd (fun _ => True) W x [⟨0, 3, [one45 122], false⟩]), .is (.bool true), .is (.bool true), .is (.slice a3 1 c3), .is (.slice (some ⟨b7, 0, none⟩) 1 1), .so (fun x W => ∃ sv, x = .agg #[.int .i64 0, .int .i64 4, sv, .bool false] ∧ cellEl.Rd (fun _ => True) W sv [one45 122]), .so (fun x W => ptEl.Rd (fun _ => True) W x [⟨0, 4, [one45 122], false⟩]), .is (.agg #[.int .i32 97, .int .i32 0, .int .i32 0, .int .i32 0, .int .i64 1, .int .i64 0, .int .u8 0, .int .u8 0, .int .u8 0, .int .u8 0, .int .i64 0, .int .u8 0, .int .u8 0, .int .u8 0, .int .u8 0, .int .u8 0]), .is (.agg #[.int .i32 98, .int .i32 0, .int .i32 0, .int .i32 0, .int .i64 1, .int .i64 0, .int .u8 0, .int .u8 0, .int .u8 0, .int .u8 0, .int .i64 0, .int .u8 0, .int .u8 0, .int .u8 0, .int .u8 0, .int .u8 0]), .is (.agg #[.int .i32 28450, .int .i32 0, .int .i32 0, .int .i32 0, .int .i64 2, .int .i64 0, .int .u8 0, .int .u8 0, .int .u8 0, .int .u8 0, .int .i64 0, .int .u8 0, .int .u8 0, .int .u8 0, .int .u8 0, .int .u8 0]), .is (.agg #[.int .i32 0, .int .i32 0, .int .i32 0, .int .i32 0, .int .i64 0, .int .i64 0, .int .u8 0, .int .u8 0, .int .u8 0, .int .u8 0, .int .i64 0, .int .u8 0, .int .u8 0, .int .u8 0, .int .u8 0, .int .u8 0]), .is (.agg #[.int .i32 122, .int .i32 0, .int .i32 0, .int .i32 0, .int .i64 1, .int .i64 0, .int .u8 0, .int .u8 0, .int .u8 0, .int .u8 0, .int .i64 0, .int .u8 0, .int .u8 0, .int .u8 0, .int .u8 0, .int .u8 0]), .is (.agg #[.int .i32 32, .int .i32 0, .int .i32 0, .int .i32 0, .int .i64 1, .int .i64 0, .int .u8 0, .int .u8 0, .int .u8 0, .int .u8 0, .int .i64 0, .int .u8 0, .int .u8 0, .int .u8 0, .int .u8 0, .int .u8 0]), .so (fun v W => cellEl.Rd (fun _ => True) W v [one45 97, one45 98, wide45, zero45, one45 122, one45 32]), .so (fun x W => lnEl.Rd (fun _ => True) W x [⟨[one45 97, one45 98, wide45, zero45, one45 122, one45 32], false⟩]), .is (.bool true), .is (.bool true), .is (.bool true), .is (.slice a3 1 c3), .is (.slice (some ⟨b7, 0, none⟩) 1 1), .so (fun x W => ∃ sv, x = .agg #[.int .i64 1, .int .i64 0, sv, .bool false] ∧ cellEl.Rd (fun _ => True) W sv [one45 122]), .so (fun x W => ptEl.Rd (fun _ => True) W x [⟨1, 0, [one45 122], false⟩]), .is (.bool true), .is (.bool true), .is (.bool true), .is (.slice a3 1 c3), .is (.agg #[.int .i32 122, .int .i32 0, .int .i32 0, .int .i32 0, .int .i64 1, .int .i64 0, .int .u8 0, .int .u8 0, .int .u8 0, .int .u8 0, .int .i64 0, .int .u8 0, .int .u8 0, .int .u8 0, .int .u8 0, .int .u8 0]), .is (.agg #[.int .i32 122, .int .i32 0, .int .i32 0, .int .i32 0, .int .i64 1, .int .i64 0, .int .u8 0, .int .u8 0, .int .u8 0, .int .u8 0, .int .i64 0, .int .u8 0, .int .u8 0, .int .u8 0, .int .u8 0, .int .u8 0]), .so (fun v W => cellEl.Rd (fun _ => True) W v [one45 122, one45 122]), .so (fun x W => ∃ sv, x = .agg #[.int .i64 0, .int .i64 5, sv, .bool false] ∧ cellEl.Rd (fun _ => True) W sv [one45 122, one45 122]), .so (fun x W => ptEl.Rd (fun _ => True) W x [⟨0, 5, [one45 122, one45 122], false⟩]), .is (.bool true), .is (.bool true)] := ⟨fun u W W' _ ⟨sv, h1, h2⟩ hs => ⟨sv, h1, h2.sees hs⟩, fun u W W' _ h hs => h.sees hs, fun u W W' _ ⟨sv, h1, h2⟩ hs => ⟨sv, h1, h2.sees hs⟩, fun u W W' _ h hs => h.sees hs, fun u W W' _ h hs => h.sees hs, fun u W W' _ h hs => h.sees hs, fun u W W' _ ⟨sv, h1, h2⟩ hs => ⟨sv, h1, h2.sees hs⟩, fun u W W' _ h hs => h.sees hs, fun u W W' _ h hs => h.sees hs, fun u W W' _ ⟨sv, h1, h2⟩ hs => ⟨sv, h1, h2.sees hs⟩, fun u W W' _ h hs => h.sees hs, trivial⟩
  refine wpFrom_any 36 _ hB (by kernel_rfl) rfl hst (by simp only [List.cons_append, List.nil_append, List.drop_succ_cons, List.drop_zero, List.take_succ_cons, List.take_zero, Nat.reduceSub]; rfl) ?_
  refine ⟨fun vs W hI hV => .inl ⟨by clear hI hV hst; (try simp only [Act.put, hval, hval2, List.setIfInBounds_toArray, List.set_cons_zero, List.set_cons_succ]); go_simp, .inl (by clear hI hV hst; (try simp only [Act.put, hval, hval2, List.setIfInBounds_toArray, List.set_cons_zero, List.set_cons_succ]); go_simp)⟩, ?_⟩
  refine ⟨fun vs W hI hV => .inl ⟨by clear hI hV hst; (try simp only [Act.put, hval, hval2, List.setIfInBounds_toArray, List.set_cons_zero, List.set_cons_succ]); go_simp, .inl (by clear hI hV hst; (try simp only [Act.put, hval, hval2, List.setIfInBounds_toArray, List.set_cons_zero, List.set_cons_succ]); go_simp)⟩, ?_⟩
  refine ⟨fun vs W hI hV => .inl ⟨by clear hI hV hst; (try simp only [Act.put, hval, hval2, List.setIfInBounds_toArray, List.set_cons_zero, List.set_cons_succ]); go_simp, .inl ⟨.agg #[.int .i64 0, .int .i64 3, .slice (some ⟨b7, 0, none⟩) 1 1, .bool false], W, by clear hI hV hst; (try simp only [Act.put, hval, hval2, List.setIfInBounds_toArray, List.set_cons_zero, List.set_cons_succ]); go_simp, rgGood_mk hst hI ⟨_, rfl, L7.out.sees (hw10.trans hI)⟩ (Sees.refl W)⟩⟩, ?_⟩
  refine ⟨fun vs W hI hV => ?_, ?_⟩
  · obtain ⟨sv, e, h⟩ : ∃ sv, vs 2 = .agg #[.int .i64 0, .int .i64 3, sv, .bool false] ∧ cellEl.Rd (fun _ => True) W sv [one45 122] := hV 2 _ (by kernel_rfl) rfl
    obtain ⟨a', c', rfl, _⟩ := h.slice'
    have hs : Sees W (W.alloc (.cells #[.int .i64 0, .int .i64 3, .slice a' 1 c', .bool false] 37)) := (Sees.refl W).alloc _
    exact .inl ⟨by clear hI hV hst h hs; (try simp only [Act.put, hval, hval2, List.setIfInBounds_toArray, List.set_cons_zero, List.set_cons_succ]); go_simp, .inl ⟨.slice (some ⟨W.heap.size, 0, none⟩) 1 1, W.alloc (.cells #[.int .i64 0, .int .i64 3, .slice a' 1 c', .bool false] 37), by clear hI hV hst h hs; (try simp only [Act.put, hval, hval2, List.setIfInBounds_toArray, List.set_cons_zero, List.set_cons_succ]); go_simp, rgGood_mk hst hI (rd_row_patch (p := ⟨0, 3, [one45 122], false⟩) (heap_alloc_new _ _) (h.sees hs)) hs⟩⟩
  refine ⟨fun vs W hI hV => ?_, ?_⟩
  · have h3 : ptEl.Rd (fun _ => True) W (vs 3) [⟨0, 3, [one45 122], false⟩] := hV 3 _ (by kernel_rfl) rfl
    exact .inl ⟨by clear hI hV hst h3; (try simp only [Act.put, hval, hval2, List.setIfInBounds_toArray, List.set_cons_zero, List.set_cons_succ]); go_simp, .inr (.inr ⟨17, #[.slice a3 1 c3, vs 3, .slice none 0 0, .int .i64 12], by clear hI hV hst h3; (try simp only [Act.put, hval, hval2, List.setIfInBounds_toArray, List.set_cons_zero, List.set_cons_succ]); go_simp, applies_is _ _ _ _ _ _ _ W [⟨0, 3, [one45 122], false⟩] [] 12 true (HT.out W (hw10.trans hI)) (R3.out.sees (hw10.trans hI)) h3 (El.Rd.nil (fun _ => True) W) ⟨by decide, by intro l hl; simp at hl; subst hl; simp, by decide, by intro l hl; simp at hl; subst hl; simp⟩ (by kernel_rfl)⟩)⟩
  refine ⟨fun vs W hI hV => .inl ⟨by clear hI hV hst; (try simp only [Act.put, hval, hval2, List.setIfInBounds_toArray, List.set_cons_zero, List.set_cons_succ]); go_simp, .inl (by clear hI hV hst; (try simp only [Act.put, hval, hval2, List.setIfInBounds_toArray, List.set_cons_zero, List.set_cons_succ]); go_simp)⟩, ?_⟩
  refine ⟨fun vs W hI hV => .inl ⟨by clear hI hV hst; (try simp only [Act.put, hval, hval2, List.setIfInBounds_toArray, List.set_cons_zero, List.set_cons_succ]); go_simp, .inl (by clear hI hV hst; (try simp only [Act.put, hval, hval2, List.setIfInBounds_toArray, List.set_cons_zero, List.set_cons_succ]); go_simp)⟩, ?_⟩
  refine ⟨fun vs W hI hV => .inl ⟨by clear hI hV hst; (try simp only [Act.put, hval, hval2, List.setIfInBounds_toArray, List.set_cons_zero, List.set_cons_succ]); go_simp, .inl (by clear hI hV hst; (try simp only [Act.put, hval, hval2, List.setIfInBounds_toArray, List.set_cons_zero, List.set_cons_succ]); go_simp)⟩, ?_⟩
  refine ⟨fun vs W hI hV => .inl ⟨by clear hI hV hst; (try simp only [Act.put, hval, hval2, List.setIfInBounds_toArray, List.set_cons_zero, List.set_cons_succ]); go_simp, .inl ⟨.agg #[.int .i64 0, .int .i64 4, .slice (some ⟨b7, 0, none⟩) 1 1, .bool false], W, by clear hI hV hst; (try simp only [Act.put, hval, hval2, List.setIfInBounds_toArray, List.set_cons_zero, List.set_cons_succ]); go_simp, rgGood_mk hst hI ⟨_, rfl, L7.out.sees (hw10.trans hI)⟩ (Sees.refl W)⟩⟩, ?_⟩
  refine ⟨fun vs W hI hV => ?_, ?_⟩
  · obtain ⟨sv, e, h⟩ : ∃ sv, vs 8 = .agg #[.int .i64 0, .int .i64 4, sv, .bool false] ∧ cellEl.Rd (fun _ => True) W sv [one45 122] := hV 8 _ (by kernel_rfl) rfl
    obtain ⟨a', c', rfl, _⟩ := h.slice'
    have hs : Sees W (W.alloc (.cells #[.int .i64 0, .int .i64 4, .slice a' 1 c', .bool false] 37)) := (Sees.refl W).alloc _
    exact .inl ⟨by clear hI hV hst h hs; (try simp only [Act.put, hval, hval2, List.setIfInBounds_toArray, List.set_cons_zero, List.set_cons_succ]); go_simp, .inl ⟨.slice (some ⟨W.heap.size, 0, none⟩) 1 1, W.alloc (.cells #[.int .i64 0, .int .i64 4, .slice a' 1 c', .bool false] 37), by clear hI hV hst h hs; (try simp only [Act.put, hval, hval2, List.setIfInBounds_toArray, List.set_cons_zero, List.set_cons_succ]); go_simp, rgGood_mk hst hI (rd_row_patch (p := ⟨0, 4, [one45 122], false⟩) (heap_alloc_new _ _) (h.sees hs)) hs⟩⟩
  refine ⟨fun vs W hI hV => .inl ⟨by clear hI hV hst; (try simp only [Act.put, hval, hval2, List.setIfInBounds_toArray, List.set_cons_zero, List.set_cons_succ]); go_simp, .inr (.inr ⟨20, #[.int .i32 97], by clear hI hV hst; (try simp only [Act.put, hval, hval2, List.setIfInBounds_toArray, List.set_cons_zero, List.set_cons_succ]); go_simp, one45_any 97 W⟩)⟩, ?_⟩
  refine ⟨fun vs W hI hV => .inl ⟨by clear hI hV hst; (try simp only [Act.put, hval, hval2, List.setIfInBounds_toArray, List.set_cons_zero, List.set_cons_succ]); go_simp, .inr (.inr ⟨20, #[.int .i32 98], by clear hI hV hst; (try simp only [Act.put, hval, hval2, List.setIfInBounds_toArray, List.set_cons_zero, List.set_cons_succ]); go_simp, one45_any 98 W⟩)⟩, ?_⟩
  refine ⟨fun vs W hI hV => .inl ⟨by clear hI hV hst; (try simp only [Act.put, hval, hval2, List.setIfInBounds_toArray, List.set_cons_zero, List.set_cons_succ]); go_simp, .inl (exec_load rfl (by clear hI hV hst; (try simp only [Act.put, hval, hval2, List.setIfInBounds_toArray, List.set_cons_zero, List.set_cons_succ]); go_simp) (run_loadCell (c := wide45) (C1.out.sees (hw10.trans hI))))⟩, ?_⟩
  refine ⟨fun vs W hI hV => .inl ⟨by clear hI hV hst; (try simp only [Act.put, hval, hval2, List.setIfInBounds_toArray, List.set_cons_zero, List.set_cons_succ]); go_simp, .inl (by clear hI hV hst; (try simp only [Act.put, hval, hval2, List.setIfInBounds_toArray, List.set_cons_zero, List.set_cons_succ]); go_simp)⟩, ?_⟩
  refine ⟨fun vs W hI hV => .inl ⟨by clear hI hV hst; (try simp only [Act.put, hval, hval2, List.setIfInBounds_toArray, List.set_cons_zero, List.set_cons_succ]); go_simp, .inr (.inr ⟨20, #[.int .i32 122], by clear hI hV hst; (try simp only [Act.put, hval, hval2, List.setIfInBounds_toArray, List.set_cons_zero, List.set_cons_succ]); go_simp, one45_any 122 W⟩)⟩, ?_⟩
  refine ⟨fun vs W hI hV => .inl ⟨by clear hI hV hst; (try simp only [Act.put, hval, hval2, List.setIfInBounds_toArray, List.set_cons_zero, List.set_cons_succ]); go_simp, .inr (.inr ⟨20, #[.int .i32 32], by clear hI hV hst; (try simp only [Act.put, hval, hval2, List.setIfInBounds_toArray, List.set_cons_zero, List.set_cons_succ]); go_simp, one45_any 32 W⟩)⟩, ?_⟩
  refine ⟨fun vs W hI hV => .inl ⟨by clear hI hV hst; (try simp only [Act.put, hval, hval2, List.setIfInBounds_toArray, List.set_cons_zero, List.set_cons_succ]); go_simp, .inl ⟨.slice (some ⟨W.heap.size, 0, none⟩) 6 6, W.alloc (.cells #[.int .i32 97, .int .i32 0, .int .i32 0, .int .i32 0, .int .i64 1, .int .i64 0, .int .u8 0, .int .u8 0, .int .u8 0, .int .u8 0, .int .i64 0, .int .u8 0, .int .u8 0, .int .u8 0, .int .u8 0, .int .u8 0, .int .i32 98, .int .i32 0, .int .i32 0, .int .i32 0, .int .i64 1, .int .i64 0, .int .u8 0, .int .u8 0, .int .u8 0, .int .u8 0, .int .i64 0, .int .u8 0, .int .u8 0, .int .u8 0, .int .u8 0, .int .u8 0, .int .i32 28450, .int .i32 0, .int .i32 0, .int .i32 0, .int .i64 2, .int .i64 0, .int .u8 0, .int .u8 0, .int .u8 0, .int .u8 0, .int .i64 0, .int .u8 0, .int .u8 0, .int .u8 0, .int .u8 0, .int .u8 0, .int .i32 0, .int .i32 0, .int .i32 0, .int .i32 0, .int .i64 0, .int .i64 0, .int .u8 0, .int .u8 0, .int .u8 0, .int .u8 0, .int .i64 0, .int .u8 0, .int .u8 0, .int .u8 0, .int .u8 0, .int .u8 0, .int .i32 122, .int .i32 0, .int .i32 0, .int .i32 0, .int .i64 1, .int .i64 0, .int .u8 0, .int .u8 0, .int .u8 0, .int .u8 0, .int .i64 0, .int .u8 0, .int .u8 0, .int .u8 0, .int .u8 0, .int .u8 0, .int .i32 32, .int .i32 0, .int .i32 0, .int .i32 0, .int .i64 1, .int .i64 0, .int .u8 0, .int .u8 0, .int .u8 0, .int .u8 0, .int .i64 0, .int .u8 0, .int .u8 0, .int .u8 0, .int .u8 0, .int .u8 0] 46), by clear hI hV hst; (try simp only [Act.put, hval, hval2, List.setIfInBounds_toArray, List.set_cons_zero, List.set_cons_succ]); go_simp, rgGood_mk hst hI (rd_row_cells [one45 97, one45 98, wide45, zero45, one45 122, one45 32] 6 (heap_alloc_new _ _) (by decide) ⟨rfl, by unfold maxLen; omega⟩) ((Sees.refl W).alloc _)⟩⟩, ?_⟩
  refine ⟨fun vs W hI hV => ?_, ?_⟩
  · have h : cellEl.Rd (fun _ => True) W (vs 16) [one45 97, one45 98, wide45, zero45, one45 122, one45 32] := hV 16 _ (by kernel_rfl) rfl
    exact .inl ⟨by clear hI hV hst h; (try simp only [Act.put, hval, hval2, List.setIfInBounds_toArray, List.set_cons_zero, List.set_cons_succ]); go_simp, .inr (.inr ⟨23, #[.bool false, vs 16], by clear hI hV hst h; (try simp only [Act.put, hval, hval2, List.setIfInBounds_toArray, List.set_cons_zero, List.set_cons_succ]); go_simp, (row45_any false _ _ W h).mono fun e W' ⟨v', he, h, hs⟩ => ⟨v', he, rgGood_mk hst hI h hs⟩⟩)⟩
  refine ⟨fun vs W hI hV => ?_, ?_⟩
  · have h9 : ptEl.Rd (fun _ => True) W (vs 9) [⟨0, 4, [one45 122], false⟩] := hV 9 _ (by kernel_rfl) rfl
    have h17 : lnEl.Rd (fun _ => True) W (vs 17) [⟨[one45 97, one45 98, wide45, zero45, one45 122, one45 32], false⟩] := hV 17 _ (by kernel_rfl) rfl
    exact .inl ⟨by clear hI hV hst h9 h17; (try simp only [Act.put, hval, hval2, List.setIfInBounds_toArray, List.set_cons_zero, List.set_cons_succ]); go_simp, .inr (.inr ⟨17, #[.slice a3 1 c3, vs 9, vs 17, .int .i64 0], by clear hI hV hst h9 h17; (try simp only [Act.put, hval, hval2, List.setIfInBounds_toArray, List.set_cons_zero, List.set_cons_succ]); go_simp, applies_is _ _ _ _ _ _ _ W [⟨0, 4, [one45 122], false⟩] [⟨[one45 97, one45 98, wide45, zero45, one45 122, one45 32], false⟩] 0 true (HT.out W (hw10.trans hI)) (R3.out.sees (hw10.trans hI)) h9 h17 ⟨by decide, by intro l hl; simp at hl; subst hl; simp, by decide, by intro l hl; simp at hl; subst hl; simp⟩ (by kernel_rfl)⟩)⟩
  refine ⟨fun vs W hI hV => .inl ⟨by clear hI hV hst; (try simp only [Act.put, hval, hval2, List.setIfInBounds_toArray, List.set_cons_zero, List.set_cons_succ]); go_simp, .inl (by clear hI hV hst; (try simp only [Act.put, hval, hval2, List.setIfInBounds_toArray, List.set_cons_zero, List.set_cons_succ]); go_simp)⟩, ?_⟩
  refine ⟨fun vs W hI hV => .inl ⟨by clear hI hV hst; (try simp only [Act.put, hval, hval2, List.setIfInBounds_toArray, List.set_cons_zero, List.set_cons_succ]); go_simp, .inl (by clear hI hV hst; (try simp only [Act.put, hval, hval2, List.setIfInBounds_toArray, List.set_cons_zero, List.set_cons_succ]); go_simp)⟩, ?_⟩
  refine ⟨fun vs W hI hV => .inl ⟨by clear hI hV hst; (try simp only [Act.put, hval, hval2, List.setIfInBounds_toArray, List.set_cons_zero, List.set_cons_succ]); go_simp, .inl (by clear hI hV hst; (try simp only [Act.put, hval, hval2, List.setIfInBounds_toArray, List.set_cons_zero, List.set_cons_succ]); go_simp)⟩, ?_⟩
  refine ⟨fun vs W hI hV => .inl ⟨by clear hI hV hst; (try simp only [Act.put, hval, hval2, List.setIfInBounds_toArray, List.set_cons_zero, List.set_cons_succ]); go_simp, .inl (by clear hI hV hst; (try simp only [Act.put, hval, hval2, List.setIfInBounds_toArray, List.set_cons_zero, List.set_cons_succ]); go_simp)⟩, ?_⟩
  refine ⟨fun vs W hI hV => .inl ⟨by clear hI hV hst; (try simp only [Act.put, hval, hval2, List.setIfInBounds_toArray, List.set_cons_zero, List.set_cons_succ]); go_simp, .inl ⟨.agg #[.int .i64 1, .int .i64 0, .slice (some ⟨b7, 0, none⟩) 1 1, .bool false], W, by clear hI hV hst; (try simp only [Act.put, hval, hval2, List.setIfInBounds_toArray, List.set_cons_zero, List.set_cons_succ]); go_simp, rgGood_mk hst hI ⟨_, rfl, L7.out.sees (hw10.trans hI)⟩ (Sees.refl W)⟩⟩, ?_⟩
  refine ⟨fun vs W hI hV => ?_, ?_⟩
  · obtain ⟨sv, e, h⟩ : ∃ sv, vs 23 = .agg #[.int .i64 1, .int .i64 0, sv, .bool false] ∧ cellEl.Rd (fun _ => True) W sv [one45 122] := hV 23 _ (by kernel_rfl) rfl
    obtain ⟨a', c', rfl, _⟩ := h.slice'
    have hs : Sees W (W.alloc (.cells #[.int .i64 1, .int .i64 0, .slice a' 1 c', .bool false] 37)) := (Sees.refl W).alloc _
    exact .inl ⟨by clear hI hV hst h hs; (try simp only [Act.put, hval, hval2, List.setIfInBounds_toArray, List.set_cons_zero, List.set_cons_succ]); go_simp, .inl ⟨.slice (some ⟨W.heap.size, 0, none⟩) 1 1, W.alloc (.cells #[.int .i64 1, .int .i64 0, .slice a' 1 c', .bool false] 37), by clear hI hV hst h hs; (try simp only [Act.put, hval, hval2, List.setIfInBounds_toArray, List.set_cons_zero, List.set_cons_succ]); go_simp, rgGood_mk hst hI (rd_row_patch (p := ⟨1, 0, [one45 122], false⟩) (heap_alloc_new _ _) (h.sees hs)) hs⟩⟩
  refine ⟨fun vs W hI hV => ?_, ?_⟩
  · have h24 : ptEl.Rd (fun _ => True) W (vs 24) [⟨1, 0, [one45 122], false⟩] := hV 24 _ (by kernel_rfl) rfl
    exact .inl ⟨by clear hI hV hst h24; (try simp only [Act.put, hval, hval2, List.setIfInBounds_toArray, List.set_cons_zero, List.set_cons_succ]); go_simp, .inr (.inr ⟨17, #[.slice a3 1 c3, vs 24, .slice none 0 0, .int .i64 3], by clear hI hV hst h24; (try simp only [Act.put, hval, hval2, List.setIfInBounds_toArray, List.set_cons_zero, List.set_cons_succ]); go_simp, applies_is _ _ _ _ _ _ _ W [⟨1, 0, [one45 122], false⟩] [] 3 true (HT.out W (hw10.trans hI)) (R3.out.sees (hw10.trans hI)) h24 (El.Rd.nil (fun _ => True) W) ⟨by decide, by intro l hl; simp at hl; subst hl; simp, by decide, by intro l hl; simp at hl; subst hl; simp⟩ (by kernel_rfl)⟩)⟩
  refine ⟨fun vs W hI hV => .inl ⟨by clear hI hV hst; (try simp only [Act.put, hval, hval2, List.setIfInBounds_toArray, List.set_cons_zero, List.set_cons_succ]); go_simp, .inl (by clear hI hV hst; (try simp only [Act.put, hval, hval2, List.setIfInBounds_toArray, List.set_cons_zero, List.set_cons_succ]); go_simp)⟩, ?_⟩
  refine ⟨fun vs W hI hV => .inl ⟨by clear hI hV hst; (try simp only [Act.put, hval, hval2, List.setIfInBounds_toArray, List.set_cons_zero, List.set_cons_succ]); go_simp, .inl (by clear hI hV hst; (try simp only [Act.put, hval, hval2, List.setIfInBounds_toArray, List.set_cons_zero, List.set_cons_succ]); go_simp)⟩, ?_⟩
  refine ⟨fun vs W hI hV => .inl ⟨by clear hI hV hst; (try simp only [Act.put, hval, hval2, List.setIfInBounds_toArray, List.set_cons_zero, List.set_cons_succ]); go_simp, .inl (by clear hI hV hst; (try simp only [Act.put, hval, hval2, List.setIfInBounds_toArray, List.set_cons_zero, List.set_cons_succ]); go_simp)⟩, ?_⟩
  refine ⟨fun vs W hI hV => .inl ⟨by clear hI hV hst; (try simp only [Act.put, hval, hval2, List.setIfInBounds_toArray, List.set_cons_zero, List.set_cons_succ]); go_simp, .inr (.inr ⟨20, #[.int .i32 122], by clear hI hV hst; (try simp only [Act.put, hval, hval2, List.setIfInBounds_toArray, List.set_cons_zero, List.set_cons_succ]); go_simp, one45_any 122 W⟩)⟩, ?_⟩
  refine ⟨fun vs W hI hV => .inl ⟨by clear hI hV hst; (try simp only [Act.put, hval, hval2, List.setIfInBounds_toArray, List.set_cons_zero, List.set_cons_succ]); go_simp, .inr (.inr ⟨20, #[.int .i32 122], by clear hI hV hst; (try simp only [Act.put, hval, hval2, List.setIfInBounds_toArray, List.set_cons_zero, List.set_cons_succ]); go_simp, one45_any 122 W⟩)⟩, ?_⟩
  refine ⟨fun vs W hI hV => .inl ⟨by clear hI hV hst; (try simp only [Act.put, hval, hval2, List.setIfInBounds_toArray, List.set_cons_zero, List.set_cons_succ]); go_simp, .inl ⟨.slice (some ⟨W.heap.size, 0, none⟩) 2 2, W.alloc (.cells #[.int .i32 122, .int .i32 0, .int .i32 0, .int .i32 0, .int .i64 1, .int .i64 0, .int .u8 0, .int .u8 0, .int .u8 0, .int .u8 0, .int .i64 0, .int .u8 0, .int .u8 0, .int .u8 0, .int .u8 0, .int .u8 0, .int .i32 122, .int .i32 0, .int .i32 0, .int .i32 0, .int .i64 1, .int .i64 0, .int .u8 0, .int .u8 0, .int .u8 0, .int .u8 0, .int .i64 0, .int .u8 0, .int .u8 0, .int .u8 0, .int .u8 0, .int .u8 0] 46), by clear hI hV hst; (try simp only [Act.put, hval, hval2, List.setIfInBounds_toArray, List.set_cons_zero, List.set_cons_succ]); go_simp, rgGood_mk hst hI (rd_row_cells [one45 122, one45 122] 2 (heap_alloc_new _ _) (by decide) ⟨rfl, by unfold maxLen; omega⟩) ((Sees.refl W).alloc _)⟩⟩, ?_⟩
  refine ⟨fun vs W hI hV => ?_, ?_⟩
  · have h : cellEl.Rd (fun _ => True) W (vs 31) [one45 122, one45 122] := hV 31 _ (by kernel_rfl) rfl
    obtain ⟨a', c', e, _⟩ := h.slice'
    exact .inl ⟨by clear hI hV hst h; (try simp only [Act.put, hval, hval2, List.setIfInBounds_toArray, List.set_cons_zero, List.set_cons_succ]); go_simp, .inl ⟨.agg #[.int .i64 0, .int .i64 5, .slice a' 2 c', .bool false], W, by clear hI hV hst h; (try simp only [Act.put, hval, hval2, List.setIfInBounds_toArray, List.set_cons_zero, List.set_cons_succ]); go_simp, rgGood_mk hst hI ⟨_, rfl, e ▸ h⟩ (Sees.refl W)⟩⟩
  refine ⟨fun vs W hI hV => ?_, ?_⟩
  · obtain ⟨sv, e, h⟩ : ∃ sv, vs 32 = .agg #[.int .i64 0, .int .i64 5, sv, .bool false] ∧ cellEl.Rd (fun _ => True) W sv [one45 122, one45 122] := hV 32 _ (by kernel_rfl) rfl
    obtain ⟨a', c', rfl, _⟩ := h.slice'
    have hs : Sees W (W.alloc (.cells #[.int .i64 0, .int .i64 5, .slice a' 2 c', .bool false] 37)) := (Sees.refl W).alloc _
    exact .inl ⟨by clear hI hV hst h hs; (try simp only [Act.put, hval, hval2, List.setIfInBounds_toArray, List.set_cons_zero, List.set_cons_succ]); go_simp, .inl ⟨.slice (some ⟨W.heap.size, 0, none⟩) 1 1, W.alloc (.cells #[.int .i64 0, .int .i64 5, .slice a' 2 c', .bool false] 37), by clear hI hV hst h hs; (try simp only [Act.put, hval, hval2, List.setIfInBounds_toArray, List.set_cons_zero, List.set_cons_succ]); go_simp, rgGood_mk hst hI (rd_row_patch (p := ⟨0, 5, [one45 122, one45 122], false⟩) (heap_alloc_new _ _) (h.sees hs)) hs⟩⟩
  refine ⟨fun vs W hI hV => ?_, ?_⟩
  · have h33 : ptEl.Rd (fun _ => True) W (vs 33) [⟨0, 5, [one45 122, one45 122], false⟩] := hV 33 _ (by kernel_rfl) rfl
    exact .inl ⟨by clear hI hV hst h33; (try simp only [Act.put, hval, hval2, List.setIfInBounds_toArray, List.set_cons_zero, List.set_cons_succ]); go_simp, .inr (.inr ⟨17, #[.slice a3 1 c3, vs 33, .slice none 0 0, .int .i64 3], by clear hI hV hst h33; (try simp only [Act.put, hval, hval2, List.setIfInBounds_toArray, List.set_cons_zero, List.set_cons_succ]); go_simp, applies_is _ _ _ _ _ _ _ W [⟨0, 5, [one45 122, one45 122], false⟩] [] 3 true (HT.out W (hw10.trans hI)) (R3.out.sees (hw10.trans hI)) h33 (El.Rd.nil (fun _ => True) W) ⟨by decide, by intro l hl; simp at hl; subst hl; simp, by decide, by intro l hl; simp at hl; subst hl; simp⟩ (by kernel_rfl)⟩)⟩
  refine ⟨fun vs W hI hV => .inl ⟨by clear hI hV hst; (try simp only [Act.put, hval, hval2, List.setIfInBounds_toArray, List.set_cons_zero, List.set_cons_succ]); go_simp, .inl (by clear hI hV hst; (try simp only [Act.put, hval, hval2, List.setIfInBounds_toArray, List.set_cons_zero, List.set_cons_succ]); go_simp)⟩, ?_⟩
  intro vs w15 hI hV
  have S15 := Lib.hid (S14.out.trans hI)
  clear hI hV hst hw10
  (try simp only [Act.put, hval, hval2, List.setIfInBounds_toArray, List.set_cons_zero, List.set_cons_succ])
  go_simp
  refine wpFrom_to 37 hB (fun _ _ _ _ _ h => h) (by kernel_rfl) (by simp only [List.cons_append, List.nil_append, List.drop_succ_cons, List.drop_zero, List.take_succ_cons, List.take_zero, Nat.reduceSub]; rfl) ?_
  go_wp2
  refine wpFrom_end rfl ?_
  clear hB
  go_wp2
  go_ret
  exact ⟨rfl, S5.out.trans S15.out⟩
end Go.Proofs.YtonlmlmjglaoiaaDoor
