/- The chapter's examples of histories. No condition. -/
import Derived.Test.YtpicffaghoggdaaDoorHiE
import Derived.Test.YtpicffaghoggdaaDoorLnA
namespace Go.Proofs.YtpicffaghoggdaaDoor
set_option linter.unusedVariables false
set_option linter.unusedSimpArgs false
open Go.RowKit

set_option maxRecDepth 1000000 in
set_option maxHeartbeats 8000000 in
theorem known31 (w : World) (ht : Tabs w) : Calls Tryd.prog 16 #[] w fun e w' => e = .returned (.bool true) ∧ Sees w w' := by
  have Ht := Lib.hid ht
  clear ht
  go_enter Tryd.func16, Tryd.ntmps16
  go_wp2_with fail
  refine (row31_any 97 _).mono ?_
  rintro e wa ⟨v1, rfl, o1, s1⟩
  go_wp2_with fail
  refine (row31_any 98 _).mono ?_
  rintro e wb ⟨v2, rfl, o2, s2⟩
  go_wp2_with fail
  refine (row31_any 99 _).mono ?_
  rintro e wc ⟨v3, rfl, o3, s3⟩
  obtain ⟨a1, c1, rfl⟩ := o1.slice
  obtain ⟨a2, c2, rfl⟩ := o2.slice
  obtain ⟨a3, c3, rfl⟩ := o3.slice
  have O1 := Lib.hid (o1.sees (s2.trans s3))
  have O2 := Lib.hid (o2.sees s3)
  have O3 := Lib.hid o3
  have S := Lib.hid (s1.trans (s2.trans s3))
  clear o1 o2 o3 s1 s2 s3
  rw [show [one 97].length = 1 from rfl] at *
  rw [show [one 98].length = 1 from rfl] at *
  rw [show [one 99].length = 1 from rfl] at *
  go_wp2_with fail
  refine calls_world (fun w1 hw1 => ?_)
  have X1 : LnAt w1 wc.heap.size (.slice a1 1 c1) false := by subst hw1; exact ((((LnAt.new rfl).alloc _).alloc _).alloc _)
  have X2 : LnAt w1 (wc.heap.size + 1) (.slice a2 1 c2) false := by subst hw1; exact (((LnAt.new (by simp)).alloc _).alloc _)
  have X3 : LnAt w1 (wc.heap.size + 1 + 1) (.slice a3 1 c3) false := by subst hw1; exact ((LnAt.new (by simp)).alloc _)
  have X4 : LnAt w1 (wc.heap.size + 1 + 1 + 1) (.slice none 0 0) false := by subst hw1; exact (LnAt.new (by simp))
  have hcw : Sees wc w1 := by subst hw1; exact (((((Sees.refl wc).alloc _).alloc _).alloc _).alloc _)
  clear hw1
  have R1 := Lib.hid ((O1.out.sees hcw).el.rd.mono (G := fun b => b < w1.heap.size) (fun b hb _ => hb))
  have R2 := Lib.hid ((O2.out.sees hcw).el.rd.mono (G := fun b => b < w1.heap.size) (fun b hb _ => hb))
  have R3 := Lib.hid ((O3.out.sees hcw).el.rd.mono (G := fun b => b < w1.heap.size) (fun b hb _ => hb))
  have S1 := Lib.hid (S.out.trans hcw)
  have HV : Hid (∀ W, Sees w1 W → (W.cell? ⟨wc.heap.size, 0, none⟩ = some (.slice a1 1 c1) ∧ W.cell? ⟨wc.heap.size, 1, none⟩ = some (.bool false)) ∧
      (W.cell? ⟨wc.heap.size + 1, 0, none⟩ = some (.slice a2 1 c2) ∧ W.cell? ⟨wc.heap.size + 1, 1, none⟩ = some (.bool false)) ∧
      (W.cell? ⟨wc.heap.size + 1 + 1, 0, none⟩ = some (.slice a3 1 c3) ∧ W.cell? ⟨wc.heap.size + 1 + 1, 1, none⟩ = some (.bool false)) ∧
      (W.cell? ⟨wc.heap.size + 1 + 1 + 1, 0, none⟩ = some (.slice none 0 0) ∧ W.cell? ⟨wc.heap.size + 1 + 1 + 1, 1, none⟩ = some (.bool false))) :=
    Lib.hid fun W hs => ⟨(X1.sees hs).c, (X2.sees hs).c, (X3.sees hs).c, (X4.sees hs).c⟩
  have HT : Hid (Tabs w1) := Lib.hid (Ht.out.sees S1.out)
  generalize wc.heap.size = B at *
  clear O1 O2 O3 X1 X2 X3 X4 hcw S Ht
  refine (hnew_s 2 _ (by decide) (by decide)).mono ?_
  rintro e W0 ⟨hb, rfl, P0⟩
  have H0 := Lib.hid P0
  obtain ⟨⟨p0, p1⟩, ⟨q0, q1⟩, ⟨x0, x1⟩, ⟨y0, y1⟩⟩ := HV.out _ H0.out.see
  clear P0
  go_wp2_with fail
  refine calls_world (fun X0 hX0 => ?_)
  have hsx : Sees W0 X0 := by subst hX0; exact (Sees.refl W0).alloc _
  have Hrow : Hid (X0.heap[W0.heap.size]? = some (.cells #[.slice a1 1 c1, .bool false, .slice a2 1 c2, .bool false] 40 (0, 0))) := Lib.hid (by subst hX0; exact heap_alloc_new _ _)
  have HX0 := Lib.hid (H0.out.sees hsx)
  clear hX0 hsx
  refine (HX0.out.push HT.out (fun c => c < w1.heap.size ∨ c = W0.heap.size) _ [⟨[one 97], false⟩, ⟨[one 98], false⟩] (lnrd_row (b := W0.heap.size) (cap := 2) [(.slice a1 1 c1, ⟨[one 97], false⟩), (.slice a2 1 c2, ⟨[one 98], false⟩)] Hrow.out (.inr rfl) (Nat.le_refl _) (by
    intro r hr
    simp only [List.mem_cons, List.not_mem_nil, or_false] at hr
    rcases hr with rfl | rfl
    · exact (R1.out.sees HX0.out.see).mono (fun _ _ h => .inl h)
    · exact (R2.out.sees HX0.out.see).mono (fun _ _ h => .inl h))) (fun c h => h.elim .inl (fun e => .inr (by rw [e]; exact H0.out.le))) (by intro l hl; simp only [List.mem_cons, List.not_mem_nil, or_false] at hl; rcases hl with rfl | rfl <;> kernel_rfl) (by decide) 0 rfl).mono ?_
  rintro e W1 ⟨rfl, hs, _⟩
  clear p0 p1 q0 q1 x0 x1 y0 y1
  have H1 : Hid (HiS w1 W1.heap.size W1 hb 2 0 [⟨[one 97], false⟩, ⟨[one 98], false⟩]) := Lib.hid hs
  clear hs H0
  obtain ⟨⟨p0, p1⟩, ⟨q0, q1⟩, ⟨x0, x1⟩, ⟨y0, y1⟩⟩ := HV.out _ H1.out.see
  go_wp2_with fail
  refine (H1.out.hi.hiFirst).mono ?_
  rintro e W2 ⟨rfl, hs⟩
  clear p0 p1 q0 q1 x0 x1 y0 y1
  have H2 := Lib.hid (H1.out.sees hs)
  clear hs H1
  obtain ⟨⟨p0, p1⟩, ⟨q0, q1⟩, ⟨x0, x1⟩, ⟨y0, y1⟩⟩ := HV.out _ H2.out.see
  go_wp2_with fail
  refine (H2.out.hi.hiNext 2 rfl).mono ?_
  rintro e W3 ⟨rfl, hs⟩
  clear p0 p1 q0 q1 x0 x1 y0 y1
  have H3 := Lib.hid (H2.out.sees hs)
  clear hs H2
  obtain ⟨⟨p0, p1⟩, ⟨q0, q1⟩, ⟨x0, x1⟩, ⟨y0, y1⟩⟩ := HV.out _ H3.out.see
  go_wp2_with fail
  refine calls_world (fun X3 hX3 => ?_)
  have hsx : Sees W3 X3 := by subst hX3; exact (Sees.refl W3).alloc _
  have Hrow : Hid (X3.heap[W3.heap.size]? = some (.cells #[.slice a3 1 c3, .bool false] 40 (0, 0))) := Lib.hid (by subst hX3; exact heap_alloc_new _ _)
  have HX3 := Lib.hid (H3.out.sees hsx)
  clear hX3 hsx
  refine (HX3.out.push HT.out (fun c => c < w1.heap.size ∨ c = W3.heap.size) _ [⟨[one 99], false⟩] (lnrd_row (b := W3.heap.size) (cap := 1) [(.slice a3 1 c3, ⟨[one 99], false⟩)] Hrow.out (.inr rfl) (Nat.le_refl _) (by
    intro r hr
    simp only [List.mem_cons, List.not_mem_nil, or_false] at hr
    rcases hr with rfl
    · exact (R3.out.sees HX3.out.see).mono (fun _ _ h => .inl h))) (fun c h => h.elim .inl (fun e => .inr (by rw [e]; exact H3.out.le))) (by intro l hl; simp only [List.mem_cons, List.not_mem_nil, or_false] at hl; rcases hl with rfl <;> kernel_rfl) (by decide) 1 rfl).mono ?_
  rintro e W4 ⟨rfl, hs, _⟩
  clear p0 p1 q0 q1 x0 x1 y0 y1
  have H4 : Hid (HiS w1 W4.heap.size W4 hb 2 1 [⟨[one 98], false⟩, ⟨[one 99], false⟩]) := Lib.hid hs
  clear hs H3
  obtain ⟨⟨p0, p1⟩, ⟨q0, q1⟩, ⟨x0, x1⟩, ⟨y0, y1⟩⟩ := HV.out _ H4.out.see
  go_wp2_with fail
  refine (H4.out.hi.hiFirst).mono ?_
  rintro e W5 ⟨rfl, hs⟩
  clear p0 p1 q0 q1 x0 x1 y0 y1
  have H5 := Lib.hid (H4.out.sees hs)
  clear hs H4
  obtain ⟨⟨p0, p1⟩, ⟨q0, q1⟩, ⟨x0, x1⟩, ⟨y0, y1⟩⟩ := HV.out _ H5.out.see
  go_wp2_with fail
  refine (H5.out.hi.hiLen 2 rfl).mono ?_
  rintro e W6 ⟨rfl, hs⟩
  clear p0 p1 q0 q1 x0 x1 y0 y1
  have H6 := Lib.hid (H5.out.sees hs)
  clear hs H5
  obtain ⟨⟨p0, p1⟩, ⟨q0, q1⟩, ⟨x0, x1⟩, ⟨y0, y1⟩⟩ := HV.out _ H6.out.see
  go_wp2_with fail
  refine (H6.out.gets 1 0 ⟨[one 98], false⟩ rfl rfl _ (R2.out.sees H6.out.see).rdCells).mono ?_
  rintro e W7 ⟨rfl, hs⟩
  clear p0 p1 q0 q1 x0 x1 y0 y1
  have H7 := Lib.hid (H6.out.sees hs)
  clear hs H6
  obtain ⟨⟨p0, p1⟩, ⟨q0, q1⟩, ⟨x0, x1⟩, ⟨y0, y1⟩⟩ := HV.out _ H7.out.see
  go_wp2_with fail
  refine (H7.out.gets_err 0 14 (by decide)).mono ?_
  rintro e W8 ⟨rfl, hs⟩
  clear p0 p1 q0 q1 x0 x1 y0 y1
  have H8 := Lib.hid (H7.out.sees hs)
  clear hs H7
  obtain ⟨⟨p0, p1⟩, ⟨q0, q1⟩, ⟨x0, x1⟩, ⟨y0, y1⟩⟩ := HV.out _ H8.out.see
  go_wp2_with fail
  refine (H8.out.gets_err 3 3 (by decide)).mono ?_
  rintro e W9 ⟨rfl, hs⟩
  clear p0 p1 q0 q1 x0 x1 y0 y1
  have H9 := Lib.hid (H8.out.sees hs)
  clear hs H8
  obtain ⟨⟨p0, p1⟩, ⟨q0, q1⟩, ⟨x0, x1⟩, ⟨y0, y1⟩⟩ := HV.out _ H9.out.see
  go_wp2_with fail
  refine wpFrom_go (by kernel_rfl) (by kernel_rfl) (fun hB W10 hs => ?_)
  clear p0 p1 q0 q1 x0 x1 y0 y1
  have H10 := Lib.hid (H9.out.sees hs)
  clear hs H9
  obtain ⟨⟨p0, p1⟩, ⟨q0, q1⟩, ⟨x0, x1⟩, ⟨y0, y1⟩⟩ := HV.out _ H10.out.see
  refine wpFrom_to 12 hB (fun _ _ _ _ _ h => h) (by kernel_rfl) (by simp only [List.cons_append, List.nil_append, List.drop_succ_cons, List.drop_zero, List.take_succ_cons, List.take_zero, Nat.reduceSub]; rfl) ?_
  go_wp2_with fail
  refine calls_world (fun X10 hX10 => ?_)
  have hsx : Sees W10 X10 := by subst hX10; exact (Sees.refl W10).alloc _
  have Hrow : Hid (X10.heap[W10.heap.size]? = some (.cells #[.slice a3 1 c3, .bool false] 40 (0, 0))) := Lib.hid (by subst hX10; exact heap_alloc_new _ _)
  have HX10 := Lib.hid (H10.out.sees hsx)
  clear hX10 hsx
  refine (HX10.out.pulls 1 (by decide) (by decide) [⟨[one 99], false⟩] rfl (fun c => c < w1.heap.size ∨ c = W10.heap.size) _ (lnrd_row (b := W10.heap.size) (cap := 1) [(.slice a3 1 c3, ⟨[one 99], false⟩)] Hrow.out (.inr rfl) (Nat.le_refl _) (by
    intro r hr
    simp only [List.mem_cons, List.not_mem_nil, or_false] at hr
    rcases hr with rfl
    · exact (R3.out.sees HX10.out.see).mono (fun _ _ h => .inl h))).rdl (fun c h => h.elim .inl (fun e => .inr (by rw [e]; exact H10.out.le)))).mono ?_
  rintro e W11 ⟨rfl, hs, _⟩
  clear p0 p1 q0 q1 x0 x1 y0 y1
  have H11 : Hid (HiS w1 W11.heap.size W11 hb 2 1 [⟨[one 98], false⟩]) := Lib.hid hs
  clear hs H10
  obtain ⟨⟨p0, p1⟩, ⟨q0, q1⟩, ⟨x0, x1⟩, ⟨y0, y1⟩⟩ := HV.out _ H11.out.see
  go_wp2_with fail
  refine (H11.out.hi.hiNext 2 rfl).mono ?_
  rintro e W12 ⟨rfl, hs⟩
  clear p0 p1 q0 q1 x0 x1 y0 y1
  have H12 := Lib.hid (H11.out.sees hs)
  clear hs H11
  obtain ⟨⟨p0, p1⟩, ⟨q0, q1⟩, ⟨x0, x1⟩, ⟨y0, y1⟩⟩ := HV.out _ H12.out.see
  go_wp2_with fail
  have hval : ∀ x v, (Spec.is x).val v = x := fun _ _ => rfl
  have hval2 : ∀ V v, (Spec.so V).val v = v := fun _ _ => rfl
  have hst : segStay (Sees W12) [.so (fun x W => lnEl.Own (fun c => W12.heap.size ≤ c) W x [⟨[one 98], false⟩]), .is (.agg #[.slice a2 1 c2, .bool false]), .so (fun x W => ∃ b, x = .slice (some ⟨b, 0, none⟩) 1 1 ∧ W.heap[b]? = some (.cells #[.slice a2 1 c2, .bool false] 40 (0, 0))), .so (fun x W => ∃ b, x = .slice (some ⟨b, 0, none⟩) 1 1 ∧ W.heap[b]? = some (.cells #[.slice a2 1 c2, .bool false] 40 (0, 0)))] :=
    ⟨fun u W W' _ h hs => h.sees hs, fun u W W' _ ⟨b, h1, h2⟩ hs => ⟨b, h1, by rw [hs.block _ (Array.getElem?_eq_some_iff.1 h2).1]; exact h2⟩, fun u W W' _ ⟨b, h1, h2⟩ hs => ⟨b, h1, by rw [hs.block _ (Array.getElem?_eq_some_iff.1 h2).1]; exact h2⟩, trivial⟩
  refine wpFrom_any 16 _ hB (by kernel_rfl) rfl hst (by simp only [List.cons_append, List.nil_append, List.drop_succ_cons, List.drop_zero, List.take_succ_cons, List.take_zero, Nat.reduceSub]; rfl) ?_
  refine ⟨fun vs W hI hV => .inl ⟨by clear hI hV hst; (try simp only [Act.put, hval, hval2, List.setIfInBounds_toArray, List.set_cons_zero, List.set_cons_succ]); go_simp, .inr (.inr ⟨19, #[.pointer (some ⟨hb, 0, none⟩)], by clear hI hV hst; (try simp only [Act.put, hval, hval2, List.setIfInBounds_toArray, List.set_cons_zero, List.set_cons_succ]); go_simp, ?_⟩)⟩, ?_⟩
  · refine ((H12.out.sees hI).hi.all).mono ?_
    rintro e w' ⟨v', rfl, ho, hs⟩
    exact ⟨v', rfl, rgGood_mk hst hI (ho.mono (fun b _ h => Nat.le_trans hI.size h)) hs⟩
  refine ⟨fun vs W hI hV => .inl ⟨by clear hI hV hst; (try simp only [Act.put, hval, hval2, List.setIfInBounds_toArray, List.set_cons_zero, List.set_cons_succ]); go_simp, .inl (by have q := HV.out _ (H12.out.see.trans hI); clear hI hV hst; obtain ⟨⟨q0, q1⟩, ⟨q2, q3⟩, ⟨q4, q5⟩, ⟨q6, q7⟩⟩ := q; (try simp only [Act.put, hval, hval2, List.setIfInBounds_toArray, List.set_cons_zero, List.set_cons_succ]); go_simp)⟩, ?_⟩
  refine ⟨fun vs W hI hV => .inl ⟨by clear hI hV hst; (try simp only [Act.put, hval, hval2, List.setIfInBounds_toArray, List.set_cons_zero, List.set_cons_succ]); go_simp, .inl ⟨.slice (some ⟨W.heap.size, 0, none⟩) 1 1, W.alloc (.cells #[.slice a2 1 c2, .bool false] 40), by clear hI hV hst; (try simp only [Act.put, hval, hval2, List.setIfInBounds_toArray, List.set_cons_zero, List.set_cons_succ]); go_simp, rgGood_mk hst hI ⟨_, rfl, heap_alloc_new _ _⟩ ((Sees.refl W).alloc _)⟩⟩, ?_⟩
  refine ⟨fun vs W hI hV => .inl ⟨by clear hI hV hst; (try simp only [Act.put, hval, hval2, List.setIfInBounds_toArray, List.set_cons_zero, List.set_cons_succ]); go_simp, .inr (.inr ⟨39, #[vs 14], by clear hI hV hst; (try simp only [Act.put, hval, hval2, List.setIfInBounds_toArray, List.set_cons_zero, List.set_cons_succ]); go_simp, ?_⟩)⟩, ?_⟩
  · obtain ⟨b, eb, hrow⟩ := hV 14 _ (by kernel_rfl) rfl
    refine (list31_any (vs 14) W).mono ?_
    rintro e w' ⟨rfl, hs⟩
    exact ⟨_, rfl, rgGood_mk hst hI ⟨b, eb, by rw [hs.block _ (Array.getElem?_eq_some_iff.1 hrow).1]; exact hrow⟩ hs⟩
  intro vs W13 hI hV
  obtain ⟨b12, eb, hrow⟩ := hV 15 _ rfl
  have hl : lnEl.Own (fun c => W12.heap.size ≤ c) W13 (vs 12) [⟨[one 98], false⟩] := hV 12 _ rfl
  obtain ⟨ao12, cc12, el, _⟩ := hl.slice
  have HL := Lib.hid hl
  have Hrow := Lib.hid hrow
  have H13 := Lib.hid (H12.out.sees hI)
  clear hl hrow hI hV hst H12
  clear p0 p1 q0 q1 x0 x1 y0 y1
  obtain ⟨⟨p0, p1⟩, ⟨q0, q1⟩, ⟨x0, x1⟩, ⟨y0, y1⟩⟩ := HV.out _ H13.out.see
  (try simp only [Act.put, hval, hval2, List.setIfInBounds_toArray, List.set_cons_zero, List.set_cons_succ])
  go_simp
  rw [el] at HL
  clear eb el hval hval2
  refine wpFrom_to 39 hB (fun _ _ _ _ _ h => h) (by kernel_rfl) (by simp only [List.cons_append, List.nil_append, List.drop_succ_cons, List.drop_zero, List.take_succ_cons, List.take_zero, Nat.reduceSub]; rfl) ?_
  go_wp2_with fail
  refine (all_true _ (fun _ => True) _ _ [⟨[one 98], false⟩] [⟨[one 98], false⟩] _ HL.out.rd.rdl (lnrd_row (b := b12) (cap := 1) [(.slice a2 1 c2, ⟨[one 98], false⟩)] Hrow.out trivial (Nat.le_refl _) (by
    intro r hr
    simp only [List.mem_cons, List.not_mem_nil, or_false] at hr
    rcases hr with rfl
    · exact (R2.out.sees H13.out.see).mono (fun _ _ h => trivial))).rdl (by decide) (by decide) rfl).mono ?_
  rintro e W14 ⟨rfl, hs⟩
  clear p0 p1 q0 q1 x0 x1 y0 y1
  have H14 := Lib.hid (H13.out.sees hs)
  clear hs H13
  obtain ⟨⟨p0, p1⟩, ⟨q0, q1⟩, ⟨x0, x1⟩, ⟨y0, y1⟩⟩ := HV.out _ H14.out.see
  clear HL Hrow
  go_wp2_with fail
  refine (H14.out.pulls_range 2 (by decide)).mono ?_
  rintro e W15 ⟨rfl, hs⟩
  clear p0 p1 q0 q1 x0 x1 y0 y1
  have H15 := Lib.hid (H14.out.sees hs)
  clear hs H14
  obtain ⟨⟨p0, p1⟩, ⟨q0, q1⟩, ⟨x0, x1⟩, ⟨y0, y1⟩⟩ := HV.out _ H15.out.see
  go_wp2_with fail
  refine calls_world (fun X15 hX15 => ?_)
  have hsx : Sees W15 X15 := by subst hX15; exact (Sees.refl W15).alloc _
  have Hrow : Hid (X15.heap[W15.heap.size]? = some (.cells #[.slice a1 1 c1, .bool false] 40 (0, 0))) := Lib.hid (by subst hX15; exact heap_alloc_new _ _)
  have HX15 := Lib.hid (H15.out.sees hsx)
  clear hX15 hsx
  refine (HX15.out.push HT.out (fun c => c < w1.heap.size ∨ c = W15.heap.size) _ [⟨[one 97], false⟩] (lnrd_row (b := W15.heap.size) (cap := 1) [(.slice a1 1 c1, ⟨[one 97], false⟩)] Hrow.out (.inr rfl) (Nat.le_refl _) (by
    intro r hr
    simp only [List.mem_cons, List.not_mem_nil, or_false] at hr
    rcases hr with rfl
    · exact (R1.out.sees HX15.out.see).mono (fun _ _ h => .inl h))) (fun c h => h.elim .inl (fun e => .inr (by rw [e]; exact H15.out.le))) (by intro l hl; simp only [List.mem_cons, List.not_mem_nil, or_false] at hl; rcases hl with rfl <;> kernel_rfl) (by decide) 0 rfl).mono ?_
  rintro e W16 ⟨rfl, hs, _⟩
  clear p0 p1 q0 q1 x0 x1 y0 y1
  have H16 : Hid (HiS w1 W16.heap.size W16 hb 2 1 [⟨[one 98], false⟩, ⟨[one 97], false⟩]) := Lib.hid hs
  clear hs H15
  obtain ⟨⟨p0, p1⟩, ⟨q0, q1⟩, ⟨x0, x1⟩, ⟨y0, y1⟩⟩ := HV.out _ H16.out.see
  go_wp2_with fail
  refine (H16.out.gets 2 1 ⟨[one 97], false⟩ rfl rfl _ (R1.out.sees H16.out.see).rdCells).mono ?_
  rintro e W17 ⟨rfl, hs⟩
  clear p0 p1 q0 q1 x0 x1 y0 y1
  have H17 := Lib.hid (H16.out.sees hs)
  clear hs H16
  obtain ⟨⟨p0, p1⟩, ⟨q0, q1⟩, ⟨x0, x1⟩, ⟨y0, y1⟩⟩ := HV.out _ H17.out.see
  go_wp2_with fail
  have hval : ∀ x v, (Spec.is x).val v = x := fun _ _ => rfl
  have hval2 : ∀ V v, (Spec.so V).val v = v := fun _ _ => rfl
  have hst : segStay (Sees W17) [.so (fun x W => lnEl.Own (fun c => W17.heap.size ≤ c) W x [⟨[one 97], false⟩]), .is (.agg #[.slice a1 1 c1, .bool false]), .so (fun x W => ∃ b, x = .slice (some ⟨b, 0, none⟩) 1 1 ∧ W.heap[b]? = some (.cells #[.slice a1 1 c1, .bool false] 40 (0, 0))), .so (fun x W => ∃ b, x = .slice (some ⟨b, 0, none⟩) 1 1 ∧ W.heap[b]? = some (.cells #[.slice a1 1 c1, .bool false] 40 (0, 0)))] :=
    ⟨fun u W W' _ h hs => h.sees hs, fun u W W' _ ⟨b, h1, h2⟩ hs => ⟨b, h1, by rw [hs.block _ (Array.getElem?_eq_some_iff.1 h2).1]; exact h2⟩, fun u W W' _ ⟨b, h1, h2⟩ hs => ⟨b, h1, by rw [hs.block _ (Array.getElem?_eq_some_iff.1 h2).1]; exact h2⟩, trivial⟩
  refine wpFrom_any 43 _ hB (by kernel_rfl) rfl hst (by simp only [List.cons_append, List.nil_append, List.drop_succ_cons, List.drop_zero, List.take_succ_cons, List.take_zero, Nat.reduceSub]; rfl) ?_
  refine ⟨fun vs W hI hV => .inl ⟨by clear hI hV hst; (try simp only [Act.put, hval, hval2, List.setIfInBounds_toArray, List.set_cons_zero, List.set_cons_succ]); go_simp, .inr (.inr ⟨20, #[.pointer (some ⟨hb, 0, none⟩), .int .i64 1], by clear hI hV hst; (try simp only [Act.put, hval, hval2, List.setIfInBounds_toArray, List.set_cons_zero, List.set_cons_succ]); go_simp, ?_⟩)⟩, ?_⟩
  · refine ((H17.out.sees hI).hi.last 1 (by decide)).mono ?_
    rintro e w' ⟨v', rfl, ho, hs⟩
    exact ⟨v', rfl, rgGood_mk hst hI (ho.mono (fun b _ h => Nat.le_trans hI.size h)) hs⟩
  refine ⟨fun vs W hI hV => .inl ⟨by clear hI hV hst; (try simp only [Act.put, hval, hval2, List.setIfInBounds_toArray, List.set_cons_zero, List.set_cons_succ]); go_simp, .inl (by have q := HV.out _ (H17.out.see.trans hI); clear hI hV hst; obtain ⟨⟨q0, q1⟩, ⟨q2, q3⟩, ⟨q4, q5⟩, ⟨q6, q7⟩⟩ := q; (try simp only [Act.put, hval, hval2, List.setIfInBounds_toArray, List.set_cons_zero, List.set_cons_succ]); go_simp)⟩, ?_⟩
  refine ⟨fun vs W hI hV => .inl ⟨by clear hI hV hst; (try simp only [Act.put, hval, hval2, List.setIfInBounds_toArray, List.set_cons_zero, List.set_cons_succ]); go_simp, .inl ⟨.slice (some ⟨W.heap.size, 0, none⟩) 1 1, W.alloc (.cells #[.slice a1 1 c1, .bool false] 40), by clear hI hV hst; (try simp only [Act.put, hval, hval2, List.setIfInBounds_toArray, List.set_cons_zero, List.set_cons_succ]); go_simp, rgGood_mk hst hI ⟨_, rfl, heap_alloc_new _ _⟩ ((Sees.refl W).alloc _)⟩⟩, ?_⟩
  refine ⟨fun vs W hI hV => .inl ⟨by clear hI hV hst; (try simp only [Act.put, hval, hval2, List.setIfInBounds_toArray, List.set_cons_zero, List.set_cons_succ]); go_simp, .inr (.inr ⟨39, #[vs 41], by clear hI hV hst; (try simp only [Act.put, hval, hval2, List.setIfInBounds_toArray, List.set_cons_zero, List.set_cons_succ]); go_simp, ?_⟩)⟩, ?_⟩
  · obtain ⟨b, eb, hrow⟩ := hV 41 _ (by kernel_rfl) rfl
    refine (list31_any (vs 41) W).mono ?_
    rintro e w' ⟨rfl, hs⟩
    exact ⟨_, rfl, rgGood_mk hst hI ⟨b, eb, by rw [hs.block _ (Array.getElem?_eq_some_iff.1 hrow).1]; exact hrow⟩ hs⟩
  intro vs W18 hI hV
  obtain ⟨b17, eb, hrow⟩ := hV 42 _ rfl
  have hl : lnEl.Own (fun c => W17.heap.size ≤ c) W18 (vs 39) [⟨[one 97], false⟩] := hV 39 _ rfl
  obtain ⟨ao17, cc17, el, _⟩ := hl.slice
  have HL := Lib.hid hl
  have Hrow := Lib.hid hrow
  have H18 := Lib.hid (H17.out.sees hI)
  clear hl hrow hI hV hst H17
  clear p0 p1 q0 q1 x0 x1 y0 y1
  obtain ⟨⟨p0, p1⟩, ⟨q0, q1⟩, ⟨x0, x1⟩, ⟨y0, y1⟩⟩ := HV.out _ H18.out.see
  (try simp only [Act.put, hval, hval2, List.setIfInBounds_toArray, List.set_cons_zero, List.set_cons_succ])
  go_simp
  rw [el] at HL
  clear eb el hval hval2
  refine wpFrom_to 48 hB (fun _ _ _ _ _ h => h) (by kernel_rfl) (by simp only [List.cons_append, List.nil_append, List.drop_succ_cons, List.drop_zero, List.take_succ_cons, List.take_zero, Nat.reduceSub]; rfl) ?_
  go_wp2_with fail
  refine (all_true _ (fun _ => True) _ _ [⟨[one 97], false⟩] [⟨[one 97], false⟩] _ HL.out.rd.rdl (lnrd_row (b := b17) (cap := 1) [(.slice a1 1 c1, ⟨[one 97], false⟩)] Hrow.out trivial (Nat.le_refl _) (by
    intro r hr
    simp only [List.mem_cons, List.not_mem_nil, or_false] at hr
    rcases hr with rfl
    · exact (R1.out.sees H18.out.see).mono (fun _ _ h => trivial))).rdl (by decide) (by decide) rfl).mono ?_
  rintro e W19 ⟨rfl, hs⟩
  clear p0 p1 q0 q1 x0 x1 y0 y1
  have H19 := Lib.hid (H18.out.sees hs)
  clear hs H18
  obtain ⟨⟨p0, p1⟩, ⟨q0, q1⟩, ⟨x0, x1⟩, ⟨y0, y1⟩⟩ := HV.out _ H19.out.see
  clear HL Hrow
  go_wp2_with fail
  have hval : ∀ x v, (Spec.is x).val v = x := fun _ _ => rfl
  have hval2 : ∀ V v, (Spec.so V).val v = v := fun _ _ => rfl
  have hst : segStay (Sees W19) [.so (fun x W => lnEl.Own (fun c => W19.heap.size ≤ c) W x [⟨[one 98], false⟩, ⟨[one 97], false⟩]), .is (.agg #[.slice a2 1 c2, .bool false]), .is (.agg #[.slice a1 1 c1, .bool false]), .so (fun x W => ∃ b, x = .slice (some ⟨b, 0, none⟩) 2 2 ∧ W.heap[b]? = some (.cells #[.slice a2 1 c2, .bool false, .slice a1 1 c1, .bool false] 40 (0, 0))), .so (fun x W => ∃ b, x = .slice (some ⟨b, 0, none⟩) 2 2 ∧ W.heap[b]? = some (.cells #[.slice a2 1 c2, .bool false, .slice a1 1 c1, .bool false] 40 (0, 0)))] :=
    ⟨fun u W W' _ h hs => h.sees hs, fun u W W' _ ⟨b, h1, h2⟩ hs => ⟨b, h1, by rw [hs.block _ (Array.getElem?_eq_some_iff.1 h2).1]; exact h2⟩, fun u W W' _ ⟨b, h1, h2⟩ hs => ⟨b, h1, by rw [hs.block _ (Array.getElem?_eq_some_iff.1 h2).1]; exact h2⟩, trivial⟩
  refine wpFrom_any 53 _ hB (by kernel_rfl) rfl hst (by simp only [List.cons_append, List.nil_append, List.drop_succ_cons, List.drop_zero, List.take_succ_cons, List.take_zero, Nat.reduceSub]; rfl) ?_
  refine ⟨fun vs W hI hV => .inl ⟨by clear hI hV hst; (try simp only [Act.put, hval, hval2, List.setIfInBounds_toArray, List.set_cons_zero, List.set_cons_succ]); go_simp, .inr (.inr ⟨20, #[.pointer (some ⟨hb, 0, none⟩), .int .i64 5], by clear hI hV hst; (try simp only [Act.put, hval, hval2, List.setIfInBounds_toArray, List.set_cons_zero, List.set_cons_succ]); go_simp, ?_⟩)⟩, ?_⟩
  · refine ((H19.out.sees hI).hi.last 5 (by decide)).mono ?_
    rintro e w' ⟨v', rfl, ho, hs⟩
    exact ⟨v', rfl, rgGood_mk hst hI (ho.mono (fun b _ h => Nat.le_trans hI.size h)) hs⟩
  refine ⟨fun vs W hI hV => .inl ⟨by clear hI hV hst; (try simp only [Act.put, hval, hval2, List.setIfInBounds_toArray, List.set_cons_zero, List.set_cons_succ]); go_simp, .inl (by have q := HV.out _ (H19.out.see.trans hI); clear hI hV hst; obtain ⟨⟨q0, q1⟩, ⟨q2, q3⟩, ⟨q4, q5⟩, ⟨q6, q7⟩⟩ := q; (try simp only [Act.put, hval, hval2, List.setIfInBounds_toArray, List.set_cons_zero, List.set_cons_succ]); go_simp)⟩, ?_⟩
  refine ⟨fun vs W hI hV => .inl ⟨by clear hI hV hst; (try simp only [Act.put, hval, hval2, List.setIfInBounds_toArray, List.set_cons_zero, List.set_cons_succ]); go_simp, .inl (by have q := HV.out _ (H19.out.see.trans hI); clear hI hV hst; obtain ⟨⟨q0, q1⟩, ⟨q2, q3⟩, ⟨q4, q5⟩, ⟨q6, q7⟩⟩ := q; (try simp only [Act.put, hval, hval2, List.setIfInBounds_toArray, List.set_cons_zero, List.set_cons_succ]); go_simp)⟩, ?_⟩
  refine ⟨fun vs W hI hV => .inl ⟨by clear hI hV hst; (try simp only [Act.put, hval, hval2, List.setIfInBounds_toArray, List.set_cons_zero, List.set_cons_succ]); go_simp, .inl ⟨.slice (some ⟨W.heap.size, 0, none⟩) 2 2, W.alloc (.cells #[.slice a2 1 c2, .bool false, .slice a1 1 c1, .bool false] 40), by clear hI hV hst; (try simp only [Act.put, hval, hval2, List.setIfInBounds_toArray, List.set_cons_zero, List.set_cons_succ]); go_simp, rgGood_mk hst hI ⟨_, rfl, heap_alloc_new _ _⟩ ((Sees.refl W).alloc _)⟩⟩, ?_⟩
  refine ⟨fun vs W hI hV => .inl ⟨by clear hI hV hst; (try simp only [Act.put, hval, hval2, List.setIfInBounds_toArray, List.set_cons_zero, List.set_cons_succ]); go_simp, .inr (.inr ⟨39, #[vs 51], by clear hI hV hst; (try simp only [Act.put, hval, hval2, List.setIfInBounds_toArray, List.set_cons_zero, List.set_cons_succ]); go_simp, ?_⟩)⟩, ?_⟩
  · obtain ⟨b, eb, hrow⟩ := hV 51 _ (by kernel_rfl) rfl
    refine (list31_any (vs 51) W).mono ?_
    rintro e w' ⟨rfl, hs⟩
    exact ⟨_, rfl, rgGood_mk hst hI ⟨b, eb, by rw [hs.block _ (Array.getElem?_eq_some_iff.1 hrow).1]; exact hrow⟩ hs⟩
  intro vs W20 hI hV
  obtain ⟨b19, eb, hrow⟩ := hV 52 _ rfl
  have hl : lnEl.Own (fun c => W19.heap.size ≤ c) W20 (vs 48) [⟨[one 98], false⟩, ⟨[one 97], false⟩] := hV 48 _ rfl
  obtain ⟨ao19, cc19, el, _⟩ := hl.slice
  have HL := Lib.hid hl
  have Hrow := Lib.hid hrow
  have H20 := Lib.hid (H19.out.sees hI)
  clear hl hrow hI hV hst H19
  clear p0 p1 q0 q1 x0 x1 y0 y1
  obtain ⟨⟨p0, p1⟩, ⟨q0, q1⟩, ⟨x0, x1⟩, ⟨y0, y1⟩⟩ := HV.out _ H20.out.see
  (try simp only [Act.put, hval, hval2, List.setIfInBounds_toArray, List.set_cons_zero, List.set_cons_succ])
  go_simp
  rw [el] at HL
  clear eb el hval hval2
  refine wpFrom_to 56 hB (fun _ _ _ _ _ h => h) (by kernel_rfl) (by simp only [List.cons_append, List.nil_append, List.drop_succ_cons, List.drop_zero, List.take_succ_cons, List.take_zero, Nat.reduceSub]; rfl) ?_
  go_wp2_with fail
  refine (all_true _ (fun _ => True) _ _ [⟨[one 98], false⟩, ⟨[one 97], false⟩] [⟨[one 98], false⟩, ⟨[one 97], false⟩] _ HL.out.rd.rdl (lnrd_row (b := b19) (cap := 2) [(.slice a2 1 c2, ⟨[one 98], false⟩), (.slice a1 1 c1, ⟨[one 97], false⟩)] Hrow.out trivial (Nat.le_refl _) (by
    intro r hr
    simp only [List.mem_cons, List.not_mem_nil, or_false] at hr
    rcases hr with rfl | rfl
    · exact (R2.out.sees H20.out.see).mono (fun _ _ h => trivial)
    · exact (R1.out.sees H20.out.see).mono (fun _ _ h => trivial))).rdl (by decide) (by decide) rfl).mono ?_
  rintro e W21 ⟨rfl, hs⟩
  clear p0 p1 q0 q1 x0 x1 y0 y1
  have H21 := Lib.hid (H20.out.sees hs)
  clear hs H20
  obtain ⟨⟨p0, p1⟩, ⟨q0, q1⟩, ⟨x0, x1⟩, ⟨y0, y1⟩⟩ := HV.out _ H21.out.see
  clear HL Hrow
  go_wp2_with fail
  refine wpFrom_end rfl ?_
  clear hB
  go_wp2_with fail
  refine calls_world (fun X21 hX21 => ?_)
  have hsx : Sees W21 X21 := by subst hX21; exact (Sees.refl W21).alloc _
  have Hrow : Hid (X21.heap[W21.heap.size]? = some (.cells #[.slice a3 1 c3, .bool false] 40 (0, 0))) := Lib.hid (by subst hX21; exact heap_alloc_new _ _)
  have HX21 := Lib.hid (H21.out.sees hsx)
  clear hX21 hsx
  refine (list31_any _ X21).mono ?_
  rintro e Y21 ⟨rfl, hs⟩
  have HY21 := Lib.hid (HX21.out.sees hs)
  have HrowY := Lib.hid (show Y21.heap[W21.heap.size]? = some (.cells #[.slice a3 1 c3, .bool false] 40 (0, 0)) by rw [hs.block _ (Array.getElem?_eq_some_iff.1 Hrow.out).1]; exact Hrow.out)
  clear hs
  go_wp2_with fail
  refine (HY21.out.replace HT.out (fun c => c < w1.heap.size ∨ c = W21.heap.size) _ [⟨[one 99], false⟩] (lnrd_row (b := W21.heap.size) (cap := 1) [(.slice a3 1 c3, ⟨[one 99], false⟩)] HrowY.out (.inr rfl) (Nat.le_refl _) (by
    intro r hr
    simp only [List.mem_cons, List.not_mem_nil, or_false] at hr
    rcases hr with rfl
    · exact (R3.out.sees HY21.out.see).mono (fun _ _ h => .inl h))) (fun c h => h.elim .inl (fun e => .inr (by rw [e]; exact H21.out.le))) (by intro l hl; simp only [List.mem_cons, List.not_mem_nil, or_false] at hl; rcases hl with rfl <;> kernel_rfl) (by decide) 0 rfl).mono ?_
  rintro e W22 ⟨rfl, hs, _⟩
  clear p0 p1 q0 q1 x0 x1 y0 y1
  have H22 : Hid (HiS w1 W22.heap.size W22 hb 2 1 [⟨[one 99], false⟩]) := Lib.hid hs
  clear hs H21
  obtain ⟨⟨p0, p1⟩, ⟨q0, q1⟩, ⟨x0, x1⟩, ⟨y0, y1⟩⟩ := HV.out _ H22.out.see
  go_wp2_with fail
  refine (H22.out.hi.hiFirst).mono ?_
  rintro e W23 ⟨rfl, hs⟩
  clear p0 p1 q0 q1 x0 x1 y0 y1
  have H23 := Lib.hid (H22.out.sees hs)
  clear hs H22
  obtain ⟨⟨p0, p1⟩, ⟨q0, q1⟩, ⟨x0, x1⟩, ⟨y0, y1⟩⟩ := HV.out _ H23.out.see
  go_wp2_with fail
  refine (H23.out.hi.hiNext 2 rfl).mono ?_
  rintro e W24 ⟨rfl, hs⟩
  clear p0 p1 q0 q1 x0 x1 y0 y1
  have H24 := Lib.hid (H23.out.sees hs)
  clear hs H23
  obtain ⟨⟨p0, p1⟩, ⟨q0, q1⟩, ⟨x0, x1⟩, ⟨y0, y1⟩⟩ := HV.out _ H24.out.see
  go_wp2_with fail
  refine (H24.out.clear 2 rfl).mono ?_
  rintro e W25 ⟨rfl, hs, _⟩
  clear p0 p1 q0 q1 x0 x1 y0 y1
  have H25 : Hid (HiS w1 W25.heap.size W25 hb 2 2 []) := Lib.hid hs
  clear hs H24
  obtain ⟨⟨p0, p1⟩, ⟨q0, q1⟩, ⟨x0, x1⟩, ⟨y0, y1⟩⟩ := HV.out _ H25.out.see
  go_wp2_with fail
  refine (hnew_s 0 _ (by decide) (by decide)).mono ?_
  rintro e Y0 ⟨hc, rfl, P0⟩
  clear p0 p1 q0 q1 x0 x1 y0 y1
  have K0 := Lib.hid P0
  have HA0 := Lib.hid (H25.out.sees P0.see)
  clear P0
  go_wp2_with fail
  refine (hnew_bad (-1) _ (by decide)).mono ?_
  rintro e Y1 ⟨rfl, hs⟩
  have K1 := Lib.hid (K0.out.sees hs)
  have HA1 := Lib.hid (HA0.out.sees hs)
  clear hs K0 HA0
  go_wp2_with fail
  refine (HA1.out.hi.hiFirst).mono ?_
  rintro e Y2 ⟨rfl, hs⟩
  have K2 := Lib.hid (K1.out.sees hs)
  have HA2 := Lib.hid (HA1.out.sees hs)
  clear hs K1 HA1
  go_wp2_with fail
  refine (HA2.out.hi.hiLen 0 rfl).mono ?_
  rintro e Y3 ⟨rfl, hs⟩
  have K3 := Lib.hid (K2.out.sees hs)
  have hsy := K3.out.see
  have S2 := Lib.hid (H25.out.see.trans hsy)
  obtain ⟨⟨p0, p1⟩, ⟨q0, q1⟩, ⟨x0, x1⟩, ⟨y0, y1⟩⟩ := HV.out _ (H25.out.see.trans hsy)
  clear hs K2 HA2 hsy
  go_wp2_with fail
  refine calls_world (fun X hX => ?_)
  have hsx : Sees Y3 X := by subst hX; exact (Sees.refl Y3).alloc _
  have Hrow : Hid (X.heap[Y3.heap.size]? = some (.cells #[.slice a1 1 c1, .bool false] 40 (0, 0))) := Lib.hid (by subst hX; exact heap_alloc_new _ _)
  have KX := Lib.hid (K3.out.sees hsx)
  have SX := Lib.hid (S2.out.trans hsx)
  clear p0 p1 q0 q1 x0 x1 y0 y1
  clear hX hsx
  refine (KX.out.push (HT.out.sees H25.out.see) (fun c => c < W25.heap.size ∨ c = Y3.heap.size) _ [⟨[one 97], false⟩] (lnrd_row (b := Y3.heap.size) (cap := 1) [(.slice a1 1 c1, ⟨[one 97], false⟩)] Hrow.out (.inr rfl) (Nat.le_refl _) (by
    intro r hr
    simp only [List.mem_cons, List.not_mem_nil, or_false] at hr
    rcases hr with rfl
    · exact (R1.out.sees SX.out).mono (fun _ _ h => .inl (Nat.lt_of_lt_of_le h H25.out.see.size)))) (fun c h => h.elim .inl (fun e => .inr (by rw [e]; exact K3.out.le))) (by intro l hl; simp only [List.mem_cons, List.not_mem_nil, or_false] at hl; rcases hl with rfl <;> kernel_rfl) (by decide) 1 rfl).mono ?_
  rintro e Y4 ⟨rfl, hs, _⟩
  have K4 : Hid (HiS W25 Y4.heap.size Y4 hc 0 1 []) := Lib.hid hs
  clear hs
  go_wp2_with fail
  refine (K4.out.hi.hiFirst).mono ?_
  rintro e Y5 ⟨rfl, hs⟩
  have K5 := Lib.hid (K4.out.sees hs)
  clear hs
  go_wp2_with fail
  refine (K5.out.hi.hiLen 0 rfl).mono ?_
  rintro e Y6 ⟨rfl, hs⟩
  have K6 := Lib.hid (K5.out.sees hs)
  clear hs
  go_wp2
  go_ret
  exact ⟨by simp, S1.out.trans (H25.out.see.trans K6.out.see)⟩
end Go.Proofs.YtpicffaghoggdaaDoor
