/- scrollbacklaw20.does: one call, with both sides. No condition. -/
import Derived.Test.YtdblmoaimghplaaTbN
namespace Go.Proofs.Ytdblmoaimghplaa
set_option linter.unusedVariables false
set_option linter.unusedSimpArgs false
open Go.RowKit Go.Maps

/-- A call in memory. -/
def AcAt (W : World) (b : Nat) (x a n : Int) : Prop := W.heap[b]? = some (.cells #[i64 x, i64 a, i64 n] 32 (0, 0))
namespace AcAt
variable {W W' : World} {b : Nat} {x a n : Int}
theorem new (W : World) (x a n : Int) : AcAt (W.alloc (.cells #[i64 x, i64 a, i64 n] 32)) W.heap.size x a n := heap_alloc_new W _
theorem sees (h : AcAt W b x a n) (hs : Sees W W') : AcAt W' b x a n := by
  unfold AcAt at *
  rw [hs.block b (Array.getElem?_eq_some_iff.1 h).1, h]
theorem keeps {F : Nat → Prop} (h : AcAt W b x a n) (hk : Keeps F W W') (hF : ¬ F b) : AcAt W' b x a n := hk.row hF h
theorem cs (h : AcAt W b x a n) : W.cell? ⟨b, 0, none⟩ = some (i64 x) ∧ W.cell? ⟨b, 1, none⟩ = some (i64 a) ∧ W.cell? ⟨b, 2, none⟩ = some (i64 n) := by
  refine ⟨?_, ?_, ?_⟩ <;> rw [Go.cell_of_row W b _ _ _ _ h] <;> rfl
end AcAt
/-- Both sides. -/
structure Two (W : World) (p mb q b : Nat) (L : List Bool) : Prop where
  sp : SpAt W p mb L
  rf : RfAt W q b L
  n1 : p ≠ q
  n2 : p ≠ b
  n3 : mb ≠ q
  n4 : mb ≠ b
namespace Two
variable {W W' : World} {p mb q b : Nat} {L : List Bool}
theorem sees (h : Two W p mb q b L) (hs : Sees W W') : Two W' p mb q b L := ⟨h.sp.sees hs, h.rf.sees hs, h.n1, h.n2, h.n3, h.n4⟩
end Two
theorem RfAt.put {W : World} {q b : Nat} {L : List Bool} (h : RfAt W q b L) (i : Nat) (v : Bool) : RfAt (W.setCell ⟨b, i, none⟩ (.bool v)) q b (L.set i v) := by
  obtain ⟨cap, e1, e2⟩ := h.all
  refine ⟨⟨cap, ?_, ?_⟩, h.ne, by rw [List.length_set]; exact h.len⟩
  · rw [List.length_set, heap_setCell_other _ _ _ _ h.ne]
    exact e1
  · rw [List.length_set, List.map_set]
    exact (e2.stored i (.bool v)).1
theorem RfAt.turn {W : World} {q b q2 b2 : Nat} {L L2 : List Bool} (h : RfAt W q b L) (h2 : RfAt W q2 b2 L2) (hne : q ≠ b2) : ∃ cap, W.cell? ⟨q2, 0, none⟩ = some (.slice (some ⟨b2, 0, none⟩) L2.length cap) ∧ RfAt (W.setCell ⟨q, 0, none⟩ (.slice (some ⟨b2, 0, none⟩) L2.length cap)) q b2 L2 := by
  obtain ⟨cap, e1, e2⟩ := h2.all
  obtain ⟨cap0, e3, _⟩ := h.all
  exact ⟨cap, by rw [Go.cell_of_row W q2 0 _ _ _ e1]; rfl, ⟨cap, heap_setCell_same _ _ _ _ _ _ e3, row_keeps e2 ((Keeps.refl (fun c => c = q) W).setCell (p := ⟨q, 0, none⟩) (fun _ => rfl) _) (fun g hg => by cases hg; exact fun e => hne e.symm)⟩, hne, h2.len⟩
def offTo (L : List Bool) (k : Nat) : List Bool := List.replicate k false ++ L.drop k
theorem offTo_length {L : List Bool} {k : Nat} (h : k ≤ L.length) : (offTo L k).length = L.length := by
  unfold offTo
  rw [List.length_append, List.length_replicate, List.length_drop]
  omega
theorem offTo_step {L : List Bool} {k : Nat} (h : k < L.length) : (offTo L k).set k false = offTo L (k + 1) := by
  unfold offTo
  rw [List.set_append_right _ _ (by simp), List.length_replicate, Nat.sub_self, List.drop_eq_getElem_cons h, List.set_cons_zero, List.replicate_succ', List.append_assoc]
  rfl
theorem offTo_end (L : List Bool) : offTo L L.length = List.replicate L.length false := by
  unfold offTo
  rw [List.drop_length, List.append_nil]
/-- What a call gives. -/
def DoesP (w : World) (p mb q b : Nat) (e : Ending) (w' : World) : Prop := e = .returned (.bool true) ∧ (∃ L' b', (b' = b ∨ w.heap.size ≤ b') ∧ Two w' p mb q b' L') ∧ Keeps (fun c => c = p ∨ c = mb ∨ c = q ∨ c = b) w w'
section
variable {w : World} {p mb q b : Nat} {L : List Bool}
set_option maxHeartbeats 8000000 in
set_option maxRecDepth 100000 in
theorem does_set (h : Two w p mb q b L) (n : Int) (i : Nat) (hi : i < L.length) : Calls Try.prog 11 #[ptr p, ptr q, .agg #[i64 0, i64 (i : Int), i64 n]] w (DoesP w p mb q b) := by
  have t1 : decide ((i : Int) ≥ 0) = true := decide_eq_true (by omega)
  have t1' : decide (0 ≤ (i : Int)) = true := decide_eq_true (by omega)
  have t2 : decide ((i : Int) < (L.length : Int)) = true := decide_eq_true (by omega)
  have A0 := AcAt.new w 0 (i : Int) n
  have hs0 := (Sees.refl w).alloc (.cells #[i64 0, i64 (i : Int), i64 n] 32)
  have H0 := h.sees hs0
  obtain ⟨c0, c1, c2⟩ := A0.cs
  obtain ⟨cap, x00, hcap⟩ := H0.rf.cs
  have hll := h.sp.2
  have hbx : p < w.heap.size ∧ mb < w.heap.size ∧ q < w.heap.size ∧ b < w.heap.size := ⟨h.sp.1.lt, h.sp.1.mlt, h.rf.lt, h.rf.blt⟩
  go_enter Try.func11, Try.ntmps11
  go_wp2_with fail
  go_quiet (fail)
  have hs1 : Sees w _ := below_drewN hs0 nq
  have A1 := A0.sees (below_drewN (Sees.refl _) nq)
  have H1 := H0.sees (below_drewN (Sees.refl _) nq)
  have x0 := Sees.cell (below_drewN (Sees.refl _) nq) x00
  obtain ⟨bx, hbxe⟩ : ∃ bx, bx = w.heap.size := ⟨_, rfl⟩
  rw [← hbxe] at A1 ⊢
  replace hbxe := Lib.hid hbxe
  generalize (w.alloc (.cells #[i64 0, i64 (i : Int), i64 n] 32)).drewN nq = W1 at hs1 A1 H1 x0 ⊢
  clear c0 c1 c2 x00 hs0 H0 A0 h
  obtain ⟨c0, c1, c2⟩ := A1.cs
  have hS1 := Lib.hid hs1
  have HA := Lib.hid A1
  have HT := Lib.hid H1
  clear hs1 A1 H1
  go_wp2_with fail
  refine wpFrom_go (by kernel_rfl) (by kernel_rfl) (fun hB w2 hw2 => ?_)
  have hval : ∀ x v, (Spec.is x).val v = x := fun _ _ => rfl
  have hval2 : ∀ V v, (Spec.so V).val v = v := fun _ _ => rfl
  have hst : segStay (Sees w2) [.is (ptr q), .is (ptr q), .is (ptr q), .is (.slice (some ⟨b, 0, none⟩) L.length cap), .is (.pointer (some ⟨bx, 1, none⟩)), .is (i64 (i : Int)), .is (.pointer (some ⟨bx, 0, none⟩)), .is (i64 0), .is (.bool true), .is (.pointer (some ⟨b, i, none⟩))] := trivial
  refine wpFrom_any 10 _ hB (by kernel_rfl) rfl hst (by simp only [List.cons_append, List.nil_append, List.drop_succ_cons, List.drop_zero, List.take_succ_cons, List.take_zero, Nat.reduceSub]; rfl) ?_
  refine ⟨fun vs W hI hV => .inl ⟨by clear hI hV hst; go_simp, .inl (by clear hI hV hst; (try simp only [Act.put, hval, hval2, List.setIfInBounds_toArray, List.set_cons_zero, List.set_cons_succ]); go_simp)⟩, ?_⟩
  refine ⟨fun vs W hI hV => .inl ⟨by clear hI hV hst; go_simp, .inl (by clear hI hV hst; (try simp only [Act.put, hval, hval2, List.setIfInBounds_toArray, List.set_cons_zero, List.set_cons_succ]); go_simp)⟩, ?_⟩
  refine ⟨fun vs W hI hV => .inl ⟨by clear hI hV hst; go_simp, .inl (by clear hI hV hst; (try simp only [Act.put, hval, hval2, List.setIfInBounds_toArray, List.set_cons_zero, List.set_cons_succ]); go_simp)⟩, ?_⟩
  refine ⟨fun vs W hI hV => .inl ⟨by clear hI hV hst; go_simp, .inl (by have q0 := Sees.cell (hw2.trans hI) x0; clear hI hV hst; (try simp only [Act.put, hval, hval2, List.setIfInBounds_toArray, List.set_cons_zero, List.set_cons_succ]); go_simp)⟩, ?_⟩
  refine ⟨fun vs W hI hV => .inl ⟨by clear hI hV hst; go_simp, .inl (by clear hI hV hst; (try simp only [Act.put, hval, hval2, List.setIfInBounds_toArray, List.set_cons_zero, List.set_cons_succ]); go_simp)⟩, ?_⟩
  refine ⟨fun vs W hI hV => .inl ⟨by clear hI hV hst; go_simp, .inl (by have q0 := Sees.cell (hw2.trans hI) c1; clear hI hV hst; (try simp only [Act.put, hval, hval2, List.setIfInBounds_toArray, List.set_cons_zero, List.set_cons_succ]); go_simp)⟩, ?_⟩
  refine ⟨fun vs W hI hV => .inl ⟨by clear hI hV hst; go_simp, .inl (by clear hI hV hst; (try simp only [Act.put, hval, hval2, List.setIfInBounds_toArray, List.set_cons_zero, List.set_cons_succ]); go_simp)⟩, ?_⟩
  refine ⟨fun vs W hI hV => .inl ⟨by clear hI hV hst; go_simp, .inl (by have q0 := Sees.cell (hw2.trans hI) c0; clear hI hV hst; (try simp only [Act.put, hval, hval2, List.setIfInBounds_toArray, List.set_cons_zero, List.set_cons_succ]); go_simp)⟩, ?_⟩
  refine ⟨fun vs W hI hV => .inl ⟨by clear hI hV hst; go_simp, .inl (by clear hI hV hst; (try simp only [Act.put, hval, hval2, List.setIfInBounds_toArray, List.set_cons_zero, List.set_cons_succ]); go_simp)⟩, ?_⟩
  refine ⟨fun vs W hI hV => .inl ⟨by clear hI hV hst; go_simp, .inl (by clear hI hV hst; (try simp only [Act.put, hval, hval2, List.setIfInBounds_toArray, List.set_cons_zero, List.set_cons_succ]); go_simp)⟩, ?_⟩
  intro vs W hI hV
  have HS := Lib.hid (hS1.out.trans (hw2.trans hI))
  have HT2 := Lib.hid (HT.out.sees (hw2.trans hI))
  have HA2 := Lib.hid (HA.out.sees (hw2.trans hI))
  have fb := HT2.out.rf.bfr i
  have xb := HT2.out.rf.rd hi
  clear hV hI hst hw2 c0 c1 c2 x0 HT HA hS1
  obtain ⟨c0, c1, c2⟩ := HA2.out.cs
  go_simp
  refine wpFrom_to 11 hB (fun _ _ _ _ _ h => h) (by kernel_rfl) (by simp only [List.cons_append, List.nil_append, List.drop_succ_cons, List.drop_zero, List.take_succ_cons, List.take_zero, Nat.reduceSub]; rfl) ?_
  go_wp2
  refine wpFrom_end rfl ?_
  have hK := Lib.hid (((Keeps.of_sees (F := fun c => c = p ∨ c = mb ∨ c = q ∨ c = b) HS.out).setCell (p := ⟨b, i, none⟩) (fun _ => .inr (.inr (.inr rfl))) (.bool true)))
  have hKb := Lib.hid ((Keeps.refl (fun c => c = b) W).setCell (p := ⟨b, i, none⟩) (fun _ => rfl) (.bool true))
  have hR := Lib.hid (HT2.out.rf.put i true)
  have hP := Lib.hid (HT2.out.sp.keeps hKb.out HT2.out.n2 HT2.out.n4)
  have hA3 := Lib.hid (HA2.out.keeps hKb.out (by have := hbxe.out; omega))
  clear fb xb c0 c1 c2 hKb HA2 hval hval2 HS
  generalize W.setCell ⟨b, i, none⟩ (.bool true) = W3 at hK hR hP hA3 ⊢
  obtain ⟨c0, c1, c2⟩ := hA3.out.cs
  go_wp2_with fail
  refine (set_in hP.out i hi).mono ?_
  rintro e W4 ⟨rfl, hP4, hK4⟩
  go_wp2
  go_ret
  exact ⟨rfl, ⟨_, b, .inl rfl, ⟨hP4, hR.out.keeps hK4 (fun e => HT2.out.n3 e.symm) (fun e => HT2.out.n4 e.symm), HT2.out.n1, HT2.out.n2, HT2.out.n3, HT2.out.n4⟩⟩, hK.out.trans (hK4.mono fun c _ e => .inr (.inl e))⟩
set_option maxHeartbeats 8000000 in
set_option maxRecDepth 100000 in
theorem does_clear (h : Two w p mb q b L) (n : Int) (i : Nat) (hi : i < L.length) : Calls Try.prog 11 #[ptr p, ptr q, .agg #[i64 1, i64 (i : Int), i64 n]] w (DoesP w p mb q b) := by
  have t1 : decide ((i : Int) ≥ 0) = true := decide_eq_true (by omega)
  have t1' : decide (0 ≤ (i : Int)) = true := decide_eq_true (by omega)
  have t2 : decide ((i : Int) < (L.length : Int)) = true := decide_eq_true (by omega)
  have A0 := AcAt.new w 1 (i : Int) n
  have hs0 := (Sees.refl w).alloc (.cells #[i64 1, i64 (i : Int), i64 n] 32)
  have H0 := h.sees hs0
  obtain ⟨c0, c1, c2⟩ := A0.cs
  obtain ⟨cap, x00, hcap⟩ := H0.rf.cs
  have hll := h.sp.2
  have hbx : p < w.heap.size ∧ mb < w.heap.size ∧ q < w.heap.size ∧ b < w.heap.size := ⟨h.sp.1.lt, h.sp.1.mlt, h.rf.lt, h.rf.blt⟩
  go_enter Try.func11, Try.ntmps11
  go_wp2_with fail
  go_quiet (fail)
  have hs1 : Sees w _ := below_drewN hs0 nq
  have A1 := A0.sees (below_drewN (Sees.refl _) nq)
  have H1 := H0.sees (below_drewN (Sees.refl _) nq)
  have x0 := Sees.cell (below_drewN (Sees.refl _) nq) x00
  obtain ⟨bx, hbxe⟩ : ∃ bx, bx = w.heap.size := ⟨_, rfl⟩
  rw [← hbxe] at A1 ⊢
  replace hbxe := Lib.hid hbxe
  generalize (w.alloc (.cells #[i64 1, i64 (i : Int), i64 n] 32)).drewN nq = W1 at hs1 A1 H1 x0 ⊢
  clear c0 c1 c2 x00 hs0 H0 A0 h
  obtain ⟨c0, c1, c2⟩ := A1.cs
  have hS1 := Lib.hid hs1
  have HA := Lib.hid A1
  have HT := Lib.hid H1
  clear hs1 A1 H1
  go_wp2_with fail
  refine wpFrom_go (by kernel_rfl) (by kernel_rfl) (fun hB w2 hw2 => ?_)
  have hval : ∀ x v, (Spec.is x).val v = x := fun _ _ => rfl
  have hval2 : ∀ V v, (Spec.so V).val v = v := fun _ _ => rfl
  have hst : segStay (Sees w2) [.is (ptr q), .is (ptr q), .is (ptr q), .is (.slice (some ⟨b, 0, none⟩) L.length cap), .is (.pointer (some ⟨bx, 1, none⟩)), .is (i64 (i : Int)), .is (.pointer (some ⟨bx, 0, none⟩)), .is (i64 1), .is (.bool false), .is (.pointer (some ⟨b, i, none⟩))] := trivial
  refine wpFrom_any 10 _ hB (by kernel_rfl) rfl hst (by simp only [List.cons_append, List.nil_append, List.drop_succ_cons, List.drop_zero, List.take_succ_cons, List.take_zero, Nat.reduceSub]; rfl) ?_
  refine ⟨fun vs W hI hV => .inl ⟨by clear hI hV hst; go_simp, .inl (by clear hI hV hst; (try simp only [Act.put, hval, hval2, List.setIfInBounds_toArray, List.set_cons_zero, List.set_cons_succ]); go_simp)⟩, ?_⟩
  refine ⟨fun vs W hI hV => .inl ⟨by clear hI hV hst; go_simp, .inl (by clear hI hV hst; (try simp only [Act.put, hval, hval2, List.setIfInBounds_toArray, List.set_cons_zero, List.set_cons_succ]); go_simp)⟩, ?_⟩
  refine ⟨fun vs W hI hV => .inl ⟨by clear hI hV hst; go_simp, .inl (by clear hI hV hst; (try simp only [Act.put, hval, hval2, List.setIfInBounds_toArray, List.set_cons_zero, List.set_cons_succ]); go_simp)⟩, ?_⟩
  refine ⟨fun vs W hI hV => .inl ⟨by clear hI hV hst; go_simp, .inl (by have q0 := Sees.cell (hw2.trans hI) x0; clear hI hV hst; (try simp only [Act.put, hval, hval2, List.setIfInBounds_toArray, List.set_cons_zero, List.set_cons_succ]); go_simp)⟩, ?_⟩
  refine ⟨fun vs W hI hV => .inl ⟨by clear hI hV hst; go_simp, .inl (by clear hI hV hst; (try simp only [Act.put, hval, hval2, List.setIfInBounds_toArray, List.set_cons_zero, List.set_cons_succ]); go_simp)⟩, ?_⟩
  refine ⟨fun vs W hI hV => .inl ⟨by clear hI hV hst; go_simp, .inl (by have q0 := Sees.cell (hw2.trans hI) c1; clear hI hV hst; (try simp only [Act.put, hval, hval2, List.setIfInBounds_toArray, List.set_cons_zero, List.set_cons_succ]); go_simp)⟩, ?_⟩
  refine ⟨fun vs W hI hV => .inl ⟨by clear hI hV hst; go_simp, .inl (by clear hI hV hst; (try simp only [Act.put, hval, hval2, List.setIfInBounds_toArray, List.set_cons_zero, List.set_cons_succ]); go_simp)⟩, ?_⟩
  refine ⟨fun vs W hI hV => .inl ⟨by clear hI hV hst; go_simp, .inl (by have q0 := Sees.cell (hw2.trans hI) c0; clear hI hV hst; (try simp only [Act.put, hval, hval2, List.setIfInBounds_toArray, List.set_cons_zero, List.set_cons_succ]); go_simp)⟩, ?_⟩
  refine ⟨fun vs W hI hV => .inl ⟨by clear hI hV hst; go_simp, .inl (by clear hI hV hst; (try simp only [Act.put, hval, hval2, List.setIfInBounds_toArray, List.set_cons_zero, List.set_cons_succ]); go_simp)⟩, ?_⟩
  refine ⟨fun vs W hI hV => .inl ⟨by clear hI hV hst; go_simp, .inl (by clear hI hV hst; (try simp only [Act.put, hval, hval2, List.setIfInBounds_toArray, List.set_cons_zero, List.set_cons_succ]); go_simp)⟩, ?_⟩
  intro vs W hI hV
  have HS := Lib.hid (hS1.out.trans (hw2.trans hI))
  have HT2 := Lib.hid (HT.out.sees (hw2.trans hI))
  have HA2 := Lib.hid (HA.out.sees (hw2.trans hI))
  have fb := HT2.out.rf.bfr i
  have xb := HT2.out.rf.rd hi
  clear hV hI hst hw2 c0 c1 c2 x0 HT HA hS1
  obtain ⟨c0, c1, c2⟩ := HA2.out.cs
  go_simp
  refine wpFrom_to 11 hB (fun _ _ _ _ _ h => h) (by kernel_rfl) (by simp only [List.cons_append, List.nil_append, List.drop_succ_cons, List.drop_zero, List.take_succ_cons, List.take_zero, Nat.reduceSub]; rfl) ?_
  go_wp2
  refine wpFrom_end rfl ?_
  have hK := Lib.hid (((Keeps.of_sees (F := fun c => c = p ∨ c = mb ∨ c = q ∨ c = b) HS.out).setCell (p := ⟨b, i, none⟩) (fun _ => .inr (.inr (.inr rfl))) (.bool false)))
  have hKb := Lib.hid ((Keeps.refl (fun c => c = b) W).setCell (p := ⟨b, i, none⟩) (fun _ => rfl) (.bool false))
  have hR := Lib.hid (HT2.out.rf.put i false)
  have hP := Lib.hid (HT2.out.sp.keeps hKb.out HT2.out.n2 HT2.out.n4)
  have hA3 := Lib.hid (HA2.out.keeps hKb.out (by have := hbxe.out; omega))
  clear fb xb c0 c1 c2 hKb HA2 hval hval2 HS
  generalize W.setCell ⟨b, i, none⟩ (.bool false) = W3 at hK hR hP hA3 ⊢
  obtain ⟨c0, c1, c2⟩ := hA3.out.cs
  go_wp2_with fail
  refine (clear_in hP.out i hi).mono ?_
  rintro e W4 ⟨rfl, hP4, hK4⟩
  go_wp2
  go_ret
  exact ⟨rfl, ⟨_, b, .inl rfl, ⟨hP4, hR.out.keeps hK4 (fun e => HT2.out.n3 e.symm) (fun e => HT2.out.n4 e.symm), HT2.out.n1, HT2.out.n2, HT2.out.n3, HT2.out.n4⟩⟩, hK.out.trans (hK4.mono fun c _ e => .inr (.inl e))⟩
set_option maxHeartbeats 8000000 in
set_option maxRecDepth 100000 in
theorem does_set_neg (h : Two w p mb q b L) (a n : Int) (ha : a < 0) : Calls Try.prog 11 #[ptr p, ptr q, .agg #[i64 0, i64 a, i64 n]] w (DoesP w p mb q b) := by
  have t1 : decide (a ≥ 0) = false := decide_eq_false (by omega)
  have t1' : decide (0 ≤ a) = false := decide_eq_false (by omega)
  have A0 := AcAt.new w 0 a n
  have hs0 := (Sees.refl w).alloc (.cells #[i64 0, i64 a, i64 n] 32)
  have H0 := h.sees hs0
  obtain ⟨c0, c1, c2⟩ := A0.cs
  obtain ⟨cap, x00, hcap⟩ := H0.rf.cs
  have hll := h.sp.2
  have hbx : p < w.heap.size ∧ mb < w.heap.size ∧ q < w.heap.size ∧ b < w.heap.size := ⟨h.sp.1.lt, h.sp.1.mlt, h.rf.lt, h.rf.blt⟩
  go_enter Try.func11, Try.ntmps11
  go_wp2_with fail
  go_quiet (fail)
  have hs1 : Sees w _ := below_drewN hs0 nq
  have A1 := A0.sees (below_drewN (Sees.refl _) nq)
  have H1 := H0.sees (below_drewN (Sees.refl _) nq)
  have x0 := Sees.cell (below_drewN (Sees.refl _) nq) x00
  obtain ⟨bx, hbxe⟩ : ∃ bx, bx = w.heap.size := ⟨_, rfl⟩
  rw [← hbxe] at A1 ⊢
  replace hbxe := Lib.hid hbxe
  generalize (w.alloc (.cells #[i64 0, i64 a, i64 n] 32)).drewN nq = W1 at hs1 A1 H1 x0 ⊢
  clear c0 c1 c2 x00 hs0 H0 A0 h
  obtain ⟨c0, c1, c2⟩ := A1.cs
  have hS1 := Lib.hid hs1
  have HA := Lib.hid A1
  have HT := Lib.hid H1
  clear hs1 A1 H1
  go_wp2_with (go_at_call 15; refine (set_out HT.out.sp a (by omega)).mono ?_)
  try (rintro e W ⟨rfl, rfl⟩; go_wp2)
  go_ret
  exact ⟨rfl, ⟨_, b, .inl rfl, HT.out⟩, Keeps.of_sees hS1.out⟩
set_option maxHeartbeats 8000000 in
set_option maxRecDepth 100000 in
theorem does_set_out (h : Two w p mb q b L) (a n : Int) (ha : (L.length : Int) ≤ a) : Calls Try.prog 11 #[ptr p, ptr q, .agg #[i64 0, i64 a, i64 n]] w (DoesP w p mb q b) := by
  have t1 : decide (a ≥ 0) = true := decide_eq_true (by omega)
  have t1' : decide (0 ≤ a) = true := decide_eq_true (by omega)
  have t2 : decide (a < (L.length : Int)) = false := decide_eq_false (by omega)
  have A0 := AcAt.new w 0 a n
  have hs0 := (Sees.refl w).alloc (.cells #[i64 0, i64 a, i64 n] 32)
  have H0 := h.sees hs0
  obtain ⟨c0, c1, c2⟩ := A0.cs
  obtain ⟨cap, x00, hcap⟩ := H0.rf.cs
  have hll := h.sp.2
  have hbx : p < w.heap.size ∧ mb < w.heap.size ∧ q < w.heap.size ∧ b < w.heap.size := ⟨h.sp.1.lt, h.sp.1.mlt, h.rf.lt, h.rf.blt⟩
  go_enter Try.func11, Try.ntmps11
  go_wp2_with fail
  go_quiet (fail)
  have hs1 : Sees w _ := below_drewN hs0 nq
  have A1 := A0.sees (below_drewN (Sees.refl _) nq)
  have H1 := H0.sees (below_drewN (Sees.refl _) nq)
  have x0 := Sees.cell (below_drewN (Sees.refl _) nq) x00
  obtain ⟨bx, hbxe⟩ : ∃ bx, bx = w.heap.size := ⟨_, rfl⟩
  rw [← hbxe] at A1 ⊢
  replace hbxe := Lib.hid hbxe
  generalize (w.alloc (.cells #[i64 0, i64 a, i64 n] 32)).drewN nq = W1 at hs1 A1 H1 x0 ⊢
  clear c0 c1 c2 x00 hs0 H0 A0 h
  obtain ⟨c0, c1, c2⟩ := A1.cs
  have hS1 := Lib.hid hs1
  have HA := Lib.hid A1
  have HT := Lib.hid H1
  clear hs1 A1 H1
  go_wp2_with (go_at_call 15; refine (set_out HT.out.sp a (by omega)).mono ?_)
  try (rintro e W ⟨rfl, rfl⟩; go_wp2)
  go_ret
  exact ⟨rfl, ⟨_, b, .inl rfl, HT.out⟩, Keeps.of_sees hS1.out⟩
set_option maxHeartbeats 8000000 in
set_option maxRecDepth 100000 in
theorem does_clear_neg (h : Two w p mb q b L) (a n : Int) (ha : a < 0) : Calls Try.prog 11 #[ptr p, ptr q, .agg #[i64 1, i64 a, i64 n]] w (DoesP w p mb q b) := by
  have t1 : decide (a ≥ 0) = false := decide_eq_false (by omega)
  have t1' : decide (0 ≤ a) = false := decide_eq_false (by omega)
  have A0 := AcAt.new w 1 a n
  have hs0 := (Sees.refl w).alloc (.cells #[i64 1, i64 a, i64 n] 32)
  have H0 := h.sees hs0
  obtain ⟨c0, c1, c2⟩ := A0.cs
  obtain ⟨cap, x00, hcap⟩ := H0.rf.cs
  have hll := h.sp.2
  have hbx : p < w.heap.size ∧ mb < w.heap.size ∧ q < w.heap.size ∧ b < w.heap.size := ⟨h.sp.1.lt, h.sp.1.mlt, h.rf.lt, h.rf.blt⟩
  go_enter Try.func11, Try.ntmps11
  go_wp2_with fail
  go_quiet (fail)
  have hs1 : Sees w _ := below_drewN hs0 nq
  have A1 := A0.sees (below_drewN (Sees.refl _) nq)
  have H1 := H0.sees (below_drewN (Sees.refl _) nq)
  have x0 := Sees.cell (below_drewN (Sees.refl _) nq) x00
  obtain ⟨bx, hbxe⟩ : ∃ bx, bx = w.heap.size := ⟨_, rfl⟩
  rw [← hbxe] at A1 ⊢
  replace hbxe := Lib.hid hbxe
  generalize (w.alloc (.cells #[i64 1, i64 a, i64 n] 32)).drewN nq = W1 at hs1 A1 H1 x0 ⊢
  clear c0 c1 c2 x00 hs0 H0 A0 h
  obtain ⟨c0, c1, c2⟩ := A1.cs
  have hS1 := Lib.hid hs1
  have HA := Lib.hid A1
  have HT := Lib.hid H1
  clear hs1 A1 H1
  go_wp2_with (go_at_call 16; refine (clear_out HT.out.sp a (by omega)).mono ?_)
  try (rintro e W ⟨rfl, rfl⟩; go_wp2)
  go_ret
  exact ⟨rfl, ⟨_, b, .inl rfl, HT.out⟩, Keeps.of_sees hS1.out⟩
set_option maxHeartbeats 8000000 in
set_option maxRecDepth 100000 in
theorem does_clear_out (h : Two w p mb q b L) (a n : Int) (ha : (L.length : Int) ≤ a) : Calls Try.prog 11 #[ptr p, ptr q, .agg #[i64 1, i64 a, i64 n]] w (DoesP w p mb q b) := by
  have t1 : decide (a ≥ 0) = true := decide_eq_true (by omega)
  have t1' : decide (0 ≤ a) = true := decide_eq_true (by omega)
  have t2 : decide (a < (L.length : Int)) = false := decide_eq_false (by omega)
  have A0 := AcAt.new w 1 a n
  have hs0 := (Sees.refl w).alloc (.cells #[i64 1, i64 a, i64 n] 32)
  have H0 := h.sees hs0
  obtain ⟨c0, c1, c2⟩ := A0.cs
  obtain ⟨cap, x00, hcap⟩ := H0.rf.cs
  have hll := h.sp.2
  have hbx : p < w.heap.size ∧ mb < w.heap.size ∧ q < w.heap.size ∧ b < w.heap.size := ⟨h.sp.1.lt, h.sp.1.mlt, h.rf.lt, h.rf.blt⟩
  go_enter Try.func11, Try.ntmps11
  go_wp2_with fail
  go_quiet (fail)
  have hs1 : Sees w _ := below_drewN hs0 nq
  have A1 := A0.sees (below_drewN (Sees.refl _) nq)
  have H1 := H0.sees (below_drewN (Sees.refl _) nq)
  have x0 := Sees.cell (below_drewN (Sees.refl _) nq) x00
  obtain ⟨bx, hbxe⟩ : ∃ bx, bx = w.heap.size := ⟨_, rfl⟩
  rw [← hbxe] at A1 ⊢
  replace hbxe := Lib.hid hbxe
  generalize (w.alloc (.cells #[i64 1, i64 a, i64 n] 32)).drewN nq = W1 at hs1 A1 H1 x0 ⊢
  clear c0 c1 c2 x00 hs0 H0 A0 h
  obtain ⟨c0, c1, c2⟩ := A1.cs
  have hS1 := Lib.hid hs1
  have HA := Lib.hid A1
  have HT := Lib.hid H1
  clear hs1 A1 H1
  go_wp2_with (go_at_call 16; refine (clear_out HT.out.sp a (by omega)).mono ?_)
  try (rintro e W ⟨rfl, rfl⟩; go_wp2)
  go_ret
  exact ⟨rfl, ⟨_, b, .inl rfl, HT.out⟩, Keeps.of_sees hS1.out⟩
set_option maxHeartbeats 8000000 in
set_option maxRecDepth 100000 in
theorem does_reset_neg (h : Two w p mb q b L) (a n : Int) (ha : a < 0) : Calls Try.prog 11 #[ptr p, ptr q, .agg #[i64 2, i64 a, i64 n]] w (DoesP w p mb q b) := by
  have t1 : decide (a ≥ 0) = false := decide_eq_false (by omega)
  have t1' : decide (0 ≤ a) = false := decide_eq_false (by omega)
  have A0 := AcAt.new w 2 a n
  have hs0 := (Sees.refl w).alloc (.cells #[i64 2, i64 a, i64 n] 32)
  have H0 := h.sees hs0
  obtain ⟨c0, c1, c2⟩ := A0.cs
  obtain ⟨cap, x00, hcap⟩ := H0.rf.cs
  have hll := h.sp.2
  have hbx : p < w.heap.size ∧ mb < w.heap.size ∧ q < w.heap.size ∧ b < w.heap.size := ⟨h.sp.1.lt, h.sp.1.mlt, h.rf.lt, h.rf.blt⟩
  go_enter Try.func11, Try.ntmps11
  go_wp2_with fail
  go_quiet (fail)
  have hs1 : Sees w _ := below_drewN hs0 nq
  have A1 := A0.sees (below_drewN (Sees.refl _) nq)
  have H1 := H0.sees (below_drewN (Sees.refl _) nq)
  have x0 := Sees.cell (below_drewN (Sees.refl _) nq) x00
  obtain ⟨bx, hbxe⟩ : ∃ bx, bx = w.heap.size := ⟨_, rfl⟩
  rw [← hbxe] at A1 ⊢
  replace hbxe := Lib.hid hbxe
  generalize (w.alloc (.cells #[i64 2, i64 a, i64 n] 32)).drewN nq = W1 at hs1 A1 H1 x0 ⊢
  clear c0 c1 c2 x00 hs0 H0 A0 h
  obtain ⟨c0, c1, c2⟩ := A1.cs
  have hS1 := Lib.hid hs1
  have HA := Lib.hid A1
  have HT := Lib.hid H1
  clear hs1 A1 H1
  obtain ⟨N, hN⟩ : ∃ N, N = L.length := ⟨_, rfl⟩
  have hN1 : N ≤ 1000 := by omega
  replace hN := Lib.hid hN
  clear x0 hcap
  go_wp2
  go_loopw [9] (fun x W => ∃ k : Nat, x = .int .i64 k ∧ k ≤ N ∧ RowKit.Hid (SpAt W p mb L) ∧ RowKit.Hid (RfAt W q b (offTo L k)) ∧ RowKit.Hid (Keeps (fun c => c = b) W1 W)) (fun x _ => N - (vInt x).toNat)
  case atStart => exact ⟨0, rfl, by omega, Lib.hid HT.out.sp, Lib.hid HT.out.rf, Lib.hid (Keeps.refl _ _)⟩
  case round =>
    obtain ⟨k, rfl, hk, hP, hR, hK⟩ := hrel
    obtain ⟨cap, x0, hcap⟩ := hR.out.cs
    rw [offTo_length (by have := hN.out; omega), ← hN.out] at x0 hcap
    by_cases hlt : k < N
    · have fb := hR.out.bfr k
      have xb := hR.out.rd (i := k) (by rw [offTo_length (by have := hN.out; omega)]; have := hN.out; omega)
      have hR2 := Lib.hid (hR.out.put k false)
      rw [offTo_step (by have := hN.out; omega)] at hR2
      have hKb := (Keeps.refl (fun c => c = b) wr).setCell (p := ⟨b, k, none⟩) (fun _ => rfl) (.bool false)
      have hP2 := Lib.hid (hP.out.keeps hKb HT.out.n2 HT.out.n4)
      have hK2 := Lib.hid (hK.out.trans hKb)
      clear hKb
      go_wp2
      go_roundw
      case rel => exact ⟨k + 1, by go_num, by omega, hP2, hR2, hK2⟩
      case measure => simp [vInt]; omega
    · obtain rfl : k = N := by omega
      have hR2 := hR.out
      rw [hN.out, offTo_end] at hR2
      replace hR2 := Lib.hid hR2
      have hA2 := HA.out.keeps hK.out (by have := hbxe.out; omega)
      go_wp2_with fail
      refine (reset_at hP.out).mono ?_
      rintro e W4 ⟨rfl, hP4, hK4⟩
      go_wp2
      go_ret
      exact ⟨rfl, ⟨_, b, .inl rfl, ⟨hP4, hR2.out.keeps hK4 (fun e => HT.out.n3 e.symm) (fun e => HT.out.n4 e.symm), HT.out.n1, HT.out.n2, HT.out.n3, HT.out.n4⟩⟩, ((Keeps.of_sees hS1.out).trans (hK.out.mono fun c _ e => .inr (.inr (.inr e)))).trans (hK4.mono fun c _ e => .inr (.inl e))⟩
set_option maxHeartbeats 8000000 in
set_option maxRecDepth 100000 in
theorem does_default_neg (h : Two w p mb q b L) (a n : Int) (ha : a < 0) : Calls Try.prog 11 #[ptr p, ptr q, .agg #[i64 3, i64 a, i64 n]] w (DoesP w p mb q b) := by
  have t1 : decide (a ≥ 0) = false := decide_eq_false (by omega)
  have t1' : decide (0 ≤ a) = false := decide_eq_false (by omega)
  have A0 := AcAt.new w 3 a n
  have hs0 := (Sees.refl w).alloc (.cells #[i64 3, i64 a, i64 n] 32)
  have H0 := h.sees hs0
  obtain ⟨c0, c1, c2⟩ := A0.cs
  obtain ⟨cap, x00, hcap⟩ := H0.rf.cs
  have hll := h.sp.2
  have hbx : p < w.heap.size ∧ mb < w.heap.size ∧ q < w.heap.size ∧ b < w.heap.size := ⟨h.sp.1.lt, h.sp.1.mlt, h.rf.lt, h.rf.blt⟩
  go_enter Try.func11, Try.ntmps11
  go_wp2_with fail
  go_quiet (fail)
  have hs1 : Sees w _ := below_drewN hs0 nq
  have A1 := A0.sees (below_drewN (Sees.refl _) nq)
  have H1 := H0.sees (below_drewN (Sees.refl _) nq)
  have x0 := Sees.cell (below_drewN (Sees.refl _) nq) x00
  obtain ⟨bx, hbxe⟩ : ∃ bx, bx = w.heap.size := ⟨_, rfl⟩
  rw [← hbxe] at A1 ⊢
  replace hbxe := Lib.hid hbxe
  generalize (w.alloc (.cells #[i64 3, i64 a, i64 n] 32)).drewN nq = W1 at hs1 A1 H1 x0 ⊢
  clear c0 c1 c2 x00 hs0 H0 A0 h
  obtain ⟨c0, c1, c2⟩ := A1.cs
  have hS1 := Lib.hid hs1
  have HA := Lib.hid A1
  have HT := Lib.hid H1
  clear hs1 A1 H1
  go_wp2_with fail
  refine (rnew_at W1 L.length hll).mono ?_
  rintro e W2 ⟨q2, b2, rfl, hq2, hb2, hR2, s2⟩
  have hsz := hS1.out.size
  have hT2 := HT.out.sees s2
  obtain ⟨cap2, y0, hR3⟩ := hT2.rf.turn hR2 (show q ≠ b2 by omega)
  have fq := hT2.rf.fr
  have xq := x0
  obtain ⟨cap3, x3, _⟩ := hT2.rf.cs
  have hKq := (Keeps.refl (fun c => c = q) W2).setCell (p := ⟨q, 0, none⟩) (fun _ => rfl) (.slice (some ⟨b2, 0, none⟩) (defL L.length).length cap2)
  have hP3 := Lib.hid (hT2.sp.keeps hKq hT2.n1 hT2.n3)
  have hK3 := Lib.hid ((Keeps.of_sees (F := fun c => c = p ∨ c = mb ∨ c = q ∨ c = b) (hS1.out.trans s2)).trans (hKq.mono fun c _ e => .inr (.inr (.inl e))))
  replace hR3 := Lib.hid hR3
  clear hKq
  go_wp2_with fail
  refine (default_at hP3.out).mono ?_
  rintro e W4 ⟨rfl, hP4, hK4⟩
  go_wp2
  go_ret
  exact ⟨rfl, ⟨_, b2, .inr (by omega), ⟨hP4, hR3.out.keeps hK4 (fun e => HT.out.n3 e.symm) (fun e => by omega), HT.out.n1, by omega, HT.out.n3, by omega⟩⟩, hK3.out.trans (hK4.mono fun c _ e => .inr (.inl e))⟩
set_option maxHeartbeats 8000000 in
set_option maxRecDepth 100000 in
theorem does_size_bad_neg (h : Two w p mb q b L) (a n : Int) (ha : a < 0) (hb : ¬ (1 ≤ a ∧ a ≤ 1000)) : Calls Try.prog 11 #[ptr p, ptr q, .agg #[i64 6, i64 a, i64 n]] w (DoesP w p mb q b) := by
  have t1 : decide (a ≥ 0) = false := decide_eq_false (by omega)
  have t1' : decide (0 ≤ a) = false := decide_eq_false (by omega)
  obtain ⟨u, hu⟩ : ∃ u, u = decide (a < 1) := ⟨_, rfl⟩
  have hu2 : u = true ∨ decide (a > 1000) = true := by
    rw [hu]
    by_cases h1 : a < 1
    · exact .inl (decide_eq_true h1)
    · exact .inr (decide_eq_true (by omega))
  replace hu := hu.symm
  have A0 := AcAt.new w 6 a n
  have hs0 := (Sees.refl w).alloc (.cells #[i64 6, i64 a, i64 n] 32)
  have H0 := h.sees hs0
  obtain ⟨c0, c1, c2⟩ := A0.cs
  obtain ⟨cap, x00, hcap⟩ := H0.rf.cs
  have hll := h.sp.2
  have hbx : p < w.heap.size ∧ mb < w.heap.size ∧ q < w.heap.size ∧ b < w.heap.size := ⟨h.sp.1.lt, h.sp.1.mlt, h.rf.lt, h.rf.blt⟩
  go_enter Try.func11, Try.ntmps11
  go_wp2_with fail
  go_quiet (fail)
  have hs1 : Sees w _ := below_drewN hs0 nq
  have A1 := A0.sees (below_drewN (Sees.refl _) nq)
  have H1 := H0.sees (below_drewN (Sees.refl _) nq)
  have x0 := Sees.cell (below_drewN (Sees.refl _) nq) x00
  obtain ⟨bx, hbxe⟩ : ∃ bx, bx = w.heap.size := ⟨_, rfl⟩
  rw [← hbxe] at A1 ⊢
  replace hbxe := Lib.hid hbxe
  generalize (w.alloc (.cells #[i64 6, i64 a, i64 n] 32)).drewN nq = W1 at hs1 A1 H1 x0 ⊢
  clear c0 c1 c2 x00 hs0 H0 A0 h
  obtain ⟨c0, c1, c2⟩ := A1.cs
  have hS1 := Lib.hid hs1
  have HA := Lib.hid A1
  have HT := Lib.hid H1
  clear hs1 A1 H1
  have hc := resize_bad HT.out.sp a hb
  rcases hu2 with rfl | hu3
  · go_wp2_with fail
    refine hc.mono ?_
    rintro e W2 ⟨rfl, s2⟩
    go_wp2
    go_ret
    exact ⟨rfl, ⟨_, b, .inl rfl, HT.out.sees s2⟩, Keeps.of_sees (hS1.out.trans s2)⟩
  · have hu4 : decide (1000 < a) = true := hu3
    cases u
    · go_wp2_with fail
      refine hc.mono ?_
      rintro e W2 ⟨rfl, s2⟩
      go_wp2
      go_ret
      exact ⟨rfl, ⟨_, b, .inl rfl, HT.out.sees s2⟩, Keeps.of_sees (hS1.out.trans s2)⟩
    · go_wp2_with fail
      refine hc.mono ?_
      rintro e W2 ⟨rfl, s2⟩
      go_wp2
      go_ret
      exact ⟨rfl, ⟨_, b, .inl rfl, HT.out.sees s2⟩, Keeps.of_sees (hS1.out.trans s2)⟩
set_option maxHeartbeats 8000000 in
set_option maxRecDepth 100000 in
theorem does_else_neg (h : Two w p mb q b L) (x a n : Int) (ha : a < 0) (hx : x < 0 ∨ 6 < x) : Calls Try.prog 11 #[ptr p, ptr q, .agg #[i64 x, i64 a, i64 n]] w (DoesP w p mb q b) := by
  have t1 : decide (a ≥ 0) = false := decide_eq_false (by omega)
  have t1' : decide (0 ≤ a) = false := decide_eq_false (by omega)
  have e0 : (x == 0) = false := beq_eq_false_iff_ne.2 (by omega)
  have e1 : (x == 1) = false := beq_eq_false_iff_ne.2 (by omega)
  have e2 : (x == 2) = false := beq_eq_false_iff_ne.2 (by omega)
  have e3 : (x == 3) = false := beq_eq_false_iff_ne.2 (by omega)
  have e4 : (x == 4) = false := beq_eq_false_iff_ne.2 (by omega)
  have e5 : (x == 5) = false := beq_eq_false_iff_ne.2 (by omega)
  have e6 : (x == 6) = false := beq_eq_false_iff_ne.2 (by omega)
  have A0 := AcAt.new w x a n
  have hs0 := (Sees.refl w).alloc (.cells #[i64 x, i64 a, i64 n] 32)
  have H0 := h.sees hs0
  obtain ⟨c0, c1, c2⟩ := A0.cs
  obtain ⟨cap, x00, hcap⟩ := H0.rf.cs
  have hll := h.sp.2
  have hbx : p < w.heap.size ∧ mb < w.heap.size ∧ q < w.heap.size ∧ b < w.heap.size := ⟨h.sp.1.lt, h.sp.1.mlt, h.rf.lt, h.rf.blt⟩
  go_enter Try.func11, Try.ntmps11
  go_wp2_with fail
  go_quiet (fail)
  have hs1 : Sees w _ := below_drewN hs0 nq
  have A1 := A0.sees (below_drewN (Sees.refl _) nq)
  have H1 := H0.sees (below_drewN (Sees.refl _) nq)
  have x0 := Sees.cell (below_drewN (Sees.refl _) nq) x00
  obtain ⟨bx, hbxe⟩ : ∃ bx, bx = w.heap.size := ⟨_, rfl⟩
  rw [← hbxe] at A1 ⊢
  replace hbxe := Lib.hid hbxe
  generalize (w.alloc (.cells #[i64 x, i64 a, i64 n] 32)).drewN nq = W1 at hs1 A1 H1 x0 ⊢
  clear c0 c1 c2 x00 hs0 H0 A0 h
  obtain ⟨c0, c1, c2⟩ := A1.cs
  have hS1 := Lib.hid hs1
  have HA := Lib.hid A1
  have HT := Lib.hid H1
  clear hs1 A1 H1
  go_wp2
  go_ret
  exact ⟨rfl, ⟨_, b, .inl rfl, HT.out⟩, Keeps.of_sees hS1.out⟩
set_option maxHeartbeats 8000000 in
set_option maxRecDepth 100000 in
theorem does_reset_in (h : Two w p mb q b L) (a n : Int) (ha : 0 ≤ a ∧ a < L.length) : Calls Try.prog 11 #[ptr p, ptr q, .agg #[i64 2, i64 a, i64 n]] w (DoesP w p mb q b) := by
  have t1 : decide (a ≥ 0) = true := decide_eq_true (by omega)
  have t1' : decide (0 ≤ a) = true := decide_eq_true (by omega)
  have t2 : decide (a < (L.length : Int)) = true := decide_eq_true (by omega)
  have A0 := AcAt.new w 2 a n
  have hs0 := (Sees.refl w).alloc (.cells #[i64 2, i64 a, i64 n] 32)
  have H0 := h.sees hs0
  obtain ⟨c0, c1, c2⟩ := A0.cs
  obtain ⟨cap, x00, hcap⟩ := H0.rf.cs
  have hll := h.sp.2
  have hbx : p < w.heap.size ∧ mb < w.heap.size ∧ q < w.heap.size ∧ b < w.heap.size := ⟨h.sp.1.lt, h.sp.1.mlt, h.rf.lt, h.rf.blt⟩
  go_enter Try.func11, Try.ntmps11
  go_wp2_with fail
  go_quiet (fail)
  have hs1 : Sees w _ := below_drewN hs0 nq
  have A1 := A0.sees (below_drewN (Sees.refl _) nq)
  have H1 := H0.sees (below_drewN (Sees.refl _) nq)
  have x0 := Sees.cell (below_drewN (Sees.refl _) nq) x00
  obtain ⟨bx, hbxe⟩ : ∃ bx, bx = w.heap.size := ⟨_, rfl⟩
  rw [← hbxe] at A1 ⊢
  replace hbxe := Lib.hid hbxe
  generalize (w.alloc (.cells #[i64 2, i64 a, i64 n] 32)).drewN nq = W1 at hs1 A1 H1 x0 ⊢
  clear c0 c1 c2 x00 hs0 H0 A0 h
  obtain ⟨c0, c1, c2⟩ := A1.cs
  have hS1 := Lib.hid hs1
  have HA := Lib.hid A1
  have HT := Lib.hid H1
  clear hs1 A1 H1
  obtain ⟨N, hN⟩ : ∃ N, N = L.length := ⟨_, rfl⟩
  have hN1 : N ≤ 1000 := by omega
  replace hN := Lib.hid hN
  clear x0 hcap
  go_wp2
  go_loopw [9] (fun x W => ∃ k : Nat, x = .int .i64 k ∧ k ≤ N ∧ RowKit.Hid (SpAt W p mb L) ∧ RowKit.Hid (RfAt W q b (offTo L k)) ∧ RowKit.Hid (Keeps (fun c => c = b) W1 W)) (fun x _ => N - (vInt x).toNat)
  case atStart => exact ⟨0, rfl, by omega, Lib.hid HT.out.sp, Lib.hid HT.out.rf, Lib.hid (Keeps.refl _ _)⟩
  case round =>
    obtain ⟨k, rfl, hk, hP, hR, hK⟩ := hrel
    obtain ⟨cap, x0, hcap⟩ := hR.out.cs
    rw [offTo_length (by have := hN.out; omega), ← hN.out] at x0 hcap
    by_cases hlt : k < N
    · have fb := hR.out.bfr k
      have xb := hR.out.rd (i := k) (by rw [offTo_length (by have := hN.out; omega)]; have := hN.out; omega)
      have hR2 := Lib.hid (hR.out.put k false)
      rw [offTo_step (by have := hN.out; omega)] at hR2
      have hKb := (Keeps.refl (fun c => c = b) wr).setCell (p := ⟨b, k, none⟩) (fun _ => rfl) (.bool false)
      have hP2 := Lib.hid (hP.out.keeps hKb HT.out.n2 HT.out.n4)
      have hK2 := Lib.hid (hK.out.trans hKb)
      clear hKb
      go_wp2
      go_roundw
      case rel => exact ⟨k + 1, by go_num, by omega, hP2, hR2, hK2⟩
      case measure => simp [vInt]; omega
    · obtain rfl : k = N := by omega
      have hR2 := hR.out
      rw [hN.out, offTo_end] at hR2
      replace hR2 := Lib.hid hR2
      have hA2 := HA.out.keeps hK.out (by have := hbxe.out; omega)
      go_wp2_with fail
      refine (reset_at hP.out).mono ?_
      rintro e W4 ⟨rfl, hP4, hK4⟩
      go_wp2
      go_ret
      exact ⟨rfl, ⟨_, b, .inl rfl, ⟨hP4, hR2.out.keeps hK4 (fun e => HT.out.n3 e.symm) (fun e => HT.out.n4 e.symm), HT.out.n1, HT.out.n2, HT.out.n3, HT.out.n4⟩⟩, ((Keeps.of_sees hS1.out).trans (hK.out.mono fun c _ e => .inr (.inr (.inr e)))).trans (hK4.mono fun c _ e => .inr (.inl e))⟩
set_option maxHeartbeats 8000000 in
set_option maxRecDepth 100000 in
theorem does_default_in (h : Two w p mb q b L) (a n : Int) (ha : 0 ≤ a ∧ a < L.length) : Calls Try.prog 11 #[ptr p, ptr q, .agg #[i64 3, i64 a, i64 n]] w (DoesP w p mb q b) := by
  have t1 : decide (a ≥ 0) = true := decide_eq_true (by omega)
  have t1' : decide (0 ≤ a) = true := decide_eq_true (by omega)
  have t2 : decide (a < (L.length : Int)) = true := decide_eq_true (by omega)
  have A0 := AcAt.new w 3 a n
  have hs0 := (Sees.refl w).alloc (.cells #[i64 3, i64 a, i64 n] 32)
  have H0 := h.sees hs0
  obtain ⟨c0, c1, c2⟩ := A0.cs
  obtain ⟨cap, x00, hcap⟩ := H0.rf.cs
  have hll := h.sp.2
  have hbx : p < w.heap.size ∧ mb < w.heap.size ∧ q < w.heap.size ∧ b < w.heap.size := ⟨h.sp.1.lt, h.sp.1.mlt, h.rf.lt, h.rf.blt⟩
  go_enter Try.func11, Try.ntmps11
  go_wp2_with fail
  go_quiet (fail)
  have hs1 : Sees w _ := below_drewN hs0 nq
  have A1 := A0.sees (below_drewN (Sees.refl _) nq)
  have H1 := H0.sees (below_drewN (Sees.refl _) nq)
  have x0 := Sees.cell (below_drewN (Sees.refl _) nq) x00
  obtain ⟨bx, hbxe⟩ : ∃ bx, bx = w.heap.size := ⟨_, rfl⟩
  rw [← hbxe] at A1 ⊢
  replace hbxe := Lib.hid hbxe
  generalize (w.alloc (.cells #[i64 3, i64 a, i64 n] 32)).drewN nq = W1 at hs1 A1 H1 x0 ⊢
  clear c0 c1 c2 x00 hs0 H0 A0 h
  obtain ⟨c0, c1, c2⟩ := A1.cs
  have hS1 := Lib.hid hs1
  have HA := Lib.hid A1
  have HT := Lib.hid H1
  clear hs1 A1 H1
  go_wp2_with fail
  refine (rnew_at W1 L.length hll).mono ?_
  rintro e W2 ⟨q2, b2, rfl, hq2, hb2, hR2, s2⟩
  have hsz := hS1.out.size
  have hT2 := HT.out.sees s2
  obtain ⟨cap2, y0, hR3⟩ := hT2.rf.turn hR2 (show q ≠ b2 by omega)
  have fq := hT2.rf.fr
  have xq := x0
  obtain ⟨cap3, x3, _⟩ := hT2.rf.cs
  have hKq := (Keeps.refl (fun c => c = q) W2).setCell (p := ⟨q, 0, none⟩) (fun _ => rfl) (.slice (some ⟨b2, 0, none⟩) (defL L.length).length cap2)
  have hP3 := Lib.hid (hT2.sp.keeps hKq hT2.n1 hT2.n3)
  have hK3 := Lib.hid ((Keeps.of_sees (F := fun c => c = p ∨ c = mb ∨ c = q ∨ c = b) (hS1.out.trans s2)).trans (hKq.mono fun c _ e => .inr (.inr (.inl e))))
  replace hR3 := Lib.hid hR3
  clear hKq
  go_wp2_with fail
  refine (default_at hP3.out).mono ?_
  rintro e W4 ⟨rfl, hP4, hK4⟩
  go_wp2
  go_ret
  exact ⟨rfl, ⟨_, b2, .inr (by omega), ⟨hP4, hR3.out.keeps hK4 (fun e => HT.out.n3 e.symm) (fun e => by omega), HT.out.n1, by omega, HT.out.n3, by omega⟩⟩, hK3.out.trans (hK4.mono fun c _ e => .inr (.inl e))⟩
set_option maxHeartbeats 8000000 in
set_option maxRecDepth 100000 in
theorem does_size_bad_in (h : Two w p mb q b L) (a n : Int) (ha : 0 ≤ a ∧ a < L.length) (hb : ¬ (1 ≤ a ∧ a ≤ 1000)) : Calls Try.prog 11 #[ptr p, ptr q, .agg #[i64 6, i64 a, i64 n]] w (DoesP w p mb q b) := by
  have t1 : decide (a ≥ 0) = true := decide_eq_true (by omega)
  have t1' : decide (0 ≤ a) = true := decide_eq_true (by omega)
  have t2 : decide (a < (L.length : Int)) = true := decide_eq_true (by omega)
  obtain ⟨u, hu⟩ : ∃ u, u = decide (a < 1) := ⟨_, rfl⟩
  have hu2 : u = true ∨ decide (a > 1000) = true := by
    rw [hu]
    by_cases h1 : a < 1
    · exact .inl (decide_eq_true h1)
    · exact .inr (decide_eq_true (by omega))
  replace hu := hu.symm
  have A0 := AcAt.new w 6 a n
  have hs0 := (Sees.refl w).alloc (.cells #[i64 6, i64 a, i64 n] 32)
  have H0 := h.sees hs0
  obtain ⟨c0, c1, c2⟩ := A0.cs
  obtain ⟨cap, x00, hcap⟩ := H0.rf.cs
  have hll := h.sp.2
  have hbx : p < w.heap.size ∧ mb < w.heap.size ∧ q < w.heap.size ∧ b < w.heap.size := ⟨h.sp.1.lt, h.sp.1.mlt, h.rf.lt, h.rf.blt⟩
  go_enter Try.func11, Try.ntmps11
  go_wp2_with fail
  go_quiet (fail)
  have hs1 : Sees w _ := below_drewN hs0 nq
  have A1 := A0.sees (below_drewN (Sees.refl _) nq)
  have H1 := H0.sees (below_drewN (Sees.refl _) nq)
  have x0 := Sees.cell (below_drewN (Sees.refl _) nq) x00
  obtain ⟨bx, hbxe⟩ : ∃ bx, bx = w.heap.size := ⟨_, rfl⟩
  rw [← hbxe] at A1 ⊢
  replace hbxe := Lib.hid hbxe
  generalize (w.alloc (.cells #[i64 6, i64 a, i64 n] 32)).drewN nq = W1 at hs1 A1 H1 x0 ⊢
  clear c0 c1 c2 x00 hs0 H0 A0 h
  obtain ⟨c0, c1, c2⟩ := A1.cs
  have hS1 := Lib.hid hs1
  have HA := Lib.hid A1
  have HT := Lib.hid H1
  clear hs1 A1 H1
  have hc := resize_bad HT.out.sp a hb
  rcases hu2 with rfl | hu3
  · go_wp2_with fail
    refine hc.mono ?_
    rintro e W2 ⟨rfl, s2⟩
    go_wp2
    go_ret
    exact ⟨rfl, ⟨_, b, .inl rfl, HT.out.sees s2⟩, Keeps.of_sees (hS1.out.trans s2)⟩
  · have hu4 : decide (1000 < a) = true := hu3
    cases u
    · go_wp2_with fail
      refine hc.mono ?_
      rintro e W2 ⟨rfl, s2⟩
      go_wp2
      go_ret
      exact ⟨rfl, ⟨_, b, .inl rfl, HT.out.sees s2⟩, Keeps.of_sees (hS1.out.trans s2)⟩
    · go_wp2_with fail
      refine hc.mono ?_
      rintro e W2 ⟨rfl, s2⟩
      go_wp2
      go_ret
      exact ⟨rfl, ⟨_, b, .inl rfl, HT.out.sees s2⟩, Keeps.of_sees (hS1.out.trans s2)⟩
set_option maxHeartbeats 8000000 in
set_option maxRecDepth 100000 in
theorem does_size_in (h : Two w p mb q b L) (n : Int) (c : Nat) (hc : 1 ≤ c ∧ c ≤ 1000) (ha : 0 ≤ (c : Int) ∧ (c : Int) < L.length) : Calls Try.prog 11 #[ptr p, ptr q, .agg #[i64 6, i64 (c : Int), i64 n]] w (DoesP w p mb q b) := by
  have t1 : decide ((c : Int) ≥ 0) = true := decide_eq_true (by omega)
  have t1' : decide (0 ≤ (c : Int)) = true := decide_eq_true (by omega)
  have t2 : decide ((c : Int) < (L.length : Int)) = true := decide_eq_true (by omega)
  have u1 : decide ((c : Int) < 1) = false := decide_eq_false (by omega)
  have u2 : decide ((c : Int) > 1000) = false := decide_eq_false (by omega)
  have u3 : decide (1000 < (c : Int)) = false := decide_eq_false (by omega)
  have t2n : decide (c < L.length) = true := decide_eq_true (by omega)
  have A0 := AcAt.new w 6 (c : Int) n
  have hs0 := (Sees.refl w).alloc (.cells #[i64 6, i64 (c : Int), i64 n] 32)
  have H0 := h.sees hs0
  obtain ⟨c0, c1, c2⟩ := A0.cs
  obtain ⟨cap, x00, hcap⟩ := H0.rf.cs
  have hll := h.sp.2
  have hbx : p < w.heap.size ∧ mb < w.heap.size ∧ q < w.heap.size ∧ b < w.heap.size := ⟨h.sp.1.lt, h.sp.1.mlt, h.rf.lt, h.rf.blt⟩
  go_enter Try.func11, Try.ntmps11
  go_wp2_with fail
  go_quiet (fail)
  have hs1 : Sees w _ := below_drewN hs0 nq
  have A1 := A0.sees (below_drewN (Sees.refl _) nq)
  have H1 := H0.sees (below_drewN (Sees.refl _) nq)
  have x0 := Sees.cell (below_drewN (Sees.refl _) nq) x00
  obtain ⟨bx, hbxe⟩ : ∃ bx, bx = w.heap.size := ⟨_, rfl⟩
  rw [← hbxe] at A1 ⊢
  replace hbxe := Lib.hid hbxe
  generalize (w.alloc (.cells #[i64 6, i64 (c : Int), i64 n] 32)).drewN nq = W1 at hs1 A1 H1 x0 ⊢
  clear c0 c1 c2 x00 hs0 H0 A0 h
  obtain ⟨c0, c1, c2⟩ := A1.cs
  have hS1 := Lib.hid hs1
  have HA := Lib.hid A1
  have HT := Lib.hid H1
  clear hs1 A1 H1
  have hrz := rresize_at HT.out.rf c hc
  go_wp2_with (go_at_call 27; refine hrz.mono ?_)
  rintro e W2 ⟨rfl, ⟨b2, hb2, hR2⟩, hK2⟩
  have hsz := hS1.out.size
  have hP2 := HT.out.sp.keeps hK2 HT.out.n1 HT.out.n3
  have hA2 := HA.out.keeps hK2 (by have := hbxe.out; omega)
  clear c0 c1 c2
  obtain ⟨c0, c1, c2⟩ := hA2.cs
  go_wp2_with fail
  refine (resize_ok hP2 c hc).mono ?_
  rintro e W4 ⟨rfl, hP4, hK4⟩
  go_wp2
  go_ret
  exact ⟨rfl, ⟨_, b2, .inr (by omega), ⟨hP4, hR2.keeps hK4 (fun e => by rcases e with e | e; exact HT.out.n1 e.symm; exact HT.out.n3 e.symm) (fun e => by omega), HT.out.n1, by omega, HT.out.n3, by omega⟩⟩, ((Keeps.of_sees hS1.out).trans (hK2.mono fun c _ e => .inr (.inr (.inl e)))).trans (hK4.mono fun c _ e => by rcases e with e | e; exact .inl e; exact .inr (.inl e))⟩
set_option maxHeartbeats 8000000 in
set_option maxRecDepth 100000 in
theorem does_else_in (h : Two w p mb q b L) (x a n : Int) (ha : 0 ≤ a ∧ a < L.length) (hx : x < 0 ∨ 6 < x) : Calls Try.prog 11 #[ptr p, ptr q, .agg #[i64 x, i64 a, i64 n]] w (DoesP w p mb q b) := by
  have t1 : decide (a ≥ 0) = true := decide_eq_true (by omega)
  have t1' : decide (0 ≤ a) = true := decide_eq_true (by omega)
  have t2 : decide (a < (L.length : Int)) = true := decide_eq_true (by omega)
  have e0 : (x == 0) = false := beq_eq_false_iff_ne.2 (by omega)
  have e1 : (x == 1) = false := beq_eq_false_iff_ne.2 (by omega)
  have e2 : (x == 2) = false := beq_eq_false_iff_ne.2 (by omega)
  have e3 : (x == 3) = false := beq_eq_false_iff_ne.2 (by omega)
  have e4 : (x == 4) = false := beq_eq_false_iff_ne.2 (by omega)
  have e5 : (x == 5) = false := beq_eq_false_iff_ne.2 (by omega)
  have e6 : (x == 6) = false := beq_eq_false_iff_ne.2 (by omega)
  have A0 := AcAt.new w x a n
  have hs0 := (Sees.refl w).alloc (.cells #[i64 x, i64 a, i64 n] 32)
  have H0 := h.sees hs0
  obtain ⟨c0, c1, c2⟩ := A0.cs
  obtain ⟨cap, x00, hcap⟩ := H0.rf.cs
  have hll := h.sp.2
  have hbx : p < w.heap.size ∧ mb < w.heap.size ∧ q < w.heap.size ∧ b < w.heap.size := ⟨h.sp.1.lt, h.sp.1.mlt, h.rf.lt, h.rf.blt⟩
  go_enter Try.func11, Try.ntmps11
  go_wp2_with fail
  go_quiet (fail)
  have hs1 : Sees w _ := below_drewN hs0 nq
  have A1 := A0.sees (below_drewN (Sees.refl _) nq)
  have H1 := H0.sees (below_drewN (Sees.refl _) nq)
  have x0 := Sees.cell (below_drewN (Sees.refl _) nq) x00
  obtain ⟨bx, hbxe⟩ : ∃ bx, bx = w.heap.size := ⟨_, rfl⟩
  rw [← hbxe] at A1 ⊢
  replace hbxe := Lib.hid hbxe
  generalize (w.alloc (.cells #[i64 x, i64 a, i64 n] 32)).drewN nq = W1 at hs1 A1 H1 x0 ⊢
  clear c0 c1 c2 x00 hs0 H0 A0 h
  obtain ⟨c0, c1, c2⟩ := A1.cs
  have hS1 := Lib.hid hs1
  have HA := Lib.hid A1
  have HT := Lib.hid H1
  clear hs1 A1 H1
  go_wp2
  go_ret
  exact ⟨rfl, ⟨_, b, .inl rfl, HT.out⟩, Keeps.of_sees hS1.out⟩
set_option maxHeartbeats 8000000 in
set_option maxRecDepth 100000 in
theorem does_reset_out (h : Two w p mb q b L) (a n : Int) (ha : (L.length : Int) ≤ a) : Calls Try.prog 11 #[ptr p, ptr q, .agg #[i64 2, i64 a, i64 n]] w (DoesP w p mb q b) := by
  have t1 : decide (a ≥ 0) = true := decide_eq_true (by omega)
  have t1' : decide (0 ≤ a) = true := decide_eq_true (by omega)
  have t2 : decide (a < (L.length : Int)) = false := decide_eq_false (by omega)
  have A0 := AcAt.new w 2 a n
  have hs0 := (Sees.refl w).alloc (.cells #[i64 2, i64 a, i64 n] 32)
  have H0 := h.sees hs0
  obtain ⟨c0, c1, c2⟩ := A0.cs
  obtain ⟨cap, x00, hcap⟩ := H0.rf.cs
  have hll := h.sp.2
  have hbx : p < w.heap.size ∧ mb < w.heap.size ∧ q < w.heap.size ∧ b < w.heap.size := ⟨h.sp.1.lt, h.sp.1.mlt, h.rf.lt, h.rf.blt⟩
  go_enter Try.func11, Try.ntmps11
  go_wp2_with fail
  go_quiet (fail)
  have hs1 : Sees w _ := below_drewN hs0 nq
  have A1 := A0.sees (below_drewN (Sees.refl _) nq)
  have H1 := H0.sees (below_drewN (Sees.refl _) nq)
  have x0 := Sees.cell (below_drewN (Sees.refl _) nq) x00
  obtain ⟨bx, hbxe⟩ : ∃ bx, bx = w.heap.size := ⟨_, rfl⟩
  rw [← hbxe] at A1 ⊢
  replace hbxe := Lib.hid hbxe
  generalize (w.alloc (.cells #[i64 2, i64 a, i64 n] 32)).drewN nq = W1 at hs1 A1 H1 x0 ⊢
  clear c0 c1 c2 x00 hs0 H0 A0 h
  obtain ⟨c0, c1, c2⟩ := A1.cs
  have hS1 := Lib.hid hs1
  have HA := Lib.hid A1
  have HT := Lib.hid H1
  clear hs1 A1 H1
  obtain ⟨N, hN⟩ : ∃ N, N = L.length := ⟨_, rfl⟩
  have hN1 : N ≤ 1000 := by omega
  replace hN := Lib.hid hN
  clear x0 hcap
  go_wp2
  go_loopw [9] (fun x W => ∃ k : Nat, x = .int .i64 k ∧ k ≤ N ∧ RowKit.Hid (SpAt W p mb L) ∧ RowKit.Hid (RfAt W q b (offTo L k)) ∧ RowKit.Hid (Keeps (fun c => c = b) W1 W)) (fun x _ => N - (vInt x).toNat)
  case atStart => exact ⟨0, rfl, by omega, Lib.hid HT.out.sp, Lib.hid HT.out.rf, Lib.hid (Keeps.refl _ _)⟩
  case round =>
    obtain ⟨k, rfl, hk, hP, hR, hK⟩ := hrel
    obtain ⟨cap, x0, hcap⟩ := hR.out.cs
    rw [offTo_length (by have := hN.out; omega), ← hN.out] at x0 hcap
    by_cases hlt : k < N
    · have fb := hR.out.bfr k
      have xb := hR.out.rd (i := k) (by rw [offTo_length (by have := hN.out; omega)]; have := hN.out; omega)
      have hR2 := Lib.hid (hR.out.put k false)
      rw [offTo_step (by have := hN.out; omega)] at hR2
      have hKb := (Keeps.refl (fun c => c = b) wr).setCell (p := ⟨b, k, none⟩) (fun _ => rfl) (.bool false)
      have hP2 := Lib.hid (hP.out.keeps hKb HT.out.n2 HT.out.n4)
      have hK2 := Lib.hid (hK.out.trans hKb)
      clear hKb
      go_wp2
      go_roundw
      case rel => exact ⟨k + 1, by go_num, by omega, hP2, hR2, hK2⟩
      case measure => simp [vInt]; omega
    · obtain rfl : k = N := by omega
      have hR2 := hR.out
      rw [hN.out, offTo_end] at hR2
      replace hR2 := Lib.hid hR2
      have hA2 := HA.out.keeps hK.out (by have := hbxe.out; omega)
      go_wp2_with fail
      refine (reset_at hP.out).mono ?_
      rintro e W4 ⟨rfl, hP4, hK4⟩
      go_wp2
      go_ret
      exact ⟨rfl, ⟨_, b, .inl rfl, ⟨hP4, hR2.out.keeps hK4 (fun e => HT.out.n3 e.symm) (fun e => HT.out.n4 e.symm), HT.out.n1, HT.out.n2, HT.out.n3, HT.out.n4⟩⟩, ((Keeps.of_sees hS1.out).trans (hK.out.mono fun c _ e => .inr (.inr (.inr e)))).trans (hK4.mono fun c _ e => .inr (.inl e))⟩
set_option maxHeartbeats 8000000 in
set_option maxRecDepth 100000 in
theorem does_default_out (h : Two w p mb q b L) (a n : Int) (ha : (L.length : Int) ≤ a) : Calls Try.prog 11 #[ptr p, ptr q, .agg #[i64 3, i64 a, i64 n]] w (DoesP w p mb q b) := by
  have t1 : decide (a ≥ 0) = true := decide_eq_true (by omega)
  have t1' : decide (0 ≤ a) = true := decide_eq_true (by omega)
  have t2 : decide (a < (L.length : Int)) = false := decide_eq_false (by omega)
  have A0 := AcAt.new w 3 a n
  have hs0 := (Sees.refl w).alloc (.cells #[i64 3, i64 a, i64 n] 32)
  have H0 := h.sees hs0
  obtain ⟨c0, c1, c2⟩ := A0.cs
  obtain ⟨cap, x00, hcap⟩ := H0.rf.cs
  have hll := h.sp.2
  have hbx : p < w.heap.size ∧ mb < w.heap.size ∧ q < w.heap.size ∧ b < w.heap.size := ⟨h.sp.1.lt, h.sp.1.mlt, h.rf.lt, h.rf.blt⟩
  go_enter Try.func11, Try.ntmps11
  go_wp2_with fail
  go_quiet (fail)
  have hs1 : Sees w _ := below_drewN hs0 nq
  have A1 := A0.sees (below_drewN (Sees.refl _) nq)
  have H1 := H0.sees (below_drewN (Sees.refl _) nq)
  have x0 := Sees.cell (below_drewN (Sees.refl _) nq) x00
  obtain ⟨bx, hbxe⟩ : ∃ bx, bx = w.heap.size := ⟨_, rfl⟩
  rw [← hbxe] at A1 ⊢
  replace hbxe := Lib.hid hbxe
  generalize (w.alloc (.cells #[i64 3, i64 a, i64 n] 32)).drewN nq = W1 at hs1 A1 H1 x0 ⊢
  clear c0 c1 c2 x00 hs0 H0 A0 h
  obtain ⟨c0, c1, c2⟩ := A1.cs
  have hS1 := Lib.hid hs1
  have HA := Lib.hid A1
  have HT := Lib.hid H1
  clear hs1 A1 H1
  go_wp2_with fail
  refine (rnew_at W1 L.length hll).mono ?_
  rintro e W2 ⟨q2, b2, rfl, hq2, hb2, hR2, s2⟩
  have hsz := hS1.out.size
  have hT2 := HT.out.sees s2
  obtain ⟨cap2, y0, hR3⟩ := hT2.rf.turn hR2 (show q ≠ b2 by omega)
  have fq := hT2.rf.fr
  have xq := x0
  obtain ⟨cap3, x3, _⟩ := hT2.rf.cs
  have hKq := (Keeps.refl (fun c => c = q) W2).setCell (p := ⟨q, 0, none⟩) (fun _ => rfl) (.slice (some ⟨b2, 0, none⟩) (defL L.length).length cap2)
  have hP3 := Lib.hid (hT2.sp.keeps hKq hT2.n1 hT2.n3)
  have hK3 := Lib.hid ((Keeps.of_sees (F := fun c => c = p ∨ c = mb ∨ c = q ∨ c = b) (hS1.out.trans s2)).trans (hKq.mono fun c _ e => .inr (.inr (.inl e))))
  replace hR3 := Lib.hid hR3
  clear hKq
  go_wp2_with fail
  refine (default_at hP3.out).mono ?_
  rintro e W4 ⟨rfl, hP4, hK4⟩
  go_wp2
  go_ret
  exact ⟨rfl, ⟨_, b2, .inr (by omega), ⟨hP4, hR3.out.keeps hK4 (fun e => HT.out.n3 e.symm) (fun e => by omega), HT.out.n1, by omega, HT.out.n3, by omega⟩⟩, hK3.out.trans (hK4.mono fun c _ e => .inr (.inl e))⟩
set_option maxHeartbeats 8000000 in
set_option maxRecDepth 100000 in
theorem does_size_bad_out (h : Two w p mb q b L) (a n : Int) (ha : (L.length : Int) ≤ a) (hb : ¬ (1 ≤ a ∧ a ≤ 1000)) : Calls Try.prog 11 #[ptr p, ptr q, .agg #[i64 6, i64 a, i64 n]] w (DoesP w p mb q b) := by
  have t1 : decide (a ≥ 0) = true := decide_eq_true (by omega)
  have t1' : decide (0 ≤ a) = true := decide_eq_true (by omega)
  have t2 : decide (a < (L.length : Int)) = false := decide_eq_false (by omega)
  obtain ⟨u, hu⟩ : ∃ u, u = decide (a < 1) := ⟨_, rfl⟩
  have hu2 : u = true ∨ decide (a > 1000) = true := by
    rw [hu]
    by_cases h1 : a < 1
    · exact .inl (decide_eq_true h1)
    · exact .inr (decide_eq_true (by omega))
  replace hu := hu.symm
  have A0 := AcAt.new w 6 a n
  have hs0 := (Sees.refl w).alloc (.cells #[i64 6, i64 a, i64 n] 32)
  have H0 := h.sees hs0
  obtain ⟨c0, c1, c2⟩ := A0.cs
  obtain ⟨cap, x00, hcap⟩ := H0.rf.cs
  have hll := h.sp.2
  have hbx : p < w.heap.size ∧ mb < w.heap.size ∧ q < w.heap.size ∧ b < w.heap.size := ⟨h.sp.1.lt, h.sp.1.mlt, h.rf.lt, h.rf.blt⟩
  go_enter Try.func11, Try.ntmps11
  go_wp2_with fail
  go_quiet (fail)
  have hs1 : Sees w _ := below_drewN hs0 nq
  have A1 := A0.sees (below_drewN (Sees.refl _) nq)
  have H1 := H0.sees (below_drewN (Sees.refl _) nq)
  have x0 := Sees.cell (below_drewN (Sees.refl _) nq) x00
  obtain ⟨bx, hbxe⟩ : ∃ bx, bx = w.heap.size := ⟨_, rfl⟩
  rw [← hbxe] at A1 ⊢
  replace hbxe := Lib.hid hbxe
  generalize (w.alloc (.cells #[i64 6, i64 a, i64 n] 32)).drewN nq = W1 at hs1 A1 H1 x0 ⊢
  clear c0 c1 c2 x00 hs0 H0 A0 h
  obtain ⟨c0, c1, c2⟩ := A1.cs
  have hS1 := Lib.hid hs1
  have HA := Lib.hid A1
  have HT := Lib.hid H1
  clear hs1 A1 H1
  have hc := resize_bad HT.out.sp a hb
  rcases hu2 with rfl | hu3
  · go_wp2_with fail
    refine hc.mono ?_
    rintro e W2 ⟨rfl, s2⟩
    go_wp2
    go_ret
    exact ⟨rfl, ⟨_, b, .inl rfl, HT.out.sees s2⟩, Keeps.of_sees (hS1.out.trans s2)⟩
  · have hu4 : decide (1000 < a) = true := hu3
    cases u
    · go_wp2_with fail
      refine hc.mono ?_
      rintro e W2 ⟨rfl, s2⟩
      go_wp2
      go_ret
      exact ⟨rfl, ⟨_, b, .inl rfl, HT.out.sees s2⟩, Keeps.of_sees (hS1.out.trans s2)⟩
    · go_wp2_with fail
      refine hc.mono ?_
      rintro e W2 ⟨rfl, s2⟩
      go_wp2
      go_ret
      exact ⟨rfl, ⟨_, b, .inl rfl, HT.out.sees s2⟩, Keeps.of_sees (hS1.out.trans s2)⟩
set_option maxHeartbeats 8000000 in
set_option maxRecDepth 100000 in
theorem does_size_out (h : Two w p mb q b L) (n : Int) (c : Nat) (hc : 1 ≤ c ∧ c ≤ 1000) (ha : (L.length : Int) ≤ (c : Int)) : Calls Try.prog 11 #[ptr p, ptr q, .agg #[i64 6, i64 (c : Int), i64 n]] w (DoesP w p mb q b) := by
  have t1 : decide ((c : Int) ≥ 0) = true := decide_eq_true (by omega)
  have t1' : decide (0 ≤ (c : Int)) = true := decide_eq_true (by omega)
  have t2 : decide ((c : Int) < (L.length : Int)) = false := decide_eq_false (by omega)
  have u1 : decide ((c : Int) < 1) = false := decide_eq_false (by omega)
  have u2 : decide ((c : Int) > 1000) = false := decide_eq_false (by omega)
  have u3 : decide (1000 < (c : Int)) = false := decide_eq_false (by omega)
  have t2n : decide (c < L.length) = false := decide_eq_false (by omega)
  have A0 := AcAt.new w 6 (c : Int) n
  have hs0 := (Sees.refl w).alloc (.cells #[i64 6, i64 (c : Int), i64 n] 32)
  have H0 := h.sees hs0
  obtain ⟨c0, c1, c2⟩ := A0.cs
  obtain ⟨cap, x00, hcap⟩ := H0.rf.cs
  have hll := h.sp.2
  have hbx : p < w.heap.size ∧ mb < w.heap.size ∧ q < w.heap.size ∧ b < w.heap.size := ⟨h.sp.1.lt, h.sp.1.mlt, h.rf.lt, h.rf.blt⟩
  go_enter Try.func11, Try.ntmps11
  go_wp2_with fail
  go_quiet (fail)
  have hs1 : Sees w _ := below_drewN hs0 nq
  have A1 := A0.sees (below_drewN (Sees.refl _) nq)
  have H1 := H0.sees (below_drewN (Sees.refl _) nq)
  have x0 := Sees.cell (below_drewN (Sees.refl _) nq) x00
  obtain ⟨bx, hbxe⟩ : ∃ bx, bx = w.heap.size := ⟨_, rfl⟩
  rw [← hbxe] at A1 ⊢
  replace hbxe := Lib.hid hbxe
  generalize (w.alloc (.cells #[i64 6, i64 (c : Int), i64 n] 32)).drewN nq = W1 at hs1 A1 H1 x0 ⊢
  clear c0 c1 c2 x00 hs0 H0 A0 h
  obtain ⟨c0, c1, c2⟩ := A1.cs
  have hS1 := Lib.hid hs1
  have HA := Lib.hid A1
  have HT := Lib.hid H1
  clear hs1 A1 H1
  have hrz := rresize_at HT.out.rf c hc
  go_wp2_with (go_at_call 27; refine hrz.mono ?_)
  rintro e W2 ⟨rfl, ⟨b2, hb2, hR2⟩, hK2⟩
  have hsz := hS1.out.size
  have hP2 := HT.out.sp.keeps hK2 HT.out.n1 HT.out.n3
  have hA2 := HA.out.keeps hK2 (by have := hbxe.out; omega)
  clear c0 c1 c2
  obtain ⟨c0, c1, c2⟩ := hA2.cs
  go_wp2_with fail
  refine (resize_ok hP2 c hc).mono ?_
  rintro e W4 ⟨rfl, hP4, hK4⟩
  go_wp2
  go_ret
  exact ⟨rfl, ⟨_, b2, .inr (by omega), ⟨hP4, hR2.keeps hK4 (fun e => by rcases e with e | e; exact HT.out.n1 e.symm; exact HT.out.n3 e.symm) (fun e => by omega), HT.out.n1, by omega, HT.out.n3, by omega⟩⟩, ((Keeps.of_sees hS1.out).trans (hK2.mono fun c _ e => .inr (.inr (.inl e)))).trans (hK4.mono fun c _ e => by rcases e with e | e; exact .inl e; exact .inr (.inl e))⟩
set_option maxHeartbeats 8000000 in
set_option maxRecDepth 100000 in
theorem does_else_out (h : Two w p mb q b L) (x a n : Int) (ha : (L.length : Int) ≤ a) (hx : x < 0 ∨ 6 < x) : Calls Try.prog 11 #[ptr p, ptr q, .agg #[i64 x, i64 a, i64 n]] w (DoesP w p mb q b) := by
  have t1 : decide (a ≥ 0) = true := decide_eq_true (by omega)
  have t1' : decide (0 ≤ a) = true := decide_eq_true (by omega)
  have t2 : decide (a < (L.length : Int)) = false := decide_eq_false (by omega)
  have e0 : (x == 0) = false := beq_eq_false_iff_ne.2 (by omega)
  have e1 : (x == 1) = false := beq_eq_false_iff_ne.2 (by omega)
  have e2 : (x == 2) = false := beq_eq_false_iff_ne.2 (by omega)
  have e3 : (x == 3) = false := beq_eq_false_iff_ne.2 (by omega)
  have e4 : (x == 4) = false := beq_eq_false_iff_ne.2 (by omega)
  have e5 : (x == 5) = false := beq_eq_false_iff_ne.2 (by omega)
  have e6 : (x == 6) = false := beq_eq_false_iff_ne.2 (by omega)
  have A0 := AcAt.new w x a n
  have hs0 := (Sees.refl w).alloc (.cells #[i64 x, i64 a, i64 n] 32)
  have H0 := h.sees hs0
  obtain ⟨c0, c1, c2⟩ := A0.cs
  obtain ⟨cap, x00, hcap⟩ := H0.rf.cs
  have hll := h.sp.2
  have hbx : p < w.heap.size ∧ mb < w.heap.size ∧ q < w.heap.size ∧ b < w.heap.size := ⟨h.sp.1.lt, h.sp.1.mlt, h.rf.lt, h.rf.blt⟩
  go_enter Try.func11, Try.ntmps11
  go_wp2_with fail
  go_quiet (fail)
  have hs1 : Sees w _ := below_drewN hs0 nq
  have A1 := A0.sees (below_drewN (Sees.refl _) nq)
  have H1 := H0.sees (below_drewN (Sees.refl _) nq)
  have x0 := Sees.cell (below_drewN (Sees.refl _) nq) x00
  obtain ⟨bx, hbxe⟩ : ∃ bx, bx = w.heap.size := ⟨_, rfl⟩
  rw [← hbxe] at A1 ⊢
  replace hbxe := Lib.hid hbxe
  generalize (w.alloc (.cells #[i64 x, i64 a, i64 n] 32)).drewN nq = W1 at hs1 A1 H1 x0 ⊢
  clear c0 c1 c2 x00 hs0 H0 A0 h
  obtain ⟨c0, c1, c2⟩ := A1.cs
  have hS1 := Lib.hid hs1
  have HA := Lib.hid A1
  have HT := Lib.hid H1
  clear hs1 A1 H1
  go_wp2
  go_ret
  exact ⟨rfl, ⟨_, b, .inl rfl, HT.out⟩, Keeps.of_sees hS1.out⟩
set_option maxHeartbeats 8000000 in
set_option maxRecDepth 100000 in
theorem does_next_neg (h : Two w p mb q b L) (a n : Int) (ha : a < 0) : Calls Try.prog 11 #[ptr p, ptr q, .agg #[i64 4, i64 a, i64 n]] w (DoesP w p mb q b) := by
  have t1 : decide (a ≥ 0) = false := decide_eq_false (by omega)
  have t1' : decide (0 ≤ a) = false := decide_eq_false (by omega)
  have A0 := AcAt.new w 4 a n
  have hs0 := (Sees.refl w).alloc (.cells #[i64 4, i64 a, i64 n] 32)
  have H0 := h.sees hs0
  obtain ⟨c0, c1, c2⟩ := A0.cs
  obtain ⟨cap, x00, hcap⟩ := H0.rf.cs
  have hll := h.sp.2
  have hbx : p < w.heap.size ∧ mb < w.heap.size ∧ q < w.heap.size ∧ b < w.heap.size := ⟨h.sp.1.lt, h.sp.1.mlt, h.rf.lt, h.rf.blt⟩
  go_enter Try.func11, Try.ntmps11
  go_wp2_with fail
  go_quiet (fail)
  have hs1 : Sees w _ := below_drewN hs0 nq
  have A1 := A0.sees (below_drewN (Sees.refl _) nq)
  have H1 := H0.sees (below_drewN (Sees.refl _) nq)
  have x0 := Sees.cell (below_drewN (Sees.refl _) nq) x00
  obtain ⟨bx, hbxe⟩ : ∃ bx, bx = w.heap.size := ⟨_, rfl⟩
  rw [← hbxe] at A1 ⊢
  replace hbxe := Lib.hid hbxe
  generalize (w.alloc (.cells #[i64 4, i64 a, i64 n] 32)).drewN nq = W1 at hs1 A1 H1 x0 ⊢
  clear c0 c1 c2 x00 hs0 H0 A0 h
  obtain ⟨c0, c1, c2⟩ := A1.cs
  have hS1 := Lib.hid hs1
  have HA := Lib.hid A1
  have HT := Lib.hid H1
  clear hs1 A1 H1
  go_wp2_with (go_at_call 24; refine (nexts_out HT.out.sp a n (by omega)).mono ?_)
  try (rintro e W ⟨rfl, rfl⟩; go_wp2)
  go_ret
  exact ⟨rfl, ⟨_, b, .inl rfl, HT.out⟩, Keeps.of_sees hS1.out⟩
set_option maxHeartbeats 8000000 in
set_option maxRecDepth 100000 in
theorem does_next_out (h : Two w p mb q b L) (a n : Int) (ha : (L.length : Int) ≤ a) : Calls Try.prog 11 #[ptr p, ptr q, .agg #[i64 4, i64 a, i64 n]] w (DoesP w p mb q b) := by
  have t1 : decide (a ≥ 0) = true := decide_eq_true (by omega)
  have t1' : decide (0 ≤ a) = true := decide_eq_true (by omega)
  have t2 : decide (a < (L.length : Int)) = false := decide_eq_false (by omega)
  have A0 := AcAt.new w 4 a n
  have hs0 := (Sees.refl w).alloc (.cells #[i64 4, i64 a, i64 n] 32)
  have H0 := h.sees hs0
  obtain ⟨c0, c1, c2⟩ := A0.cs
  obtain ⟨cap, x00, hcap⟩ := H0.rf.cs
  have hll := h.sp.2
  have hbx : p < w.heap.size ∧ mb < w.heap.size ∧ q < w.heap.size ∧ b < w.heap.size := ⟨h.sp.1.lt, h.sp.1.mlt, h.rf.lt, h.rf.blt⟩
  go_enter Try.func11, Try.ntmps11
  go_wp2_with fail
  go_quiet (fail)
  have hs1 : Sees w _ := below_drewN hs0 nq
  have A1 := A0.sees (below_drewN (Sees.refl _) nq)
  have H1 := H0.sees (below_drewN (Sees.refl _) nq)
  have x0 := Sees.cell (below_drewN (Sees.refl _) nq) x00
  obtain ⟨bx, hbxe⟩ : ∃ bx, bx = w.heap.size := ⟨_, rfl⟩
  rw [← hbxe] at A1 ⊢
  replace hbxe := Lib.hid hbxe
  generalize (w.alloc (.cells #[i64 4, i64 a, i64 n] 32)).drewN nq = W1 at hs1 A1 H1 x0 ⊢
  clear c0 c1 c2 x00 hs0 H0 A0 h
  obtain ⟨c0, c1, c2⟩ := A1.cs
  have hS1 := Lib.hid hs1
  have HA := Lib.hid A1
  have HT := Lib.hid H1
  clear hs1 A1 H1
  go_wp2_with (go_at_call 24; refine (nexts_out HT.out.sp a n (by omega)).mono ?_)
  try (rintro e W ⟨rfl, rfl⟩; go_wp2)
  go_ret
  exact ⟨rfl, ⟨_, b, .inl rfl, HT.out⟩, Keeps.of_sees hS1.out⟩
set_option maxHeartbeats 8000000 in
set_option maxRecDepth 100000 in
theorem does_next_bad (h : Two w p mb q b L) (a n : Int) (ha : 0 ≤ a ∧ a < L.length) (hn : n < 0) : Calls Try.prog 11 #[ptr p, ptr q, .agg #[i64 4, i64 a, i64 n]] w (DoesP w p mb q b) := by
  have t1 : decide (a ≥ 0) = true := decide_eq_true (by omega)
  have t1' : decide (0 ≤ a) = true := decide_eq_true (by omega)
  have t2 : decide (a < (L.length : Int)) = true := decide_eq_true (by omega)
  have u1 : decide (n < 0) = true := decide_eq_true hn
  have A0 := AcAt.new w 4 a n
  have hs0 := (Sees.refl w).alloc (.cells #[i64 4, i64 a, i64 n] 32)
  have H0 := h.sees hs0
  obtain ⟨c0, c1, c2⟩ := A0.cs
  obtain ⟨cap, x00, hcap⟩ := H0.rf.cs
  have hll := h.sp.2
  have hbx : p < w.heap.size ∧ mb < w.heap.size ∧ q < w.heap.size ∧ b < w.heap.size := ⟨h.sp.1.lt, h.sp.1.mlt, h.rf.lt, h.rf.blt⟩
  go_enter Try.func11, Try.ntmps11
  go_wp2_with fail
  go_quiet (fail)
  have hs1 : Sees w _ := below_drewN hs0 nq
  have A1 := A0.sees (below_drewN (Sees.refl _) nq)
  have H1 := H0.sees (below_drewN (Sees.refl _) nq)
  have x0 := Sees.cell (below_drewN (Sees.refl _) nq) x00
  obtain ⟨bx, hbxe⟩ : ∃ bx, bx = w.heap.size := ⟨_, rfl⟩
  rw [← hbxe] at A1 ⊢
  replace hbxe := Lib.hid hbxe
  generalize (w.alloc (.cells #[i64 4, i64 a, i64 n] 32)).drewN nq = W1 at hs1 A1 H1 x0 ⊢
  clear c0 c1 c2 x00 hs0 H0 A0 h
  obtain ⟨c0, c1, c2⟩ := A1.cs
  have hS1 := Lib.hid hs1
  have HA := Lib.hid A1
  have HT := Lib.hid H1
  clear hs1 A1 H1
  go_wp2_with (go_at_call 24; refine (nexts_neg HT.out.sp a n ha hn).mono ?_)
  try (rintro e W ⟨rfl, rfl⟩; go_wp2)
  go_ret
  exact ⟨rfl, ⟨_, b, .inl rfl, HT.out⟩, Keeps.of_sees hS1.out⟩
set_option maxHeartbeats 8000000 in
set_option maxRecDepth 100000 in
theorem does_next (h : Two w p mb q b L)  (i m : Nat) (hi : i < L.length) (hm : m ≤ 9223372036854775807) : Calls Try.prog 11 #[ptr p, ptr q, .agg #[i64 4, i64 (i : Int), i64 (m : Int)]] w (DoesP w p mb q b) := by
  have t1 : decide ((i : Int) ≥ 0) = true := decide_eq_true (by omega)
  have t1' : decide (0 ≤ (i : Int)) = true := decide_eq_true (by omega)
  have t2 : decide ((i : Int) < (L.length : Int)) = true := decide_eq_true (by omega)
  have u1 : decide ((m : Int) < 0) = false := decide_eq_false (by omega)
  have A0 := AcAt.new w 4 (i : Int) (m : Int)
  have hs0 := (Sees.refl w).alloc (.cells #[i64 4, i64 (i : Int), i64 (m : Int)] 32)
  have H0 := h.sees hs0
  obtain ⟨c0, c1, c2⟩ := A0.cs
  obtain ⟨cap, x00, hcap⟩ := H0.rf.cs
  have hll := h.sp.2
  have hbx : p < w.heap.size ∧ mb < w.heap.size ∧ q < w.heap.size ∧ b < w.heap.size := ⟨h.sp.1.lt, h.sp.1.mlt, h.rf.lt, h.rf.blt⟩
  go_enter Try.func11, Try.ntmps11
  go_wp2_with fail
  go_quiet (fail)
  have hs1 : Sees w _ := below_drewN hs0 nq
  have A1 := A0.sees (below_drewN (Sees.refl _) nq)
  have H1 := H0.sees (below_drewN (Sees.refl _) nq)
  have x0 := Sees.cell (below_drewN (Sees.refl _) nq) x00
  obtain ⟨bx, hbxe⟩ : ∃ bx, bx = w.heap.size := ⟨_, rfl⟩
  rw [← hbxe] at A1 ⊢
  replace hbxe := Lib.hid hbxe
  generalize (w.alloc (.cells #[i64 4, i64 (i : Int), i64 (m : Int)] 32)).drewN nq = W1 at hs1 A1 H1 x0 ⊢
  clear c0 c1 c2 x00 hs0 H0 A0 h
  obtain ⟨c0, c1, c2⟩ := A1.cs
  have hS1 := Lib.hid hs1
  have HA := Lib.hid A1
  have HT := Lib.hid H1
  clear hs1 A1 H1
  have k1 := rnext_at HT.out.rf m i hi hm
  have k2 := nexts_at HT.out.sp i m _ hi hm rfl
  go_wp2_with (first | (go_at_call 28; refine k1.mono ?_) | (go_at_call 24; refine k2.mono ?_))
  try (rintro e W ⟨rfl, rfl⟩; go_wp2_with (go_at_call 24; refine k2.mono ?_))
  try (rintro e W ⟨rfl, rfl⟩; go_wp2)
  go_ret
  exact ⟨rfl, ⟨_, b, .inl rfl, HT.out⟩, Keeps.of_sees hS1.out⟩
set_option maxHeartbeats 8000000 in
set_option maxRecDepth 100000 in
theorem does_prev_neg (h : Two w p mb q b L) (a n : Int) (ha : a < 0) : Calls Try.prog 11 #[ptr p, ptr q, .agg #[i64 5, i64 a, i64 n]] w (DoesP w p mb q b) := by
  have t1 : decide (a ≥ 0) = false := decide_eq_false (by omega)
  have t1' : decide (0 ≤ a) = false := decide_eq_false (by omega)
  have A0 := AcAt.new w 5 a n
  have hs0 := (Sees.refl w).alloc (.cells #[i64 5, i64 a, i64 n] 32)
  have H0 := h.sees hs0
  obtain ⟨c0, c1, c2⟩ := A0.cs
  obtain ⟨cap, x00, hcap⟩ := H0.rf.cs
  have hll := h.sp.2
  have hbx : p < w.heap.size ∧ mb < w.heap.size ∧ q < w.heap.size ∧ b < w.heap.size := ⟨h.sp.1.lt, h.sp.1.mlt, h.rf.lt, h.rf.blt⟩
  go_enter Try.func11, Try.ntmps11
  go_wp2_with fail
  go_quiet (fail)
  have hs1 : Sees w _ := below_drewN hs0 nq
  have A1 := A0.sees (below_drewN (Sees.refl _) nq)
  have H1 := H0.sees (below_drewN (Sees.refl _) nq)
  have x0 := Sees.cell (below_drewN (Sees.refl _) nq) x00
  obtain ⟨bx, hbxe⟩ : ∃ bx, bx = w.heap.size := ⟨_, rfl⟩
  rw [← hbxe] at A1 ⊢
  replace hbxe := Lib.hid hbxe
  generalize (w.alloc (.cells #[i64 5, i64 a, i64 n] 32)).drewN nq = W1 at hs1 A1 H1 x0 ⊢
  clear c0 c1 c2 x00 hs0 H0 A0 h
  obtain ⟨c0, c1, c2⟩ := A1.cs
  have hS1 := Lib.hid hs1
  have HA := Lib.hid A1
  have HT := Lib.hid H1
  clear hs1 A1 H1
  go_wp2_with (go_at_call 25; refine (prevs_out HT.out.sp a n (by omega)).mono ?_)
  try (rintro e W ⟨rfl, rfl⟩; go_wp2)
  go_ret
  exact ⟨rfl, ⟨_, b, .inl rfl, HT.out⟩, Keeps.of_sees hS1.out⟩
set_option maxHeartbeats 8000000 in
set_option maxRecDepth 100000 in
theorem does_prev_out (h : Two w p mb q b L) (a n : Int) (ha : (L.length : Int) ≤ a) : Calls Try.prog 11 #[ptr p, ptr q, .agg #[i64 5, i64 a, i64 n]] w (DoesP w p mb q b) := by
  have t1 : decide (a ≥ 0) = true := decide_eq_true (by omega)
  have t1' : decide (0 ≤ a) = true := decide_eq_true (by omega)
  have t2 : decide (a < (L.length : Int)) = false := decide_eq_false (by omega)
  have A0 := AcAt.new w 5 a n
  have hs0 := (Sees.refl w).alloc (.cells #[i64 5, i64 a, i64 n] 32)
  have H0 := h.sees hs0
  obtain ⟨c0, c1, c2⟩ := A0.cs
  obtain ⟨cap, x00, hcap⟩ := H0.rf.cs
  have hll := h.sp.2
  have hbx : p < w.heap.size ∧ mb < w.heap.size ∧ q < w.heap.size ∧ b < w.heap.size := ⟨h.sp.1.lt, h.sp.1.mlt, h.rf.lt, h.rf.blt⟩
  go_enter Try.func11, Try.ntmps11
  go_wp2_with fail
  go_quiet (fail)
  have hs1 : Sees w _ := below_drewN hs0 nq
  have A1 := A0.sees (below_drewN (Sees.refl _) nq)
  have H1 := H0.sees (below_drewN (Sees.refl _) nq)
  have x0 := Sees.cell (below_drewN (Sees.refl _) nq) x00
  obtain ⟨bx, hbxe⟩ : ∃ bx, bx = w.heap.size := ⟨_, rfl⟩
  rw [← hbxe] at A1 ⊢
  replace hbxe := Lib.hid hbxe
  generalize (w.alloc (.cells #[i64 5, i64 a, i64 n] 32)).drewN nq = W1 at hs1 A1 H1 x0 ⊢
  clear c0 c1 c2 x00 hs0 H0 A0 h
  obtain ⟨c0, c1, c2⟩ := A1.cs
  have hS1 := Lib.hid hs1
  have HA := Lib.hid A1
  have HT := Lib.hid H1
  clear hs1 A1 H1
  go_wp2_with (go_at_call 25; refine (prevs_out HT.out.sp a n (by omega)).mono ?_)
  try (rintro e W ⟨rfl, rfl⟩; go_wp2)
  go_ret
  exact ⟨rfl, ⟨_, b, .inl rfl, HT.out⟩, Keeps.of_sees hS1.out⟩
set_option maxHeartbeats 8000000 in
set_option maxRecDepth 100000 in
theorem does_prev_bad (h : Two w p mb q b L) (a n : Int) (ha : 0 ≤ a ∧ a < L.length) (hn : n < 0) : Calls Try.prog 11 #[ptr p, ptr q, .agg #[i64 5, i64 a, i64 n]] w (DoesP w p mb q b) := by
  have t1 : decide (a ≥ 0) = true := decide_eq_true (by omega)
  have t1' : decide (0 ≤ a) = true := decide_eq_true (by omega)
  have t2 : decide (a < (L.length : Int)) = true := decide_eq_true (by omega)
  have u1 : decide (n < 0) = true := decide_eq_true hn
  have A0 := AcAt.new w 5 a n
  have hs0 := (Sees.refl w).alloc (.cells #[i64 5, i64 a, i64 n] 32)
  have H0 := h.sees hs0
  obtain ⟨c0, c1, c2⟩ := A0.cs
  obtain ⟨cap, x00, hcap⟩ := H0.rf.cs
  have hll := h.sp.2
  have hbx : p < w.heap.size ∧ mb < w.heap.size ∧ q < w.heap.size ∧ b < w.heap.size := ⟨h.sp.1.lt, h.sp.1.mlt, h.rf.lt, h.rf.blt⟩
  go_enter Try.func11, Try.ntmps11
  go_wp2_with fail
  go_quiet (fail)
  have hs1 : Sees w _ := below_drewN hs0 nq
  have A1 := A0.sees (below_drewN (Sees.refl _) nq)
  have H1 := H0.sees (below_drewN (Sees.refl _) nq)
  have x0 := Sees.cell (below_drewN (Sees.refl _) nq) x00
  obtain ⟨bx, hbxe⟩ : ∃ bx, bx = w.heap.size := ⟨_, rfl⟩
  rw [← hbxe] at A1 ⊢
  replace hbxe := Lib.hid hbxe
  generalize (w.alloc (.cells #[i64 5, i64 a, i64 n] 32)).drewN nq = W1 at hs1 A1 H1 x0 ⊢
  clear c0 c1 c2 x00 hs0 H0 A0 h
  obtain ⟨c0, c1, c2⟩ := A1.cs
  have hS1 := Lib.hid hs1
  have HA := Lib.hid A1
  have HT := Lib.hid H1
  clear hs1 A1 H1
  go_wp2_with (go_at_call 25; refine (prevs_neg HT.out.sp a n ha hn).mono ?_)
  try (rintro e W ⟨rfl, rfl⟩; go_wp2)
  go_ret
  exact ⟨rfl, ⟨_, b, .inl rfl, HT.out⟩, Keeps.of_sees hS1.out⟩
set_option maxHeartbeats 8000000 in
set_option maxRecDepth 100000 in
theorem does_prev (h : Two w p mb q b L)  (i m : Nat) (hi : i < L.length) (hm : m ≤ 9223372036854775807) : Calls Try.prog 11 #[ptr p, ptr q, .agg #[i64 5, i64 (i : Int), i64 (m : Int)]] w (DoesP w p mb q b) := by
  have t1 : decide ((i : Int) ≥ 0) = true := decide_eq_true (by omega)
  have t1' : decide (0 ≤ (i : Int)) = true := decide_eq_true (by omega)
  have t2 : decide ((i : Int) < (L.length : Int)) = true := decide_eq_true (by omega)
  have u1 : decide ((m : Int) < 0) = false := decide_eq_false (by omega)
  have A0 := AcAt.new w 5 (i : Int) (m : Int)
  have hs0 := (Sees.refl w).alloc (.cells #[i64 5, i64 (i : Int), i64 (m : Int)] 32)
  have H0 := h.sees hs0
  obtain ⟨c0, c1, c2⟩ := A0.cs
  obtain ⟨cap, x00, hcap⟩ := H0.rf.cs
  have hll := h.sp.2
  have hbx : p < w.heap.size ∧ mb < w.heap.size ∧ q < w.heap.size ∧ b < w.heap.size := ⟨h.sp.1.lt, h.sp.1.mlt, h.rf.lt, h.rf.blt⟩
  go_enter Try.func11, Try.ntmps11
  go_wp2_with fail
  go_quiet (fail)
  have hs1 : Sees w _ := below_drewN hs0 nq
  have A1 := A0.sees (below_drewN (Sees.refl _) nq)
  have H1 := H0.sees (below_drewN (Sees.refl _) nq)
  have x0 := Sees.cell (below_drewN (Sees.refl _) nq) x00
  obtain ⟨bx, hbxe⟩ : ∃ bx, bx = w.heap.size := ⟨_, rfl⟩
  rw [← hbxe] at A1 ⊢
  replace hbxe := Lib.hid hbxe
  generalize (w.alloc (.cells #[i64 5, i64 (i : Int), i64 (m : Int)] 32)).drewN nq = W1 at hs1 A1 H1 x0 ⊢
  clear c0 c1 c2 x00 hs0 H0 A0 h
  obtain ⟨c0, c1, c2⟩ := A1.cs
  have hS1 := Lib.hid hs1
  have HA := Lib.hid A1
  have HT := Lib.hid H1
  clear hs1 A1 H1
  have k1 := rprev_at HT.out.rf m i hi hm
  have k2 := prevs_at HT.out.sp i m _ hi hm rfl
  go_wp2_with (first | (go_at_call 29; refine k1.mono ?_) | (go_at_call 25; refine k2.mono ?_))
  try (rintro e W ⟨rfl, rfl⟩; go_wp2_with (go_at_call 25; refine k2.mono ?_))
  try (rintro e W ⟨rfl, rfl⟩; go_wp2)
  go_ret
  exact ⟨rfl, ⟨_, b, .inl rfl, HT.out⟩, Keeps.of_sees hS1.out⟩
/-- Each call. -/
theorem does_at (h : Two w p mb q b L) (x a n : Int) (hn : -9223372036854775808 ≤ n ∧ n ≤ 9223372036854775807) : Calls Try.prog 11 #[ptr p, ptr q, .agg #[i64 x, i64 a, i64 n]] w (DoesP w p mb q b) := by
  rcases (show a < 0 ∨ (0 ≤ a ∧ a < L.length) ∨ (L.length : Int) ≤ a by omega) with ha | ha | ha
  · rcases (show x = 0 ∨ x = 1 ∨ x = 2 ∨ x = 3 ∨ x = 4 ∨ x = 5 ∨ x = 6 ∨ (x < 0 ∨ 6 < x) by omega) with rfl | rfl | rfl | rfl | rfl | rfl | rfl | hx
    · exact does_set_neg h a n ha
    · exact does_clear_neg h a n ha
    · exact does_reset_neg h a n ha
    · exact does_default_neg h a n ha
    · exact does_next_neg h a n ha
    · exact does_prev_neg h a n ha
    · exact does_size_bad_neg h a n ha (by omega)
    · exact does_else_neg h x a n ha hx
  · obtain ⟨i, rfl⟩ : ∃ i : Nat, a = (i : Int) := ⟨a.toNat, by omega⟩
    have hi : i < L.length := by omega
    have hl := h.sp.2
    rcases (show x = 0 ∨ x = 1 ∨ x = 2 ∨ x = 3 ∨ x = 4 ∨ x = 5 ∨ x = 6 ∨ (x < 0 ∨ 6 < x) by omega) with rfl | rfl | rfl | rfl | rfl | rfl | rfl | hx
    · exact does_set h n i hi
    · exact does_clear h n i hi
    · exact does_reset_in h i n ha
    · exact does_default_in h i n ha
    · by_cases hn0 : n < 0
      · exact does_next_bad h i n ha hn0
      · obtain ⟨m, rfl⟩ : ∃ m : Nat, n = (m : Int) := ⟨n.toNat, by omega⟩
        exact does_next h i m hi (by omega)
    · by_cases hn0 : n < 0
      · exact does_prev_bad h i n ha hn0
      · obtain ⟨m, rfl⟩ : ∃ m : Nat, n = (m : Int) := ⟨n.toNat, by omega⟩
        exact does_prev h i m hi (by omega)
    · by_cases hc : 1 ≤ i
      · exact does_size_in h n i ⟨hc, by omega⟩ ha
      · exact does_size_bad_in h i n ha (by omega)
    · exact does_else_in h x i n ha hx
  · have hl := h.sp.2
    rcases (show x = 0 ∨ x = 1 ∨ x = 2 ∨ x = 3 ∨ x = 4 ∨ x = 5 ∨ x = 6 ∨ (x < 0 ∨ 6 < x) by omega) with rfl | rfl | rfl | rfl | rfl | rfl | rfl | hx
    · exact does_set_out h a n ha
    · exact does_clear_out h a n ha
    · exact does_reset_out h a n ha
    · exact does_default_out h a n ha
    · exact does_next_out h a n ha
    · exact does_prev_out h a n ha
    · by_cases hc : a ≤ 1000
      · obtain ⟨i, rfl⟩ : ∃ i : Nat, a = (i : Int) := ⟨a.toNat, by omega⟩
        exact does_size_out h n i ⟨by omega, by omega⟩ ha
      · exact does_size_bad_out h a n ha (by omega)
    · exact does_else_out h x a n ha hx
end
end Go.Proofs.Ytdblmoaimghplaa
