/- The chapter's examples. No condition. -/
import Derived.Test.YtfeoejpbmpdkaaaDoorPgS
import Derived.Test.YtfeoejpbmpdkaaaDoorLnA
namespace Go.Proofs.YtfeoejpbmpdkaaaDoor
set_option linter.unusedVariables false
set_option linter.unusedSimpArgs false
open Go.RowKit

set_option maxRecDepth 1000000 in
set_option maxHeartbeats 4000000 in
theorem known07 (w : World) (ht : Tabs w) : Calls Tryd.prog 11 #[] w fun e w' => e = .returned (.bool true) ∧ Sees w w' := by
  have Ht := Lib.hid ht
  clear ht
  go_enter Tryd.func11, Tryd.ntmps11
  go_wp2_with fail
  refine (text_any 120 _).mono ?_
  rintro e wa ⟨v1, rfl, o1, s1⟩
  go_wp2_with fail
  refine (text_any 121 _).mono ?_
  rintro e wb ⟨v2, rfl, o2, s2⟩
  go_wp2_with fail
  refine (text_any 122 _).mono ?_
  rintro e wc ⟨v3, rfl, o3, s3⟩
  obtain ⟨a1, c1, rfl⟩ := o1.slice
  obtain ⟨a2, c2, rfl⟩ := o2.slice
  obtain ⟨a3, c3, rfl⟩ := o3.slice
  have O1 := Lib.hid (o1.sees (s2.trans s3))
  have O2 := Lib.hid (o2.sees s3)
  have O3 := Lib.hid o3
  have S := Lib.hid (s1.trans (s2.trans s3))
  clear o1 o2 o3 s1 s2 s3
  rw [show [one 120].length = 1 from rfl] at *
  rw [show [one 121].length = 1 from rfl] at *
  rw [show [one 122].length = 1 from rfl] at *
  go_wp2_with fail
  refine calls_world (fun w1 hw1 => ?_)
  have X : LnAt w1 wc.heap.size (.slice a1 1 c1) false := by subst hw1; exact ((LnAt.new rfl).alloc _).alloc _
  have Y : LnAt w1 (wc.heap.size + 1) (.slice a2 1 c2) false := by subst hw1; exact (LnAt.new (by simp)).alloc _
  have Z : LnAt w1 (wc.heap.size + 1 + 1) (.slice a3 1 c3) false := by subst hw1; exact LnAt.new (by simp)
  have hcw : Sees wc w1 := by subst hw1; exact (((Sees.refl wc).alloc _).alloc _).alloc _
  clear hw1
  have R1 := Lib.hid ((O1.out.sees hcw).rdc.mono (G := fun b => b < w1.heap.size) (fun b hb _ => hb))
  have R2 := Lib.hid ((O2.out.sees hcw).rdc.mono (G := fun b => b < w1.heap.size) (fun b hb _ => hb))
  have R3 := Lib.hid ((O3.out.sees hcw).rdc.mono (G := fun b => b < w1.heap.size) (fun b hb _ => hb))
  have S1 := Lib.hid (S.out.trans hcw)
  have HV : Hid (∀ W, Sees w1 W → (W.cell? ⟨wc.heap.size, 0, none⟩ = some (.slice a1 1 c1) ∧ W.cell? ⟨wc.heap.size, 1, none⟩ = some (.bool false)) ∧
      (W.cell? ⟨wc.heap.size + 1, 0, none⟩ = some (.slice a2 1 c2) ∧ W.cell? ⟨wc.heap.size + 1, 1, none⟩ = some (.bool false)) ∧
      (W.cell? ⟨wc.heap.size + 1 + 1, 0, none⟩ = some (.slice a3 1 c3) ∧ W.cell? ⟨wc.heap.size + 1 + 1, 1, none⟩ = some (.bool false))) :=
    Lib.hid fun W hs => ⟨(X.sees hs).c, (Y.sees hs).c, (Z.sees hs).c⟩
  have HT : Hid (∀ W, Sees w1 W → Tabs W) := Lib.hid fun W hs => Ht.out.sees (S1.out.trans hs)
  have HG : Hid (∀ M, ∀ b : Nat, b < w1.heap.size → b < w1.heap.size ∨ M ≤ b) := Lib.hid fun M b h => .inl h
  generalize wc.heap.size = B at *
  clear O1 O2 O3 X Y Z hcw S Ht
  refine (new_pg 3 _ (by decide) (by decide)).mono ?_
  rintro e W0 ⟨rfl, P0⟩
  have H0 := Lib.hid P0
  obtain ⟨⟨x0, x1⟩, ⟨y0, y1⟩, ⟨z0, z1⟩⟩ := HV.out _ P0.see
  clear P0
  go_wp2_with fail
  refine wpFrom_go (by kernel_rfl) (by kernel_rfl) (fun hB W1 hs1 => ?_)
  obtain ⟨⟨x0, x1⟩, ⟨y0, y1⟩, ⟨z0, z1⟩⟩ := HV.out _ (H0.out.see.trans hs1)
  have H1 := Lib.hid (H0.out.sees hs1)
  clear hs1 H0
  refine wpFrom_to 65 hB (fun _ _ _ _ _ h => h) (by kernel_rfl) (by simp only [List.cons_append, List.nil_append, List.drop_succ_cons, List.drop_zero, List.take_succ_cons, List.take_zero, Nat.reduceSub]; rfl) ?_
  go_wp2_with fail
  refine (H1.out.push (HT.out _ H1.out.see) _ _ _ _ (R1.out.sees H1.out.see) (HG.out _) (by kernel_rfl) (by decide)).mono ?_
  rintro e W2 ⟨rfl, hs, _⟩; clear x0 x1 y0 y1 z0 z1; have H2 : Hid (PgS w1 (W2).heap.size W2 w1.heap.size 3 0 [⟨[one 120], false⟩]) := Lib.hid hs.top; clear hs; obtain ⟨⟨x0, x1⟩, ⟨y0, y1⟩, ⟨z0, z1⟩⟩ := HV.out _ (H2).out.see; go_wp2_with fail
  refine (H2.out.push (HT.out _ H2.out.see) _ _ _ _ (R2.out.sees H2.out.see) (HG.out _) (by kernel_rfl) (by decide)).mono ?_
  rintro e W3 ⟨rfl, hs, _⟩; clear x0 x1 y0 y1 z0 z1; have H3 : Hid (PgS w1 (W3).heap.size W3 w1.heap.size 3 0 [⟨[one 120], false⟩, ⟨[one 121], false⟩]) := Lib.hid hs.top; clear hs; obtain ⟨⟨x0, x1⟩, ⟨y0, y1⟩, ⟨z0, z1⟩⟩ := HV.out _ (H3).out.see; go_wp2_with fail
  refine (H3.out.drop 1 (by decide)).mono ?_
  rintro e W4 ⟨rfl, hs, _⟩; clear x0 x1 y0 y1 z0 z1; have H4 : Hid (PgS w1 (W4).heap.size W4 w1.heap.size 3 1 [⟨[one 121], false⟩]) := Lib.hid hs.top; clear hs; obtain ⟨⟨x0, x1⟩, ⟨y0, y1⟩, ⟨z0, z1⟩⟩ := HV.out _ (H4).out.see; go_wp2_with fail
  refine (H4.out.gets 0 ⟨[one 121], false⟩ rfl _ (R2.out.sees H4.out.see).rd).mono ?_
  rintro e W5 ⟨rfl, hs⟩; clear x0 x1 y0 y1 z0 z1; have H5 := Lib.hid ((H4).out.sees hs); clear hs; obtain ⟨⟨x0, x1⟩, ⟨y0, y1⟩, ⟨z0, z1⟩⟩ := HV.out _ (H5).out.see; go_wp2_with fail
  refine (H5.out.roomIs 1 (by decide)).mono ?_
  rintro e W6 ⟨rfl, hs⟩; clear x0 x1 y0 y1 z0 z1; have H6 := Lib.hid ((H5).out.sees hs); clear hs; obtain ⟨⟨x0, x1⟩, ⟨y0, y1⟩, ⟨z0, z1⟩⟩ := HV.out _ (H6).out.see; go_wp2_with fail
  refine (H6.out.goneIs 1 rfl).mono ?_
  rintro e W7 ⟨rfl, hs⟩; clear x0 x1 y0 y1 z0 z1; have H7 := Lib.hid ((H6).out.sees hs); clear hs; obtain ⟨⟨x0, x1⟩, ⟨y0, y1⟩, ⟨z0, z1⟩⟩ := HV.out _ (H7).out.see; go_wp2_with fail
  refine (H7.out.push (HT.out _ H7.out.see) _ _ _ _ (R3.out.sees H7.out.see) (HG.out _) (by kernel_rfl) (by decide)).mono ?_
  rintro e W8 ⟨rfl, hs, _⟩; clear x0 x1 y0 y1 z0 z1; have H8 : Hid (PgS w1 (W8).heap.size W8 w1.heap.size 3 1 [⟨[one 121], false⟩, ⟨[one 122], false⟩]) := Lib.hid hs.top; clear hs; obtain ⟨⟨x0, x1⟩, ⟨y0, y1⟩, ⟨z0, z1⟩⟩ := HV.out _ (H8).out.see; go_wp2_with fail
  refine (H8.out.push_full (HT.out _ H8.out.see) _ _ _ (R1.out.sees H8.out.see).rd (by kernel_rfl) (by decide)).mono ?_
  rintro e W9 ⟨rfl, hs⟩; clear x0 x1 y0 y1 z0 z1; have H9 := Lib.hid ((H8).out.sees hs); clear hs; obtain ⟨⟨x0, x1⟩, ⟨y0, y1⟩, ⟨z0, z1⟩⟩ := HV.out _ (H9).out.see; go_wp2_with fail
  refine (PgS.pops (ls := [⟨[one 121], false⟩]) ⟨[one 122], false⟩ H9.out _ _ (R3.out.sees H9.out.see) (HG.out _)).mono ?_
  rintro e W10 ⟨rfl, hs, _⟩; clear x0 x1 y0 y1 z0 z1; have H10 : Hid (PgS w1 (W10).heap.size W10 w1.heap.size 3 1 [⟨[one 121], false⟩]) := Lib.hid hs.top; clear hs; obtain ⟨⟨x0, x1⟩, ⟨y0, y1⟩, ⟨z0, z1⟩⟩ := HV.out _ (H10).out.see; go_wp2_with fail
  refine (H10.out.push (HT.out _ H10.out.see) _ _ _ _ (R1.out.sees H10.out.see) (HG.out _) (by kernel_rfl) (by decide)).mono ?_
  rintro e W11 ⟨rfl, hs, _⟩; clear x0 x1 y0 y1 z0 z1; have H11 : Hid (PgS w1 (W11).heap.size W11 w1.heap.size 3 1 [⟨[one 121], false⟩, ⟨[one 120], false⟩]) := Lib.hid hs.top; clear hs; obtain ⟨⟨x0, x1⟩, ⟨y0, y1⟩, ⟨z0, z1⟩⟩ := HV.out _ (H11).out.see; go_wp2_with fail
  have hval : ∀ x v, (Spec.is x).val v = x := fun _ _ => rfl
  have hval2 : ∀ V v, (Spec.so V).val v = v := fun _ _ => rfl
  have hst12 : segStay (Sees W11) [.so (fun x W => OwnL (fun b => W11.heap.size ≤ b) W x [⟨[one 121], false⟩, ⟨[one 120], false⟩]), .is (.agg #[.slice a2 1 c2, .bool false]), .is (.agg #[.slice a1 1 c1, .bool false]),
      .so (fun x W => ∃ b, x = .slice (some ⟨b, 0, none⟩) 2 2 ∧ W.heap[b]? = some (.cells #[.slice a2 1 c2, .bool false, .slice a1 1 c1, .bool false] 31 (0, 0)))] :=
    ⟨fun u W W' _ h hs => h.sees hs, fun u W W' _ ⟨b, h1, h2⟩ hs => ⟨b, h1, by rw [hs.block _ (Array.getElem?_eq_some_iff.1 h2).1]; exact h2⟩, trivial⟩
  refine wpFrom_any 69 _ hB (by kernel_rfl) rfl hst12 (by simp only [List.cons_append, List.nil_append, List.drop_succ_cons, List.drop_zero, List.take_succ_cons, List.take_zero, Nat.reduceSub]; rfl) ?_
  refine ⟨fun vs W hI hV => .inl ⟨by clear hV; go_simp, .inr (.inr ⟨25, #[.pointer (some ⟨w1.heap.size, 0, none⟩)], by clear hV; go_simp, ?_⟩)⟩, ?_⟩
  · refine (((H11.out.sees hI).lines)).mono ?_
    rintro e w' ⟨v', rfl, ho, hs⟩
    exact ⟨v', rfl, rgGood_mk hst12 hI (ho.mono (fun b _ h => Nat.le_trans hI.size h)) hs⟩
  refine ⟨fun vs W hI hV => .inl ⟨by clear hV; go_simp, .inl (by have q := HV.out _ (H11.out.see.trans hI); clear hI hV; obtain ⟨⟨q0, q1⟩, ⟨q2, q3⟩, ⟨q4, q5⟩⟩ := q; go_simp)⟩, ?_⟩
  refine ⟨fun vs W hI hV => .inl ⟨by clear hV; go_simp, .inl (by have q := HV.out _ (H11.out.see.trans hI); clear hI hV; obtain ⟨⟨q0, q1⟩, ⟨q2, q3⟩, ⟨q4, q5⟩⟩ := q; go_simp)⟩, ?_⟩
  refine ⟨fun vs W hI hV => .inl ⟨by clear hV; go_simp, .inl ⟨.slice (some ⟨W.heap.size, 0, none⟩) 2 2, W.alloc (.cells #[.slice a2 1 c2, .bool false, .slice a1 1 c1, .bool false] 31), by clear hI hV; go_simp, rgGood_mk hst12 hI ⟨_, rfl, heap_alloc_new _ _⟩ ((Sees.refl W).alloc _)⟩⟩, ?_⟩
  intro vs W12 hI hV
  obtain ⟨b12, eb, hrow⟩ := hV 68 _ rfl
  have hl : OwnL (fun b => W11.heap.size ≤ b) W12 (vs 65) [⟨[one 121], false⟩, ⟨[one 120], false⟩] := hV 65 _ rfl
  obtain ⟨ao12, cc12, el⟩ := hl.slice
  have HL12 := Lib.hid hl
  have Hrow12 := Lib.hid hrow
  have H12 := Lib.hid (H11.out.sees hI)
  clear hl hrow hI hV hst12 x0 x1 y0 y1 z0 z1
  obtain ⟨⟨x0, x1⟩, ⟨y0, y1⟩, ⟨z0, z1⟩⟩ := HV.out _ (H12).out.see
  go_simp
  rw [el] at HL12
  clear eb el
  refine wpFrom_to 72 hB (fun _ _ _ _ _ h => h) (by kernel_rfl) (by simp only [List.cons_append, List.nil_append, List.drop_succ_cons, List.drop_zero, List.take_succ_cons, List.take_zero, Nat.reduceSub]; rfl) ?_
  go_wp2_with fail
  refine (all_true _ (fun _ => True) _ _ [⟨[one 121], false⟩, ⟨[one 120], false⟩] _ _ HL12.out.rdl (rdl_row (b := b12) (cap := 2) [(.slice a2 1 c2, ⟨[one 121], false⟩), (.slice a1 1 c1, ⟨[one 120], false⟩)] Hrow12.out trivial (by
    intro r hr
    simp only [List.mem_cons, List.not_mem_nil, or_false] at hr
    rcases hr with rfl | rfl
    · exact (R2.out.sees H12.out.see).mono (fun _ _ _ => trivial)
    · exact (R1.out.sees H12.out.see).mono (fun _ _ _ => trivial))) (by decide) H12.out.lenc rfl).mono ?_
  rintro e W13 ⟨rfl, hs⟩; clear x0 x1 y0 y1 z0 z1; have H13 := Lib.hid ((H12).out.sees hs); clear hs; obtain ⟨⟨x0, x1⟩, ⟨y0, y1⟩, ⟨z0, z1⟩⟩ := HV.out _ (H13).out.see; go_wp2_with fail
  refine wpFrom_end rfl ?_; go_wp2
  refine wpFrom_go (by kernel_rfl) (by kernel_rfl) (fun hB2 W14 hs14 => ?_)
  clear hB
  have h13 : Sees W13 W14 := (((Sees.refl W13).alloc _).alloc _).trans hs14
  have BB : LnAt W14 (W13.heap.size + 1) (.slice (some ⟨W13.heap.size, 0, none⟩) 1 1) false := (LnAt.new (by simp)).sees hs14
  have BC : Hid (OwnCells W14 W13.heap.size (.slice (some ⟨W13.heap.size, 0, none⟩) 1 1) [⟨0, 0, 0, 0, 0, 0, 0, 0, 0, 0, 0, 0, 0, 0, 0, 0⟩]) :=
    Lib.hid ⟨rfl, .inr ⟨W13.heap.size, 1, (Cell.vals ⟨0, 0, 0, 0, 0, 0, 0, 0, 0, 0, 0, 0, 0, 0, 0, 0⟩).toArray, rfl, Nat.le_refl _, by rw [(((Sees.refl (W13.alloc _)).alloc _).trans hs14).block W13.heap.size (by simp)]; exact heap_alloc_new _ _, Nat.le_refl _, by unfold maxLen; omega, rfl, rfl⟩⟩
  have H14 := Lib.hid (H13.out.sees h13)
  have HBB := Lib.hid BB
  have Hn13 : Hid (W11.heap.size ≤ W13.heap.size) := Lib.hid H13.out.le
  have S14 := Lib.hid (Sees.refl W14)
  generalize W13.heap.size = n13 at *
  clear hs14 h13 BB x0 x1 y0 y1 z0 z1
  obtain ⟨⟨x0, x1⟩, ⟨y0, y1⟩, ⟨z0, z1⟩⟩ := HV.out _ (H14).out.see
  refine wpFrom_to 31 hB2 (fun _ _ _ _ _ h => h) (by kernel_rfl) (by simp only [List.cons_append, List.nil_append, List.drop_succ_cons, List.drop_zero, List.take_succ_cons, List.take_zero, Nat.reduceSub]; rfl) ?_
  go_wp2_with fail
  refine (none_true 0 _ (by decide)).mono ?_
  rintro e W15 ⟨rfl, hs⟩; clear x0 x1 y0 y1 z0 z1; have H15 := Lib.hid ((H14).out.sees hs); have S15 := Lib.hid ((S14).out.trans hs); clear hs; obtain ⟨⟨x0, x1⟩, ⟨y0, y1⟩, ⟨z0, z1⟩⟩ := HV.out _ (H15).out.see; go_wp2_with fail
  refine (none_true 1025 _ (by decide)).mono ?_
  rintro e W16 ⟨rfl, hs⟩; clear x0 x1 y0 y1 z0 z1; have H16 := Lib.hid ((H15).out.sees hs); have S16 := Lib.hid ((S15).out.trans hs); clear hs; obtain ⟨⟨x0, x1⟩, ⟨y0, y1⟩, ⟨z0, z1⟩⟩ := HV.out _ (H16).out.see; go_wp2_with fail
  refine (H16.out.gets_range 2 (by decide)).mono ?_
  rintro e W17 ⟨rfl, hs⟩; clear x0 x1 y0 y1 z0 z1; have H17 := Lib.hid ((H16).out.sees hs); have S17 := Lib.hid ((S16).out.trans hs); clear hs; obtain ⟨⟨x0, x1⟩, ⟨y0, y1⟩, ⟨z0, z1⟩⟩ := HV.out _ (H17).out.see; go_wp2_with fail
  refine (H17.out.gets_range (-1) (by decide)).mono ?_
  rintro e W18 ⟨rfl, hs⟩; clear x0 x1 y0 y1 z0 z1; have H18 := Lib.hid ((H17).out.sees hs); have S18 := Lib.hid ((S17).out.trans hs); clear hs; obtain ⟨⟨x0, x1⟩, ⟨y0, y1⟩, ⟨z0, z1⟩⟩ := HV.out _ (H18).out.see; go_wp2_with fail
  refine (H18.out.drop_range 3 (by decide)).mono ?_
  rintro e W19 ⟨rfl, hs⟩; clear x0 x1 y0 y1 z0 z1; have H19 := Lib.hid ((H18).out.sees hs); have S19 := Lib.hid ((S18).out.trans hs); clear hs; obtain ⟨⟨x0, x1⟩, ⟨y0, y1⟩, ⟨z0, z1⟩⟩ := HV.out _ (H19).out.see; go_wp2_with fail
  refine (H19.out.set (HT.out _ H19.out.see) _ 1 (by decide) _ _ _ (R3.out.sees H19.out.see) (HG.out _) (by kernel_rfl)).mono ?_
  rintro e W20 ⟨rfl, hs, hk⟩
  clear x0 x1 y0 y1 z0 z1
  have H20 : Hid (PgS w1 W20.heap.size W20 w1.heap.size 3 1 [⟨[one 121], false⟩, ⟨[one 122], false⟩]) := Lib.hid hs.top
  have BB20 : Hid (LnAt W20 (n13 + 1) (.slice (some ⟨n13, 0, none⟩) 1 1) false) := Lib.hid ((HBB.out.sees S19.out).keeps hk (fun h => by have := Hn13.out; omega))
  have BC20 := Lib.hid ((BC.out.sees S19.out).keeps hk (fun b hb h => by have e2 : n13 = b := (by cases hb; rfl); have := Hn13.out; omega))
  clear hs hk
  obtain ⟨⟨x0, x1⟩, ⟨y0, y1⟩, ⟨z0, z1⟩⟩ := HV.out _ (H20).out.see
  go_wp2_with fail
  have hst21 : segStay (Sees W20) [.so (fun x W => OwnL (fun b => W20.heap.size ≤ b) W x [⟨[one 121], false⟩, ⟨[one 122], false⟩]), .is (.agg #[.slice a2 1 c2, .bool false]), .is (.agg #[.slice a3 1 c3, .bool false]),
      .so (fun x W => ∃ b, x = .slice (some ⟨b, 0, none⟩) 2 2 ∧ W.heap[b]? = some (.cells #[.slice a2 1 c2, .bool false, .slice a3 1 c3, .bool false] 31 (0, 0)))] :=
    ⟨fun u W W' _ h hs => h.sees hs, fun u W W' _ ⟨b, h1, h2⟩ hs => ⟨b, h1, by rw [hs.block _ (Array.getElem?_eq_some_iff.1 h2).1]; exact h2⟩, trivial⟩
  refine wpFrom_any 35 _ hB2 (by kernel_rfl) rfl hst21 (by simp only [List.cons_append, List.nil_append, List.drop_succ_cons, List.drop_zero, List.take_succ_cons, List.take_zero, Nat.reduceSub]; rfl) ?_
  refine ⟨fun vs W hI hV => .inl ⟨by clear hV; go_simp, .inr (.inr ⟨25, #[.pointer (some ⟨w1.heap.size, 0, none⟩)], by clear hV; go_simp, ?_⟩)⟩, ?_⟩
  · refine (((H20.out.sees hI).lines)).mono ?_
    rintro e w' ⟨v', rfl, ho, hs⟩
    exact ⟨v', rfl, rgGood_mk hst21 hI (ho.mono (fun b _ h => Nat.le_trans hI.size h)) hs⟩
  refine ⟨fun vs W hI hV => .inl ⟨by clear hV; go_simp, .inl (by have q := HV.out _ (H20.out.see.trans hI); clear hI hV; obtain ⟨⟨q0, q1⟩, ⟨q2, q3⟩, ⟨q4, q5⟩⟩ := q; go_simp)⟩, ?_⟩
  refine ⟨fun vs W hI hV => .inl ⟨by clear hV; go_simp, .inl (by have q := HV.out _ (H20.out.see.trans hI); clear hI hV; obtain ⟨⟨q0, q1⟩, ⟨q2, q3⟩, ⟨q4, q5⟩⟩ := q; go_simp)⟩, ?_⟩
  refine ⟨fun vs W hI hV => .inl ⟨by clear hV; go_simp, .inl ⟨.slice (some ⟨W.heap.size, 0, none⟩) 2 2, W.alloc (.cells #[.slice a2 1 c2, .bool false, .slice a3 1 c3, .bool false] 31), by clear hI hV; go_simp, rgGood_mk hst21 hI ⟨_, rfl, heap_alloc_new _ _⟩ ((Sees.refl W).alloc _)⟩⟩, ?_⟩
  intro vs W21 hI hV
  obtain ⟨b21, eb, hrow⟩ := hV 34 _ rfl
  have hl : OwnL (fun b => W20.heap.size ≤ b) W21 (vs 31) [⟨[one 121], false⟩, ⟨[one 122], false⟩] := hV 31 _ rfl
  obtain ⟨ao21, cc21, el⟩ := hl.slice
  have HL21 := Lib.hid hl
  have Hrow21 := Lib.hid hrow
  have H21 := Lib.hid (H20.out.sees hI)
  have BB21 := Lib.hid (BB20.out.sees hI)
  have BC21 := Lib.hid (BC20.out.sees hI)
  clear hl hrow hI hV hst21 x0 x1 y0 y1 z0 z1
  obtain ⟨⟨x0, x1⟩, ⟨y0, y1⟩, ⟨z0, z1⟩⟩ := HV.out _ (H21).out.see
  go_simp
  rw [el] at HL21
  clear eb el
  refine wpFrom_to 44 hB2 (fun _ _ _ _ _ h => h) (by kernel_rfl) (by simp only [List.cons_append, List.nil_append, List.drop_succ_cons, List.drop_zero, List.take_succ_cons, List.take_zero, Nat.reduceSub]; rfl) ?_
  go_wp2_with fail
  refine (all_true _ (fun _ => True) _ _ [⟨[one 121], false⟩, ⟨[one 122], false⟩] _ _ HL21.out.rdl (rdl_row (b := b21) (cap := 2) [(.slice a2 1 c2, ⟨[one 121], false⟩), (.slice a3 1 c3, ⟨[one 122], false⟩)] Hrow21.out trivial (by
    intro r hr
    simp only [List.mem_cons, List.not_mem_nil, or_false] at hr
    rcases hr with rfl | rfl
    · exact (R2.out.sees H21.out.see).mono (fun _ _ _ => trivial)
    · exact (R3.out.sees H21.out.see).mono (fun _ _ _ => trivial))) (by decide) H21.out.lenc rfl).mono ?_
  rintro e W22 ⟨rfl, hs⟩
  clear x0 x1 y0 y1 z0 z1
  have H22 := Lib.hid (H21.out.sees hs)
  obtain ⟨⟨x0, x1⟩, ⟨y0, y1⟩, ⟨z0, z1⟩⟩ := HV.out _ (H22).out.see
  obtain ⟨b0, b1⟩ := (BB21.out.sees hs).c
  have BC22 := Lib.hid (BC21.out.sees hs)
  clear hs
  go_wp2_with fail
  refine (H22.out.push_bad (HT.out _ H22.out.see) _ _ _ BC22.out.rd (by decide) (by kernel_rfl)).mono ?_
  rintro e W23 ⟨rfl, hs⟩
  have H23 := Lib.hid (H22.out.sees hs)
  clear hs x0 x1 y0 y1 z0 z1 b0 b1
  go_wp2_with fail
  refine wpFrom_end rfl ?_
  clear hB2
  go_wp2_with fail
  refine (H23.out.drop 2 (by decide)).mono ?_
  rintro e W24 ⟨rfl, hs, _⟩
  have H24 : Hid (PgS w1 W24.heap.size W24 w1.heap.size 3 3 []) := Lib.hid hs.top
  clear hs
  go_wp2_with fail
  refine (H24.out.lenIs 0 (by decide)).mono ?_
  rintro e W25 ⟨rfl, hs⟩
  have H25 := Lib.hid (H24.out.sees hs)
  clear hs
  go_wp2_with fail
  refine (H25.out.roomIs 0 (by decide)).mono ?_
  rintro e W26 ⟨rfl, hs⟩
  have H26 := Lib.hid (H25.out.sees hs)
  clear hs
  go_wp2_with fail
  refine H26.out.pops_none.mono ?_
  rintro e W27 ⟨rfl, hs⟩
  have H27 := Lib.hid (H26.out.sees hs)
  clear hs
  go_wp2_with fail
  refine H27.out.pgcap.mono ?_
  rintro e W28 ⟨rfl, hs⟩
  have H28 := Lib.hid (H27.out.sees hs)
  clear hs
  go_wp2
  go_ret
  exact ⟨rfl, S1.out.trans H28.out.see⟩
end Go.Proofs.YtfeoejpbmpdkaaaDoor
