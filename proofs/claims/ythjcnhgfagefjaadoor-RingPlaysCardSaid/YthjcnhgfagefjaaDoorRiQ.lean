/- The chapter's examples of rings. No condition. -/
import Derived.Test.YthjcnhgfagefjaaDoorRiP
import Derived.Test.YthjcnhgfagefjaaDoorLnA
namespace Go.Proofs.YthjcnhgfagefjaaDoor
set_option linter.unusedVariables false
set_option linter.unusedSimpArgs false
open Go.RowKit

set_option maxRecDepth 1000000 in
set_option maxHeartbeats 8000000 in
theorem known08 (w : World) (ht : Tabs w) : Calls Tryd.prog 5 #[] w fun e w' => e = .returned (.bool true) ∧ Sees w w' := by
  have Ht := Lib.hid ht
  clear ht
  go_enter Tryd.func5, Tryd.ntmps5
  go_wp2_with fail
  refine (rtext_any 97 _).mono ?_
  rintro e wa ⟨v1, rfl, o1, s1⟩
  go_wp2_with fail
  refine (rtext_any 98 _).mono ?_
  rintro e wb ⟨v2, rfl, o2, s2⟩
  go_wp2_with fail
  refine (rtext_any 99 _).mono ?_
  rintro e wc ⟨v3, rfl, o3, s3⟩
  go_wp2_with fail
  refine (rtext_any 100 _).mono ?_
  rintro e wd ⟨v4, rfl, o4, s4⟩
  go_wp2_with fail
  refine (rtext_any 101 _).mono ?_
  rintro e we ⟨v5, rfl, o5, s5⟩
  obtain ⟨a1, c1, rfl⟩ := o1.slice
  obtain ⟨a2, c2, rfl⟩ := o2.slice
  obtain ⟨a3, c3, rfl⟩ := o3.slice
  obtain ⟨a4, c4, rfl⟩ := o4.slice
  obtain ⟨a5, c5, rfl⟩ := o5.slice
  have O1 := Lib.hid (o1.sees (s2.trans (s3.trans (s4.trans (s5)))))
  have O2 := Lib.hid (o2.sees (s3.trans (s4.trans (s5))))
  have O3 := Lib.hid (o3.sees (s4.trans (s5)))
  have O4 := Lib.hid (o4.sees (s5))
  have O5 := Lib.hid o5
  have S := Lib.hid (s1.trans (s2.trans (s3.trans (s4.trans (s5)))))
  clear o1 o2 o3 o4 o5 s1 s2 s3 s4 s5
  rw [show [one 97].length = 1 from rfl] at *
  rw [show [one 98].length = 1 from rfl] at *
  rw [show [one 99].length = 1 from rfl] at *
  rw [show [one 100].length = 1 from rfl] at *
  rw [show [one 101].length = 1 from rfl] at *
  go_wp2_with fail
  refine calls_world (fun w1 hw1 => ?_)
  have X1 : LnAt w1 we.heap.size (.slice a1 1 c1) false := by subst hw1; exact (((((LnAt.new rfl).alloc _).alloc _).alloc _).alloc _)
  have X2 : LnAt w1 (we.heap.size + 1) (.slice a2 1 c2) false := by subst hw1; exact ((((LnAt.new (by simp)).alloc _).alloc _).alloc _)
  have X3 : LnAt w1 (we.heap.size + 1 + 1) (.slice a3 1 c3) false := by subst hw1; exact (((LnAt.new (by simp)).alloc _).alloc _)
  have X4 : LnAt w1 (we.heap.size + 1 + 1 + 1) (.slice a4 1 c4) false := by subst hw1; exact ((LnAt.new (by simp)).alloc _)
  have X5 : LnAt w1 (we.heap.size + 1 + 1 + 1 + 1) (.slice a5 1 c5) false := by subst hw1; exact (LnAt.new (by simp))
  have hcw : Sees we w1 := by subst hw1; exact ((((((Sees.refl we).alloc _).alloc _).alloc _).alloc _).alloc _)
  clear hw1
  have R1 := Lib.hid ((O1.out.sees hcw).rdc.mono (G := fun b => b < w1.heap.size) (fun b hb _ => hb))
  have R2 := Lib.hid ((O2.out.sees hcw).rdc.mono (G := fun b => b < w1.heap.size) (fun b hb _ => hb))
  have R3 := Lib.hid ((O3.out.sees hcw).rdc.mono (G := fun b => b < w1.heap.size) (fun b hb _ => hb))
  have R4 := Lib.hid ((O4.out.sees hcw).rdc.mono (G := fun b => b < w1.heap.size) (fun b hb _ => hb))
  have R5 := Lib.hid ((O5.out.sees hcw).rdc.mono (G := fun b => b < w1.heap.size) (fun b hb _ => hb))
  have S1 := Lib.hid (S.out.trans hcw)
  have HV : Hid (∀ W, Sees w1 W → (W.cell? ⟨we.heap.size, 0, none⟩ = some (.slice a1 1 c1) ∧ W.cell? ⟨we.heap.size, 1, none⟩ = some (.bool false)) ∧
      (W.cell? ⟨we.heap.size + 1, 0, none⟩ = some (.slice a2 1 c2) ∧ W.cell? ⟨we.heap.size + 1, 1, none⟩ = some (.bool false)) ∧
      (W.cell? ⟨we.heap.size + 1 + 1, 0, none⟩ = some (.slice a3 1 c3) ∧ W.cell? ⟨we.heap.size + 1 + 1, 1, none⟩ = some (.bool false)) ∧
      (W.cell? ⟨we.heap.size + 1 + 1 + 1, 0, none⟩ = some (.slice a4 1 c4) ∧ W.cell? ⟨we.heap.size + 1 + 1 + 1, 1, none⟩ = some (.bool false)) ∧
      (W.cell? ⟨we.heap.size + 1 + 1 + 1 + 1, 0, none⟩ = some (.slice a5 1 c5) ∧ W.cell? ⟨we.heap.size + 1 + 1 + 1 + 1, 1, none⟩ = some (.bool false))) :=
    Lib.hid fun W hs => ⟨(X1.sees hs).c, (X2.sees hs).c, (X3.sees hs).c, (X4.sees hs).c, (X5.sees hs).c⟩
  have HG : Hid (∀ M, ∀ b : Nat, b < w1.heap.size → b < w1.heap.size ∨ M ≤ b) := Lib.hid fun M b h => .inl h
  have HT : Hid (Tabs w1) := Lib.hid (Ht.out.sees S1.out)
  generalize we.heap.size = B at *
  clear O1 O2 O3 O4 O5 X1 X2 X3 X4 X5 hcw S Ht
  refine (new_rgs 3 2 _ (by decide) (by decide) (by decide) (by decide)).mono ?_
  rintro e W0 ⟨rfl, P0⟩
  have H0 := Lib.hid P0
  obtain ⟨⟨p0, p1⟩, ⟨q0, q1⟩, ⟨x0, x1⟩, ⟨y0, y1⟩, ⟨z0, z1⟩⟩ := HV.out _ P0.see
  clear P0
  go_wp2_with fail
  refine (H0.out.pushes HT.out (by decide) _ _ _ _ (R1.out.sees H0.out.see) (HG.out _) (by kernel_rfl) 0 rfl 0 rfl).mono ?_
  rintro e W1 ⟨rfl, hs, _⟩
  clear p0 p1 q0 q1 x0 x1 y0 y1 z0 z1
  have H1 : Hid (RgS w1 W1.heap.size W1 w1.heap.size 3 2 0 [⟨[one 97], false⟩] [(0, 1)]) := Lib.hid hs
  clear hs H0
  obtain ⟨⟨p0, p1⟩, ⟨q0, q1⟩, ⟨x0, x1⟩, ⟨y0, y1⟩, ⟨z0, z1⟩⟩ := HV.out _ H1.out.see
  go_wp2_with fail
  refine (H1.out.pushes HT.out (by decide) _ _ _ _ (R2.out.sees H1.out.see) (HG.out _) (by kernel_rfl) 0 rfl 1 rfl).mono ?_
  rintro e W2 ⟨rfl, hs, _⟩
  clear p0 p1 q0 q1 x0 x1 y0 y1 z0 z1
  have H2 : Hid (RgS w1 W2.heap.size W2 w1.heap.size 3 2 0 [⟨[one 97], false⟩, ⟨[one 98], false⟩] [(0, 2)]) := Lib.hid hs
  clear hs H1
  obtain ⟨⟨p0, p1⟩, ⟨q0, q1⟩, ⟨x0, x1⟩, ⟨y0, y1⟩, ⟨z0, z1⟩⟩ := HV.out _ H2.out.see
  go_wp2_with fail
  refine (H2.out.pushes HT.out (by decide) _ _ _ _ (R3.out.sees H2.out.see) (HG.out _) (by kernel_rfl) 0 rfl 2 rfl).mono ?_
  rintro e W3 ⟨rfl, hs, _⟩
  clear p0 p1 q0 q1 x0 x1 y0 y1 z0 z1
  have H3 : Hid (RgS w1 W3.heap.size W3 w1.heap.size 3 2 0 [⟨[one 97], false⟩, ⟨[one 98], false⟩, ⟨[one 99], false⟩] [(0, 2), (0, 1)]) := Lib.hid hs
  clear hs H2
  obtain ⟨⟨p0, p1⟩, ⟨q0, q1⟩, ⟨x0, x1⟩, ⟨y0, y1⟩, ⟨z0, z1⟩⟩ := HV.out _ H3.out.see
  go_wp2_with fail
  refine (H3.out.rgpages 2 rfl).mono ?_
  rintro e W4 ⟨rfl, hs⟩
  clear p0 p1 q0 q1 x0 x1 y0 y1 z0 z1
  have H4 := Lib.hid (H3.out.sees hs)
  clear hs H3
  obtain ⟨⟨p0, p1⟩, ⟨q0, q1⟩, ⟨x0, x1⟩, ⟨y0, y1⟩, ⟨z0, z1⟩⟩ := HV.out _ H4.out.see
  go_wp2_with fail
  refine (H4.out.pushes HT.out (by decide) _ _ _ _ (R4.out.sees H4.out.see) (HG.out _) (by kernel_rfl) 1 rfl 3 rfl).mono ?_
  rintro e W5 ⟨rfl, hs, _⟩
  clear p0 p1 q0 q1 x0 x1 y0 y1 z0 z1
  have H5 : Hid (RgS w1 W5.heap.size W5 w1.heap.size 3 2 1 [⟨[one 98], false⟩, ⟨[one 99], false⟩, ⟨[one 100], false⟩] [(1, 1), (0, 2)]) := Lib.hid hs
  clear hs H4
  obtain ⟨⟨p0, p1⟩, ⟨q0, q1⟩, ⟨x0, x1⟩, ⟨y0, y1⟩, ⟨z0, z1⟩⟩ := HV.out _ H5.out.see
  go_wp2_with fail
  refine (H5.out.rgfirst).mono ?_
  rintro e W6 ⟨rfl, hs⟩
  clear p0 p1 q0 q1 x0 x1 y0 y1 z0 z1
  have H6 := Lib.hid (H5.out.sees hs)
  clear hs H5
  obtain ⟨⟨p0, p1⟩, ⟨q0, q1⟩, ⟨x0, x1⟩, ⟨y0, y1⟩, ⟨z0, z1⟩⟩ := HV.out _ H6.out.see
  go_wp2_with fail
  refine (H6.out.rgnext 4 rfl).mono ?_
  rintro e W7 ⟨rfl, hs⟩
  clear p0 p1 q0 q1 x0 x1 y0 y1 z0 z1
  have H7 := Lib.hid (H6.out.sees hs)
  clear hs H6
  obtain ⟨⟨p0, p1⟩, ⟨q0, q1⟩, ⟨x0, x1⟩, ⟨y0, y1⟩, ⟨z0, z1⟩⟩ := HV.out _ H7.out.see
  go_wp2_with fail
  refine (H7.out.rgpages 2 rfl).mono ?_
  rintro e W8 ⟨rfl, hs⟩
  clear p0 p1 q0 q1 x0 x1 y0 y1 z0 z1
  have H8 := Lib.hid (H7.out.sees hs)
  clear hs H7
  obtain ⟨⟨p0, p1⟩, ⟨q0, q1⟩, ⟨x0, x1⟩, ⟨y0, y1⟩, ⟨z0, z1⟩⟩ := HV.out _ H8.out.see
  go_wp2_with fail
  refine (H8.out.gets_err 0 14 (by decide)).mono ?_
  rintro e W9 ⟨rfl, hs⟩
  clear p0 p1 q0 q1 x0 x1 y0 y1 z0 z1
  have H9 := Lib.hid (H8.out.sees hs)
  clear hs H8
  obtain ⟨⟨p0, p1⟩, ⟨q0, q1⟩, ⟨x0, x1⟩, ⟨y0, y1⟩, ⟨z0, z1⟩⟩ := HV.out _ H9.out.see
  go_wp2_with fail
  refine (H9.out.gets 1 0 ⟨[one 98], false⟩ rfl rfl _ (R2.out.sees H9.out.see).rd).mono ?_
  rintro e W10 ⟨rfl, hs⟩
  clear p0 p1 q0 q1 x0 x1 y0 y1 z0 z1
  have H10 := Lib.hid (H9.out.sees hs)
  clear hs H9
  obtain ⟨⟨p0, p1⟩, ⟨q0, q1⟩, ⟨x0, x1⟩, ⟨y0, y1⟩, ⟨z0, z1⟩⟩ := HV.out _ H10.out.see
  go_wp2_with fail
  refine (H10.out.gets_err 4 3 (by decide)).mono ?_
  rintro e W11 ⟨rfl, hs⟩
  clear p0 p1 q0 q1 x0 x1 y0 y1 z0 z1
  have H11 := Lib.hid (H10.out.sees hs)
  clear hs H10
  obtain ⟨⟨p0, p1⟩, ⟨q0, q1⟩, ⟨x0, x1⟩, ⟨y0, y1⟩, ⟨z0, z1⟩⟩ := HV.out _ H11.out.see
  go_wp2_with fail
  refine calls_world (fun X11 hX11 => ?_)
  have hsx : Sees W11 X11 := by subst hX11; exact (Sees.refl W11).alloc _
  have Hrow : Hid (X11.heap[W11.heap.size]? = some (.cells #[.slice a2 1 c2, .bool false, .slice a3 1 c3, .bool false, .slice a4 1 c4, .bool false] 36 (0, 0))) := Lib.hid (by subst hX11; exact heap_alloc_new _ _)
  have HX11 := Lib.hid (H11.out.sees hsx)
  clear hX11 hsx H11
  refine (HX11.out.ranges (fun _ => True) 1 4 0 3 [⟨[one 98], false⟩, ⟨[one 99], false⟩, ⟨[one 100], false⟩] rfl rfl (by decide) (by decide) rfl (by decide) _ (rdl_row (b := W11.heap.size) (cap := 3) [(.slice a2 1 c2, ⟨[one 98], false⟩), (.slice a3 1 c3, ⟨[one 99], false⟩), (.slice a4 1 c4, ⟨[one 100], false⟩)] Hrow.out trivial (by
    intro r hr
    simp only [List.mem_cons, List.not_mem_nil, or_false] at hr
    rcases hr with rfl | rfl | rfl
    · exact (R2.out.sees HX11.out.see).mono (fun _ _ _ => trivial)
    · exact (R3.out.sees HX11.out.see).mono (fun _ _ _ => trivial)
    · exact (R4.out.sees HX11.out.see).mono (fun _ _ _ => trivial)))).mono ?_
  rintro e W12 ⟨rfl, hs⟩
  clear p0 p1 q0 q1 x0 x1 y0 y1 z0 z1
  have H12 := Lib.hid (HX11.out.sees hs)
  clear hs Hrow HX11
  obtain ⟨⟨p0, p1⟩, ⟨q0, q1⟩, ⟨x0, x1⟩, ⟨y0, y1⟩, ⟨z0, z1⟩⟩ := HV.out _ H12.out.see
  go_wp2_with fail
  refine (H12.out.pushes HT.out (by decide) _ _ _ _ (R5.out.sees H12.out.see) (HG.out _) (by kernel_rfl) 1 rfl 4 rfl).mono ?_
  rintro e W13 ⟨rfl, hs, _⟩
  clear p0 p1 q0 q1 x0 x1 y0 y1 z0 z1
  have H13 : Hid (RgS w1 W13.heap.size W13 w1.heap.size 3 2 2 [⟨[one 99], false⟩, ⟨[one 100], false⟩, ⟨[one 101], false⟩] [(0, 2), (0, 1)]) := Lib.hid hs
  clear hs H12
  obtain ⟨⟨p0, p1⟩, ⟨q0, q1⟩, ⟨x0, x1⟩, ⟨y0, y1⟩, ⟨z0, z1⟩⟩ := HV.out _ H13.out.see
  go_wp2_with fail
  refine (H13.out.rgpages 2 rfl).mono ?_
  rintro e W14 ⟨rfl, hs⟩
  clear p0 p1 q0 q1 x0 x1 y0 y1 z0 z1
  have H14 := Lib.hid (H13.out.sees hs)
  clear hs H13
  obtain ⟨⟨p0, p1⟩, ⟨q0, q1⟩, ⟨x0, x1⟩, ⟨y0, y1⟩, ⟨z0, z1⟩⟩ := HV.out _ H14.out.see
  go_wp2_with fail
  refine (RgS.pops (ls := [⟨[one 99], false⟩, ⟨[one 100], false⟩]) ⟨[one 101], false⟩ H14.out _ _ (R5.out.sees H14.out.see) (HG.out _)).mono ?_
  rintro e W15 ⟨rfl, hs, _⟩
  clear p0 p1 q0 q1 x0 x1 y0 y1 z0 z1
  have H15 : Hid (RgS w1 W15.heap.size W15 w1.heap.size 3 2 2 [⟨[one 99], false⟩, ⟨[one 100], false⟩] [(0, 2)]) := Lib.hid hs
  clear hs H14
  obtain ⟨⟨p0, p1⟩, ⟨q0, q1⟩, ⟨x0, x1⟩, ⟨y0, y1⟩, ⟨z0, z1⟩⟩ := HV.out _ H15.out.see
  go_wp2_with fail
  refine (H15.out.rgnext 4 rfl).mono ?_
  rintro e W16 ⟨rfl, hs⟩
  clear p0 p1 q0 q1 x0 x1 y0 y1 z0 z1
  have H16 := Lib.hid (H15.out.sees hs)
  clear hs H15
  obtain ⟨⟨p0, p1⟩, ⟨q0, q1⟩, ⟨x0, x1⟩, ⟨y0, y1⟩, ⟨z0, z1⟩⟩ := HV.out _ H16.out.see
  go_wp2_with fail
  refine (H16.out.pushes HT.out (by decide) _ _ _ _ (R1.out.sees H16.out.see) (HG.out _) (by kernel_rfl) 0 rfl 4 rfl).mono ?_
  rintro e W17 ⟨rfl, hs, _⟩
  clear p0 p1 q0 q1 x0 x1 y0 y1 z0 z1
  have H17 : Hid (RgS w1 W17.heap.size W17 w1.heap.size 3 2 2 [⟨[one 99], false⟩, ⟨[one 100], false⟩, ⟨[one 97], false⟩] [(0, 2), (0, 1)]) := Lib.hid hs
  clear hs H16
  obtain ⟨⟨p0, p1⟩, ⟨q0, q1⟩, ⟨x0, x1⟩, ⟨y0, y1⟩, ⟨z0, z1⟩⟩ := HV.out _ H17.out.see
  go_wp2_with fail
  refine (H17.out.limit 1 (by decide) (by decide) 2 rfl).mono ?_
  rintro e W18 ⟨rfl, hs, _⟩
  clear p0 p1 q0 q1 x0 x1 y0 y1 z0 z1
  have H18 : Hid (RgS w1 W18.heap.size W18 w1.heap.size 1 2 4 [⟨[one 97], false⟩] [(0, 1)]) := Lib.hid hs
  clear hs H17
  obtain ⟨⟨p0, p1⟩, ⟨q0, q1⟩, ⟨x0, x1⟩, ⟨y0, y1⟩, ⟨z0, z1⟩⟩ := HV.out _ H18.out.see
  go_wp2_with fail
  refine (H18.out.rgfirst).mono ?_
  rintro e W19 ⟨rfl, hs⟩
  clear p0 p1 q0 q1 x0 x1 y0 y1 z0 z1
  have H19 := Lib.hid (H18.out.sees hs)
  clear hs H18
  obtain ⟨⟨p0, p1⟩, ⟨q0, q1⟩, ⟨x0, x1⟩, ⟨y0, y1⟩, ⟨z0, z1⟩⟩ := HV.out _ H19.out.see
  go_wp2_with fail
  refine calls_world (fun X19 hX19 => ?_)
  have hsx : Sees W19 X19 := by subst hX19; exact (Sees.refl W19).alloc _
  have Hrow : Hid (X19.heap[W19.heap.size]? = some (.cells #[.slice a1 1 c1, .bool false] 36 (0, 0))) := Lib.hid (by subst hX19; exact heap_alloc_new _ _)
  have HX19 := Lib.hid (H19.out.sees hsx)
  clear hX19 hsx H19
  refine (HX19.out.ranges (fun _ => True) 4 5 0 1 [⟨[one 97], false⟩] rfl rfl (by decide) (by decide) rfl (by decide) _ (rdl_row (b := W19.heap.size) (cap := 1) [(.slice a1 1 c1, ⟨[one 97], false⟩)] Hrow.out trivial (by
    intro r hr
    simp only [List.mem_cons, List.not_mem_nil, or_false] at hr
    rcases hr with rfl
    · exact (R1.out.sees HX19.out.see).mono (fun _ _ _ => trivial)))).mono ?_
  rintro e W20 ⟨rfl, hs⟩
  clear p0 p1 q0 q1 x0 x1 y0 y1 z0 z1
  have H20 := Lib.hid (HX19.out.sees hs)
  clear hs Hrow HX19
  obtain ⟨⟨p0, p1⟩, ⟨q0, q1⟩, ⟨x0, x1⟩, ⟨y0, y1⟩, ⟨z0, z1⟩⟩ := HV.out _ H20.out.see
  go_wp2_with fail
  refine (H20.out.ranges_err 0 1 14 (by decide)).mono ?_
  rintro e W21 ⟨rfl, hs⟩
  clear p0 p1 q0 q1 x0 x1 y0 y1 z0 z1
  have H21 := Lib.hid (H20.out.sees hs)
  clear hs H20
  obtain ⟨⟨p0, p1⟩, ⟨q0, q1⟩, ⟨x0, x1⟩, ⟨y0, y1⟩, ⟨z0, z1⟩⟩ := HV.out _ H21.out.see
  go_wp2_with fail
  refine (H21.out.ranges_err 3 2 3 (by decide)).mono ?_
  rintro e W22 ⟨rfl, hs⟩
  clear p0 p1 q0 q1 x0 x1 y0 y1 z0 z1
  have H22 := Lib.hid (H21.out.sees hs)
  clear hs H21
  obtain ⟨⟨p0, p1⟩, ⟨q0, q1⟩, ⟨x0, x1⟩, ⟨y0, y1⟩, ⟨z0, z1⟩⟩ := HV.out _ H22.out.see
  go_wp2_with fail
  refine (H22.out.set HT.out _ 4 0 rfl (by decide) _ _ _ (R2.out.sees H22.out.see) (HG.out _) (by kernel_rfl)).mono ?_
  rintro e W23 ⟨rfl, hs, _⟩
  clear p0 p1 q0 q1 x0 x1 y0 y1 z0 z1
  have H23 : Hid (RgS w1 W23.heap.size W23 w1.heap.size 1 2 4 [⟨[one 98], false⟩] [(0, 1)]) := Lib.hid hs
  clear hs H22
  obtain ⟨⟨p0, p1⟩, ⟨q0, q1⟩, ⟨x0, x1⟩, ⟨y0, y1⟩, ⟨z0, z1⟩⟩ := HV.out _ H23.out.see
  go_wp2_with fail
  refine (H23.out.gets 4 0 ⟨[one 98], false⟩ rfl rfl _ (R2.out.sees H23.out.see).rd).mono ?_
  rintro e W24 ⟨rfl, hs⟩
  clear p0 p1 q0 q1 x0 x1 y0 y1 z0 z1
  have H24 := Lib.hid (H23.out.sees hs)
  clear hs H23
  obtain ⟨⟨p0, p1⟩, ⟨q0, q1⟩, ⟨x0, x1⟩, ⟨y0, y1⟩, ⟨z0, z1⟩⟩ := HV.out _ H24.out.see
  go_wp2_with fail
  refine (H24.out.clear 5 rfl).mono ?_
  rintro e W25 ⟨rfl, hs, _⟩
  clear p0 p1 q0 q1 x0 x1 y0 y1 z0 z1
  have H25 : Hid (RgS w1 W25.heap.size W25 w1.heap.size 1 2 5 [] []) := Lib.hid hs
  clear hs H24
  obtain ⟨⟨p0, p1⟩, ⟨q0, q1⟩, ⟨x0, x1⟩, ⟨y0, y1⟩, ⟨z0, z1⟩⟩ := HV.out _ H25.out.see
  go_wp2_with fail
  refine (H25.out.rglen 0 rfl).mono ?_
  rintro e W26 ⟨rfl, hs⟩
  clear p0 p1 q0 q1 x0 x1 y0 y1 z0 z1
  have H26 := Lib.hid (H25.out.sees hs)
  clear hs H25
  obtain ⟨⟨p0, p1⟩, ⟨q0, q1⟩, ⟨x0, x1⟩, ⟨y0, y1⟩, ⟨z0, z1⟩⟩ := HV.out _ H26.out.see
  go_wp2_with fail
  refine (H26.out.rgfirst).mono ?_
  rintro e W27 ⟨rfl, hs⟩
  clear p0 p1 q0 q1 x0 x1 y0 y1 z0 z1
  have H27 := Lib.hid (H26.out.sees hs)
  clear hs H26
  obtain ⟨⟨p0, p1⟩, ⟨q0, q1⟩, ⟨x0, x1⟩, ⟨y0, y1⟩, ⟨z0, z1⟩⟩ := HV.out _ H27.out.see
  go_wp2_with fail
  refine (H27.out.rgpages 0 rfl).mono ?_
  rintro e W28 ⟨rfl, hs⟩
  clear p0 p1 q0 q1 x0 x1 y0 y1 z0 z1
  have H28 := Lib.hid (H27.out.sees hs)
  clear hs H27
  obtain ⟨⟨p0, p1⟩, ⟨q0, q1⟩, ⟨x0, x1⟩, ⟨y0, y1⟩, ⟨z0, z1⟩⟩ := HV.out _ H28.out.see
  go_wp2_with fail
  refine (H28.out.pops_none).mono ?_
  rintro e W29 ⟨rfl, hs⟩
  clear p0 p1 q0 q1 x0 x1 y0 y1 z0 z1
  have H29 := Lib.hid (H28.out.sees hs)
  clear hs H28
  obtain ⟨⟨p0, p1⟩, ⟨q0, q1⟩, ⟨x0, x1⟩, ⟨y0, y1⟩, ⟨z0, z1⟩⟩ := HV.out _ H29.out.see
  go_wp2_with fail
  refine (H29.out.pushes HT.out (by decide) _ _ _ _ (R3.out.sees H29.out.see) (HG.out _) (by kernel_rfl) 0 rfl 5 rfl).mono ?_
  rintro e W30 ⟨rfl, hs, _⟩
  clear p0 p1 q0 q1 x0 x1 y0 y1 z0 z1
  have H30 : Hid (RgS w1 W30.heap.size W30 w1.heap.size 1 2 5 [⟨[one 99], false⟩] [(0, 1)]) := Lib.hid hs
  clear hs H29
  obtain ⟨⟨p0, p1⟩, ⟨q0, q1⟩, ⟨x0, x1⟩, ⟨y0, y1⟩, ⟨z0, z1⟩⟩ := HV.out _ H30.out.see
  go_wp2_with fail
  refine (H30.out.limit_arg (-1) (by decide)).mono ?_
  rintro e W31 ⟨rfl, hs⟩
  clear p0 p1 q0 q1 x0 x1 y0 y1 z0 z1
  have H31 := Lib.hid (H30.out.sees hs)
  clear hs H30
  obtain ⟨⟨p0, p1⟩, ⟨q0, q1⟩, ⟨x0, x1⟩, ⟨y0, y1⟩, ⟨z0, z1⟩⟩ := HV.out _ H31.out.see
  go_wp2_with fail
  refine (rnone_true (-1) 2 _ (by decide)).mono ?_
  rintro e W32 ⟨rfl, hs⟩
  clear p0 p1 q0 q1 x0 x1 y0 y1 z0 z1
  have H32 := Lib.hid (H31.out.sees hs)
  clear hs H31
  obtain ⟨⟨p0, p1⟩, ⟨q0, q1⟩, ⟨x0, x1⟩, ⟨y0, y1⟩, ⟨z0, z1⟩⟩ := HV.out _ H32.out.see
  go_wp2_with fail
  refine (rnone_true 0 0 _ (by decide)).mono ?_
  rintro e W33 ⟨rfl, hs⟩
  clear p0 p1 q0 q1 x0 x1 y0 y1 z0 z1
  have H33 := Lib.hid (H32.out.sees hs)
  clear hs H32
  obtain ⟨⟨p0, p1⟩, ⟨q0, q1⟩, ⟨x0, x1⟩, ⟨y0, y1⟩, ⟨z0, z1⟩⟩ := HV.out _ H33.out.see
  go_wp2_with fail
  refine (new_rgs 0 4 _ (by decide) (by decide) (by decide) (by decide)).mono ?_
  rintro e Y0 ⟨rfl, P0⟩
  clear p0 p1 q0 q1 x0 x1 y0 y1 z0 z1
  have K0 := Lib.hid P0
  have hsy := H33.out.see.trans P0.see
  have S2 := Lib.hid hsy
  obtain ⟨⟨p0, p1⟩, ⟨q0, q1⟩, ⟨x0, x1⟩, ⟨y0, y1⟩, ⟨z0, z1⟩⟩ := HV.out _ hsy
  clear P0 hsy
  go_wp2_with fail
  refine (K0.out.pushes (HT.out.sees H33.out.see) (by decide) _ _ _ _ (R1.out.sees S2.out) (fun b hb => .inl (Nat.lt_of_lt_of_le hb H33.out.see.size)) (by kernel_rfl) 1 rfl 0 rfl).mono ?_
  rintro e Y1 ⟨rfl, hs, _⟩
  clear p0 p1 q0 q1 x0 x1 y0 y1 z0 z1
  have K1 : Hid (RgS W33 Y1.heap.size Y1 W33.heap.size 0 4 1 [] []) := Lib.hid hs
  clear hs K0 S2
  go_wp2_with fail
  refine (K1.out.rglen 0 rfl).mono ?_
  rintro e Y2 ⟨rfl, hs⟩
  have K2 := Lib.hid (K1.out.sees hs)
  clear hs K1
  go_wp2_with fail
  refine (K2.out.rgnext 1 rfl).mono ?_
  rintro e Y3 ⟨rfl, hs⟩
  have K3 := Lib.hid (K2.out.sees hs)
  clear hs K2
  go_wp2_with fail
  refine (K3.out.rgpages 0 rfl).mono ?_
  rintro e Y4 ⟨rfl, hs⟩
  have K4 := Lib.hid (K3.out.sees hs)
  clear hs K3
  go_wp2
  go_ret
  exact ⟨rfl, S1.out.trans (H33.out.see.trans K4.out.see)⟩
end Go.Proofs.YthjcnhgfagefjaaDoor
