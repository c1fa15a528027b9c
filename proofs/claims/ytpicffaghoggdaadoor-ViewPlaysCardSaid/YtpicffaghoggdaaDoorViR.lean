/- The chapter's examples of views. A new view, and nil and zero ones: ViewNew, ViewNone. What a view returns shares no memory: ViewShares. No condition. -/
import Derived.Test.YtpicffaghoggdaaDoorViP
namespace Go.Proofs.YtpicffaghoggdaaDoor
set_option linter.unusedVariables false
set_option linter.unusedSimpArgs false
open Go.RowKit

theorem rows32_ok (s : ByteArray) (h : ((rowsOf s).all fun l => lnOk l.cells) = true) : ∀ l ∈ rowsOf s, lnOk l.cells = true := fun l hl => List.all_eq_true.1 h l hl
theorem rows32_len (s : ByteArray) : (rowsOf s).length = s.size := by unfold rowsOf; rw [List.length_map, Array.length_toList]; rfl
theorem rows32_cells (s : ByteArray) : ∀ l ∈ rowsOf s, l.cells.length ≤ 1000000 := by
  intro l hl
  obtain ⟨c, _, rfl⟩ := List.mem_map.1 hl
  show 1 ≤ 1000000
  omega
set_option maxRecDepth 1000000 in
set_option maxHeartbeats 8000000 in
theorem known32 (w : World) (ht : Tabs w) : Calls Tryd.prog 29 #[] w fun e w' => e = .returned (.bool true) ∧ Sees w w' := by
  have Ht := Lib.hid ht
  clear ht
  go_enter Tryd.func29, Tryd.ntmps29
  go_wp2_with fail
  refine (list32_any ⟨#[97, 98, 99]⟩ w (by decide)).mono ?_
  rintro e wa ⟨v0, rfl, o0, s0⟩
  obtain ⟨a0, c0, rfl, _⟩ := o0.slice
  have O0 := Lib.hid o0
  have S0 := Lib.hid s0
  rw [show (rowsOf ⟨#[97, 98, 99]⟩).length = 3 from rfl] at *
  clear o0 s0
  go_wp2_with fail
  refine (made32_any 9 _ (rowsOf ⟨#[97, 98, 99]⟩) (fun _ => True) wa (Ht.out.sees S0.out) (by decide) (by decide) (O0.out.rd.mono (fun _ _ _ => trivial)) (rows32_ok _ (by kernel_rfl)) (by decide) 0 (by kernel_rfl)).mono ?_
  rintro e wb ⟨hb, rfl, P⟩
  have P0 : Hid (HiF wa (fun c => wa.heap.size ≤ c) wb hb 9 0 (rowsOf ⟨#[97, 98, 99]⟩)) := Lib.hid P
  clear P
  go_wp2_with fail
  refine (vnew_ok 2 wb (by decide) (by decide)).mono ?_
  rintro e wc ⟨rfl, hv, hs⟩
  have Q0 : Hid (ViSt wa wc wb.heap.size hb 2 0 9 0 (rowsOf ⟨#[97, 98, 99]⟩) (.slice none 0 0) []) := Lib.hid (ViSt.start P0.out hv hs (by decide) (by decide))
  have HT : Hid (Tabs wa) := Lib.hid (Ht.out.sees S0.out)
  generalize wb.heap.size = vb at *
  clear hv hs P0 O0 Ht
  go_wp2_with fail
  refine (list32_any ⟨#[120, 121]⟩ wc (by decide)).mono ?_
  rintro e W0 ⟨v1, rfl, o1, s1⟩
  obtain ⟨a1, c1, rfl, _⟩ := o1.slice
  rw [show (rowsOf ⟨#[120, 121]⟩).length = 2 from rfl] at *
  have H0 : Hid (ViSt wa W0 vb hb 2 0 9 0 (rowsOf ⟨#[97, 98, 99]⟩) (.slice a1 2 c1) (rowsOf ⟨#[120, 121]⟩)) := Lib.hid (Q0.out.screen s1 o1.rd)
  clear o1 s1 Q0
  go_wp2_with fail
  refine (H0.out.seen 0 (by kernel_rfl) (by kernel_rfl) (rows32_cells _) 3 (by kernel_rfl) _ _ (rowsOf ⟨#[120, 121]⟩) H0.out.scr (by kernel_rfl)).mono ?_
  rintro e W1 ⟨rfl, hs⟩
  have H1 := Lib.hid (H0.out.sees hs)
  clear hs H0
  go_wp2_with fail
  refine (H1.out.scroll (1) 1 (by kernel_rfl)).mono ?_
  rintro e W2 ⟨rfl, hs⟩
  have H2 : Hid (ViSt wa W2 vb hb 2 1 9 0 (rowsOf ⟨#[97, 98, 99]⟩) (.slice a1 2 c1) (rowsOf ⟨#[120, 121]⟩)) := Lib.hid hs
  clear hs H1
  go_wp2_with fail
  refine (list32_any ⟨#[99, 120]⟩ _ (by decide)).mono ?_
  rintro e X2 ⟨v2, rfl, o2, s2⟩
  obtain ⟨a2, c2, rfl, _⟩ := o2.slice
  rw [show (rowsOf ⟨#[99, 120]⟩).length = 2 from rfl] at *
  have O2 := Lib.hid o2
  have T2 := Lib.hid s2
  clear o2 s2
  go_wp2_with fail
  refine ((H2.out.sees T2.out).seen 1 (by kernel_rfl) (by kernel_rfl) (rows32_cells _) 2 (by kernel_rfl) _ _ (rowsOf ⟨#[99, 120]⟩) O2.out.rd.rdl (by kernel_rfl)).mono ?_
  rintro e W3 ⟨rfl, hs⟩
  have H3 := Lib.hid (H2.out.sees (T2.out.trans hs))
  clear hs H2 T2 O2
  go_wp2_with fail
  refine (H3.out.scroll (9) 3 (by kernel_rfl)).mono ?_
  rintro e W4 ⟨rfl, hs⟩
  have H4 : Hid (ViSt wa W4 vb hb 2 3 9 0 (rowsOf ⟨#[97, 98, 99]⟩) (.slice a1 2 c1) (rowsOf ⟨#[120, 121]⟩)) := Lib.hid hs
  clear hs H3
  go_wp2_with fail
  refine (list32_any ⟨#[97, 98]⟩ _ (by decide)).mono ?_
  rintro e X3 ⟨v3, rfl, o3, s3⟩
  obtain ⟨a3, c3, rfl, _⟩ := o3.slice
  rw [show (rowsOf ⟨#[97, 98]⟩).length = 2 from rfl] at *
  have O3 := Lib.hid o3
  have T3 := Lib.hid s3
  clear o3 s3
  go_wp2_with fail
  refine ((H4.out.sees T3.out).seen 3 (by kernel_rfl) (by kernel_rfl) (rows32_cells _) 0 (by kernel_rfl) _ _ (rowsOf ⟨#[97, 98]⟩) O3.out.rd.rdl (by kernel_rfl)).mono ?_
  rintro e W5 ⟨rfl, hs⟩
  have H5 := Lib.hid (H4.out.sees (T3.out.trans hs))
  clear hs H4 T3 O3
  go_wp2_with fail
  refine (H5.out.back_is).mono ?_
  rintro e W6 ⟨rfl, hs⟩
  have H6 := Lib.hid (H5.out.sees hs)
  clear hs H5
  go_wp2_with fail
  refine (H6.out.scroll (-1) 2 (by kernel_rfl)).mono ?_
  rintro e W7 ⟨rfl, hs⟩
  have H7 : Hid (ViSt wa W7 vb hb 2 2 9 0 (rowsOf ⟨#[97, 98, 99]⟩) (.slice a1 2 c1) (rowsOf ⟨#[120, 121]⟩)) := Lib.hid hs
  clear hs H6
  go_wp2_with fail
  refine (list32_any ⟨#[100]⟩ _ (by decide)).mono ?_
  rintro e X4 ⟨v4, rfl, o4, s4⟩
  obtain ⟨a4, c4, rfl, _⟩ := o4.slice
  rw [show (rowsOf ⟨#[100]⟩).length = 1 from rfl] at *
  have O4 := Lib.hid o4
  have T4 := Lib.hid s4
  clear o4 s4
  go_wp2_with fail
  refine (H7.out.push T4.out HT.out _ (rowsOf ⟨#[100]⟩) O4.out.rd (rows32_ok _ (by kernel_rfl)) (by decide) 0 (by kernel_rfl)).mono ?_
  rintro e W8 ⟨rfl, hs⟩
  have H8 : Hid (ViSt wa W8 vb hb 2 2 9 0 ((rowsOf ⟨#[97, 98, 99]⟩) ++ (rowsOf ⟨#[100]⟩)) (.slice a1 2 c1) (rowsOf ⟨#[120, 121]⟩)) := Lib.hid hs
  clear hs H7 T4 O4
  go_wp2_with fail
  refine (H8.out.pushed 1 (by decide) 3 (by kernel_rfl)).mono ?_
  rintro e W9 ⟨rfl, hs⟩
  have H9 : Hid (ViSt wa W9 vb hb 2 3 9 0 ((rowsOf ⟨#[97, 98, 99]⟩) ++ (rowsOf ⟨#[100]⟩)) (.slice a1 2 c1) (rowsOf ⟨#[120, 121]⟩)) := Lib.hid hs
  clear hs H8
  go_wp2_with fail
  refine (list32_any ⟨#[98, 99]⟩ _ (by decide)).mono ?_
  rintro e X5 ⟨v5, rfl, o5, s5⟩
  obtain ⟨a5, c5, rfl, _⟩ := o5.slice
  rw [show (rowsOf ⟨#[98, 99]⟩).length = 2 from rfl] at *
  have O5 := Lib.hid o5
  have T5 := Lib.hid s5
  clear o5 s5
  go_wp2_with fail
  refine ((H9.out.sees T5.out).seen 3 (by kernel_rfl) (by kernel_rfl) (rows32_cells _) 1 (by kernel_rfl) _ _ (rowsOf ⟨#[98, 99]⟩) O5.out.rd.rdl (by kernel_rfl)).mono ?_
  rintro e W10 ⟨rfl, hs⟩
  have H10 := Lib.hid (H9.out.sees (T5.out.trans hs))
  clear hs H9 T5 O5
  go_wp2_with fail
  refine (H10.out.back_is).mono ?_
  rintro e W11 ⟨rfl, hs⟩
  have H11 := Lib.hid (H10.out.sees hs)
  clear hs H10
  go_wp2_with fail
  refine (H11.out.bottom).mono ?_
  rintro e W12 ⟨rfl, hs⟩
  have H12 : Hid (ViSt wa W12 vb hb 2 0 9 0 ((rowsOf ⟨#[97, 98, 99]⟩) ++ (rowsOf ⟨#[100]⟩)) (.slice a1 2 c1) (rowsOf ⟨#[120, 121]⟩)) := Lib.hid hs
  clear hs H11
  go_wp2_with fail
  refine (H12.out.seen 0 (by kernel_rfl) (by kernel_rfl) (rows32_cells _) 4 (by kernel_rfl) _ _ (rowsOf ⟨#[120, 121]⟩) H12.out.scr (by kernel_rfl)).mono ?_
  rintro e W13 ⟨rfl, hs⟩
  have H13 := Lib.hid (H12.out.sees hs)
  clear hs H12
  go_wp2_with fail
  refine (vnew_bad 0 _ (by decide)).mono ?_
  rintro e W14 ⟨rfl, hs⟩
  have H14 := Lib.hid (H13.out.sees hs)
  clear hs H13
  go_wp2_with fail
  refine (H14.out.resize 3 (by decide) (by decide) 0 (by kernel_rfl)).mono ?_
  rintro e W15 ⟨rfl, hs⟩
  have H15 : Hid (ViSt wa W15 vb hb 3 0 9 0 ((rowsOf ⟨#[97, 98, 99]⟩) ++ (rowsOf ⟨#[100]⟩)) (.slice a1 2 c1) (rowsOf ⟨#[120, 121]⟩)) := Lib.hid hs
  clear hs H14
  go_wp2_with fail
  refine (H15.out.seen_arg _ 2 _ (by decide)).mono ?_
  rintro e W16 ⟨rfl, hs⟩
  have H16 := Lib.hid (H15.out.sees hs)
  clear hs H15
  go_wp2_with fail
  refine (H16.out.scroll (2) 2 (by kernel_rfl)).mono ?_
  rintro e W17 ⟨rfl, hs⟩
  have H17 : Hid (ViSt wa W17 vb hb 3 2 9 0 ((rowsOf ⟨#[97, 98, 99]⟩) ++ (rowsOf ⟨#[100]⟩)) (.slice a1 2 c1) (rowsOf ⟨#[120, 121]⟩)) := Lib.hid hs
  clear hs H16
  go_wp2_with fail
  refine (list32_any ⟨#[120, 121, 122]⟩ _ (by decide)).mono ?_
  rintro e X6 ⟨v6, rfl, o6, s6⟩
  obtain ⟨a6, c6, rfl, _⟩ := o6.slice
  rw [show (rowsOf ⟨#[120, 121, 122]⟩).length = 3 from rfl] at *
  have O6 := Lib.hid o6
  have T6 := Lib.hid s6
  clear o6 s6
  have H18 : Hid (ViSt wa X6 vb hb 3 2 9 0 ((rowsOf ⟨#[97, 98, 99]⟩) ++ (rowsOf ⟨#[100]⟩)) (.slice a6 3 c6) (rowsOf ⟨#[120, 121, 122]⟩)) := Lib.hid (H17.out.screen T6.out O6.out.rd)
  clear H17 T6 O6
  go_wp2_with fail
  refine (list32_any ⟨#[99, 100, 120]⟩ _ (by decide)).mono ?_
  rintro e X7 ⟨v7, rfl, o7, s7⟩
  obtain ⟨a7, c7, rfl, _⟩ := o7.slice
  rw [show (rowsOf ⟨#[99, 100, 120]⟩).length = 3 from rfl] at *
  have O7 := Lib.hid o7
  have T7 := Lib.hid s7
  clear o7 s7
  go_wp2_with fail
  refine ((H18.out.sees T7.out).seen 2 (by kernel_rfl) (by kernel_rfl) (rows32_cells _) 2 (by kernel_rfl) _ _ (rowsOf ⟨#[99, 100, 120]⟩) O7.out.rd.rdl (by kernel_rfl)).mono ?_
  rintro e W19 ⟨rfl, hs⟩
  have H19 := Lib.hid (H18.out.sees (T7.out.trans hs))
  clear hs H18 T7 O7
  go_wp2_with fail
  refine (H19.out.resize_arg 1001 (by decide)).mono ?_
  rintro e W20 ⟨rfl, hs⟩
  have H20 : Hid (ViSt wa W20 vb hb 3 2 9 0 ((rowsOf ⟨#[97, 98, 99]⟩) ++ (rowsOf ⟨#[100]⟩)) (.slice a6 3 c6) (rowsOf ⟨#[120, 121, 122]⟩)) := Lib.hid hs
  clear hs H19
  go_wp2_with fail
  refine (H20.out.pushed_arg (-1) (by decide)).mono ?_
  rintro e W21 ⟨rfl, hs⟩
  have H21 : Hid (ViSt wa W21 vb hb 3 2 9 0 ((rowsOf ⟨#[97, 98, 99]⟩) ++ (rowsOf ⟨#[100]⟩)) (.slice a6 3 c6) (rowsOf ⟨#[120, 121, 122]⟩)) := Lib.hid hs
  clear hs H20
  go_wp2
  go_ret
  exact ⟨by simp, S0.out.trans H21.out.see⟩
end Go.Proofs.YtpicffaghoggdaaDoor

namespace Go.Proofs.YtpicffaghoggdaaDoor
set_option linter.unusedVariables false
set_option linter.unusedSimpArgs false
open Go.RowKit

set_option maxRecDepth 1000000 in
set_option maxHeartbeats 4000000 in
theorem viewNew_lo (n : Int) (w : World) (ht : Tabs w) (h : n < 1) :
    Calls Tryd.prog 8 #[.int .i64 n] w fun e w' => e = .returned (.bool true) ∧ Sees w w' := by
  have Ht := Lib.hid ht
  have Hn : Hid (n < 1 ∨ 1000 < n) := Lib.hid (.inl h)
  have d1 : decide (n < 1) = true := decide_eq_true h
  clear ht h
  go_enter Tryd.func8, Tryd.ntmps8
  go_wp2_with fail
  refine (vnew_bad n w Hn.out).mono ?_
  rintro e w1 ⟨rfl, s1⟩
  have S1 := Lib.hid s1
  clear s1
  go_wp2_with fail
  refine (known32 _ (Ht.out.sees S1.out)).mono ?_
  rintro e w3 ⟨rfl, s3⟩
  go_wp2
  go_ret
  exact ⟨by simp, S1.out.trans s3⟩
set_option maxRecDepth 1000000 in
set_option maxHeartbeats 4000000 in
theorem viewNew_hi (n : Int) (w : World) (ht : Tabs w) (h : 1000 < n) :
    Calls Tryd.prog 8 #[.int .i64 n] w fun e w' => e = .returned (.bool true) ∧ Sees w w' := by
  have Ht := Lib.hid ht
  have Hn : Hid (n < 1 ∨ 1000 < n) := Lib.hid (.inr h)
  have d1 : decide (n < 1) = false := decide_eq_false (by omega)
  have d2 : decide (n > 1000) = true := decide_eq_true (by omega)
  clear ht h
  go_enter Tryd.func8, Tryd.ntmps8
  go_wp2_with fail
  refine (vnew_bad n w Hn.out).mono ?_
  rintro e w1 ⟨rfl, s1⟩
  have S1 := Lib.hid s1
  clear s1
  go_wp2_with fail
  refine (known32 _ (Ht.out.sees S1.out)).mono ?_
  rintro e w3 ⟨rfl, s3⟩
  go_wp2
  go_ret
  exact ⟨by simp, S1.out.trans s3⟩
set_option maxRecDepth 1000000 in
set_option maxHeartbeats 4000000 in
theorem viewNew_ok (n : Int) (w : World) (ht : Tabs w) (h1 : 1 ≤ n) (h2 : n ≤ 1000) :
    Calls Tryd.prog 8 #[.int .i64 n] w fun e w' => e = .returned (.bool true) ∧ Sees w w' := by
  have Ht := Lib.hid ht
  have Hn := Lib.hid (And.intro h1 h2)
  have d1 : decide (n < 1) = false := decide_eq_false (by omega)
  have d2 : decide (n > 1000) = false := decide_eq_false (by omega)
  have Hn0 : Hid (n ≠ 0) := Lib.hid (by omega)
  clear ht h1 h2
  go_enter Tryd.func8, Tryd.ntmps8
  go_wp2_with fail
  refine (vnew_ok n w Hn.out.1 Hn.out.2).mono ?_
  rintro e w1 ⟨rfl, hv, s1⟩
  have V1 := Lib.hid hv
  have S1 := Lib.hid s1
  clear s1 hv
  go_wp2_with fail
  refine (vrows_at w1 _ n 0 V1.out Hn0.out).mono ?_
  rintro e w2 ⟨rfl, s2⟩
  have V2 := Lib.hid (V1.out.sees s2)
  have S2 := Lib.hid (S1.out.trans s2)
  clear s2 V1 S1
  go_wp2_with fail
  refine (vback_at w2 _ n 0 V2.out Hn0.out).mono ?_
  rintro e w3 ⟨rfl, s3⟩
  have S3 := Lib.hid (S2.out.trans s3)
  clear s3
  go_wp2_with fail
  refine (known32 _ (Ht.out.sees S3.out)).mono ?_
  rintro e w4 ⟨rfl, s4⟩
  go_wp2
  go_ret
  exact ⟨by simp, S3.out.trans s4⟩
theorem viewNew_any (n : Int) (w : World) (ht : Tabs w) :
    Calls Tryd.prog 8 #[.int .i64 n] w fun e w' => e = .returned (.bool true) ∧ Sees w w' := by
  by_cases h1 : n < 1
  · exact viewNew_lo n w ht h1
  · by_cases h2 : 1000 < n
    · exact viewNew_hi n w ht h2
    · exact viewNew_ok n w ht (by omega) (by omega)
set_option maxRecDepth 1000000 in
set_option maxHeartbeats 8000000 in
theorem viewNone_any (n : Int) (w : World) (ht : Tabs w) :
    Calls Tryd.prog 10 #[.int .i64 n] w fun e w' => e = .returned (.bool true) ∧ Sees w w' := by
  have Ht := Lib.hid ht
  clear ht
  go_enter Tryd.func10, Tryd.ntmps10
  go_wp2_with fail
  refine (list32_any ⟨#[97]⟩ w (by decide)).mono ?_
  rintro e wa ⟨v0, rfl, o0, s0⟩
  obtain ⟨a0, c0, rfl, _⟩ := o0.slice
  have O0 := Lib.hid o0
  have S0 := Lib.hid s0
  rw [show (rowsOf ⟨#[97]⟩).length = 1 from rfl] at *
  clear o0 s0
  go_wp2_with fail
  refine (made32_any 3 _ (rowsOf ⟨#[97]⟩) (fun _ => True) wa (Ht.out.sees S0.out) (by decide) (by decide) (O0.out.rd.mono (fun _ _ _ => trivial)) (rows32_ok _ (by kernel_rfl)) (by decide) 0 (by kernel_rfl)).mono ?_
  rintro e wb ⟨hb, rfl, P⟩
  have P0 : Hid (HiF wa (fun c => wa.heap.size ≤ c) wb hb 3 0 (rowsOf ⟨#[97]⟩)) := Lib.hid P
  have Sb := Lib.hid (S0.out.trans P.see)
  clear P O0
  go_wp2_with fail
  refine wp_world (fun w1 hw1 => ?_)
  have hcw : Sees wb w1 := by subst hw1; exact ((Sees.refl wb).alloc _).alloc _
  have hrow : w1.heap[wb.heap.size + 1]? = some (.cells #[.pointer none, .pointer (some ⟨wb.heap.size, 0, none⟩)] 50 (0, 0)) := by
    subst hw1
    have := heap_alloc_new (wb.alloc (Obj.cells #[.int .i64 0, .int .i64 0] 71)) (.cells #[.pointer none, .pointer (some ⟨wb.heap.size, 0, none⟩)] 50)
    simpa using this
  have hz : VwAt w1 wb.heap.size 0 0 := by
    subst hw1
    exact (VwAt.new rfl).sees ((Sees.refl _).alloc _)
  have HE : Hid (∀ j : Nat, j < 2 → ∃ s, (∀ W, Sees w1 W → W.cell? ⟨wb.heap.size + 1, j, none⟩ = some s) ∧ ∀ W, Sees w1 W → NoVw W s) := Lib.hid (by
    intro j hj
    obtain ⟨g0, g1⟩ := cell_row2 hrow
    match j, hj with
    | 0, _ => exact ⟨_, fun W hs => hs.cell g0, fun W hs => .inl rfl⟩
    | 1, _ => exact ⟨_, fun W hs => hs.cell g1, fun W hs => .inr ⟨_, rfl, hz.sees hs⟩⟩)
  have S1 := Lib.hid (Sb.out.trans hcw)
  clear hw1 hrow hz hcw Sb S0 P0
  generalize wb.heap.size = B at *
  go_loopw [21] (fun i W => ∃ j : Nat, j ≤ 2 ∧ i = .int .i64 j ∧ Sees w1 W) (fun i _ => 2 - (intOf i).toNat)
  case atStart => exact ⟨0, by omega, rfl, Sees.refl _⟩
  case round =>
    obtain ⟨j, hj, rfl, hS⟩ := hrel
    have S2 := Lib.hid hS
    clear hS
    by_cases hlt : j < 2
    · obtain ⟨s, hs1, hs2⟩ := HE.out j hlt
      have HN := Lib.hid hs2
      have hce := hs1 _ S2.out
      clear hs1 hs2
      go_wp2_with fail
      refine (vscroll_no1 _ _ _ n (HN.out _ S2.out)).mono ?_
      rintro e W3 ⟨rfl, hs⟩; have S3 := Lib.hid ((S2).out.trans hs); clear hs
      go_wp2_with fail
      refine (vbottom_no _ _ (HN.out _ S3.out)).mono ?_
      rintro e W4 ⟨rfl, hs⟩; have S4 := Lib.hid ((S3).out.trans hs); clear hs
      go_wp2_with fail
      refine (vpushed_no1 _ _ _ n (HN.out _ S4.out)).mono ?_
      rintro e W5 ⟨rfl, hs⟩; have S5 := Lib.hid ((S4).out.trans hs); clear hs
      go_wp2_with fail
      refine (vresize_no1 _ _ _ n (HN.out _ S5.out)).mono ?_
      rintro e W6 ⟨rfl, hs⟩; have S6 := Lib.hid ((S5).out.trans hs); clear hs
      go_wp2_with fail
      refine (vsees_err _ _ _ 1 _ (vlines_no1 _ _ _ _ (HN.out _ S6.out))).mono ?_
      rintro e W7 ⟨rfl, hs⟩; have S7 := Lib.hid ((S6).out.trans hs); clear hs
      go_wp2_with fail
      refine (vback_no _ _ (HN.out _ S7.out)).mono ?_
      rintro e W8 ⟨rfl, hs⟩; have S8 := Lib.hid ((S7).out.trans hs); clear hs
      go_wp2_with fail
      refine (vrows_no _ _ (HN.out _ S8.out)).mono ?_
      rintro e W9 ⟨rfl, hs⟩; have S9 := Lib.hid ((S8).out.trans hs); clear hs
      go_wp2_with fail
      refine (vcopy_no _ _ (HN.out _ S9.out)).mono ?_
      rintro e W10 ⟨rfl, hs⟩; have S10 := Lib.hid ((S9).out.trans hs); clear hs
      go_wp2
      refine ⟨⟨j + 1, by omega, by simp, S10.out⟩, by simp [intOf]; omega⟩
    · obtain rfl : j = 2 := by omega
      have SA := Lib.hid (S1.out.trans S2.out)
      clear HE S1 S2
      obtain ⟨ws, rfl⟩ : ∃ ws : World, ws = wr := ⟨_, rfl⟩
      go_wp2_with fail
      refine (vnew_ok 2 ws (by decide) (by decide)).mono ?_
      rintro e w3 ⟨rfl, hv, s3⟩
      have V3 := Lib.hid hv
      have S3 := Lib.hid (SA.out.trans s3)
      generalize ws.heap.size = vb at *
      clear s3 hv SA
      go_wp2_with fail
      refine wp_world (fun w4 hw4 => ?_)
      have hcw : Sees w3 w4 := by subst hw4; exact ((Sees.refl w3).alloc _).alloc _
      have hrow : w4.heap[w3.heap.size + 1]? = some (.cells #[.pointer none, .pointer (some ⟨w3.heap.size, 0, none⟩)] 29 (0, 0)) := by
        subst hw4
        have := heap_alloc_new (w3.alloc (Obj.cells #[.pointer none] 77)) (.cells #[.pointer none, .pointer (some ⟨w3.heap.size, 0, none⟩)] 29)
        simpa using this
      have hz : Bx w4 w3.heap.size 77 (.pointer none) := by
        subst hw4
        exact (Bx.new rfl).sees ((Sees.refl _).alloc _)
      have HE : Hid (∀ j : Nat, j < 2 → ∃ s, (∀ W, Sees w4 W → W.cell? ⟨w3.heap.size + 1, j, none⟩ = some s) ∧ ∀ W, Sees w4 W → NoHi W s) := Lib.hid (by
        intro j hj
        obtain ⟨g0, g1⟩ := cell_row2 hrow
        match j, hj with
        | 0, _ => exact ⟨_, fun W hs => hs.cell g0, fun W hs => .inl rfl⟩
        | 1, _ => exact ⟨_, fun W hs => hs.cell g1, fun W hs => .inr ⟨_, rfl, hz.sees hs⟩⟩)
      have S4 := Lib.hid (S3.out.trans hcw)
      have V4 := Lib.hid (V3.out.sees hcw)
      clear hw4 hrow hz hcw S3 V3
      generalize w3.heap.size = B2 at *
      go_loopw [86] (fun i W => ∃ j : Nat, j ≤ 2 ∧ i = .int .i64 j ∧ Sees w4 W) (fun i _ => 2 - (intOf i).toNat)
      case atStart => exact ⟨0, by omega, rfl, Sees.refl _⟩
      case round =>
        obtain ⟨j, hj, rfl, hS⟩ := hrel
        have S5 := Lib.hid hS
        clear hS
        by_cases hlt : j < 2
        · obtain ⟨s, hs1, hs2⟩ := HE.out j hlt
          have HN := Lib.hid hs2
          have hce := hs1 _ S5.out
          clear hs1 hs2
          go_wp2_with fail
          refine (vscroll_no2 _ vb 2 0 _ n (V4.out.sees S5.out) (by decide) (HN.out _ S5.out)).mono ?_
          rintro e W6 ⟨rfl, hs⟩; have S6 := Lib.hid ((S5).out.trans hs); clear hs
          go_wp2_with fail
          refine (vpushed_no2 _ vb 2 0 _ n (V4.out.sees S6.out) (by decide) (HN.out _ S6.out)).mono ?_
          rintro e W7 ⟨rfl, hs⟩; have S7 := Lib.hid ((S6).out.trans hs); clear hs
          go_wp2_with fail
          refine (vresize_no2 _ vb 2 0 _ n (V4.out.sees S7.out) (by decide) (HN.out _ S7.out)).mono ?_
          rintro e W8 ⟨rfl, hs⟩; have S8 := Lib.hid ((S7).out.trans hs); clear hs
          go_wp2_with fail
          refine (vsees_err _ _ _ 1 _ (vlines_no2 _ vb 2 0 _ _ (V4.out.sees S8.out) (by decide) (HN.out _ S8.out))).mono ?_
          rintro e W9 ⟨rfl, hs⟩; have S9 := Lib.hid ((S8).out.trans hs); clear hs
          go_wp2
          refine ⟨⟨j + 1, by omega, by simp, S9.out⟩, by simp [intOf]; omega⟩
        · obtain rfl : j = 2 := by omega
          go_wp2_with fail
          refine (vrows_at _ vb 2 0 (V4.out.sees S5.out) (by decide)).mono ?_
          rintro e W6 ⟨rfl, hs⟩; have S6 := Lib.hid ((S5).out.trans hs); clear hs
          go_wp2_with fail
          refine (known32 _ (Ht.out.sees (S4.out.trans S6.out))).mono ?_
          rintro e W7 ⟨rfl, hs⟩; have S7 := Lib.hid ((S6).out.trans hs); clear hs
          go_wp2
          go_ret
          exact ⟨by simp, S4.out.trans S7.out⟩
end Go.Proofs.YtpicffaghoggdaaDoor

namespace Go.Proofs.YtpicffaghoggdaaDoor
set_option linter.unusedVariables false
set_option linter.unusedSimpArgs false
open Go.RowKit

theorem extract_list (f : ByteArray) (m : Nat) : (f.extract 0 m).data.toList = f.data.toList.take m := by
  rw [ByteArray.data_extract]; simp
theorem rowsOf_take (f : ByteArray) (m : Nat) : rowsOf (f.extract 0 m) = (rowsOf f).take m := by
  unfold rowsOf; rw [extract_list, List.map_take]
theorem rows32_take (f : ByteArray) (m : Nat) (h : ((rowsOf f).all fun l => lnOk l.cells) = true) : ∀ l ∈ rowsOf (f.extract 0 m), lnOk l.cells = true := fun l hl => by
  rw [rowsOf_take] at hl
  exact rows32_ok f h l (List.mem_of_mem_take hl)
theorem rows32_size (f : ByteArray) (m : Nat) (h : m ≤ f.size) : (rowsOf (f.extract 0 m)).length = m := by
  rw [rowsOf_take, List.length_take, rows32_len]; omega
theorem cut_const (f : ByteArray) (m : Nat) (hm : m ≤ f.size) (W : World) : (Instr.sliceAt 9 (.string f) none (some (.int .u8 (m : Int))) none).run Tryd.prog W = .ok (.string (f.extract 0 m)) W := by
  rw [run_sliceAt_string (P := Tryd.prog) (h := Tryd.underlying9), run_slice_string_h (P := Tryd.prog) (ht := Tryd.underlying9) (h0 := by omega) (h2 := by omega)]
  simp
theorem extract_size (f : ByteArray) (m : Nat) (h : m ≤ f.size) : (f.extract 0 m).size = m := by
  rw [ByteArray.size_extract]; omega
set_option maxRecDepth 1000000 in
set_option maxHeartbeats 8000000 in
theorem viewShares_in (m q r : Nat) (w : World) (ht : Tabs w) (hm : m ≤ 9) (hq : q ≤ 255) (hr1 : 1 ≤ r) (hr : r ≤ 9) :
    Calls Tryd.prog 5 #[.int .u8 m, .int .u8 q, .int .u8 r] w fun e w' => e = .returned (.bool true) ∧ Sees w w' := by
  have Ht := Lib.hid ht
  clear ht
  have d1 : decide ((m : Int) > 9) = false := decide_eq_false (by omega)
  have d2 : decide ((r : Int) < 1) = false := decide_eq_false (by omega)
  have d3 : decide ((r : Int) > 9) = false := decide_eq_false (by omega)
  have gr : IntKind.i64.wrap (r : Int) = (r : Int) := IntWalk.i64_in _ (by omega)
  have gq : IntKind.i64.wrap (q : Int) = (q : Int) := IntWalk.i64_in _ (by omega)
  obtain ⟨s, hs⟩ : ∃ s, s = (ByteArray.mk #[97, 98, 99, 100, 101, 102, 103, 104, 105]).extract 0 m := ⟨_, rfl⟩
  obtain ⟨t, ht⟩ : ∃ t, t = (ByteArray.mk #[114, 115, 116, 117, 118, 119, 120, 121, 122]).extract 0 r := ⟨_, rfl⟩
  have Hs := Lib.hid hs
  have Ht2 := Lib.hid ht
  have Hsl : Hid ((rowsOf s).length = m) := Lib.hid (by rw [hs]; exact rows32_size _ _ hm)
  have Htl : Hid ((rowsOf t).length = r) := Lib.hid (by rw [ht]; exact rows32_size _ _ hr)
  have Hss : Hid (s.size ≤ 1000) := Lib.hid (by rw [hs, extract_size _ _ hm]; omega)
  have Hts : Hid (t.size ≤ 1000) := Lib.hid (by rw [ht, extract_size _ _ hr]; omega)
  have Hok : Hid (∀ l ∈ rowsOf s, lnOk l.cells = true) := Lib.hid (by rw [hs]; exact rows32_take _ _ (by kernel_rfl))
  have hX1 : ∀ W, (Instr.sliceAt 9 (.string ⟨#[97, 98, 99, 100, 101, 102, 103, 104, 105]⟩) none (some (.int .u8 m)) none).run Tryd.prog W = .ok (.string s) W := by rw [hs]; exact cut_const _ m hm
  have hX2 : ∀ W, (Instr.sliceAt 9 (.string ⟨#[114, 115, 116, 117, 118, 119, 120, 121, 122]⟩) none (some (.int .u8 r)) none).run Tryd.prog W = .ok (.string t) W := by rw [ht]; exact cut_const _ r hr
  clear hs ht
  go_enter Tryd.func5, Tryd.ntmps5
  go_wp2_with fail
  refine (list32_any s w Hss.out).mono ?_
  rintro e wa ⟨v0, rfl, o0, s0⟩
  obtain ⟨a0, c0, rfl, _⟩ := o0.slice
  rw [Hsl.out] at o0 ⊢
  have O0 := Lib.hid o0
  have S0 := Lib.hid s0
  clear o0 s0
  go_wp2_with fail
  refine (made32_any 20 _ (rowsOf s) (fun _ => True) wa (Ht.out.sees S0.out) (by decide) (by decide) (O0.out.rd.mono (fun _ _ _ => trivial)) Hok.out (by rw [Hsl.out]; omega) 0 (by rw [Hsl.out]; simp; omega)).mono ?_
  rintro e wb ⟨hb, rfl, P⟩
  have P0 : Hid (HiF wa (fun c => wa.heap.size ≤ c) wb hb 20 0 (rowsOf s)) := Lib.hid P
  clear P
  go_wp2_with fail
  refine (vnew_ok r wb (by omega) (by omega)).mono ?_
  rintro e wc ⟨rfl, hv, hs⟩
  have Q0 : Hid (ViSt wa wc wb.heap.size hb r 0 20 0 (rowsOf s) (.slice none 0 0) []) := Lib.hid (ViSt.start P0.out hv hs hr1 (by omega))
  have HT : Hid (Tabs wa) := Lib.hid (Ht.out.sees S0.out)
  generalize wb.heap.size = vb at *
  clear hv hs P0 O0 Ht
  go_wp2_with fail
  refine (list32_any t wc Hts.out).mono ?_
  rintro e W0 ⟨v1, rfl, o1, s1⟩
  obtain ⟨a1, c1, rfl, _⟩ := o1.slice
  rw [Htl.out] at o1 ⊢
  have H0 : Hid (ViSt wa W0 vb hb r 0 20 0 (rowsOf s) (.slice a1 r c1) (rowsOf t)) := Lib.hid (Q0.out.screen s1 o1.rd)
  clear o1 s1 Q0
  obtain ⟨k, hk, hkm⟩ := clampV_nat (0 + max (min (q : Int) 1048576) (-1048576)) m
  have Hk := Lib.hid hk
  clear hk
  go_wp2_with fail
  refine (H0.out.scroll (q : Int) k (by rw [Hsl.out]; exact Hk.out)).mono ?_
  rintro e W1 ⟨rfl, hs⟩
  have H1 := Lib.hid hs
  clear hs H0
  go_wp2_with fail
  refine (H1.out.lines k (by rw [Hsl.out]; unfold clampV; omega) Htl.out (rows32_cells _) (m - k : Int) (by rw [Hsl.out]; omega)).mono ?_
  rintro e W2 ⟨vl, rfl, ho, hs⟩
  obtain ⟨L, hL⟩ : ∃ L, L = ((rowsOf s).drop ((rowsOf s).length - k) ++ rowsOf t).take r := ⟨_, rfl⟩
  rw [← hL] at ho
  have hLc : ∀ l ∈ L, l.cells.length ≤ 1000000 := by
    rw [hL]
    intro l hl
    rcases List.mem_append.1 (List.mem_of_mem_take hl) with hl | hl
    · exact rows32_cells _ l (List.mem_of_mem_drop hl)
    · exact rows32_cells _ l hl
  have hLn : L.length ≤ 9 := by rw [hL, List.length_take]; omega
  have HLc := Lib.hid hLc
  obtain ⟨al, cl, rfl, _⟩ := ho.slice
  obtain ⟨n, hn⟩ : ∃ n, n = L.length := ⟨_, rfl⟩
  rw [← hn] at hLn ⊢
  have Hn := Lib.hid hn
  have S2 := Lib.hid hs
  have HO := Lib.hid (fun h0 : L ≠ [] => StF.of (own_ownl ho) h0)
  clear ho hs hL hLc hn
  go_wp2_with fail
  go_loopw [13] (fun i W => ∃ j : Nat, j ≤ n ∧ i = .int .i64 j ∧ (L ≠ [] → ∃ g, al = some ⟨g, 0, none⟩ ∧ StF (fun c => W1.heap.size ≤ c) W g L j) ∧ Sees W1 W) (fun i _ => n - (intOf i).toNat)
  case atStart => exact ⟨0, by omega, rfl, HO.out, S2.out⟩
  case round =>
    obtain ⟨j, hj, rfl, hO, hS⟩ := hrel
    have HO2 := Lib.hid hO
    have S3 := Lib.hid hS
    clear hO hS HO S2
    by_cases hlt : j < n
    · have hne : L ≠ [] := fun e => by have := Hn.out; rw [e] at this; simp at this; omega
      obtain ⟨g, rfl, hg⟩ := HO2.out hne
      obtain ⟨l, hl⟩ : ∃ l, L[j]? = some l := ⟨L[j]'(by have := Hn.out; omega), List.getElem?_eq_getElem _⟩
      obtain ⟨a4, c4, x1, x2, x3, x4, x5⟩ := hg.step hl
      have X3 := Lib.hid x3
      have X4 := Lib.hid x4
      have X5 := Lib.hid x5
      have Hl := Lib.hid (HLc.out l (List.mem_iff_getElem?.2 ⟨_, hl⟩))
      clear x2 x3 x4 x5 hg hne HO2 hl
      go_wp2_with fail
      refine (stain_own 0 _ l.cells _ X3.out Hl.out).mono ?_
      rintro e W4 ⟨rfl, hk4⟩
      have S4 := Lib.hid (((Keeps.of_sees (F := fun _ => False) S3.out).trans' hk4 (fun b hb e => by have := X4.out b e; omega)).sees_end (fun _ _ h => h))
      have G4 := Lib.hid (X5.out W4 hk4)
      clear hk4
      go_wp2_with fail
      go_roundw
      case rel => exact ⟨j + 1, by omega, by go_num, fun _ => ⟨g, rfl, G4.out⟩, S4.out⟩
      case measure => simp [intOf] <;> omega
    · obtain rfl : n = j := by omega
      have H3 := Lib.hid (H1.out.sees S3.out)
      clear HO2 H1 S3
      obtain ⟨ws, rfl⟩ : ∃ ws : World, ws = wr := ⟨_, rfl⟩
      go_wp2_with fail
      refine wpFrom_go (by kernel_rfl) (by kernel_rfl) (fun hB W5 hs5 => ?_)
      have H5 := Lib.hid (H3.out.sees hs5)
      clear hs5 H3
      have hval : ∀ x v, (Spec.is x).val v = x := fun _ _ => rfl
      have hval2 : ∀ V v, (Spec.so V).val v = v := fun _ _ => rfl
      have hst : segStay (Sees W5) [.is (.int .i64 0),
            .is (.bool true),
            .is (.bool true),
            .is (.slice a1 r c1),
            .is (.int .u8 r),
            .is (.string t),
            .so (fun x W => lnEl.Own (fun c => W5.heap.size ≤ c) W x (rowsOf t)),
            .is (.bool true),
            .is (.bool true),
            .is (.bool true),
            .is (.pointer (some ⟨hb, 0, none⟩)),
            .so (fun x W => lnEl.Own (fun c => W5.heap.size ≤ c) W x (rowsOf s)),
            .is (.int .u8 m),
            .is (.string s),
            .so (fun x W => lnEl.Own (fun c => W5.heap.size ≤ c) W x (rowsOf s)),
            .is (.bool true),
            .is (.bool true),
            .is (.bool true),
            .is (.bool true),
            .is (.bool true)] :=
          ⟨fun u W W' _ h hs => h.sees hs, fun u W W' _ h hs => h.sees hs, fun u W W' _ h hs => h.sees hs, trivial⟩
      refine wpFrom_any 20 _ hB (by kernel_rfl) rfl hst (by simp only [List.cons_append, List.nil_append, List.drop_succ_cons, List.drop_zero, List.take_succ_cons, List.take_zero, Nat.reduceSub]; rfl) ?_
      refine ⟨fun vs W hI hV => .inl ⟨by clear hI hV hst; go_simp, .inl (by clear hI hV hst; (try simp only [Act.put, hval, hval2, List.setIfInBounds_toArray, List.set_cons_zero, List.set_cons_succ]); go_simp)⟩, ?_⟩
      refine ⟨fun vs W hI hV => .inl ⟨by clear hI hV hst; go_simp, .inl (by clear hI hV hst; (try simp only [Act.put, hval, hval2, List.setIfInBounds_toArray, List.set_cons_zero, List.set_cons_succ]); go_simp)⟩, ?_⟩
      refine ⟨fun vs W hI hV => .inl ⟨by clear hI hV hst; go_simp, .inl (by clear hI hV hst; (try simp only [Act.put, hval, hval2, List.setIfInBounds_toArray, List.set_cons_zero, List.set_cons_succ]); go_simp)⟩, ?_⟩
      refine ⟨fun vs W hI hV => .inl ⟨by clear hI hV hst; go_simp, .inl (by clear hI hV hst; (try simp only [Act.put, hval, hval2, List.setIfInBounds_toArray, List.set_cons_zero, List.set_cons_succ]); go_simp)⟩, ?_⟩
      refine ⟨fun vs W hI hV => .inl ⟨by clear hI hV hst; go_simp, .inl (by clear hI hV hst; (try simp only [Act.put, hval, hval2, List.setIfInBounds_toArray, List.set_cons_zero, List.set_cons_succ]); go_simp)⟩, ?_⟩
      refine ⟨fun vs W hI hV => .inl ⟨by clear hI hV hst; go_simp, .inl (by clear hI hV hst; (try simp only [Act.put, hval, hval2, List.setIfInBounds_toArray, List.set_cons_zero, List.set_cons_succ]); go_simp)⟩, ?_⟩
      refine ⟨fun vs W hI hV => .inl ⟨by clear hI hV hst; (try simp only [Act.put, hval, hval2, List.setIfInBounds_toArray, List.set_cons_zero, List.set_cons_succ]); go_simp, .inr (.inr ⟨31, #[.string t], by clear hI hV hst; (try simp only [Act.put, hval, hval2, List.setIfInBounds_toArray, List.set_cons_zero, List.set_cons_succ]); go_simp, ?_⟩)⟩, ?_⟩
      · refine (list32_any t W Hts.out).mono ?_
        rintro e w' ⟨v', rfl, ho, hs⟩
        exact ⟨_, rfl, rgGood_mk hst hI (ho.mono (fun b _ h => Nat.le_trans hI.size h)) hs⟩
      refine ⟨fun vs W hI hV => .inl ⟨by clear hI hV hst; (try simp only [Act.put, hval, hval2, List.setIfInBounds_toArray, List.set_cons_zero, List.set_cons_succ]); go_simp, .inr (.inr ⟨23, #[.slice a1 r c1, vs 6], by clear hI hV hst; (try simp only [Act.put, hval, hval2, List.setIfInBounds_toArray, List.set_cons_zero, List.set_cons_succ]); go_simp, ?_⟩)⟩, ?_⟩
      · have h6 : lnEl.Own (fun c => W5.heap.size ≤ c) W (vs 6) (rowsOf t) := hV 6 _ (by kernel_rfl) rfl
        exact all_true _ _ _ _ (rowsOf t) (rowsOf t) W (H5.out.sees hI).scr h6.rd.rdl (by rw [Htl.out]; omega) (rows32_cells _) rfl
      refine ⟨fun vs W hI hV => .inl ⟨by clear hI hV hst; go_simp, .inl (by clear hI hV hst; (try simp only [Act.put, hval, hval2, List.setIfInBounds_toArray, List.set_cons_zero, List.set_cons_succ]); go_simp)⟩, ?_⟩
      refine ⟨fun vs W hI hV => .inl ⟨by clear hI hV hst; go_simp, .inl (by clear hI hV hst; (try simp only [Act.put, hval, hval2, List.setIfInBounds_toArray, List.set_cons_zero, List.set_cons_succ]); go_simp)⟩, ?_⟩
      refine ⟨fun vs W hI hV => .inl ⟨by clear hI hV hst; go_simp, .inl (by clear hI hV hst; (try simp only [Act.put, hval, hval2, List.setIfInBounds_toArray, List.set_cons_zero, List.set_cons_succ]); go_simp)⟩, ?_⟩
      refine ⟨fun vs W hI hV => .inl ⟨by clear hI hV hst; (try simp only [Act.put, hval, hval2, List.setIfInBounds_toArray, List.set_cons_zero, List.set_cons_succ]); go_simp, .inr (.inr ⟨19, #[.pointer (some ⟨hb, 0, none⟩)], by clear hI hV hst; (try simp only [Act.put, hval, hval2, List.setIfInBounds_toArray, List.set_cons_zero, List.set_cons_succ]); go_simp, ?_⟩)⟩, ?_⟩
      · refine ((H5.out.sees hI).all_is).mono ?_
        rintro e w' ⟨v', rfl, ho, hs⟩
        exact ⟨_, rfl, rgGood_mk hst hI (ho.mono (fun b _ h => Nat.le_trans hI.size h)) hs⟩
      refine ⟨fun vs W hI hV => .inl ⟨by clear hI hV hst; go_simp, .inl (by clear hI hV hst; (try simp only [Act.put, hval, hval2, List.setIfInBounds_toArray, List.set_cons_zero, List.set_cons_succ]); go_simp)⟩, ?_⟩
      refine ⟨fun vs W hI hV => .inl ⟨by clear hI hV hst; go_simp, .inl (by clear hI hV hst; (try simp only [Act.put, hval, hval2, List.setIfInBounds_toArray, List.set_cons_zero, List.set_cons_succ]); go_simp)⟩, ?_⟩
      refine ⟨fun vs W hI hV => .inl ⟨by clear hI hV hst; (try simp only [Act.put, hval, hval2, List.setIfInBounds_toArray, List.set_cons_zero, List.set_cons_succ]); go_simp, .inr (.inr ⟨31, #[.string s], by clear hI hV hst; (try simp only [Act.put, hval, hval2, List.setIfInBounds_toArray, List.set_cons_zero, List.set_cons_succ]); go_simp, ?_⟩)⟩, ?_⟩
      · refine (list32_any s W Hss.out).mono ?_
        rintro e w' ⟨v', rfl, ho, hs⟩
        exact ⟨_, rfl, rgGood_mk hst hI (ho.mono (fun b _ h => Nat.le_trans hI.size h)) hs⟩
      refine ⟨fun vs W hI hV => .inl ⟨by clear hI hV hst; (try simp only [Act.put, hval, hval2, List.setIfInBounds_toArray, List.set_cons_zero, List.set_cons_succ]); go_simp, .inr (.inr ⟨23, #[vs 11, vs 14], by clear hI hV hst; (try simp only [Act.put, hval, hval2, List.setIfInBounds_toArray, List.set_cons_zero, List.set_cons_succ]); go_simp, ?_⟩)⟩, ?_⟩
      · have h1 : lnEl.Own (fun c => W5.heap.size ≤ c) W (vs 11) (rowsOf s) := hV 11 _ (by kernel_rfl) rfl
        have h2 : lnEl.Own (fun c => W5.heap.size ≤ c) W (vs 14) (rowsOf s) := hV 14 _ (by kernel_rfl) rfl
        exact all_true _ _ _ _ (rowsOf s) (rowsOf s) W h1.rd.rdl h2.rd.rdl (by rw [Hsl.out]; omega) (rows32_cells _) rfl
      refine ⟨fun vs W hI hV => .inl ⟨by clear hI hV hst; go_simp, .inl (by clear hI hV hst; (try simp only [Act.put, hval, hval2, List.setIfInBounds_toArray, List.set_cons_zero, List.set_cons_succ]); go_simp)⟩, ?_⟩
      refine ⟨fun vs W hI hV => .inl ⟨by clear hI hV hst; go_simp, .inl (by clear hI hV hst; (try simp only [Act.put, hval, hval2, List.setIfInBounds_toArray, List.set_cons_zero, List.set_cons_succ]); go_simp)⟩, ?_⟩
      refine ⟨fun vs W hI hV => .inl ⟨by clear hI hV hst; (try simp only [Act.put, hval, hval2, List.setIfInBounds_toArray, List.set_cons_zero, List.set_cons_succ]); go_simp, .inr (.inr ⟨29, #[], by clear hI hV hst; (try simp only [Act.put, hval, hval2, List.setIfInBounds_toArray, List.set_cons_zero, List.set_cons_succ]); go_simp, known32 W (HT.out.sees (H5.out.see.trans hI))⟩)⟩, ?_⟩
      refine ⟨fun vs W hI hV => .inl ⟨by clear hI hV hst; go_simp, .inl (by clear hI hV hst; (try simp only [Act.put, hval, hval2, List.setIfInBounds_toArray, List.set_cons_zero, List.set_cons_succ]); go_simp)⟩, ?_⟩
      intro vs W6 hI hV
      have S6 := Lib.hid (S0.out.trans (H5.out.see.trans hI))
      clear hI hV hst H5
      (try simp only [Act.put, hval, hval2, List.setIfInBounds_toArray, List.set_cons_zero, List.set_cons_succ])
      go_simp
      refine wpFrom_to 21 hB (fun _ _ _ _ _ h => h) (by kernel_rfl) (by simp only [List.cons_append, List.nil_append, List.drop_succ_cons, List.drop_zero, List.take_succ_cons, List.take_zero, Nat.reduceSub]; rfl) ?_
      go_wp2_with fail
      refine wpFrom_end rfl ?_
      clear hB
      go_wp2
      go_ret
      exact ⟨by simp, S6.out⟩
set_option maxRecDepth 1000000 in
set_option maxHeartbeats 4000000 in
theorem viewShares_out1 (m q r : Nat) (w : World) (ht : Tabs w) (hm : 9 < m) :
    Calls Tryd.prog 5 #[.int .u8 m, .int .u8 q, .int .u8 r] w fun e w' => e = .returned (.bool true) ∧ Sees w w' := by
  have Ht := Lib.hid ht
  clear ht
  have d1 : decide ((m : Int) > 9) = true := decide_eq_true (by omega)
  go_enter Tryd.func5, Tryd.ntmps5
  go_wp2_with fail
  refine (known32 _ Ht.out).mono ?_
  rintro e w5 ⟨rfl, hs5⟩
  go_wp2
  go_ret
  exact ⟨by simp, hs5⟩
set_option maxRecDepth 1000000 in
set_option maxHeartbeats 4000000 in
theorem viewShares_out2 (m q r : Nat) (w : World) (ht : Tabs w) (hm : m ≤ 9) (hr : r < 1) :
    Calls Tryd.prog 5 #[.int .u8 m, .int .u8 q, .int .u8 r] w fun e w' => e = .returned (.bool true) ∧ Sees w w' := by
  have Ht := Lib.hid ht
  clear ht
  have d1 : decide ((m : Int) > 9) = false := decide_eq_false (by omega)
  have d2 : decide ((r : Int) < 1) = true := decide_eq_true (by omega)
  go_enter Tryd.func5, Tryd.ntmps5
  go_wp2_with fail
  refine (known32 _ Ht.out).mono ?_
  rintro e w5 ⟨rfl, hs5⟩
  go_wp2
  go_ret
  exact ⟨by simp, hs5⟩
set_option maxRecDepth 1000000 in
set_option maxHeartbeats 4000000 in
theorem viewShares_out3 (m q r : Nat) (w : World) (ht : Tabs w) (hm : m ≤ 9) (hr1 : 1 ≤ r) (hr : 9 < r) :
    Calls Tryd.prog 5 #[.int .u8 m, .int .u8 q, .int .u8 r] w fun e w' => e = .returned (.bool true) ∧ Sees w w' := by
  have Ht := Lib.hid ht
  clear ht
  have d1 : decide ((m : Int) > 9) = false := decide_eq_false (by omega)
  have d2 : decide ((r : Int) < 1) = false := decide_eq_false (by omega)
  have d3 : decide ((r : Int) > 9) = true := decide_eq_true (by omega)
  go_enter Tryd.func5, Tryd.ntmps5
  go_wp2_with fail
  refine (known32 _ Ht.out).mono ?_
  rintro e w5 ⟨rfl, hs5⟩
  go_wp2
  go_ret
  exact ⟨by simp, hs5⟩
theorem viewShares_any (m q r : Nat) (w : World) (ht : Tabs w) (hq : q ≤ 255) :
    Calls Tryd.prog 5 #[.int .u8 m, .int .u8 q, .int .u8 r] w fun e w' => e = .returned (.bool true) ∧ Sees w w' := by
  by_cases h1 : m ≤ 9
  · by_cases h2 : 1 ≤ r
    · by_cases h3 : r ≤ 9
      · exact viewShares_in m q r w ht h1 hq h2 h3
      · exact viewShares_out3 m q r w ht h1 h2 (by omega)
    · exact viewShares_out2 m q r w ht h1 (by omega)
  · exact viewShares_out1 m q r w ht (by omega)
end Go.Proofs.YtpicffaghoggdaaDoor
