/- The chapter's examples. No condition. -/
import Derived.Test.YtoljdfaghomjkaaDoorPlH
namespace Go.Proofs.YtoljdfaghomjkaaDoor
set_option linter.unusedVariables false
set_option linter.unusedSimpArgs false
open Go.RowKit

set_option maxRecDepth 1000000 in
set_option maxHeartbeats 8000000 in
theorem known09 (w : World) (hst : Std w) : Calls Tryd.prog 14 #[] w fun e w' => e = .returned (.bool true) ∧ Sees w w' := by
  go_enter Tryd.func14, Tryd.ntmps14
  go_wp2_with fail
  refine (at_any 3 0 _).mono ?_
  rintro e w1 ⟨rfl, s1⟩
  go_wp2_with fail
  refine (at_any 2 9 _).mono ?_
  rintro e w2 ⟨rfl, s2⟩
  go_wp2_with fail
  refine (order_c _).mono ?_
  rintro e w3 ⟨rfl, s3⟩
  have hS3 := s1.trans (s2.trans s3)
  clear s1 s2 s3
  go_wp2_with fail
  refine wp_world (fun w4 hw4 => ?_)
  have hS4 : Sees w w4 := by rw [hw4]; exact (hS3.alloc _).alloc _
  have A : PlAt w4 w3.heap.size 2 9 := by rw [hw4]; exact (PlAt.new w3 2 9).sees ((Sees.refl _).alloc _)
  have hz1 : (w3.alloc (.cells #[.int .i64 2, .int .i64 9] 23)).heap.size = w3.heap.size + 1 := by simp
  have B : PlAt w4 (w3.heap.size + 1) 3 0 := by rw [hw4, ← hz1]; exact PlAt.new _ 3 0
  clear hz1 hw4 hS3
  have HV : Hid (∀ W, Sees w4 W → (W.cell? ⟨w3.heap.size, 0, none⟩ = some (.int .i64 2) ∧ W.cell? ⟨w3.heap.size, 1, none⟩ = some (.int .i64 9)) ∧ W.cell? ⟨w3.heap.size + 1, 0, none⟩ = some (.int .i64 3) ∧ W.cell? ⟨w3.heap.size + 1, 1, none⟩ = some (.int .i64 0)) :=
    Lib.hid fun W h => ⟨(A.sees h).cs, (B.sees h).cs⟩
  clear A B
  refine wp_region_sees (by kernel_rfl) (by kernel_rfl) ?_
  refine wpQuiet_enter 31 #[.int .i64 2, .int .i64 5] (fun K hK => ⟨?_, fun W hW => ?_, ?_⟩); (focus (go_simp; done)); (focus (have hc := hW.cells;  go_simp; done)); apply Exists.intro; refine ⟨fun W hW => (at_any 2 5 W).mono fun e w'' ⟨he, hb⟩ => ⟨he, hW.trans hb⟩, ?_⟩; go_simp; refine hK _ ?_; clear hK K
  refine wpQuiet_enter 31 #[.int .i64 2, .int .i64 6] (fun K hK => ⟨?_, fun W hW => ?_, ?_⟩); (focus (go_simp; done)); (focus (have hc := hW.cells;  go_simp; done)); apply Exists.intro; refine ⟨fun W hW => (at_any 2 6 W).mono fun e w'' ⟨he, hb⟩ => ⟨he, hW.trans hb⟩, ?_⟩; go_simp; refine hK _ ?_; clear hK K
  refine wpQuiet_enter 11 #[pl 2 5, pl 2 6] (fun K hK => ⟨?_, fun W hW => ?_, ?_⟩); (focus (go_simp; done)); (focus (have hc := hW.cells;  go_simp; done)); apply Exists.intro; refine ⟨fun W hW => (compare_c 2 5 2 6 (-1) (by decide) W).mono fun e w'' ⟨he, hb⟩ => ⟨he, hW.trans hb⟩, ?_⟩; go_simp; refine hK _ ?_; clear hK K
  refine wpQuiet_val (fun K hK => ⟨?_, ?_⟩); (focus (go_simp; done)); apply Exists.intro; refine ⟨fun W hW => ?_, ?_⟩; (focus ( go_simp; first | done | rfl)); go_simp; refine hK _ ?_; clear hK K
  refine wpQuiet_val (fun K hK => ⟨?_, ?_⟩); (focus (go_simp; done)); apply Exists.intro; refine ⟨fun W hW => ?_, ?_⟩; (focus ( go_simp; first | done | rfl)); go_simp; refine hK _ ?_; clear hK K
  refine wpQuiet_enter 31 #[.int .i64 3, .int .i64 0] (fun K hK => ⟨?_, fun W hW => ?_, ?_⟩); (focus (go_simp; done)); (focus (have hc := hW.cells;  go_simp; done)); apply Exists.intro; refine ⟨fun W hW => (at_any 3 0 W).mono fun e w'' ⟨he, hb⟩ => ⟨he, hW.trans hb⟩, ?_⟩; go_simp; refine hK _ ?_; clear hK K
  refine wpQuiet_enter 31 #[.int .i64 2, .int .i64 9] (fun K hK => ⟨?_, fun W hW => ?_, ?_⟩); (focus (go_simp; done)); (focus (have hc := hW.cells;  go_simp; done)); apply Exists.intro; refine ⟨fun W hW => (at_any 2 9 W).mono fun e w'' ⟨he, hb⟩ => ⟨he, hW.trans hb⟩, ?_⟩; go_simp; refine hK _ ?_; clear hK K
  refine wpQuiet_enter 11 #[pl 3 0, pl 2 9] (fun K hK => ⟨?_, fun W hW => ?_, ?_⟩); (focus (go_simp; done)); (focus (have hc := hW.cells;  go_simp; done)); apply Exists.intro; refine ⟨fun W hW => (compare_c 3 0 2 9 1 (by decide) W).mono fun e w'' ⟨he, hb⟩ => ⟨he, hW.trans hb⟩, ?_⟩; go_simp; refine hK _ ?_; clear hK K
  refine wpQuiet_val (fun K hK => ⟨?_, ?_⟩); (focus (go_simp; done)); apply Exists.intro; refine ⟨fun W hW => ?_, ?_⟩; (focus ( go_simp; first | done | rfl)); go_simp; refine hK _ ?_; clear hK K
  refine wpQuiet_val (fun K hK => ⟨?_, ?_⟩); (focus (go_simp; done)); apply Exists.intro; refine ⟨fun W hW => ?_, ?_⟩; (focus ( go_simp; first | done | rfl)); go_simp; refine hK _ ?_; clear hK K
  refine wpQuiet_val (fun K hK => ⟨?_, ?_⟩); (focus (go_simp; done)); apply Exists.intro; refine ⟨fun W hW => ?_, ?_⟩; (focus ( go_simp; first | done | rfl)); go_simp; refine hK _ ?_; clear hK K
  refine wpQuiet_enter 31 #[.int .i64 2, .int .i64 5] (fun K hK => ⟨?_, fun W hW => ?_, ?_⟩); (focus (go_simp; done)); (focus (have hc := hW.cells;  go_simp; done)); apply Exists.intro; refine ⟨fun W hW => (at_any 2 5 W).mono fun e w'' ⟨he, hb⟩ => ⟨he, hW.trans hb⟩, ?_⟩; go_simp; refine hK _ ?_; clear hK K
  refine wpQuiet_enter 31 #[.int .i64 2, .int .i64 5] (fun K hK => ⟨?_, fun W hW => ?_, ?_⟩); (focus (go_simp; done)); (focus (have hc := hW.cells;  go_simp; done)); apply Exists.intro; refine ⟨fun W hW => (at_any 2 5 W).mono fun e w'' ⟨he, hb⟩ => ⟨he, hW.trans hb⟩, ?_⟩; go_simp; refine hK _ ?_; clear hK K
  refine wpQuiet_enter 11 #[pl 2 5, pl 2 5] (fun K hK => ⟨?_, fun W hW => ?_, ?_⟩); (focus (go_simp; done)); (focus (have hc := hW.cells;  go_simp; done)); apply Exists.intro; refine ⟨fun W hW => (compare_c 2 5 2 5 0 (by decide) W).mono fun e w'' ⟨he, hb⟩ => ⟨he, hW.trans hb⟩, ?_⟩; go_simp; refine hK _ ?_; clear hK K
  refine wpQuiet_val (fun K hK => ⟨?_, ?_⟩); (focus (go_simp; done)); apply Exists.intro; refine ⟨fun W hW => ?_, ?_⟩; (focus ( go_simp; first | done | rfl)); go_simp; refine hK _ ?_; clear hK K
  refine wpQuiet_val (fun K hK => ⟨?_, ?_⟩); (focus (go_simp; done)); apply Exists.intro; refine ⟨fun W hW => ?_, ?_⟩; (focus ( go_simp; first | done | rfl)); go_simp; refine hK _ ?_; clear hK K
  refine wpQuiet_val (fun K hK => ⟨?_, ?_⟩); (focus (go_simp; done)); apply Exists.intro; refine ⟨fun W hW => ?_, ?_⟩; (focus ( go_simp; first | done | rfl)); go_simp; refine hK _ ?_; clear hK K
  refine wpQuiet_val (fun K hK => ⟨?_, ?_⟩); (focus (go_simp; done)); apply Exists.intro; refine ⟨fun W hW => ?_, ?_⟩; (focus (have q := HV.out W hW; obtain ⟨⟨q0, q1⟩, q2, q3⟩ := q; go_simp; first | done | rfl)); go_simp; refine hK _ ?_; clear hK K
  refine wpQuiet_enter 31 #[.int .i64 2, .int .i64 9] (fun K hK => ⟨?_, fun W hW => ?_, ?_⟩); (focus (go_simp; done)); (focus (have hc := hW.cells;  go_simp; done)); apply Exists.intro; refine ⟨fun W hW => (at_any 2 9 W).mono fun e w'' ⟨he, hb⟩ => ⟨he, hW.trans hb⟩, ?_⟩; go_simp; refine hK _ ?_; clear hK K
  refine wpQuiet_val (fun K hK => ⟨?_, ?_⟩); (focus (go_simp; done)); apply Exists.intro; refine ⟨fun W hW => ?_, ?_⟩; (focus ( go_simp; first | done | rfl)); go_simp; refine hK _ ?_; clear hK K
  refine wpQuiet_val (fun K hK => ⟨?_, ?_⟩); (focus (go_simp; done)); apply Exists.intro; refine ⟨fun W hW => ?_, ?_⟩; (focus ( go_simp; first | done | rfl)); go_simp; refine hK _ ?_; clear hK K
  refine wpQuiet_val (fun K hK => ⟨?_, ?_⟩); (focus (go_simp; done)); apply Exists.intro; refine ⟨fun W hW => ?_, ?_⟩; (focus ( go_simp; first | done | rfl)); go_simp; refine hK _ ?_; clear hK K
  refine wpQuiet_val (fun K hK => ⟨?_, ?_⟩); (focus (go_simp; done)); apply Exists.intro; refine ⟨fun W hW => ?_, ?_⟩; (focus (have q := HV.out W hW; obtain ⟨⟨q0, q1⟩, q2, q3⟩ := q; go_simp; first | done | rfl)); go_simp; refine hK _ ?_; clear hK K
  refine wpQuiet_enter 31 #[.int .i64 3, .int .i64 0] (fun K hK => ⟨?_, fun W hW => ?_, ?_⟩); (focus (go_simp; done)); (focus (have hc := hW.cells;  go_simp; done)); apply Exists.intro; refine ⟨fun W hW => (at_any 3 0 W).mono fun e w'' ⟨he, hb⟩ => ⟨he, hW.trans hb⟩, ?_⟩; go_simp; refine hK _ ?_; clear hK K
  refine wpQuiet_val (fun K hK => ⟨?_, ?_⟩); (focus (go_simp; done)); apply Exists.intro; refine ⟨fun W hW => ?_, ?_⟩; (focus ( go_simp; first | done | rfl)); go_simp; refine hK _ ?_; clear hK K
  refine wpQuiet_val (fun K hK => ⟨?_, ?_⟩); (focus (go_simp; done)); apply Exists.intro; refine ⟨fun W hW => ?_, ?_⟩; (focus ( go_simp; first | done | rfl)); go_simp; refine hK _ ?_; clear hK K
  refine wpQuiet_val (fun K hK => ⟨?_, ?_⟩); (focus (go_simp; done)); apply Exists.intro; refine ⟨fun W hW => ?_, ?_⟩; (focus ( go_simp; first | done | rfl)); go_simp; refine hK _ ?_; clear hK K
  refine wpQuiet_enter 31 #[.int .i64 2, .int .i64 5] (fun K hK => ⟨?_, fun W hW => ?_, ?_⟩); (focus (go_simp; done)); (focus (have hc := hW.cells;  go_simp; done)); apply Exists.intro; refine ⟨fun W hW => (at_any 2 5 W).mono fun e w'' ⟨he, hb⟩ => ⟨he, hW.trans hb⟩, ?_⟩; go_simp; refine hK _ ?_; clear hK K
  refine wpQuiet_enter 31 #[.int .i64 2, .int .i64 5] (fun K hK => ⟨?_, fun W hW => ?_, ?_⟩); (focus (go_simp; done)); (focus (have hc := hW.cells;  go_simp; done)); apply Exists.intro; refine ⟨fun W hW => (at_any 2 5 W).mono fun e w'' ⟨he, hb⟩ => ⟨he, hW.trans hb⟩, ?_⟩; go_simp; refine hK _ ?_; clear hK K
  refine wpQuiet_enter 31 #[.int .i64 2, .int .i64 6] (fun K hK => ⟨?_, fun W hW => ?_, ?_⟩); (focus (go_simp; done)); (focus (have hc := hW.cells;  go_simp; done)); apply Exists.intro; refine ⟨fun W hW => (at_any 2 6 W).mono fun e w'' ⟨he, hb⟩ => ⟨he, hW.trans hb⟩, ?_⟩; go_simp; refine hK _ ?_; clear hK K
  refine wpQuiet_enter 13 #[pl 2 5, pl 2 5, pl 2 6] (fun K hK => ⟨?_, fun W hW => ?_, ?_⟩); (focus (go_simp; done)); (focus (have hc := hW.cells;  go_simp; done)); apply Exists.intro; refine ⟨fun W hW => (within_c 2 5 2 5 2 6 true (by decide) W).mono fun e w'' ⟨he, hb⟩ => ⟨he, hW.trans hb⟩, ?_⟩; go_simp; refine hK _ ?_; clear hK K
  refine wpQuiet_val (fun K hK => ⟨?_, ?_⟩); (focus (go_simp; done)); apply Exists.intro; refine ⟨fun W hW => ?_, ?_⟩; (focus ( go_simp; first | done | rfl)); go_simp; refine hK _ ?_; clear hK K
  refine wpQuiet_val (fun K hK => ⟨?_, ?_⟩); (focus (go_simp; done)); apply Exists.intro; refine ⟨fun W hW => ?_, ?_⟩; (focus ( go_simp; first | done | rfl)); go_simp; refine hK _ ?_; clear hK K
  refine wpQuiet_val (fun K hK => ⟨?_, ?_⟩); (focus (go_simp; done)); apply Exists.intro; refine ⟨fun W hW => ?_, ?_⟩; (focus ( go_simp; first | done | rfl)); go_simp; refine hK _ ?_; clear hK K
  refine wpQuiet_enter 31 #[.int .i64 2, .int .i64 6] (fun K hK => ⟨?_, fun W hW => ?_, ?_⟩); (focus (go_simp; done)); (focus (have hc := hW.cells;  go_simp; done)); apply Exists.intro; refine ⟨fun W hW => (at_any 2 6 W).mono fun e w'' ⟨he, hb⟩ => ⟨he, hW.trans hb⟩, ?_⟩; go_simp; refine hK _ ?_; clear hK K
  refine wpQuiet_enter 31 #[.int .i64 2, .int .i64 5] (fun K hK => ⟨?_, fun W hW => ?_, ?_⟩); (focus (go_simp; done)); (focus (have hc := hW.cells;  go_simp; done)); apply Exists.intro; refine ⟨fun W hW => (at_any 2 5 W).mono fun e w'' ⟨he, hb⟩ => ⟨he, hW.trans hb⟩, ?_⟩; go_simp; refine hK _ ?_; clear hK K
  refine wpQuiet_enter 31 #[.int .i64 2, .int .i64 6] (fun K hK => ⟨?_, fun W hW => ?_, ?_⟩); (focus (go_simp; done)); (focus (have hc := hW.cells;  go_simp; done)); apply Exists.intro; refine ⟨fun W hW => (at_any 2 6 W).mono fun e w'' ⟨he, hb⟩ => ⟨he, hW.trans hb⟩, ?_⟩; go_simp; refine hK _ ?_; clear hK K
  refine wpQuiet_enter 13 #[pl 2 6, pl 2 5, pl 2 6] (fun K hK => ⟨?_, fun W hW => ?_, ?_⟩); (focus (go_simp; done)); (focus (have hc := hW.cells;  go_simp; done)); apply Exists.intro; refine ⟨fun W hW => (within_c 2 6 2 5 2 6 false (by decide) W).mono fun e w'' ⟨he, hb⟩ => ⟨he, hW.trans hb⟩, ?_⟩; go_simp; refine hK _ ?_; clear hK K
  refine wpQuiet_val (fun K hK => ⟨?_, ?_⟩); (focus (go_simp; done)); apply Exists.intro; refine ⟨fun W hW => ?_, ?_⟩; (focus ( go_simp; first | done | rfl)); go_simp; refine hK _ ?_; clear hK K
  refine wpQuiet_nil ?_; intro w2 hw2
  have hS5 := hS4.trans hw2
  clear hw2 HV hS4
  go_wp2_with fail
  refine (at_any 0 0 _).mono ?_
  rintro e w6 ⟨rfl, s6⟩
  have hS6 := hS5.trans s6
  clear s6 hS5
  go_wp2_with fail
  refine calls_world (fun v0 hv0 => ?_)
  have hT0 : Sees w v0 := by rw [hv0]; exact hS6.alloc _
  have Z0 : PlAt v0 w6.heap.size 0 0 := by rw [hv0]; exact PlAt.new w6 0 0
  clear hv0 hS6
  obtain ⟨x0, x1⟩ := Z0.cs
  refine (at_any 1 7 _).mono ?_
  rintro e v1 ⟨rfl, s⟩
  have hT1 := hT0.trans s
  have Z1 := Z0.sees s
  clear s x0 x1 hT0 Z0
  obtain ⟨x0, x1⟩ := Z1.cs
  go_wp2_with fail
  refine (at_any 2 0 _).mono ?_
  rintro e v2 ⟨rfl, s⟩
  have hT2 := hT1.trans s
  have Z2 := Z1.sees s
  clear s x0 x1 hT1 Z1
  obtain ⟨x0, x1⟩ := Z2.cs
  go_wp2_with fail
  refine (clamps_true 1 7 2 5 4 2 0 0 (by kernel_rfl) _).mono ?_
  rintro e v3 ⟨rfl, s⟩
  have hT3 := hT2.trans s
  have Z3 := Z2.sees s
  clear s x0 x1 hT2 Z2
  obtain ⟨x0, x1⟩ := Z3.cs
  go_wp2_with fail
  refine (at_any 3 7 _).mono ?_
  rintro e v4 ⟨rfl, s⟩
  have hT4 := hT3.trans s
  have Z4 := Z3.sees s
  clear s x0 x1 hT3 Z3
  obtain ⟨x0, x1⟩ := Z4.cs
  go_wp2_with fail
  refine (at_any 3 3 _).mono ?_
  rintro e v5 ⟨rfl, s⟩
  have hT5 := hT4.trans s
  have Z5 := Z4.sees s
  clear s x0 x1 hT4 Z4
  obtain ⟨x0, x1⟩ := Z5.cs
  go_wp2_with fail
  refine (clamps_true 3 7 2 5 4 3 3 0 (by kernel_rfl) _).mono ?_
  rintro e v6 ⟨rfl, s⟩
  have hT6 := hT5.trans s
  have Z6 := Z5.sees s
  clear s x0 x1 hT5 Z5
  obtain ⟨x0, x1⟩ := Z6.cs
  go_wp2_with fail
  refine (at_any 5 0 _).mono ?_
  rintro e v7 ⟨rfl, s⟩
  have hT7 := hT6.trans s
  have Z7 := Z6.sees s
  clear s x0 x1 hT6 Z6
  obtain ⟨x0, x1⟩ := Z7.cs
  go_wp2_with fail
  refine (at_any 4 3 _).mono ?_
  rintro e v8 ⟨rfl, s⟩
  have hT8 := hT7.trans s
  have Z8 := Z7.sees s
  clear s x0 x1 hT7 Z7
  obtain ⟨x0, x1⟩ := Z8.cs
  go_wp2_with fail
  refine (clamps_true 5 0 2 5 4 4 3 0 (by kernel_rfl) _).mono ?_
  rintro e v9 ⟨rfl, s⟩
  have hT9 := hT8.trans s
  have Z9 := Z8.sees s
  clear s x0 x1 hT8 Z8
  obtain ⟨x0, x1⟩ := Z9.cs
  go_wp2_with fail
  refine (at_any 3 (-1) _).mono ?_
  rintro e v10 ⟨rfl, s⟩
  have hT10 := hT9.trans s
  have Z10 := Z9.sees s
  clear s x0 x1 hT9 Z9
  obtain ⟨x0, x1⟩ := Z10.cs
  go_wp2_with fail
  refine (at_any 3 0 _).mono ?_
  rintro e v11 ⟨rfl, s⟩
  have hT11 := hT10.trans s
  have Z11 := Z10.sees s
  clear s x0 x1 hT10 Z10
  obtain ⟨x0, x1⟩ := Z11.cs
  go_wp2_with fail
  refine (clamps_true 3 (-1) 2 5 4 3 0 0 (by kernel_rfl) _).mono ?_
  rintro e v12 ⟨rfl, s⟩
  have hT12 := hT11.trans s
  have Z12 := Z11.sees s
  clear s x0 x1 hT11 Z11
  obtain ⟨x0, x1⟩ := Z12.cs
  go_wp2_with fail
  refine (clamps_true 0 0 2 2 4 0 0 2 (by kernel_rfl) _).mono ?_
  rintro e v13 ⟨rfl, s⟩
  have hT13 := hT12.trans s
  have Z13 := Z12.sees s
  clear s x0 x1 hT12 Z12
  obtain ⟨x0, x1⟩ := Z13.cs
  go_wp2_with fail
  refine (clamps_true 0 0 0 1 0 0 0 2 (by kernel_rfl) _).mono ?_
  rintro e v14 ⟨rfl, s⟩
  have hT14 := hT13.trans s
  have Z14 := Z13.sees s
  clear s x0 x1 hT13 Z13
  obtain ⟨x0, x1⟩ := Z14.cs
  go_wp2_with fail
  have HV : Hid (∀ W, Sees v14 W → W.cell? ⟨w6.heap.size, 0, none⟩ = some (.int .i64 0) ∧ W.cell? ⟨w6.heap.size, 1, none⟩ = some (.int .i64 0)) := Lib.hid fun W h => (Z14.sees h).cs
  refine wp_region_sees (by kernel_rfl) (by kernel_rfl) ?_
  refine wpQuiet_enter 31 #[.int .i64 2, .int .i64 3] (fun K hK => ⟨?_, fun W hW => ?_, ?_⟩); (focus (go_simp; done)); (focus (have hc := hW.cells;  go_simp; done)); apply Exists.intro; refine ⟨fun W hW => (at_any 2 3 W).mono fun e w'' ⟨he, hb⟩ => ⟨he, hW.trans hb⟩, ?_⟩; go_simp; refine hK _ ?_; clear hK K
  refine wpQuiet_enter 31 #[.int .i64 3, .int .i64 0] (fun K hK => ⟨?_, fun W hW => ?_, ?_⟩); (focus (go_simp; done)); (focus (have hc := hW.cells;  go_simp; done)); apply Exists.intro; refine ⟨fun W hW => (at_any 3 0 W).mono fun e w'' ⟨he, hb⟩ => ⟨he, hW.trans hb⟩, ?_⟩; go_simp; refine hK _ ?_; clear hK K
  refine wpQuiet_enter 18 #[pl 2 3, .int .i64 1, .int .i64 4, pl 3 0, .int .i64 0] (fun K hK => ⟨?_, fun W hW => ?_, ?_⟩); (focus (go_simp; done)); (focus (have hc := hW.cells;  go_simp; done)); apply Exists.intro; refine ⟨fun W hW => (steps_true 2 3 1 4 3 0 0 (by decide) (by kernel_rfl) W).mono fun e w'' ⟨he, hb⟩ => ⟨he, hW.trans hb⟩, ?_⟩; go_simp; refine hK _ ?_; clear hK K
  refine wpQuiet_val (fun K hK => ⟨?_, ?_⟩); (focus (go_simp; done)); apply Exists.intro; refine ⟨fun W hW => ?_, ?_⟩; (focus ( go_simp; first | done | rfl)); go_simp; refine hK _ ?_; clear hK K
  refine wpQuiet_val (fun K hK => ⟨?_, ?_⟩); (focus (go_simp; done)); apply Exists.intro; refine ⟨fun W hW => ?_, ?_⟩; (focus ( go_simp; first | done | rfl)); go_simp; refine hK _ ?_; clear hK K
  refine wpQuiet_enter 31 #[.int .i64 2, .int .i64 3] (fun K hK => ⟨?_, fun W hW => ?_, ?_⟩); (focus (go_simp; done)); (focus (have hc := hW.cells;  go_simp; done)); apply Exists.intro; refine ⟨fun W hW => (at_any 2 3 W).mono fun e w'' ⟨he, hb⟩ => ⟨he, hW.trans hb⟩, ?_⟩; go_simp; refine hK _ ?_; clear hK K
  refine wpQuiet_val (fun K hK => ⟨?_, ?_⟩); (focus (go_simp; done)); apply Exists.intro; refine ⟨fun W hW => ?_, ?_⟩; (focus (have q := HV.out W hW; obtain ⟨q0, q1⟩ := q; go_simp; first | done | rfl)); go_simp; refine hK _ ?_; clear hK K
  refine wpQuiet_enter 18 #[pl 2 3, .int .i64 (-12), .int .i64 4, pl 0 0, .int .i64 3] (fun K hK => ⟨?_, fun W hW => ?_, ?_⟩); (focus (go_simp; done)); (focus (have hc := hW.cells;  go_simp; done)); apply Exists.intro; refine ⟨fun W hW => (steps_true 2 3 (-12) 4 0 0 3 (by decide) (by kernel_rfl) W).mono fun e w'' ⟨he, hb⟩ => ⟨he, hW.trans hb⟩, ?_⟩; go_simp; refine hK _ ?_; clear hK K
  refine wpQuiet_val (fun K hK => ⟨?_, ?_⟩); (focus (go_simp; done)); apply Exists.intro; refine ⟨fun W hW => ?_, ?_⟩; (focus ( go_simp; first | done | rfl)); go_simp; refine hK _ ?_; clear hK K
  refine wpQuiet_val (fun K hK => ⟨?_, ?_⟩); (focus (go_simp; done)); apply Exists.intro; refine ⟨fun W hW => ?_, ?_⟩; (focus ( go_simp; first | done | rfl)); go_simp; refine hK _ ?_; clear hK K
  refine wpQuiet_val (fun K hK => ⟨?_, ?_⟩); (focus (go_simp; done)); apply Exists.intro; refine ⟨fun W hW => ?_, ?_⟩; (focus ( go_simp; first | done | rfl)); go_simp; refine hK _ ?_; clear hK K
  refine wpQuiet_enter 31 #[.int .i64 2, .int .i64 3] (fun K hK => ⟨?_, fun W hW => ?_, ?_⟩); (focus (go_simp; done)); (focus (have hc := hW.cells;  go_simp; done)); apply Exists.intro; refine ⟨fun W hW => (at_any 2 3 W).mono fun e w'' ⟨he, hb⟩ => ⟨he, hW.trans hb⟩, ?_⟩; go_simp; refine hK _ ?_; clear hK K
  refine wpQuiet_enter 31 #[.int .i64 5, .int .i64 0] (fun K hK => ⟨?_, fun W hW => ?_, ?_⟩); (focus (go_simp; done)); (focus (have hc := hW.cells;  go_simp; done)); apply Exists.intro; refine ⟨fun W hW => (at_any 5 0 W).mono fun e w'' ⟨he, hb⟩ => ⟨he, hW.trans hb⟩, ?_⟩; go_simp; refine hK _ ?_; clear hK K
  refine wpQuiet_enter 18 #[pl 2 3, .int .i64 9, .int .i64 4, pl 5 0, .int .i64 0] (fun K hK => ⟨?_, fun W hW => ?_, ?_⟩); (focus (go_simp; done)); (focus (have hc := hW.cells;  go_simp; done)); apply Exists.intro; refine ⟨fun W hW => (steps_true 2 3 9 4 5 0 0 (by decide) (by kernel_rfl) W).mono fun e w'' ⟨he, hb⟩ => ⟨he, hW.trans hb⟩, ?_⟩; go_simp; refine hK _ ?_; clear hK K
  refine wpQuiet_val (fun K hK => ⟨?_, ?_⟩); (focus (go_simp; done)); apply Exists.intro; refine ⟨fun W hW => ?_, ?_⟩; (focus ( go_simp; first | done | rfl)); go_simp; refine hK _ ?_; clear hK K
  refine wpQuiet_val (fun K hK => ⟨?_, ?_⟩); (focus (go_simp; done)); apply Exists.intro; refine ⟨fun W hW => ?_, ?_⟩; (focus ( go_simp; first | done | rfl)); go_simp; refine hK _ ?_; clear hK K
  refine wpQuiet_val (fun K hK => ⟨?_, ?_⟩); (focus (go_simp; done)); apply Exists.intro; refine ⟨fun W hW => ?_, ?_⟩; (focus ( go_simp; first | done | rfl)); go_simp; refine hK _ ?_; clear hK K
  refine wpQuiet_val (fun K hK => ⟨?_, ?_⟩); (focus (go_simp; done)); apply Exists.intro; refine ⟨fun W hW => ?_, ?_⟩; (focus (have q := HV.out W hW; obtain ⟨q0, q1⟩ := q; go_simp; first | done | rfl)); go_simp; refine hK _ ?_; clear hK K
  refine wpQuiet_val (fun K hK => ⟨?_, ?_⟩); (focus (go_simp; done)); apply Exists.intro; refine ⟨fun W hW => ?_, ?_⟩; (focus (have q := HV.out W hW; obtain ⟨q0, q1⟩ := q; go_simp; first | done | rfl)); go_simp; refine hK _ ?_; clear hK K
  refine wpQuiet_enter 18 #[pl 0 0, .int .i64 (-1), .int .i64 4, pl 0 0, .int .i64 3] (fun K hK => ⟨?_, fun W hW => ?_, ?_⟩); (focus (go_simp; done)); (focus (have hc := hW.cells;  go_simp; done)); apply Exists.intro; refine ⟨fun W hW => (steps_true 0 0 (-1) 4 0 0 3 (by decide) (by kernel_rfl) W).mono fun e w'' ⟨he, hb⟩ => ⟨he, hW.trans hb⟩, ?_⟩; go_simp; refine hK _ ?_; clear hK K
  refine wpQuiet_val (fun K hK => ⟨?_, ?_⟩); (focus (go_simp; done)); apply Exists.intro; refine ⟨fun W hW => ?_, ?_⟩; (focus ( go_simp; first | done | rfl)); go_simp; refine hK _ ?_; clear hK K
  refine wpQuiet_val (fun K hK => ⟨?_, ?_⟩); (focus (go_simp; done)); apply Exists.intro; refine ⟨fun W hW => ?_, ?_⟩; (focus ( go_simp; first | done | rfl)); go_simp; refine hK _ ?_; clear hK K
  refine wpQuiet_val (fun K hK => ⟨?_, ?_⟩); (focus (go_simp; done)); apply Exists.intro; refine ⟨fun W hW => ?_, ?_⟩; (focus ( go_simp; first | done | rfl)); go_simp; refine hK _ ?_; clear hK K
  refine wpQuiet_enter 31 #[.int .i64 2, .int .i64 4] (fun K hK => ⟨?_, fun W hW => ?_, ?_⟩); (focus (go_simp; done)); (focus (have hc := hW.cells;  go_simp; done)); apply Exists.intro; refine ⟨fun W hW => (at_any 2 4 W).mono fun e w'' ⟨he, hb⟩ => ⟨he, hW.trans hb⟩, ?_⟩; go_simp; refine hK _ ?_; clear hK K
  refine wpQuiet_val (fun K hK => ⟨?_, ?_⟩); (focus (go_simp; done)); apply Exists.intro; refine ⟨fun W hW => ?_, ?_⟩; (focus (have q := HV.out W hW; obtain ⟨q0, q1⟩ := q; go_simp; first | done | rfl)); go_simp; refine hK _ ?_; clear hK K
  refine wpQuiet_enter 18 #[pl 2 4, .int .i64 0, .int .i64 4, pl 0 0, .int .i64 2] (fun K hK => ⟨?_, fun W hW => ?_, ?_⟩); (focus (go_simp; done)); (focus (have hc := hW.cells;  go_simp; done)); apply Exists.intro; refine ⟨fun W hW => (steps_true 2 4 0 4 0 0 2 (by decide) (by kernel_rfl) W).mono fun e w'' ⟨he, hb⟩ => ⟨he, hW.trans hb⟩, ?_⟩; go_simp; refine hK _ ?_; clear hK K
  refine wpQuiet_val (fun K hK => ⟨?_, ?_⟩); (focus (go_simp; done)); apply Exists.intro; refine ⟨fun W hW => ?_, ?_⟩; (focus ( go_simp; first | done | rfl)); go_simp; refine hK _ ?_; clear hK K
  refine wpQuiet_val (fun K hK => ⟨?_, ?_⟩); (focus (go_simp; done)); apply Exists.intro; refine ⟨fun W hW => ?_, ?_⟩; (focus ( go_simp; first | done | rfl)); go_simp; refine hK _ ?_; clear hK K
  refine wpQuiet_val (fun K hK => ⟨?_, ?_⟩); (focus (go_simp; done)); apply Exists.intro; refine ⟨fun W hW => ?_, ?_⟩; (focus ( go_simp; first | done | rfl)); go_simp; refine hK _ ?_; clear hK K
  refine wpQuiet_enter 31 #[.int .i64 1099511627776, .int .i64 3] (fun K hK => ⟨?_, fun W hW => ?_, ?_⟩); (focus (go_simp; done)); (focus (have hc := hW.cells;  go_simp; done)); apply Exists.intro; refine ⟨fun W hW => (at_any 1099511627776 3 W).mono fun e w'' ⟨he, hb⟩ => ⟨he, hW.trans hb⟩, ?_⟩; go_simp; refine hK _ ?_; clear hK K
  refine wpQuiet_val (fun K hK => ⟨?_, ?_⟩); (focus (go_simp; done)); apply Exists.intro; refine ⟨fun W hW => ?_, ?_⟩; (focus (have q := HV.out W hW; obtain ⟨q0, q1⟩ := q; go_simp; first | done | rfl)); go_simp; refine hK _ ?_; clear hK K
  refine wpQuiet_enter 18 #[pl 1099511627776 3, .int .i64 1, .int .i64 4, pl 0 0, .int .i64 3] (fun K hK => ⟨?_, fun W hW => ?_, ?_⟩); (focus (go_simp; done)); (focus (have hc := hW.cells;  go_simp; done)); apply Exists.intro; refine ⟨fun W hW => (steps_true 1099511627776 3 1 4 0 0 3 (by decide) (by kernel_rfl) W).mono fun e w'' ⟨he, hb⟩ => ⟨he, hW.trans hb⟩, ?_⟩; go_simp; refine hK _ ?_; clear hK K
  refine wpQuiet_val (fun K hK => ⟨?_, ?_⟩); (focus (go_simp; done)); apply Exists.intro; refine ⟨fun W hW => ?_, ?_⟩; (focus ( go_simp; first | done | rfl)); go_simp; refine hK _ ?_; clear hK K
  refine wpQuiet_val (fun K hK => ⟨?_, ?_⟩); (focus (go_simp; done)); apply Exists.intro; refine ⟨fun W hW => ?_, ?_⟩; (focus ( go_simp; first | done | rfl)); go_simp; refine hK _ ?_; clear hK K
  refine wpQuiet_nil ?_; intro w2 hw2
  have hT15 := hT14.trans hw2
  have Z15 := Z14.sees hw2
  clear hw2 HV hT14 Z14 x0 x1
  obtain ⟨x0, x1⟩ := Z15.cs
  go_wp2_with fail
  refine (at_any 2 3 _).mono ?_
  rintro e v16 ⟨rfl, s⟩
  have hT16 := hT15.trans s
  have Z16 := Z15.sees s
  clear s x0 x1 hT15 Z15
  obtain ⟨x0, x1⟩ := Z16.cs
  go_wp2_with fail
  refine (at_any 3 0 _).mono ?_
  rintro e v17 ⟨rfl, s⟩
  have hT17 := hT16.trans s
  have Z17 := Z16.sees s
  clear s x0 x1 hT16 Z16
  obtain ⟨x0, x1⟩ := Z17.cs
  go_wp2_with fail
  refine (distance_true 2 3 3 0 4 1 0 (by kernel_rfl) _).mono ?_
  rintro e v18 ⟨rfl, s⟩
  have hT18 := hT17.trans s
  have Z18 := Z17.sees s
  clear s x0 x1 hT17 Z17
  obtain ⟨x0, x1⟩ := Z18.cs
  go_wp2_with fail
  refine (at_any 3 0 _).mono ?_
  rintro e v19 ⟨rfl, s⟩
  have hT19 := hT18.trans s
  have Z19 := Z18.sees s
  clear s x0 x1 hT18 Z18
  obtain ⟨x0, x1⟩ := Z19.cs
  go_wp2_with fail
  refine (at_any 2 3 _).mono ?_
  rintro e v20 ⟨rfl, s⟩
  have hT20 := hT19.trans s
  have Z20 := Z19.sees s
  clear s x0 x1 hT19 Z19
  obtain ⟨x0, x1⟩ := Z20.cs
  go_wp2_with fail
  refine (distance_true 3 0 2 3 4 (-1) 0 (by kernel_rfl) _).mono ?_
  rintro e v21 ⟨rfl, s⟩
  have hT21 := hT20.trans s
  have Z21 := Z20.sees s
  clear s x0 x1 hT20 Z20
  obtain ⟨x0, x1⟩ := Z21.cs
  go_wp2_with fail
  refine (at_any 12 0 _).mono ?_
  rintro e v22 ⟨rfl, s⟩
  have hT22 := hT21.trans s
  have Z22 := Z21.sees s
  clear s x0 x1 hT21 Z21
  obtain ⟨x0, x1⟩ := Z22.cs
  go_wp2_with fail
  refine (text_true_ok 12 0 (by decide) (by decide) (by kernel_rfl) _ txt_12_0 _ (hst.sees hT22)).mono ?_
  rintro e v23 ⟨rfl, s⟩
  have hT23 := hT22.trans s
  have Z23 := Z22.sees s
  clear s x0 x1 hT22 Z22
  obtain ⟨x0, x1⟩ := Z23.cs
  go_wp2_with fail
  refine (at_any (-1) 0 _).mono ?_
  rintro e v24 ⟨rfl, s⟩
  have hT24 := hT23.trans s
  have Z24 := Z23.sees s
  clear s x0 x1 hT23 Z23
  obtain ⟨x0, x1⟩ := Z24.cs
  go_wp2_with fail
  refine (text_true_bad (-1) 0 (by kernel_rfl) _).mono ?_
  rintro e v25 ⟨rfl, s⟩
  have hT25 := hT24.trans s
  have Z25 := Z24.sees s
  clear s x0 x1 hT24 Z24
  obtain ⟨x0, x1⟩ := Z25.cs
  go_wp2_with fail
  refine (at_any 7 3 _).mono ?_
  rintro e v26 ⟨rfl, s⟩
  have hT26 := hT25.trans s
  have Z26 := Z25.sees s
  clear s x0 x1 hT25 Z25
  obtain ⟨x0, x1⟩ := Z26.cs
  go_wp2_with fail
  refine (parses_true _ (by decide) 7 3 0 pa_1 _ (hst.sees hT26)).mono ?_
  rintro e v27 ⟨rfl, s⟩
  have hT27 := hT26.trans s
  have Z27 := Z26.sees s
  clear s x0 x1 hT26 Z26
  obtain ⟨x0, x1⟩ := Z27.cs
  go_wp2_with fail
  refine (parses_true _ (by decide) 0 0 6 pa_2 _ (hst.sees hT27)).mono ?_
  rintro e v28 ⟨rfl, s⟩
  have hT28 := hT27.trans s
  have Z28 := Z27.sees s
  clear s x0 x1 hT27 Z27
  obtain ⟨x0, x1⟩ := Z28.cs
  go_wp2_with fail
  refine (parses_true _ (by decide) 0 0 6 pa_3 _ (hst.sees hT28)).mono ?_
  rintro e v29 ⟨rfl, s⟩
  have hT29 := hT28.trans s
  have Z29 := Z28.sees s
  clear s x0 x1 hT28 Z28
  obtain ⟨x0, x1⟩ := Z29.cs
  go_wp2_with fail
  refine (parses_true _ (by decide) 0 0 6 pa_4 _ (hst.sees hT29)).mono ?_
  rintro e v30 ⟨rfl, s⟩
  have hT30 := hT29.trans s
  have Z30 := Z29.sees s
  clear s x0 x1 hT29 Z29
  obtain ⟨x0, x1⟩ := Z30.cs
  go_wp2
  go_ret
  exact ⟨rfl, hT30⟩
end Go.Proofs.YtoljdfaghomjkaaDoor
