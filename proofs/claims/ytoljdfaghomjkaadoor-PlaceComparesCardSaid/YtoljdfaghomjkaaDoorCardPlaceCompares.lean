/- PlaceCompares returns true for every input, and leaves its arguments alone; the two tables start as the program's text lays them (the card ties that). -/
import Derived.Test.YtoljdfaghomjkaaDoorPlO
import Derived.Test.YtoljdfaghomjkaaDoorPlK
namespace Go.Proofs.YtoljdfaghomjkaaDoor
set_option linter.unusedVariables false
set_option linter.unusedSimpArgs false
namespace placeCompares
open Go.ChangeShapes Go.WideShapes Go.ChangeAt Go.RowKit

def bf (l c m d : Int) : Bool := decide (l < m) || (l == m && decide (c < d))
theorem before_c (l c m d : Int) (v : Bool) (h : bf l c m d = v) (w : World) : Calls Tryd.prog 8 #[pl l c, pl m d] w fun e w' => e = .returned (.bool v) ∧ Sees w w' := by
  rw [← h]; exact before_any l c m d w
theorem bf_iff (l c m d : Int) : bf l c m d = true ↔ (l < m ∨ l = m ∧ c < d) := by
  unfold bf
  simp
theorem cmp_lt (l c m d : Int) : cmpP l c m d < 0 ↔ (l < m ∨ l = m ∧ c < d) := by
  unfold cmpP cmpI
  split <;> (try split) <;> (try split) <;> (try split) <;> simp_all <;> omega
theorem cmp_gt (l c m d : Int) : cmpP l c m d > 0 ↔ (m < l ∨ l = m ∧ d < c) := by
  unfold cmpP cmpI
  split <;> (try split) <;> (try split) <;> (try split) <;> simp_all <;> omega
theorem cmp_vals (l c m d : Int) : cmpP l c m d = -1 ∨ cmpP l c m d = 0 ∨ cmpP l c m d = 1 := by
  unfold cmpP
  split
  · exact cmpI_eq _ _
  · exact cmpI_eq _ _
theorem cmp3 (l c m d : Int) : (bf l c m d = true ∧ cmpP l c m d = -1 ∧ cmpP m d l c = 1) ∨ (bf l c m d = false ∧ bf m d l c = true ∧ cmpP l c m d = 1 ∧ cmpP m d l c = -1) ∨ (bf l c m d = false ∧ bf m d l c = false ∧ cmpP l c m d = 0 ∧ cmpP m d l c = 0) := by
  have a1 := bf_iff l c m d
  have a2 := bf_iff m d l c
  have b1 := cmp_lt l c m d
  have b2 := cmp_gt l c m d
  have c1 := cmp_lt m d l c
  have c2 := cmp_gt m d l c
  have d1 := cmp_vals l c m d
  have d2 := cmp_vals m d l c
  have e1 : bf l c m d = false ↔ ¬ (l < m ∨ l = m ∧ c < d) := by rw [← a1]; simp
  have e2 : bf m d l c = false ↔ ¬ (m < l ∨ m = l ∧ d < c) := by rw [← a2]; simp
  rw [a1, a2, e1, e2]
  omega
set_option maxHeartbeats 8000000 in
set_option maxRecDepth 1000000 in
theorem walk_a (la ca lb cb lc cc : Int) (w : World) (hst : Std w) (hb1 : bf la ca lb cb = true) (hk : cmpP la ca lb cb = (-1)) (hk2 : cmpP lb cb la ca = 1) :
    Calls Tryd.prog 3 #[pl la ca, pl lb cb, pl lc cc] w fun e w' => e = .returned (.bool true) ∧ Sees w w' := by
  have hw := Sees.refl w
  have q1 : (la == la) = true := by simp
  have q2 : (ca == ca) = true := by simp
  have q3 : (lb == lb) = true := by simp
  have q4 : (cb == cb) = true := by simp
  have q5 : (vP la ca == vP la ca) = true := by simp
  have hO := fun W => order_any la ca lb cb W
  rw [hk, if_neg (by decide)] at hO
  have HO := Lib.hid hO
  have HK := Lib.hid (compare_c la ca lb cb (-1) hk)
  have HK2 := Lib.hid (compare_c lb cb la ca 1 hk2)
  have HB1 := Lib.hid (before_c la ca lb cb _ hb1)
  obtain ⟨v, hv⟩ : ∃ v, v = decide (cmpP la ca lc cc < 0) := ⟨_, rfl⟩
  have hv2 : bf la ca lc cc = v := by
    rw [hv, Bool.eq_iff_iff, bf_iff, decide_eq_true_iff, cmp_lt]
  have HB3 := Lib.hid (before_c la ca lc cc v hv2)
  have q6 : (v == v) = true := by simp
  have HW := Lib.hid (within_c la ca lb cb lc cc false (by rw [hk2, ← hv]; simp))
  clear hO hk hk2 hb1 hv hv2
  go_enter Tryd.func3, Tryd.ntmps3
  go_wp2_with fail
  refine calls_world (fun w0 hw0 => ?_)
  have hS0 : Sees w w0 := by rw [hw0]; exact ((hw.alloc _).alloc _).alloc _
  have hz1 : (w.alloc (.cells #[.int .i64 la, .int .i64 ca] 23)).heap.size = w.heap.size + 1 := by simp
  have hz2 : ((w.alloc (.cells #[.int .i64 la, .int .i64 ca] 23)).alloc (.cells #[.int .i64 lb, .int .i64 cb] 23)).heap.size = w.heap.size + 1 + 1 := by simp
  have A0 : PlAt w0 w.heap.size la ca := by rw [hw0]; exact ((PlAt.new w la ca).sees ((Sees.refl _).alloc _)).sees ((Sees.refl _).alloc _)
  have B0 : PlAt w0 (w.heap.size + 1) lb cb := by rw [hw0, ← hz1]; exact (PlAt.new _ lb cb).sees ((Sees.refl _).alloc _)
  have C0 : PlAt w0 (w.heap.size + 1 + 1) lc cc := by rw [hw0, ← hz2]; exact PlAt.new _ lc cc
  clear hz1 hz2 hw0
  obtain ⟨a0, a1⟩ := A0.cs
  obtain ⟨b0, b1⟩ := B0.cs
  obtain ⟨z0, z1⟩ := C0.cs
  refine (HB1.out _).mono ?_
  rintro e w1 ⟨rfl, s⟩
  have hS1 := hS0.trans s
  have A1 := A0.sees s
  have B1 := B0.sees s
  have C1 := C0.sees s
  clear s A0 B0 C0 hS0 a0 a1 b0 b1 z0 z1
  obtain ⟨a0, a1⟩ := A1.cs
  obtain ⟨b0, b1⟩ := B1.cs
  obtain ⟨z0, z1⟩ := C1.cs
  go_wp2_with fail
  have HV : Hid (∀ W, Sees w1 W → (W.cell? ⟨w.heap.size, 0, none⟩ = some (.int .i64 la) ∧ W.cell? ⟨w.heap.size, 1, none⟩ = some (.int .i64 ca)) ∧ (W.cell? ⟨w.heap.size + 1, 0, none⟩ = some (.int .i64 lb) ∧ W.cell? ⟨w.heap.size + 1, 1, none⟩ = some (.int .i64 cb)) ∧ W.cell? ⟨w.heap.size + 1 + 1, 0, none⟩ = some (.int .i64 lc) ∧ W.cell? ⟨w.heap.size + 1 + 1, 1, none⟩ = some (.int .i64 cc)) :=
    Lib.hid fun W h => ⟨(A1.sees h).cs, (B1.sees h).cs, (C1.sees h).cs⟩
  refine wp_region_sees (by kernel_rfl) (by kernel_rfl) ?_
  refine wpQuiet_val (fun K hK => ⟨?_, ?_⟩); (focus (go_simp; done)); apply Exists.intro; refine ⟨fun W hW => ?_, ?_⟩; (focus (have q := HV.out W hW; obtain ⟨⟨r0, r1⟩, ⟨r2, r3⟩, r4, r5⟩ := q; go_simp; first | done | rfl)); go_simp; refine hK _ ?_; clear hK K
  refine wpQuiet_enter 9 #[pl la ca] (fun K hK => ⟨?_, fun W hW => ?_, ?_⟩); (focus (go_simp; done)); (focus (have hc := hW.cells;  go_simp; done)); apply Exists.intro; refine ⟨fun W hW => (valid_any la ca W).mono fun e w'' ⟨he, hb⟩ => ⟨he, hW.trans hb⟩, ?_⟩; go_simp; refine hK _ ?_; clear hK K
  refine wpQuiet_val (fun K hK => ⟨?_, ?_⟩); (focus (go_simp; done)); apply Exists.intro; refine ⟨fun W hW => ?_, ?_⟩; (focus (have q := HV.out W hW; obtain ⟨⟨r0, r1⟩, ⟨r2, r3⟩, r4, r5⟩ := q; go_simp; first | done | rfl)); go_simp; refine hK _ ?_; clear hK K
  refine wpQuiet_enter 10 #[pl la ca] (fun K hK => ⟨?_, fun W hW => ?_, ?_⟩); (focus (go_simp; done)); (focus (have hc := hW.cells;  go_simp; done)); apply Exists.intro; refine ⟨fun W hW => (rvalid_any la ca W).mono fun e w'' ⟨he, hb⟩ => ⟨he, hW.trans hb⟩, ?_⟩; go_simp; refine hK _ ?_; clear hK K
  refine wpQuiet_val (fun K hK => ⟨?_, ?_⟩); (focus (go_simp; done)); apply Exists.intro; refine ⟨fun W hW => ?_, ?_⟩; (focus ( go_simp; first | done | rfl)); go_simp; refine hK _ ?_; clear hK K
  refine wpQuiet_val (fun K hK => ⟨?_, ?_⟩); (focus (go_simp; done)); apply Exists.intro; refine ⟨fun W hW => ?_, ?_⟩; (focus ( go_simp; first | done | rfl)); go_simp; refine hK _ ?_; clear hK K
  refine wpQuiet_val (fun K hK => ⟨?_, ?_⟩); (focus (go_simp; done)); apply Exists.intro; refine ⟨fun W hW => ?_, ?_⟩; (focus (have q := HV.out W hW; obtain ⟨⟨r0, r1⟩, ⟨r2, r3⟩, r4, r5⟩ := q; go_simp; first | done | rfl)); go_simp; refine hK _ ?_; clear hK K
  refine wpQuiet_val (fun K hK => ⟨?_, ?_⟩); (focus (go_simp; done)); apply Exists.intro; refine ⟨fun W hW => ?_, ?_⟩; (focus (have q := HV.out W hW; obtain ⟨⟨r0, r1⟩, ⟨r2, r3⟩, r4, r5⟩ := q; go_simp; first | done | rfl)); go_simp; refine hK _ ?_; clear hK K
  refine wpQuiet_enter 11 #[pl la ca, pl lb cb] (fun K hK => ⟨?_, fun W hW => ?_, ?_⟩); (focus (go_simp; done)); (focus (have hc := hW.cells;  go_simp; done)); apply Exists.intro; refine ⟨fun W hW => (HK.out W).mono fun e w'' ⟨he, hb⟩ => ⟨he, hW.trans hb⟩, ?_⟩; go_simp; refine hK _ ?_; clear hK K
  refine wpQuiet_val (fun K hK => ⟨?_, ?_⟩); (focus (go_simp; done)); apply Exists.intro; refine ⟨fun W hW => ?_, ?_⟩; (focus ( go_simp; first | done | rfl)); go_simp; refine hK _ ?_; clear hK K
  refine wpQuiet_val (fun K hK => ⟨?_, ?_⟩); (focus (go_simp; done)); apply Exists.intro; refine ⟨fun W hW => ?_, ?_⟩; (focus ( go_simp; first | done | rfl)); go_simp; refine hK _ ?_; clear hK K
  refine wpQuiet_val (fun K hK => ⟨?_, ?_⟩); (focus (go_simp; done)); apply Exists.intro; refine ⟨fun W hW => ?_, ?_⟩; (focus ( go_simp; first | done | rfl)); go_simp; refine hK _ ?_; clear hK K
  refine wpQuiet_val (fun K hK => ⟨?_, ?_⟩); (focus (go_simp; done)); apply Exists.intro; refine ⟨fun W hW => ?_, ?_⟩; (focus ( go_simp; first | done | rfl)); go_simp; refine hK _ ?_; clear hK K
  refine wpQuiet_val (fun K hK => ⟨?_, ?_⟩); (focus (go_simp; done)); apply Exists.intro; refine ⟨fun W hW => ?_, ?_⟩; (focus (have q := HV.out W hW; obtain ⟨⟨r0, r1⟩, ⟨r2, r3⟩, r4, r5⟩ := q; go_simp; first | done | rfl)); go_simp; refine hK _ ?_; clear hK K
  refine wpQuiet_val (fun K hK => ⟨?_, ?_⟩); (focus (go_simp; done)); apply Exists.intro; refine ⟨fun W hW => ?_, ?_⟩; (focus (have q := HV.out W hW; obtain ⟨⟨r0, r1⟩, ⟨r2, r3⟩, r4, r5⟩ := q; go_simp; first | done | rfl)); go_simp; refine hK _ ?_; clear hK K
  refine wpQuiet_enter 11 #[pl lb cb, pl la ca] (fun K hK => ⟨?_, fun W hW => ?_, ?_⟩); (focus (go_simp; done)); (focus (have hc := hW.cells;  go_simp; done)); apply Exists.intro; refine ⟨fun W hW => (HK2.out W).mono fun e w'' ⟨he, hb⟩ => ⟨he, hW.trans hb⟩, ?_⟩; go_simp; refine hK _ ?_; clear hK K
  refine wpQuiet_val (fun K hK => ⟨?_, ?_⟩); (focus (go_simp; done)); apply Exists.intro; refine ⟨fun W hW => ?_, ?_⟩; (focus ( go_simp; first | done | rfl)); go_simp; refine hK _ ?_; clear hK K
  refine wpQuiet_val (fun K hK => ⟨?_, ?_⟩); (focus (go_simp; done)); apply Exists.intro; refine ⟨fun W hW => ?_, ?_⟩; (focus ( go_simp; first | done | rfl)); go_simp; refine hK _ ?_; clear hK K
  refine wpQuiet_val (fun K hK => ⟨?_, ?_⟩); (focus (go_simp; done)); apply Exists.intro; refine ⟨fun W hW => ?_, ?_⟩; (focus ( go_simp; first | done | rfl)); go_simp; refine hK _ ?_; clear hK K
  refine wpQuiet_val (fun K hK => ⟨?_, ?_⟩); (focus (go_simp; done)); apply Exists.intro; refine ⟨fun W hW => ?_, ?_⟩; (focus ( go_simp; first | done | rfl)); go_simp; refine hK _ ?_; clear hK K
  refine wpQuiet_nil ?_
  intro w2 s
  clear HV
  have hS2 := hS1.trans s
  have A2 := A1.sees s
  have B2 := B1.sees s
  have C2 := C1.sees s
  clear s A1 B1 C1 hS1 a0 a1 b0 b1 z0 z1
  obtain ⟨a0, a1⟩ := A2.cs
  obtain ⟨b0, b1⟩ := B2.cs
  obtain ⟨z0, z1⟩ := C2.cs
  go_wp2_with fail
  refine (HO.out _).mono ?_
  rintro e w3 ⟨rfl, s⟩
  have hS3 := hS2.trans s
  have A3 := A2.sees s
  have B3 := B2.sees s
  have C3 := C2.sees s
  clear s A2 B2 C2 hS2 a0 a1 b0 b1 z0 z1
  obtain ⟨a0, a1⟩ := A3.cs
  obtain ⟨b0, b1⟩ := B3.cs
  obtain ⟨z0, z1⟩ := C3.cs
  have hl := A3.lt
  have hl2 := B3.lt
  have hl3 := C3.lt
  go_wp2_with fail
  refine wp_world (fun w4 hw4 => ?_)
  have s : Sees w3 w4 := by rw [hw4]; exact ((Sees.refl _).alloc _).alloc _
  clear hw4 hl hl2 hl3
  have hS4 := hS3.trans s
  have A4 := A3.sees s
  have B4 := B3.sees s
  have C4 := C3.sees s
  clear s A3 B3 C3 hS3 a0 a1 b0 b1 z0 z1
  obtain ⟨a0, a1⟩ := A4.cs
  obtain ⟨b0, b1⟩ := B4.cs
  obtain ⟨z0, z1⟩ := C4.cs
  have HV : Hid (∀ W, Sees w4 W → (W.cell? ⟨w.heap.size, 0, none⟩ = some (.int .i64 la) ∧ W.cell? ⟨w.heap.size, 1, none⟩ = some (.int .i64 ca)) ∧ (W.cell? ⟨w.heap.size + 1, 0, none⟩ = some (.int .i64 lb) ∧ W.cell? ⟨w.heap.size + 1, 1, none⟩ = some (.int .i64 cb)) ∧ W.cell? ⟨w.heap.size + 1 + 1, 0, none⟩ = some (.int .i64 lc) ∧ W.cell? ⟨w.heap.size + 1 + 1, 1, none⟩ = some (.int .i64 cc)) :=
    Lib.hid fun W h => ⟨(A4.sees h).cs, (B4.sees h).cs, (C4.sees h).cs⟩
  refine wp_region_sees (by kernel_rfl) (by kernel_rfl) ?_
  refine wpQuiet_val (fun K hK => ⟨?_, ?_⟩); (focus (go_simp; done)); apply Exists.intro; refine ⟨fun W hW => ?_, ?_⟩; (focus (have q := HV.out W hW; obtain ⟨⟨r0, r1⟩, ⟨r2, r3⟩, r4, r5⟩ := q; go_simp; first | done | rfl)); go_simp; refine hK _ ?_; clear hK K
  refine wpQuiet_val (fun K hK => ⟨?_, ?_⟩); (focus (go_simp; done)); apply Exists.intro; refine ⟨fun W hW => ?_, ?_⟩; (focus (have q := HV.out W hW; obtain ⟨⟨r0, r1⟩, ⟨r2, r3⟩, r4, r5⟩ := q; go_simp; first | done | rfl)); go_simp; refine hK _ ?_; clear hK K
  refine wpQuiet_val (fun K hK => ⟨?_, ?_⟩); (focus (go_simp; done)); apply Exists.intro; refine ⟨fun W hW => ?_, ?_⟩; (focus (have q := HV.out W hW; obtain ⟨⟨r0, r1⟩, ⟨r2, r3⟩, r4, r5⟩ := q; go_simp; first | done | rfl)); go_simp; refine hK _ ?_; clear hK K
  refine wpQuiet_enter 13 #[pl la ca, pl lb cb, pl lc cc] (fun K hK => ⟨?_, fun W hW => ?_, ?_⟩); (focus (go_simp; done)); (focus (have hc := hW.cells;  go_simp; done)); apply Exists.intro; refine ⟨fun W hW => (HW.out W).mono fun e w'' ⟨he, hb⟩ => ⟨he, hW.trans hb⟩, ?_⟩; go_simp; refine hK _ ?_; clear hK K
  refine wpQuiet_val (fun K hK => ⟨?_, ?_⟩); (focus (go_simp; done)); apply Exists.intro; refine ⟨fun W hW => ?_, ?_⟩; (focus (have q := HV.out W hW; obtain ⟨⟨r0, r1⟩, ⟨r2, r3⟩, r4, r5⟩ := q; go_simp; first | done | rfl)); go_simp; refine hK _ ?_; clear hK K
  refine wpQuiet_val (fun K hK => ⟨?_, ?_⟩); (focus (go_simp; done)); apply Exists.intro; refine ⟨fun W hW => ?_, ?_⟩; (focus (have q := HV.out W hW; obtain ⟨⟨r0, r1⟩, ⟨r2, r3⟩, r4, r5⟩ := q; go_simp; first | done | rfl)); go_simp; refine hK _ ?_; clear hK K
  refine wpQuiet_enter 8 #[pl la ca, pl lb cb] (fun K hK => ⟨?_, fun W hW => ?_, ?_⟩); (focus (go_simp; done)); (focus (have hc := hW.cells;  go_simp; done)); apply Exists.intro; refine ⟨fun W hW => (HB1.out W).mono fun e w'' ⟨he, hb⟩ => ⟨he, hW.trans hb⟩, ?_⟩; go_simp; refine hK _ ?_; clear hK K
  refine wpQuiet_val (fun K hK => ⟨?_, ?_⟩); (focus (go_simp; done)); apply Exists.intro; refine ⟨fun W hW => ?_, ?_⟩; (focus ( go_simp; first | done | rfl)); go_simp; refine hK _ ?_; clear hK K
  refine wpQuiet_val (fun K hK => ⟨?_, ?_⟩); (focus (go_simp; done)); apply Exists.intro; refine ⟨fun W hW => ?_, ?_⟩; (focus ( go_simp; first | done | rfl)); go_simp; refine hK _ ?_; clear hK K
  refine wpQuiet_off (fun K hK => ⟨?_, ?_⟩); (focus (go_simp; done)); go_simp; refine hK _ ?_; clear hK K
  refine wpQuiet_off (fun K hK => ⟨?_, ?_⟩); (focus (go_simp; done)); go_simp; refine hK _ ?_; clear hK K
  refine wpQuiet_off (fun K hK => ⟨?_, ?_⟩); (focus (go_simp; done)); go_simp; refine hK _ ?_; clear hK K
  refine wpQuiet_val (fun K hK => ⟨?_, ?_⟩); (focus (go_simp; done)); apply Exists.intro; refine ⟨fun W hW => ?_, ?_⟩; (focus ( go_simp; first | done | rfl)); go_simp; refine hK _ ?_; clear hK K
  refine wpQuiet_val (fun K hK => ⟨?_, ?_⟩); (focus (go_simp; done)); apply Exists.intro; refine ⟨fun W hW => ?_, ?_⟩; (focus ( go_simp; first | done | rfl)); go_simp; refine hK _ ?_; clear hK K
  refine wpQuiet_val (fun K hK => ⟨?_, ?_⟩); (focus (go_simp; done)); apply Exists.intro; refine ⟨fun W hW => ?_, ?_⟩; (focus ( go_simp; first | done | rfl)); go_simp; refine hK _ ?_; clear hK K
  refine wpQuiet_enter 14 #[] (fun K hK => ⟨?_, fun W hW => ?_, ?_⟩); (focus (go_simp; done)); (focus (have hc := hW.cells;  go_simp; done)); apply Exists.intro; refine ⟨fun W hW => (known09 W (hst.sees (hS4.trans hW))).mono fun e w'' ⟨he, hb⟩ => ⟨he, hW.trans hb⟩, ?_⟩; go_simp; refine hK _ ?_; clear hK K
  refine wpQuiet_val (fun K hK => ⟨?_, ?_⟩); (focus (go_simp; done)); apply Exists.intro; refine ⟨fun W hW => ?_, ?_⟩; (focus ( go_simp; first | done | rfl)); go_simp; refine hK _ ?_; clear hK K
  refine wpQuiet_val (fun K hK => ⟨?_, ?_⟩); (focus (go_simp; done)); apply Exists.intro; refine ⟨fun W hW => ?_, ?_⟩; (focus ( go_simp; first | done | rfl)); go_simp; refine hK _ ?_; clear hK K
  refine wpQuiet_nil ?_
  intro w9 s
  go_wp2
  go_ret
  exact ⟨rfl, hS4.trans s⟩
set_option maxHeartbeats 8000000 in
set_option maxRecDepth 1000000 in
theorem walk_b (la ca lb cb lc cc : Int) (w : World) (hst : Std w) (hb1 : bf la ca lb cb = false) (hb2 : bf lb cb la ca = true) (hk : cmpP la ca lb cb = 1) (hk2 : cmpP lb cb la ca = (-1)) :
    Calls Tryd.prog 3 #[pl la ca, pl lb cb, pl lc cc] w fun e w' => e = .returned (.bool true) ∧ Sees w w' := by
  have hw := Sees.refl w
  have q1 : (la == la) = true := by simp
  have q2 : (ca == ca) = true := by simp
  have q3 : (lb == lb) = true := by simp
  have q4 : (cb == cb) = true := by simp
  have q5 : (vP la ca == vP la ca) = true := by simp
  have hO := fun W => order_any la ca lb cb W
  rw [hk, if_pos (by decide)] at hO
  have HO := Lib.hid hO
  have HK := Lib.hid (compare_c la ca lb cb 1 hk)
  have HK2 := Lib.hid (compare_c lb cb la ca (-1) hk2)
  have HB1 := Lib.hid (before_c la ca lb cb _ hb1)
  have HB2 := Lib.hid (before_c lb cb la ca _ hb2)
  obtain ⟨v, hv⟩ : ∃ v, v = decide (cmpP la ca lc cc < 0) := ⟨_, rfl⟩
  have hv2 : bf la ca lc cc = v := by
    rw [hv, Bool.eq_iff_iff, bf_iff, decide_eq_true_iff, cmp_lt]
  have HB3 := Lib.hid (before_c la ca lc cc v hv2)
  have q6 : (v == v) = true := by simp
  have HW := Lib.hid (within_c la ca lb cb lc cc v (by rw [hk2, ← hv]; simp))
  clear hO hk hk2 hb1 hv hv2
  go_enter Tryd.func3, Tryd.ntmps3
  go_wp2_with fail
  refine calls_world (fun w0 hw0 => ?_)
  have hS0 : Sees w w0 := by rw [hw0]; exact ((hw.alloc _).alloc _).alloc _
  have hz1 : (w.alloc (.cells #[.int .i64 la, .int .i64 ca] 23)).heap.size = w.heap.size + 1 := by simp
  have hz2 : ((w.alloc (.cells #[.int .i64 la, .int .i64 ca] 23)).alloc (.cells #[.int .i64 lb, .int .i64 cb] 23)).heap.size = w.heap.size + 1 + 1 := by simp
  have A0 : PlAt w0 w.heap.size la ca := by rw [hw0]; exact ((PlAt.new w la ca).sees ((Sees.refl _).alloc _)).sees ((Sees.refl _).alloc _)
  have B0 : PlAt w0 (w.heap.size + 1) lb cb := by rw [hw0, ← hz1]; exact (PlAt.new _ lb cb).sees ((Sees.refl _).alloc _)
  have C0 : PlAt w0 (w.heap.size + 1 + 1) lc cc := by rw [hw0, ← hz2]; exact PlAt.new _ lc cc
  clear hz1 hz2 hw0
  obtain ⟨a0, a1⟩ := A0.cs
  obtain ⟨b0, b1⟩ := B0.cs
  obtain ⟨z0, z1⟩ := C0.cs
  refine (HB1.out _).mono ?_
  rintro e w1 ⟨rfl, s⟩
  have hS1 := hS0.trans s
  have A1 := A0.sees s
  have B1 := B0.sees s
  have C1 := C0.sees s
  clear s A0 B0 C0 hS0 a0 a1 b0 b1 z0 z1
  obtain ⟨a0, a1⟩ := A1.cs
  obtain ⟨b0, b1⟩ := B1.cs
  obtain ⟨z0, z1⟩ := C1.cs
  go_wp2_with fail
  refine (HB2.out _).mono ?_
  rintro e w2 ⟨rfl, s⟩
  have hS2 := hS1.trans s
  have A2 := A1.sees s
  have B2 := B1.sees s
  have C2 := C1.sees s
  clear s A1 B1 C1 hS1 a0 a1 b0 b1 z0 z1
  obtain ⟨a0, a1⟩ := A2.cs
  obtain ⟨b0, b1⟩ := B2.cs
  obtain ⟨z0, z1⟩ := C2.cs
  go_wp2_with fail
  have HV : Hid (∀ W, Sees w2 W → (W.cell? ⟨w.heap.size, 0, none⟩ = some (.int .i64 la) ∧ W.cell? ⟨w.heap.size, 1, none⟩ = some (.int .i64 ca)) ∧ (W.cell? ⟨w.heap.size + 1, 0, none⟩ = some (.int .i64 lb) ∧ W.cell? ⟨w.heap.size + 1, 1, none⟩ = some (.int .i64 cb)) ∧ W.cell? ⟨w.heap.size + 1 + 1, 0, none⟩ = some (.int .i64 lc) ∧ W.cell? ⟨w.heap.size + 1 + 1, 1, none⟩ = some (.int .i64 cc)) :=
    Lib.hid fun W h => ⟨(A2.sees h).cs, (B2.sees h).cs, (C2.sees h).cs⟩
  refine wp_region_sees (by kernel_rfl) (by kernel_rfl) ?_
  refine wpQuiet_val (fun K hK => ⟨?_, ?_⟩); (focus (go_simp; done)); apply Exists.intro; refine ⟨fun W hW => ?_, ?_⟩; (focus (have q := HV.out W hW; obtain ⟨⟨r0, r1⟩, ⟨r2, r3⟩, r4, r5⟩ := q; go_simp; first | done | rfl)); go_simp; refine hK _ ?_; clear hK K
  refine wpQuiet_enter 9 #[pl la ca] (fun K hK => ⟨?_, fun W hW => ?_, ?_⟩); (focus (go_simp; done)); (focus (have hc := hW.cells;  go_simp; done)); apply Exists.intro; refine ⟨fun W hW => (valid_any la ca W).mono fun e w'' ⟨he, hb⟩ => ⟨he, hW.trans hb⟩, ?_⟩; go_simp; refine hK _ ?_; clear hK K
  refine wpQuiet_val (fun K hK => ⟨?_, ?_⟩); (focus (go_simp; done)); apply Exists.intro; refine ⟨fun W hW => ?_, ?_⟩; (focus (have q := HV.out W hW; obtain ⟨⟨r0, r1⟩, ⟨r2, r3⟩, r4, r5⟩ := q; go_simp; first | done | rfl)); go_simp; refine hK _ ?_; clear hK K
  refine wpQuiet_enter 10 #[pl la ca] (fun K hK => ⟨?_, fun W hW => ?_, ?_⟩); (focus (go_simp; done)); (focus (have hc := hW.cells;  go_simp; done)); apply Exists.intro; refine ⟨fun W hW => (rvalid_any la ca W).mono fun e w'' ⟨he, hb⟩ => ⟨he, hW.trans hb⟩, ?_⟩; go_simp; refine hK _ ?_; clear hK K
  refine wpQuiet_val (fun K hK => ⟨?_, ?_⟩); (focus (go_simp; done)); apply Exists.intro; refine ⟨fun W hW => ?_, ?_⟩; (focus ( go_simp; first | done | rfl)); go_simp; refine hK _ ?_; clear hK K
  refine wpQuiet_val (fun K hK => ⟨?_, ?_⟩); (focus (go_simp; done)); apply Exists.intro; refine ⟨fun W hW => ?_, ?_⟩; (focus ( go_simp; first | done | rfl)); go_simp; refine hK _ ?_; clear hK K
  refine wpQuiet_val (fun K hK => ⟨?_, ?_⟩); (focus (go_simp; done)); apply Exists.intro; refine ⟨fun W hW => ?_, ?_⟩; (focus (have q := HV.out W hW; obtain ⟨⟨r0, r1⟩, ⟨r2, r3⟩, r4, r5⟩ := q; go_simp; first | done | rfl)); go_simp; refine hK _ ?_; clear hK K
  refine wpQuiet_val (fun K hK => ⟨?_, ?_⟩); (focus (go_simp; done)); apply Exists.intro; refine ⟨fun W hW => ?_, ?_⟩; (focus (have q := HV.out W hW; obtain ⟨⟨r0, r1⟩, ⟨r2, r3⟩, r4, r5⟩ := q; go_simp; first | done | rfl)); go_simp; refine hK _ ?_; clear hK K
  refine wpQuiet_enter 11 #[pl la ca, pl lb cb] (fun K hK => ⟨?_, fun W hW => ?_, ?_⟩); (focus (go_simp; done)); (focus (have hc := hW.cells;  go_simp; done)); apply Exists.intro; refine ⟨fun W hW => (HK.out W).mono fun e w'' ⟨he, hb⟩ => ⟨he, hW.trans hb⟩, ?_⟩; go_simp; refine hK _ ?_; clear hK K
  refine wpQuiet_val (fun K hK => ⟨?_, ?_⟩); (focus (go_simp; done)); apply Exists.intro; refine ⟨fun W hW => ?_, ?_⟩; (focus ( go_simp; first | done | rfl)); go_simp; refine hK _ ?_; clear hK K
  refine wpQuiet_val (fun K hK => ⟨?_, ?_⟩); (focus (go_simp; done)); apply Exists.intro; refine ⟨fun W hW => ?_, ?_⟩; (focus ( go_simp; first | done | rfl)); go_simp; refine hK _ ?_; clear hK K
  refine wpQuiet_val (fun K hK => ⟨?_, ?_⟩); (focus (go_simp; done)); apply Exists.intro; refine ⟨fun W hW => ?_, ?_⟩; (focus ( go_simp; first | done | rfl)); go_simp; refine hK _ ?_; clear hK K
  refine wpQuiet_val (fun K hK => ⟨?_, ?_⟩); (focus (go_simp; done)); apply Exists.intro; refine ⟨fun W hW => ?_, ?_⟩; (focus ( go_simp; first | done | rfl)); go_simp; refine hK _ ?_; clear hK K
  refine wpQuiet_val (fun K hK => ⟨?_, ?_⟩); (focus (go_simp; done)); apply Exists.intro; refine ⟨fun W hW => ?_, ?_⟩; (focus (have q := HV.out W hW; obtain ⟨⟨r0, r1⟩, ⟨r2, r3⟩, r4, r5⟩ := q; go_simp; first | done | rfl)); go_simp; refine hK _ ?_; clear hK K
  refine wpQuiet_val (fun K hK => ⟨?_, ?_⟩); (focus (go_simp; done)); apply Exists.intro; refine ⟨fun W hW => ?_, ?_⟩; (focus (have q := HV.out W hW; obtain ⟨⟨r0, r1⟩, ⟨r2, r3⟩, r4, r5⟩ := q; go_simp; first | done | rfl)); go_simp; refine hK _ ?_; clear hK K
  refine wpQuiet_enter 11 #[pl lb cb, pl la ca] (fun K hK => ⟨?_, fun W hW => ?_, ?_⟩); (focus (go_simp; done)); (focus (have hc := hW.cells;  go_simp; done)); apply Exists.intro; refine ⟨fun W hW => (HK2.out W).mono fun e w'' ⟨he, hb⟩ => ⟨he, hW.trans hb⟩, ?_⟩; go_simp; refine hK _ ?_; clear hK K
  refine wpQuiet_val (fun K hK => ⟨?_, ?_⟩); (focus (go_simp; done)); apply Exists.intro; refine ⟨fun W hW => ?_, ?_⟩; (focus ( go_simp; first | done | rfl)); go_simp; refine hK _ ?_; clear hK K
  refine wpQuiet_val (fun K hK => ⟨?_, ?_⟩); (focus (go_simp; done)); apply Exists.intro; refine ⟨fun W hW => ?_, ?_⟩; (focus ( go_simp; first | done | rfl)); go_simp; refine hK _ ?_; clear hK K
  refine wpQuiet_val (fun K hK => ⟨?_, ?_⟩); (focus (go_simp; done)); apply Exists.intro; refine ⟨fun W hW => ?_, ?_⟩; (focus ( go_simp; first | done | rfl)); go_simp; refine hK _ ?_; clear hK K
  refine wpQuiet_val (fun K hK => ⟨?_, ?_⟩); (focus (go_simp; done)); apply Exists.intro; refine ⟨fun W hW => ?_, ?_⟩; (focus ( go_simp; first | done | rfl)); go_simp; refine hK _ ?_; clear hK K
  refine wpQuiet_nil ?_
  intro w3 s
  clear HV
  have hS3 := hS2.trans s
  have A3 := A2.sees s
  have B3 := B2.sees s
  have C3 := C2.sees s
  clear s A2 B2 C2 hS2 a0 a1 b0 b1 z0 z1
  obtain ⟨a0, a1⟩ := A3.cs
  obtain ⟨b0, b1⟩ := B3.cs
  obtain ⟨z0, z1⟩ := C3.cs
  go_wp2_with fail
  refine (HO.out _).mono ?_
  rintro e w4 ⟨rfl, s⟩
  have hS4 := hS3.trans s
  have A4 := A3.sees s
  have B4 := B3.sees s
  have C4 := C3.sees s
  clear s A3 B3 C3 hS3 a0 a1 b0 b1 z0 z1
  obtain ⟨a0, a1⟩ := A4.cs
  obtain ⟨b0, b1⟩ := B4.cs
  obtain ⟨z0, z1⟩ := C4.cs
  have hl := A4.lt
  have hl2 := B4.lt
  have hl3 := C4.lt
  go_wp2_with fail
  refine wp_world (fun w5 hw5 => ?_)
  have s : Sees w4 w5 := by rw [hw5]; exact ((Sees.refl _).alloc _).alloc _
  clear hw5 hl hl2 hl3
  have hS5 := hS4.trans s
  have A5 := A4.sees s
  have B5 := B4.sees s
  have C5 := C4.sees s
  clear s A4 B4 C4 hS4 a0 a1 b0 b1 z0 z1
  obtain ⟨a0, a1⟩ := A5.cs
  obtain ⟨b0, b1⟩ := B5.cs
  obtain ⟨z0, z1⟩ := C5.cs
  have HV : Hid (∀ W, Sees w5 W → (W.cell? ⟨w.heap.size, 0, none⟩ = some (.int .i64 la) ∧ W.cell? ⟨w.heap.size, 1, none⟩ = some (.int .i64 ca)) ∧ (W.cell? ⟨w.heap.size + 1, 0, none⟩ = some (.int .i64 lb) ∧ W.cell? ⟨w.heap.size + 1, 1, none⟩ = some (.int .i64 cb)) ∧ W.cell? ⟨w.heap.size + 1 + 1, 0, none⟩ = some (.int .i64 lc) ∧ W.cell? ⟨w.heap.size + 1 + 1, 1, none⟩ = some (.int .i64 cc)) :=
    Lib.hid fun W h => ⟨(A5.sees h).cs, (B5.sees h).cs, (C5.sees h).cs⟩
  refine wp_region_sees (by kernel_rfl) (by kernel_rfl) ?_
  refine wpQuiet_val (fun K hK => ⟨?_, ?_⟩); (focus (go_simp; done)); apply Exists.intro; refine ⟨fun W hW => ?_, ?_⟩; (focus (have q := HV.out W hW; obtain ⟨⟨r0, r1⟩, ⟨r2, r3⟩, r4, r5⟩ := q; go_simp; first | done | rfl)); go_simp; refine hK _ ?_; clear hK K
  refine wpQuiet_val (fun K hK => ⟨?_, ?_⟩); (focus (go_simp; done)); apply Exists.intro; refine ⟨fun W hW => ?_, ?_⟩; (focus (have q := HV.out W hW; obtain ⟨⟨r0, r1⟩, ⟨r2, r3⟩, r4, r5⟩ := q; go_simp; first | done | rfl)); go_simp; refine hK _ ?_; clear hK K
  refine wpQuiet_val (fun K hK => ⟨?_, ?_⟩); (focus (go_simp; done)); apply Exists.intro; refine ⟨fun W hW => ?_, ?_⟩; (focus (have q := HV.out W hW; obtain ⟨⟨r0, r1⟩, ⟨r2, r3⟩, r4, r5⟩ := q; go_simp; first | done | rfl)); go_simp; refine hK _ ?_; clear hK K
  refine wpQuiet_enter 13 #[pl la ca, pl lb cb, pl lc cc] (fun K hK => ⟨?_, fun W hW => ?_, ?_⟩); (focus (go_simp; done)); (focus (have hc := hW.cells;  go_simp; done)); apply Exists.intro; refine ⟨fun W hW => (HW.out W).mono fun e w'' ⟨he, hb⟩ => ⟨he, hW.trans hb⟩, ?_⟩; go_simp; refine hK _ ?_; clear hK K
  refine wpQuiet_val (fun K hK => ⟨?_, ?_⟩); (focus (go_simp; done)); apply Exists.intro; refine ⟨fun W hW => ?_, ?_⟩; (focus (have q := HV.out W hW; obtain ⟨⟨r0, r1⟩, ⟨r2, r3⟩, r4, r5⟩ := q; go_simp; first | done | rfl)); go_simp; refine hK _ ?_; clear hK K
  refine wpQuiet_val (fun K hK => ⟨?_, ?_⟩); (focus (go_simp; done)); apply Exists.intro; refine ⟨fun W hW => ?_, ?_⟩; (focus (have q := HV.out W hW; obtain ⟨⟨r0, r1⟩, ⟨r2, r3⟩, r4, r5⟩ := q; go_simp; first | done | rfl)); go_simp; refine hK _ ?_; clear hK K
  refine wpQuiet_enter 8 #[pl la ca, pl lb cb] (fun K hK => ⟨?_, fun W hW => ?_, ?_⟩); (focus (go_simp; done)); (focus (have hc := hW.cells;  go_simp; done)); apply Exists.intro; refine ⟨fun W hW => (HB1.out W).mono fun e w'' ⟨he, hb⟩ => ⟨he, hW.trans hb⟩, ?_⟩; go_simp; refine hK _ ?_; clear hK K
  refine wpQuiet_val (fun K hK => ⟨?_, ?_⟩); (focus (go_simp; done)); apply Exists.intro; refine ⟨fun W hW => ?_, ?_⟩; (focus ( go_simp; first | done | rfl)); go_simp; refine hK _ ?_; clear hK K
  refine wpQuiet_val (fun K hK => ⟨?_, ?_⟩); (focus (go_simp; done)); apply Exists.intro; refine ⟨fun W hW => ?_, ?_⟩; (focus ( go_simp; first | done | rfl)); go_simp; refine hK _ ?_; clear hK K
  refine wpQuiet_val (fun K hK => ⟨?_, ?_⟩); (focus (go_simp; done)); apply Exists.intro; refine ⟨fun W hW => ?_, ?_⟩; (focus (have q := HV.out W hW; obtain ⟨⟨r0, r1⟩, ⟨r2, r3⟩, r4, r5⟩ := q; go_simp; first | done | rfl)); go_simp; refine hK _ ?_; clear hK K
  refine wpQuiet_val (fun K hK => ⟨?_, ?_⟩); (focus (go_simp; done)); apply Exists.intro; refine ⟨fun W hW => ?_, ?_⟩; (focus (have q := HV.out W hW; obtain ⟨⟨r0, r1⟩, ⟨r2, r3⟩, r4, r5⟩ := q; go_simp; first | done | rfl)); go_simp; refine hK _ ?_; clear hK K
  refine wpQuiet_enter 8 #[pl la ca, pl lc cc] (fun K hK => ⟨?_, fun W hW => ?_, ?_⟩); (focus (go_simp; done)); (focus (have hc := hW.cells;  go_simp; done)); apply Exists.intro; refine ⟨fun W hW => (HB3.out W).mono fun e w'' ⟨he, hb⟩ => ⟨he, hW.trans hb⟩, ?_⟩; go_simp; refine hK _ ?_; clear hK K
  refine wpQuiet_val (fun K hK => ⟨?_, ?_⟩); (focus (go_simp; done)); apply Exists.intro; refine ⟨fun W hW => ?_, ?_⟩; (focus ( go_simp; first | done | rfl)); go_simp; refine hK _ ?_; clear hK K
  refine wpQuiet_val (fun K hK => ⟨?_, ?_⟩); (focus (go_simp; done)); apply Exists.intro; refine ⟨fun W hW => ?_, ?_⟩; (focus ( go_simp; first | done | rfl)); go_simp; refine hK _ ?_; clear hK K
  refine wpQuiet_val (fun K hK => ⟨?_, ?_⟩); (focus (go_simp; done)); apply Exists.intro; refine ⟨fun W hW => ?_, ?_⟩; (focus ( go_simp; first | done | rfl)); go_simp; refine hK _ ?_; clear hK K
  refine wpQuiet_enter 14 #[] (fun K hK => ⟨?_, fun W hW => ?_, ?_⟩); (focus (go_simp; done)); (focus (have hc := hW.cells;  go_simp; done)); apply Exists.intro; refine ⟨fun W hW => (known09 W (hst.sees (hS5.trans hW))).mono fun e w'' ⟨he, hb⟩ => ⟨he, hW.trans hb⟩, ?_⟩; go_simp; refine hK _ ?_; clear hK K
  refine wpQuiet_val (fun K hK => ⟨?_, ?_⟩); (focus (go_simp; done)); apply Exists.intro; refine ⟨fun W hW => ?_, ?_⟩; (focus ( go_simp; first | done | rfl)); go_simp; refine hK _ ?_; clear hK K
  refine wpQuiet_val (fun K hK => ⟨?_, ?_⟩); (focus (go_simp; done)); apply Exists.intro; refine ⟨fun W hW => ?_, ?_⟩; (focus ( go_simp; first | done | rfl)); go_simp; refine hK _ ?_; clear hK K
  refine wpQuiet_nil ?_
  intro w9 s
  go_wp2
  go_ret
  exact ⟨rfl, hS5.trans s⟩
set_option maxHeartbeats 8000000 in
set_option maxRecDepth 1000000 in
theorem walk_c (la ca lb cb lc cc : Int) (w : World) (hst : Std w) (hb1 : bf la ca lb cb = false) (hb2 : bf lb cb la ca = false) (hk : cmpP la ca lb cb = 0) (hk2 : cmpP lb cb la ca = 0) :
    Calls Tryd.prog 3 #[pl la ca, pl lb cb, pl lc cc] w fun e w' => e = .returned (.bool true) ∧ Sees w w' := by
  have hw := Sees.refl w
  have q1 : (la == la) = true := by simp
  have q2 : (ca == ca) = true := by simp
  have q3 : (lb == lb) = true := by simp
  have q4 : (cb == cb) = true := by simp
  have q5 : (vP la ca == vP la ca) = true := by simp
  have hO := fun W => order_any la ca lb cb W
  rw [hk, if_neg (by decide)] at hO
  have HO := Lib.hid hO
  have HK := Lib.hid (compare_c la ca lb cb 0 hk)
  have HK2 := Lib.hid (compare_c lb cb la ca 0 hk2)
  have HB1 := Lib.hid (before_c la ca lb cb _ hb1)
  have HB2 := Lib.hid (before_c lb cb la ca _ hb2)
  obtain ⟨v, hv⟩ : ∃ v, v = decide (cmpP la ca lc cc < 0) := ⟨_, rfl⟩
  have hv2 : bf la ca lc cc = v := by
    rw [hv, Bool.eq_iff_iff, bf_iff, decide_eq_true_iff, cmp_lt]
  have HB3 := Lib.hid (before_c la ca lc cc v hv2)
  have q6 : (v == v) = true := by simp
  have HW := Lib.hid (within_c la ca lb cb lc cc v (by rw [hk2, ← hv]; simp))
  clear hO hk hk2 hb1 hv hv2
  go_enter Tryd.func3, Tryd.ntmps3
  go_wp2_with fail
  refine calls_world (fun w0 hw0 => ?_)
  have hS0 : Sees w w0 := by rw [hw0]; exact ((hw.alloc _).alloc _).alloc _
  have hz1 : (w.alloc (.cells #[.int .i64 la, .int .i64 ca] 23)).heap.size = w.heap.size + 1 := by simp
  have hz2 : ((w.alloc (.cells #[.int .i64 la, .int .i64 ca] 23)).alloc (.cells #[.int .i64 lb, .int .i64 cb] 23)).heap.size = w.heap.size + 1 + 1 := by simp
  have A0 : PlAt w0 w.heap.size la ca := by rw [hw0]; exact ((PlAt.new w la ca).sees ((Sees.refl _).alloc _)).sees ((Sees.refl _).alloc _)
  have B0 : PlAt w0 (w.heap.size + 1) lb cb := by rw [hw0, ← hz1]; exact (PlAt.new _ lb cb).sees ((Sees.refl _).alloc _)
  have C0 : PlAt w0 (w.heap.size + 1 + 1) lc cc := by rw [hw0, ← hz2]; exact PlAt.new _ lc cc
  clear hz1 hz2 hw0
  obtain ⟨a0, a1⟩ := A0.cs
  obtain ⟨b0, b1⟩ := B0.cs
  obtain ⟨z0, z1⟩ := C0.cs
  refine (HB1.out _).mono ?_
  rintro e w1 ⟨rfl, s⟩
  have hS1 := hS0.trans s
  have A1 := A0.sees s
  have B1 := B0.sees s
  have C1 := C0.sees s
  clear s A0 B0 C0 hS0 a0 a1 b0 b1 z0 z1
  obtain ⟨a0, a1⟩ := A1.cs
  obtain ⟨b0, b1⟩ := B1.cs
  obtain ⟨z0, z1⟩ := C1.cs
  go_wp2_with fail
  refine (HB2.out _).mono ?_
  rintro e w2 ⟨rfl, s⟩
  have hS2 := hS1.trans s
  have A2 := A1.sees s
  have B2 := B1.sees s
  have C2 := C1.sees s
  clear s A1 B1 C1 hS1 a0 a1 b0 b1 z0 z1
  obtain ⟨a0, a1⟩ := A2.cs
  obtain ⟨b0, b1⟩ := B2.cs
  obtain ⟨z0, z1⟩ := C2.cs
  go_wp2_with fail
  have HV : Hid (∀ W, Sees w2 W → (W.cell? ⟨w.heap.size, 0, none⟩ = some (.int .i64 la) ∧ W.cell? ⟨w.heap.size, 1, none⟩ = some (.int .i64 ca)) ∧ (W.cell? ⟨w.heap.size + 1, 0, none⟩ = some (.int .i64 lb) ∧ W.cell? ⟨w.heap.size + 1, 1, none⟩ = some (.int .i64 cb)) ∧ W.cell? ⟨w.heap.size + 1 + 1, 0, none⟩ = some (.int .i64 lc) ∧ W.cell? ⟨w.heap.size + 1 + 1, 1, none⟩ = some (.int .i64 cc)) :=
    Lib.hid fun W h => ⟨(A2.sees h).cs, (B2.sees h).cs, (C2.sees h).cs⟩
  refine wp_region_sees (by kernel_rfl) (by kernel_rfl) ?_
  refine wpQuiet_val (fun K hK => ⟨?_, ?_⟩); (focus (go_simp; done)); apply Exists.intro; refine ⟨fun W hW => ?_, ?_⟩; (focus (have q := HV.out W hW; obtain ⟨⟨r0, r1⟩, ⟨r2, r3⟩, r4, r5⟩ := q; go_simp; first | done | rfl)); go_simp; refine hK _ ?_; clear hK K
  refine wpQuiet_enter 9 #[pl la ca] (fun K hK => ⟨?_, fun W hW => ?_, ?_⟩); (focus (go_simp; done)); (focus (have hc := hW.cells;  go_simp; done)); apply Exists.intro; refine ⟨fun W hW => (valid_any la ca W).mono fun e w'' ⟨he, hb⟩ => ⟨he, hW.trans hb⟩, ?_⟩; go_simp; refine hK _ ?_; clear hK K
  refine wpQuiet_val (fun K hK => ⟨?_, ?_⟩); (focus (go_simp; done)); apply Exists.intro; refine ⟨fun W hW => ?_, ?_⟩; (focus (have q := HV.out W hW; obtain ⟨⟨r0, r1⟩, ⟨r2, r3⟩, r4, r5⟩ := q; go_simp; first | done | rfl)); go_simp; refine hK _ ?_; clear hK K
  refine wpQuiet_enter 10 #[pl la ca] (fun K hK => ⟨?_, fun W hW => ?_, ?_⟩); (focus (go_simp; done)); (focus (have hc := hW.cells;  go_simp; done)); apply Exists.intro; refine ⟨fun W hW => (rvalid_any la ca W).mono fun e w'' ⟨he, hb⟩ => ⟨he, hW.trans hb⟩, ?_⟩; go_simp; refine hK _ ?_; clear hK K
  refine wpQuiet_val (fun K hK => ⟨?_, ?_⟩); (focus (go_simp; done)); apply Exists.intro; refine ⟨fun W hW => ?_, ?_⟩; (focus ( go_simp; first | done | rfl)); go_simp; refine hK _ ?_; clear hK K
  refine wpQuiet_val (fun K hK => ⟨?_, ?_⟩); (focus (go_simp; done)); apply Exists.intro; refine ⟨fun W hW => ?_, ?_⟩; (focus ( go_simp; first | done | rfl)); go_simp; refine hK _ ?_; clear hK K
  refine wpQuiet_val (fun K hK => ⟨?_, ?_⟩); (focus (go_simp; done)); apply Exists.intro; refine ⟨fun W hW => ?_, ?_⟩; (focus (have q := HV.out W hW; obtain ⟨⟨r0, r1⟩, ⟨r2, r3⟩, r4, r5⟩ := q; go_simp; first | done | rfl)); go_simp; refine hK _ ?_; clear hK K
  refine wpQuiet_val (fun K hK => ⟨?_, ?_⟩); (focus (go_simp; done)); apply Exists.intro; refine ⟨fun W hW => ?_, ?_⟩; (focus (have q := HV.out W hW; obtain ⟨⟨r0, r1⟩, ⟨r2, r3⟩, r4, r5⟩ := q; go_simp; first | done | rfl)); go_simp; refine hK _ ?_; clear hK K
  refine wpQuiet_enter 11 #[pl la ca, pl lb cb] (fun K hK => ⟨?_, fun W hW => ?_, ?_⟩); (focus (go_simp; done)); (focus (have hc := hW.cells;  go_simp; done)); apply Exists.intro; refine ⟨fun W hW => (HK.out W).mono fun e w'' ⟨he, hb⟩ => ⟨he, hW.trans hb⟩, ?_⟩; go_simp; refine hK _ ?_; clear hK K
  refine wpQuiet_val (fun K hK => ⟨?_, ?_⟩); (focus (go_simp; done)); apply Exists.intro; refine ⟨fun W hW => ?_, ?_⟩; (focus ( go_simp; first | done | rfl)); go_simp; refine hK _ ?_; clear hK K
  refine wpQuiet_val (fun K hK => ⟨?_, ?_⟩); (focus (go_simp; done)); apply Exists.intro; refine ⟨fun W hW => ?_, ?_⟩; (focus ( go_simp; first | done | rfl)); go_simp; refine hK _ ?_; clear hK K
  refine wpQuiet_val (fun K hK => ⟨?_, ?_⟩); (focus (go_simp; done)); apply Exists.intro; refine ⟨fun W hW => ?_, ?_⟩; (focus ( go_simp; first | done | rfl)); go_simp; refine hK _ ?_; clear hK K
  refine wpQuiet_val (fun K hK => ⟨?_, ?_⟩); (focus (go_simp; done)); apply Exists.intro; refine ⟨fun W hW => ?_, ?_⟩; (focus ( go_simp; first | done | rfl)); go_simp; refine hK _ ?_; clear hK K
  refine wpQuiet_val (fun K hK => ⟨?_, ?_⟩); (focus (go_simp; done)); apply Exists.intro; refine ⟨fun W hW => ?_, ?_⟩; (focus (have q := HV.out W hW; obtain ⟨⟨r0, r1⟩, ⟨r2, r3⟩, r4, r5⟩ := q; go_simp; first | done | rfl)); go_simp; refine hK _ ?_; clear hK K
  refine wpQuiet_val (fun K hK => ⟨?_, ?_⟩); (focus (go_simp; done)); apply Exists.intro; refine ⟨fun W hW => ?_, ?_⟩; (focus (have q := HV.out W hW; obtain ⟨⟨r0, r1⟩, ⟨r2, r3⟩, r4, r5⟩ := q; go_simp; first | done | rfl)); go_simp; refine hK _ ?_; clear hK K
  refine wpQuiet_enter 11 #[pl lb cb, pl la ca] (fun K hK => ⟨?_, fun W hW => ?_, ?_⟩); (focus (go_simp; done)); (focus (have hc := hW.cells;  go_simp; done)); apply Exists.intro; refine ⟨fun W hW => (HK2.out W).mono fun e w'' ⟨he, hb⟩ => ⟨he, hW.trans hb⟩, ?_⟩; go_simp; refine hK _ ?_; clear hK K
  refine wpQuiet_val (fun K hK => ⟨?_, ?_⟩); (focus (go_simp; done)); apply Exists.intro; refine ⟨fun W hW => ?_, ?_⟩; (focus ( go_simp; first | done | rfl)); go_simp; refine hK _ ?_; clear hK K
  refine wpQuiet_val (fun K hK => ⟨?_, ?_⟩); (focus (go_simp; done)); apply Exists.intro; refine ⟨fun W hW => ?_, ?_⟩; (focus ( go_simp; first | done | rfl)); go_simp; refine hK _ ?_; clear hK K
  refine wpQuiet_val (fun K hK => ⟨?_, ?_⟩); (focus (go_simp; done)); apply Exists.intro; refine ⟨fun W hW => ?_, ?_⟩; (focus ( go_simp; first | done | rfl)); go_simp; refine hK _ ?_; clear hK K
  refine wpQuiet_val (fun K hK => ⟨?_, ?_⟩); (focus (go_simp; done)); apply Exists.intro; refine ⟨fun W hW => ?_, ?_⟩; (focus ( go_simp; first | done | rfl)); go_simp; refine hK _ ?_; clear hK K
  refine wpQuiet_nil ?_
  intro w3 s
  clear HV
  have hS3 := hS2.trans s
  have A3 := A2.sees s
  have B3 := B2.sees s
  have C3 := C2.sees s
  clear s A2 B2 C2 hS2 a0 a1 b0 b1 z0 z1
  obtain ⟨a0, a1⟩ := A3.cs
  obtain ⟨b0, b1⟩ := B3.cs
  obtain ⟨z0, z1⟩ := C3.cs
  go_wp2_with fail
  refine (HO.out _).mono ?_
  rintro e w4 ⟨rfl, s⟩
  have hS4 := hS3.trans s
  have A4 := A3.sees s
  have B4 := B3.sees s
  have C4 := C3.sees s
  clear s A3 B3 C3 hS3 a0 a1 b0 b1 z0 z1
  obtain ⟨a0, a1⟩ := A4.cs
  obtain ⟨b0, b1⟩ := B4.cs
  obtain ⟨z0, z1⟩ := C4.cs
  have hl := A4.lt
  have hl2 := B4.lt
  have hl3 := C4.lt
  go_wp2_with fail
  refine wp_world (fun w5 hw5 => ?_)
  have s : Sees w4 w5 := by rw [hw5]; exact ((Sees.refl _).alloc _).alloc _
  clear hw5 hl hl2 hl3
  have hS5 := hS4.trans s
  have A5 := A4.sees s
  have B5 := B4.sees s
  have C5 := C4.sees s
  clear s A4 B4 C4 hS4 a0 a1 b0 b1 z0 z1
  obtain ⟨a0, a1⟩ := A5.cs
  obtain ⟨b0, b1⟩ := B5.cs
  obtain ⟨z0, z1⟩ := C5.cs
  have HV : Hid (∀ W, Sees w5 W → (W.cell? ⟨w.heap.size, 0, none⟩ = some (.int .i64 la) ∧ W.cell? ⟨w.heap.size, 1, none⟩ = some (.int .i64 ca)) ∧ (W.cell? ⟨w.heap.size + 1, 0, none⟩ = some (.int .i64 lb) ∧ W.cell? ⟨w.heap.size + 1, 1, none⟩ = some (.int .i64 cb)) ∧ W.cell? ⟨w.heap.size + 1 + 1, 0, none⟩ = some (.int .i64 lc) ∧ W.cell? ⟨w.heap.size + 1 + 1, 1, none⟩ = some (.int .i64 cc)) :=
    Lib.hid fun W h => ⟨(A5.sees h).cs, (B5.sees h).cs, (C5.sees h).cs⟩
  refine wp_region_sees (by kernel_rfl) (by kernel_rfl) ?_
  refine wpQuiet_val (fun K hK => ⟨?_, ?_⟩); (focus (go_simp; done)); apply Exists.intro; refine ⟨fun W hW => ?_, ?_⟩; (focus (have q := HV.out W hW; obtain ⟨⟨r0, r1⟩, ⟨r2, r3⟩, r4, r5⟩ := q; go_simp; first | done | rfl)); go_simp; refine hK _ ?_; clear hK K
  refine wpQuiet_val (fun K hK => ⟨?_, ?_⟩); (focus (go_simp; done)); apply Exists.intro; refine ⟨fun W hW => ?_, ?_⟩; (focus (have q := HV.out W hW; obtain ⟨⟨r0, r1⟩, ⟨r2, r3⟩, r4, r5⟩ := q; go_simp; first | done | rfl)); go_simp; refine hK _ ?_; clear hK K
  refine wpQuiet_val (fun K hK => ⟨?_, ?_⟩); (focus (go_simp; done)); apply Exists.intro; refine ⟨fun W hW => ?_, ?_⟩; (focus (have q := HV.out W hW; obtain ⟨⟨r0, r1⟩, ⟨r2, r3⟩, r4, r5⟩ := q; go_simp; first | done | rfl)); go_simp; refine hK _ ?_; clear hK K
  refine wpQuiet_enter 13 #[pl la ca, pl lb cb, pl lc cc] (fun K hK => ⟨?_, fun W hW => ?_, ?_⟩); (focus (go_simp; done)); (focus (have hc := hW.cells;  go_simp; done)); apply Exists.intro; refine ⟨fun W hW => (HW.out W).mono fun e w'' ⟨he, hb⟩ => ⟨he, hW.trans hb⟩, ?_⟩; go_simp; refine hK _ ?_; clear hK K
  refine wpQuiet_val (fun K hK => ⟨?_, ?_⟩); (focus (go_simp; done)); apply Exists.intro; refine ⟨fun W hW => ?_, ?_⟩; (focus (have q := HV.out W hW; obtain ⟨⟨r0, r1⟩, ⟨r2, r3⟩, r4, r5⟩ := q; go_simp; first | done | rfl)); go_simp; refine hK _ ?_; clear hK K
  refine wpQuiet_val (fun K hK => ⟨?_, ?_⟩); (focus (go_simp; done)); apply Exists.intro; refine ⟨fun W hW => ?_, ?_⟩; (focus (have q := HV.out W hW; obtain ⟨⟨r0, r1⟩, ⟨r2, r3⟩, r4, r5⟩ := q; go_simp; first | done | rfl)); go_simp; refine hK _ ?_; clear hK K
  refine wpQuiet_enter 8 #[pl la ca, pl lb cb] (fun K hK => ⟨?_, fun W hW => ?_, ?_⟩); (focus (go_simp; done)); (focus (have hc := hW.cells;  go_simp; done)); apply Exists.intro; refine ⟨fun W hW => (HB1.out W).mono fun e w'' ⟨he, hb⟩ => ⟨he, hW.trans hb⟩, ?_⟩; go_simp; refine hK _ ?_; clear hK K
  refine wpQuiet_val (fun K hK => ⟨?_, ?_⟩); (focus (go_simp; done)); apply Exists.intro; refine ⟨fun W hW => ?_, ?_⟩; (focus ( go_simp; first | done | rfl)); go_simp; refine hK _ ?_; clear hK K
  refine wpQuiet_val (fun K hK => ⟨?_, ?_⟩); (focus (go_simp; done)); apply Exists.intro; refine ⟨fun W hW => ?_, ?_⟩; (focus ( go_simp; first | done | rfl)); go_simp; refine hK _ ?_; clear hK K
  refine wpQuiet_val (fun K hK => ⟨?_, ?_⟩); (focus (go_simp; done)); apply Exists.intro; refine ⟨fun W hW => ?_, ?_⟩; (focus (have q := HV.out W hW; obtain ⟨⟨r0, r1⟩, ⟨r2, r3⟩, r4, r5⟩ := q; go_simp; first | done | rfl)); go_simp; refine hK _ ?_; clear hK K
  refine wpQuiet_val (fun K hK => ⟨?_, ?_⟩); (focus (go_simp; done)); apply Exists.intro; refine ⟨fun W hW => ?_, ?_⟩; (focus (have q := HV.out W hW; obtain ⟨⟨r0, r1⟩, ⟨r2, r3⟩, r4, r5⟩ := q; go_simp; first | done | rfl)); go_simp; refine hK _ ?_; clear hK K
  refine wpQuiet_enter 8 #[pl la ca, pl lc cc] (fun K hK => ⟨?_, fun W hW => ?_, ?_⟩); (focus (go_simp; done)); (focus (have hc := hW.cells;  go_simp; done)); apply Exists.intro; refine ⟨fun W hW => (HB3.out W).mono fun e w'' ⟨he, hb⟩ => ⟨he, hW.trans hb⟩, ?_⟩; go_simp; refine hK _ ?_; clear hK K
  refine wpQuiet_val (fun K hK => ⟨?_, ?_⟩); (focus (go_simp; done)); apply Exists.intro; refine ⟨fun W hW => ?_, ?_⟩; (focus ( go_simp; first | done | rfl)); go_simp; refine hK _ ?_; clear hK K
  refine wpQuiet_val (fun K hK => ⟨?_, ?_⟩); (focus (go_simp; done)); apply Exists.intro; refine ⟨fun W hW => ?_, ?_⟩; (focus ( go_simp; first | done | rfl)); go_simp; refine hK _ ?_; clear hK K
  refine wpQuiet_val (fun K hK => ⟨?_, ?_⟩); (focus (go_simp; done)); apply Exists.intro; refine ⟨fun W hW => ?_, ?_⟩; (focus ( go_simp; first | done | rfl)); go_simp; refine hK _ ?_; clear hK K
  refine wpQuiet_enter 14 #[] (fun K hK => ⟨?_, fun W hW => ?_, ?_⟩); (focus (go_simp; done)); (focus (have hc := hW.cells;  go_simp; done)); apply Exists.intro; refine ⟨fun W hW => (known09 W (hst.sees (hS5.trans hW))).mono fun e w'' ⟨he, hb⟩ => ⟨he, hW.trans hb⟩, ?_⟩; go_simp; refine hK _ ?_; clear hK K
  refine wpQuiet_val (fun K hK => ⟨?_, ?_⟩); (focus (go_simp; done)); apply Exists.intro; refine ⟨fun W hW => ?_, ?_⟩; (focus ( go_simp; first | done | rfl)); go_simp; refine hK _ ?_; clear hK K
  refine wpQuiet_val (fun K hK => ⟨?_, ?_⟩); (focus (go_simp; done)); apply Exists.intro; refine ⟨fun W hW => ?_, ?_⟩; (focus ( go_simp; first | done | rfl)); go_simp; refine hK _ ?_; clear hK K
  refine wpQuiet_nil ?_
  intro w9 s
  go_wp2
  go_ret
  exact ⟨rfl, hS5.trans s⟩
theorem walk (la ca lb cb lc cc : Int) (w : World) (hst : Std w) (h1 : I64 la) (h2 : I64 ca) (h3 : I64 lb) (h4 : I64 cb) (h5 : I64 lc) (h6 : I64 cc) :
    Calls Tryd.prog 3 #[pl la ca, pl lb cb, pl lc cc] w fun e w' => e = .returned (.bool true) ∧ Sees w w' := by
  rcases cmp3 la ca lb cb with ⟨g1, g2, g3⟩ | ⟨g1, g2, g3, g4⟩ | ⟨g1, g2, g3, g4⟩
  · exact walk_a la ca lb cb lc cc w hst g1 g2 g3
  · exact walk_b la ca lb cb lc cc w hst g1 g2 g3 g4
  · exact walk_c la ca lb cb lc cc w hst g1 g2 g3 g4

set_option maxRecDepth 100000 in
theorem contract (H : Type) (enc : TypeId × Value → H) (W : World) (base : Nat) (args : Array Value) (ds gs : List (DataW H)) (before : List MemPlace)
    (hval : ∀ (j : Nat) t v, Tryd.f3.params[j]? = some t → args[j]? = some v → Value.okWide Tryd.prog W .any base t v)
    (hW : DataW.Whole enc Tryd.prog Tryd.f3.params.toList Rows.placeComparesSpec.vars false W args.toList ds gs before) (hL : laidMetH Tryd.prog Rows.placeComparesRow.laid W) (hsh : W.ShapedOpen Tryd.prog) :
    Calls Tryd.prog 3 args W fun e W' => ∃ v, e = .returned v ∧ Rows.placeComparesSpec.post enc Tryd.prog Tryd.f3 false true false false W args v W' := by
  have hW' := hW
  obtain ⟨p, q, hA0, hV, rfl, hfz, hnd⟩ := hW
  have hA : DataW.TrodAll enc Tryd.prog W 0 (fun _ => true) true Tryd.f3.params.toList args.toList ds p := hA0
  rw [Tryd.params3] at hA hval
  obtain ⟨v0, vs0, d0, ds0, p0, q0, hargs, rfl, rfl, h0, r0⟩ := trodAll_cons hA
  obtain ⟨v1, vs1, d1, ds1, p1, q1, rfl, rfl, rfl, h1, r1⟩ := trodAll_cons r0
  obtain ⟨v2, vs2, d2, ds2, p2, q2, rfl, rfl, rfl, h2, r2⟩ := trodAll_cons r1
  obtain ⟨rfl, rfl, rfl⟩ := trodAll_nil r2
  obtain rfl : args = #[v0, v1, v2] := by cases args; simp_all
  obtain ⟨la, ca, rfl, xa, ya⟩ := open_place (hval 0 23 v0 rfl rfl) h0
  obtain ⟨lb, cb, rfl, xb, yb⟩ := open_place (hval 1 23 v1 rfl rfl) h1
  obtain ⟨lc, cc, rfl, xc, yc⟩ := open_place (hval 2 23 v2 rfl rfl) h2
  refine (walk la ca lb cb lc cc W (std_of_laid hL hsh) xa ya xb yb xc yc).mono fun e W' ⟨he, hs⟩ => ?_
  subst he
  exact ⟨_, rfl, law_post (tb := 4) laidOut (by
    rw [Tryd.params3]; intro t ht
    simp only [List.mem_cons, List.not_mem_nil, or_false] at ht
    rcases ht with rfl | rfl | rfl <;> exact ⟨by kernel_rfl, of_decide_eq_true (by kernel_rfl)⟩) hW' rfl (fun ds hl => by
    rw [Tryd.params3] at hl
    match ds, hl with
    | [_, _, _], _ => rfl) (by kernel_rfl) Tryd.underlying4 hs⟩

abbrev startArgs : Array Value := #[.agg #[.int .i64 0, .int .i64 0], .agg #[.int .i64 0, .int .i64 0], .agg #[.int .i64 0, .int .i64 0]]
noncomputable abbrev start (os : Os) : World := laidWorld os
theorem laid_met (os : Os) : laidMet Tryd.prog Rows.placeComparesRow.laid ((start os).forCall (fun _ _ => 0) ⟨#[], startArgs, []⟩).memory :=
  laidMet_of_run' 8 (by kernel_rfl) (by kernel_rfl)
theorem reads (os : Os) {H : Type} (enc : TypeId × Value → H) : ∃ x, DataW.whole enc Tryd.prog ((start os).forCall (fun _ _ => 0) ⟨#[], startArgs, []⟩).memory Tryd.f3.params.toList Rows.placeComparesSpec.vars false startArgs.toList 8 = some x :=
  ⟨([.agg [.lit (.int .i64 0), .lit (.int .i64 0)], .agg [.lit (.int .i64 0), .lit (.int .i64 0)], .agg [.lit (.int .i64 0), .lit (.int .i64 0)]], [], []), by kernel_rfl⟩

set_option maxRecDepth 100000 in
theorem lifted (os : Os) (started : os.Started) (H : Type) (enc : TypeId × Value → H) (F : Stop.Interp) :
    ReturnsInHanded {} Tryd.checked os 3 .any ((OpenSpec.ofChange Rows.placeComparesSpec).preRow enc Tryd.prog Tryd.f3 Rows.placeComparesRow.domain false Rows.placeComparesRow.laid) (((OpenSpec.ofChange Rows.placeComparesSpec).at F).post enc Tryd.prog Tryd.f3 false true false false) := by
  obtain ⟨x, hx⟩ := reads os enc
  refine returnsInHanded_of_row (C := Tryd.checked) (s := OpenSpec.ofChange Rows.placeComparesSpec) ownK started (by kernel_rfl) Tryd.func3
    (witness_row_at (enc := enc) (C := Tryd.checked) false (start os) startArgs rfl (by kernel_rfl) (by kernel_rfl) (by kernel_rfl)
      (OpenSpec.preRow_of_cond 8 hx (by kernel_rfl) (fun k hk => by cases hk) (by kernel_rfl) (laid_met os))) ?_
  intro W base args ds gs before hval hW _ _ _ hL hsh _
  exact contract H enc W base args ds gs before hval hW hL hsh

theorem said : Rows.PlaceComparesSaid :=
  OpenClaim.holds_of_cond 3 Tryd.f3 rfl rfl rfl rfl rfl rfl rfl ⟨rfl, rfl, rfl, rfl, rfl⟩ rfl rfl rfl rfl rfl (by kernel_rfl) Tryd.func3 (by kernel_rfl)
    (of_decide_eq_true (by kernel_rfl)) (by unfold Func.isWrapper; first | (rw [if_pos (by decide +kernel)]; kernel_rfl) | (rw [if_neg (by decide +kernel)]; exact ⟨rfl, rfl⟩))
    (fun os started H enc _ F => by rw [OpenClaim.pre_eq_preRow]; exact lifted os started H enc F)

theorem plain (f : FuncId) (fn : Func) (hf : Tryd.pinned.checked.prog.funcNamed Rows.placeComparesRow.func = some f) (hfn : Tryd.pinned.checked.prog.funcs[f]? = some fn) :
    true = Tryd.pinned.checked.prog.looks [] ∧ ∀ (j : Nat) t, fn.params[j]? = some t → Tryd.pinned.checked.prog.wantsStandIn t = false := by
  obtain rfl : f = 3 := Option.some.inj ((show Tryd.prog.funcNamed Rows.placeComparesRow.func = some 3 by kernel_rfl).symm.trans hf) |>.symm
  obtain rfl : fn = Tryd.f3 := (Option.some.inj (Tryd.func3.symm.trans hfn)).symm
  refine ⟨by kernel_rfl, fun j t ht => ?_⟩
  rw [Tryd.params3] at ht
  have hm := Array.mem_of_getElem? ht
  simp only [List.mem_toArray, List.mem_cons, List.not_mem_nil, or_false] at hm
  rcases hm with rfl | rfl | rfl
  · exact (show Tryd.prog.wantsStandIn 23 = false by kernel_rfl)
  · exact (show Tryd.prog.wantsStandIn 23 = false by kernel_rfl)
  · exact (show Tryd.prog.wantsStandIn 23 = false by kernel_rfl)

theorem card : Rows.PlaceComparesCardSaid :=
  Claim7.holds_tied_plain_at .later [] _ _ _ _ said (fun _ h => by cases h) (by kernel_rfl) (fun _ h => by cases h) placeCompares_row_tie rfl ⟨rfl, rfl⟩ (by kernel_rfl) rfl plain (by kernel_rfl)
end placeCompares
end Go.Proofs.YtoljdfaghomjkaaDoor
