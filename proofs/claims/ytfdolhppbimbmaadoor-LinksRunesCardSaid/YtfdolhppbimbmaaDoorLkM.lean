/- known (43). The tables hold what the program's text lays. -/
import Derived.Test.YtfdolhppbimbmaaDoorLkL
namespace Go.Proofs.YtfdolhppbimbmaaDoor
set_option linter.unusedVariables false
set_option linter.unusedSimpArgs false
open Go.RowKit Go.Shelf
attribute [local go_sem] Oper.semAt_some

def knK : List Ln := [⟨chP ⟨#[103, 111, 32, 104, 116, 116, 112, 58, 47, 47]⟩ 0, true⟩, ⟨chP ⟨#[97, 46, 98, 47, 99, 32, 100]⟩ 3, false⟩]
def xK : Lk := ⟨3, 3, 4, 4, ⟨#[104, 116, 116, 112, 58, 47, 47, 97, 46, 98, 47, 99]⟩⟩
theorem kk_of : ofE knK 3 = 0 := by kernel_rfl
theorem kk_all : (allK knK 3).take 10000 = [xK] := by kernel_rfl
theorem kk_1 : atP ((allK knK 3).take 10000) (foB knK 3 4 0) 4 0 = (xK, 0) := by kernel_rfl
theorem kk_2 : atP ((allK knK 3).take 10000) (foB knK 3 3 2) 3 2 = (zeroLk, 9) := by kernel_rfl
theorem kk_3 : atP ((allK knK 3).take 10000) (foB knK 3 5 0) 5 0 = (zeroLk, 3) := by kernel_rfl
theorem kk_f1 : findS (⟨#[115, 101, 101, 32, 104, 116, 116, 112, 58, 47, 47, 97, 46, 98, 47, 99, 44, 32, 40, 104, 116, 116, 112, 115, 58, 47, 47, 120, 46, 121, 47, 40, 122, 41, 41, 32, 111, 114, 32, 102, 116, 112, 58, 47, 47, 113, 46]⟩ : ByteArray).data.toList = [⟨#[104, 116, 116, 112, 58, 47, 47, 97, 46, 98, 47, 99]⟩, ⟨#[104, 116, 116, 112, 115, 58, 47, 47, 120, 46, 121, 47, 40, 122, 41]⟩, ⟨#[102, 116, 112, 58, 47, 47, 113]⟩] := by kernel_rfl
theorem kk_f2 : findS (⟨#[120, 104, 116, 116, 112, 58, 47, 47, 97, 32, 104, 116, 116, 112, 58, 47, 47, 32, 102, 105, 108, 101, 58, 47, 47, 47, 116, 109, 112, 47, 195, 169, 33, 32, 72, 116, 116, 112, 58, 47, 47, 98]⟩ : ByteArray).data.toList = [⟨#[102, 105, 108, 101, 58, 47, 47, 47, 116, 109, 112, 47, 195, 169]⟩] := by kernel_rfl
theorem s_rel (F : Nat → Prop) (W : World) (x : ByteArray) : sEl.rel F W [.string x] x := rfl
theorem lk_rel (F : Nat → Prop) (W : World) (m : Lk) : lkEl.rel F W [.int .i64 m.l0, .int .i64 m.c0, .int .i64 m.l1, .int .i64 m.c1, .string m.a] m := rfl
/-- What known has made. -/
structure KnK (w : World) (g q : Nat) (W : World) : Prop where
  l : lnEl.Rd (fun b => b < W.heap.size) W (.slice (some ⟨g, 0, none⟩) 2 2) knK
  one : LkAt W q xK
  s : Sees w W
theorem KnK.sees {w W W' : World} {g q : Nat} (h : KnK w g q W) (hs : Sees W W') : KnK w g q W' := ⟨rd_up h.l hs, h.one.sees hs, h.s.trans hs⟩
theorem KnK.c {w W : World} {g q : Nat} (h : KnK w g q W) : W.cell? ⟨q, 0, none⟩ = some (.int .i64 3) ∧ W.cell? ⟨q, 1, none⟩ = some (.int .i64 3) ∧ W.cell? ⟨q, 2, none⟩ = some (.int .i64 4) ∧ W.cell? ⟨q, 3, none⟩ = some (.int .i64 4) ∧ W.cell? ⟨q, 4, none⟩ = some (.string ⟨#[104, 116, 116, 112, 58, 47, 47, 97, 46, 98, 47, 99]⟩) := h.one.c
set_option maxHeartbeats 8000000 in
set_option maxRecDepth 100000 in
theorem lknown_any (w : World) (hst : Std w) (ht : Tabs w) : Calls Tryd.prog 23 #[] w fun e w' => e = .returned (.bool true) ∧ Sees w w' := by
  have HST := Lib.hid hst
  have HT := Lib.hid ht
  have KR := Lib.hid (fun s m hs hm W => lrow_any s m hs hm W)
  have KP := Lib.hid (fun l c W => lat_any l c W)
  clear hst ht
  go_enter Tryd.func23, Tryd.ntmps23
  go_wp2_with fail
  refine calls_world fun W1 hW => ?_
  have h1 : sEl.Rd (fun _ => True) W1 (.slice (some ⟨w.heap.size, 0, none⟩) 3 3) (findS (⟨#[115, 101, 101, 32, 104, 116, 116, 112, 58, 47, 47, 97, 46, 98, 47, 99, 44, 32, 40, 104, 116, 116, 112, 115, 58, 47, 47, 120, 46, 121, 47, 40, 122, 41, 41, 32, 111, 114, 32, 102, 116, 112, 58, 47, 47, 113, 46]⟩ : ByteArray).data.toList) := by
    rw [kk_f1]
    subst hW
    exact rd_block (E := sEl) (heap_alloc_new w _) ((relIn_one (E := sEl) (s_rel _ _ ⟨#[104, 116, 116, 112, 58, 47, 47, 97, 46, 98, 47, 99]⟩)).append ((relIn_one (E := sEl) (s_rel _ _ ⟨#[104, 116, 116, 112, 115, 58, 47, 47, 120, 46, 121, 47, 40, 122, 41]⟩)).append (relIn_one (E := sEl) (s_rel _ _ ⟨#[102, 116, 112, 58, 47, 47, 113]⟩)))) trivial rfl
  have s1 : Sees w W1 := by subst hW; exact (Sees.refl w).alloc _
  refine (finds_true _ (by decide) _ _ _ h1).mono ?_
  rintro e W2 ⟨rfl, s2⟩
  have HS0 := Lib.hid (s1.trans s2)
  clear s1 s2 h1 hW 
  go_wp2_with fail
  refine calls_world fun W3 hW => ?_
  have h1 : sEl.Rd (fun _ => True) W3 (.slice (some ⟨W2.heap.size, 0, none⟩) 1 1) (findS (⟨#[120, 104, 116, 116, 112, 58, 47, 47, 97, 32, 104, 116, 116, 112, 58, 47, 47, 32, 102, 105, 108, 101, 58, 47, 47, 47, 116, 109, 112, 47, 195, 169, 33, 32, 72, 116, 116, 112, 58, 47, 47, 98]⟩ : ByteArray).data.toList) := by
    rw [kk_f2]
    subst hW
    exact rd_block (E := sEl) (heap_alloc_new W2 _) (relIn_one (E := sEl) (s_rel _ _ ⟨#[102, 105, 108, 101, 58, 47, 47, 47, 116, 109, 112, 47, 195, 169]⟩)) trivial rfl
  have s1 : Sees w W3 := by subst hW; exact HS0.out.alloc _
  refine (finds_true _ (by decide) _ _ _ h1).mono ?_
  rintro e W4 ⟨rfl, s2⟩
  have HS1 := Lib.hid (s1.trans s2)
  clear s1 s2 h1 hW HS0
  go_wp2_with fail
  refine (KR.out _ 10 (by decide) (by decide) _).mono ?_
  rintro e W5 ⟨v5, rfl, ho5, s5⟩
  have HR5 := Lib.hid ho5.rd
  have HS5 := Lib.hid (HS1.out.trans s5)
  clear ho5 s5 HS1
  obtain ⟨a5, c5, rfl, _⟩ := HR5.out.slice'
  go_wp2_with fail
  refine (KR.out _ 10 (by decide) (by decide) _).mono ?_
  rintro e W6 ⟨v6, rfl, ho6, s6⟩
  have HR6 := Lib.hid ho6.rd
  have HS6 := Lib.hid s6
  clear ho6 s6
  obtain ⟨a6, c6, rfl, _⟩ := HR6.out.slice'
  go_upto_region 4 with fail
  refine wp_world fun W7 hW7 => ?_
  have h7 : lnEl.Rd (fun b => b < W7.heap.size) W7 (.slice (some ⟨W6.heap.size, 0, none⟩) 2 2) knK := by
    have hs : Sees W6 W7 := by subst hW7; exact (Sees.refl W6).alloc _
    have r1 := (HR5.out.sees (HS6.out.trans hs)).mono (G := fun b => b < W7.heap.size) (fun b hb _ => hb)
    have r2 := (HR6.out.sees hs).mono (G := fun b => b < W7.heap.size) (fun b hb _ => hb)
    subst hW7
    exact rd_block (E := lnEl) (heap_alloc_new W6 _) ((relIn_one (E := lnEl) (ln_rel r1 true)).append (relIn_one (E := lnEl) (ln_rel r2 false))) (by simp) rfl
  have HS7 : Hid (Sees w W7) := by subst hW7; exact ((HS5.out.trans HS6.out).alloc _)
  have HL7 := Lib.hid h7
  clear h7 hW7 HR5 HR6 HS5 HS6
  generalize W6.heap.size = g at *
  go_wp2_with fail
  refine (KP.out _ _ _).mono ?_
  rintro e W8 ⟨rfl, s8⟩
  go_wp2_with fail
  refine (KP.out _ _ _).mono ?_
  rintro e W9 ⟨rfl, s9⟩
  go_upto_region 5 with fail
  refine wp_world fun W10 hW10 => ?_
  have h10 : KnK w g W9.heap.size W10 := by
    have hs : Sees W9 W10 := by subst hW10; exact (Sees.refl W9).alloc _
    refine ⟨rd_up HL7.out ((s8.trans s9).trans hs), ?_, HS7.out.trans ((s8.trans s9).trans hs)⟩
    subst hW10
    have q : LkAt _ _ xK := heap_alloc_new W9 _
    exact q
  have H10 := Lib.hid h10
  clear h10 hW10 s8 s9 HL7 HS7
  generalize W9.heap.size = q at *
  refine wpH_go (fun _ => False) 23 (by kernel_rfl) (by kernel_rfl) (by rfl) (fun hB w11 hs11 => ?_)
  have H11 := Lib.hid (H10.out.sees hs11)
  clear hs11 H10
  have hS0 : Keeps (fun _ => False) w11 w11 := Keeps.refl _ w11
  refine wpH_take (i := 0) (v := .slice (some ⟨g, 0, none⟩) 2 2) hB (by rfl) (by kernel_rfl) (fun _ _ _ _ _ h => h) (by rfl) hS0 (fun W hI => by clear hI; go_simp) ?_; (try simp only [Act.put, List.setIfInBounds_toArray, List.set_cons_zero, List.set_cons_succ])
  refine wpH_take (i := 1) (v := .agg #[.int .i64 3, .int .i64 3, .int .i64 4, .int .i64 4, .string ⟨#[104, 116, 116, 112, 58, 47, 47, 97, 46, 98, 47, 99]⟩]) hB (by rfl) (by kernel_rfl) (fun _ _ _ _ _ h => h) (by rfl) hS0 (fun W hI => by obtain ⟨q0, q1, q2, q3, q4⟩ := (KnK.c ⟨H11.out.l.sees (Sees.refl _), H11.out.one, H11.out.s⟩); have c0 := hI.cell (fun h => h) q0; have c1 := hI.cell (fun h => h) q1; have c2 := hI.cell (fun h => h) q2; have c3 := hI.cell (fun h => h) q3; have c4 := hI.cell (fun h => h) q4; go_simp) ?_; (try simp only [Act.put, List.setIfInBounds_toArray, List.set_cons_zero, List.set_cons_succ])
  refine wpH_one (i := 2) (by kernel_rfl) (wpOp_val (v := .slice (some ⟨w11.heap.size, 0, none⟩) 1 1) (w' := w11.alloc (.cells #[.int .i64 3, .int .i64 3, .int .i64 4, .int .i64 4, .string ⟨#[104, 116, 116, 112, 58, 47, 47, 97, 46, 98, 47, 99]⟩] 67)) (by rfl) (wanted_none (by rfl) _) (by go_simp) ⟨hS0.trans (Keeps.of_sees ((Sees.refl _).alloc _)), ?_⟩)
  (try simp only [Act.put, List.setIfInBounds_toArray, List.set_cons_zero, List.set_cons_succ])
  have hS1 : Keeps (fun _ => False) w11 (w11.alloc (.cells #[.int .i64 3, .int .i64 3, .int .i64 4, .int .i64 4, .string ⟨#[104, 116, 116, 112, 58, 47, 47, 97, 46, 98, 47, 99]⟩] 67)) := hS0.trans (Keeps.of_sees ((Sees.refl _).alloc _))
  have r12 : lkEl.Rd (fun b => b < (w11.alloc (.cells #[.int .i64 3, .int .i64 3, .int .i64 4, .int .i64 4, .string ⟨#[104, 116, 116, 112, 58, 47, 47, 97, 46, 98, 47, 99]⟩] 67)).heap.size) (w11.alloc (.cells #[.int .i64 3, .int .i64 3, .int .i64 4, .int .i64 4, .string ⟨#[104, 116, 116, 112, 58, 47, 47, 97, 46, 98, 47, 99]⟩] 67)) (.slice (some ⟨w11.heap.size, 0, none⟩) 1 1) [xK] :=
    rd_block (E := lkEl) (heap_alloc_new w11 _) (relIn_one (E := lkEl) (lk_rel _ _ xK)) (by simp) rfl
  have H12 := Lib.hid (H11.out.sees ((Sees.refl w11).alloc (.cells #[.int .i64 3, .int .i64 3, .int .i64 4, .int .i64 4, .string ⟨#[104, 116, 116, 112, 58, 47, 47, 97, 46, 98, 47, 99]⟩] 67)))
  have R12 := Lib.hid r12
  clear r12 hS0
  have hS0 := hS1
  clear hS1
  generalize w11.alloc (.cells #[.int .i64 3, .int .i64 3, .int .i64 4, .int .i64 4, .string ⟨#[104, 116, 116, 112, 58, 47, 47, 97, 46, 98, 47, 99]⟩] 67) = w12 at *
  have KAL : Hid (Calls Tryd.prog 35 #[.slice (some ⟨g, 0, none⟩) 2 2, .int .i64 3] w12 fun e w' => ∃ v', e = .returned (.tuple #[v', .int .i64 0]) ∧ lkEl.Rd (fun _ => True) w' v' [xK] ∧ Sees w12 w') := by
    refine (lall_ok (HST.out.sees H12.out.s) (HT.out.sees H12.out.s) H12.out.l kk_of).mono ?_
    rintro e w' ⟨v, rfl, ho, hs⟩
    rw [kk_all] at ho
    exact ⟨v, rfl, ho.rd.mono (fun b _ _ => trivial), hs⟩
  refine wpH_one (i := 3) (by kernel_rfl) (wpOp_enter (fn := 30) (args := #[.slice (some ⟨g, 0, none⟩) 2 2, .int .i64 3, .slice (some ⟨w11.heap.size, 0, none⟩) 1 1, .int .i64 0]) (by rfl) (by rfl) (by go_simp) ((alls_true _ _ 3 0 [xK] _ w12 R12.out (by decide) KAL.out).mono ?_))
  rintro e w13 ⟨rfl, hs⟩
  have hS1 := hS0.trans (Keeps.of_sees hs)
  refine ⟨_, rfl, hS1, ?_⟩
  (try simp only [Act.put, List.setIfInBounds_toArray, List.set_cons_zero, List.set_cons_succ])
  have H13 := Lib.hid (H12.out.sees hs)
  clear hs hS0 R12 H12 KAL
  have hS0 := hS1
  clear hS1
  refine wpH_take (i := 4) (v := .bool true) hB (by rfl) (by kernel_rfl) (fun _ _ _ _ _ h => h) (by rfl) hS0 (fun W hI => by clear hI; go_simp) ?_; (try simp only [Act.put, List.setIfInBounds_toArray, List.set_cons_zero, List.set_cons_succ])
  refine wpH_takeG (i := 5) (v := .slice (some ⟨g, 0, none⟩) 2 2) hB (by rfl) (by kernel_rfl) (fun _ _ _ _ _ h => h) (by go_simp) hS0 (fun W hI => by clear hI; go_simp) ?_; (try simp only [Act.put, List.setIfInBounds_toArray, List.set_cons_zero, List.set_cons_succ])
  refine wpH_takeG (i := 7) (v := .agg #[.int .i64 3, .int .i64 3, .int .i64 4, .int .i64 4, .string ⟨#[104, 116, 116, 112, 58, 47, 47, 97, 46, 98, 47, 99]⟩]) hB (by rfl) (by kernel_rfl) (fun _ _ _ _ _ h => h) (by go_simp) hS0 (fun W hI => by obtain ⟨q0, q1, q2, q3, q4⟩ := (KnK.c ⟨H11.out.l.sees (Sees.refl _), H11.out.one, H11.out.s⟩); have c0 := hI.cell (fun h => h) q0; have c1 := hI.cell (fun h => h) q1; have c2 := hI.cell (fun h => h) q2; have c3 := hI.cell (fun h => h) q3; have c4 := hI.cell (fun h => h) q4; go_simp) ?_; (try simp only [Act.put, List.setIfInBounds_toArray, List.set_cons_zero, List.set_cons_succ])
  refine wpH_one (i := 6) (by kernel_rfl) (wpOp_enterG (fn := 33) (args := #[.int .i64 4, .int .i64 0]) (by rfl) (by go_simp) (by go_simp) ((KP.out 4 0 w13).mono ?_))
  rintro e w14 ⟨rfl, hs⟩
  have hS1 := hS0.trans (Keeps.of_sees hs)
  refine ⟨_, rfl, hS1, ?_⟩
  (try simp only [Act.put, List.setIfInBounds_toArray, List.set_cons_zero, List.set_cons_succ])
  have H14 := Lib.hid (H13.out.sees hs)
  clear hs hS0
  have hS0 := hS1
  clear hS1
  have KAT : Hid (∀ W, Sees w14 W → Calls Tryd.prog 82 #[.slice (some ⟨g, 0, none⟩) 2 2, .int .i64 3, .agg #[.int .i64 4, .int .i64 0]] W fun e w' => e = .returned (.tuple #[xK.val, .int .i64 0]) ∧ Sees W w') := fun W hs => lat_ok (HST.out.sees (H14.out.s.trans hs)) (HT.out.sees (H14.out.s.trans hs)) (H14.out.sees hs).l kk_of 4 0 _ _ kk_1
  refine wpH_one (i := 8) (by kernel_rfl) (wpOp_enterG (fn := 31) (args := #[.slice (some ⟨g, 0, none⟩) 2 2, .int .i64 3, .agg #[.int .i64 4, .int .i64 0], .agg #[.int .i64 3, .int .i64 3, .int .i64 4, .int .i64 4, .string ⟨#[104, 116, 116, 112, 58, 47, 47, 97, 46, 98, 47, 99]⟩], .int .i64 0]) (by rfl) (by go_simp) (by go_simp) ((ats_true _ 3 4 0 xK 0 w14 KAT.out).mono ?_))
  rintro e w15 ⟨rfl, hs⟩
  have hS1 := hS0.trans (Keeps.of_sees hs)
  refine ⟨_, rfl, hS1, ?_⟩
  (try simp only [Act.put, List.setIfInBounds_toArray, List.set_cons_zero, List.set_cons_succ])
  have H15 := Lib.hid (H14.out.sees hs)
  clear hs hS0 KAT
  have hS0 := hS1
  clear hS1
  refine wpH_take (i := 9) (v := .bool true) hB (by rfl) (by kernel_rfl) (fun _ _ _ _ _ h => h) (by rfl) hS0 (fun W hI => by clear hI; go_simp) ?_; (try simp only [Act.put, List.setIfInBounds_toArray, List.set_cons_zero, List.set_cons_succ])
  refine wpH_take (i := 10) (v := .bool true) hB (by rfl) (by kernel_rfl) (fun _ _ _ _ _ h => h) (by rfl) hS0 (fun W hI => by clear hI; go_simp) ?_; (try simp only [Act.put, List.setIfInBounds_toArray, List.set_cons_zero, List.set_cons_succ])
  refine wpH_takeG (i := 11) (v := .slice (some ⟨g, 0, none⟩) 2 2) hB (by rfl) (by kernel_rfl) (fun _ _ _ _ _ h => h) (by go_simp) hS0 (fun W hI => by clear hI; go_simp) ?_; (try simp only [Act.put, List.setIfInBounds_toArray, List.set_cons_zero, List.set_cons_succ])
  refine wpH_takeG (i := 13) (v := .agg #[.int .i64 0, .int .i64 0, .int .i64 0, .int .i64 0, .string ⟨#[]⟩]) hB (by rfl) (by kernel_rfl) (fun _ _ _ _ _ h => h) (by go_simp) hS0 (fun W hI => by clear hI; go_simp) ?_; (try simp only [Act.put, List.setIfInBounds_toArray, List.set_cons_zero, List.set_cons_succ])
  refine wpH_one (i := 12) (by kernel_rfl) (wpOp_enterG (fn := 33) (args := #[.int .i64 3, .int .i64 2]) (by rfl) (by go_simp) (by go_simp) ((KP.out 3 2 w15).mono ?_))
  rintro e w16 ⟨rfl, hs⟩
  have hS1 := hS0.trans (Keeps.of_sees hs)
  refine ⟨_, rfl, hS1, ?_⟩
  (try simp only [Act.put, List.setIfInBounds_toArray, List.set_cons_zero, List.set_cons_succ])
  have H16 := Lib.hid (H15.out.sees hs)
  clear hs hS0
  have hS0 := hS1
  clear hS1
  have KAT : Hid (∀ W, Sees w16 W → Calls Tryd.prog 82 #[.slice (some ⟨g, 0, none⟩) 2 2, .int .i64 3, .agg #[.int .i64 3, .int .i64 2]] W fun e w' => e = .returned (.tuple #[zeroLk.val, .int .i64 9]) ∧ Sees W w') := fun W hs => lat_ok (HST.out.sees (H16.out.s.trans hs)) (HT.out.sees (H16.out.s.trans hs)) (H16.out.sees hs).l kk_of 3 2 _ _ kk_2
  refine wpH_one (i := 14) (by kernel_rfl) (wpOp_enterG (fn := 31) (args := #[.slice (some ⟨g, 0, none⟩) 2 2, .int .i64 3, .agg #[.int .i64 3, .int .i64 2], .agg #[.int .i64 0, .int .i64 0, .int .i64 0, .int .i64 0, .string ⟨#[]⟩], .int .i64 9]) (by rfl) (by go_simp) (by go_simp) ((ats_true _ 3 3 2 zeroLk 9 w16 KAT.out).mono ?_))
  rintro e w17 ⟨rfl, hs⟩
  have hS1 := hS0.trans (Keeps.of_sees hs)
  refine ⟨_, rfl, hS1, ?_⟩
  (try simp only [Act.put, List.setIfInBounds_toArray, List.set_cons_zero, List.set_cons_succ])
  have H17 := Lib.hid (H16.out.sees hs)
  clear hs hS0 KAT
  have hS0 := hS1
  clear hS1
  refine wpH_take (i := 15) (v := .bool true) hB (by rfl) (by kernel_rfl) (fun _ _ _ _ _ h => h) (by rfl) hS0 (fun W hI => by clear hI; go_simp) ?_; (try simp only [Act.put, List.setIfInBounds_toArray, List.set_cons_zero, List.set_cons_succ])
  refine wpH_take (i := 16) (v := .bool true) hB (by rfl) (by kernel_rfl) (fun _ _ _ _ _ h => h) (by rfl) hS0 (fun W hI => by clear hI; go_simp) ?_; (try simp only [Act.put, List.setIfInBounds_toArray, List.set_cons_zero, List.set_cons_succ])
  refine wpH_takeG (i := 17) (v := .slice (some ⟨g, 0, none⟩) 2 2) hB (by rfl) (by kernel_rfl) (fun _ _ _ _ _ h => h) (by go_simp) hS0 (fun W hI => by clear hI; go_simp) ?_; (try simp only [Act.put, List.setIfInBounds_toArray, List.set_cons_zero, List.set_cons_succ])
  refine wpH_takeG (i := 19) (v := .agg #[.int .i64 0, .int .i64 0, .int .i64 0, .int .i64 0, .string ⟨#[]⟩]) hB (by rfl) (by kernel_rfl) (fun _ _ _ _ _ h => h) (by go_simp) hS0 (fun W hI => by clear hI; go_simp) ?_; (try simp only [Act.put, List.setIfInBounds_toArray, List.set_cons_zero, List.set_cons_succ])
  refine wpH_one (i := 18) (by kernel_rfl) (wpOp_enterG (fn := 33) (args := #[.int .i64 5, .int .i64 0]) (by rfl) (by go_simp) (by go_simp) ((KP.out 5 0 w17).mono ?_))
  rintro e w18 ⟨rfl, hs⟩
  have hS1 := hS0.trans (Keeps.of_sees hs)
  refine ⟨_, rfl, hS1, ?_⟩
  (try simp only [Act.put, List.setIfInBounds_toArray, List.set_cons_zero, List.set_cons_succ])
  have H18 := Lib.hid (H17.out.sees hs)
  clear hs hS0
  have hS0 := hS1
  clear hS1
  have KAT : Hid (∀ W, Sees w18 W → Calls Tryd.prog 82 #[.slice (some ⟨g, 0, none⟩) 2 2, .int .i64 3, .agg #[.int .i64 5, .int .i64 0]] W fun e w' => e = .returned (.tuple #[zeroLk.val, .int .i64 3]) ∧ Sees W w') := fun W hs => lat_ok (HST.out.sees (H18.out.s.trans hs)) (HT.out.sees (H18.out.s.trans hs)) (H18.out.sees hs).l kk_of 5 0 _ _ kk_3
  refine wpH_one (i := 20) (by kernel_rfl) (wpOp_enterG (fn := 31) (args := #[.slice (some ⟨g, 0, none⟩) 2 2, .int .i64 3, .agg #[.int .i64 5, .int .i64 0], .agg #[.int .i64 0, .int .i64 0, .int .i64 0, .int .i64 0, .string ⟨#[]⟩], .int .i64 3]) (by rfl) (by go_simp) (by go_simp) ((ats_true _ 3 5 0 zeroLk 3 w18 KAT.out).mono ?_))
  rintro e w19 ⟨rfl, hs⟩
  have hS1 := hS0.trans (Keeps.of_sees hs)
  refine ⟨_, rfl, hS1, ?_⟩
  (try simp only [Act.put, List.setIfInBounds_toArray, List.set_cons_zero, List.set_cons_succ])
  have H19 := Lib.hid (H18.out.sees hs)
  clear hs hS0 KAT
  have hS0 := hS1
  clear hS1
  refine wpH_take (i := 21) (v := .bool true) hB (by rfl) (by kernel_rfl) (fun _ _ _ _ _ h => h) (by rfl) hS0 (fun W hI => by clear hI; go_simp) ?_; (try simp only [Act.put, List.setIfInBounds_toArray, List.set_cons_zero, List.set_cons_succ])
  refine wpH_take (i := 22) (v := .bool true) hB (by rfl) (by kernel_rfl) (fun _ _ _ _ _ h => h) (by rfl) hS0 (fun W hI => by clear hI; go_simp) ?_; (try simp only [Act.put, List.setIfInBounds_toArray, List.set_cons_zero, List.set_cons_succ])
  refine wpH_end (by kernel_rfl) ?_
  clear hS0 hB
  go_wp2
  go_ret
  exact ⟨rfl, H19.out.s⟩
end Go.Proofs.YtfdolhppbimbmaaDoor
