/- known (42). The tables hold what the program's text lays. -/
import Derived.Test.YtfdolhppbimbmaaDoorSrS
import Derived.Test.YtfdolhppbimbmaaDoorSeqH
namespace Go.Proofs.YtfdolhppbimbmaaDoor
set_option linter.unusedVariables false
set_option linter.unusedSimpArgs false
open Go.RowKit Go.Shelf
attribute [local go_sem] Oper.semAt_some

theorem cell_row {W : World} {g i : Nat} {cs : Array Value} {t : TypeId} {u : Value} (hg : W.heap[g]? = some (.cells cs t (0, 0))) (hu : cs.toList[i]? = some u) : W.cell? ⟨g, i, none⟩ = some u := by
  rw [cell_of_row _ _ _ _ _ _ hg]; simpa using hu
theorem rd_block {α : Type} {E : El α} {F : Nat → Prop} {W : World} {g : Nat} {cs : Array Value} {t : TypeId} {xs : List α} (hg : W.heap[g]? = some (.cells cs t (0, 0))) (hr : E.relIn F W cs.toList xs) (hF : F g) {n : Nat} (hn : n = xs.length) : E.Rd F W (.slice (some ⟨g, 0, none⟩) n n) xs := by
  subst hn
  refine ⟨_, _, rfl, Nat.le_refl _, fun _ => ⟨g, 0, rfl, hF, fun i x hx => ⟨_, hr.2 i x hx, fun j u hu => ?_⟩⟩⟩
  rw [List.getElem?_take] at hu
  split at hu
  · rw [List.getElem?_drop] at hu
    rw [Nat.zero_add]
    exact cell_row hg hu
  · cases hu
theorem relIn_one {α : Type} {E : El α} {F : Nat → Prop} {W : World} {vs : List Value} {x : α} (h : E.rel F W vs x) : E.relIn F W vs [x] := by
  have hl := E.len h
  refine ⟨by rw [hl]; simp, fun i y hy => ?_⟩
  cases i with
  | zero =>
    cases hy
    rw [Nat.zero_mul, List.drop_zero, List.take_of_length_le (by omega)]
    exact h
  | succ i => cases hy
theorem ln_rel {F : Nat → Prop} {W : World} {v : Value} {cs : List Cell} (h : cellEl.Rd F W v cs) (b : Bool) : lnEl.rel F W [v, .bool b] ⟨cs, b⟩ := ⟨v, rfl, h⟩
theorem mt_rel (F : Nat → Prop) (W : World) (m : Mt) : mtEl.rel F W [.int .i64 m.l0, .int .i64 m.c0, .int .i64 m.l1, .int .i64 m.c1] m := rfl
def knC : List Cell := [⟨97, 0, 0, 0, 1, 0, 0, 0, 0, 0, 0, 0, 0, 0, 0, 0⟩, ⟨28450, 0, 0, 0, 2, 0, 0, 0, 0, 0, 0, 0, 0, 0, 0, 0⟩, ⟨0, 0, 0, 0, 0, 0, 0, 0, 0, 0, 0, 0, 0, 0, 0, 0⟩, ⟨98, 0, 0, 0, 1, 0, 0, 0, 0, 0, 0, 0, 0, 0, 0, 0⟩]
/-- What known has made. -/
structure KnI (w : World) (g q : Nat) (W : World) : Prop where
  l : lnEl.Rd (fun b => b < W.heap.size) W (.slice (some ⟨g, 0, none⟩) 3 3) knL
  one : MtAt W q ⟨5, 0, 5, 1⟩
  two : MtAt W (q + 1) ⟨7, 0, 7, 1⟩
  s : Sees w W
theorem KnI.sees {w W W' : World} {g q : Nat} (h : KnI w g q W) (hs : Sees W W') : KnI w g q W' := ⟨rd_up h.l hs, h.one.sees hs, h.two.sees hs, h.s.trans hs⟩
set_option maxHeartbeats 8000000 in
set_option maxRecDepth 100000 in
theorem known_any (w : World) (hst : Std w) (ht : Tabs w) : Calls Tryd.prog 16 #[] w fun e w' => e = .returned (.bool true) ∧ Sees w w' := by
  have HST := Lib.hid hst
  have HT := Lib.hid ht
  have KR := Lib.hid (fun s hs W => chRow_any s hs W)
  have KM : Hid (∀ a b c d W, Calls Tryd.prog 71 #[.int .i64 a, .int .i64 b, .int .i64 c, .int .i64 d] W fun e w' => e = .returned (.agg #[.int .i64 a, .int .i64 b, .int .i64 c, .int .i64 d]) ∧ Sees W w') := fun a b c d W => match_any a b c d W
  have KP := Lib.hid (fun l c W => at_any l c W)
  clear hst ht
  go_enter Tryd.func16, Tryd.ntmps16
  go_wp2_with fail
  refine (KR.out _ (by decide) _).mono ?_
  rintro e W1 ⟨v1, rfl, ho1, s1⟩
  obtain ⟨a1, c1, rfl, _⟩ := ho1.slice
  have HR1 := Lib.hid ho1.rd
  have HS1 := Lib.hid s1
  clear ho1 s1
  go_wp2_with fail
  refine calls_world fun W2 hW2 => ?_
  have h2 : cellEl.Rd (fun _ => True) W2 (.slice (some ⟨W1.heap.size, 0, none⟩) 4 4) knC := by
    subst hW2
    exact rd_block (E := cellEl) (heap_alloc_new W1 _) ((relIn_one (E := cellEl) (x := ⟨97, 0, 0, 0, 1, 0, 0, 0, 0, 0, 0, 0, 0, 0, 0, 0⟩) rfl).append ((relIn_one (E := cellEl) (x := ⟨28450, 0, 0, 0, 2, 0, 0, 0, 0, 0, 0, 0, 0, 0, 0, 0⟩) rfl).append ((relIn_one (E := cellEl) (x := ⟨0, 0, 0, 0, 0, 0, 0, 0, 0, 0, 0, 0, 0, 0, 0, 0⟩) rfl).append (relIn_one (E := cellEl) (x := ⟨98, 0, 0, 0, 1, 0, 0, 0, 0, 0, 0, 0, 0, 0, 0, 0⟩) rfl)))) trivial rfl
  have HR2 := Lib.hid h2
  have HS2 : Hid (Sees W1 W2) := by subst hW2; exact (Sees.refl W1).alloc _
  clear hW2 h2
  refine (KR.out _ (by decide) _).mono ?_
  rintro e W3 ⟨v3, rfl, ho3, s3⟩
  obtain ⟨a3, c3, rfl, _⟩ := ho3.slice
  have HR3 := Lib.hid ho3.rd
  have HS3 := Lib.hid s3
  clear ho3 s3
  go_upto_region 2 with fail
  refine wp_world fun W4 hW4 => ?_
  have h4 : lnEl.Rd (fun b => b < W4.heap.size) W4 (.slice (some ⟨W3.heap.size, 0, none⟩) 3 3) knL := by
    have hs : Sees W3 W4 := by subst hW4; exact (Sees.refl W3).alloc _
    have r1 : cellEl.Rd (fun b => b < W4.heap.size) W4 (.slice a1 4 c1) (chL ⟨#[97, 98, 65, 66]⟩) := (HR1.out.sees ((HS2.out.trans HS3.out).trans hs)).mono (fun b hb _ => hb)
    have r2 : cellEl.Rd (fun b => b < W4.heap.size) W4 (.slice (some ⟨W1.heap.size, 0, none⟩) 4 4) knC := (HR2.out.sees (HS3.out.trans hs)).mono (fun b hb _ => hb)
    have r3 : cellEl.Rd (fun b => b < W4.heap.size) W4 (.slice a3 4 c3) (chL ⟨#[97, 98, 32, 98]⟩) := (HR3.out.sees hs).mono (fun b hb _ => hb)
    subst hW4
    exact rd_block (E := lnEl) (heap_alloc_new W3 _) ((relIn_one (E := lnEl) (ln_rel r1 true)).append ((relIn_one (E := lnEl) (ln_rel r2 false)).append (relIn_one (E := lnEl) (ln_rel r3 false)))) (by simp) rfl
  have HS4 : Hid (Sees w W4) := by subst hW4; exact (((HS1.out.trans HS2.out).trans HS3.out).alloc _)
  have HL4 := Lib.hid h4
  clear h4 hW4 HR1 HR2 HR3 HS1 HS2 HS3
  generalize W3.heap.size = g at *
  go_wp2_with fail
  refine (KM.out _ _ _ _ _).mono ?_
  rintro e W5 ⟨rfl, s5⟩
  go_wp2_with fail
  refine (KM.out _ _ _ _ _).mono ?_
  rintro e W6 ⟨rfl, s6⟩
  go_upto_region 3 with fail
  refine wp_world fun W7 hW7 => ?_
  have h7 : KnI w g W6.heap.size W7 := by
    have hs : Sees W6 W7 := by subst hW7; exact ((Sees.refl W6).alloc _).alloc _
    refine ⟨rd_up HL4.out ((s5.trans s6).trans hs), ?_, ?_, HS4.out.trans ((s5.trans s6).trans hs)⟩
    · subst hW7
      have q : MtAt _ _ ⟨5, 0, 5, 1⟩ := heap_alloc_new W6 _
      exact q.sees ((Sees.refl _).alloc _)
    · subst hW7
      have q := heap_alloc_new (W6.alloc (.cells #[.int .i64 5, .int .i64 0, .int .i64 5, .int .i64 1] 33)) (.cells #[.int .i64 7, .int .i64 0, .int .i64 7, .int .i64 1] 33)
      rw [World.size_alloc] at q
      exact q
  have H7 := Lib.hid h7
  clear h7 hW7 s5 s6 HL4 HS4
  generalize W6.heap.size = q at *
  go_wp2_with fail
  refine (count_ok (HST.out.sees H7.out.s) (HT.out.sees H7.out.s) H7.out.l true kn_b 5 kn_bn (by decide)).mono ?_
  rintro e W8 ⟨rfl, s8⟩
  have H8 := Lib.hid (H7.out.sees s8)
  clear s8 H7
  go_upto_region 4 with fail
  have s8 : Sees W8 W8 := Sees.refl W8
  refine wpH_go (fun _ => False) 23 (by kernel_rfl) (by kernel_rfl) (by rfl) (fun hB w9 hs9 => ?_)
  have H9 := Lib.hid (H8.out.sees hs9)
  clear hs9 H8 s8
  have hS0 : Keeps (fun _ => False) w9 w9 := Keeps.refl _ w9
  refine wpH_take (i := 0) (v := .slice (some ⟨g, 0, none⟩) 3 3) hB (by rfl) (by kernel_rfl) (fun _ _ _ _ _ h => h) (by rfl) hS0 (fun W hI => by clear hI; go_simp) ?_; (try simp only [Act.put, List.setIfInBounds_toArray, List.set_cons_zero, List.set_cons_succ])
  refine wpH_take (i := 1) (v := .agg #[.int .i64 5, .int .i64 0, .int .i64 5, .int .i64 1]) hB (by rfl) (by kernel_rfl) (fun _ _ _ _ _ h => h) (by rfl) hS0 (fun W hI => by obtain ⟨q0, q1, q2, q3⟩ := (H9.out.one.keeps hI (fun h => h)).c; go_simp) ?_; (try simp only [Act.put, List.setIfInBounds_toArray, List.set_cons_zero, List.set_cons_succ])
  refine wpH_take (i := 2) (v := .agg #[.int .i64 7, .int .i64 0, .int .i64 7, .int .i64 1]) hB (by rfl) (by kernel_rfl) (fun _ _ _ _ _ h => h) (by rfl) hS0 (fun W hI => by obtain ⟨q0, q1, q2, q3⟩ := (H9.out.two.keeps hI (fun h => h)).c; go_simp) ?_; (try simp only [Act.put, List.setIfInBounds_toArray, List.set_cons_zero, List.set_cons_succ])
  refine wpH_one (i := 3) (by kernel_rfl) (wpOp_val (v := .slice (some ⟨w9.heap.size, 0, none⟩) 2 2) (w' := w9.alloc (.cells #[.int .i64 5, .int .i64 0, .int .i64 5, .int .i64 1, .int .i64 7, .int .i64 0, .int .i64 7, .int .i64 1] 33)) (by rfl) (wanted_none (by rfl) _) (by go_simp) ⟨hS0.trans (Keeps.of_sees ((Sees.refl _).alloc _)), ?_⟩)
  (try simp only [Act.put, List.setIfInBounds_toArray, List.set_cons_zero, List.set_cons_succ])
  have hS1 : Keeps (fun _ => False) w9 (w9.alloc (.cells #[.int .i64 5, .int .i64 0, .int .i64 5, .int .i64 1, .int .i64 7, .int .i64 0, .int .i64 7, .int .i64 1] 33)) := hS0.trans (Keeps.of_sees ((Sees.refl _).alloc _))
  have r10 : mtEl.Rd (fun b => b < (w9.alloc (.cells #[.int .i64 5, .int .i64 0, .int .i64 5, .int .i64 1, .int .i64 7, .int .i64 0, .int .i64 7, .int .i64 1] 33)).heap.size) (w9.alloc (.cells #[.int .i64 5, .int .i64 0, .int .i64 5, .int .i64 1, .int .i64 7, .int .i64 0, .int .i64 7, .int .i64 1] 33)) (.slice (some ⟨w9.heap.size, 0, none⟩) 2 2) [⟨5, 0, 5, 1⟩, ⟨7, 0, 7, 1⟩] :=
    rd_block (E := mtEl) (heap_alloc_new w9 _) ((relIn_one (E := mtEl) (mt_rel _ _ ⟨5, 0, 5, 1⟩)).append (relIn_one (E := mtEl) (mt_rel _ _ ⟨7, 0, 7, 1⟩))) (by simp) rfl
  have H10 := Lib.hid (H9.out.sees ((Sees.refl w9).alloc (.cells #[.int .i64 5, .int .i64 0, .int .i64 5, .int .i64 1, .int .i64 7, .int .i64 0, .int .i64 7, .int .i64 1] 33)))
  have R10 := Lib.hid r10
  clear r10 hS0
  have hS0 := hS1
  clear hS1
  generalize w9.alloc (.cells #[.int .i64 5, .int .i64 0, .int .i64 5, .int .i64 1, .int .i64 7, .int .i64 0, .int .i64 7, .int .i64 1] 33) = w10 at *
  refine wpH_one (i := 4) (by kernel_rfl) (wpOp_enter (fn := 72) (args := #[.slice (some ⟨g, 0, none⟩) 3 3, .int .i64 5, .string ⟨#[97, 98]⟩, .bool false, .slice (some ⟨w9.heap.size, 0, none⟩) 2 2, .int .i64 0]) (by rfl) (by rfl) (by go_simp) ((alls_ok (HST.out.sees H10.out.s) (HT.out.sees H10.out.s) H10.out.l false kn_ab R10.out kn_ab1 (by decide)).mono ?_))
  rintro e w11 ⟨rfl, hs⟩
  have hS1 := hS0.trans (Keeps.of_sees hs)
  refine ⟨_, rfl, hS1, ?_⟩
  (try simp only [Act.put, List.setIfInBounds_toArray, List.set_cons_zero, List.set_cons_succ])
  have H11 := Lib.hid (H10.out.sees hs)
  clear hs hS0 R10 H10
  have hS0 := hS1
  clear hS1
  refine wpH_take (i := 5) (v := .bool false) hB (by rfl) (by kernel_rfl) (fun _ _ _ _ _ h => h) (by rfl) hS0 (fun W hI => by clear hI; go_simp) ?_; (try simp only [Act.put, List.setIfInBounds_toArray, List.set_cons_zero, List.set_cons_succ])
  refine wpH_take (i := 6) (v := .bool false) hB (by rfl) (by kernel_rfl) (fun _ _ _ _ _ h => h) (by rfl) hS0 (fun W hI => by clear hI; go_simp) ?_; (try simp only [Act.put, List.setIfInBounds_toArray, List.set_cons_zero, List.set_cons_succ])
  refine wpH_takeG (i := 7) (v := .slice (some ⟨g, 0, none⟩) 3 3) hB (by rfl) (by kernel_rfl) (fun _ _ _ _ _ h => h) (by go_simp) hS0 (fun W hI => by clear hI; go_simp) ?_; (try simp only [Act.put, List.setIfInBounds_toArray, List.set_cons_zero, List.set_cons_succ])
  refine wpH_takeG (i := 8) (v := .agg #[.int .i64 5, .int .i64 0, .int .i64 5, .int .i64 1]) hB (by rfl) (by kernel_rfl) (fun _ _ _ _ _ h => h) (by go_simp) hS0 (fun W hI => by obtain ⟨q0, q1, q2, q3⟩ := (H9.out.one.keeps hI (fun h => h)).c; go_simp) ?_; (try simp only [Act.put, List.setIfInBounds_toArray, List.set_cons_zero, List.set_cons_succ])
  refine wpH_takeG (i := 10) (v := .agg #[.int .i64 7, .int .i64 0, .int .i64 7, .int .i64 1]) hB (by rfl) (by kernel_rfl) (fun _ _ _ _ _ h => h) (by go_simp) hS0 (fun W hI => by obtain ⟨q0, q1, q2, q3⟩ := (H9.out.two.keeps hI (fun h => h)).c; go_simp) ?_; (try simp only [Act.put, List.setIfInBounds_toArray, List.set_cons_zero, List.set_cons_succ])
  refine wpH_one (i := 9) (by kernel_rfl) (wpOp_enterG (fn := 71) (args := #[.int .i64 5, .int .i64 2, .int .i64 5, .int .i64 3]) (by rfl) (by go_simp) (by go_simp) ((KM.out 5 2 5 3 w11).mono ?_))
  rintro e w12 ⟨rfl, hs⟩
  have hS1 := hS0.trans (Keeps.of_sees hs)
  refine ⟨_, rfl, hS1, ?_⟩
  (try simp only [Act.put, List.setIfInBounds_toArray, List.set_cons_zero, List.set_cons_succ])
  have H12 := Lib.hid (H11.out.sees hs)
  clear hs hS0 H11
  have hS0 := hS1
  clear hS1
  refine wpH_one (i := 11) (by kernel_rfl) (wpOp_val (v := .slice (some ⟨w12.heap.size, 0, none⟩) 3 3) (w' := w12.alloc (.cells #[.int .i64 5, .int .i64 0, .int .i64 5, .int .i64 1, .int .i64 5, .int .i64 2, .int .i64 5, .int .i64 3, .int .i64 7, .int .i64 0, .int .i64 7, .int .i64 1] 33)) (by rfl) (by go_simp) (by go_simp) ⟨hS0.trans (Keeps.of_sees ((Sees.refl _).alloc _)), ?_⟩)
  (try simp only [Act.put, List.setIfInBounds_toArray, List.set_cons_zero, List.set_cons_succ])
  have hS1 := hS0.trans (Keeps.of_sees (F := fun _ => False) ((Sees.refl w12).alloc (.cells #[.int .i64 5, .int .i64 0, .int .i64 5, .int .i64 1, .int .i64 5, .int .i64 2, .int .i64 5, .int .i64 3, .int .i64 7, .int .i64 0, .int .i64 7, .int .i64 1] 33)))
  have r13 : mtEl.Rd (fun b => b < (w12.alloc (.cells #[.int .i64 5, .int .i64 0, .int .i64 5, .int .i64 1, .int .i64 5, .int .i64 2, .int .i64 5, .int .i64 3, .int .i64 7, .int .i64 0, .int .i64 7, .int .i64 1] 33)).heap.size) (w12.alloc (.cells #[.int .i64 5, .int .i64 0, .int .i64 5, .int .i64 1, .int .i64 5, .int .i64 2, .int .i64 5, .int .i64 3, .int .i64 7, .int .i64 0, .int .i64 7, .int .i64 1] 33)) (.slice (some ⟨w12.heap.size, 0, none⟩) 3 3) [⟨5, 0, 5, 1⟩, ⟨5, 2, 5, 3⟩, ⟨7, 0, 7, 1⟩] :=
    rd_block (E := mtEl) (heap_alloc_new w12 _) ((relIn_one (E := mtEl) (mt_rel _ _ ⟨5, 0, 5, 1⟩)).append ((relIn_one (E := mtEl) (mt_rel _ _ ⟨5, 2, 5, 3⟩)).append (relIn_one (E := mtEl) (mt_rel _ _ ⟨7, 0, 7, 1⟩)))) (by simp) rfl
  have H13 := Lib.hid (H12.out.sees ((Sees.refl w12).alloc (.cells #[.int .i64 5, .int .i64 0, .int .i64 5, .int .i64 1, .int .i64 5, .int .i64 2, .int .i64 5, .int .i64 3, .int .i64 7, .int .i64 0, .int .i64 7, .int .i64 1] 33)))
  have R13 := Lib.hid r13
  clear r13 hS0 H12
  have hS0 := hS1
  clear hS1
  generalize w12.alloc (.cells #[.int .i64 5, .int .i64 0, .int .i64 5, .int .i64 1, .int .i64 5, .int .i64 2, .int .i64 5, .int .i64 3, .int .i64 7, .int .i64 0, .int .i64 7, .int .i64 1] 33) = w13 at *
  refine wpH_one (i := 12) (by kernel_rfl) (wpOp_enterG (fn := 72) (args := #[.slice (some ⟨g, 0, none⟩) 3 3, .int .i64 5, .string ⟨#[97, 98]⟩, .bool true, .slice (some ⟨w12.heap.size, 0, none⟩) 3 3, .int .i64 0]) (by rfl) (by go_simp) (by go_simp) ((alls_ok (HST.out.sees H13.out.s) (HT.out.sees H13.out.s) H13.out.l true kn_ab R13.out kn_ab2 (by decide)).mono ?_))
  rintro e w14 ⟨rfl, hs⟩
  have hS1 := hS0.trans (Keeps.of_sees hs)
  refine ⟨_, rfl, hS1, ?_⟩
  (try simp only [Act.put, List.setIfInBounds_toArray, List.set_cons_zero, List.set_cons_succ])
  have H14 := Lib.hid (H13.out.sees hs)
  clear hs hS0 R13 H13
  have hS0 := hS1
  clear hS1
  refine wpH_takeG (i := 13) (v := .bool false) hB (by rfl) (by kernel_rfl) (fun _ _ _ _ _ h => h) (by go_simp) hS0 (fun W hI => by clear hI; go_simp) ?_; (try simp only [Act.put, List.setIfInBounds_toArray, List.set_cons_zero, List.set_cons_succ])
  refine wpH_take (i := 14) (v := .bool false) hB (by rfl) (by kernel_rfl) (fun _ _ _ _ _ h => h) (by rfl) hS0 (fun W hI => by clear hI; go_simp) ?_; (try simp only [Act.put, List.setIfInBounds_toArray, List.set_cons_zero, List.set_cons_succ])
  refine wpH_take (i := 15) (v := .bool false) hB (by rfl) (by kernel_rfl) (fun _ _ _ _ _ h => h) (by rfl) hS0 (fun W hI => by clear hI; go_simp) ?_; (try simp only [Act.put, List.setIfInBounds_toArray, List.set_cons_zero, List.set_cons_succ])
  refine wpH_takeG (i := 16) (v := .int .i64 5) hB (by rfl) (by kernel_rfl) (fun _ _ _ _ _ h => h) (by go_simp) hS0 (fun W hI => by clear hI; go_simp) ?_; (try simp only [Act.put, List.setIfInBounds_toArray, List.set_cons_zero, List.set_cons_succ])
  refine wpH_takeG (i := 17) (v := .bool false) hB (by rfl) (by kernel_rfl) (fun _ _ _ _ _ h => h) (by go_simp) hS0 (fun W hI => by clear hI; go_simp) ?_; (try simp only [Act.put, List.setIfInBounds_toArray, List.set_cons_zero, List.set_cons_succ])
  refine wpH_take (i := 18) (v := .bool false) hB (by rfl) (by kernel_rfl) (fun _ _ _ _ _ h => h) (by rfl) hS0 (fun W hI => by clear hI; go_simp) ?_; (try simp only [Act.put, List.setIfInBounds_toArray, List.set_cons_zero, List.set_cons_succ])
  refine wpH_take (i := 19) (v := .bool false) hB (by rfl) (by kernel_rfl) (fun _ _ _ _ _ h => h) (by rfl) hS0 (fun W hI => by clear hI; go_simp) ?_; (try simp only [Act.put, List.setIfInBounds_toArray, List.set_cons_zero, List.set_cons_succ])
  refine wpH_takeG (i := 20) (v := .int .i64 0) hB (by rfl) (by kernel_rfl) (fun _ _ _ _ _ h => h) (by go_simp) hS0 (fun W hI => by clear hI; go_simp) ?_; (try simp only [Act.put, List.setIfInBounds_toArray, List.set_cons_zero, List.set_cons_succ])
  refine wpH_takeG (i := 21) (v := .bool false) hB (by rfl) (by kernel_rfl) (fun _ _ _ _ _ h => h) (by go_simp) hS0 (fun W hI => by clear hI; go_simp) ?_; (try simp only [Act.put, List.setIfInBounds_toArray, List.set_cons_zero, List.set_cons_succ])
  refine wpH_take (i := 22) (v := .bool false) hB (by rfl) (by kernel_rfl) (fun _ _ _ _ _ h => h) (by rfl) hS0 (fun W hI => by clear hI; go_simp) ?_; (try simp only [Act.put, List.setIfInBounds_toArray, List.set_cons_zero, List.set_cons_succ])
  refine wpH_end (by kernel_rfl) ?_
  clear hS0 hB H9
  have KA : Hid (∀ (W : World) (a b c d : Int) (p : ByteArray) (k : Nat), KnI w g q W → ckR knL 5 p = 0 → [⟨a, b, c, d⟩] = allM knL 5 p.data.toList false → Calls Tryd.prog 72 #[.slice (some ⟨g, 0, none⟩) 3 3, .int .i64 5, .string p, .bool false, .slice (some ⟨W.heap.size, 0, none⟩) 1 1, .int .i64 0] (W.alloc (.cells #[.int .i64 a, .int .i64 b, .int .i64 c, .int .i64 d] 33)) fun e w' => e = .returned (.bool true) ∧ KnI w g q w') := by
    intro W a b c d p k H h1 h2
    have H2 := H.sees ((Sees.refl W).alloc (.cells #[.int .i64 a, .int .i64 b, .int .i64 c, .int .i64 d] 33))
    refine (alls_ok (HST.out.sees H2.s) (HT.out.sees H2.s) H2.l false h1 (rd_block (E := mtEl) (heap_alloc_new W _) (relIn_one (E := mtEl) (mt_rel _ _ ⟨a, b, c, d⟩)) (by simp) rfl) h2 (by simp)).mono ?_
    rintro e w' ⟨rfl, hs⟩
    exact ⟨rfl, H2.sees hs⟩
  go_wp2_with fail
  refine (KM.out _ _ _ _ _).mono ?_
  rintro e W15 ⟨rfl, hs⟩
  have H15 := Lib.hid (H14.out.sees hs)
  clear hs H14
  go_wp2_with fail
  refine (KA.out _ _ _ _ _ _ 0 H15.out kn_c kn_c1).mono ?_
  rintro e W16 ⟨rfl, h16⟩
  have H16 := Lib.hid h16
  clear h16 H15
  go_wp2_with fail
  refine (KM.out _ _ _ _ _).mono ?_
  rintro e W17 ⟨rfl, hs⟩
  have H17 := Lib.hid (H16.out.sees hs)
  clear hs H16
  go_wp2_with fail
  refine (KA.out _ _ _ _ _ _ 0 H17.out kn_d kn_d1).mono ?_
  rintro e W18 ⟨rfl, h18⟩
  have H18 := Lib.hid h18
  clear h18 H17
  go_wp2_with fail
  refine (alls_ok (HST.out.sees H18.out.s) (HT.out.sees H18.out.s) H18.out.l false kn_e (El.Own.nil (E := mtEl) (fun _ => False) W18).rd.any kn_e1 (by decide)).mono ?_
  rintro e W19 ⟨rfl, hs⟩
  have H19 := Lib.hid (H18.out.sees hs)
  clear hs H18
  go_upto_region 8 with fail
  refine wpH_go (fun _ => False) 27 (by kernel_rfl) (by kernel_rfl) (by rfl) (fun hB w20 hs => ?_)
  have H20 := Lib.hid (H19.out.sees hs)
  clear hs H19
  have hS0 : Keeps (fun _ => False) w20 w20 := Keeps.refl _ w20
  refine wpH_take (i := 0) (v := .slice (some ⟨g, 0, none⟩) 3 3) hB (by rfl) (by kernel_rfl) (fun _ _ _ _ _ h => h) (by rfl) hS0 (fun W hI => by clear hI; go_simp) ?_; (try simp only [Act.put, List.setIfInBounds_toArray, List.set_cons_zero, List.set_cons_succ])
  refine wpH_take (i := 2) (v := .agg #[.int .i64 7, .int .i64 0, .int .i64 7, .int .i64 1]) hB (by rfl) (by kernel_rfl) (fun _ _ _ _ _ h => h) (by rfl) hS0 (fun W hI => by obtain ⟨q0, q1, q2, q3⟩ := (H20.out.two.keeps hI (fun h => h)).c; go_simp) ?_; (try simp only [Act.put, List.setIfInBounds_toArray, List.set_cons_zero, List.set_cons_succ])
  refine wpH_one (i := 1) (by kernel_rfl) (wpOp_enter (fn := 73) (args := #[.int .i64 5, .int .i64 0]) (by rfl) (by rfl) (by go_simp) ((KP.out 5 0 w20).mono ?_))
  rintro e w21 ⟨rfl, hs⟩
  have hS1 := hS0.trans (Keeps.of_sees hs)
  refine ⟨_, rfl, hS1, ?_⟩
  (try simp only [Act.put, List.setIfInBounds_toArray, List.set_cons_zero, List.set_cons_succ])
  have H21 := Lib.hid (H20.out.sees hs)
  clear hs hS0
  have hS0 := hS1
  clear hS1
  refine wpH_one (i := 3) (by kernel_rfl) (wpOp_enter (fn := 19) (args := #[.slice (some ⟨g, 0, none⟩) 3 3, .int .i64 5, .string ⟨#[97, 98]⟩, .bool false, .agg #[.int .i64 5, .int .i64 0], .agg #[.int .i64 7, .int .i64 0, .int .i64 7, .int .i64 1], .int .i64 0]) (by rfl) (by rfl) (by go_simp) ((nexts_any (HST.out.sees H21.out.s) (HT.out.sees H21.out.s) H21.out.l (by decide) (by decide) (by decide) false 5 0 ⟨7, 0, 7, 1⟩ 0 kn_n1).mono ?_))
  rintro e w22 ⟨rfl, hs⟩
  have hS1 := hS0.trans (Keeps.of_sees hs)
  refine ⟨_, rfl, hS1, ?_⟩
  (try simp only [Act.put, List.setIfInBounds_toArray, List.set_cons_zero, List.set_cons_succ])
  have H22 := Lib.hid (H21.out.sees hs)
  clear hs hS0
  have hS0 := hS1
  clear hS1
  refine wpH_take (i := 4) (v := .bool true) hB (by rfl) (by kernel_rfl) (fun _ _ _ _ _ h => h) (by rfl) hS0 (fun W hI => by clear hI; go_simp) ?_; (try simp only [Act.put, List.setIfInBounds_toArray, List.set_cons_zero, List.set_cons_succ])
  refine wpH_takeG (i := 5) (v := .slice (some ⟨g, 0, none⟩) 3 3) hB (by rfl) (by kernel_rfl) (fun _ _ _ _ _ h => h) (by go_simp) hS0 (fun W hI => by clear hI; go_simp) ?_; (try simp only [Act.put, List.setIfInBounds_toArray, List.set_cons_zero, List.set_cons_succ])
  refine wpH_takeG (i := 7) (v := .agg #[.int .i64 5, .int .i64 0, .int .i64 5, .int .i64 1]) hB (by rfl) (by kernel_rfl) (fun _ _ _ _ _ h => h) (by go_simp) hS0 (fun W hI => by obtain ⟨q0, q1, q2, q3⟩ := (H20.out.one.keeps hI (fun h => h)).c; go_simp) ?_; (try simp only [Act.put, List.setIfInBounds_toArray, List.set_cons_zero, List.set_cons_succ])
  refine wpH_one (i := 6) (by kernel_rfl) (wpOp_enterG (fn := 73) (args := #[.int .i64 7, .int .i64 0]) (by rfl) (by go_simp) (by go_simp) ((KP.out 7 0 w22).mono ?_))
  rintro e w23 ⟨rfl, hs⟩
  have hS1 := hS0.trans (Keeps.of_sees hs)
  refine ⟨_, rfl, hS1, ?_⟩
  (try simp only [Act.put, List.setIfInBounds_toArray, List.set_cons_zero, List.set_cons_succ])
  have H23 := Lib.hid (H22.out.sees hs)
  clear hs hS0
  have hS0 := hS1
  clear hS1
  refine wpH_one (i := 8) (by kernel_rfl) (wpOp_enterG (fn := 19) (args := #[.slice (some ⟨g, 0, none⟩) 3 3, .int .i64 5, .string ⟨#[97, 98]⟩, .bool false, .agg #[.int .i64 7, .int .i64 0], .agg #[.int .i64 5, .int .i64 0, .int .i64 5, .int .i64 1], .int .i64 0]) (by rfl) (by go_simp) (by go_simp) ((nexts_any (HST.out.sees H23.out.s) (HT.out.sees H23.out.s) H23.out.l (by decide) (by decide) (by decide) false 7 0 ⟨5, 0, 5, 1⟩ 0 kn_n2).mono ?_))
  rintro e w24 ⟨rfl, hs⟩
  have hS1 := hS0.trans (Keeps.of_sees hs)
  refine ⟨_, rfl, hS1, ?_⟩
  (try simp only [Act.put, List.setIfInBounds_toArray, List.set_cons_zero, List.set_cons_succ])
  have H24 := Lib.hid (H23.out.sees hs)
  clear hs hS0
  have hS0 := hS1
  clear hS1
  refine wpH_take (i := 9) (v := .bool true) hB (by rfl) (by kernel_rfl) (fun _ _ _ _ _ h => h) (by rfl) hS0 (fun W hI => by clear hI; go_simp) ?_; (try simp only [Act.put, List.setIfInBounds_toArray, List.set_cons_zero, List.set_cons_succ])
  refine wpH_take (i := 10) (v := .bool true) hB (by rfl) (by kernel_rfl) (fun _ _ _ _ _ h => h) (by rfl) hS0 (fun W hI => by clear hI; go_simp) ?_; (try simp only [Act.put, List.setIfInBounds_toArray, List.set_cons_zero, List.set_cons_succ])
  refine wpH_takeG (i := 11) (v := .slice (some ⟨g, 0, none⟩) 3 3) hB (by rfl) (by kernel_rfl) (fun _ _ _ _ _ h => h) (by go_simp) hS0 (fun W hI => by clear hI; go_simp) ?_; (try simp only [Act.put, List.setIfInBounds_toArray, List.set_cons_zero, List.set_cons_succ])
  refine wpH_takeG (i := 13) (v := .agg #[.int .i64 7, .int .i64 0, .int .i64 7, .int .i64 1]) hB (by rfl) (by kernel_rfl) (fun _ _ _ _ _ h => h) (by go_simp) hS0 (fun W hI => by obtain ⟨q0, q1, q2, q3⟩ := (H20.out.two.keeps hI (fun h => h)).c; go_simp) ?_; (try simp only [Act.put, List.setIfInBounds_toArray, List.set_cons_zero, List.set_cons_succ])
  refine wpH_one (i := 12) (by kernel_rfl) (wpOp_enterG (fn := 73) (args := #[.int .i64 5, .int .i64 0]) (by rfl) (by go_simp) (by go_simp) ((KP.out 5 0 w24).mono ?_))
  rintro e w25 ⟨rfl, hs⟩
  have hS1 := hS0.trans (Keeps.of_sees hs)
  refine ⟨_, rfl, hS1, ?_⟩
  (try simp only [Act.put, List.setIfInBounds_toArray, List.set_cons_zero, List.set_cons_succ])
  have H25 := Lib.hid (H24.out.sees hs)
  clear hs hS0
  have hS0 := hS1
  clear hS1
  refine wpH_one (i := 14) (by kernel_rfl) (wpOp_enterG (fn := 74) (args := #[.slice (some ⟨g, 0, none⟩) 3 3, .int .i64 5, .string ⟨#[97, 98]⟩, .bool false, .agg #[.int .i64 5, .int .i64 0], .agg #[.int .i64 7, .int .i64 0, .int .i64 7, .int .i64 1], .int .i64 0]) (by rfl) (by go_simp) (by go_simp) ((prevs_any (HST.out.sees H25.out.s) (HT.out.sees H25.out.s) H25.out.l (by decide) (by decide) (by decide) false 5 0 ⟨7, 0, 7, 1⟩ 0 kn_p1).mono ?_))
  rintro e w26 ⟨rfl, hs⟩
  have hS1 := hS0.trans (Keeps.of_sees hs)
  refine ⟨_, rfl, hS1, ?_⟩
  (try simp only [Act.put, List.setIfInBounds_toArray, List.set_cons_zero, List.set_cons_succ])
  have H26 := Lib.hid (H25.out.sees hs)
  clear hs hS0
  have hS0 := hS1
  clear hS1
  refine wpH_take (i := 15) (v := .bool true) hB (by rfl) (by kernel_rfl) (fun _ _ _ _ _ h => h) (by rfl) hS0 (fun W hI => by clear hI; go_simp) ?_; (try simp only [Act.put, List.setIfInBounds_toArray, List.set_cons_zero, List.set_cons_succ])
  refine wpH_take (i := 16) (v := .bool true) hB (by rfl) (by kernel_rfl) (fun _ _ _ _ _ h => h) (by rfl) hS0 (fun W hI => by clear hI; go_simp) ?_; (try simp only [Act.put, List.setIfInBounds_toArray, List.set_cons_zero, List.set_cons_succ])
  refine wpH_takeG (i := 17) (v := .slice (some ⟨g, 0, none⟩) 3 3) hB (by rfl) (by kernel_rfl) (fun _ _ _ _ _ h => h) (by go_simp) hS0 (fun W hI => by clear hI; go_simp) ?_; (try simp only [Act.put, List.setIfInBounds_toArray, List.set_cons_zero, List.set_cons_succ])
  refine wpH_takeG (i := 19) (v := .agg #[.int .i64 0, .int .i64 0, .int .i64 0, .int .i64 0]) hB (by rfl) (by kernel_rfl) (fun _ _ _ _ _ h => h) (by go_simp) hS0 (fun W hI => by clear hI; go_simp) ?_; (try simp only [Act.put, List.setIfInBounds_toArray, List.set_cons_zero, List.set_cons_succ])
  refine wpH_one (i := 18) (by kernel_rfl) (wpOp_enterG (fn := 73) (args := #[.int .i64 5, .int .i64 0]) (by rfl) (by go_simp) (by go_simp) ((KP.out 5 0 w26).mono ?_))
  rintro e w27 ⟨rfl, hs⟩
  have hS1 := hS0.trans (Keeps.of_sees hs)
  refine ⟨_, rfl, hS1, ?_⟩
  (try simp only [Act.put, List.setIfInBounds_toArray, List.set_cons_zero, List.set_cons_succ])
  have H27 := Lib.hid (H26.out.sees hs)
  clear hs hS0
  have hS0 := hS1
  clear hS1
  refine wpH_one (i := 20) (by kernel_rfl) (wpOp_enterG (fn := 19) (args := #[.slice (some ⟨g, 0, none⟩) 3 3, .int .i64 5, .string ⟨#[122, 122]⟩, .bool false, .agg #[.int .i64 5, .int .i64 0], .agg #[.int .i64 0, .int .i64 0, .int .i64 0, .int .i64 0], .int .i64 9]) (by rfl) (by go_simp) (by go_simp) ((nexts_any (HST.out.sees H27.out.s) (HT.out.sees H27.out.s) H27.out.l (by decide) (by decide) (by decide) false 5 0 ⟨0, 0, 0, 0⟩ 9 kn_z).mono ?_))
  rintro e w28 ⟨rfl, hs⟩
  have hS1 := hS0.trans (Keeps.of_sees hs)
  refine ⟨_, rfl, hS1, ?_⟩
  (try simp only [Act.put, List.setIfInBounds_toArray, List.set_cons_zero, List.set_cons_succ])
  have H28 := Lib.hid (H27.out.sees hs)
  clear hs hS0
  have hS0 := hS1
  clear hS1
  refine wpH_take (i := 21) (v := .bool true) hB (by rfl) (by kernel_rfl) (fun _ _ _ _ _ h => h) (by rfl) hS0 (fun W hI => by clear hI; go_simp) ?_; (try simp only [Act.put, List.setIfInBounds_toArray, List.set_cons_zero, List.set_cons_succ])
  refine wpH_take (i := 22) (v := .bool true) hB (by rfl) (by kernel_rfl) (fun _ _ _ _ _ h => h) (by rfl) hS0 (fun W hI => by clear hI; go_simp) ?_; (try simp only [Act.put, List.setIfInBounds_toArray, List.set_cons_zero, List.set_cons_succ])
  refine wpH_takeG (i := 23) (v := .slice (some ⟨g, 0, none⟩) 3 3) hB (by rfl) (by kernel_rfl) (fun _ _ _ _ _ h => h) (by go_simp) hS0 (fun W hI => by clear hI; go_simp) ?_; (try simp only [Act.put, List.setIfInBounds_toArray, List.set_cons_zero, List.set_cons_succ])
  refine wpH_one (i := 24) (by kernel_rfl) (wpOp_enterG (fn := 72) (args := #[.slice (some ⟨g, 0, none⟩) 3 3, .int .i64 5, .string ⟨#[]⟩, .bool false, .slice none 0 0, .int .i64 2]) (by rfl) (by go_simp) (by go_simp) ((alls_no (HT.out.sees H28.out.s) H28.out.l (by decide) (by decide) (by decide) false kn_f).mono ?_))
  rintro e w29 ⟨rfl, hs⟩
  have hS1 := hS0.trans (Keeps.of_sees hs)
  refine ⟨_, rfl, hS1, ?_⟩
  (try simp only [Act.put, List.setIfInBounds_toArray, List.set_cons_zero, List.set_cons_succ])
  have H29 := Lib.hid (H28.out.sees hs)
  clear hs hS0
  have hS0 := hS1
  clear hS1
  refine wpH_take (i := 25) (v := .bool true) hB (by rfl) (by kernel_rfl) (fun _ _ _ _ _ h => h) (by rfl) hS0 (fun W hI => by clear hI; go_simp) ?_; (try simp only [Act.put, List.setIfInBounds_toArray, List.set_cons_zero, List.set_cons_succ])
  refine wpH_take (i := 26) (v := .bool true) hB (by rfl) (by kernel_rfl) (fun _ _ _ _ _ h => h) (by rfl) hS0 (fun W hI => by clear hI; go_simp) ?_; (try simp only [Act.put, List.setIfInBounds_toArray, List.set_cons_zero, List.set_cons_succ])
  refine wpH_end (by kernel_rfl) ?_
  clear hS0 hB
  go_wp2
  go_ret
  exact ⟨rfl, H29.out.s⟩
end Go.Proofs.YtfdolhppbimbmaaDoor
