/- A ring's lines from a number on, up to another one: Range. A ring's lines from a number on, up to another one: they are there. A ring as it is seen, and what the statements of layer 8 ask of it. A ring that a statement's own run made: each call as one step on it. No condition. -/
import Derived.Test.YthjcnhgfagefjaaDoorRiL
namespace Go.Proofs.YthjcnhgfagefjaaDoor
set_option linter.unusedVariables false
set_option linter.unusedSimpArgs false
open Go.RowKit Go.Shelf
attribute [local go_sem] Oper.semAt_some


/-- Range, where there is none. -/
theorem rrange_no (w : World) (v : Value) (fr up : Int) (h : NoRi w v) : Calls Tryd.prog 35 #[v, .int .i64 fr, .int .i64 up] w fun e w' => e = .returned (.tuple #[.slice none 0 0, .int .i64 1]) ∧ Sees w w' := by
  have H := Lib.hid h; clear h
  go_enter Tryd.func35, Tryd.ntmps35
  go_wp2_with fail
  refine calls_world (fun W1 hW1 => ?_)
  have HS := Lib.hid (by subst hW1; exact ((((Sees.refl w).alloc _).alloc _).alloc _).alloc _ : Sees w W1)
  have b6 : Bx W1 (w.heap.size + 1 + 1) 30 (.slice none 0 0) := by subst hW1; exact (Bx.new (by simp)).sees ((Sees.refl _).alloc _)
  have b7 : Bx W1 (w.heap.size + 1 + 1 + 1) 26 (.int .i64 0) := by subst hW1; exact Bx.new (by simp)
  clear hW1
  have B6 := Lib.hid b6
  have B7 := Lib.hid b7
  clear b6 b7
  refine (rzero_no _ _ (H.out.sees HS.out)).mono ?_
  rintro e w1 ⟨rfl, hs⟩
  have c6 := (B6.out.sees hs).c
  have f6 := (B6.out.sees hs).fr
  have c7 := (B7.out.sees hs).c
  have f7 := (B7.out.sees hs).fr
  have HS1 := Lib.hid (HS.out.trans hs)
  clear hs
  go_wp2
  refine bodyPost_ret_by (v := .tuple #[.slice none 0 0, .int .i64 1]) (by simp [results, Tryd.results35, go_sem, c6, c7]) rfl ⟨rfl, ?_⟩
  exact (HS1.out.setCell (p := ⟨w.heap.size + 1 + 1, 0, none⟩) (by show w.heap.size ≤ w.heap.size + 1 + 1; omega) _).setCell (p := ⟨w.heap.size + 1 + 1 + 1, 0, none⟩) (by show w.heap.size ≤ w.heap.size + 1 + 1 + 1; omega) _
theorem rrange_range (w : World) (r : Nat) (most page first next : Int) (sv : Value) (h : RiAt w r most page first next sv) (hm : 1 ≤ page) (fr up : Int) (hc : decide (fr < 0) = true ∨ (decide (fr < 0) = false ∧ decide (up < fr) = true) ∨ (decide (fr < 0) = false ∧ decide (up < fr) = false ∧ decide (up > next) = true)) :
    Calls Tryd.prog 35 #[.pointer (some ⟨r, 0, none⟩), .int .i64 fr, .int .i64 up] w fun e w' => e = .returned (.tuple #[.slice none 0 0, .int .i64 3]) ∧ Sees w w' := by
  have H := Lib.hid h; clear h
  have Hm := Lib.hid hm; clear hm
  rcases hc with h1 | ⟨h1, h2⟩ | ⟨h1, h2, h3⟩
  all_goals
    (try have h3' : decide (next < up) = _ := h3)
    go_enter Tryd.func35, Tryd.ntmps35
    go_wp2_with fail
    refine calls_world (fun W1 hW1 => ?_)
    have HS := Lib.hid (by subst hW1; exact ((((Sees.refl w).alloc _).alloc _).alloc _).alloc _ : Sees w W1)
    have B4 := Lib.hid (by subst hW1; exact ((((Bx.new rfl).sees ((Sees.refl _).alloc _)).sees ((Sees.refl _).alloc _)).sees ((Sees.refl _).alloc _)) : Bx W1 w.heap.size 3 (.int .i64 fr))
    have B5 := Lib.hid (by subst hW1; exact (((Bx.new (by simp)).sees ((Sees.refl _).alloc _)).sees ((Sees.refl _).alloc _)) : Bx W1 (w.heap.size + 1) 3 (.int .i64 up))
    have B6 := Lib.hid (by subst hW1; exact (Bx.new (by simp)).sees ((Sees.refl _).alloc _) : Bx W1 (w.heap.size + 1 + 1) 30 (.slice none 0 0))
    have B7 := Lib.hid (by subst hW1; exact Bx.new (by simp) : Bx W1 (w.heap.size + 1 + 1 + 1) 26 (.int .i64 0))
    clear hW1
    refine (rzero_at _ r _ _ _ _ _ (H.out.sees HS.out) Hm.out).mono ?_
    rintro e w1 ⟨rfl, hs⟩
    have x4 := (B4.out.sees hs).c
    have x5 := (B5.out.sees hs).c
    have x3 := (H.out.sees (HS.out.trans hs)).c.2.2.2.1
    have g4 := fun d os => (sees_grow w1 d os).cell x4
    have g5 := fun d os => (sees_grow w1 d os).cell x5
    have g3 := fun d os => (sees_grow w1 d os).cell x3
    have HS1 := Lib.hid hs
    clear hs x4 x5 x3
    go_wp2
    refine wp_region_quiet_below (by kernel_rfl) (by kernel_rfl) ?_
    repeat (first | go_big_quiet_skip | (go_big_quiet_want; go_big_quiet_op; go_big_quiet_on))
    refine wpQuiet_nil ?_; intro w2 hw2'; have hw2 := regrown_sees hw2'; clear hw2'
    have hs2 := HS1.out.trans hw2
    have c6 := (B6.out.sees hs2).c
    have f6 := (B6.out.sees hs2).fr
    have c7 := (B7.out.sees hs2).c
    have f7 := (B7.out.sees hs2).fr
    have HS2 := Lib.hid (HS.out.trans hs2)
    clear hs2 hw2 g4 g5 g3
    go_wp2
    refine bodyPost_ret_by (v := .tuple #[.slice none 0 0, .int .i64 3]) (by simp [results, Tryd.results35, go_sem, c6, c7]) rfl ⟨rfl, ?_⟩
    exact (HS2.out.setCell (p := ⟨w.heap.size + 1 + 1, 0, none⟩) (by show w.heap.size ≤ w.heap.size + 1 + 1; omega) _).setCell (p := ⟨w.heap.size + 1 + 1 + 1, 0, none⟩) (by show w.heap.size ≤ w.heap.size + 1 + 1 + 1; omega) _
theorem rrange_gone (w : World) (r : Nat) (most page first next : Int) (sv : Value) (h : RiAt w r most page first next sv) (hm : 1 ≤ page) (fr up : Int) (h1 : decide (fr < 0) = false) (h2 : decide (up < fr) = false) (h3 : decide (up > next) = false) (h4 : decide (fr < first) = true) :
    Calls Tryd.prog 35 #[.pointer (some ⟨r, 0, none⟩), .int .i64 fr, .int .i64 up] w fun e w' => e = .returned (.tuple #[.slice none 0 0, .int .i64 14]) ∧ Sees w w' := by
  have H := Lib.hid h; clear h
  have Hm := Lib.hid hm; clear hm
  have h3' : decide (next < up) = false := h3
  go_enter Tryd.func35, Tryd.ntmps35
  go_wp2_with fail
  refine calls_world (fun W1 hW1 => ?_)
  have HS := Lib.hid (by subst hW1; exact ((((Sees.refl w).alloc _).alloc _).alloc _).alloc _ : Sees w W1)
  have B4 := Lib.hid (by subst hW1; exact ((((Bx.new rfl).sees ((Sees.refl _).alloc _)).sees ((Sees.refl _).alloc _)).sees ((Sees.refl _).alloc _)) : Bx W1 w.heap.size 3 (.int .i64 fr))
  have B5 := Lib.hid (by subst hW1; exact (((Bx.new (by simp)).sees ((Sees.refl _).alloc _)).sees ((Sees.refl _).alloc _)) : Bx W1 (w.heap.size + 1) 3 (.int .i64 up))
  have B6 := Lib.hid (by subst hW1; exact (Bx.new (by simp)).sees ((Sees.refl _).alloc _) : Bx W1 (w.heap.size + 1 + 1) 30 (.slice none 0 0))
  have B7 := Lib.hid (by subst hW1; exact Bx.new (by simp) : Bx W1 (w.heap.size + 1 + 1 + 1) 26 (.int .i64 0))
  clear hW1
  refine (rzero_at _ r _ _ _ _ _ (H.out.sees HS.out) Hm.out).mono ?_
  rintro e w1 ⟨rfl, hs⟩
  have x4 := (B4.out.sees hs).c
  have x5 := (B5.out.sees hs).c
  have x3 := (H.out.sees (HS.out.trans hs)).c.2.2.2.1
  have g4 := fun d os => (sees_grow w1 d os).cell x4
  have g5 := fun d os => (sees_grow w1 d os).cell x5
  have g3 := fun d os => (sees_grow w1 d os).cell x3
  have HS1 := Lib.hid hs
  clear hs x4 x5 x3
  go_wp2
  refine wp_region_quiet_below (by kernel_rfl) (by kernel_rfl) ?_
  repeat (first | go_big_quiet_skip | (go_big_quiet_want; go_big_quiet_op; go_big_quiet_on))
  refine wpQuiet_nil ?_; intro w2 hw2'; have hw2 := regrown_sees hw2'; clear hw2'
  have hs2 := HS1.out.trans hw2
  have x4 := (B4.out.sees hs2).c
  have x2 := (H.out.sees (HS.out.trans hs2)).c.2.2.1
  obtain ⟨w3, rfl⟩ : ∃ w3, w3 = w2 := ⟨_, rfl⟩
  have g4' := fun d os => (sees_grow w3 d os).cell x4
  have g2' := fun d os => (sees_grow w3 d os).cell x2
  have HS3 := Lib.hid hs2
  clear hs2 hw2 g4 g5 g3 x4 x2
  go_wp2
  refine wp_region_quiet_below (by kernel_rfl) (by kernel_rfl) ?_
  repeat (first | go_big_quiet_skip | (go_big_quiet_want; go_big_quiet_op; go_big_quiet_on))
  refine wpQuiet_nil ?_; intro w2 hw2'; have hw2 := regrown_sees hw2'; clear hw2'
  have hs2 := HS3.out.trans hw2
  have c6 := (B6.out.sees hs2).c
  have f6 := (B6.out.sees hs2).fr
  have c7 := (B7.out.sees hs2).c
  have f7 := (B7.out.sees hs2).fr
  have HS2 := Lib.hid (HS.out.trans hs2)
  clear hs2 hw2 g4' g2'
  go_wp2
  refine bodyPost_ret_by (v := .tuple #[.slice none 0 0, .int .i64 14]) (by simp [results, Tryd.results35, go_sem, c6, c7]) rfl ⟨rfl, ?_⟩
  exact (HS2.out.setCell (p := ⟨w.heap.size + 1 + 1, 0, none⟩) (by show w.heap.size ≤ w.heap.size + 1 + 1; omega) _).setCell (p := ⟨w.heap.size + 1 + 1 + 1, 0, none⟩) (by show w.heap.size ≤ w.heap.size + 1 + 1 + 1; omega) _
end Go.Proofs.YthjcnhgfagefjaaDoor

namespace Go.Proofs.YthjcnhgfagefjaaDoor
set_option linter.unusedVariables false
set_option linter.unusedSimpArgs false
open Go.RowKit Go.Shelf
attribute [local go_sem] Oper.semAt_some

/-- Lines from an index on, up to another one. -/
def seg (f t : Nat) (ls : List Ln) : List Ln := (ls.take t).drop f
theorem seg_append (f t : Nat) (hft : f ≤ t) (xs ys : List Ln) : seg f t (xs ++ ys) = seg f t xs ++ seg (f - xs.length) (t - xs.length) ys := by
  unfold seg
  rw [List.take_append, List.drop_append]
  congr 1
  rw [List.length_take]
  by_cases h : t ≤ xs.length
  · rw [show t - xs.length = 0 by omega]; simp
  · rw [Nat.min_eq_right (by omega)]
theorem seg_length (f t : Nat) (ls : List Ln) : (seg f t ls).length ≤ ls.length := by unfold seg; simp; omega
theorem seg_zero (f t : Nat) (ls : List Ln) (h : min t ls.length ≤ f) : seg f t ls = [] := by
  unfold seg
  rw [List.drop_eq_nil_of_le]
  rw [List.length_take]; exact h
theorem seg_succ {f i : Nat} {ls : List Ln} {l : Ln} (h : ls[i]? = some l) (hf : f ≤ i) : seg f (i + 1) ls = seg f i ls ++ [l] := by
  obtain ⟨hi, rfl⟩ := List.getElem?_eq_some_iff.1 h
  unfold seg
  rw [List.take_add_one, h]
  simp only [Option.toList_some]
  rw [List.drop_append_of_le_length (by rw [List.length_take]; omega)]

theorem RiM.pgs {w1 W : World} {F : Nat → Prop} {r : Nat} {d : RD} (h : RiM w1 F W r d) (hd : d.Ok) : ∃ (av : Option Addr) (c : Nat) (pp : Nat → Nat), PgsAt W r d.ps.length av c pp ∧ ∀ (j : Nat) x, d.ps[j]? = some x → PgIn W r d j (pp j) := by
  obtain ⟨a, c, hA, hc⟩ := h.words
  have key : ∀ j, ∃ p, ∀ x, d.ps[j]? = some x → PgIn W r d j p := by
    intro j
    cases hj : d.ps[j]? with
    | none => exact ⟨0, fun x hx => by cases hx⟩
    | some x =>
      obtain ⟨b, cap, p, Fx, h1, _, h3, _⟩ := h.page hj (hd.pgs x (List.mem_iff_getElem?.2 ⟨j, hj⟩)).1 ⟨hd.page0, hd.page1⟩
      exact ⟨p, fun y hy => ⟨b, cap, h1, h3⟩⟩
  have hpp := Classical.skolem.1 key
  obtain ⟨pp, hpp⟩ := hpp
  refine ⟨a, c, pp, ⟨hA.c.2.2.2.2, fun j hj => ?_⟩, hpp⟩
  obtain ⟨b, c', k1, k2⟩ := hpp j _ (List.getElem?_eq_getElem hj)
  have e := hA.inj k1
  simp only [Value.slice.injEq] at e
  exact ⟨b, e.1, k2⟩
theorem PgsAt.keeps {W W' : World} {r n c : Nat} {av : Option Addr} {pp : Nat → Nat} (h : PgsAt W r n av c pp) (hs : Sees W W') : PgsAt W' r n av c pp :=
  ⟨hs.cell h.ring, fun j hj => by obtain ⟨b, h1, h2⟩ := h.pages j hj; exact ⟨b, h1, hs.cell h2⟩⟩

/-- What stands between two pages. -/
structure RangeI (W0 : World) (B S : Nat) (fr up : Int) (at_ : Int) (xs : List Ln) (W : World) : Prop where
  see : Sees W0 W
  b4 : Bx W W0.heap.size 3 (.int .i64 fr)
  b5 : Bx W (W0.heap.size + 1) 3 (.int .i64 up)
  b6 : Bx W (W0.heap.size + 1 + 1) 30 (.slice none 0 0)
  b7 : Bx W (W0.heap.size + 1 + 1 + 1) 26 (.int .i64 0)
  b9 : Bx W (B + 1) 3 (.int .i64 at_)
  out : ∃ v, Bx W B 30 v ∧ lnEl.Own (fun b => S + 2 ≤ b) W v xs
theorem RangeI.keeps {W0 W W' : World} {B S : Nat} {fr up at_ : Int} {xs : List Ln} (h : RangeI W0 B S fr up at_ xs W) (h1 : W0.heap.size + 1 + 1 + 1 < B) (h2 : B + 1 < S) (hk : Keeps (fun b => b = S ∨ b = S + 1) W W') : RangeI W0 B S fr up at_ xs W' := by
  obtain ⟨v, o1, o2⟩ := h.out
  exact ⟨((Keeps.of_sees (F := fun _ => False) h.see).trans' hk (fun b hb e => by omega)).sees_end (fun _ _ h => h), h.b4.keeps hk (by omega), h.b5.keeps hk (by omega), h.b6.keeps hk (by omega), h.b7.keeps hk (by omega), h.b9.keeps hk (by omega), v, o1.keeps hk (by omega), o2.keeps hk (fun b hb e => by omega)⟩

theorem RangeI.sees {W0 W W' : World} {B S : Nat} {fr up at_ : Int} {xs : List Ln} (h : RangeI W0 B S fr up at_ xs W) (hs : Sees W W') : RangeI W0 B S fr up at_ xs W' := by
  obtain ⟨v, o1, o2⟩ := h.out
  exact ⟨h.see.trans hs, h.b4.sees hs, h.b5.sees hs, h.b6.sees hs, h.b7.sees hs, h.b9.sees hs, v, o1.sees hs, o2.sees hs⟩
theorem RangeI.next {X : Nat → Prop} {W0 W W' : World} {B S : Nat} {fr up at_ : Int} {xs xs' : List Ln} (h : RangeI W0 B S fr up at_ xs W) (h1 : W0.heap.size + 1 + 1 + 1 < B) (h2 : B + 1 < S) (hk : Keeps X W W') (hX : ∀ b, X b → S + 2 ≤ b) (v : Value) (ho : lnEl.Own (fun b => S + 2 ≤ b) W' v xs') : RangeI W0 B S fr up at_ xs' (W'.setCell ⟨B, 0, none⟩ v) := by
  obtain ⟨u, o1, o2⟩ := h.out
  have hn : ∀ b, b < S → ¬ X b := fun b hb e => by have := hX b e; omega
  refine ⟨(((Keeps.of_sees (F := fun _ => False) h.see).trans' hk (fun b hb e => by have := hX b e; omega)).sees_end (fun _ _ h => h)).setCell (p := ⟨B, 0, none⟩) (by show W0.heap.size ≤ B; omega) _, (h.b4.keeps hk (hn _ (by omega))).other (by omega) _, (h.b5.keeps hk (hn _ (by omega))).other (by omega) _, (h.b6.keeps hk (hn _ (by omega))).other (by omega) _, (h.b7.keeps hk (hn _ (by omega))).other (by omega) _, (h.b9.keeps hk (hn _ (by omega))).other (by omega) _, v, (o1.keeps hk (hn _ (by omega))).set v, ?_⟩
  exact ho.keeps (Keeps.setCell (F := fun y => y = B) (Keeps.refl _ W') (p := ⟨B, 0, none⟩) (fun _ => rfl) v) (fun b hb e => by omega)
theorem RangeI.step {W0 W : World} {B S : Nat} {fr up at_ : Int} {xs : List Ln} (h : RangeI W0 B S fr up at_ xs W) (h1 : W0.heap.size + 1 + 1 + 1 < B) (h2 : B + 1 < S) (x : Int) : RangeI W0 B S fr up x xs (W.setCell ⟨B + 1, 0, none⟩ (.int .i64 x)) := by
  obtain ⟨u, o1, o2⟩ := h.out
  exact ⟨h.see.setCell (p := ⟨B + 1, 0, none⟩) (by show W0.heap.size ≤ B + 1; omega) _, h.b4.other (by omega) _, h.b5.other (by omega) _, h.b6.other (by omega) _, h.b7.other (by omega) _, h.b9.set _, u, o1.other (by omega) _, o2.keeps (Keeps.setCell (F := fun y => y = B + 1) (Keeps.refl _ W) (p := ⟨B + 1, 0, none⟩) (fun _ => rfl) _) (fun b hb e => by omega)⟩
section
variable {w1 W : World} {F : Nat → Prop} {r : Nat} {d : RD}
set_option maxRecDepth 100000 in
set_option maxHeartbeats 4000000 in
theorem rrange_ok (h : RiM w1 F W r d) (hd : d.Ok) (fr up : Int) (f t : Nat) (hf : fr = d.first + f) (ht : up = d.first + t) (hft : f ≤ t) (htn : t ≤ (linesP d.ps).length) :
    Calls Tryd.prog 35 #[.pointer (some ⟨r, 0, none⟩), .int .i64 fr, .int .i64 up] W fun e w' => ∃ v, e = .returned (.tuple #[v, .int .i64 0]) ∧ lnEl.Own (fun b => W.heap.size ≤ b) w' v (seg f t (linesP d.ps)) ∧ Sees W w' := by
  obtain ⟨av, c, pp, hpg, hpi⟩ := h.pgs hd
  have g0 := hd.first0
  have g1 := hd.next1
  have g2 := hd.tot
  have hle := ps_le (fun p hp => (hd.pgs p hp).2)
  have g3 := hd.few
  obtain ⟨N, hN⟩ : ∃ N, N = d.ps.length := ⟨_, rfl⟩
  rw [← hN] at hpg hle
  obtain ⟨a', c', hA, _⟩ := h.words
  have d1 : decide (fr < 0) = false := decide_eq_false (by omega)
  have d2 : decide (up < fr) = false := decide_eq_false (by omega)
  have d3 : decide (up > d.next) = false := decide_eq_false (by omega)
  have d3' : decide (d.next < up) = false := d3
  have d4 : decide (fr < d.first) = false := decide_eq_false (by omega)
  have H := Lib.hid h
  have HD := Lib.hid hd
  have HPG := Lib.hid hpg
  have HPI := Lib.hid hpi
  have HA := Lib.hid hA
  have HN := Lib.hid hN
  have HF := Lib.hid hf
  have HT := Lib.hid ht
  have HFT := Lib.hid hft
  have HTN := Lib.hid htn
  have G0 := Lib.hid g0
  have G1 := Lib.hid g1
  have G2 := Lib.hid g2
  have G3 := Lib.hid g3
  have HLE := Lib.hid hle
  clear h hd hpg hpi g0 g1 g2 g3 hle hN hA hf ht hft htn
  refine callsIn_wide (n := 0) |>.1 ?_
  refine callsIn_of_wp_marks Tryd.func35 rfl trivial ?_ rfl
  refine wpIn_wide.2 ?_
  simp only [Tryd.ntmps35, List.size_toArray, List.length_cons, List.length_nil, Nat.reduceAdd, Nat.reduceSub, Array.replicate_succ, Array.replicate_zero, List.push_toArray, List.append_toArray, List.nil_append, List.cons_append]
  go_wp2_with fail
  refine calls_world (fun W1 hW1 => ?_)
  have HS := Lib.hid (by subst hW1; exact ((((Sees.refl W).alloc _).alloc _).alloc _).alloc _ : Sees W W1)
  have B4 := Lib.hid (by subst hW1; exact ((((Bx.new rfl).sees ((Sees.refl _).alloc _)).sees ((Sees.refl _).alloc _)).sees ((Sees.refl _).alloc _)) : Bx W1 W.heap.size 3 (.int .i64 fr))
  have B5 := Lib.hid (by subst hW1; exact (((Bx.new (by simp)).sees ((Sees.refl _).alloc _)).sees ((Sees.refl _).alloc _)) : Bx W1 (W.heap.size + 1) 3 (.int .i64 up))
  have B6 := Lib.hid (by subst hW1; exact (Bx.new (by simp)).sees ((Sees.refl _).alloc _) : Bx W1 (W.heap.size + 1 + 1) 30 (.slice none 0 0))
  have B7 := Lib.hid (by subst hW1; exact Bx.new (by simp) : Bx W1 (W.heap.size + 1 + 1 + 1) 26 (.int .i64 0))
  clear hW1
  refine (rzero_at _ r _ _ _ _ _ (HA.out.sees HS.out) HD.out.page0).mono ?_
  rintro e W2 ⟨rfl, hs⟩
  have x4 := (B4.out.sees hs).c
  have x5 := (B5.out.sees hs).c
  have x3 := (HA.out.sees (HS.out.trans hs)).c.2.2.2.1
  have g4 := fun d os => (sees_grow W2 d os).cell x4
  have g5 := fun d os => (sees_grow W2 d os).cell x5
  have g3 := fun d os => (sees_grow W2 d os).cell x3
  have HS1 := Lib.hid hs
  clear hs x4 x5 x3
  go_wp2
  refine wp_region_quiet_below (by kernel_rfl) (by kernel_rfl) ?_
  repeat (first | go_big_quiet_skip | (go_big_quiet_want; go_big_quiet_op; go_big_quiet_on))
  refine wpQuiet_nil ?_; intro w2 hw2'; have hw2 := regrown_sees hw2'; clear hw2'
  have hs2 := HS1.out.trans hw2
  have x4 := (B4.out.sees hs2).c
  have x2 := (HA.out.sees (HS.out.trans hs2)).c.2.2.1
  obtain ⟨W3, rfl⟩ : ∃ w3, w3 = w2 := ⟨_, rfl⟩
  have g4' := fun d os => (sees_grow W3 d os).cell x4
  have g2' := fun d os => (sees_grow W3 d os).cell x2
  have HS3 := Lib.hid hs2
  clear hs2 hw2 g4 g5 g3 x4 x2
  go_wp2
  refine wp_region_quiet_below (by kernel_rfl) (by kernel_rfl) ?_
  repeat (first | go_big_quiet_skip | (go_big_quiet_want; go_big_quiet_op; go_big_quiet_on))
  refine wpQuiet_nil ?_; intro w2 hw2'; have hw2 := regrown_sees hw2'; clear hw2'
  have hs4 := HS3.out.trans hw2
  obtain ⟨W4, rfl⟩ : ∃ w3, w3 = w2 := ⟨_, rfl⟩
  have x2 := (HA.out.sees (HS.out.trans hs4)).c.2.2.1
  have HS4 := Lib.hid hs4
  clear hs4 hw2 g4' g2'
  have hl1 : r < W4.heap.size := (HA.out.sees (HS.out.trans HS4.out)).lt
  go_wp2_with fail
  refine wp_world (fun WL hWL => ?_)
  have SL : Sees W4 WL := by subst hWL; exact ((Sees.refl _).alloc _).alloc _
  have HZ : Hid (W4.heap.size + 2 = WL.heap.size) := Lib.hid (by subst hWL; rw [World.size_alloc, World.size_alloc])
  have B8 := Lib.hid (by subst hWL; exact (Bx.new rfl).sees ((Sees.refl _).alloc _) : Bx WL W4.heap.size 30 (.slice none 0 0))
  have B9 := Lib.hid (by subst hWL; exact Bx.new (by simp) : Bx WL (W4.heap.size + 1) 3 (.int .i64 d.first))
  have HSL := Lib.hid (HS4.out.trans SL)
  have HZ1 : Hid (W.heap.size + 4 ≤ W4.heap.size) := Lib.hid (by have h1 := HS4.out.size; have h2 := B7.out.lt; omega)
  clear hWL SL hl1 x2
  refine wp_pages r N av c pp (by have h1 := HLE.out; have h2 := G3.out; omega) rfl rfl (fun j Wj => RangeI W W4.heap.size WL.heap.size fr up (d.first + ((linesP (d.ps.take j)).length : Int)) (seg f t (linesP (d.ps.take j))) Wj)
    (fun j A B hi hk => hi.keeps (by have := HZ1.out; omega) (by have := HZ.out; omega) hk) (fun j A hi => HPG.out.keeps hi.see)
    ⟨HS.out.trans HSL.out, B4.out.sees HSL.out, B5.out.sees HSL.out, B6.out.sees HSL.out, B7.out.sees HSL.out, by have := B9.out; simpa [linesP] using this, _, B8.out, by have := El.Own.nil (E := lnEl) (fun b => WL.heap.size + 2 ≤ b) WL; simpa [seg, linesP] using this⟩ ?round ?done
  case done =>
    intro WD hi hD
    rw [show d.ps.take N = d.ps from by rw [HN.out]; exact List.take_length] at hi
    obtain ⟨v8, b8, o8⟩ := hi.out
    obtain ⟨a8, c8_, rfl, _⟩ := o8.slice
    have c8 := b8.c
    have c6 := hi.b6.c
    have f6 := hi.b6.fr
    have c7 := hi.b7.c
    have f7 := hi.b7.fr
    have HI := Lib.hid hi
    have HO8 := Lib.hid o8
    have HD8 := Lib.hid hD
    clear hi b8 o8 hD
    obtain ⟨M, hM⟩ : ∃ M, M = (seg f t (linesP d.ps)).length := ⟨_, rfl⟩
    rw [← hM] at c8 HO8
    have HMM := Lib.hid hM
    clear hM
    go_wp2_with fail
    have hz1 := HZ1.out
    have hz2 := HZ.out
    have hbD := (Array.getElem?_eq_some_iff.1 HD8.out).1
    have hk : Keeps (fun b => b = W.heap.size + 1 + 1 ∨ b = W.heap.size + 1 + 1 + 1) WD ((WD.setCell ⟨W.heap.size + 1 + 1, 0, none⟩ (.slice a8 M c8_)).setCell ⟨W.heap.size + 1 + 1 + 1, 0, none⟩ (.int .i64 0)) := ((Keeps.refl _ WD).setCell (p := ⟨W.heap.size + 1 + 1, 0, none⟩) (fun _ => .inl rfl) _).setCell (p := ⟨W.heap.size + 1 + 1 + 1, 0, none⟩) (fun _ => .inr rfl) _
    have hD' := (hk.block _ hbD (fun e => by rcases e with e | e <;> omega)).trans HD8.out
    have hp : Keeps (fun b => b = WL.heap.size) ((WD.setCell ⟨W.heap.size + 1 + 1, 0, none⟩ (.slice a8 M c8_)).setCell ⟨W.heap.size + 1 + 1 + 1, 0, none⟩ (.int .i64 0)) (((WD.setCell ⟨W.heap.size + 1 + 1, 0, none⟩ (.slice a8 M c8_)).setCell ⟨W.heap.size + 1 + 1 + 1, 0, none⟩ (.int .i64 0)).putObj WL.heap.size (.deferred none)) := ⟨rfl, rfl, rfl, by rw [World.putObj_size]; exact Nat.le_refl _, fun b _ hb => World.putObj_heap_other hb⟩
    have h6 := (((HI.out.b6.set (.slice a8 M c8_)).other (c := W.heap.size + 1 + 1 + 1) (by omega) (.int .i64 0)).keeps hp (by omega)).c
    have h7 := (((HI.out.b7.other (c := W.heap.size + 1 + 1) (by omega) (.slice a8 M c8_)).set (.int .i64 0)).keeps hp (by omega)).c
    refine marks_ret rfl hD' (v := .tuple #[.slice a8 M c8_, .int .i64 0]) (by simp [results, Tryd.results35, go_sem, h6, h7]) ⟨_, rfl, ?_, ?_⟩
    · exact ((HO8.out.keeps hk (fun b hb e => by rcases e with e | e <;> omega)).keeps hp (fun b hb e => by omega)).mono (fun b _ hb => by omega)
    · exact (((Keeps.of_sees (F := fun _ => False) HI.out.see).trans' hk (fun b hb e => by rcases e with e | e <;> omega)).trans' hp (fun b hb e => by omega)).sees_end (fun _ _ h => h)
  case round =>
    intro l j WR hj
    gi_wp2
    refine ⟨trivial, fun W' hi hz => ?_⟩
    obtain ⟨x, hx⟩ : ∃ x, d.ps[j]? = some x := ⟨_, List.getElem?_eq_getElem (by rw [← HN.out]; exact hj)⟩
    obtain ⟨Fx, hpg, _, _⟩ := (H.out.sees hi.see).pageAt HD.out hx ((HPI.out j x hx).sees hi.see)
    obtain ⟨o, ho⟩ : ∃ o, o = (linesP (d.ps.take j)).length := ⟨_, rfl⟩
    have hol : o + x.ls.length ≤ (linesP d.ps).length := by
      have := congrArg List.length (linesP_split hx)
      rw [List.length_append, List.length_append] at this
      omega
    obtain ⟨m, hm⟩ : ∃ m, m = x.ls.length := ⟨_, rfl⟩
    rw [← hm] at hol
    have hb := HTN.out
    have hb2 := G3.out
    have hb3 := HFT.out
    have hb4 := HF.out
    have hb5 := HT.out
    have hw1 : IntKind.i64.wrap (fr - (d.first + (o : Int))) = (f : Int) - o := by rw [IntWalk.i64_in _ (by omega)]; omega
    have hw2 : IntKind.i64.wrap (up - (d.first + (o : Int))) = (t : Int) - o := by rw [IntWalk.i64_in _ (by omega)]; omega
    have hw3 : IntKind.i64.wrap (d.first + (o : Int) + m) = d.first + (o : Int) + m := by have := G0.out; have := G1.out; have := G2.out; exact IntWalk.i64_in _ (by omega)
    have HI := Lib.hid hi
    have HPG := Lib.hid hpg
    have HX := Lib.hid hx
    have HO := Lib.hid ho
    have HM := Lib.hid hm
    have HOL := Lib.hid hol
    have HZW := Lib.hid hz
    have hmk : m ≤ 1024 := by rw [hm]; exact hpg.toS.len
    rw [← ho] at HI
    clear hx hpg ho hm hol hb hb2 hb3 hb4 hb5 hi hz
    gi_wp2_with fail
    refine ⟨trivial, rfl, (CallsIn.inRound l (callsIn_wide.2 (HPG.out.toS.lenIs (m : Int) (by rw [HM.out])))).mono ?_⟩
    rintro e W5 ⟨rfl, hs⟩
    have HK5 := Lib.hid (Keeps.of_sees hs : Keeps (fun b => b ≠ WL.heap.size ∧ b ≠ WL.heap.size + 1) W' W5)
    have HI5 := Lib.hid (HI.out.sees hs)
    have c4 := HI5.out.b4.c
    have c9 := HI5.out.b9.c
    clear hs HI
    obtain ⟨i0, hi0⟩ : ∃ i0, i0 = f - o := ⟨_, rfl⟩
    have hm1 : (if o < f then (f : Int) - o else 0) = (i0 : Int) := by split <;> omega
    have hm2 : (if 0 < (f : Int) - o then (f : Int) - o else 0) = (i0 : Int) := by split <;> omega
    have hm3 : (if (o : Int) < f then (f : Int) - o else 0) = (i0 : Int) := by split <;> omega
    have HI0 := Lib.hid hi0
    obtain ⟨e1, he1⟩ : ∃ e1 : Int, e1 = min (m : Int) ((t : Int) - o) := ⟨_, rfl⟩
    have hn1 : (if (t : Int) - o < m then (t : Int) - o else (m : Int)) = e1 := by split <;> omega
    have hn2 : (if (t : Int) < m + o then (t : Int) - o else (m : Int)) = e1 := by split <;> omega
    have hn3 : (if (t : Int) < o + m then (t : Int) - o else (m : Int)) = e1 := by split <;> omega
    have HE1 := Lib.hid he1
    clear hi0 he1
    gi_wp2
    gi_loopw [12] (fun s12 wr => ∃ i : Nat, i0 ≤ i ∧ (i = i0 ∨ (i : Int) ≤ e1) ∧ s12 = .int .i64 i ∧ RangeI W W4.heap.size WL.heap.size fr up (d.first + (o : Int)) (seg f t (linesP (d.ps.take j)) ++ seg i0 i x.ls) wr ∧ WL.heap.size + 2 ≤ wr.heap.size ∧ Keeps (fun b => b ≠ WL.heap.size ∧ b ≠ WL.heap.size + 1) W' wr) (fun s12 _ => (e1 - intOf s12).toNat)
    case atStart =>
      refine ⟨i0, Nat.le_refl _, .inl rfl, rfl, ?_, by have := HZW.out; have := HK5.out.size; omega, HK5.out⟩
      have h1 := HI5.out
      rw [show seg i0 i0 x.ls = [] from seg_zero _ _ _ (by omega), List.append_nil]
      exact h1
    case round =>
      obtain ⟨i, hi1, hi2, rfl, hI, hzr, hkr⟩ := hrel
      have c5 := hI.b5.c
      have c9 := hI.b9.c
      have HI6 := Lib.hid hI
      have HI1 := Lib.hid hi1
      have HI2 := Lib.hid hi2
      have HZR := Lib.hid hzr
      have HKR := Lib.hid hkr
      clear hI hi1 hi2 hzr hkr
      by_cases hlt : (i : Int) < e1
      · obtain ⟨Fy, hpg2, _, _⟩ := (H.out.sees HI6.out.see).pageAt HD.out HX.out ((HPI.out j x HX.out).sees HI6.out.see)
        have him : i < x.ls.length := by rw [← HM.out]; have := HE1.out; omega
        obtain ⟨ln, hln⟩ : ∃ ln, x.ls[i]? = some ln := ⟨_, List.getElem?_eq_getElem him⟩
        obtain ⟨v8, hb8, ho8⟩ := HI6.out.out
        obtain ⟨a8, c8_, rfl, _⟩ := ho8.slice
        have hlen : (seg f t (linesP (d.ps.take j)) ++ seg i0 i x.ls).length ≤ 3000000 := by
          have h1 := seg_length f t (linesP (d.ps.take j))
          have h2 := seg_length i0 i x.ls
          have h3 := HO.out
          have h4 := HOL.out
          have h5 := G3.out
          have h6 := HM.out
          rw [List.length_append]; omega
        obtain ⟨prev, hprev⟩ : ∃ prev, prev = seg f t (linesP (d.ps.take j)) ++ seg i0 i x.ls := ⟨_, rfl⟩
        rw [← hprev] at hb8 ho8 hlen
        obtain ⟨M, hM⟩ : ∃ M, M = prev.length := ⟨_, rfl⟩
        rw [← hM] at hb8 ho8
        have HPG2 := Lib.hid hpg2
        have HLN := Lib.hid hln
        have HB8 := Lib.hid hb8
        have HO8 := Lib.hid ho8.cut
        have HLEN := Lib.hid hlen
        have HPV := Lib.hid hprev
        have HMM := Lib.hid hM
        have HLT := Lib.hid hlt
        clear hpg2 him hln hb8 ho8 hlen hprev hM
        gi_wp2_with fail
        refine ⟨trivial, rfl, (CallsIn.inRound l (callsIn_wide.2 (HPG2.out.toS.get i ln HLN.out))).mono ?_⟩
        rintro e W7 ⟨v', rfl, ho', hs'⟩
        obtain ⟨a', c', rfl⟩ := ho'.slice
        have HS7 := Lib.hid hs'
        have c8 := (HB8.out.sees hs').c
        have f8 := (HB8.out.sees hs').fr
        have hl8 : W4.heap.size < W7.heap.size := (HB8.out.sees hs').lt
        have SA : Sees W7 ((W7.alloc (.cells #[.slice a' ln.cells.length c', .bool ln.soft] 36)).alloc (.cells #[.slice a' ln.cells.length c', .bool ln.soft] 36)) := ((Sees.refl _).alloc _).alloc _
        have HO7 := Lib.hid ((HO8.out.sees hs').sees SA)
        have HN7 := Lib.hid (ho'.el.sees SA)
        have HNB := Lib.hid (fun g (hg : (Value.slice a' ln.cells.length c').ownBlock = some g) => (ho'.base hg).2)
        have HSA := Lib.hid (hs'.trans SA)
        have HZ7 := Lib.hid hs'.size
        have Hrow : Hid (((W7.alloc (.cells #[.slice a' ln.cells.length c', .bool ln.soft] 36)).alloc (.cells #[.slice a' ln.cells.length c', .bool ln.soft] 36)).heap[W7.heap.size + 1]? = some (.cells #[.slice a' ln.cells.length c', .bool ln.soft] 36 (0, 0))) := Lib.hid (by
          have := heap_alloc_new (W7.alloc (.cells #[.slice a' ln.cells.length c', .bool ln.soft] 36)) (.cells #[.slice a' ln.cells.length c', .bool ln.soft] 36)
          rw [World.size_alloc] at this; exact this)
        have HcF : Hid (∀ b, (WL.heap.size + 2 ≤ b ∧ b < wr.heap.size) → b < ((W7.alloc (.cells #[.slice a' ln.cells.length c', .bool ln.soft] 36)).alloc (.cells #[.slice a' ln.cells.length c', .bool ln.soft] 36)).heap.size) := Lib.hid (fun b hb => by have := HSA.out.size; omega)
        have HcN : Hid (∀ b, ((Value.slice a' ln.cells.length c').ownBlock = some b ∧ wr.heap.size ≤ b) → b < ((W7.alloc (.cells #[.slice a' ln.cells.length c', .bool ln.soft] 36)).alloc (.cells #[.slice a' ln.cells.length c', .bool ln.soft] 36)).heap.size ∧ ¬ (WL.heap.size + 2 ≤ b ∧ b < wr.heap.size)) := Lib.hid (fun b hb => ⟨by have := HNB.out b hb.1; have := SA.size; omega, fun h => by have := h.2; have := hb.2; omega⟩)
        have HcL : Hid (prev.length + [ln].length ≤ 100000000) := Lib.hid (by have := HLEN.out; simp; omega)
        clear hs' ho' SA c5 c9
        gi_wp2_with (gi_at_builtin; refine El.wpListIn_append_own (v := .slice a8 M c8_) typedLn rfl (.tmp 72) (.tmp 74) rfl (by go_simp) HO7.out ⟨W7.heap.size + 1, 0, none⟩ 1 1 (by go_simp) [.slice a' ln.cells.length c', .bool ln.soft] [ln] _ (El.ownIn_one (E := lnEl) ⟨_, rfl, HN7.out⟩) rfl (fun j u hu => El.row_cells Hrow.out j u hu) HcF.out HcN.out HcL.out ?_; intro v9 w9 ho9 hk9; obtain ⟨a9, c9', rfl, _⟩ := ho9.slice; have hkx : Keeps (fun b => WL.heap.size + 2 ≤ b ∧ b < wr.heap.size) wr w9 := (Keeps.of_sees HSA.out).trans' hk9 (fun b _ e => (HO7.out.base e).1); have hB9 := HB8.out.keeps hkx (by have := HZ.out; omega); have c89 := hB9.c; have f89 := hB9.fr; have HKX := Lib.hid hkx; have HO9 := Lib.hid ho9; clear ho9 hk9 hkx hB9 c8 f8)
        have h4 := HI1.out
        have h7 := HLT.out
        have hz1 := HZ1.out
        have hz2 := HZ.out
        have hzr := HZR.out
        have hzA := HSA.out.size
        have hkk : ∀ v, Keeps (fun b => b ≠ WL.heap.size ∧ b ≠ WL.heap.size + 1) wr (w9.setCell ⟨W4.heap.size, 0, none⟩ v) := fun v => (HKX.out.mono (fun b _ h => ⟨by have := h.1; omega, by have := h.1; omega⟩)).setCell (p := ⟨W4.heap.size, 0, none⟩) (fun _ => ⟨by show W4.heap.size ≠ _; omega, by show W4.heap.size ≠ _; omega⟩) v
        have hO := HO9.out
        rw [show (prev ++ [ln]).length = prev.length + 1 by simp] at hO
        have hlist : seg f t (linesP (d.ps.take j)) ++ seg i0 (i + 1) x.ls = prev ++ [ln] := by rw [HPV.out, seg_succ HLN.out h4, List.append_assoc]
        refine ⟨⟨i + 1, by omega, .inr (by omega), by go_num, ?_, by have := (hkk (.slice a9 (prev.length + 1) c9')).size; omega, HKR.out.trans (hkk _)⟩, by simp [intOf]; omega⟩
        rw [hlist]
        exact HI6.out.next (by omega) (by omega) HKX.out (fun b hb => hb.1) _ (hO.mono (fun b _ h => by
          rcases h with h | h | h
          · exact h.1
          · have := h.2; omega
          · omega))
      · have f9 := HI6.out.b9.fr
        have HLT := Lib.hid hlt
        gi_wp2
        have h1 : linesP (d.ps.take (j + 1)) = linesP (d.ps.take j) ++ x.ls := linesP_take HX.out
        have h2 := HO.out
        have h3 := HM.out
        have h4 := HI1.out
        have h5 := HI2.out
        have h6 := HE1.out
        have h7 := HLT.out
        have h8 := HI0.out
        show RangeI _ _ _ _ _ _ _ _ ∧ Keeps _ _ _
        refine ⟨?_, HKR.out.trans (Keeps.setCell (Keeps.refl _ wr) (p := ⟨W4.heap.size + 1, 0, none⟩) (fun _ => by have := HZ.out; exact ⟨by show W4.heap.size + 1 ≠ _; omega, by show W4.heap.size + 1 ≠ _; omega⟩) _)⟩
        have hfin := HI6.out.step (by have := HZ1.out; omega) (by have := HZ.out; omega) (d.first + (o : Int) + m)
        rw [h1, List.length_append, seg_append f t HFT.out, ← h2, ← h3, ← h8]
        have hseg : seg i0 (t - o) x.ls = seg i0 i x.ls := by
          by_cases hb : min (t - o) x.ls.length ≤ i0
          · rw [seg_zero _ _ _ hb, seg_zero]
            omega
          · have hie : i = min m (t - o) := by omega
            have hie2 : i = min x.ls.length (t - o) := by omega
            unfold seg
            rw [hie2]
            congr 1
            rcases Nat.le_total x.ls.length (t - o) with h | h
            · rw [Nat.min_eq_left h, List.take_of_length_le h, List.take_length]
            · rw [Nat.min_eq_right h]
        rw [hseg, show ((o + m : Nat) : Int) = (o : Int) + m by omega, ← Int.add_assoc]
        exact hfin
end
end Go.Proofs.YthjcnhgfagefjaaDoor

namespace Go.Proofs.YthjcnhgfagefjaaDoor
set_option linter.unusedVariables false
set_option linter.unusedSimpArgs false
open Go.RowKit

theorem rtext_any (r : Int) (w : World) :
    Calls Tryd.prog 14 #[.int .i32 r] w fun e w' => ∃ v', e = .returned (.agg #[v', .bool false]) ∧ OwnCells w' w.heap.size v' [one r] ∧ Sees w w' := by
  have hw := Sees.refl w
  go_enter Tryd.func14, Tryd.ntmps14
  go_wp2
  refine bodyPost_ret (v := .agg #[.slice (some ⟨w.heap.size + 1, 0, none⟩) 1 1, .bool false]) (by simp [results, Tryd.results14, go_sem]) rfl ⟨_, rfl, ⟨rfl, .inr ⟨w.heap.size + 1, 1, (one r).vals.toArray, rfl, Nat.le_succ _, heap_alloc2_new _ _ _, Nat.le_refl _, by unfold maxLen; omega, rfl, rfl⟩⟩, (hw.alloc _).alloc _⟩
set_option maxHeartbeats 1000000 in
theorem rgets_true (s : Value) (i e0 : Int) (u : Value) (l : Ln) (w : World) (hu : RdCells w u l.cells) (hn : l.cells.length ≤ 1000000)
    (hG : ∀ W, Sees w W → Calls Tryd.prog 38 #[s, .int .i64 i] W fun e w' => ∃ v', e = .returned (.tuple #[.agg #[v', .bool l.soft], .int .i64 e0]) ∧ RdCells w' v' l.cells ∧ Sees W w') :
    Calls Tryd.prog 12 #[s, .int .i64 i, .agg #[u, .bool l.soft], .int .i64 e0] w fun e w' => e = .returned (.bool true) ∧ Sees w w' := by
  have Hu := Lib.hid hu
  obtain ⟨ao, ca, rfl, _⟩ := hu
  have Hn := Lib.hid hn
  have HG := Lib.hid hG
  clear hn hG
  obtain ⟨n, hnc⟩ : ∃ n, n = l.cells.length := ⟨_, rfl⟩
  rw [← hnc] at Hu ⊢
  have Hnc := Lib.hid hnc
  clear hnc
  go_enter Tryd.func12, Tryd.ntmps12
  go_wp2_with fail
  refine (HG.out _ ((Sees.refl w).alloc _)).mono ?_
  rintro e w1 ⟨v', rfl, hv, hs⟩
  have Hv := Lib.hid hv
  obtain ⟨a', c', rfl, _⟩ := hv
  have c0 : w1.cell? ⟨w.heap.size, 0, none⟩ = some (.slice ao n ca) := by rw [hs.cells _ _ (by simp)]; simp
  have c1 : w1.cell? ⟨w.heap.size, 1, none⟩ = some (.bool l.soft) := by rw [hs.cells _ _ (by simp)]; simp
  have hz := hs.size
  have hz1 : w.heap.size < w1.heap.size := by simp at hz; omega
  clear hz
  have Hs := Lib.hid (((Sees.refl w).alloc _).trans hs); clear hs
  rw [← Hnc.out] at Hv ⊢
  go_wp2_with fail
  refine (sameLine_any _ _ l l _ ?_ ?_ Hn.out).mono ?_
  · exact Hv.out.sees ((Sees.refl w1).alloc _)
  · exact Hu.out.sees (Hs.out.trans ((Sees.refl w1).alloc _))
  rintro e w2 ⟨rfl, hs2⟩
  have h1 : decide (l = l) = true := by simp
  have h2 : (e0 == e0) = true := by simp
  have Hs2 := Lib.hid hs2; clear hs2
  go_wp2
  go_ret
  exact ⟨by simp, Hs.out.trans (((Sees.refl w1).alloc _).trans Hs2.out)⟩

set_option maxHeartbeats 1000000 in
theorem rpops_true (F : Nat → Prop) (K : World → Prop) (s : Value) (e0 : Int) (u : Value) (l : Ln) (w : World) (hu : RdCells w u l.cells) (hn : l.cells.length ≤ 1000000) (hF : ∀ b, F b → b < w.heap.size) (hK : ∀ W W', K W → Sees W W' → K W')
    (hG : ∀ W, Sees w W → Calls Tryd.prog 41 #[s] W fun e w' => ∃ v', e = .returned (.tuple #[.agg #[v', .bool l.soft], .int .i64 e0]) ∧ RdCells w' v' l.cells ∧ RdCells w' u l.cells ∧ Keeps F W w' ∧ K w') :
    Calls Tryd.prog 19 #[s, .agg #[u, .bool l.soft], .int .i64 e0] w fun e w' => e = .returned (.bool true) ∧ K w' ∧ Keeps F w w' := by
  obtain ⟨ao, ca, rfl, _⟩ := hu
  have Hn := Lib.hid hn
  have HG := Lib.hid hG
  have HF := Lib.hid hF
  have HK := Lib.hid hK
  clear hn hG hF hK
  obtain ⟨n, hnc⟩ : ∃ n, n = l.cells.length := ⟨_, rfl⟩
  rw [← hnc] at HG ⊢
  have Hnc := Lib.hid hnc
  clear hnc
  go_enter Tryd.func19, Tryd.ntmps19
  go_wp2_with fail
  refine (HG.out _ ((Sees.refl w).alloc _)).mono ?_
  rintro e w1 ⟨v', rfl, hv, hu, hk, hKw⟩
  have Hv := Lib.hid hv
  have Hu := Lib.hid hu
  obtain ⟨a', c', rfl, _⟩ := hv
  have hnF : ¬ F w.heap.size := fun h => absurd (HF.out _ h) (Nat.lt_irrefl _)
  have c0 : w1.cell? ⟨w.heap.size, 0, none⟩ = some (.slice ao n ca) := hk.cell (a := ⟨w.heap.size, 0, none⟩) hnF (by simp)
  have c1 : w1.cell? ⟨w.heap.size, 1, none⟩ = some (.bool l.soft) := hk.cell (a := ⟨w.heap.size, 1, none⟩) hnF (by simp)
  have hz := hk.size
  have hz1 : w.heap.size < w1.heap.size := by simp at hz; omega
  have Hs := Lib.hid ((Keeps.of_sees (F := F) ((Sees.refl w).alloc (Obj.cells #[.slice ao n ca, .bool l.soft] 36))).trans hk)
  have HKw := Lib.hid hKw
  clear hk hz hnF hKw hu
  rw [← Hnc.out] at Hv ⊢
  go_wp2_with fail
  refine (sameLine_any _ _ l l _ ?_ ?_ Hn.out).mono ?_
  · exact Hv.out.sees ((Sees.refl w1).alloc _)
  · exact Hu.out.sees ((Sees.refl w1).alloc _)
  rintro e w2 ⟨rfl, hs2⟩
  have h1 : decide (l = l) = true := by simp
  have h2 : (e0 == e0) = true := by simp
  have Hs2 := Lib.hid (((Sees.refl w1).alloc _).trans hs2); clear hs2
  go_wp2
  go_ret
  exact ⟨by simp, HK.out _ _ HKw.out Hs2.out, Hs.out.trans (Keeps.of_sees Hs2.out)⟩


theorem rnone_true (most page : Int) (w : World) (h : decide (most < 0) = true ∨ (decide (most < 0) = false ∧ decide (most > 1048576) = true) ∨ (decide (most < 0) = false ∧ decide (most > 1048576) = false ∧ decide (page < 1) = true) ∨ (decide (most < 0) = false ∧ decide (most > 1048576) = false ∧ decide (page < 1) = false ∧ decide (page > 1024) = true)) :
    Calls Tryd.prog 4 #[.int .i64 most, .int .i64 page] w fun e w' => e = .returned (.bool true) ∧ Sees w w' := by
  have H := Lib.hid h
  clear h
  go_enter Tryd.func4, Tryd.ntmps4
  go_wp2_with fail
  refine (rnew_bad most page w H.out).mono ?_
  rintro e w1 ⟨rfl, hs⟩
  go_wp2
  go_ret
  exact ⟨rfl, hs⟩
set_option maxHeartbeats 1000000 in
theorem rpushes_true (F : Nat → Prop) (K : World → Prop) (s : Value) (n e0 : Int) (u : Value) (soft : Bool) (w : World) (ao : Option Addr) (m c : Nat) (hu : u = .slice ao m c) (hK : ∀ W W', K W → Sees W W' → K W')
    (hG : ∀ W, Sees w W → Calls Tryd.prog 33 #[s, .agg #[u, .bool soft]] W fun e w' => e = .returned (.tuple #[.int .i64 n, .int .i64 e0]) ∧ Keeps F W w' ∧ K w') :
    Calls Tryd.prog 15 #[s, .agg #[u, .bool soft], .int .i64 n, .int .i64 e0] w fun e w' => e = .returned (.bool true) ∧ K w' ∧ Keeps F w w' := by
  subst hu
  have HG := Lib.hid hG
  have HK := Lib.hid hK
  clear hG hK
  go_enter Tryd.func15, Tryd.ntmps15
  go_wp2_with fail
  refine (HG.out _ ((Sees.refl w).alloc _)).mono ?_
  rintro e w1 ⟨rfl, hk, hKw⟩
  have h1 : (n == n) = true := by simp
  have h2 : (e0 == e0) = true := by simp
  have Hs := Lib.hid ((Keeps.of_sees (F := F) ((Sees.refl w).alloc (Obj.cells #[.slice ao m c, .bool soft] 36))).trans hk)
  have HKw := Lib.hid hKw
  clear hk hKw
  go_wp2
  go_ret
  exact ⟨by simp, HKw.out, Hs.out⟩
set_option maxHeartbeats 1000000 in
theorem rranges_true (G : Nat → Prop) (s : Value) (fr up e0 : Int) (u : Value) (ls : List Ln) (w : World) (hu : RdL G w u ls) (hn : ls.length ≤ 1000000) (hnc : ∀ l ∈ ls, l.cells.length ≤ 1000000)
    (hG : ∀ W, Sees w W → Calls Tryd.prog 35 #[s, .int .i64 fr, .int .i64 up] W fun e w' => ∃ v, e = .returned (.tuple #[v, .int .i64 e0]) ∧ RdL (fun _ => True) w' v ls ∧ Sees W w') :
    Calls Tryd.prog 13 #[s, .int .i64 fr, .int .i64 up, .int .i64 e0, u] w fun e w' => e = .returned (.bool true) ∧ Sees w w' := by
  have Hu := Lib.hid hu
  have Hn := Lib.hid hn
  have Hnc := Lib.hid hnc
  have HG := Lib.hid hG
  obtain ⟨ao, ca, rfl, _⟩ := hu
  clear hn hnc hG
  obtain ⟨m, hm⟩ : ∃ m, m = ls.length := ⟨_, rfl⟩
  rw [← hm] at Hu ⊢
  have Hm := Lib.hid hm
  clear hm
  go_enter Tryd.func13, Tryd.ntmps13
  go_wp2_with fail
  refine (HG.out _ (Sees.refl w)).mono ?_
  rintro e w1 ⟨v, rfl, hv, hs⟩
  have Hv := Lib.hid hv
  obtain ⟨a', c', rfl, _⟩ := hv
  have Hs := Lib.hid hs
  rw [← Hm.out] at Hv ⊢
  clear hs
  go_wp2_with fail
  refine (all_true _ _ _ _ ls ls _ Hv.out (Hu.out.sees Hs.out) Hn.out Hnc.out rfl).mono ?_
  rintro e w2 ⟨rfl, hs⟩
  have h2 : (e0 == e0) = true := by simp
  go_wp2
  go_ret
  exact ⟨by simp, Hs.out.trans hs⟩

/-- A ring, as it is seen. -/
def RgF (w1 : World) (F : Nat → Prop) (W : World) (r : Nat) (most page first : Int) (ls : List Ln) (g : List (Int × Nat)) : Prop :=
  ∃ d, RiM w1 F W r d ∧ d.Is most page first ls g ∧ (ls.length : Int) ≤ most
namespace RgF
variable {w1 W W' : World} {F G : Nat → Prop} {r : Nat} {most page first : Int} {ls : List Ln} {g : List (Int × Nat)}
theorem sees (h : RgF w1 F W r most page first ls g) (hs : Sees W W') : RgF w1 F W' r most page first ls g := by
  obtain ⟨d, h1, h2, h3⟩ := h
  exact ⟨d, h1.sees hs, h2, h3⟩
theorem mono (h : RgF w1 F W r most page first ls g) (hF : ∀ b, b < W.heap.size → F b → G b) (hl : ∀ b, G b → w1.heap.size ≤ b) : RgF w1 G W r most page first ls g := by
  obtain ⟨d, h1, h2, h3⟩ := h
  exact ⟨d, h1.mono hF hl, h2, h3⟩
theorem see (h : RgF w1 F W r most page first ls g) : Sees w1 W := by obtain ⟨d, h1, _⟩ := h; exact h1.see
theorem low (h : RgF w1 F W r most page first ls g) : ∀ b, F b → w1.heap.size ≤ b := by obtain ⟨d, h1, _⟩ := h; exact h1.low
theorem keeps {X : Nat → Prop} (h : RgF w1 F W r most page first ls g) (hk : Keeps X W W') (hd : ∀ b, F b → ¬ X b) (hx : ∀ b, X b → w1.heap.size ≤ b) : RgF w1 F W' r most page first ls g := by
  obtain ⟨d, h1, h2, h3⟩ := h
  exact ⟨d, h1.keeps hk hd hx, h2, h3⟩
theorem facts (h : RgF w1 F W r most page first ls g) : 0 ≤ most ∧ most ≤ 1048576 ∧ 1 ≤ page ∧ page ≤ 1024 ∧ 0 ≤ first ∧ first + ls.length ≤ 1000000000 ∧ (ls.length : Int) ≤ most ∧ ls.length ≤ 1048576 := by
  obtain ⟨d, h1, h2, h3⟩ := h
  have a := h2.ok
  have e1 := h2.most; have e2 := h2.page; have e3 := h2.first; have e4 := h2.lines
  subst e1; subst e2; subst e3; subst e4
  have a1 := a.most1
  refine ⟨a.most0, a.most1, a.page0, a.page1, a.first0, ?_, h3, by omega⟩
  have := a.tot; have := a.next1; omega
theorem lnok (h : RgF w1 F W r most page first ls g) : ∀ l ∈ ls, lnOk l.cells = true := by
  obtain ⟨d, h1, h2, h3⟩ := h
  intro l hl
  rw [← h2.lines] at hl
  obtain ⟨p, hp, hl⟩ := List.mem_flatMap.1 hl
  exact (h2.ok.pgs p hp).1.ok l hl
theorem lenc (h : RgF w1 F W r most page first ls g) : ∀ l ∈ ls, l.cells.length ≤ 1000000 := fun l hl => by have := lnOk_len (h.lnok l hl); omega
theorem words (h : RgF w1 F W r most page first ls g) : ∃ a c, RiAt W r most page first (first + ls.length) (.slice a g.length c) := by
  obtain ⟨d, h1, h2, h3⟩ := h
  obtain ⟨a, c, h4, _⟩ := h1.words
  have e := h2.ok.tot
  have e1 := h2.most; have e2 := h2.page; have e3 := h2.first; have e4 := h2.lines; have e5 := h2.gl
  subst e1; subst e2; subst e3; subst e4; subst e5
  refine ⟨a, c, ?_⟩
  rw [e, show (gl d.ps).length = d.ps.length from List.length_map _]
  exact h4
theorem sum (h : RgF w1 F W r most page first ls g) : sumG g = ls.length ∧ ∀ q ∈ g, 1 ≤ q.2 := by
  obtain ⟨d, h1, h2, h3⟩ := h
  refine ⟨by rw [← h2.gl, ← h2.lines]; exact sum_gl _, by rw [← h2.gl]; exact gl_pos h2.ok.pgs⟩
theorem rgfirst (h : RgF w1 F W r most page first ls g) : Calls Tryd.prog 17 #[.pointer (some ⟨r, 0, none⟩)] W fun e w' => e = .returned (.int .i64 first) ∧ Sees W w' := by
  obtain ⟨a, c, h1⟩ := h.words
  exact rfirst_at _ _ _ _ _ _ _ h1 h.facts.2.2.1
theorem rgnext (h : RgF w1 F W r most page first ls g) (n : Int) (hn : first + ls.length = n) : Calls Tryd.prog 18 #[.pointer (some ⟨r, 0, none⟩)] W fun e w' => e = .returned (.int .i64 n) ∧ Sees W w' := by
  obtain ⟨a, c, h1⟩ := h.words
  rw [hn] at h1
  exact rnext_at _ _ _ _ _ _ _ h1 h.facts.2.2.1
theorem rgmost (h : RgF w1 F W r most page first ls g) : Calls Tryd.prog 34 #[.pointer (some ⟨r, 0, none⟩)] W fun e w' => e = .returned (.int .i64 most) ∧ Sees W w' := by
  obtain ⟨a, c, h1⟩ := h.words
  exact rmost_at _ _ _ _ _ _ _ h1 h.facts.2.2.1
theorem rgpages (h : RgF w1 F W r most page first ls g) (n : Int) (hn : (g.length : Int) = n) : Calls Tryd.prog 16 #[.pointer (some ⟨r, 0, none⟩)] W fun e w' => e = .returned (.int .i64 n) ∧ Sees W w' := by
  obtain ⟨a, c, h1⟩ := h.words
  subst hn
  exact rpages_at _ _ _ _ _ _ _ _ _ h1 h.facts.2.2.1
theorem rglen (h : RgF w1 F W r most page first ls g) (n : Int) (hn : (ls.length : Int) = n) : Calls Tryd.prog 23 #[.pointer (some ⟨r, 0, none⟩)] W fun e w' => e = .returned (.int .i64 n) ∧ Sees W w' := by
  obtain ⟨a, c, h1⟩ := h.words
  subst hn
  have f := h.facts
  exact rlen_at _ _ _ _ _ _ _ h1 f.2.2.1 _ rfl ⟨f.2.2.2.2.1, by omega, f.2.2.2.2.2.1⟩
/-- How many lines are too many, if there is one more. -/
theorem push (h : RgF w1 F W r most page first ls g) (ht : Tabs w1) (hnx : first + ls.length < 1000000000) (v : Value) (cs : List Cell) (soft : Bool) (hv : RdC G W v cs) (hG : ∀ b, G b → ¬ F b) (hok : lnOk cs = true) (k : Nat) (hk : k = ls.length + 1 - most.toNat) (n : Int) (hn : first + ls.length = n) :
    Calls Tryd.prog 33 #[.pointer (some ⟨r, 0, none⟩), .agg #[v, .bool soft]] W fun e w' => e = .returned (.tuple #[.int .i64 n, .int .i64 0]) ∧
      RgF w1 (fun b => F b ∨ W.heap.size ≤ b) w' r most page (first + k) ((ls ++ [(⟨cs, soft⟩ : Ln)]).drop k) (dropG k (pushG page g)) ∧ Keeps F W w' := by
  have fa := h.facts
  obtain ⟨d, h1, h2, h3⟩ := h
  have e := h2.ok.tot
  have e1 := h2.most; have e2 := h2.page; have e3 := h2.first; have e4 := h2.lines; have e5 := h2.gl
  subst e1; subst e2; subst e3; subst e4; subst e5
  have hn' : d.next = n := by omega
  refine (rpush_ok ht h1 h2.ok (by omega) (by omega) v cs soft hv hG hok _ rfl).mono ?_
  rintro e w' ⟨rfl, hr, hk2⟩
  have hov : (({ d with next := d.next + 1, ps := pushP d.page d.ps ⟨cs, soft⟩ } : RD).over) = k := by
    show (d.next + 1 - d.first - d.most).toNat = k
    omega
  rw [hov] at hr
  have hlen : (linesP (pushP d.page d.ps ⟨cs, soft⟩)).length = (linesP d.ps).length + 1 := by rw [linesP_pushP]; simp
  refine ⟨by rw [hn'], ⟨_, hr, ⟨⟨h2.ok.most0, h2.ok.most1, h2.ok.page0, h2.ok.page1, by have := h2.ok.first0; show 0 ≤ d.first + (k : Int); omega, by show d.next + 1 ≤ 1000000000; omega, ?_, ?_, PsOk.dropF k (PsOk.pushP (l := ⟨cs, soft⟩) hok h2.ok.page0 h2.ok.pgs)⟩, rfl, rfl, rfl, ?_, ?_⟩, ?_⟩, hk2⟩
  · show d.first + (k : Int) + ((linesP (dropF k (pushP d.page d.ps ⟨cs, soft⟩))).length : Int) = d.next + 1
    rw [linesP_dropF, List.length_drop, hlen]; omega
  · show (linesP (dropF k (pushP d.page d.ps ⟨cs, soft⟩))).length ≤ 1048577
    rw [linesP_dropF, List.length_drop, hlen]; omega
  · show linesP (dropF k (pushP d.page d.ps ⟨cs, soft⟩)) = _
    rw [linesP_dropF, linesP_pushP]
  · show gl (dropF k (pushP d.page d.ps ⟨cs, soft⟩)) = _
    rw [gl_dropF, gl_pushP]
  · rw [List.length_drop, List.length_append, List.length_cons, List.length_nil]; omega
theorem limit (h : RgF w1 F W r most page first ls g) (n : Int) (h0 : 0 ≤ n) (h1 : n ≤ 1048576) (k : Nat) (hk : k = ls.length - n.toNat) :
    Calls Tryd.prog 20 #[.pointer (some ⟨r, 0, none⟩), .int .i64 n] W fun e w' => e = .returned (.int .i64 0) ∧
      RgF w1 (fun b => F b ∨ W.heap.size ≤ b) w' r n page (first + k) (ls.drop k) (dropG k g) ∧ Keeps F W w' := by
  have fa := h.facts
  obtain ⟨d, h1', h2, h3⟩ := h
  have e := h2.ok.tot
  have e1 := h2.most; have e2 := h2.page; have e3 := h2.first; have e4 := h2.lines; have e5 := h2.gl
  subst e1; subst e2; subst e3; subst e4; subst e5
  refine (rlimit_ok h1' h2.ok n h0 h1).mono ?_
  rintro e w' ⟨rfl, hr, hk2⟩
  have hov : (({ d with most := n } : RD).over) = k := by
    show (d.next - d.first - n).toNat = k
    omega
  rw [hov] at hr
  refine ⟨rfl, ⟨_, hr, ⟨⟨h0, h1, h2.ok.page0, h2.ok.page1, by have := h2.ok.first0; show 0 ≤ d.first + (k : Int); omega, h2.ok.next1, ?_, ?_, PsOk.dropF k h2.ok.pgs⟩, rfl, rfl, rfl, ?_, ?_⟩, ?_⟩, hk2⟩
  · show d.first + (k : Int) + ((linesP (dropF k d.ps)).length : Int) = d.next
    rw [linesP_dropF, List.length_drop]; omega
  · show (linesP (dropF k d.ps)).length ≤ 1048577
    rw [linesP_dropF, List.length_drop]; omega
  · exact linesP_dropF _ _
  · exact gl_dropF _ _
  · rw [List.length_drop]; omega
theorem clear (h : RgF w1 F W r most page first ls g) (n : Int) (hn : first + ls.length = n) :
    Calls Tryd.prog 22 #[.pointer (some ⟨r, 0, none⟩)] W fun e w' => e = .returned (.tuple #[]) ∧ RgF w1 F w' r most page n [] [] ∧ Keeps F W w' := by
  have fa := h.facts
  obtain ⟨d, h1', h2, h3⟩ := h
  have e := h2.ok.tot
  have e1 := h2.most; have e2 := h2.page; have e3 := h2.first; have e4 := h2.lines; have e5 := h2.gl
  subst e1; subst e2; subst e3; subst e4; subst e5
  refine (rclear_ok h1' h2.ok.page0).mono ?_
  rintro e w' ⟨rfl, hr, hk2⟩
  refine ⟨rfl, ⟨_, hr, ⟨⟨h2.ok.most0, h2.ok.most1, h2.ok.page0, h2.ok.page1, by have := h2.ok.first0; show 0 ≤ d.next; omega, h2.ok.next1, by show d.next + ((linesP []).length : Int) = d.next; simp [linesP], by simp [linesP], fun p hp => by cases hp⟩, rfl, rfl, by show d.next = n; omega, rfl, rfl⟩, by simp; omega⟩, hk2⟩
theorem pop (l : Ln) (h : RgF w1 F W r most page first (ls ++ [l]) g) :
    Calls Tryd.prog 41 #[.pointer (some ⟨r, 0, none⟩)] W fun e w' => ∃ v', e = .returned (.tuple #[.agg #[v', .bool l.soft], .int .i64 0]) ∧ OwnCells w' 0 v' l.cells ∧ (∀ g, v'.ownBlock = some g → F g ∧ g < W.heap.size) ∧
      RgF w1 (fun c => F c ∧ v'.ownBlock ≠ some c) w' r most page first ls (popG g) ∧ Keeps F W w' := by
  have fa := h.facts
  obtain ⟨d, h1', h2, h3⟩ := h
  have e := h2.ok.tot
  have e1 := h2.most; have e2 := h2.page; have e3 := h2.first; have e4 := h2.lines; have e5 := h2.gl
  subst e1; subst e2; subst e3; subst e5
  obtain ⟨ps0, x, m0, hps, hx, hls⟩ := last_page (fun p hp => (h2.ok.pgs p hp).2) e4
  rw [e4, List.length_append, List.length_cons, List.length_nil] at e
  rw [List.length_append, List.length_cons, List.length_nil] at h3 fa
  refine (rpop_ok h1' h2.ok ps0 x m0 l hps hx).mono ?_
  rintro e w' ⟨v', qs, rfl, hq, ho, hog, hr, hk⟩
  have hfew := h2.ok.few
  rw [e4, List.length_append, List.length_cons, List.length_nil] at hfew
  have hpx := h2.ok.pgs x (by rw [hps]; simp)
  have hlq : linesP qs = ls := by
    rw [hls]
    rcases hq with ⟨rfl, rfl⟩ | ⟨_, rfl⟩
    · simp
    · rw [linesP_append]; simp [linesP]
  refine ⟨v', rfl, ho, hog, ⟨_, hr, ⟨⟨h2.ok.most0, h2.ok.most1, h2.ok.page0, h2.ok.page1, h2.ok.first0, by have := h2.ok.next1; show d.next - 1 ≤ 1000000000; omega, by show d.first + ((linesP qs).length : Int) = d.next - 1; rw [hlq]; omega, by show (linesP qs).length ≤ _; rw [hlq]; omega, ?_⟩, rfl, rfl, rfl, hlq, ?_⟩, by omega⟩, hk⟩
  · show PsOk d.page qs
    rcases hq with ⟨_, rfl⟩ | ⟨hne, rfl⟩
    · intro p hp; exact h2.ok.pgs p (by rw [hps]; exact List.mem_append_left _ hp)
    · intro p hp
      rcases List.mem_append.1 hp with hp | hp
      · exact h2.ok.pgs p (by rw [hps]; exact List.mem_append_left _ hp)
      · simp at hp; subst hp
        refine ⟨⟨hpx.1.most, hpx.1.gone0, ?_, fun m hm => hpx.1.ok m (by rw [hx]; exact List.mem_append_left _ hm)⟩, hne⟩
        have h8 := hpx.1.room
        rw [hx, List.length_append] at h8
        show x.gone + (m0.length : Int) ≤ d.page
        omega
  · show gl qs = popG (gl d.ps)
    rw [hps]
    rw [show gl (ps0 ++ [x]) = gl ps0 ++ [(x.gone, x.ls.length)] by simp [gl], popG_last, hx]
    rcases hq with ⟨hm0, rfl⟩ | ⟨hne, rfl⟩
    · rw [hm0]; simp
    · have := List.length_pos_iff.2 hne
      rw [if_neg (by simp; omega)]
      simp [gl]
theorem pop_none (h : RgF w1 F W r most page first [] g) :
    Calls Tryd.prog 41 #[.pointer (some ⟨r, 0, none⟩)] W fun e w' => e = .returned (.tuple #[.agg #[.slice none 0 0, .bool false], .int .i64 9]) ∧ Sees W w' := by
  have fa := h.facts
  obtain ⟨a, c, h1⟩ := h.words
  simp only [List.length_nil] at h1 fa
  exact rpop_none _ _ _ _ _ _ _ h1 fa.2.2.1 (by omega) ⟨fa.2.2.2.2.1, fa.2.2.2.2.2.1⟩
theorem get (h : RgF w1 F W r most page first ls g) (n : Int) (i : Nat) (l : Ln) (hn : n = first + i) (hl : ls[i]? = some l) :
    Calls Tryd.prog 38 #[.pointer (some ⟨r, 0, none⟩), .int .i64 n] W fun e w' => ∃ v', e = .returned (.tuple #[.agg #[v', .bool l.soft], .int .i64 0]) ∧ OwnCells w' W.heap.size v' l.cells ∧ Sees W w' := by
  obtain ⟨d, h1', h2, h3⟩ := h
  have e3 := h2.first; have e4 := h2.lines
  subst e3; subst e4
  exact rget_ok h1' h2.ok n i l hn hl
theorem at_err (h : RgF w1 F W r most page first ls g) (n er : Int) (hn : ((n < 0 ∨ first + ls.length ≤ n) ∧ er = 3) ∨ (0 ≤ n ∧ n < first ∧ er = 14)) :
    Calls Tryd.prog 44 #[.pointer (some ⟨r, 0, none⟩), .int .i64 n] W fun e w' => e = .returned (.tuple #[.pointer none, .int .i64 0, .int .i64 er]) ∧ Sees W w' := by
  have fa := h.facts
  obtain ⟨a, c, h1⟩ := h.words
  rcases hn with ⟨hn, rfl⟩ | ⟨h2, h3, rfl⟩
  · refine rat_range _ _ _ _ _ _ _ h1 fa.2.2.1 n ?_
    by_cases h0 : n < 0
    · exact .inl (decide_eq_true h0)
    · exact .inr ⟨decide_eq_false h0, decide_eq_true (by omega)⟩
  · exact rat_gone _ _ _ _ _ _ _ h1 fa.2.2.1 n (decide_eq_false (by omega)) (decide_eq_false (by omega)) (decide_eq_true h3)
theorem get_err (h : RgF w1 F W r most page first ls g) (n er : Int) (hn : ((n < 0 ∨ first + ls.length ≤ n) ∧ er = 3) ∨ (0 ≤ n ∧ n < first ∧ er = 14)) :
    Calls Tryd.prog 38 #[.pointer (some ⟨r, 0, none⟩), .int .i64 n] W fun e w' => e = .returned (.tuple #[.agg #[.slice none 0 0, .bool false], .int .i64 er]) ∧ Sees W w' :=
  rget_err W _ n er (beq_eq_false_iff_ne.2 (by rcases hn with ⟨_, rfl⟩ | ⟨_, _, rfl⟩ <;> decide)) (fun W' hs => (h.sees hs).at_err n er hn)
theorem set (h : RgF w1 F W r most page first ls g) (ht : Tabs w1) (n : Int) (i : Nat) (hn : n = first + i) (hi : i < ls.length) (v : Value) (cs : List Cell) (soft : Bool) (hv : RdC G W v cs) (hG : ∀ b, G b → ¬ F b) (hok : lnOk cs = true) :
    Calls Tryd.prog 21 #[.pointer (some ⟨r, 0, none⟩), .int .i64 n, .agg #[v, .bool soft]] W fun e w' => e = .returned (.int .i64 0) ∧ RgF w1 (fun b => F b ∨ W.heap.size ≤ b) w' r most page first (ls.set i ⟨cs, soft⟩) g ∧ Keeps F W w' := by
  have fa := h.facts
  obtain ⟨d, h1', h2, h3⟩ := h
  have e := h2.ok.tot
  have e1 := h2.most; have e2 := h2.page; have e3 := h2.first; have e4 := h2.lines; have e5 := h2.gl
  subst e1; subst e2; subst e3; subst e4; subst e5
  refine (rset_ok (ht.sees h1'.see) h1' h2.ok n i hn hi v cs soft hv hG hok).mono ?_
  rintro e w' ⟨rfl, ps', hr, hok', hl, hgl, hk⟩
  exact ⟨rfl, ⟨_, hr, ⟨⟨h2.ok.most0, h2.ok.most1, h2.ok.page0, h2.ok.page1, h2.ok.first0, h2.ok.next1, by show d.first + ((linesP ps').length : Int) = d.next; rw [hl, List.length_set]; exact h2.ok.tot, by show (linesP ps').length ≤ _; rw [hl, List.length_set]; exact h2.ok.few, hok'⟩, rfl, rfl, rfl, hl, hgl⟩, by rw [List.length_set]; exact h3⟩, hk⟩
theorem range (h : RgF w1 F W r most page first ls g) (fr up : Int) (f t : Nat) (hf : fr = first + f) (ht : up = first + t) (hft : f ≤ t) (htn : t ≤ ls.length) :
    Calls Tryd.prog 35 #[.pointer (some ⟨r, 0, none⟩), .int .i64 fr, .int .i64 up] W fun e w' => ∃ v, e = .returned (.tuple #[v, .int .i64 0]) ∧ lnEl.Own (fun b => W.heap.size ≤ b) w' v (seg f t ls) ∧ Sees W w' := by
  obtain ⟨d, h1', h2, h3⟩ := h
  have e3 := h2.first; have e4 := h2.lines
  subst e3; subst e4
  exact rrange_ok h1' h2.ok fr up f t hf ht hft htn
theorem range_err (h : RgF w1 F W r most page first ls g) (fr up er : Int) (hn : ((fr < 0 ∨ up < fr ∨ first + ls.length < up) ∧ er = 3) ∨ (0 ≤ fr ∧ fr ≤ up ∧ up ≤ first + ls.length ∧ fr < first ∧ er = 14)) :
    Calls Tryd.prog 35 #[.pointer (some ⟨r, 0, none⟩), .int .i64 fr, .int .i64 up] W fun e w' => e = .returned (.tuple #[.slice none 0 0, .int .i64 er]) ∧ Sees W w' := by
  have fa := h.facts
  obtain ⟨a, c, h1⟩ := h.words
  rcases hn with ⟨hn, rfl⟩ | ⟨h2, h3, h4, h5, rfl⟩
  · refine rrange_range _ _ _ _ _ _ _ h1 fa.2.2.1 fr up ?_
    by_cases h0 : fr < 0
    · exact .inl (decide_eq_true h0)
    by_cases h00 : up < fr
    · exact .inr (.inl ⟨decide_eq_false h0, decide_eq_true h00⟩)
    · exact .inr (.inr ⟨decide_eq_false h0, decide_eq_false h00, decide_eq_true (by omega)⟩)
  · exact rrange_gone _ _ _ _ _ _ _ h1 fa.2.2.1 fr up (decide_eq_false (by omega)) (decide_eq_false (by omega)) (decide_eq_false (by omega)) (decide_eq_true h5)
end RgF
theorem new_rg (most page : Int) (w : World) (h0 : 0 ≤ most) (h1 : most ≤ 1048576) (h2 : 1 ≤ page) (h3 : page ≤ 1024) :
    Calls Tryd.prog 6 #[.int .i64 most, .int .i64 page] w fun e w' => e = .returned (.tuple #[.pointer (some ⟨w.heap.size, 0, none⟩), .int .i64 0]) ∧ RgF w (fun b => b = w.heap.size) w' w.heap.size most page 0 [] [] := by
  refine (rnew_ok most page w h0 h1 h2 h3).mono ?_
  rintro e w' ⟨rfl, hr⟩
  exact ⟨rfl, _, hr, ⟨⟨h0, h1, h2, h3, Int.le_refl _, by show (0 : Int) ≤ 1000000000; omega, by simp [linesP], by simp [linesP], fun p hp => by cases hp⟩, rfl, rfl, rfl, rfl, rfl⟩, by simp; omega⟩
end Go.Proofs.YthjcnhgfagefjaaDoor

namespace Go.Proofs.YthjcnhgfagefjaaDoor
set_option linter.unusedVariables false
set_option linter.unusedSimpArgs false
open Go.RowKit

/-- A ring whose memory lies between what 'w1' had and M. -/
structure RgS (w1 : World) (M : Nat) (W : World) (r : Nat) (most page first : Int) (ls : List Ln) (g : List (Int × Nat)) : Prop where
  ring : RgF w1 (fun b => w1.heap.size ≤ b ∧ b < M) W r most page first ls g
  le : M ≤ W.heap.size
theorem rnil (w : World) : RdCells w (.slice none 0 0) [] := ⟨none, 0, rfl, fun h => absurd rfl h⟩
namespace RgF
variable {w1 W W' : World} {F : Nat → Prop} {r : Nat} {most page first : Int} {ls : List Ln} {g : List (Int × Nat)}
theorem gets (h : RgF w1 F W r most page first ls g) (n : Int) (i : Nat) (l : Ln) (hn : n = first + i) (hl : ls[i]? = some l) (u : Value) (hu : RdCells W u l.cells) :
    Calls Tryd.prog 12 #[.pointer (some ⟨r, 0, none⟩), .int .i64 n, .agg #[u, .bool l.soft], .int .i64 0] W fun e w' => e = .returned (.bool true) ∧ Sees W w' := by
  refine rgets_true _ n 0 u l W hu (h.lenc l (List.mem_iff_getElem?.2 ⟨i, hl⟩)) fun W' hs => ((h.sees hs).get n i l hn hl).mono ?_
  rintro e w' ⟨v', rfl, ho, hs⟩
  exact ⟨v', rfl, ho.rd, hs⟩
end RgF
namespace RgS
variable {w1 W W' : World} {M r : Nat} {most page first : Int} {ls : List Ln} {g : List (Int × Nat)}
theorem see (h : RgS w1 M W r most page first ls g) : Sees w1 W := h.ring.see
theorem sees (h : RgS w1 M W r most page first ls g) (hs : Sees W W') : RgS w1 M W' r most page first ls g := ⟨h.ring.sees hs, Nat.le_trans h.le hs.size⟩
theorem of {F : Nat → Prop} (h : RgF w1 F W r most page first ls g) : RgS w1 W.heap.size W r most page first ls g :=
  ⟨h.mono (fun b hb hF => ⟨h.low b hF, hb⟩) (fun b hb => hb.1), Nat.le_refl _⟩
theorem top (h : RgS w1 M W r most page first ls g) : RgS w1 W.heap.size W r most page first ls g := of h.ring
theorem keep (h : RgS w1 M W r most page first ls g) (hk : Keeps (fun b => w1.heap.size ≤ b ∧ b < M) W W') : Sees w1 W' :=
  ((Keeps.of_sees (F := fun b => w1.heap.size ≤ b ∧ b < M) h.see).trans hk).sees_end (fun b hb hF => by omega)
theorem facts (h : RgS w1 M W r most page first ls g) : 0 ≤ most ∧ most ≤ 1048576 ∧ 1 ≤ page ∧ page ≤ 1024 ∧ 0 ≤ first ∧ first + ls.length ≤ 1000000000 ∧ (ls.length : Int) ≤ most ∧ ls.length ≤ 1048576 := h.ring.facts
theorem rgfirst (h : RgS w1 M W r most page first ls g) : Calls Tryd.prog 17 #[.pointer (some ⟨r, 0, none⟩)] W fun e w' => e = .returned (.int .i64 first) ∧ Sees W w' := h.ring.rgfirst
theorem rgnext (h : RgS w1 M W r most page first ls g) (n : Int) (hn : first + ls.length = n) : Calls Tryd.prog 18 #[.pointer (some ⟨r, 0, none⟩)] W fun e w' => e = .returned (.int .i64 n) ∧ Sees W w' := h.ring.rgnext n hn
theorem rgpages (h : RgS w1 M W r most page first ls g) (n : Int) (hn : (g.length : Int) = n) : Calls Tryd.prog 16 #[.pointer (some ⟨r, 0, none⟩)] W fun e w' => e = .returned (.int .i64 n) ∧ Sees W w' := h.ring.rgpages n hn
theorem rglen (h : RgS w1 M W r most page first ls g) (n : Int) (hn : (ls.length : Int) = n) : Calls Tryd.prog 23 #[.pointer (some ⟨r, 0, none⟩)] W fun e w' => e = .returned (.int .i64 n) ∧ Sees W w' := h.ring.rglen n hn
theorem push (h : RgS w1 M W r most page first ls g) (ht : Tabs w1) (hnx : first + ls.length < 1000000000) (G : Nat → Prop) (v : Value) (cs : List Cell) (soft : Bool) (hv : RdC G W v cs) (hG : ∀ b, G b → b < w1.heap.size ∨ M ≤ b) (hok : lnOk cs = true) (k : Nat) (hk : k = ls.length + 1 - most.toNat) (n : Int) (hn : first + ls.length = n) :
    Calls Tryd.prog 33 #[.pointer (some ⟨r, 0, none⟩), .agg #[v, .bool soft]] W fun e w' => e = .returned (.tuple #[.int .i64 n, .int .i64 0]) ∧
      RgS w1 w'.heap.size w' r most page (first + k) ((ls ++ [(⟨cs, soft⟩ : Ln)]).drop k) (dropG k (pushG page g)) ∧ Keeps (fun b => w1.heap.size ≤ b ∧ b < M) W w' := by
  refine (h.ring.push ht hnx v cs soft hv (fun b hb hF => by have := hG b hb; omega) hok k hk n hn).mono ?_
  rintro e w' ⟨rfl, h1, h2⟩
  exact ⟨rfl, of h1, h2⟩
theorem limit (h : RgS w1 M W r most page first ls g) (n : Int) (h0 : 0 ≤ n) (h1 : n ≤ 1048576) (k : Nat) (hk : k = ls.length - n.toNat) :
    Calls Tryd.prog 20 #[.pointer (some ⟨r, 0, none⟩), .int .i64 n] W fun e w' => e = .returned (.int .i64 0) ∧
      RgS w1 w'.heap.size w' r n page (first + k) (ls.drop k) (dropG k g) ∧ Keeps (fun b => w1.heap.size ≤ b ∧ b < M) W w' := by
  refine (h.ring.limit n h0 h1 k hk).mono ?_
  rintro e w' ⟨rfl, h1, h2⟩
  exact ⟨rfl, of h1, h2⟩
theorem limit_arg (h : RgS w1 M W r most page first ls g) (n : Int) (hn : n < 0 ∨ 1048576 < n) :
    Calls Tryd.prog 20 #[.pointer (some ⟨r, 0, none⟩), .int .i64 n] W fun e w' => e = .returned (.int .i64 2) ∧ Sees W w' := by
  obtain ⟨a, c, h1⟩ := h.ring.words
  refine rlimit_arg _ _ _ _ _ _ h1 h.facts.2.2.1 n ?_
  by_cases h0 : n < 0
  · exact .inl (decide_eq_true h0)
  · exact .inr ⟨decide_eq_false h0, decide_eq_true (by omega)⟩
theorem clear (h : RgS w1 M W r most page first ls g) (n : Int) (hn : first + ls.length = n) :
    Calls Tryd.prog 22 #[.pointer (some ⟨r, 0, none⟩)] W fun e w' => e = .returned (.tuple #[]) ∧ RgS w1 w'.heap.size w' r most page n [] [] ∧ Keeps (fun b => w1.heap.size ≤ b ∧ b < M) W w' := by
  refine (h.ring.clear n hn).mono ?_
  rintro e w' ⟨rfl, h1, h2⟩
  exact ⟨rfl, of h1, h2⟩
theorem pop (l : Ln) (h : RgS w1 M W r most page first (ls ++ [l]) g) :
    Calls Tryd.prog 41 #[.pointer (some ⟨r, 0, none⟩)] W fun e w' => ∃ v', e = .returned (.tuple #[.agg #[v', .bool l.soft], .int .i64 0]) ∧ OwnCells w' 0 v' l.cells ∧
      RgS w1 w'.heap.size w' r most page first ls (popG g) ∧ Keeps (fun b => w1.heap.size ≤ b ∧ b < M) W w' := by
  refine (RgF.pop l h.ring).mono ?_
  rintro e w' ⟨v', rfl, h1, _, h2, h3⟩
  exact ⟨v', rfl, h1, of h2, h3⟩
theorem pop_none (h : RgS w1 M W r most page first [] g) :
    Calls Tryd.prog 41 #[.pointer (some ⟨r, 0, none⟩)] W fun e w' => e = .returned (.tuple #[.agg #[.slice none 0 0, .bool false], .int .i64 9]) ∧ Sees W w' := h.ring.pop_none
theorem set (h : RgS w1 M W r most page first ls g) (ht : Tabs w1) (G : Nat → Prop) (n : Int) (i : Nat) (hn : n = first + i) (hi : i < ls.length) (v : Value) (cs : List Cell) (soft : Bool) (hv : RdC G W v cs) (hG : ∀ b, G b → b < w1.heap.size ∨ M ≤ b) (hok : lnOk cs = true) :
    Calls Tryd.prog 21 #[.pointer (some ⟨r, 0, none⟩), .int .i64 n, .agg #[v, .bool soft]] W fun e w' => e = .returned (.int .i64 0) ∧ RgS w1 w'.heap.size w' r most page first (ls.set i ⟨cs, soft⟩) g ∧ Keeps (fun b => w1.heap.size ≤ b ∧ b < M) W w' := by
  refine (h.ring.set ht n i hn hi v cs soft hv (fun b hb hF => by have := hG b hb; omega) hok).mono ?_
  rintro e w' ⟨rfl, h1, h2⟩
  exact ⟨rfl, of h1, h2⟩
/-- A line is pushed. -/
theorem pushes (h : RgS w1 M W r most page first ls g) (ht : Tabs w1) (hnx : first + ls.length < 1000000000) (G : Nat → Prop) (v : Value) (cs : List Cell) (soft : Bool) (hv : RdC G W v cs) (hG : ∀ b, G b → b < w1.heap.size ∨ M ≤ b) (hok : lnOk cs = true) (k : Nat) (hk : k = ls.length + 1 - most.toNat) (n : Int) (hn : first + ls.length = n) :
    Calls Tryd.prog 15 #[.pointer (some ⟨r, 0, none⟩), .agg #[v, .bool soft], .int .i64 n, .int .i64 0] W fun e w' => e = .returned (.bool true) ∧
      RgS w1 w'.heap.size w' r most page (first + k) ((ls ++ [(⟨cs, soft⟩ : Ln)]).drop k) (dropG k (pushG page g)) ∧ Keeps (fun b => w1.heap.size ≤ b ∧ b < M) W w' := by
  obtain ⟨ao, c, e, _⟩ := id hv
  refine rpushes_true (fun b => w1.heap.size ≤ b ∧ b < M) (fun w' => RgS w1 w'.heap.size w' r most page (first + k) ((ls ++ [(⟨cs, soft⟩ : Ln)]).drop k) (dropG k (pushG page g))) _ n 0 v soft W ao cs.length c e (fun W W' h hs => (h.sees hs).top) (fun W' hs => ((h.sees hs).push ht hnx G v cs soft (hv.sees hs) hG hok k hk n hn).mono ?_)
  rintro e w' ⟨rfl, h1, h2⟩
  exact ⟨rfl, h2, h1⟩
/-- A line is there. -/
theorem gets (h : RgS w1 M W r most page first ls g) (n : Int) (i : Nat) (l : Ln) (hn : n = first + i) (hl : ls[i]? = some l) (u : Value) (hu : RdCells W u l.cells) :
    Calls Tryd.prog 12 #[.pointer (some ⟨r, 0, none⟩), .int .i64 n, .agg #[u, .bool l.soft], .int .i64 0] W fun e w' => e = .returned (.bool true) ∧ Sees W w' := by
  refine rgets_true _ n 0 u l W hu (h.ring.lenc l (List.mem_iff_getElem?.2 ⟨i, hl⟩)) fun W' hs => ((h.sees hs).ring.get n i l hn hl).mono ?_
  rintro e w' ⟨v', rfl, ho, hs⟩
  exact ⟨v', rfl, ho.rd, hs⟩
theorem gets_err (h : RgS w1 M W r most page first ls g) (n er : Int) (hn : ((n < 0 ∨ first + ls.length ≤ n) ∧ er = 3) ∨ (0 ≤ n ∧ n < first ∧ er = 14)) :
    Calls Tryd.prog 12 #[.pointer (some ⟨r, 0, none⟩), .int .i64 n, .agg #[.slice none 0 0, .bool false], .int .i64 er] W fun e w' => e = .returned (.bool true) ∧ Sees W w' := by
  refine rgets_true _ n er _ ⟨[], false⟩ W (rnil W) (by simp) fun W' hs => ((h.sees hs).ring.get_err n er hn).mono ?_
  rintro e w' ⟨rfl, hs⟩
  exact ⟨_, rfl, rnil _, hs⟩
/-- The last line is popped. -/
theorem pops (l : Ln) (h : RgS w1 M W r most page first (ls ++ [l]) g) (G : Nat → Prop) (u : Value) (hu : RdC G W u l.cells) (hG : ∀ b, G b → b < w1.heap.size ∨ M ≤ b) :
    Calls Tryd.prog 19 #[.pointer (some ⟨r, 0, none⟩), .agg #[u, .bool l.soft], .int .i64 0] W fun e w' => e = .returned (.bool true) ∧ RgS w1 w'.heap.size w' r most page first ls (popG g) ∧ Keeps (fun b => w1.heap.size ≤ b ∧ b < M) W w' := by
  have hM := h.le
  refine rpops_true (fun b => w1.heap.size ≤ b ∧ b < M) (fun w' => RgS w1 w'.heap.size w' r most page first ls (popG g)) _ 0 u l W hu.rd (h.ring.lenc l (by simp)) (fun b e => by omega) (fun W W' h hs => (h.sees hs).top) fun W' hs => (RgS.pop l (h.sees hs)).mono ?_
  rintro e w' ⟨v', rfl, h1, h2, h3⟩
  exact ⟨v', rfl, h1.rd, ((hu.sees hs).keeps h3 (fun b hb e => by have := hG b hb; omega)).rd, h3, h2⟩
theorem pops_none (h : RgS w1 M W r most page first [] g) :
    Calls Tryd.prog 19 #[.pointer (some ⟨r, 0, none⟩), .agg #[.slice none 0 0, .bool false], .int .i64 9] W fun e w' => e = .returned (.bool true) ∧ Sees W w' := by
  refine (rpops_true (fun _ => False) (fun w' => True) _ 9 _ ⟨[], false⟩ W (rnil W) (by simp) (fun b e => e.elim) (fun _ _ _ _ => trivial) fun W' hs => ((h.sees hs).pop_none).mono ?_).mono ?_
  · rintro e w' ⟨rfl, hs⟩
    exact ⟨_, rfl, rnil _, rnil _, Keeps.of_sees hs, trivial⟩
  · rintro e w' ⟨rfl, _, hk⟩
    exact ⟨rfl, hk.sees_end (fun _ _ h => h)⟩
/-- Lines from a number on, up to another one, are there. -/
theorem ranges (h : RgS w1 M W r most page first ls g) (G : Nat → Prop) (fr up : Int) (f t : Nat) (ws : List Ln) (hf : fr = first + f) (ht : up = first + t) (hft : f ≤ t) (htn : t ≤ ls.length) (hws : seg f t ls = ws) (hw : ws.length ≤ 1000000) (u : Value) (hu : RdL G W u ws) :
    Calls Tryd.prog 13 #[.pointer (some ⟨r, 0, none⟩), .int .i64 fr, .int .i64 up, .int .i64 0, u] W fun e w' => e = .returned (.bool true) ∧ Sees W w' := by
  subst hws
  have hsub : ∀ l ∈ seg f t ls, l ∈ ls := fun l hl => List.mem_of_mem_take (List.mem_of_mem_drop hl)
  refine rranges_true G _ fr up 0 u _ W hu hw (fun l hl => ?_) fun W' hs => ((h.sees hs).ring.range fr up f t hf ht hft htn).mono ?_
  · exact h.ring.lenc l (hsub l hl)
  · rintro e w' ⟨v, rfl, h1, h2⟩
    exact ⟨v, rfl, (h1.rd.mono (fun _ _ _ => trivial)).rdl, h2⟩
theorem ranges_err (h : RgS w1 M W r most page first ls g) (fr up er : Int) (hn : ((fr < 0 ∨ up < fr ∨ first + ls.length < up) ∧ er = 3) ∨ (0 ≤ fr ∧ fr ≤ up ∧ up ≤ first + ls.length ∧ fr < first ∧ er = 14)) :
    Calls Tryd.prog 13 #[.pointer (some ⟨r, 0, none⟩), .int .i64 fr, .int .i64 up, .int .i64 er, .slice none 0 0] W fun e w' => e = .returned (.bool true) ∧ Sees W w' := by
  refine rranges_true (fun _ => True) _ fr up er _ [] W (RdL.nil _ _) (by simp) (fun l hl => by cases hl) fun W' hs => ((h.sees hs).ring.range_err fr up er hn).mono ?_
  rintro e w' ⟨rfl, h2⟩
  exact ⟨_, rfl, RdL.nil _ _, h2⟩
end RgS
theorem new_rgs (most page : Int) (w : World) (h0 : 0 ≤ most) (h1 : most ≤ 1048576) (h2 : 1 ≤ page) (h3 : page ≤ 1024) :
    Calls Tryd.prog 6 #[.int .i64 most, .int .i64 page] w fun e w' => e = .returned (.tuple #[.pointer (some ⟨w.heap.size, 0, none⟩), .int .i64 0]) ∧ RgS w w'.heap.size w' w.heap.size most page 0 [] [] := by
  refine (new_rg most page w h0 h1 h2 h3).mono ?_
  rintro e w' ⟨rfl, h⟩
  exact ⟨rfl, RgS.of h⟩
end Go.Proofs.YthjcnhgfagefjaaDoor
