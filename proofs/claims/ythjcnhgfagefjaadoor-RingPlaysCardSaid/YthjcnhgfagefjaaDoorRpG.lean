/- The reference of layer 8: Push. The reference of layer 8: Pop. The reference of layer 8: Set, and the errors of Push and Set. No condition. -/
import Derived.Test.YthjcnhgfagefjaaDoorRpD
namespace Go.Proofs.YthjcnhgfagefjaaDoor
set_option linter.unusedVariables false
set_option linter.unusedSimpArgs false
open Go.RowKit

theorem pushG_full : ∀ (g : List (Int × Nat)) (p : Int) (x : Int × Nat), g[g.length - 1]? = some x → x.1 + x.2 = p → pushG p g = g ++ [(0, 1)]
  | [], p, x, h, _ => by cases h
  | [y], p, x, h, hx => by
    simp at h
    subst h
    unfold pushG
    rw [if_pos hx]; rfl
  | y :: z :: g, p, x, h, hx => by
    have ih := pushG_full (z :: g) p x (by simpa using h) hx
    unfold pushG
    rw [ih]; rfl
theorem pushG_room : ∀ (g : List (Int × Nat)) (p : Int) (x : Int × Nat), g[g.length - 1]? = some x → x.1 + x.2 ≠ p → pushG p g = g.set (g.length - 1) (x.1, x.2 + 1)
  | [], p, x, h, _ => by cases h
  | [y], p, x, h, hx => by
    simp at h
    subst h
    unfold pushG
    rw [if_neg hx]; rfl
  | y :: z :: g, p, x, h, hx => by
    have ih := pushG_room (z :: g) p x (by simpa using h) hx
    unfold pushG
    rw [ih]
    simp
theorem sumG_append (g h : List (Int × Nat)) : sumG (g ++ h) = sumG g + sumG h := by
  unfold sumG; rw [List.map_append, List.sum_append]
theorem sumG_pushG (p : Int) : ∀ (g : List (Int × Nat)), sumG (pushG p g) = sumG g + 1
  | [] => rfl
  | [x] => by
    unfold pushG
    split
    · rfl
    · simp [sumG]
  | x :: y :: g => by
    have ih := sumG_pushG p (y :: g)
    have e := sumG_cons x (y :: g)
    unfold pushG
    rw [sumG_cons, ih, e]
    omega
theorem gp_one {W : World} {b : Nat} (h : W.heap[b]? = some (.cells #[.int .i64 0, .int .i64 0] 92 (0, 0))) : gpEl.Rd (fun c => c = b) W (.slice (some ⟨b, 0, none⟩) 1 1) [((0 : Int), 0)] := by
  refine ⟨some ⟨b, 0, none⟩, 1, rfl, Nat.le_refl _, fun _ => ⟨b, 0, rfl, rfl, fun i x hx => ?_⟩⟩
  rcases i with _ | i
  · cases hx
    refine ⟨_, rfl, fun j u hu => ?_⟩
    rw [cell_of_row _ _ _ _ _ _ h, Nat.zero_mul, Nat.zero_add]; simpa using hu
  · cases hx

set_option maxRecDepth 100000 in
set_option maxHeartbeats 4000000 in
theorem refPush08 (G : Nat → Prop) (m p f : Int) (vl vp u : Value) (ls : List Ln) (g : List (Int × Nat)) (cs : List Cell) (soft : Bool) (w : World) (hb : B8 m p f ls g) (hfn : f + ls.length < 1000000000) (h : RrRd G w vl vp ls g) (hu : RdCells w u cs) (hok : lnOk cs = true) (k : Nat) (hk : k = ls.length + 1 - m.toNat) :
    Calls Tryd.prog 25 #[rrV m p f vl vp, .agg #[u, .bool soft]] w fun e w' => ∃ vl' vp', e = .returned (.tuple #[rrV m p (f + k) vl' vp', .int .i64 0]) ∧ RrRd (wid G w) w' vl' vp' ((ls ++ [(⟨cs, soft⟩ : Ln)]).drop k) (dropG k (pushG p g)) ∧ Sees w w' := by
  obtain ⟨a, c, rfl, _⟩ := h.l.slice'
  obtain ⟨ap, cp, rfl, _⟩ := h.p.slice'
  have Hu := Lib.hid hu
  obtain ⟨ua, uc, rfl, _⟩ := hu
  have H := Lib.hid (h.mono (F := fun b => G b ∧ b < w.heap.size) (fun b hb h => ⟨h, hb⟩))
  have HB := Lib.hid hb
  have HFN := Lib.hid hfn
  have HK := Lib.hid hk
  have Hlen : Hid (cs.length ≤ 1000000) := Lib.hid (by have := lnOk_len hok; omega)
  obtain ⟨n, hn⟩ : ∃ n, n = ls.length := ⟨_, rfl⟩
  obtain ⟨np, hnp⟩ : ∃ np, np = g.length := ⟨_, rfl⟩
  obtain ⟨un, hun⟩ : ∃ un, un = cs.length := ⟨_, rfl⟩
  rw [← hn] at H ⊢
  rw [← hnp] at H ⊢
  rw [← hun] at Hu ⊢
  have Hn := Lib.hid hn
  have Hnp := Lib.hid hnp
  have Hun := Lib.hid hun
  have Hok := Lib.hid hok
  clear h hb hk hn hnp hun hok hfn
  go_enter Tryd.func25, Tryd.ntmps25
  go_wp2_with fail
  refine calls_world (fun w1 hw1 => ?_)
  have A1 : RrAt w1 w.heap.size m p f (.slice a n c) (.slice ap np cp) := by subst hw1; exact ((RrAt.new rfl).alloc _).alloc _
  have AL : LnAt w1 (w.heap.size + 1) (.slice ua un uc) soft := by subst hw1; exact (LnAt.new (by simp)).alloc _
  have A2 : RrAt w1 (w.heap.size + 1 + 1) 0 0 0 (.slice none 0 0) (.slice none 0 0) := by subst hw1; exact RrAt.new (by simp)
  have S1 : Sees w w1 := by subst hw1; exact (((Sees.refl w).alloc _).alloc _).alloc _
  have hz1 : w1.heap.size = w.heap.size + 3 := by subst hw1; simp
  clear hw1
  refine (refLine_any _ cs soft _ (Hu.out.sees S1) Hlen.out).mono ?_
  rintro e w2 ⟨rfl, hs2⟩
  rw [Hok.out]
  have A1' := A1.sees hs2
  have HAL := Lib.hid (AL.sees hs2)
  have HA2 := Lib.hid (A2.sees hs2)
  have HA1 := Lib.hid A1'
  have S2 := Lib.hid (S1.trans hs2)
  have hz2 : Hid (w.heap.size + 3 ≤ w2.heap.size) := Lib.hid (by have := hs2.size; omega)
  obtain ⟨x0, x1, x2, x3, x4⟩ := A1'.c
  clear A1 AL A2 S1 hs2 hz1 A1'
  go_wp2_with fail
  refine (refCopy08 (fun b => G b ∧ b < w.heap.size) m p f _ _ ls g w2 (by have := HB.out.len; omega) (by have := HB.out.glen; omega) (H.out.sees S2.out)).mono ?_
  rintro e w3 ⟨vl3, vp3, M, rfl, hr, hM, hMl, hgr, hMz, hs3⟩
  obtain ⟨a3, c3, rfl, _⟩ := hr.slice
  obtain ⟨ap3, cp3, rfl, _⟩ := hgr.slice
  rw [← Hn.out] at hr hMl ⊢
  rw [← Hnp.out] at hgr ⊢
  clear x0 x1 x2 x3 x4
  have C3 := HA1.out.sees hs3
  obtain ⟨x0, x1, x2, x3, x4⟩ := C3.c
  have fx := C3.fr
  go_upto_region 4 with fail
  refine wp_world (fun w4 hw4 => ?_)
  have hK4 : Keeps (fun c => c = w.heap.size) w3 w4 := by subst hw4; exact keeps5 _ _ _ _ _ _ _
  have hC4 : RrAt w4 w.heap.size m p f (.slice a3 n c3) (.slice ap3 np cp3) := by subst hw4; exact C3.set5 _ _ _ _ _
  have h2 := hz2.out
  have HL4 := Lib.hid ((HAL.out.sees hs3).keeps hK4 (by omega))
  have HB4 := Lib.hid ((HA2.out.sees hs3).keeps hK4 (by omega))
  have HR4 : Hid (lnEl.Row w.heap.size (fun b => G b ∧ b < w.heap.size) w4 (.slice a3 n c3) ls) := Lib.hid ((hr.keeps hK4 (fun b hb e => by have := (hr.base_le hb).1; have e : b = w.heap.size := e; omega) (fun b hb e => by have e : b = w.heap.size := e; have := hb.1.2; omega)).mono (fun b _ h => h.1) (by omega))
  have HP4 : Hid (gpEl.Row M (fun _ => False) w4 (.slice ap3 np cp3) g) := Lib.hid (gpRow_any ((gpRow_any (G' := fun _ => False) hgr).keeps hK4 (fun b hb e => by have := (hgr.base_le hb).1; have e : b = w.heap.size := e; omega) (fun b hb => hb.elim)))
  have HM : Hid (w.heap.size + 3 ≤ M) := Lib.hid (by omega)
  have HMl := Lib.hid hMl
  have HZM : Hid (M ≤ w4.heap.size) := Lib.hid (by have := hK4.size; omega)
  have S4 : Hid (Sees w w4) := Lib.hid (((Keeps.of_sees (F := fun _ => False) (S2.out.trans hs3)).trans' hK4 (fun b hb e => by have e : b = w.heap.size := e; omega)).sees_end (fun _ _ h => h))
  have HC4 := Lib.hid hC4
  have HB2z : Hid (∀ e, Value.ownBlock (.slice a3 n c3) = some e → w.heap.size + 3 ≤ e) := Lib.hid (fun e he => by have := (hr.base_le he).1; omega)
  clear hw4 x0 x1 x2 x3 x4 fx C3 hK4 hr hgr hM hMl hMz hs3 HAL HA2 HA1 S2 hz2 h2 H
  obtain ⟨x0, x1, x2, x3, x4⟩ := hC4.c
  clear hC4
  go_upto_region 5 with fail
  have key : (np = 0 ∨ ∃ x, g[np - 1]? = some x ∧ 1 ≤ np ∧ x.1 + x.2 = p) ∨ (∃ x, g[np - 1]? = some x ∧ 1 ≤ np ∧ x.1 + x.2 ≠ p) := by
    rcases Nat.eq_zero_or_pos np with h | h
    · exact .inl (.inl h)
    · obtain ⟨x, hx⟩ : ∃ x, g[np - 1]? = some x := ⟨_, List.getElem?_eq_getElem (by rw [← Hnp.out]; omega)⟩
      by_cases hp : x.1 + x.2 = p
      · exact .inl (.inr ⟨x, hx, h, hp⟩)
      · exact .inr ⟨x, hx, h, hp⟩
  rcases key with hA | ⟨x, hx, hnp1, hxp⟩
  · have hset : pushG p g = g ++ [(0, 1)] := by
      rcases hA with h | ⟨x, hx, _, hxp⟩
      · have e : g = [] := List.eq_nil_of_length_eq_zero (by rw [← Hnp.out]; exact h)
        rw [e]; rfl
      · exact pushG_full g p x (by rw [← Hnp.out]; exact hx) hxp
    have Hs0 := Lib.hid hset
    obtain ⟨N, hN⟩ : ∃ N, N = np + 1 := ⟨_, rfl⟩
    have hnpb : np ≤ 1048576 := by rw [Hnp.out]; exact HB.out.glen
    have g1 : IntKind.i64.wrap ((np : Int) + 1) = (N : Int) := by rw [IntWalk.i64_in _ (by omega)]; omega
    have g2 : IntKind.i64.wrap ((N : Int) - 1) = (np : Int) := by rw [IntWalk.i64_in _ (by omega)]; omega
    have HN := Lib.hid hN
    clear hset hN
    have hway : (true = true ∧ ((np : Int) == 0) = true) ∨ (((np : Int) == 0) = false ∧ ∃ (i b o : Nat) (x : Int × Nat) (z : Int), i < np ∧ ap3 = some ⟨b, o, none⟩ ∧ IntKind.i64.wrap ((np : Int) - 1) = (i : Int) ∧ w4.cell? ⟨b, o + i * 2, none⟩ = some (.int .i64 x.1) ∧ w4.cell? ⟨b, o + i * 2 + 1, none⟩ = some (.int .i64 (x.2 : Int)) ∧ IntKind.i64.wrap (x.1 + (x.2 : Int)) = z ∧ (z == p) = true) := by
      rcases hA with h | ⟨x, hx, h1, hxp⟩
      · exact .inl ⟨rfl, by rw [h]; rfl⟩
      · obtain ⟨b, o, e, _, _, _, y0, y1, _⟩ := (GRow.of_row HP4.out).at_ hx
        exact .inr ⟨beq_eq_false_iff_ne.2 (by omega), np - 1, b, o, x, p, by omega, e, by rw [IntWalk.i64_in _ (by omega)]; omega, y0, y1, by rw [hxp]; have := HB.out.pg0; have := HB.out.pg1; exact IntWalk.i64_in _ (by omega), beq_self_eq_true p⟩
    clear hA
    have q1 := fun d os => (sees_grow w4 d os).cell x1
    have q4 := fun d os => (sees_grow w4 d os).cell x4
    go_cut [37] from 16 to 37 (fun s wx => s = .bool true ∧ Sees w4 wx)
    case first =>
      rcases hway with ⟨hv, d0⟩ | ⟨d0, i, b, o, x, z, hin, rfl, gi, y0, y1, gs, d1⟩
      · (try exact absurd hv Bool.false_ne_true)
        all_goals
          clear hv
          clear x0 x1 x2 x3 x4
          refine wp_region_quiet_below (by kernel_rfl) (by kernel_rfl) ?_
          repeat (first | go_big_quiet_skip | (go_big_quiet_want; go_big_quiet_op; go_big_quiet_on))
          refine wpQuiet_nil ?_; intro w2 hw2'; have hw2 := regrown_sees hw2'; clear hw2'
          go_wp2_with fail
          go_meet
          exact ⟨rfl, hw2⟩
      · have r0 := fun d os => (sees_grow w4 d os).cell y0
        have r1 := fun d os => (sees_grow w4 d os).cell y1
        have hi0 : ¬ ((i : Nat) : Int) < 0 := by omega
        clear x0 x1 x2 x3 x4 y0 y1
        refine wp_region_quiet_below (by kernel_rfl) (by kernel_rfl) ?_
        repeat (first | go_big_quiet_skip | (go_big_quiet_want; go_big_quiet_op; go_big_quiet_on))
        refine wpQuiet_nil ?_; intro w2 hw2'; have hw2 := regrown_sees hw2'; clear hw2'
        go_wp2_with fail
        go_meet
        exact ⟨rfl, hw2⟩
    case rest =>
      obtain ⟨rfl, s5⟩ := hcut
      have C5 := HC4.out.sees s5
      have L5 := Lib.hid (HL4.out.sees s5)
      have B5 := Lib.hid (HB4.out.sees s5)
      have R5 := Lib.hid (HR4.out.sees s5)
      have HP5 := Lib.hid (HP4.out.sees s5)
      have S5 := Lib.hid (S4.out.trans s5)
      have hzm5 := Lib.hid (show M ≤ wc.heap.size by have := HZM.out; have := s5.size; omega)
      have HC5 := Lib.hid C5
      have HlN : Hid ((g ++ [((0 : Int), (0 : Nat))]).length = N) := Lib.hid (by rw [List.length_append, ← Hnp.out, HN.out]; rfl)
      have HgL : Hid (g.length + [((0 : Int), 0)].length ≤ 100000000) := Lib.hid (by have := HB.out.glen; simp; omega)
      obtain ⟨x0, x1, x2, x3, x4⟩ := C5.c
      clear C5 s5 HC4 HL4 HB4 HR4 HP4 HZM S4 q1 q4
      go_upto_region 7 with (at_builtin; go_loud (refine El.wpList_append_row (G := fun c => c = wc.heap.size) (base := M) typedGp rfl (.tmp 39) (.tmp 41) rfl (by go_simp) (gpRow_any (HP5.out.sees ((Sees.refl wc).alloc (.cells #[.int .i64 0, .int .i64 0] 92)))) (.slice (some ⟨wc.heap.size, 0, none⟩) 1 1) (by go_simp) [((0 : Int), 0)] (gp_one (heap_alloc_new wc _)) (fun c (hc : c = wc.heap.size) e => by have := (HP5.out.base_le e).2; omega) HgL.out (by have := hzm5.out; rw [World.size_alloc]; omega) ?_; intro v6 w6 hr6 hk6 hob6; obtain ⟨a6, c6, hv6, _⟩ := hr6.slice; rw [HlN.out] at hv6; subst hv6; have HR6 := Lib.hid hr6; have HK6 := Lib.hid (show Keeps (fun c => M ≤ c) wc w6 from ((Keeps.of_sees (F := fun c => M ≤ c) ((Sees.refl wc).alloc (.cells #[.int .i64 0, .int .i64 0] 92))).trans (hk6.mono (fun c _ h => (HP5.out.base_le h).1)))); clear hr6 hk6 hob6 x0 x1 x2 x3 x4; have HC6 := Lib.hid (HC5.out.keeps HK6.out (by have := HM.out; omega)); obtain ⟨x0, x1, x2, x3, x4⟩ := HC6.out.c; have fx := HC6.out.fr))
      refine wp_world (fun w7 hw7 => ?_)
      have hK7 : Keeps (fun c => c = w.heap.size) w6 w7 := by subst hw7; exact keeps1 _ _ _ _
      have C5 : RrAt w7 w.heap.size m p f (.slice a3 n c3) (.slice a6 N c6) := by subst hw7; exact HC6.out.set4 _
      have hK57 : Keeps (fun c => c = w.heap.size ∨ M ≤ c) wc w7 := (HK6.out.mono (fun _ _ h => .inr h)).trans (hK7.mono (fun _ _ h => .inl h))
      have hM := HM.out
      have L5' := Lib.hid (L5.out.keeps hK57 (by omega))
      have B5' := Lib.hid (B5.out.keeps hK57 (by omega))
      have R5' := Lib.hid (R5.out.keeps hK57 (fun c hc e => by have h1 := HMl.out c hc; have h2 := HB2z.out c hc; rcases e with e | e <;> omega) (fun c hc e => by have := hc.2; rcases e with e | e <;> omega))
      have S5' : Hid (Sees w w7) := Lib.hid (((Keeps.of_sees (F := fun _ => False) S5.out).trans' hK57 (fun c hc e => by rcases e with e | e <;> omega)).sees_end (fun _ _ h => h))
      have P5 : GRow (fun c => M ≤ c) w7 (.slice a6 N c6) (g ++ [((0 : Int), 0)]) := (GRow.of_row HR6.out).keeps hK7 (fun c hc e => by have hc : M ≤ c := hc; have e : c = w.heap.size := e; omega)
      have HZM := Lib.hid (show M ≤ w7.heap.size by have := hzm5.out; have := hK57.size; omega)
      clear hw7 x0 x1 x2 x3 x4 fx hK7 hK57 hM HC6 HR6 HK6 L5 B5 R5 S5 HP5 HC5
      obtain ⟨cp5, hcp5⟩ : ∃ cp5, cp5 = c6 := ⟨_, rfl⟩
      rw [← hcp5] at C5 P5
      clear hcp5
      have L5 := L5'
      have B5 := B5'
      have R5 := R5'
      have S5 := S5'
      clear L5' B5' R5' S5'
      obtain ⟨w5, hw5e⟩ : ∃ w5, w5 = w7 := ⟨_, rfl⟩
      rw [← hw5e] at C5 P5 L5 B5 R5 S5 HZM ⊢
      clear hw5e
      obtain ⟨x0, x1, x2, x3, x4⟩ := C5.c
      go_upto_region 8 with fail
      obtain ⟨x5, hx5e⟩ : ∃ x5 : Int × Nat, x5 = ((0 : Int), 0) := ⟨_, rfl⟩
      have hx5 : (g ++ [((0 : Int), 0)])[np]? = some x5 := by rw [hx5e, Hnp.out, List.getElem?_append_right (Nat.le_refl _), Nat.sub_self]; rfl
      have hx5b : x5.2 ≤ 1024 := by rw [hx5e]; simp
      have Hset : Hid ((g ++ [((0 : Int), 0)]).set np (x5.1, x5.2 + 1) = pushG p g) := Lib.hid (by rw [Hs0.out, hx5e, Hnp.out, List.set_append_right _ _ (Nat.le_refl _), Nat.sub_self]; rfl)
      clear hx5e x0 x1 x2 x3 x4
      obtain ⟨b, o, rfl, hbF, hbz, hNg, y0, y1, fy, _, hs1⟩ := P5.at_ hx5
      have HS1 := Lib.hid hs1
      have g3 : IntKind.i64.wrap ((x5.2 : Int) + 1) = ((x5.2 + 1 : Nat) : Int) := by rw [IntWalk.i64_in _ (by omega)]; omega
      have hiN : np < N := by rw [hNg]; exact (List.getElem?_eq_some_iff.1 hx5).1
      have hi0 : ¬ ((np : Nat) : Int) < 0 := by omega
      obtain ⟨x0, x1, x2, x3, x4⟩ := C5.c
      have HbF := Lib.hid hbF
      have HC5 := Lib.hid C5
      obtain ⟨z5, hz5⟩ : ∃ z5, z5 = x5.2 + 1 := ⟨_, rfl⟩
      rw [← hz5] at g3
      have Hz5 := Lib.hid hz5
      clear hs1 hNg hbF C5 hz5
      go_upto_region 9 with fail
      refine wp_world (fun w6 hw6 => ?_)
      have P6 : GRow (fun b => M ≤ b) w6 (.slice (some ⟨b, o, none⟩) N cp5) (pushG p g) := by rw [← Hset.out]; subst hw6; rw [← Hz5.out]; exact HS1.out z5
      have K6 : Keeps (fun c => c = b) w5 w6 := by subst hw6; exact keeps1 _ _ _ _
      have hbM : M ≤ b := HbF.out
      have hMw := HM.out
      have C6 := HC5.out.keeps K6 (by omega)
      have L6 := L5.out.keeps K6 (by omega)
      have B6 := Lib.hid (B5.out.keeps K6 (by omega))
      have R6 := Lib.hid (R5.out.keeps K6 (fun c hc e => by have e : c = b := e; subst e; have := HMl.out c hc; omega) (fun c hc e => by have e : c = b := e; subst e; have := hc.2; omega))
      have S6 : Hid (Sees w w6) := Lib.hid (((Keeps.of_sees (F := fun _ => False) S5.out).trans' K6 (fun c hc e => by have e : c = b := e; omega)).sees_end (fun _ _ h => h))
      have HC6 := Lib.hid C6
      have HL6 := Lib.hid L6
      have HZ6 := Lib.hid (show M ≤ w6.heap.size by have := HZM.out; have := K6.size; omega)
      have HP6 := Lib.hid P6
      clear hw6 x0 x1 x2 x3 x4 y0 y1 fy HS1 K6 C6 L6 P6 HC5 L5 B5 R5 S5 hMw hbM P5 hbz g3
      refine wpFrom_go (by kernel_rfl) (by kernel_rfl) (fun hB w7 hs7 => ?_)
      have S7 := Lib.hid (S6.out.trans hs7)
      have C7 := Lib.hid (HC6.out.sees hs7)
      have L7 := Lib.hid (HL6.out.sees hs7)
      have B7 := Lib.hid (B6.out.sees hs7)
      have R7 := Lib.hid (R6.out.sees hs7)
      have P7 := Lib.hid (HP6.out.sees hs7)
      have hz7 : Hid (M ≤ w7.heap.size) := Lib.hid (by have h1 := HZ6.out; have := hs7.size; omega)
      clear hs7 S6 HC6 HL6 B6 R6 HP6
      have hval : ∀ x v, (Spec.is x).val v = x := fun _ _ => rfl
      have hval2 : ∀ V v, (Spec.so V).val v = v := fun _ _ => rfl
      have hst : segStay (Sees w7) [.is (.pointer (some ⟨w.heap.size, 3, none⟩)), .is (.slice a3 n c3), .is (.agg #[.slice ua un uc, .bool soft]),
          .so (fun u W => ∃ va vc, u = .agg #[.slice va un vc, .bool soft] ∧ OwnCells W w7.heap.size (.slice va un vc) cs), .so (fun u W => ∃ b, u = .slice (some ⟨b, 0, none⟩) 1 1 ∧ lnEl.Rd (fun c => w7.heap.size ≤ c) W (.slice (some ⟨b, 0, none⟩) 1 1) [(⟨cs, soft⟩ : Ln)])] :=
        ⟨fun u W W' _ h hs => by obtain ⟨va, vc, e, h⟩ := h; exact ⟨va, vc, e, OwnCells.sees h hs⟩, fun u W W' _ h hs => by obtain ⟨b, e, h⟩ := h; exact ⟨b, e, h.sees hs⟩, trivial⟩
      refine wpFrom_any 5 _ hB (by kernel_rfl) rfl hst (by simp only [List.cons_append, List.nil_append, List.drop_succ_cons, List.drop_zero, List.take_succ_cons, List.take_zero, Nat.reduceSub]; rfl) ?_
      refine ⟨fun vs W hI hV => .inl ⟨by clear hI hV hst; go_simp, .inl (by clear hI hV hst; (try simp only [Act.put, hval, hval2, List.setIfInBounds_toArray, List.set_cons_zero, List.set_cons_succ]); go_simp)⟩, ?_⟩
      refine ⟨fun vs W hI hV => .inl ⟨by clear hI hV hst; go_simp, .inl (by have q := (C7.out.sees hI).c; obtain ⟨q0, q1, q2, q3, q4⟩ := q; clear hI hV hst; (try simp only [Act.put, hval, hval2, List.setIfInBounds_toArray, List.set_cons_zero, List.set_cons_succ]); go_simp)⟩, ?_⟩
      refine ⟨fun vs W hI hV => .inl ⟨by clear hI hV hst; go_simp, .inl (by have q := (L7.out.sees hI).c; obtain ⟨q0, q1⟩ := q; clear hI hV hst; (try simp only [Act.put, hval, hval2, List.setIfInBounds_toArray, List.set_cons_zero, List.set_cons_succ]); go_simp)⟩, ?_⟩
      refine ⟨fun vs W hI hV => .inl ⟨by clear hI hV hst; (try simp only [Act.put, hval, hval2, List.setIfInBounds_toArray, List.set_cons_zero, List.set_cons_succ]); go_simp, .inr (.inr ⟨24, #[.agg #[.slice ua un uc, .bool soft]], by clear hI hV hst; (try simp only [Act.put, hval, hval2, List.setIfInBounds_toArray, List.set_cons_zero, List.set_cons_succ]); go_simp, ?_⟩)⟩, ?_⟩
      · refine (refCopy_any (.slice ua un uc) cs soft W (Hu.out.sees (S7.out.trans hI)) Hlen.out).mono ?_
        rintro e w' ⟨v', rfl, ho, hs⟩
        obtain ⟨va, vc, rfl⟩ := ho.slice
        rw [← Hun.out] at ho ⊢
        have hzz := hI.size
        exact ⟨_, rfl, rgGood_mk hst hI ⟨va, vc, rfl, ho.mono (by omega)⟩ hs⟩
      refine ⟨fun vs W hI hV => .inl ⟨by clear hI hV hst; (try simp only [Act.put, hval, hval2, List.setIfInBounds_toArray, List.set_cons_zero, List.set_cons_succ]); go_simp, .inl ?_⟩, ?_⟩
      · obtain ⟨va, vc, e3, ho⟩ := hV 3 _ (by kernel_rfl) rfl
        have hsA : Sees W (W.alloc (.cells #[.slice va un vc, .bool soft] 36)) := (Sees.refl W).alloc _
        have hrow := heap_alloc_new W (.cells #[.slice va un vc, .bool soft] 36)
        have hzz := hI.size
        refine ⟨.slice (some ⟨W.heap.size, 0, none⟩) 1 1, W.alloc (.cells #[.slice va un vc, .bool soft] 36), ?_, rgGood_mk hst hI ⟨_, rfl, ln_row_one hrow (OwnCells.sees ho hsA) hzz (fun g hg => (El.rowLt ho hg).1)⟩ hsA⟩
        clear hI hV hst hsA hrow
        (try simp only [Act.put, hval, hval2, List.setIfInBounds_toArray, List.set_cons_zero, List.set_cons_succ])
        go_simp
      intro vs W8 hI hV
      obtain ⟨b8, e8, hr8⟩ := hV 4 _ rfl
      have S8 := Lib.hid (S7.out.trans hI)
      have C8 := (C7.out.sees hI)
      have B8' := Lib.hid (B7.out.sees hI)
      have R8 := Lib.hid (R7.out.sees hI)
      have P8 := Lib.hid (P7.out.sees hI)
      have HR8 := Lib.hid hr8
      have hz8 := Lib.hid hI.size
      have HC8 := Lib.hid C8
      obtain ⟨x0, x1, x2, x3, x4⟩ := C8.c
      have fx := C8.fr
      clear hI hV hst hr8 C8 C7 L7 B7 R7 P7
      (try simp only [Act.put, hval, hval2, List.setIfInBounds_toArray, List.set_cons_zero, List.set_cons_succ])
      go_simp
      refine wpFrom_to 8 hB (fun _ _ _ _ _ h => h) (by kernel_rfl) (by simp only [List.cons_append, List.nil_append, List.drop_succ_cons, List.drop_zero, List.take_succ_cons, List.take_zero, Nat.reduceSub]; rfl) ?_
      have HRw : Hid (lnEl.Row w.heap.size (fun c => ((G c ∧ c < w.heap.size) ∨ w7.heap.size ≤ c) ∧ Value.ownBlock (.slice a3 n c3) ≠ some c) W8 (.slice a3 n c3) ls) := Lib.hid (R8.out.mono (fun c _ h => ⟨.inl h, fun e => by have h1 := (R8.out.base_le e).1; have := h.2; omega⟩) (Nat.le_refl _))
      have HRu : Hid (lnEl.Rd (fun c => ((G c ∧ c < w.heap.size) ∨ w7.heap.size ≤ c) ∧ Value.ownBlock (.slice a3 n c3) ≠ some c) W8 (.slice (some ⟨b8, 0, none⟩) 1 1) [(⟨cs, soft⟩ : Ln)]) := Lib.hid (HR8.out.mono (fun c _ h => ⟨.inr h, fun e => by have h1 := HMl.out c e; have := hz7.out; omega⟩))
      have HlL : Hid ((ls ++ [(⟨cs, soft⟩ : Ln)]).length = n + 1) := Lib.hid (by rw [List.length_append, ← Hn.out]; rfl)
      have HNl : Hid (ls.length + [(⟨cs, soft⟩ : Ln)].length ≤ 100000000) := Lib.hid (by have := HB.out.len; simp; omega)
      go_wp2_with (at_builtin; go_loud (refine El.wpList_append_row (base := w.heap.size) typedLn rfl (.tmp 57) (.tmp 60) rfl (by go_simp) HRw.out (.slice (some ⟨b8, 0, none⟩) 1 1) (by go_simp) [(⟨cs, soft⟩ : Ln)] HRu.out (fun c h => h.2) HNl.out S8.out.size ?_; intro v9 W9 hr9 hk9 hob9; obtain ⟨a9, c9, hv9, _⟩ := hr9.slice; rw [HlL.out] at hv9; subst hv9; have HR9 := Lib.hid hr9; have HK9 := Lib.hid hk9; have HOB := Lib.hid hob9; clear hr9 hk9 hob9 x0 x1 x2 x3 x4 fx; have HB09 := Lib.hid (HC8.out.keeps HK9.out (fun e => by have := HB2z.out _ e; omega)); obtain ⟨x0, x1, x2, x3, x4⟩ := HB09.out.c; have fx := HB09.out.fr))
      refine wpFrom_end rfl ?_
      clear hB
      go_upto_region 10 with fail
      refine wp_world (fun w10 hw10 => ?_)
      have C10 : RrAt w10 w.heap.size m p f (.slice a9 (n + 1) c9) (.slice (some ⟨b, o, none⟩) N cp5) := by subst hw10; exact HB09.out.set3 _
      have K10 : Keeps (fun c => c = w.heap.size) W9 w10 := by subst hw10; exact keeps1 _ _ _ _
      have hMw := HM.out
      have h7 := hz7.out
      have h78 := hz8.out
      have K810 : Keeps (fun c => c = w.heap.size ∨ Value.ownBlock (.slice a3 n c3) = some c) W8 w10 := (HK9.out.mono (fun _ _ h => .inr h)).trans (K10.mono (fun _ _ h => .inl h))
      have B10 := Lib.hid (B8'.out.keeps K810 (fun e => by rcases e with e | e; omega; have := HB2z.out _ e; omega))
      have P10 := Lib.hid (P8.out.keeps K810 (fun c hc e => by have hc : M ≤ c := hc; rcases e with e | e; omega; have := HMl.out c e; omega))
      have S10 : Hid (Sees w w10) := Lib.hid (((Keeps.of_sees (F := fun _ => False) S8.out).trans' K810 (fun c hc e => by rcases e with e | e; omega; have := HB2z.out c e; omega)).sees_end (fun _ _ h => h))
      have R10 : Hid (lnEl.Rd (fun c => (G c ∧ c < w.heap.size) ∨ w.heap.size + 3 ≤ c) w10 (.slice a9 (n + 1) c9) (ls ++ [(⟨cs, soft⟩ : Ln)])) := Lib.hid (by
        obtain ⟨vals, r1, r2⟩ := HR9.out
        have hr : lnEl.Rd (fun c => (G c ∧ c < w.heap.size) ∨ w.heap.size + 3 ≤ c) W9 (.slice a9 (n + 1) c9) (ls ++ [(⟨cs, soft⟩ : Ln)]) := by
          rw [← HlL.out] at r1 ⊢
          refine El.rowRd r1 (fun g hg => .inr ?_) (r2.mono (fun c _ h => ?_))
          · have ho := HOB.out
            rw [HlL.out] at hg
            rcases ho with ho | ho
            · exact HB2z.out g (ho ▸ hg)
            · rw [ho] at hg; cases hg; omega
          · rcases h.1 with h | h
            · exact .inl h
            · exact .inr (by omega)
        exact hr.keeps K10 (fun c hc e => by have e : c = w.heap.size := e; rcases hc with h | h; (have := h.2; omega); omega))
      obtain ⟨x0, x1, x2, x3, x4⟩ := C10.c
      clear hw10 fx K10 K810 C10 HR9 HK9 HOB HB09 HRw HRu P8 R8 B8' HC8 HR8 S8 hMw h7 h78
      have HB' := HB
      go_wp2_with fail
      refine (refEvict08 (fun c => (G c ∧ c < w.heap.size) ∨ w.heap.size + 3 ≤ c) m p f _ _ (ls ++ [(⟨cs, soft⟩ : Ln)]) (pushG p g) w10 HB.out.mo0 HB.out.mo1 HB.out.fi0 (by have := HFN.out; omega) (by have := HB.out.len; simp; omega) (HB.out.gok.pushG HB.out.pg0 HB.out.pg1 HB.out.gpg) (by rw [sumG_pushG, HB.out.sum]; simp) (by have h1 := Go.Proofs.YthjcnhgfagefjaaDoor.glen (HB.out.gok.pushG HB.out.pg0 HB.out.pg1 HB.out.gpg); rw [sumG_pushG, HB.out.sum] at h1; have := HB.out.len; omega) ⟨R10.out, P10.out.rd.mono (fun c _ h => .inr (by have h : M ≤ c := h; have := HM.out; omega))⟩ k (by rw [HK.out]; simp)).mono ?_
      rintro e w11 ⟨vl11, vp11, rfl, hr11, hs11⟩
      obtain ⟨a11, c11, rfl, _⟩ := hr11.l.slice'
      obtain ⟨ap11, cp11, rfl, _⟩ := hr11.p.slice'
      obtain ⟨n11, hn11⟩ : ∃ n, n = (List.drop k (ls ++ [(⟨cs, soft⟩ : Ln)])).length := ⟨_, rfl⟩
      obtain ⟨np11, hnp11⟩ : ∃ n, n = (dropG k (pushG p g)).length := ⟨_, rfl⟩
      rw [← hn11, ← hnp11] at hr11 ⊢
      have C11 := B10.out.sees hs11
      obtain ⟨y0, y1, y2, y3, y4⟩ := C11.c
      have fy := C11.fr
      have HC11 := Lib.hid C11
      have HR11 := Lib.hid hr11
      have S11 := Lib.hid (S10.out.trans hs11)
      have HZ11 := Lib.hid (show w.heap.size ≤ w10.heap.size by have := S10.out.size; omega)
      have HZL := Lib.hid B10.out.lt
      clear hn11 hnp11 hr11 C11 B10 x0 x1 x2 x3 x4 hs11 S10 R10 P10
      go_wp2_with fail
      have E := HC11.out.set5 m p (f + k) (.slice a11 n11 c11) (.slice ap11 np11 cp11)
      have KE := keeps5 w11 (w.heap.size + 1 + 1) (.int .i64 m) (.int .i64 p) (.int .i64 (f + k)) (.slice a11 n11 c11) (.slice ap11 np11 cp11)
      obtain ⟨z0, z1, z2, z3, z4⟩ := E.c
      refine bodyPost_ret_by (v := .tuple #[rrV m p (f + k) (.slice a11 n11 c11) (.slice ap11 np11 cp11), .int .i64 0]) (by simp [results, Tryd.results25, go_sem, z0, z1, z2, z3, z4]) rfl ⟨_, _, rfl, ?_, ((Keeps.of_sees (F := fun _ => False) S11.out).trans' KE (fun b hb e => by have e : b = w.heap.size + 1 + 1 := e; omega)).sees_end (fun _ _ h => h)⟩
      have h3 := HZ11.out
      have h4 := HZL.out
      exact (HR11.out.keeps KE (fun b hb e => by have e : b = w.heap.size + 1 + 1 := e; rcases hb with h | h; (have h1 := h.1; rcases h1 with h1 | h1; (have := h1.2; omega); omega); omega)).mono (fun b _ h => by rcases h with h | h; (rcases h.1 with h1 | h1; exact .inl h1; exact .inr (by omega)); exact .inr (by omega))
  · have hset : pushG p g = g.set (np - 1) (x.1, x.2 + 1) := by rw [Hnp.out]; exact pushG_room g p x (by rw [← Hnp.out]; exact hx) hxp
    have Hs0 := Lib.hid hset
    have hnpb : np ≤ 1048576 := by rw [Hnp.out]; exact HB.out.glen
    obtain ⟨i5, hi5⟩ : ∃ i5, i5 = np - 1 := ⟨_, rfl⟩
    rw [← hi5] at hx Hs0
    have g2 : IntKind.i64.wrap ((np : Int) - 1) = (i5 : Int) := by rw [IntWalk.i64_in _ (by omega)]; omega
    have hxb := HB.out.gok x (List.mem_iff_getElem?.2 ⟨_, hx⟩)
    have hway : (false = true ∧ ((np : Int) == 0) = true) ∨ (((np : Int) == 0) = false ∧ ∃ (i b o : Nat) (x : Int × Nat) (z : Int), i < np ∧ ap3 = some ⟨b, o, none⟩ ∧ IntKind.i64.wrap ((np : Int) - 1) = (i : Int) ∧ w4.cell? ⟨b, o + i * 2, none⟩ = some (.int .i64 x.1) ∧ w4.cell? ⟨b, o + i * 2 + 1, none⟩ = some (.int .i64 (x.2 : Int)) ∧ IntKind.i64.wrap (x.1 + (x.2 : Int)) = z ∧ (z == p) = false) := by
      obtain ⟨b, o, e, _, _, _, y0, y1, _⟩ := (GRow.of_row HP4.out).at_ hx
      exact .inr ⟨beq_eq_false_iff_ne.2 (by omega), i5, b, o, x, x.1 + x.2, by omega, e, g2, y0, y1, IntWalk.i64_in _ (by omega), beq_eq_false_iff_ne.2 hxp⟩
    have hnp0 : ((np : Int) == 0) = false := beq_eq_false_iff_ne.2 (by omega)
    have hi5np : i5 < np := by omega
    clear hset hnp1 hxp
    clear hi5
    have G2 := Lib.hid g2
    clear g2 hnp0
    have q1 := fun d os => (sees_grow w4 d os).cell x1
    have q4 := fun d os => (sees_grow w4 d os).cell x4
    go_cut [37] from 16 to 37 (fun s wx => s = .bool false ∧ Sees w4 wx)
    case first =>
      rcases hway with ⟨hv, d0⟩ | ⟨d0, i, b, o, x, z, hin, rfl, gi, y0, y1, gs, d1⟩
      · (try exact absurd hv Bool.false_ne_true)
        all_goals
          clear hv
          clear x0 x1 x2 x3 x4
          refine wp_region_quiet_below (by kernel_rfl) (by kernel_rfl) ?_
          repeat (first | go_big_quiet_skip | (go_big_quiet_want; go_big_quiet_op; go_big_quiet_on))
          refine wpQuiet_nil ?_; intro w2 hw2'; have hw2 := regrown_sees hw2'; clear hw2'
          go_wp2_with fail
          go_meet
          exact ⟨rfl, hw2⟩
      · have r0 := fun d os => (sees_grow w4 d os).cell y0
        have r1 := fun d os => (sees_grow w4 d os).cell y1
        have hi0 : ¬ ((i : Nat) : Int) < 0 := by omega
        clear x0 x1 x2 x3 x4 y0 y1
        refine wp_region_quiet_below (by kernel_rfl) (by kernel_rfl) ?_
        repeat (first | go_big_quiet_skip | (go_big_quiet_want; go_big_quiet_op; go_big_quiet_on))
        refine wpQuiet_nil ?_; intro w2 hw2'; have hw2 := regrown_sees hw2'; clear hw2'
        go_wp2_with fail
        go_meet
        exact ⟨rfl, hw2⟩
    case rest =>
      obtain ⟨rfl, s5⟩ := hcut
      have C5 := HC4.out.sees s5
      have L5 := Lib.hid (HL4.out.sees s5)
      have B5 := Lib.hid (HB4.out.sees s5)
      have R5 := Lib.hid (HR4.out.sees s5)
      have P5 := (GRow.of_row HP4.out).sees s5
      have S5 := Lib.hid (S4.out.trans s5)
      have HZM := Lib.hid (show M ≤ wc.heap.size by have := HZM.out; have := s5.size; omega)
      obtain ⟨cp5, hcp5⟩ : ∃ cp5, cp5 = cp3 := ⟨_, rfl⟩
      rw [← hcp5] at C5 P5
      clear hcp5 s5 HC4 HL4 HB4 HR4 HP4 S4 q1 q4
      obtain ⟨w5, hw5e⟩ : ∃ w5, w5 = wc := ⟨_, rfl⟩
      rw [← hw5e] at C5 P5 L5 B5 R5 S5 HZM ⊢
      clear hw5e
      obtain ⟨x0, x1, x2, x3, x4⟩ := C5.c
      have hx5 := hx
      obtain ⟨x5, hx5e⟩ : ∃ x5 : Int × Nat, x5 = x := ⟨_, rfl⟩
      rw [← hx5e] at hx5 hxb Hs0
      have hx5b : x5.2 ≤ 1024 := by omega
      have Hset : Hid (g.set i5 (x5.1, x5.2 + 1) = pushG p g) := Lib.hid (by rw [Hs0.out])
      have g2 := G2.out
      clear hx5e hx hxb x0 x1 x2 x3 x4
      obtain ⟨b, o, rfl, hbF, hbz, hNg, y0, y1, fy, _, hs1⟩ := P5.at_ hx5
      have HS1 := Lib.hid hs1
      have g3 : IntKind.i64.wrap ((x5.2 : Int) + 1) = ((x5.2 + 1 : Nat) : Int) := by rw [IntWalk.i64_in _ (by omega)]; omega
      have hiN : i5 < np := by rw [hNg]; exact (List.getElem?_eq_some_iff.1 hx5).1
      have hi0 : ¬ ((i5 : Nat) : Int) < 0 := by omega
      obtain ⟨x0, x1, x2, x3, x4⟩ := C5.c
      have HbF := Lib.hid hbF
      have HC5 := Lib.hid C5
      obtain ⟨z5, hz5⟩ : ∃ z5, z5 = x5.2 + 1 := ⟨_, rfl⟩
      rw [← hz5] at g3
      have Hz5 := Lib.hid hz5
      clear hs1 hNg hbF C5 hz5
      go_upto_region 9 with fail
      refine wp_world (fun w6 hw6 => ?_)
      have P6 : GRow (fun b => M ≤ b) w6 (.slice (some ⟨b, o, none⟩) np cp5) (pushG p g) := by rw [← Hset.out]; subst hw6; rw [← Hz5.out]; exact HS1.out z5
      have K6 : Keeps (fun c => c = b) w5 w6 := by subst hw6; exact keeps1 _ _ _ _
      have hbM : M ≤ b := HbF.out
      have hMw := HM.out
      have C6 := HC5.out.keeps K6 (by omega)
      have L6 := L5.out.keeps K6 (by omega)
      have B6 := Lib.hid (B5.out.keeps K6 (by omega))
      have R6 := Lib.hid (R5.out.keeps K6 (fun c hc e => by have e : c = b := e; subst e; have := HMl.out c hc; omega) (fun c hc e => by have e : c = b := e; subst e; have := hc.2; omega))
      have S6 : Hid (Sees w w6) := Lib.hid (((Keeps.of_sees (F := fun _ => False) S5.out).trans' K6 (fun c hc e => by have e : c = b := e; omega)).sees_end (fun _ _ h => h))
      have HC6 := Lib.hid C6
      have HL6 := Lib.hid L6
      have HZ6 := Lib.hid (show M ≤ w6.heap.size by have := HZM.out; have := K6.size; omega)
      have HP6 := Lib.hid P6
      clear hw6 x0 x1 x2 x3 x4 y0 y1 fy HS1 K6 C6 L6 P6 HC5 L5 B5 R5 S5 hMw hbM P5 hbz g3
      refine wpFrom_go (by kernel_rfl) (by kernel_rfl) (fun hB w7 hs7 => ?_)
      have S7 := Lib.hid (S6.out.trans hs7)
      have C7 := Lib.hid (HC6.out.sees hs7)
      have L7 := Lib.hid (HL6.out.sees hs7)
      have B7 := Lib.hid (B6.out.sees hs7)
      have R7 := Lib.hid (R6.out.sees hs7)
      have P7 := Lib.hid (HP6.out.sees hs7)
      have hz7 : Hid (M ≤ w7.heap.size) := Lib.hid (by have h1 := HZ6.out; have := hs7.size; omega)
      clear hs7 S6 HC6 HL6 B6 R6 HP6
      have hval : ∀ x v, (Spec.is x).val v = x := fun _ _ => rfl
      have hval2 : ∀ V v, (Spec.so V).val v = v := fun _ _ => rfl
      have hst : segStay (Sees w7) [.is (.pointer (some ⟨w.heap.size, 3, none⟩)), .is (.slice a3 n c3), .is (.agg #[.slice ua un uc, .bool soft]),
          .so (fun u W => ∃ va vc, u = .agg #[.slice va un vc, .bool soft] ∧ OwnCells W w7.heap.size (.slice va un vc) cs), .so (fun u W => ∃ b, u = .slice (some ⟨b, 0, none⟩) 1 1 ∧ lnEl.Rd (fun c => w7.heap.size ≤ c) W (.slice (some ⟨b, 0, none⟩) 1 1) [(⟨cs, soft⟩ : Ln)])] :=
        ⟨fun u W W' _ h hs => by obtain ⟨va, vc, e, h⟩ := h; exact ⟨va, vc, e, OwnCells.sees h hs⟩, fun u W W' _ h hs => by obtain ⟨b, e, h⟩ := h; exact ⟨b, e, h.sees hs⟩, trivial⟩
      refine wpFrom_any 5 _ hB (by kernel_rfl) rfl hst (by simp only [List.cons_append, List.nil_append, List.drop_succ_cons, List.drop_zero, List.take_succ_cons, List.take_zero, Nat.reduceSub]; rfl) ?_
      refine ⟨fun vs W hI hV => .inl ⟨by clear hI hV hst; go_simp, .inl (by clear hI hV hst; (try simp only [Act.put, hval, hval2, List.setIfInBounds_toArray, List.set_cons_zero, List.set_cons_succ]); go_simp)⟩, ?_⟩
      refine ⟨fun vs W hI hV => .inl ⟨by clear hI hV hst; go_simp, .inl (by have q := (C7.out.sees hI).c; obtain ⟨q0, q1, q2, q3, q4⟩ := q; clear hI hV hst; (try simp only [Act.put, hval, hval2, List.setIfInBounds_toArray, List.set_cons_zero, List.set_cons_succ]); go_simp)⟩, ?_⟩
      refine ⟨fun vs W hI hV => .inl ⟨by clear hI hV hst; go_simp, .inl (by have q := (L7.out.sees hI).c; obtain ⟨q0, q1⟩ := q; clear hI hV hst; (try simp only [Act.put, hval, hval2, List.setIfInBounds_toArray, List.set_cons_zero, List.set_cons_succ]); go_simp)⟩, ?_⟩
      refine ⟨fun vs W hI hV => .inl ⟨by clear hI hV hst; (try simp only [Act.put, hval, hval2, List.setIfInBounds_toArray, List.set_cons_zero, List.set_cons_succ]); go_simp, .inr (.inr ⟨24, #[.agg #[.slice ua un uc, .bool soft]], by clear hI hV hst; (try simp only [Act.put, hval, hval2, List.setIfInBounds_toArray, List.set_cons_zero, List.set_cons_succ]); go_simp, ?_⟩)⟩, ?_⟩
      · refine (refCopy_any (.slice ua un uc) cs soft W (Hu.out.sees (S7.out.trans hI)) Hlen.out).mono ?_
        rintro e w' ⟨v', rfl, ho, hs⟩
        obtain ⟨va, vc, rfl⟩ := ho.slice
        rw [← Hun.out] at ho ⊢
        have hzz := hI.size
        exact ⟨_, rfl, rgGood_mk hst hI ⟨va, vc, rfl, ho.mono (by omega)⟩ hs⟩
      refine ⟨fun vs W hI hV => .inl ⟨by clear hI hV hst; (try simp only [Act.put, hval, hval2, List.setIfInBounds_toArray, List.set_cons_zero, List.set_cons_succ]); go_simp, .inl ?_⟩, ?_⟩
      · obtain ⟨va, vc, e3, ho⟩ := hV 3 _ (by kernel_rfl) rfl
        have hsA : Sees W (W.alloc (.cells #[.slice va un vc, .bool soft] 36)) := (Sees.refl W).alloc _
        have hrow := heap_alloc_new W (.cells #[.slice va un vc, .bool soft] 36)
        have hzz := hI.size
        refine ⟨.slice (some ⟨W.heap.size, 0, none⟩) 1 1, W.alloc (.cells #[.slice va un vc, .bool soft] 36), ?_, rgGood_mk hst hI ⟨_, rfl, ln_row_one hrow (OwnCells.sees ho hsA) hzz (fun g hg => (El.rowLt ho hg).1)⟩ hsA⟩
        clear hI hV hst hsA hrow
        (try simp only [Act.put, hval, hval2, List.setIfInBounds_toArray, List.set_cons_zero, List.set_cons_succ])
        go_simp
      intro vs W8 hI hV
      obtain ⟨b8, e8, hr8⟩ := hV 4 _ rfl
      have S8 := Lib.hid (S7.out.trans hI)
      have C8 := (C7.out.sees hI)
      have B8' := Lib.hid (B7.out.sees hI)
      have R8 := Lib.hid (R7.out.sees hI)
      have P8 := Lib.hid (P7.out.sees hI)
      have HR8 := Lib.hid hr8
      have hz8 := Lib.hid hI.size
      have HC8 := Lib.hid C8
      obtain ⟨x0, x1, x2, x3, x4⟩ := C8.c
      have fx := C8.fr
      clear hI hV hst hr8 C8 C7 L7 B7 R7 P7
      (try simp only [Act.put, hval, hval2, List.setIfInBounds_toArray, List.set_cons_zero, List.set_cons_succ])
      go_simp
      refine wpFrom_to 8 hB (fun _ _ _ _ _ h => h) (by kernel_rfl) (by simp only [List.cons_append, List.nil_append, List.drop_succ_cons, List.drop_zero, List.take_succ_cons, List.take_zero, Nat.reduceSub]; rfl) ?_
      have HRw : Hid (lnEl.Row w.heap.size (fun c => ((G c ∧ c < w.heap.size) ∨ w7.heap.size ≤ c) ∧ Value.ownBlock (.slice a3 n c3) ≠ some c) W8 (.slice a3 n c3) ls) := Lib.hid (R8.out.mono (fun c _ h => ⟨.inl h, fun e => by have h1 := (R8.out.base_le e).1; have := h.2; omega⟩) (Nat.le_refl _))
      have HRu : Hid (lnEl.Rd (fun c => ((G c ∧ c < w.heap.size) ∨ w7.heap.size ≤ c) ∧ Value.ownBlock (.slice a3 n c3) ≠ some c) W8 (.slice (some ⟨b8, 0, none⟩) 1 1) [(⟨cs, soft⟩ : Ln)]) := Lib.hid (HR8.out.mono (fun c _ h => ⟨.inr h, fun e => by have h1 := HMl.out c e; have := hz7.out; omega⟩))
      have HlL : Hid ((ls ++ [(⟨cs, soft⟩ : Ln)]).length = n + 1) := Lib.hid (by rw [List.length_append, ← Hn.out]; rfl)
      have HNl : Hid (ls.length + [(⟨cs, soft⟩ : Ln)].length ≤ 100000000) := Lib.hid (by have := HB.out.len; simp; omega)
      go_wp2_with (at_builtin; go_loud (refine El.wpList_append_row (base := w.heap.size) typedLn rfl (.tmp 57) (.tmp 60) rfl (by go_simp) HRw.out (.slice (some ⟨b8, 0, none⟩) 1 1) (by go_simp) [(⟨cs, soft⟩ : Ln)] HRu.out (fun c h => h.2) HNl.out S8.out.size ?_; intro v9 W9 hr9 hk9 hob9; obtain ⟨a9, c9, hv9, _⟩ := hr9.slice; rw [HlL.out] at hv9; subst hv9; have HR9 := Lib.hid hr9; have HK9 := Lib.hid hk9; have HOB := Lib.hid hob9; clear hr9 hk9 hob9 x0 x1 x2 x3 x4 fx; have HB09 := Lib.hid (HC8.out.keeps HK9.out (fun e => by have := HB2z.out _ e; omega)); obtain ⟨x0, x1, x2, x3, x4⟩ := HB09.out.c; have fx := HB09.out.fr))
      refine wpFrom_end rfl ?_
      clear hB
      go_upto_region 10 with fail
      refine wp_world (fun w10 hw10 => ?_)
      have C10 : RrAt w10 w.heap.size m p f (.slice a9 (n + 1) c9) (.slice (some ⟨b, o, none⟩) np cp5) := by subst hw10; exact HB09.out.set3 _
      have K10 : Keeps (fun c => c = w.heap.size) W9 w10 := by subst hw10; exact keeps1 _ _ _ _
      have hMw := HM.out
      have h7 := hz7.out
      have h78 := hz8.out
      have K810 : Keeps (fun c => c = w.heap.size ∨ Value.ownBlock (.slice a3 n c3) = some c) W8 w10 := (HK9.out.mono (fun _ _ h => .inr h)).trans (K10.mono (fun _ _ h => .inl h))
      have B10 := Lib.hid (B8'.out.keeps K810 (fun e => by rcases e with e | e; omega; have := HB2z.out _ e; omega))
      have P10 := Lib.hid (P8.out.keeps K810 (fun c hc e => by have hc : M ≤ c := hc; rcases e with e | e; omega; have := HMl.out c e; omega))
      have S10 : Hid (Sees w w10) := Lib.hid (((Keeps.of_sees (F := fun _ => False) S8.out).trans' K810 (fun c hc e => by rcases e with e | e; omega; have := HB2z.out c e; omega)).sees_end (fun _ _ h => h))
      have R10 : Hid (lnEl.Rd (fun c => (G c ∧ c < w.heap.size) ∨ w.heap.size + 3 ≤ c) w10 (.slice a9 (n + 1) c9) (ls ++ [(⟨cs, soft⟩ : Ln)])) := Lib.hid (by
        obtain ⟨vals, r1, r2⟩ := HR9.out
        have hr : lnEl.Rd (fun c => (G c ∧ c < w.heap.size) ∨ w.heap.size + 3 ≤ c) W9 (.slice a9 (n + 1) c9) (ls ++ [(⟨cs, soft⟩ : Ln)]) := by
          rw [← HlL.out] at r1 ⊢
          refine El.rowRd r1 (fun g hg => .inr ?_) (r2.mono (fun c _ h => ?_))
          · have ho := HOB.out
            rw [HlL.out] at hg
            rcases ho with ho | ho
            · exact HB2z.out g (ho ▸ hg)
            · rw [ho] at hg; cases hg; omega
          · rcases h.1 with h | h
            · exact .inl h
            · exact .inr (by omega)
        exact hr.keeps K10 (fun c hc e => by have e : c = w.heap.size := e; rcases hc with h | h; (have := h.2; omega); omega))
      obtain ⟨x0, x1, x2, x3, x4⟩ := C10.c
      clear hw10 fx K10 K810 C10 HR9 HK9 HOB HB09 HRw HRu P8 R8 B8' HC8 HR8 S8 hMw h7 h78
      have HB' := HB
      go_wp2_with fail
      refine (refEvict08 (fun c => (G c ∧ c < w.heap.size) ∨ w.heap.size + 3 ≤ c) m p f _ _ (ls ++ [(⟨cs, soft⟩ : Ln)]) (pushG p g) w10 HB.out.mo0 HB.out.mo1 HB.out.fi0 (by have := HFN.out; omega) (by have := HB.out.len; simp; omega) (HB.out.gok.pushG HB.out.pg0 HB.out.pg1 HB.out.gpg) (by rw [sumG_pushG, HB.out.sum]; simp) (by have h1 := Go.Proofs.YthjcnhgfagefjaaDoor.glen (HB.out.gok.pushG HB.out.pg0 HB.out.pg1 HB.out.gpg); rw [sumG_pushG, HB.out.sum] at h1; have := HB.out.len; omega) ⟨R10.out, P10.out.rd.mono (fun c _ h => .inr (by have h : M ≤ c := h; have := HM.out; omega))⟩ k (by rw [HK.out]; simp)).mono ?_
      rintro e w11 ⟨vl11, vp11, rfl, hr11, hs11⟩
      obtain ⟨a11, c11, rfl, _⟩ := hr11.l.slice'
      obtain ⟨ap11, cp11, rfl, _⟩ := hr11.p.slice'
      obtain ⟨n11, hn11⟩ : ∃ n, n = (List.drop k (ls ++ [(⟨cs, soft⟩ : Ln)])).length := ⟨_, rfl⟩
      obtain ⟨np11, hnp11⟩ : ∃ n, n = (dropG k (pushG p g)).length := ⟨_, rfl⟩
      rw [← hn11, ← hnp11] at hr11 ⊢
      have C11 := B10.out.sees hs11
      obtain ⟨y0, y1, y2, y3, y4⟩ := C11.c
      have fy := C11.fr
      have HC11 := Lib.hid C11
      have HR11 := Lib.hid hr11
      have S11 := Lib.hid (S10.out.trans hs11)
      have HZ11 := Lib.hid (show w.heap.size ≤ w10.heap.size by have := S10.out.size; omega)
      have HZL := Lib.hid B10.out.lt
      clear hn11 hnp11 hr11 C11 B10 x0 x1 x2 x3 x4 hs11 S10 R10 P10
      go_wp2_with fail
      have E := HC11.out.set5 m p (f + k) (.slice a11 n11 c11) (.slice ap11 np11 cp11)
      have KE := keeps5 w11 (w.heap.size + 1 + 1) (.int .i64 m) (.int .i64 p) (.int .i64 (f + k)) (.slice a11 n11 c11) (.slice ap11 np11 cp11)
      obtain ⟨z0, z1, z2, z3, z4⟩ := E.c
      refine bodyPost_ret_by (v := .tuple #[rrV m p (f + k) (.slice a11 n11 c11) (.slice ap11 np11 cp11), .int .i64 0]) (by simp [results, Tryd.results25, go_sem, z0, z1, z2, z3, z4]) rfl ⟨_, _, rfl, ?_, ((Keeps.of_sees (F := fun _ => False) S11.out).trans' KE (fun b hb e => by have e : b = w.heap.size + 1 + 1 := e; omega)).sees_end (fun _ _ h => h)⟩
      have h3 := HZ11.out
      have h4 := HZL.out
      exact (HR11.out.keeps KE (fun b hb e => by have e : b = w.heap.size + 1 + 1 := e; rcases hb with h | h; (have h1 := h.1; rcases h1 with h1 | h1; (have := h1.2; omega); omega); omega)).mono (fun b _ h => by rcases h with h | h; (rcases h.1 with h1 | h1; exact .inl h1; exact .inr (by omega)); exact .inr (by omega))
end Go.Proofs.YthjcnhgfagefjaaDoor

namespace Go.Proofs.YthjcnhgfagefjaaDoor
set_option linter.unusedVariables false
set_option linter.unusedSimpArgs false
open Go.RowKit

theorem LnAt.store {W : World} {b : Nat} {v : Value} {s : Bool} (h : LnAt W b v s) (a : Option Addr) (n c : Nat) (soft : Bool) :
    ∃ W9, (Instr.storeAt 36 (.pointer (some ⟨b, 0, none⟩)) (.agg #[.slice a n c, .bool soft])).run Tryd.prog W = .ok () W9 ∧ Keeps (fun x => x = b) W W9 ∧ LnAt W9 b (.slice a n c) soft :=
  ⟨W.setRow b #[.slice a n c, .bool soft], run_storeAt_row (P := Tryd.prog) (W := W) 36 b _ 36 [.slice a n c, .bool soft] (fun _ => by kernel_rfl) h rfl (by intro v hv; simp only [List.mem_cons, List.not_mem_nil, or_false] at hv; rcases hv with rfl | rfl <;> rfl),
    ⟨rfl, rfl, rfl, by simp [World.setRow], fun c hc hne => setRow_other W _ c _ hne⟩, setRow_heap _ _ _ _ _ (0, 0) h⟩
theorem popG_at : ∀ (g : List (Int × Nat)) (x : Int × Nat), g[g.length - 1]? = some x → popG g = if x.2 ≤ 1 then g.take (g.length - 1) else g.set (g.length - 1) (x.1, x.2 - 1)
  | [], x, h => by cases h
  | [y], x, h => by
    simp at h
    subst h
    unfold popG
    split <;> simp
  | y :: z :: g, x, h => by
    have ih := popG_at (z :: g) x (by simpa using h)
    unfold popG
    rw [ih]
    split <;> simp
theorem refPopNone08 (m p f : Int) (a ap : Option Addr) (c np cp : Nat) (w : World) :
    Calls Tryd.prog 28 #[rrV m p f (.slice a 0 c) (.slice ap np cp)] w fun e w' => e = .returned (.tuple #[rrV m p f (.slice a 0 c) (.slice ap np cp), .agg #[.slice none 0 0, .bool false], .int .i64 9]) ∧ Sees w w' := by
  go_enter Tryd.func28, Tryd.ntmps28
  go_upto_region 2 with fail
  refine wp_world (fun w1 hw1 => ?_)
  have A1 : RrAt w1 w.heap.size m p f (.slice a 0 c) (.slice ap np cp) := by subst hw1; exact ((RrAt.new rfl).alloc _).alloc _
  have A2 : RrAt w1 (w.heap.size + 1) 0 0 0 (.slice none 0 0) (.slice none 0 0) := by subst hw1; exact (RrAt.new (by simp)).alloc _
  have A3 : LnAt w1 (w.heap.size + 1 + 1) (.slice none 0 0) false := by subst hw1; exact LnAt.new (by simp)
  have S1 : Sees w w1 := by subst hw1; exact (((Sees.refl w).alloc _).alloc _).alloc _
  have hK1 : Keeps (fun c => c = w.heap.size + 1 ∨ c = w.heap.size + 1 + 1) w1 w1 := Keeps.refl _ _
  clear hw1
  obtain ⟨x0, x1, x2, x3, x4⟩ := A1.c
  obtain ⟨y0, y1, y2, y3, y4⟩ := A2.c
  have fy := A2.fr
  obtain ⟨z0, z1⟩ := A3.c
  have fz := A3.fr
  have HA2 := Lib.hid A2
  have HA3 := Lib.hid A3
  have HS1 := Lib.hid S1
  clear A1 A2 A3 S1 hK1
  go_wp2
  have hk1 := keeps5 w1 (w.heap.size + 1) (.int .i64 m) (.int .i64 p) (.int .i64 f) (.slice a 0 c) (.slice ap np cp)
  have E := HA2.out.set5 m p f (.slice a 0 c) (.slice ap np cp)
  have E3 := HA3.out.keeps hk1 (by omega)
  obtain ⟨W1, hW1⟩ : ∃ W1, W1 = (((((w1.setCell ⟨w.heap.size + 1, 0, none⟩ (.int .i64 m)).setCell ⟨w.heap.size + 1, 1, none⟩ (.int .i64 p)).setCell ⟨w.heap.size + 1, 2, none⟩ (.int .i64 f)).setCell ⟨w.heap.size + 1, 3, none⟩ (.slice a 0 c)).setCell ⟨w.heap.size + 1, 4, none⟩ (.slice ap np cp)) := ⟨_, rfl⟩
  rw [← hW1] at hk1 E E3 ⊢
  have hk2 := keeps2 W1 (w.heap.size + 1 + 1) (.slice none 0 0) (.bool false)
  have E' := E.keeps hk2 (by omega)
  have E3' : LnAt ((W1.setCell ⟨w.heap.size + 1 + 1, 0, none⟩ (.slice none 0 0)).setCell ⟨w.heap.size + 1 + 1, 1, none⟩ (.bool false)) (w.heap.size + 1 + 1) (.slice none 0 0) false := heap_setCell_same _ _ _ _ _ _ (heap_setCell_same _ _ _ _ _ _ E3)
  obtain ⟨u0, u1, u2, u3, u4⟩ := E'.c
  obtain ⟨v0, v1⟩ := E3'.c
  exact bodyPost_ret_by (v := .tuple #[rrV m p f (.slice a 0 c) (.slice ap np cp), .agg #[.slice none 0 0, .bool false], .int .i64 9]) (by simp [results, Tryd.results28, go_sem, u0, u1, u2, u3, u4, v0, v1]) rfl ⟨rfl, (((Keeps.of_sees (F := fun _ => False) HS1.out).trans' hk1 (fun b hb e => by have e : b = w.heap.size + 1 := e; omega)).trans' hk2 (fun b hb e => by have e : b = w.heap.size + 1 + 1 := e; omega)).sees_end (fun _ _ h => h)⟩

set_option maxRecDepth 100000 in
set_option maxHeartbeats 4000000 in
theorem refPop08 (G : Nat → Prop) (m p f : Int) (vl vp : Value) (ls0 : List Ln) (l : Ln) (g : List (Int × Nat)) (w : World) (hb : B8 m p f (ls0 ++ [l]) g) (h : RrRd G w vl vp (ls0 ++ [l]) g) :
    Calls Tryd.prog 28 #[rrV m p f vl vp] w fun e w' => ∃ vl' vp' v', e = .returned (.tuple #[rrV m p f vl' vp', .agg #[v', .bool l.soft], .int .i64 0]) ∧ RrRd (wid G w) w' vl' vp' ls0 (popG g) ∧ cellEl.Rd (wid G w) w' v' l.cells ∧ Sees w w' := by
  obtain ⟨a, c, rfl, _⟩ := h.l.slice'
  obtain ⟨ap, cp, rfl, _⟩ := h.p.slice'
  have H := Lib.hid (h.mono (F := fun b => G b ∧ b < w.heap.size) (fun b hb h => ⟨h, hb⟩))
  have HB := Lib.hid hb
  obtain ⟨ls, hls⟩ : ∃ ls, ls = ls0 ++ [l] := ⟨_, rfl⟩
  rw [← hls] at H HB ⊢
  have Hls := Lib.hid hls
  obtain ⟨soft, hsoft⟩ : ∃ soft, soft = l.soft := ⟨_, rfl⟩
  rw [← hsoft]
  have Hsoft := Lib.hid hsoft
  clear hsoft
  obtain ⟨n, hn⟩ : ∃ n, n = ls.length := ⟨_, rfl⟩
  obtain ⟨np, hnp⟩ : ∃ np, np = g.length := ⟨_, rfl⟩
  rw [← hn] at H ⊢
  rw [← hnp] at H ⊢
  have Hn := Lib.hid hn
  have Hnp := Lib.hid hnp
  have hn1 : 1 ≤ n := by rw [hn, hls]; simp
  have hn2 : n ≤ 1048576 := by rw [hn]; exact HB.out.len
  have hnp2 : np ≤ 1048576 := by rw [hnp]; exact HB.out.glen
  have hnp1 : 1 ≤ np := by
    rcases Nat.eq_zero_or_pos np with h0 | h0
    · have e : g = [] := List.eq_nil_of_length_eq_zero (by rw [← hnp]; exact h0)
      have := HB.out.sum
      rw [e, ← hn] at this
      have e2 : sumG ([] : List (Int × Nat)) = 0 := rfl
      omega
    · exact h0
  obtain ⟨n5, hn5⟩ : ∃ n5, n5 = n - 1 := ⟨_, rfl⟩
  obtain ⟨i5, hi5⟩ : ∃ i5, i5 = np - 1 := ⟨_, rfl⟩
  have hn0 : ((n : Int) == 0) = false := beq_eq_false_iff_ne.2 (by omega)
  have g1 : IntKind.i64.wrap ((n : Int) - 1) = (n5 : Int) := by rw [IntWalk.i64_in _ (by omega)]; omega
  have g2 : IntKind.i64.wrap ((np : Int) - 1) = (i5 : Int) := by rw [IntWalk.i64_in _ (by omega)]; omega
  have hn5n : n5 < n := by omega
  have hi5n : i5 < np := by omega
  have hn50 : ¬ (n5 : Int) < 0 := by omega
  have hi50 : ¬ (i5 : Int) < 0 := by omega
  have Hn5 := Lib.hid (show n5 = ls0.length by rw [hn5, hn, hls]; simp)
  have Hi5 := Lib.hid hi5
  clear h hb hn hnp hls hn5 hi5 hn1 hn2 hnp1 hnp2
  go_enter Tryd.func28, Tryd.ntmps28
  go_upto_region 3 with fail
  refine wp_world (fun w1 hw1 => ?_)
  have A1 : RrAt w1 w.heap.size m p f (.slice a n c) (.slice ap np cp) := by subst hw1; exact ((RrAt.new rfl).alloc _).alloc _
  have A2 : RrAt w1 (w.heap.size + 1) 0 0 0 (.slice none 0 0) (.slice none 0 0) := by subst hw1; exact (RrAt.new (by simp)).alloc _
  have A3 : LnAt w1 (w.heap.size + 1 + 1) (.slice none 0 0) false := by subst hw1; exact LnAt.new (by simp)
  have S1 : Sees w w1 := by subst hw1; exact (((Sees.refl w).alloc _).alloc _).alloc _
  have hz1 : w1.heap.size = w.heap.size + 3 := by subst hw1; simp
  clear hw1
  obtain ⟨x0, x1, x2, x3, x4⟩ := A1.c
  go_wp2_with fail
  refine (refCopy08 (fun b => G b ∧ b < w.heap.size) m p f _ _ ls g w1 (by have := HB.out.len; omega) (by have := HB.out.glen; omega) (H.out.sees S1)).mono ?_
  rintro e w3 ⟨vl3, vp3, M, rfl, hr, hM, hMl, hgr, hMz, hs3⟩
  obtain ⟨a3, c3, rfl, _⟩ := hr.slice
  obtain ⟨ap3, cp3, rfl, _⟩ := hgr.slice
  rw [← Hn.out] at hr hMl ⊢
  rw [← Hnp.out] at hgr ⊢
  clear x0 x1 x2 x3 x4
  have C3 := A1.sees hs3
  obtain ⟨x0, x1, x2, x3, x4⟩ := C3.c
  have fx := C3.fr
  go_upto_region 4 with fail
  refine wp_world (fun w4 hw4 => ?_)
  have hK4 : Keeps (fun c => c = w.heap.size) w3 w4 := by subst hw4; exact keeps5 _ _ _ _ _ _ _
  have hC4 : RrAt w4 w.heap.size m p f (.slice a3 n c3) (.slice ap3 np cp3) := by subst hw4; exact C3.set5 _ _ _ _ _
  have B2 := Lib.hid ((A2.sees hs3).keeps hK4 (by omega))
  have B3 := Lib.hid ((A3.sees hs3).keeps hK4 (by omega))
  have hR4 : lnEl.Row w.heap.size (fun b => G b ∧ b < w.heap.size) w4 (.slice a3 n c3) ls := (hr.keeps hK4 (fun b hb e => by have := (hr.base_le hb).1; have e : b = w.heap.size := e; omega) (fun b hb e => by have e : b = w.heap.size := e; have := hb.1.2; omega)).mono (fun b _ h => h.1) (by omega)
  have HP4 : Hid (GRow (fun c => M ≤ c) w4 (.slice ap3 np cp3) g) := Lib.hid (GRow.of_row (gpRow_any (G' := fun _ => False) ((gpRow_any (G' := fun _ => False) hgr).keeps hK4 (fun b hb e => by have := (hgr.base_le hb).1; have e : b = w.heap.size := e; omega) (fun b hb => hb.elim))))
  have HM : Hid (w.heap.size + 3 ≤ M) := Lib.hid (by omega)
  have S4 : Hid (Sees w w4) := Lib.hid (((Keeps.of_sees (F := fun _ => False) (S1.trans hs3)).trans' hK4 (fun b hb e => by have e : b = w.heap.size := e; omega)).sees_end (fun _ _ h => h))
  have HL4 : Hid (lnEl.Rd (fun b => (G b ∧ b < w.heap.size) ∨ (w.heap.size + 3 ≤ b ∧ b < M)) w4 (.slice a3 n c3) ls) := Lib.hid (by
    obtain ⟨vals, r1, r2⟩ := hR4
    have hb := fun g (hg : Value.ownBlock (.slice a3 n c3) = some g) => (hr.base_le hg).1
    have hn := Hn.out
    rw [hn] at hb hMl r1 ⊢
    exact El.rowRd r1 (fun g hg => .inr ⟨by have := hb g hg; omega, hMl g hg⟩) (r2.mono (fun b _ h => .inl h)))
  have HZM : Hid (M ≤ w4.heap.size) := Lib.hid (by have := hK4.size; omega)
  have hgl : ls[n5]? = some l := by rw [Hls.out, Hn5.out, List.getElem?_append_right (Nat.le_refl _), Nat.sub_self]; rfl
  obtain ⟨b1, o1, l1, al, ml, rfl, hb1, hl1, hlm, y0, y1, y2⟩ := HL4.out.line hn5n
  rw [hgl] at hl1
  cases hl1
  obtain ⟨nl, hnl⟩ : ∃ nl, nl = l.cells.length := ⟨_, rfl⟩
  rw [← hnl] at y0 y2
  clear hnl
  rw [← Hsoft.out] at y1
  have Y2 := Lib.hid y2
  obtain ⟨h9, h9r⟩ := cut_to HL4.out n5 (by omega)
  have H9 := Lib.hid h9
  have H9r := Lib.hid (h9r _ _ HL4.out)
  obtain ⟨x, hx⟩ : ∃ x, g[i5]? = some x := ⟨_, List.getElem?_eq_getElem (by rw [← Hnp.out]; exact hi5n)⟩
  obtain ⟨b, o, rfl, -, hbz4, -, -⟩ := HP4.out.at_ hx
  have Hbz4 := Lib.hid hbz4
  clear hbz4
  have hxb := HB.out.gok x (List.mem_iff_getElem?.2 ⟨_, hx⟩)
  have hpop := popG_at g x (by rw [← Hnp.out, ← Hi5.out]; exact hx)
  rw [← Hnp.out, ← Hi5.out] at hpop
  have Hpop := Lib.hid hpop
  have HC4 := Lib.hid hC4
  have hzz := HZM.out
  have hMM := HM.out
  clear hw4 x0 x1 x2 x3 x4 fx C3 hK4 hr hgr hMl hMz hs3 hR4 h9 h9r hpop y2 hlm hgl hz1 A1 A2 A3 S1 H hM hb1
  obtain ⟨x0, x1, x2, x3, x4⟩ := hC4.c
  clear hC4
  go_upto_region 5 with fail
  refine wp_world (fun w5 hw5 => ?_)
  have s5 : Sees w4 w5 := by subst hw5; exact (Sees.refl w4).alloc _
  have D5 : LnAt w5 w4.heap.size (.slice al nl ml) soft := by subst hw5; exact LnAt.new rfl
  have C5 := HC4.out.sees s5
  have fx := C5.fr
  clear hw5 x0 x1 x2 x3 x4 y0 y1
  obtain ⟨x0, x1, x2, x3, x4⟩ := C5.c
  go_upto_region 6 with (refine wpList_val rfl (exec_toL (a := .slice (some ⟨b1, o1, none⟩) n c3) (b := .int .i64 (n5 : Int)) rfl (by go_simp) (by go_simp) (H9.out _)) (fun K hK => ?_); go_simp; refine hK _ _ ?_; clear hK K)
  refine wp_world (fun w6 hw6 => ?_)
  have C6 : RrAt w6 w.heap.size m p f (.slice (some ⟨b1, o1, none⟩) n5 c3) (.slice (some ⟨b, o, none⟩) np cp3) := by subst hw6; exact C5.set3 _
  have K6 : Keeps (fun c => c = w.heap.size) w5 w6 := by subst hw6; exact keeps1 _ _ _ _
  have K46 : Keeps (fun c => c = w.heap.size) w4 w6 := (Keeps.of_sees s5).trans K6
  have D6 := Lib.hid (D5.keeps K6 (by omega))
  have P6 := HP4.out.keeps K46 (fun c hc e => by have hc : M ≤ c := hc; have e : c = w.heap.size := e; omega)
  have hg6 := P6.at_ hx
  obtain ⟨b', o', e', hbF, -, -, y0, y1, fy, -, hs1⟩ := hg6
  cases e'
  have HS1 := Lib.hid hs1
  have hbM : M ≤ b := hbF
  clear hw6 x0 x1 x2 x3 x4 fx C5 K6 s5 D5 hs1 hbF
  obtain ⟨x0, x1, x2, x3, x4⟩ := C6.c
  have HC6 := Lib.hid C6
  obtain ⟨z7, hz7⟩ : ∃ z7, z7 = x.2 - 1 := ⟨_, rfl⟩
  have g3 : IntKind.i64.wrap ((x.2 : Int) - 1) = ((z7 : Nat) : Int) := by rw [IntWalk.i64_in _ (by omega)]; omega
  have Hz7 := Lib.hid hz7
  have Hxb := Lib.hid hxb
  clear hz7 hxb C6
  go_upto_region 8 with fail
  refine wp_world (fun w7 hw7 => ?_)
  have P7 : GRow (fun c => M ≤ c) w7 (.slice (some ⟨b, o, none⟩) np cp3) (g.set i5 (x.1, z7)) := by subst hw7; exact HS1.out z7
  have K7 : Keeps (fun c => c = b) w6 w7 := by subst hw7; exact keeps1 _ _ _ _
  have C7 := HC6.out.keeps K7 (by omega)
  have K47 : Keeps (fun c => c = w.heap.size ∨ c = b) w4 w7 := (K46.mono (fun _ _ h => .inl h)).trans (K7.mono (fun _ _ h => .inr h))
  clear hw7 x0 x1 x2 x3 x4 y0 y1 fy HS1 HC6
  obtain ⟨x0, x1, x2, x3, x4⟩ := C7.c
  have fx := C7.fr
  have hx7 : (g.set i5 (x.1, z7))[i5]? = some (x.1, z7) := List.getElem?_set_self (by rw [← Hnp.out]; exact hi5n)
  obtain ⟨b', o', e', -, -, -, y0, y1, -⟩ := P7.at_ hx7
  cases e'
  simp only [] at y0 y1
  have HP7 := Lib.hid P7
  have HC7 := Lib.hid C7
  have HK47 := Lib.hid K47
  have D7 := Lib.hid (D6.out.keeps K7 (by have := Hbz4.out; omega))
  clear P7 C7 K47 K7 K46 D6 hx7 P6
  have hpz := Hpop.out
  have HB5 : Hid (w.heap.size + 3 ≤ w4.heap.size) := Lib.hid (by omega)
  rcases Nat.eq_zero_or_pos z7 with h0 | h0
  · rw [if_pos (by have := Hz7.out; omega)] at hpz
    obtain ⟨h4, h4r⟩ := gp_to _ _ _ (g.set i5 (x.1, z7)) i5 (by rw [List.length_set, ← Hnp.out]; omega) (by intro e; have := congrArg List.length e; rw [List.length_set, ← Hnp.out] at this; simp at this; omega) HP7.out
    have H4 := Lib.hid h4
    have hp4 := h4r _ _ HP7.out
    rw [List.take_set, List.set_eq_of_length_le (by rw [List.length_take]; omega)] at hp4
    rw [← hpz] at hp4
    have HP4' := Lib.hid hp4
    subst h0
    clear h4 h4r hp4 hpz
    go_upto_region 10 with (refine wpList_val rfl (exec_toL (a := .slice (some ⟨b, o, none⟩) np cp3) (b := .int .i64 (i5 : Int)) rfl (by go_simp) (by go_simp) (H4.out _)) (fun K hK => ?_); go_simp; refine hK _ _ ?_; clear hK K)
    refine wp_world (fun w8 hw8 => ?_)
    have D1 : RrAt w8 w.heap.size m p f (.slice (some ⟨b1, o1, none⟩) n5 c3) (.slice (some ⟨b, o, none⟩) i5 cp3) := by subst hw8; exact HC7.out.set4 _
    have K8 : Keeps (fun c => c = w.heap.size) w7 w8 := by subst hw8; exact keeps1 _ _ _ _
    have K48 : Keeps (fun c => c = w.heap.size ∨ c = b) w4 w8 := HK47.out.trans (K8.mono (fun _ _ h => .inl h))
    have HP8 := Lib.hid (HP4'.out.keeps K8 (fun c hc e => by have hc : M ≤ c := hc; have e : c = w.heap.size := e; omega))
    have D5 := D7.out.keeps K8 (by omega)
    have D2 := B2.out.keeps K48 (by omega)
    have D3 := B3.out.keeps K48 (by omega)
    have HS8 : Hid (Sees w w8) := Lib.hid (((Keeps.of_sees (F := fun _ => False) S4.out).trans' K48 (fun c hc e => by omega)).sees_end (fun _ _ h => h))
    have HL8 := Lib.hid (H9r.out.keeps K48 (fun c hc e => by rcases hc with h | h <;> rcases e with e | e <;> omega))
    have HY8 := Lib.hid (Y2.out.keeps K48 (fun c hc e => by rcases hc with h | h <;> rcases e with e | e <;> omega))
    rw [show List.take n5 ls = ls0 by rw [Hls.out, Hn5.out]; exact List.take_left' rfl] at HL8
    clear hw8 K8 K48 fx y0 y1
    obtain ⟨a5, ha5⟩ : ∃ a5, a5 = some (⟨b1, o1, none⟩ : Addr) := ⟨_, rfl⟩
    obtain ⟨c5, hc5⟩ : ∃ c5, c5 = c3 := ⟨_, rfl⟩
    obtain ⟨ml5, hml5⟩ : ∃ q, q = ml := ⟨_, rfl⟩
    clear hml5
    rw [← ha5, ← hc5] at D1 HL8
    clear ha5 hc5
    obtain ⟨x0, x1, x2, x3, x4⟩ := D1.c
    have fy2 := D2.fr
    have fy3 := D3.fr
    have HD1 := Lib.hid D1
    have HD2 := Lib.hid D2
    have HD3 := Lib.hid D3
    have HD5 := Lib.hid D5
    clear D1 D2 D3 D5 x0 x1 x2 x3 x4 fy2 fy3
    refine wpH_go (fun c => c = w.heap.size + 1 ∨ c = w.heap.size + 1 + 1) 5 (by kernel_rfl) (by kernel_rfl) (by rfl) (fun hB w9 hs9 => ?_)
    have E1 := Lib.hid (HD1.out.sees hs9)
    have E2 := Lib.hid (HD2.out.sees hs9)
    have E3 := Lib.hid (HD3.out.sees hs9)
    have E5 := Lib.hid (HD5.out.sees hs9)
    have HS9 := Lib.hid (HS8.out.trans hs9)
    have HL9 := Lib.hid (HL8.out.sees hs9)
    have HP9 := Lib.hid (HP8.out.sees hs9)
    have HY9 := Lib.hid (HY8.out.sees hs9)
    clear hs9 HD1 HD2 HD3 HD5 HS8 HL8 HP8 HY8
    have hS0 : Keeps (fun c => c = w.heap.size + 1 ∨ c = w.heap.size + 1 + 1) w9 w9 := Keeps.refl _ w9
    refine wpH_take (i := 0) (v := rrV m p f (.slice a5 n5 c5) (.slice (some ⟨b, o, none⟩) i5 cp3)) hB (by rfl) (by kernel_rfl) (fun _ _ _ _ _ h => h) (by rfl) hS0 (fun W hI => by have q := (E1.out.keeps hI (by omega)).c; obtain ⟨q0, q1, q2, q3, q4⟩ := q; go_simp) ?_; (try simp only [Act.put, List.setIfInBounds_toArray, List.set_cons_zero, List.set_cons_succ])
    refine wpH_take (i := 1) (v := .agg #[.slice al nl ml, .bool soft]) hB (by rfl) (by kernel_rfl) (fun _ _ _ _ _ h => h) (by rfl) hS0 (fun W hI => by have q := (E5.out.keeps hI (by have := HB5.out; omega)).c; obtain ⟨q0, q1⟩ := q; go_simp) ?_; (try simp only [Act.put, List.setIfInBounds_toArray, List.set_cons_zero, List.set_cons_succ])
    obtain ⟨w10, hst10, hk10, D10⟩ := E2.out.store m p f a5 n5 c5 (some ⟨b, o, none⟩) i5 cp3
    have HST10 := Lib.hid hst10
    refine wpH_one (i := 2) (by kernel_rfl) (wpOp_skip (w' := w10) (by rfl) (wanted_none (by rfl) _) (exec_store (a := .pointer (some ⟨w.heap.size + 1, 0, none⟩)) (v := rrV m p f (.slice a5 n5 c5) (.slice (some ⟨b, o, none⟩) i5 cp3)) rfl (by go_simp) (by go_simp) HST10.out) ⟨hk10.mono (fun _ _ h => .inl h), ?_⟩)
    (try simp only [Act.put, List.setIfInBounds_toArray, List.set_cons_zero, List.set_cons_succ])
    have D3' := E3.out.keeps hk10 (by omega)
    obtain ⟨w11, hst11, hk11, D11⟩ := D3'.store al nl ml soft
    have hk911 : Keeps (fun c => c = w.heap.size + 1 ∨ c = w.heap.size + 1 + 1) w9 w11 := (hk10.mono (fun _ _ h => .inl h)).trans (hk11.mono (fun _ _ h => .inr h))
    have HST11 := Lib.hid hst11
    refine wpH_one (i := 3) (by kernel_rfl) (wpOp_skip (w' := w11) (by rfl) (wanted_none (by rfl) _) (exec_store (a := .pointer (some ⟨w.heap.size + 1 + 1, 0, none⟩)) (v := .agg #[.slice al nl ml, .bool soft]) rfl (by go_simp) (by go_simp) HST11.out) ⟨hk911, ?_⟩)
    (try simp only [Act.put, List.setIfInBounds_toArray, List.set_cons_zero, List.set_cons_succ])
    refine wpH_one (i := 4) (by kernel_rfl) (wpOp_val (v := .int .i64 0) (w' := w11) (by rfl) (wanted_none (by rfl) _) (by go_simp) ⟨hk911, ?_⟩)
    (try simp only [Act.put, List.setIfInBounds_toArray, List.set_cons_zero, List.set_cons_succ])
    refine wpH_end (by kernel_rfl) ?_
    have D10' := D10.keeps hk11 (by omega)
    obtain ⟨z0, z1, z2, z3, z4⟩ := D10'.c
    obtain ⟨u0, u1⟩ := D11.c
    have HK911 := Lib.hid hk911
    clear hst10 hk10 D10 hst11 hk11 D11 hk911 D3' D10' hS0 HST10 HST11
    go_wp2
    have hzM := HM.out
    refine bodyPost_ret_by (v := .tuple #[rrV m p f (.slice a5 n5 c5) (.slice (some ⟨b, o, none⟩) i5 cp3), .agg #[.slice al nl ml, .bool soft], .int .i64 0]) (by simp [results, Tryd.results28, go_sem, z0, z1, z2, z3, z4, u0, u1]) rfl ⟨_, _, _, rfl, ⟨?_, ?_⟩, ?_, ?_⟩
    · exact (HL9.out.keeps HK911.out (fun c hc e => by rcases hc with h | h <;> rcases e with e | e <;> omega)).mono (fun c _ h => by rcases h with h | h; exact .inl h; exact .inr (by omega))
    · exact (HP9.out.keeps HK911.out (fun c hc e => by have hc : M ≤ c := hc; rcases e with e | e <;> omega)).rd.mono (fun c _ h => .inr (by have h : M ≤ c := h; omega))
    · exact (HY9.out.keeps HK911.out (fun c hc e => by rcases hc with h | h <;> rcases e with e | e <;> omega)).mono (fun c _ h => by rcases h with h | h; exact .inl h; exact .inr (by omega))
    · exact ((Keeps.of_sees (F := fun _ => False) HS9.out).trans' HK911.out (fun c hc e => by rcases e with e | e <;> omega)).sees_end (fun _ _ h => h)
  · rw [if_neg (by have := Hz7.out; omega), ← Hz7.out] at hpz
    have hz0 : ((z7 : Int) == 0) = false := beq_eq_false_iff_ne.2 (by omega)
    have HP8 := HP7
    rw [← hpz] at HP8
    clear hpz
    go_upto_region 10 with fail
    have D1 := HC7.out
    have D5 := D7.out
    have D2 := B2.out.keeps HK47.out (by omega)
    have D3 := B3.out.keeps HK47.out (by omega)
    have HS8 : Hid (Sees w w7) := Lib.hid (((Keeps.of_sees (F := fun _ => False) S4.out).trans' HK47.out (fun c hc e => by omega)).sees_end (fun _ _ h => h))
    have HL8 := Lib.hid (H9r.out.keeps HK47.out (fun c hc e => by rcases hc with h | h <;> rcases e with e | e <;> omega))
    have HY8 := Lib.hid (Y2.out.keeps HK47.out (fun c hc e => by rcases hc with h | h <;> rcases e with e | e <;> omega))
    rw [show List.take n5 ls = ls0 by rw [Hls.out, Hn5.out]; exact List.take_left' rfl] at HL8
    clear fx y0 y1 x0 x1 x2 x3 x4
    obtain ⟨a5, ha5⟩ : ∃ a5, a5 = some (⟨b1, o1, none⟩ : Addr) := ⟨_, rfl⟩
    obtain ⟨c5, hc5⟩ : ∃ c5, c5 = c3 := ⟨_, rfl⟩
    rw [← ha5, ← hc5] at D1 HL8
    clear ha5 hc5
    obtain ⟨x0, x1, x2, x3, x4⟩ := D1.c
    have fy2 := D2.fr
    have fy3 := D3.fr
    have HD1 := Lib.hid D1
    have HD2 := Lib.hid D2
    have HD3 := Lib.hid D3
    have HD5 := Lib.hid D5
    clear D1 D2 D3 D5 x0 x1 x2 x3 x4 fy2 fy3
    refine wpH_go (fun c => c = w.heap.size + 1 ∨ c = w.heap.size + 1 + 1) 5 (by kernel_rfl) (by kernel_rfl) (by rfl) (fun hB w9 hs9 => ?_)
    have E1 := Lib.hid (HD1.out.sees hs9)
    have E2 := Lib.hid (HD2.out.sees hs9)
    have E3 := Lib.hid (HD3.out.sees hs9)
    have E5 := Lib.hid (HD5.out.sees hs9)
    have HS9 := Lib.hid (HS8.out.trans hs9)
    have HL9 := Lib.hid (HL8.out.sees hs9)
    have HP9 := Lib.hid (HP8.out.sees hs9)
    have HY9 := Lib.hid (HY8.out.sees hs9)
    clear hs9 HD1 HD2 HD3 HD5 HS8 HL8 HP8 HY8
    have hS0 : Keeps (fun c => c = w.heap.size + 1 ∨ c = w.heap.size + 1 + 1) w9 w9 := Keeps.refl _ w9
    refine wpH_take (i := 0) (v := rrV m p f (.slice a5 n5 c5) (.slice (some ⟨b, o, none⟩) np cp3)) hB (by rfl) (by kernel_rfl) (fun _ _ _ _ _ h => h) (by rfl) hS0 (fun W hI => by have q := (E1.out.keeps hI (by omega)).c; obtain ⟨q0, q1, q2, q3, q4⟩ := q; go_simp) ?_; (try simp only [Act.put, List.setIfInBounds_toArray, List.set_cons_zero, List.set_cons_succ])
    refine wpH_take (i := 1) (v := .agg #[.slice al nl ml, .bool soft]) hB (by rfl) (by kernel_rfl) (fun _ _ _ _ _ h => h) (by rfl) hS0 (fun W hI => by have q := (E5.out.keeps hI (by have := HB5.out; omega)).c; obtain ⟨q0, q1⟩ := q; go_simp) ?_; (try simp only [Act.put, List.setIfInBounds_toArray, List.set_cons_zero, List.set_cons_succ])
    obtain ⟨w10, hst10, hk10, D10⟩ := E2.out.store m p f a5 n5 c5 (some ⟨b, o, none⟩) np cp3
    have HST10 := Lib.hid hst10
    refine wpH_one (i := 2) (by kernel_rfl) (wpOp_skip (w' := w10) (by rfl) (wanted_none (by rfl) _) (exec_store (a := .pointer (some ⟨w.heap.size + 1, 0, none⟩)) (v := rrV m p f (.slice a5 n5 c5) (.slice (some ⟨b, o, none⟩) np cp3)) rfl (by go_simp) (by go_simp) HST10.out) ⟨hk10.mono (fun _ _ h => .inl h), ?_⟩)
    (try simp only [Act.put, List.setIfInBounds_toArray, List.set_cons_zero, List.set_cons_succ])
    have D3' := E3.out.keeps hk10 (by omega)
    obtain ⟨w11, hst11, hk11, D11⟩ := D3'.store al nl ml soft
    have hk911 : Keeps (fun c => c = w.heap.size + 1 ∨ c = w.heap.size + 1 + 1) w9 w11 := (hk10.mono (fun _ _ h => .inl h)).trans (hk11.mono (fun _ _ h => .inr h))
    have HST11 := Lib.hid hst11
    refine wpH_one (i := 3) (by kernel_rfl) (wpOp_skip (w' := w11) (by rfl) (wanted_none (by rfl) _) (exec_store (a := .pointer (some ⟨w.heap.size + 1 + 1, 0, none⟩)) (v := .agg #[.slice al nl ml, .bool soft]) rfl (by go_simp) (by go_simp) HST11.out) ⟨hk911, ?_⟩)
    (try simp only [Act.put, List.setIfInBounds_toArray, List.set_cons_zero, List.set_cons_succ])
    refine wpH_one (i := 4) (by kernel_rfl) (wpOp_val (v := .int .i64 0) (w' := w11) (by rfl) (wanted_none (by rfl) _) (by go_simp) ⟨hk911, ?_⟩)
    (try simp only [Act.put, List.setIfInBounds_toArray, List.set_cons_zero, List.set_cons_succ])
    refine wpH_end (by kernel_rfl) ?_
    have D10' := D10.keeps hk11 (by omega)
    obtain ⟨z0, z1, z2, z3, z4⟩ := D10'.c
    obtain ⟨u0, u1⟩ := D11.c
    have HK911 := Lib.hid hk911
    clear hst10 hk10 D10 hst11 hk11 D11 hk911 D3' D10' hS0 HST10 HST11
    go_wp2
    have hzM := HM.out
    refine bodyPost_ret_by (v := .tuple #[rrV m p f (.slice a5 n5 c5) (.slice (some ⟨b, o, none⟩) np cp3), .agg #[.slice al nl ml, .bool soft], .int .i64 0]) (by simp [results, Tryd.results28, go_sem, z0, z1, z2, z3, z4, u0, u1]) rfl ⟨_, _, _, rfl, ⟨?_, ?_⟩, ?_, ?_⟩
    · exact (HL9.out.keeps HK911.out (fun c hc e => by rcases hc with h | h <;> rcases e with e | e <;> omega)).mono (fun c _ h => by rcases h with h | h; exact .inl h; exact .inr (by omega))
    · exact (HP9.out.keeps HK911.out (fun c hc e => by have hc : M ≤ c := hc; rcases e with e | e <;> omega)).rd.mono (fun c _ h => .inr (by have h : M ≤ c := h; omega))
    · exact (HY9.out.keeps HK911.out (fun c hc e => by rcases hc with h | h <;> rcases e with e | e <;> omega)).mono (fun c _ h => by rcases h with h | h; exact .inl h; exact .inr (by omega))
    · exact ((Keeps.of_sees (F := fun _ => False) HS9.out).trans' HK911.out (fun c hc e => by rcases e with e | e <;> omega)).sees_end (fun _ _ h => h)
end Go.Proofs.YthjcnhgfagefjaaDoor

namespace Go.Proofs.YthjcnhgfagefjaaDoor
set_option linter.unusedVariables false
set_option linter.unusedSimpArgs false
open Go.RowKit

set_option maxRecDepth 100000 in
set_option maxHeartbeats 1000000 in
theorem refPushArg08 (m p f : Int) (a ap : Option Addr) (n c np cp : Nat) (u : Value) (cs : List Cell) (soft : Bool) (w : World) (hu : RdCells w u cs) (hn : cs.length ≤ 1000000) (hok : lnOk cs = false) :
    Calls Tryd.prog 25 #[rrV m p f (.slice a n c) (.slice ap np cp), .agg #[u, .bool soft]] w fun e w' => e = .returned (.tuple #[rrV m p f (.slice a n c) (.slice ap np cp), .int .i64 2]) ∧ Sees w w' := by
  have Hu := Lib.hid hu
  obtain ⟨ua, uc, rfl, _⟩ := hu
  obtain ⟨un, hun⟩ : ∃ un, un = cs.length := ⟨_, rfl⟩
  rw [← hun] at Hu ⊢
  have Hok := Lib.hid hok
  have Hn := Lib.hid hn
  clear hun hok hn
  go_enter Tryd.func25, Tryd.ntmps25
  go_wp2_with fail
  refine calls_world (fun w1 hw1 => ?_)
  have A1 : RrAt w1 w.heap.size m p f (.slice a n c) (.slice ap np cp) := by subst hw1; exact ((RrAt.new rfl).alloc _).alloc _
  have A2 : RrAt w1 (w.heap.size + 1 + 1) 0 0 0 (.slice none 0 0) (.slice none 0 0) := by subst hw1; exact RrAt.new (by simp)
  have S1 : Sees w w1 := by subst hw1; exact (((Sees.refl w).alloc _).alloc _).alloc _
  clear hw1
  refine (refLine_any _ cs soft _ (Hu.out.sees S1) Hn.out).mono ?_
  rintro e w2 ⟨rfl, hs2⟩
  rw [Hok.out]
  have B1 := A1.sees hs2
  have B2 := A2.sees hs2
  have S2 := Lib.hid (S1.trans hs2)
  have HB2 := Lib.hid B2
  obtain ⟨x0, x1, x2, x3, x4⟩ := B1.c
  obtain ⟨y0, y1, y2, y3, y4⟩ := B2.c
  have fy := B2.fr
  clear A1 A2 S1 hs2 B1 B2
  go_wp2
  have E := HB2.out.set5 m p f (.slice a n c) (.slice ap np cp)
  have KE := keeps5 w2 (w.heap.size + 1 + 1) (.int .i64 m) (.int .i64 p) (.int .i64 f) (.slice a n c) (.slice ap np cp)
  obtain ⟨z0, z1, z2, z3, z4⟩ := E.c
  exact bodyPost_ret_by (v := .tuple #[rrV m p f (.slice a n c) (.slice ap np cp), .int .i64 2]) (by simp [results, Tryd.results25, go_sem, z0, z1, z2, z3, z4]) rfl ⟨rfl, ((Keeps.of_sees (F := fun _ => False) S2.out).trans' KE (fun b hb e => by have e : b = w.heap.size + 1 + 1 := e; omega)).sees_end (fun _ _ h => h)⟩
/-- What Set answers. -/
def errS (cs : List Cell) (fi : Int) (n : Nat) (x : Int) : Int := if lnOk cs = true then errA fi n x else 2
set_option maxRecDepth 100000 in
set_option maxHeartbeats 1000000 in
theorem refSetErr08 (m p f x er : Int) (a ap : Option Addr) (n c np cp : Nat) (u : Value) (cs : List Cell) (soft : Bool) (w : World) (h0 : 0 ≤ f) (h1 : f ≤ 1000000000) (h2 : n ≤ 1000000000) (hu : RdCells w u cs) (hn : cs.length ≤ 1000000) (he : errS cs f n x = er) (hz : er ≠ 0) :
    Calls Tryd.prog 29 #[rrV m p f (.slice a n c) (.slice ap np cp), .int .i64 x, .agg #[u, .bool soft]] w fun e w' => e = .returned (.tuple #[rrV m p f (.slice a n c) (.slice ap np cp), .int .i64 er]) ∧ Sees w w' := by
  have Hu := Lib.hid hu
  obtain ⟨ua, uc, rfl, _⟩ := hu
  obtain ⟨un, hun⟩ : ∃ un, un = cs.length := ⟨_, rfl⟩
  rw [← hun] at Hu ⊢
  have Hn := Lib.hid hn
  have K := Lib.hid (fun W er (h : errA f n x = er) => refAt08 m p f x a ap n c np cp W h0 h1 h2 er h)
  have He := Lib.hid he
  have hne : (er == 0) = false := beq_eq_false_iff_ne.2 hz
  have hne2 : (er != 0) = true := by rw [bne, hne]; rfl
  have Hne := Lib.hid (And.intro hne hne2)
  clear hun hn he h0 h1 h2 hne hne2 hz
  go_enter Tryd.func29, Tryd.ntmps29
  go_wp2_with fail
  refine calls_world (fun w1 hw1 => ?_)
  have A1 : RrAt w1 w.heap.size m p f (.slice a n c) (.slice ap np cp) := by subst hw1; exact ((RrAt.new rfl).alloc _).alloc _
  have A2 : RrAt w1 (w.heap.size + 1 + 1) 0 0 0 (.slice none 0 0) (.slice none 0 0) := by subst hw1; exact RrAt.new (by simp)
  have S1 : Sees w w1 := by subst hw1; exact (((Sees.refl w).alloc _).alloc _).alloc _
  clear hw1
  refine (refLine_any _ cs soft _ (Hu.out.sees S1) Hn.out).mono ?_
  rintro e w2 ⟨rfl, hs2⟩
  have B1 := A1.sees hs2
  have B2 := A2.sees hs2
  have S2 := Lib.hid (S1.trans hs2)
  have HB2 := Lib.hid B2
  have HB1 := Lib.hid B1
  obtain ⟨x0, x1, x2, x3, x4⟩ := B1.c
  clear A1 A2 S1 hs2 B1
  rcases Bool.eq_false_or_eq_true (lnOk cs) with hok | hok
  · have he := He.out
    unfold errS at he
    rw [if_pos hok] at he
    rw [hok]
    have He' := Lib.hid he
    clear he hok He B2
    go_wp2_with fail
    refine (K.out w2 er He'.out).mono ?_
    rintro e w3 ⟨rfl, hs3⟩
    have C2 := HB2.out.sees hs3
    have C1 := HB1.out.sees hs3
    have HC2 := Lib.hid C2
    have S3 := Lib.hid (S2.out.trans hs3)
    clear x0 x1 x2 x3 x4 hs3 HB1 HB2 He'
    obtain ⟨x0, x1, x2, x3, x4⟩ := C1.c
    obtain ⟨y0, y1, y2, y3, y4⟩ := C2.c
    have fy := C2.fr
    have hne := Hne.out.1
    have hne2 := Hne.out.2
    clear C1 C2
    go_wp2
    have E := HC2.out.set5 m p f (.slice a n c) (.slice ap np cp)
    have KE := keeps5 w3 (w.heap.size + 1 + 1) (.int .i64 m) (.int .i64 p) (.int .i64 f) (.slice a n c) (.slice ap np cp)
    obtain ⟨z0, z1, z2, z3, z4⟩ := E.c
    exact bodyPost_ret_by (v := .tuple #[rrV m p f (.slice a n c) (.slice ap np cp), .int .i64 er]) (by simp [results, Tryd.results29, go_sem, z0, z1, z2, z3, z4]) rfl ⟨rfl, ((Keeps.of_sees (F := fun _ => False) S3.out).trans' KE (fun b hb e => by have e : b = w.heap.size + 1 + 1 := e; omega)).sees_end (fun _ _ h => h)⟩
  · have he := He.out
    unfold errS at he
    rw [if_neg (by rw [hok]; exact Bool.false_ne_true)] at he
    rw [hok]
    have He' := Lib.hid he
    obtain ⟨y0, y1, y2, y3, y4⟩ := B2.c
    have fy := B2.fr
    clear he hok He B2 K
    go_wp2
    have E := HB2.out.set5 m p f (.slice a n c) (.slice ap np cp)
    have KE := keeps5 w2 (w.heap.size + 1 + 1) (.int .i64 m) (.int .i64 p) (.int .i64 f) (.slice a n c) (.slice ap np cp)
    obtain ⟨z0, z1, z2, z3, z4⟩ := E.c
    rw [← He'.out]
    exact bodyPost_ret_by (v := .tuple #[rrV m p f (.slice a n c) (.slice ap np cp), .int .i64 2]) (by simp [results, Tryd.results29, go_sem, z0, z1, z2, z3, z4]) rfl ⟨rfl, ((Keeps.of_sees (F := fun _ => False) S2.out).trans' KE (fun b hb e => by have e : b = w.heap.size + 1 + 1 := e; omega)).sees_end (fun _ _ h => h)⟩
set_option maxRecDepth 100000 in
set_option maxHeartbeats 4000000 in
theorem refSet08 (G : Nat → Prop) (m p f x : Int) (i : Nat) (vl vp u : Value) (ls : List Ln) (g : List (Int × Nat)) (cs : List Cell) (soft : Bool) (w : World) (hb : B8 m p f ls g) (hx : x = f + i) (hi : i < ls.length) (h : RrRd G w vl vp ls g) (hu : RdCells w u cs) (hok : lnOk cs = true) :
    Calls Tryd.prog 29 #[rrV m p f vl vp, .int .i64 x, .agg #[u, .bool soft]] w fun e w' => ∃ vl' vp', e = .returned (.tuple #[rrV m p f vl' vp', .int .i64 0]) ∧ RrRd (wid G w) w' vl' vp' (ls.set i ⟨cs, soft⟩) g ∧ Sees w w' := by
  obtain ⟨a, c, rfl, _⟩ := h.l.slice'
  obtain ⟨ap, cp, rfl, _⟩ := h.p.slice'
  have Hu := Lib.hid hu
  obtain ⟨ua, uc, rfl, _⟩ := hu
  have H := Lib.hid (h.mono (F := fun b => G b ∧ b < w.heap.size) (fun b hb h => ⟨h, hb⟩))
  have HB := Lib.hid hb
  have Hlen : Hid (cs.length ≤ 1000000) := Lib.hid (by have := lnOk_len hok; omega)
  have hE : errA f ls.length x = 0 := by
    have h1 := hb.fi0
    unfold errA
    rw [if_neg (by omega), if_neg (by omega)]
  have hf0 := hb.fi0
  have hf1 := hb.fi1
  have gw : IntKind.i64.wrap (x - f) = (i : Int) := by rw [IntWalk.i64_in _ (by omega)]; omega
  obtain ⟨n, hn⟩ : ∃ n, n = ls.length := ⟨_, rfl⟩
  obtain ⟨np, hnp⟩ : ∃ np, np = g.length := ⟨_, rfl⟩
  obtain ⟨un, hun⟩ : ∃ un, un = cs.length := ⟨_, rfl⟩
  rw [← hn] at H hE hi ⊢
  rw [← hnp] at H ⊢
  rw [← hun] at Hu ⊢
  have Hn := Lib.hid hn
  have Hnp := Lib.hid hnp
  have Hun := Lib.hid hun
  have Hok := Lib.hid hok
  have K := Lib.hid (fun W => refAt08 m p f x a ap n c np cp W hf0 (by omega) (by omega) 0 hE)
  have hi0 : ¬ (i : Int) < 0 := by omega
  clear h hb hn hnp hun hok hx hf0 hf1 hE
  go_enter Tryd.func29, Tryd.ntmps29
  go_wp2_with fail
  refine calls_world (fun w1 hw1 => ?_)
  have A1 : RrAt w1 w.heap.size m p f (.slice a n c) (.slice ap np cp) := by subst hw1; exact ((RrAt.new rfl).alloc _).alloc _
  have AL : LnAt w1 (w.heap.size + 1) (.slice ua un uc) soft := by subst hw1; exact (LnAt.new (by simp)).alloc _
  have A2 : RrAt w1 (w.heap.size + 1 + 1) 0 0 0 (.slice none 0 0) (.slice none 0 0) := by subst hw1; exact RrAt.new (by simp)
  have S1 : Sees w w1 := by subst hw1; exact (((Sees.refl w).alloc _).alloc _).alloc _
  have hz1 : w1.heap.size = w.heap.size + 3 := by subst hw1; simp
  clear hw1
  refine (refLine_any _ cs soft _ (Hu.out.sees S1) Hlen.out).mono ?_
  rintro e w2 ⟨rfl, hs2⟩
  rw [Hok.out]
  have B1 := A1.sees hs2
  obtain ⟨x0, x1, x2, x3, x4⟩ := B1.c
  go_wp2_with fail
  refine (K.out w2).mono ?_
  rintro e w2' ⟨rfl, hs2'⟩
  have B1' := B1.sees hs2'
  have S2 := S1.trans (hs2.trans hs2')
  have BL := AL.sees (hs2.trans hs2')
  have B2 := A2.sees (hs2.trans hs2')
  have hz2 : w.heap.size + 3 ≤ w2'.heap.size := by have := hs2.size; have := hs2'.size; omega
  clear x0 x1 x2 x3 x4 A1 AL A2 S1 hz1 hs2 hs2' B1 K
  obtain ⟨x0, x1, x2, x3, x4⟩ := B1'.c
  go_wp2_with fail
  refine (refCopy08 (fun b => G b ∧ b < w.heap.size) m p f _ _ ls g w2' (by have := HB.out.len; omega) (by have := HB.out.glen; omega) (H.out.sees S2)).mono ?_
  rintro e w3 ⟨vl3, vp3, M, rfl, hr, hM, hMl, hgr, hMz, hs3⟩
  obtain ⟨a3, c3, rfl, _⟩ := hr.slice
  obtain ⟨ap3, cp3, rfl, _⟩ := hgr.slice
  rw [← Hn.out] at hr hMl ⊢
  rw [← Hnp.out] at hgr ⊢
  clear x0 x1 x2 x3 x4
  have C3 := B1'.sees hs3
  obtain ⟨x0, x1, x2, x3, x4⟩ := C3.c
  have fx := C3.fr
  go_upto_region 7 with fail
  refine wp_world (fun w4 hw4 => ?_)
  have hK4 : Keeps (fun c => c = w.heap.size) w3 w4 := by subst hw4; exact keeps5 _ _ _ _ _ _ _
  have C4 : RrAt w4 w.heap.size m p f (.slice a3 n c3) (.slice ap3 np cp3) := by subst hw4; exact C3.set5 _ _ _ _ _
  have L4 := (BL.sees hs3).keeps hK4 (by omega)
  have D4 := (B2.sees hs3).keeps hK4 (by omega)
  have hR4 : lnEl.Row (w.heap.size + 3) (fun b => G b ∧ b < w.heap.size) w4 (.slice a3 n c3) ls := (hr.keeps hK4 (fun b hb e => by have := (hr.base_le hb).1; have e : b = w.heap.size := e; omega) (fun b hb e => by have e : b = w.heap.size := e; have := hb.1.2; omega)).mono (fun b _ h => h.1) hz2
  have P4 : gpEl.Row M (fun _ => False) w4 (.slice ap3 np cp3) g := gpRow_any ((gpRow_any (G' := fun _ => False) hgr).keeps hK4 (fun b hb e => by have := (hgr.base_le hb).1; have e : b = w.heap.size := e; omega) (fun b hb => hb.elim))
  have S4 : Sees w w4 := ((Keeps.of_sees (F := fun _ => False) (S2.trans hs3)).trans' hK4 (fun b hb e => by have e : b = w.heap.size := e; omega)).sees_end (fun _ _ h => h)
  obtain ⟨g3, _, _, e3, -, hg3, -, -, -⟩ := El.Row.put (x' := (⟨[], false⟩ : Ln)) hR4 (by rw [← Hn.out]; exact hi)
  have hg3M : g3 < M := hMl g3 (by rw [e3]; rfl)
  have hz4 : M ≤ w4.heap.size := by have := hK4.size; omega
  have HM : Hid (w.heap.size + 3 ≤ M) := Lib.hid (by omega)
  simp only [Value.slice.injEq] at e3
  obtain ⟨rfl, -, -⟩ := e3
  have HG3 := Lib.hid (And.intro hg3 (And.intro hg3M hz4))
  clear hw4 x0 x1 x2 x3 x4 fx C3 hK4 hr hgr hMl hMz hs3 BL B2 S2 hz2 hM B1' H hg3 hg3M hz4
  refine wpH_go (fun b => b = g3) 10 (by kernel_rfl) (by kernel_rfl) (by rfl) (fun hB w5 hs5 => ?_)
  have E1 := Lib.hid (C4.sees hs5)
  have EL := Lib.hid (L4.sees hs5)
  have E2 := Lib.hid (D4.sees hs5)
  have HR5 := Lib.hid (hR4.sees hs5)
  have HP5 := Lib.hid (P4.sees hs5)
  have S5 := Lib.hid (S4.trans hs5)
  have HZ5 := Lib.hid hs5.size
  clear C4 L4 D4 hR4 P4 S4 hs5
  have hS0 : Keeps (fun b => b = g3) w5 w5 := Keeps.refl _ w5
  refine wpH_take (i := 0) (v := .pointer (some ⟨w.heap.size, 3, none⟩)) hB (by rfl) (by kernel_rfl) (fun _ _ _ _ _ h => h) (by rfl) hS0 (fun W hI => by clear hI; go_simp) ?_; (try simp only [Act.put, List.setIfInBounds_toArray, List.set_cons_zero, List.set_cons_succ])
  refine wpH_take (i := 1) (v := .slice (some ⟨g3, 0, none⟩) n c3) hB (by rfl) (by kernel_rfl) (fun _ _ _ _ _ h => h) (by rfl) hS0 (fun W hI => by have q := (E1.out.keeps hI (by have := HG3.out.1; omega)).c; obtain ⟨q0, q1, q2, q3, q4⟩ := q; go_simp) ?_; (try simp only [Act.put, List.setIfInBounds_toArray, List.set_cons_zero, List.set_cons_succ])
  refine wpH_take (i := 2) (v := .int .i64 x) hB (by rfl) (by kernel_rfl) (fun _ _ _ _ _ h => h) (by rfl) hS0 (fun W hI => by clear hI; go_simp) ?_; (try simp only [Act.put, List.setIfInBounds_toArray, List.set_cons_zero, List.set_cons_succ])
  refine wpH_take (i := 3) (v := .pointer (some ⟨w.heap.size, 2, none⟩)) hB (by rfl) (by kernel_rfl) (fun _ _ _ _ _ h => h) (by rfl) hS0 (fun W hI => by clear hI; go_simp) ?_; (try simp only [Act.put, List.setIfInBounds_toArray, List.set_cons_zero, List.set_cons_succ])
  refine wpH_take (i := 4) (v := .int .i64 f) hB (by rfl) (by kernel_rfl) (fun _ _ _ _ _ h => h) (by rfl) hS0 (fun W hI => by have q := (E1.out.keeps hI (by have := HG3.out.1; omega)).c; obtain ⟨q0, q1, q2, q3, q4⟩ := q; go_simp) ?_; (try simp only [Act.put, List.setIfInBounds_toArray, List.set_cons_zero, List.set_cons_succ])
  refine wpH_take (i := 5) (v := .int .i64 (i : Int)) hB (by rfl) (by kernel_rfl) (fun _ _ _ _ _ h => h) (by rfl) hS0 (fun W hI => by clear hI; go_simp) ?_; (try simp only [Act.put, List.setIfInBounds_toArray, List.set_cons_zero, List.set_cons_succ])
  refine wpH_take (i := 6) (v := .agg #[.slice ua un uc, .bool soft]) hB (by rfl) (by kernel_rfl) (fun _ _ _ _ _ h => h) (by rfl) hS0 (fun W hI => by have q := (EL.out.keeps hI (by have := HG3.out.1; omega)).c; obtain ⟨q0, q1⟩ := q; go_simp) ?_; (try simp only [Act.put, List.setIfInBounds_toArray, List.set_cons_zero, List.set_cons_succ])
  refine wpH_one (i := 7) (by kernel_rfl) (wpOp_enter (fn := 24) (args := #[.agg #[.slice ua un uc, .bool soft]]) (by rfl) (by rfl) (by go_simp) ((refCopy_any (.slice ua un uc) cs soft w5 (Hu.out.sees S5.out) Hlen.out).mono ?_))
  rintro e w6 ⟨v6, rfl, ho6, hs6⟩
  refine ⟨_, rfl, Keeps.of_sees hs6, ?_⟩
  obtain ⟨va, vc, rfl⟩ := ho6.slice
  (try simp only [Act.put, List.setIfInBounds_toArray, List.set_cons_zero, List.set_cons_succ])
  refine wpH_one (i := 8) (by kernel_rfl) (wpOp_val (v := .pointer (some ⟨g3, i * 2, none⟩)) (w' := w6) (by rfl) (wanted_none (by rfl) _) (by go_simp) ⟨Keeps.of_sees hs6, ?_⟩)
  (try simp only [Act.put, List.setIfInBounds_toArray, List.set_cons_zero, List.set_cons_succ])
  have hlt6 : ∀ g, Value.ownBlock (.slice va cs.length vc) = some g → w5.heap.size ≤ g := fun g hg => by have := (El.rowLt ho6 hg).1; omega
  have hzz := HG3.out
  have hz5 := HZ5.out
  obtain ⟨g3', e3', -, -, -, ⟨zz0, zz1, hz0, hz1⟩, hf3, hput⟩ := lnrow_set (G := fun b => ((G b ∧ b < w.heap.size) ∨ w5.heap.size ≤ b)) ((HR5.out.sees hs6).mono (F := fun b => (G b ∧ b < w.heap.size) ∨ w5.heap.size ≤ b) (fun b _ h => .inl h) (Nat.le_refl _)) (by rw [← Hn.out]; exact hi) (.slice va cs.length vc) soft cs ((ho6.el.mono (fun b _ h => .inr (hlt6 b h.1))).rd)
  cases e3'
  have HP := Lib.hid (hput (fun h => by rcases h with h | h; (have := h.2; omega); omega))
  obtain ⟨w7, hw7⟩ : ∃ w7, w7 = (w6.setCell ⟨g3, i * 2, none⟩ (.slice va cs.length vc)).setCell ⟨g3, i * 2 + 1, none⟩ (.bool soft) := ⟨_, rfl⟩
  have hst : (Instr.storeAt 36 (.pointer (some ⟨g3, i * 2, none⟩)) (.agg #[.slice va cs.length vc, .bool soft])).run Tryd.prog w6 = .ok () w7 := by
    rw [hw7]
    clear hput HP ho6 hlt6
    go_simp
  have hk67 : Keeps (fun b => b = g3) w6 w7 := by rw [hw7]; exact ((Keeps.refl (fun b => b = g3) w6).setCell (p := ⟨g3, i * 2, none⟩) (fun _ => rfl) _).setCell (p := ⟨g3, i * 2 + 1, none⟩) (fun _ => rfl) _
  have hk57 : Keeps (fun b => b = g3) w5 w7 := (Keeps.of_sees hs6).trans hk67
  rw [← hw7] at HP
  have Hst := Lib.hid hst
  clear hst hw7 hput hz0 hz1 hf3
  refine wpH_one (i := 9) (by kernel_rfl) (wpOp_skip (w' := w7) (by rfl) (wanted_none (by rfl) _) (exec_store (a := .pointer (some ⟨g3, i * 2, none⟩)) (v := .agg #[.slice va cs.length vc, .bool soft]) rfl (by go_simp) (by go_simp) Hst.out) ⟨hk57, ?_⟩)
  (try simp only [Act.put, List.setIfInBounds_toArray, List.set_cons_zero, List.set_cons_succ])
  refine wpH_end (by kernel_rfl) ?_
  have C7 := E1.out.keeps hk57 (by omega)
  have D7 := E2.out.keeps hk57 (by omega)
  have P7 := Lib.hid ((GRow.of_row HP5.out).keeps hk57 (fun c hc e => by have hc : M ≤ c := hc; have e : c = g3 := e; omega))
  have S7 : Hid (Sees w w7) := Lib.hid (((Keeps.of_sees (F := fun _ => False) S5.out).trans' hk57 (fun b hb e => by have e : b = g3 := e; omega)).sees_end (fun _ _ h => h))
  have R7 : Hid (lnEl.Rd (fun b => (G b ∧ b < w.heap.size) ∨ w.heap.size + 3 ≤ b) w7 (.slice (some ⟨g3, 0, none⟩) n c3) (ls.set i ⟨cs, soft⟩)) := Lib.hid (HP.out.rd (fun b _ h => by rcases h with h | h; (rcases h with h | h; exact .inl h; exact .inr (by omega)); exact .inr h))
  obtain ⟨x0, x1, x2, x3, x4⟩ := C7.c
  obtain ⟨y0, y1, y2, y3, y4⟩ := D7.c
  have fy := D7.fr
  have HD7 := Lib.hid D7
  clear hk57 hk67 C7 D7 ho6 hs6 hlt6 HP Hst hS0 HP5 HR5 S5 E1 E2 EL hB
  go_wp2
  have E := HD7.out.set5 m p f (.slice (some ⟨g3, 0, none⟩) n c3) (.slice ap3 np cp3)
  have KE := keeps5 w7 (w.heap.size + 1 + 1) (.int .i64 m) (.int .i64 p) (.int .i64 f) (.slice (some ⟨g3, 0, none⟩) n c3) (.slice ap3 np cp3)
  obtain ⟨z0, z1, z2, z3, z4⟩ := E.c
  have hMM := HM.out
  refine bodyPost_ret_by (v := .tuple #[rrV m p f (.slice (some ⟨g3, 0, none⟩) n c3) (.slice ap3 np cp3), .int .i64 0]) (by simp [results, Tryd.results29, go_sem, z0, z1, z2, z3, z4]) rfl ⟨_, _, rfl, ⟨?_, ?_⟩, ((Keeps.of_sees (F := fun _ => False) S7.out).trans' KE (fun b hb e => by have e : b = w.heap.size + 1 + 1 := e; omega)).sees_end (fun _ _ h => h)⟩
  · exact (R7.out.keeps KE (fun b hb e => by have e : b = w.heap.size + 1 + 1 := e; rcases hb with h | h; (have := h.2; omega); omega)).mono (fun b _ h => by rcases h with h | h; exact .inl h; exact .inr (by omega))
  · exact (P7.out.keeps KE (fun b hb e => by have hb : M ≤ b := hb; have e : b = w.heap.size + 1 + 1 := e; omega)).rd.mono (fun b _ h => .inr (by have h : M ≤ b := h; omega))
end Go.Proofs.YthjcnhgfagefjaaDoor
