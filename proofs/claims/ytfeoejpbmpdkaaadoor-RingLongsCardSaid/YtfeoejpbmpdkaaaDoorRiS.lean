/- A ring into which many lines are pushed: RingLongs. No condition. -/
import Derived.Test.YtfeoejpbmpdkaaaDoorRiQ
import Derived.Test.YtfeoejpbmpdkaaaDoorFulls
import Derived.Test.YtfeoejpbmpdkaaaDoorRefV
import Derived.BigQuiet
import Derived.Deep.QuietTactic
namespace Go.Proofs.YtfeoejpbmpdkaaaDoor
set_option linter.unusedVariables false
set_option linter.unusedSimpArgs false
open Go.RowKit

theorem fl_drop (n k : Nat) (l : Ln) (i : Nat) (h : ((fl n).drop k)[i]? = some l) : l = abc (k + i) := by
  rw [List.getElem?_drop] at h
  unfold fl at h
  rw [List.getElem?_map] at h
  obtain ⟨j, hj, rfl⟩ := Option.map_eq_some_iff.1 h
  have hl := (List.getElem?_eq_some_iff.1 hj).1
  simp at hl
  rw [List.getElem?_range hl] at hj
  cases hj; rfl
theorem sameLine_true (v u : Value) (l : Ln) (w : World) (h1 : RdCells w v l.cells) (h2 : RdCells w u l.cells) (hn : l.cells.length ≤ 1000000) :
    Calls Tryd.prog 22 #[.agg #[v, .bool l.soft], .agg #[u, .bool l.soft]] w fun e w' => e = .returned (.bool true) ∧ Sees w w' := by
  have h := sameLine_any v u l l w h1 h2 hn
  rw [decide_eq_true (rfl : l = l)] at h
  exact h
theorem fl_step (k m : Nat) : ((fl k).drop (k - m) ++ [(⟨(abc k).cells, false⟩ : Ln)]).drop (min 1 (k + 1 - m)) = (fl (k + 1)).drop (k + 1 - m) := by
  rw [fl_succ, show (⟨(abc k).cells, false⟩ : Ln) = abc k from rfl]
  by_cases h : k < m
  · rw [show k - m = 0 by omega, show k + 1 - m = 0 by omega]; simp
  · rw [show min 1 (k + 1 - m) = 1 by omega, ← List.drop_append_of_le_length (by rw [fl_length]; omega), List.drop_drop, show k - m + 1 = k + 1 - m by omega]
set_option maxRecDepth 1000000 in
set_option maxHeartbeats 4000000 in
theorem ringLongs_out (a b c : Int) (w : World) (ht : Tabs w) (h : decide (a > 3000) = true ∨ (decide (a > 3000) = false ∧ decide (b > 2000) = true) ∨ (decide (a > 3000) = false ∧ decide (b > 2000) = false ∧ decide (c < 1) = true) ∨ (decide (a > 3000) = false ∧ decide (b > 2000) = false ∧ decide (c < 1) = false ∧ decide (c > 1024) = true)) :
    Calls Tryd.prog 7 #[.int .u16 a, .int .u16 b, .int .u16 c] w fun e w' => e = .returned (.bool true) ∧ Sees w w' := by
  have Ht := Lib.hid ht
  clear ht
  rcases h with h1 | ⟨h1, h2⟩ | ⟨h1, h2, h3⟩ | ⟨h1, h2, h3, h4⟩
  all_goals
    go_enter Tryd.func7, Tryd.ntmps7
    go_wp2_with fail
    refine (known08 w Ht.out).mono ?_
    rintro e w1 ⟨rfl, hs⟩
    go_wp2
    go_ret
    exact ⟨rfl, hs⟩
set_option maxRecDepth 1000000 in
set_option maxHeartbeats 8000000 in
theorem ringLongs_in (n m p : Nat) (w : World) (ht : Tabs w) (h1 : n ≤ 3000) (h2 : m ≤ 2000) (h3 : 1 ≤ p) (h4 : p ≤ 1024) :
    Calls Tryd.prog 7 #[.int .u16 n, .int .u16 m, .int .u16 p] w fun e w' => e = .returned (.bool true) ∧ Sees w w' := by
  have Ht := Lib.hid ht
  clear ht
  have d1 : decide ((n : Int) > 3000) = false := decide_eq_false (by omega)
  have d2 : decide ((m : Int) > 2000) = false := decide_eq_false (by omega)
  have d3 : decide ((p : Int) < 1) = false := decide_eq_false (by omega)
  have d4 : decide ((p : Int) > 1024) = false := decide_eq_false (by omega)
  go_enter Tryd.func7, Tryd.ntmps7
  go_wp2_with fail
  refine (new_rgs (m : Int) (p : Int) w (by omega) (by omega) (by omega) (by omega)).mono ?_
  rintro e w1 ⟨rfl, P⟩
  have P1 := Lib.hid P
  clear P
  go_wp2_with fail
  go_loopw [9] (fun i W => ∃ k : Nat, k ≤ n ∧ i = .int .i64 k ∧ ∃ g, Tight p g ∧ RgS w W.heap.size W w.heap.size m p ((k - m : Nat) : Int) ((fl k).drop (k - m)) g) (fun i _ => n - (intOf i).toNat)
  case atStart => exact ⟨0, by omega, rfl, [], trivial, by rw [Nat.zero_sub]; exact P1.out⟩
  case round =>
    obtain ⟨k, hk, rfl, g, hg, hP⟩ := hrel
    have H := Lib.hid hP
    have HG := Lib.hid hg
    have Hll := Lib.hid (show ((fl k).drop (k - m)).length = k - (k - m) by rw [List.length_drop, fl_length])
    clear hP hg
    by_cases hlt : k < n
    · go_wp2_with fail
      refine (rtext_any _ _).mono ?_
      rintro e W2 ⟨v', rfl, ho, hs⟩
      have H2 := Lib.hid (H.out.sees hs)
      obtain ⟨a', c', rfl⟩ := ho.slice
      have Ho := Lib.hid ho
      clear ho hs
      go_wp2_with fail
      refine (H2.out.pushes Ht.out (by rw [Hll.out]; omega) (fun b => wr.heap.size ≤ b) _ (abc k).cells false Ho.out.rdc (fun b hb => .inr hb) (abc_ok k) (min 1 (k + 1 - m)) (by rw [Hll.out]; omega) (k : Int) (by rw [Hll.out]; omega)).mono ?_
      rintro e W3 ⟨rfl, hP3, _⟩
      rw [fl_step, show (((k - m : Nat) : Int) + ((min 1 (k + 1 - m) : Nat) : Int)) = ((k + 1 - m : Nat) : Int) by omega] at hP3
      have H3 := Lib.hid hP3
      clear hP3
      go_wp2
      refine ⟨⟨k + 1, by omega, by simp, _, (HG.out.pushG).dropG _, H3.out⟩, by simp [intOf]; omega⟩
    · obtain rfl : k = n := by omega
      obtain ⟨f, hf⟩ : ∃ f, f = k - m := ⟨_, rfl⟩
      rw [← hf] at H Hll
      have hf1 : f ≤ k := by omega
      have hm1 : (if m < k then (k : Int) - m else 0) = (f : Int) := by split <;> omega
      have hm2 : (if 0 < (k : Int) - m then (k : Int) - m else 0) = (f : Int) := by split <;> omega
      have hm3 : (if (m : Int) < k then (k : Int) - m else 0) = (f : Int) := by split <;> omega
      have Hf := Lib.hid hf
      clear hf
      obtain ⟨L, hL⟩ : ∃ L, L = ((fl k).drop f).length := ⟨_, rfl⟩
      have hLk : L = k - f := by rw [hL, Hll.out]
      have hLk2 : L ≤ 3000 := by omega
      have HL := Lib.hid hL
      have HLk := Lib.hid hLk
      clear hL hLk
      obtain ⟨q, hq⟩ : ∃ q : Nat, (q : Int) = (m : Int) / p := ⟨m / p, by simp⟩
      obtain ⟨gn, hgn⟩ : ∃ gn, gn = g.length := ⟨_, rfl⟩
      have hpg : (gn : Int) ≤ q + 2 := by
        rw [hq, hgn]
        exact HG.out.pages (by omega) H.out.ring.sum.2 (by rw [H.out.ring.sum.1, Hll.out]; have := Hf.out; omega)
      have hq2 : q ≤ 2000 := by
        have : (m : Int) / p ≤ m := Int.ediv_le_self _ (by omega)
        omega
      have HQ := Lib.hid hq
      have HGn := Lib.hid hgn
      clear hq hgn
      have e1 : ((f : Int) != (f : Int)) = false := by simp
      have e2 : ((k : Int) != (k : Int)) = false := by simp
      have e3 : decide ((gn : Int) > (q : Int) + 2) = false := decide_eq_false (by omega)
      have e3' : decide ((q : Int) + 2 < (gn : Int)) = false := decide_eq_false (by omega)
      have e4 : (m : Int).tdiv p = (q : Int) := by rw [HQ.out, Int.tdiv_eq_ediv_of_nonneg (by omega)]
      have e5 : IntKind.i64.wrap (q : Int) = (q : Int) := IntWalk.i64_in _ (by omega)
      have e6 : IntKind.i64.wrap ((q : Int) + 2) = (q : Int) + 2 := IntWalk.i64_in _ (by omega)
      go_wp2_with fail
      refine wp_region_quiet_below (by kernel_rfl) (by kernel_rfl) ?_
      repeat (first | go_big_quiet_skip | (go_big_quiet_want; go_big_quiet_op; go_big_quiet_on))
      go_big_quiet_want; go_big_quiet_op; apply Exists.intro; refine ⟨fun p => Calls.regrown_of ((H.out.sees (sees_grow _ _ _)).rgfirst), ?_⟩; go_big_quiet_on
      repeat (first | go_big_quiet_skip | (go_big_quiet_want; go_big_quiet_op; go_big_quiet_on))
      go_big_quiet_want; go_big_quiet_op; apply Exists.intro; refine ⟨fun p => Calls.regrown_of ((H.out.sees (sees_grow _ _ _)).rgnext (k : Int) (by rw [← HL.out, HLk.out]; omega)), ?_⟩; go_big_quiet_on
      repeat (first | go_big_quiet_skip | (go_big_quiet_want; go_big_quiet_op; go_big_quiet_on))
      go_big_quiet_want; go_big_quiet_op; apply Exists.intro; refine ⟨fun p => Calls.regrown_of ((H.out.sees (sees_grow _ _ _)).rgpages (gn : Int) (by rw [HGn.out])), ?_⟩; go_big_quiet_on
      repeat (first | go_big_quiet_skip | (go_big_quiet_want; go_big_quiet_op; go_big_quiet_on))
      refine wpQuiet_nil ?_; intro w2 hw2'; have hw2 := regrown_sees hw2'; clear hw2'
      have H2 := Lib.hid (H.out.sees hw2)
      have HS2 := Lib.hid (H2.out.see)
      clear hw2 e1 e2 e3 e3' e4 e5 e6 hm1 hm2 hm3 d1 d2 d3 d4
      go_wp2_with fail
      refine (H2.out.ring.range (f : Int) (k : Int) 0 L (by simp) (by rw [HLk.out]; omega) (Nat.zero_le _) (by rw [HL.out]; exact Nat.le_refl _)).mono ?_
      rintro e W3 ⟨v, rfl, ho, hs⟩
      have hseg : seg 0 L ((fl k).drop f) = (fl k).drop f := by unfold seg; rw [List.drop_zero, List.take_of_length_le (by rw [HL.out]; exact Nat.le_refl _)]
      rw [hseg] at ho
      obtain ⟨a3, c3, rfl, hc3⟩ := ho.slice
      rw [← HL.out] at ho ⊢
      have Ho := Lib.hid ho.rd
      have H3 := Lib.hid (H2.out.sees hs)
      have hdL : ((L : Int) != (k : Int) - f) = false := by rw [HLk.out]; simp; omega
      clear ho hs hseg hc3 HS2
      go_wp2_with fail
      clear hdL
      go_loopw [107] (fun i W => ∃ j : Nat, j ≤ L ∧ i = .int .i64 j ∧ Sees W3 W) (fun i _ => L - (intOf i).toNat)
      case atStart => exact ⟨0, Nat.zero_le _, rfl, Sees.refl _⟩
      case round =>
        obtain ⟨j, hj, rfl, hS⟩ := hrel
        have HS := Lib.hid hS
        clear hS
        by_cases hlt : j < L
        · obtain ⟨b1, o1, l, a1, m1, rfl, _, hl, _, y0, y1, y2⟩ := Ho.out.line (k := j) hlt
          obtain rfl : l = abc (f + j) := fl_drop _ _ _ _ hl
          obtain ⟨i0, hi0⟩ : ∃ i0, i0 = f + j := ⟨_, rfl⟩
          rw [← hi0] at y0 y1 y2
          obtain ⟨z, hz⟩ : ∃ z : Int, z = (i0 : Int) % 26 := ⟨_, rfl⟩
          have hz0 : 0 ≤ z := by omega
          have hz1 : z < 26 := by omega
          have hcs : abc i0 = ⟨[one (97 + z)], false⟩ := by unfold abc; rw [hz]
          rw [hcs] at y0 y1 y2
          have x0 : wr.cell? ⟨b1, o1 + j * 2, none⟩ = some (.slice a1 1 m1) := HS.out.cell y0
          have x1 : wr.cell? ⟨b1, o1 + j * 2 + 1, none⟩ = some (.bool false) := HS.out.cell y1
          have Y2 := Lib.hid y2.rdCells
          have w0 : IntKind.i64.wrap ((f : Int) + j) = (i0 : Int) := by rw [IntWalk.i64_in _ (by omega)]; omega
          have w1 : (i0 : Int).tmod 26 = z := by rw [Int.tmod_eq_emod_of_nonneg (by omega)]; exact hz.symm
          have w2 : IntKind.i64.wrap z = z := IntWalk.i64_in _ (by omega)
          have w3 : IntKind.i64.wrap (97 + z) = 97 + z := IntWalk.i64_in _ (by omega)
          have w4 : IntKind.i32.wrap (97 + z) = 97 + z := IntWalk.i32_in _ (by omega)
          have Hi0 := Lib.hid hi0
          clear hl y0 y1 y2 hcs hz hi0
          go_wp2_with fail
          refine wp_world (fun w5 hw5 => ?_)
          have A5 : LnAt w5 wr.heap.size (.slice a1 1 m1) false := by subst hw5; exact LnAt.new rfl
          have S5 : Sees wr w5 := by subst hw5; exact (Sees.refl wr).alloc _
          have HA5 := Lib.hid A5
          have HS5 := Lib.hid (HS.out.trans S5)
          clear hw5 A5 S5 x0 x1
          refine wpH_go (fun _ => False) 10 (by kernel_rfl) (by kernel_rfl) (by rfl) (fun hB w6 hs6 => ?_)
          have D0 := Lib.hid (HA5.out.sees hs6)
          have HS6 := Lib.hid (HS5.out.trans hs6)
          clear hs6
          have hS0 : Keeps (fun _ => False) w6 w6 := Keeps.refl _ w6
          refine wpH_take (i := 0) (v := .agg #[.slice a1 1 m1, .bool false]) hB (by rfl) (by kernel_rfl) (fun _ _ _ _ _ h => h) (by rfl) hS0 (fun W hI => by have q := (D0.out.sees (hI.sees_end (fun _ _ h => h))).c; obtain ⟨q0, q1⟩ := q; go_simp) ?_; (try simp only [Act.put, List.setIfInBounds_toArray, List.set_cons_zero, List.set_cons_succ])
          refine wpH_take (i := 1) (v := .int .i64 f) hB (by rfl) (by kernel_rfl) (fun _ _ _ _ _ h => h) (by rfl) hS0 (fun W hI => by clear hI; go_simp) ?_; (try simp only [Act.put, List.setIfInBounds_toArray, List.set_cons_zero, List.set_cons_succ])
          refine wpH_take (i := 2) (v := .int .i64 j) hB (by rfl) (by kernel_rfl) (fun _ _ _ _ _ h => h) (by rfl) hS0 (fun W hI => by clear hI; go_simp) ?_; (try simp only [Act.put, List.setIfInBounds_toArray, List.set_cons_zero, List.set_cons_succ])
          refine wpH_take (i := 3) (v := .int .i64 i0) hB (by rfl) (by kernel_rfl) (fun _ _ _ _ _ h => h) (by rfl) hS0 (fun W hI => by clear hI; go_simp) ?_; (try simp only [Act.put, List.setIfInBounds_toArray, List.set_cons_zero, List.set_cons_succ])
          refine wpH_take (i := 4) (v := .int .i64 z) hB (by rfl) (by kernel_rfl) (fun _ _ _ _ _ h => h) (by rfl) hS0 (fun W hI => by clear hI; go_simp) ?_; (try simp only [Act.put, List.setIfInBounds_toArray, List.set_cons_zero, List.set_cons_succ])
          refine wpH_take (i := 5) (v := .int .i64 (97 + z)) hB (by rfl) (by kernel_rfl) (fun _ _ _ _ _ h => h) (by rfl) hS0 (fun W hI => by clear hI; go_simp) ?_; (try simp only [Act.put, List.setIfInBounds_toArray, List.set_cons_zero, List.set_cons_succ])
          refine wpH_take (i := 6) (v := .int .i32 (97 + z)) hB (by rfl) (by kernel_rfl) (fun _ _ _ _ _ h => h) (by rfl) hS0 (fun W hI => by clear hI; go_simp) ?_; (try simp only [Act.put, List.setIfInBounds_toArray, List.set_cons_zero, List.set_cons_succ])
          refine wpH_one (i := 7) (by kernel_rfl) (wpOp_enter (fn := 35) (args := #[.int .i32 (97 + z)]) (by rfl) (by rfl) (by go_simp) ((rtext_any (97 + z) _).mono ?_))
          rintro e W8 ⟨v8, rfl, ho8, hs8⟩
          obtain ⟨a8, c8, rfl⟩ := ho8.slice
          refine ⟨_, rfl, Keeps.of_sees hs8, ?_⟩
          (try simp only [Act.put, List.setIfInBounds_toArray, List.set_cons_zero, List.set_cons_succ])
          have HO8 := Lib.hid ho8
          have HS8 := Lib.hid hs8
          clear ho8 hs8
          refine wpH_one (i := 8) (by kernel_rfl) (wpOp_enter (fn := 22) (args := #[.agg #[.slice a1 1 m1, .bool false], .agg #[.slice a8 1 c8, .bool false]]) (by rfl) (by rfl) (by go_simp) ((sameLine_true _ _ ⟨[one (97 + z)], false⟩ _ (Y2.out.sees (HS6.out.trans HS8.out)) HO8.out.rd (by simp)).mono ?_))
          rintro e W9 ⟨rfl, hs9⟩
          have HS9 := Lib.hid (HS8.out.trans hs9)
          clear hs9
          refine ⟨_, rfl, Keeps.of_sees HS9.out, ?_⟩
          (try simp only [Act.put, List.setIfInBounds_toArray, List.set_cons_zero, List.set_cons_succ])
          refine wpH_one (i := 9) (by kernel_rfl) (wpOp_val (v := .bool false) (w' := W9) (by rfl) (wanted_none (by rfl) _) (by go_simp) ⟨Keeps.of_sees HS9.out, ?_⟩)
          (try simp only [Act.put, List.setIfInBounds_toArray, List.set_cons_zero, List.set_cons_succ])
          refine wpH_end (by kernel_rfl) ?_
          clear w0 w1 w2 w3 w4
          go_wp2
          refine ⟨⟨j + 1, by omega, by go_num, HS6.out.trans HS9.out⟩, by simp [intOf] <;> omega⟩
        · obtain rfl : j = L := by omega
          have H4 := Lib.hid (H3.out.sees HS.out)
          by_cases hf0 : f = 0
          · have t0 : ((f : Int) == 0) = true := beq_iff_eq.2 (by omega)
            clear hf0
            go_wp2_with fail
            refine (known08 _ (Ht.out.sees H4.out.see)).mono ?_
            rintro e W5 ⟨rfl, hs⟩
            have H5 := Lib.hid (H4.out.see.trans hs)
            clear hs
            go_wp2
            go_ret
            exact ⟨by simp, H5.out⟩
          · have t0 : ((f : Int) == 0) = false := beq_eq_false_iff_ne.2 (by omega)
            have hf9 : 1 ≤ f := by omega
            clear hf0
            go_wp2_with fail
            refine (H4.out.gets_err ((f : Int) - 1) 14 (.inr ⟨by omega, by omega, rfl⟩)).mono ?_
            rintro e W5 ⟨rfl, hs⟩
            have H5 := Lib.hid (H4.out.sees hs)
            clear hs
            go_wp2_with fail
            refine (known08 _ (Ht.out.sees H5.out.see)).mono ?_
            rintro e W6 ⟨rfl, hs⟩
            have H6 := Lib.hid (H5.out.see.trans hs)
            clear hs
            go_wp2
            go_ret
            exact ⟨by simp, H6.out⟩
end Go.Proofs.YtfeoejpbmpdkaaaDoor
