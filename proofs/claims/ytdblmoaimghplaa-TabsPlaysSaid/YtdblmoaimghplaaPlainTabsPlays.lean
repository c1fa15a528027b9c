/- TabsPlays returns true for every input, and leaves its arguments alone. No condition. -/
import Derived.Test.YtdblmoaimghplaaLawN
import Derived.Test.YtdblmoaimghplaaTbX
namespace Go.Proofs.Ytdblmoaimghplaa
set_option linter.unusedVariables false
set_option linter.unusedSimpArgs false
namespace tabsPlays
open Go.ChangeShapes Go.WideShapes Go.ChangeAt Go.RowKit

set_option maxHeartbeats 8000000 in
set_option maxRecDepth 100000 in
theorem walk (c : Int) (v : Value) (xs : List Ac) (w : World) (hc : -9223372036854775808 ≤ c ∧ c ≤ 9223372036854775807) (hv : RdAs w v xs) :
    Calls Try.prog 6 #[.int .i64 c, v] w fun e w' => e = .returned (.bool true) ∧ Sees w w' := by
  obtain ⟨ao, cap, rfl, hcap, hbs⟩ := hv
  replace hbs := Lib.hid hbs
  have hr := Sees.refl w
  by_cases h1 : c < 1
  · have d1 : decide (c < 1) = true := decide_eq_true h1
    go_enter Try.func6, Try.ntmps6
    go_wp2_with fail
    refine (known20 _).mono ?_
    rintro e W2 ⟨rfl, s2⟩
    go_wp2
    go_ret
    exact ⟨rfl, s2⟩
  have d1 : decide (c < 1) = false := decide_eq_false h1
  by_cases h2 : c > 1000
  · have d2 : decide (c > 1000) = true := decide_eq_true h2
    have d2' : decide (1000 < c) = true := decide_eq_true h2
    go_enter Try.func6, Try.ntmps6
    go_wp2_with fail
    refine (known20 _).mono ?_
    rintro e W2 ⟨rfl, s2⟩
    go_wp2
    go_ret
    exact ⟨rfl, s2⟩
  have d2 : decide (c > 1000) = false := decide_eq_false h2
  have d2' : decide (1000 < c) = false := decide_eq_false h2
  obtain ⟨N, hN⟩ : ∃ N, N = xs.length := ⟨_, rfl⟩
  rw [← hN] at hcap hbs ⊢
  clear hN
  by_cases h3 : 40 < N
  · have d3 : decide ((N : Int) > 40) = true := decide_eq_true (by omega)
    have d3' : decide (40 < N) = true := decide_eq_true h3
    go_enter Try.func6, Try.ntmps6
    go_wp2_with fail
    refine (known20 _).mono ?_
    rintro e W2 ⟨rfl, s2⟩
    go_wp2
    go_ret
    exact ⟨rfl, s2⟩
  have d3 : decide ((N : Int) > 40) = false := decide_eq_false (by omega)
  have d3' : decide (40 < N) = false := decide_eq_false h3
  obtain ⟨n, rfl⟩ : ∃ n : Nat, c = (n : Int) := ⟨c.toNat, by omega⟩
  have hn : 1 ≤ n ∧ n ≤ 1000 := by omega
  go_enter Try.func6, Try.ntmps6
  go_wp2_with fail
  refine (new_ok w n (by omega)).mono ?_
  rintro e W1 ⟨p, mb, rfl, hp, hm, hS, s1⟩
  go_wp2_with fail
  refine (start_st w n (by omega) hp hm hS s1).mono ?_
  rintro e W2 ⟨q, rfl, hq, hT⟩
  clear hS s1
  have HB := Lib.hid (And.intro hp hm)
  have HQ := Lib.hid hq
  clear hp hm hq
  have HT := Lib.hid hT
  clear hT
  go_wp2
  go_loopw [5, 8] (fun x y W => ∃ k p mb : Nat, x = ptr p ∧ y = .int .i64 k ∧ k ≤ N ∧ RowKit.Hid (w.heap.size ≤ p ∧ w.heap.size ≤ mb) ∧ RowKit.Hid (StW w W p mb q)) (fun _ y _ => N - (vInt y).toNat)
  case atStart => exact ⟨0, p, mb, rfl, rfl, by omega, HB, HT⟩
  case round =>
    clear HT HB
    obtain ⟨k, p, mb, rfl, rfl, hk, HB, hst⟩ := hrel
    by_cases hlt : k < N
    · obtain ⟨b1, o1, ⟨x, a, m⟩, rfl, x0, x1, x2, hf0, hf1, hf2⟩ := hbs.out k hlt
      simp only at x0 x1 x2 hf0 hf1 hf2
      have c0 := hst.out.2.cell x0
      have c1 := hst.out.2.cell x1
      have c2 := hst.out.2.cell x2
      have hdo := does_st hst.out HB.out.1 HB.out.2 HQ.out x a m hf2
      have hk3 : 0 ≤ (k : Int) := by omega
      go_wp2_with (go_at_call 11; refine hdo.mono ?_)
      rintro e W3 ⟨rfl, hT3⟩
      have c0 := hT3.2.cell x0
      replace hT3 := Lib.hid hT3
      clear hst hdo c1 c2 x1 x2
      by_cases hx : x < 0 ∨ 6 < x
      · obtain ⟨u, hu⟩ : ∃ u, u = decide (x < 0) := ⟨_, rfl⟩
        replace hu := hu.symm
        have hu2 : u = true ∨ (u = false ∧ decide (x > 6) = true) := by
          by_cases h0 : x < 0
          · exact .inl (by rw [← hu]; exact decide_eq_true h0)
          · exact .inr ⟨by rw [← hu]; exact decide_eq_false h0, decide_eq_true (by omega)⟩
        rcases hu2 with rfl | ⟨rfl, hu3⟩
        · clear hf0 hf1 hf2 hx
          have hcp := copy_st hT3.out
          go_wp2_with (go_at_call 23; refine hcp.mono ?_)
          rintro e W4 ⟨p2, m2, rfl, hp2, hm2, hC⟩
          replace hC := Lib.hid hC
          clear hT3 hcp c0
          have hrs := reset_sc hC.out HB.out.2
          go_wp2_with (go_at_call 17; refine hrs.mono ?_)
          rintro e W6 ⟨rfl, hC2⟩
          replace hC2 := Lib.hid hC2
          clear hC hrs
          have hse := set_sc hC2.out HB.out.2
          go_wp2_with (go_at_call 15; refine hse.mono ?_)
          rintro e W7 ⟨rfl, hC3⟩
          have hT7 := Lib.hid hC3.st
          have HB2 := Lib.hid (And.intro hp2 hm2)
          clear hC2 hse hC3 HB hp2 hm2
          obtain ⟨⟨L, b, hb, hTw⟩, hsw⟩ := hT7.out
          obtain ⟨cap2, y0, hcap2⟩ := hTw.rf.cs
          go_wp2_with fail
          refine wpFrom_go (by kernel_rfl) (by kernel_rfl) (fun hB w2 hw2 => ?_)
          have hval : ∀ x v, (Spec.is x).val v = x := fun _ _ => rfl
          have hval2 : ∀ V v, (Spec.so V).val v = v := fun _ _ => rfl
          have Hw2 := Lib.hid hw2
          have HTw := Lib.hid hTw
          clear hTw
          have hst : segStay (Sees w2) [.is (ptr p2), .is (i64 L.length), .is (ptr q), .is (ptr q), .is (ptr q), .is (.slice (some ⟨b, 0, none⟩) L.length cap2), .is (i64 L.length), .is (.bool false), .is (.bool false), .is (ptr p2), .is (ptr q), .so (fun v W => IntsRd W v (stopsL L)), .is (.bool true), .is (.bool false), .is (.bool false)] :=
            ⟨fun u W W' _ h hs => h.sees hs, trivial⟩
          refine wpFrom_any 15 _ hB (by kernel_rfl) rfl hst (by simp only [List.cons_append, List.nil_append, List.drop_succ_cons, List.drop_zero, List.take_succ_cons, List.take_zero, Nat.reduceSub]; rfl) ?_
          refine ⟨fun vs W hI hV => .inl ⟨by clear hI hV hst; go_simp, .inl (by clear hI hV hst; (try simp only [Act.put, hval, hval2, List.setIfInBounds_toArray, List.set_cons_zero, List.set_cons_succ]); go_simp)⟩, ?_⟩
          refine ⟨fun vs W hI hV => .inl ⟨by clear hI hV hst; (try simp only [Act.put, hval, hval2, List.setIfInBounds_toArray, List.set_cons_zero, List.set_cons_succ]); go_simp, .inr (.inr ⟨12, #[ptr p2], by clear hI hV hst; (try simp only [Act.put, hval, hval2, List.setIfInBounds_toArray, List.set_cons_zero, List.set_cons_succ]); go_simp, (cols_at (HTw.out.sp.sees (Hw2.out.trans hI))).mono fun e w' h' => ⟨h'.1, by rw [h'.2]; exact Sees.refl W⟩⟩)⟩, ?_⟩
          refine ⟨fun vs W hI hV => .inl ⟨by clear hI hV hst; go_simp, .inl (by clear hI hV hst; (try simp only [Act.put, hval, hval2, List.setIfInBounds_toArray, List.set_cons_zero, List.set_cons_succ]); go_simp)⟩, ?_⟩
          refine ⟨fun vs W hI hV => .inl ⟨by clear hI hV hst; go_simp, .inl (by clear hI hV hst; (try simp only [Act.put, hval, hval2, List.setIfInBounds_toArray, List.set_cons_zero, List.set_cons_succ]); go_simp)⟩, ?_⟩
          refine ⟨fun vs W hI hV => .inl ⟨by clear hI hV hst; go_simp, .inl (by clear hI hV hst; (try simp only [Act.put, hval, hval2, List.setIfInBounds_toArray, List.set_cons_zero, List.set_cons_succ]); go_simp)⟩, ?_⟩
          refine ⟨fun vs W hI hV => .inl ⟨by clear hI hV hst; go_simp, .inl (by have q0 := Sees.cell (Hw2.out.trans hI) y0; clear hI hV hst; (try simp only [Act.put, hval, hval2, List.setIfInBounds_toArray, List.set_cons_zero, List.set_cons_succ]); go_simp)⟩, ?_⟩
          refine ⟨fun vs W hI hV => .inl ⟨by clear hI hV hst; go_simp, .inl (by clear hI hV hst; (try simp only [Act.put, hval, hval2, List.setIfInBounds_toArray, List.set_cons_zero, List.set_cons_succ]); go_simp)⟩, ?_⟩
          refine ⟨fun vs W hI hV => .inl ⟨by clear hI hV hst; go_simp, .inl (by clear hI hV hst; (try simp only [Act.put, hval, hval2, List.setIfInBounds_toArray, List.set_cons_zero, List.set_cons_succ]); go_simp)⟩, ?_⟩
          refine ⟨fun vs W hI hV => .inl ⟨by clear hI hV hst; go_simp, .inl (by clear hI hV hst; (try simp only [Act.put, hval, hval2, List.setIfInBounds_toArray, List.set_cons_zero, List.set_cons_succ]); go_simp)⟩, ?_⟩
          refine ⟨fun vs W hI hV => .inl ⟨by clear hI hV hst; (try simp only [Act.put, hval, hval2, List.setIfInBounds_toArray, List.set_cons_zero, List.set_cons_succ]); go_simp, .inl (by clear hI hV hst; (try simp only [Act.put, hval, hval2, List.setIfInBounds_toArray, List.set_cons_zero, List.set_cons_succ]); go_simp)⟩, ?_⟩
          refine ⟨fun vs W hI hV => .inl ⟨by clear hI hV hst; (try simp only [Act.put, hval, hval2, List.setIfInBounds_toArray, List.set_cons_zero, List.set_cons_succ]); go_simp, .inl (by clear hI hV hst; (try simp only [Act.put, hval, hval2, List.setIfInBounds_toArray, List.set_cons_zero, List.set_cons_succ]); go_simp)⟩, ?_⟩
          refine ⟨fun vs W hI hV => .inl ⟨by clear hI hV hst; (try simp only [Act.put, hval, hval2, List.setIfInBounds_toArray, List.set_cons_zero, List.set_cons_succ]); go_simp, .inr (.inr ⟨14, #[ptr q], by clear hI hV hst; (try simp only [Act.put, hval, hval2, List.setIfInBounds_toArray, List.set_cons_zero, List.set_cons_succ]); go_simp, ?_⟩)⟩, ?_⟩
          · refine (rlist_at (HTw.out.rf.sees (Hw2.out.trans hI))).mono ?_
            rintro e w' ⟨v, rfl, hrow, hs⟩
            exact ⟨_, rfl, rgGood_mk hst hI (IntsRd.of_row hrow) hs⟩
          refine ⟨fun vs W hI hV => .inl ⟨by clear hI hV hst; (try simp only [Act.put, hval, hval2, List.setIfInBounds_toArray, List.set_cons_zero, List.set_cons_succ]); go_simp, .inr (.inr ⟨13, #[ptr p2, vs 11], by clear hI hV hst; (try simp only [Act.put, hval, hval2, List.setIfInBounds_toArray, List.set_cons_zero, List.set_cons_succ]); go_simp, ?_⟩)⟩, ?_⟩
          · have hrd : IntsRd W (vs 11) (stopsL L) := hV 11 _ (by kernel_rfl) rfl
            exact listed_at (HTw.out.sp.sees (Hw2.out.trans hI)) _ _ hrd rfl
          refine ⟨fun vs W hI hV => .inl ⟨by clear hI hV hst; (try simp only [Act.put, hval, hval2, List.setIfInBounds_toArray, List.set_cons_zero, List.set_cons_succ]); go_simp, .inl (by clear hI hV hst; (try simp only [Act.put, hval, hval2, List.setIfInBounds_toArray, List.set_cons_zero, List.set_cons_succ]); go_simp)⟩, ?_⟩
          refine ⟨fun vs W hI hV => .inl ⟨by clear hI hV hst; (try simp only [Act.put, hval, hval2, List.setIfInBounds_toArray, List.set_cons_zero, List.set_cons_succ]); go_simp, .inl (by clear hI hV hst; (try simp only [Act.put, hval, hval2, List.setIfInBounds_toArray, List.set_cons_zero, List.set_cons_succ]); go_simp)⟩, ?_⟩
          intro vs W5 hI hV
          have hT5 : RowKit.Hid (StW w W5 p2 m2 q) := Lib.hid ⟨⟨L, b, hb, HTw.out.sees (Hw2.out.trans hI)⟩, (hsw.trans Hw2.out).trans hI⟩
          clear hV hI hst y0 hw2 Hw2 HTw
          go_simp
          refine wpFrom_end rfl ?_
          go_wp2
          go_roundw
          case rel => exact ⟨k + 1, p2, m2, rfl, by go_num, by omega, HB2, hT5⟩
          case measure => simp [vInt]; omega
        · have hu4 : decide (6 < x) = true := hu3
          clear hf0 hf1 hf2 hx
          have hcp := copy_st hT3.out
          go_wp2_with (go_at_call 23; refine hcp.mono ?_)
          rintro e W4 ⟨p2, m2, rfl, hp2, hm2, hC⟩
          replace hC := Lib.hid hC
          clear hT3 hcp c0
          have hrs := reset_sc hC.out HB.out.2
          go_wp2_with (go_at_call 17; refine hrs.mono ?_)
          rintro e W6 ⟨rfl, hC2⟩
          replace hC2 := Lib.hid hC2
          clear hC hrs
          have hse := set_sc hC2.out HB.out.2
          go_wp2_with (go_at_call 15; refine hse.mono ?_)
          rintro e W7 ⟨rfl, hC3⟩
          have hT7 := Lib.hid hC3.st
          have HB2 := Lib.hid (And.intro hp2 hm2)
          clear hC2 hse hC3 HB hp2 hm2
          obtain ⟨⟨L, b, hb, hTw⟩, hsw⟩ := hT7.out
          obtain ⟨cap2, y0, hcap2⟩ := hTw.rf.cs
          go_wp2_with fail
          refine wpFrom_go (by kernel_rfl) (by kernel_rfl) (fun hB w2 hw2 => ?_)
          have hval : ∀ x v, (Spec.is x).val v = x := fun _ _ => rfl
          have hval2 : ∀ V v, (Spec.so V).val v = v := fun _ _ => rfl
          have Hw2 := Lib.hid hw2
          have HTw := Lib.hid hTw
          clear hTw
          have hst : segStay (Sees w2) [.is (ptr p2), .is (i64 L.length), .is (ptr q), .is (ptr q), .is (ptr q), .is (.slice (some ⟨b, 0, none⟩) L.length cap2), .is (i64 L.length), .is (.bool false), .is (.bool false), .is (ptr p2), .is (ptr q), .so (fun v W => IntsRd W v (stopsL L)), .is (.bool true), .is (.bool false), .is (.bool false)] :=
            ⟨fun u W W' _ h hs => h.sees hs, trivial⟩
          refine wpFrom_any 15 _ hB (by kernel_rfl) rfl hst (by simp only [List.cons_append, List.nil_append, List.drop_succ_cons, List.drop_zero, List.take_succ_cons, List.take_zero, Nat.reduceSub]; rfl) ?_
          refine ⟨fun vs W hI hV => .inl ⟨by clear hI hV hst; go_simp, .inl (by clear hI hV hst; (try simp only [Act.put, hval, hval2, List.setIfInBounds_toArray, List.set_cons_zero, List.set_cons_succ]); go_simp)⟩, ?_⟩
          refine ⟨fun vs W hI hV => .inl ⟨by clear hI hV hst; (try simp only [Act.put, hval, hval2, List.setIfInBounds_toArray, List.set_cons_zero, List.set_cons_succ]); go_simp, .inr (.inr ⟨12, #[ptr p2], by clear hI hV hst; (try simp only [Act.put, hval, hval2, List.setIfInBounds_toArray, List.set_cons_zero, List.set_cons_succ]); go_simp, (cols_at (HTw.out.sp.sees (Hw2.out.trans hI))).mono fun e w' h' => ⟨h'.1, by rw [h'.2]; exact Sees.refl W⟩⟩)⟩, ?_⟩
          refine ⟨fun vs W hI hV => .inl ⟨by clear hI hV hst; go_simp, .inl (by clear hI hV hst; (try simp only [Act.put, hval, hval2, List.setIfInBounds_toArray, List.set_cons_zero, List.set_cons_succ]); go_simp)⟩, ?_⟩
          refine ⟨fun vs W hI hV => .inl ⟨by clear hI hV hst; go_simp, .inl (by clear hI hV hst; (try simp only [Act.put, hval, hval2, List.setIfInBounds_toArray, List.set_cons_zero, List.set_cons_succ]); go_simp)⟩, ?_⟩
          refine ⟨fun vs W hI hV => .inl ⟨by clear hI hV hst; go_simp, .inl (by clear hI hV hst; (try simp only [Act.put, hval, hval2, List.setIfInBounds_toArray, List.set_cons_zero, List.set_cons_succ]); go_simp)⟩, ?_⟩
          refine ⟨fun vs W hI hV => .inl ⟨by clear hI hV hst; go_simp, .inl (by have q0 := Sees.cell (Hw2.out.trans hI) y0; clear hI hV hst; (try simp only [Act.put, hval, hval2, List.setIfInBounds_toArray, List.set_cons_zero, List.set_cons_succ]); go_simp)⟩, ?_⟩
          refine ⟨fun vs W hI hV => .inl ⟨by clear hI hV hst; go_simp, .inl (by clear hI hV hst; (try simp only [Act.put, hval, hval2, List.setIfInBounds_toArray, List.set_cons_zero, List.set_cons_succ]); go_simp)⟩, ?_⟩
          refine ⟨fun vs W hI hV => .inl ⟨by clear hI hV hst; go_simp, .inl (by clear hI hV hst; (try simp only [Act.put, hval, hval2, List.setIfInBounds_toArray, List.set_cons_zero, List.set_cons_succ]); go_simp)⟩, ?_⟩
          refine ⟨fun vs W hI hV => .inl ⟨by clear hI hV hst; go_simp, .inl (by clear hI hV hst; (try simp only [Act.put, hval, hval2, List.setIfInBounds_toArray, List.set_cons_zero, List.set_cons_succ]); go_simp)⟩, ?_⟩
          refine ⟨fun vs W hI hV => .inl ⟨by clear hI hV hst; (try simp only [Act.put, hval, hval2, List.setIfInBounds_toArray, List.set_cons_zero, List.set_cons_succ]); go_simp, .inl (by clear hI hV hst; (try simp only [Act.put, hval, hval2, List.setIfInBounds_toArray, List.set_cons_zero, List.set_cons_succ]); go_simp)⟩, ?_⟩
          refine ⟨fun vs W hI hV => .inl ⟨by clear hI hV hst; (try simp only [Act.put, hval, hval2, List.setIfInBounds_toArray, List.set_cons_zero, List.set_cons_succ]); go_simp, .inl (by clear hI hV hst; (try simp only [Act.put, hval, hval2, List.setIfInBounds_toArray, List.set_cons_zero, List.set_cons_succ]); go_simp)⟩, ?_⟩
          refine ⟨fun vs W hI hV => .inl ⟨by clear hI hV hst; (try simp only [Act.put, hval, hval2, List.setIfInBounds_toArray, List.set_cons_zero, List.set_cons_succ]); go_simp, .inr (.inr ⟨14, #[ptr q], by clear hI hV hst; (try simp only [Act.put, hval, hval2, List.setIfInBounds_toArray, List.set_cons_zero, List.set_cons_succ]); go_simp, ?_⟩)⟩, ?_⟩
          · refine (rlist_at (HTw.out.rf.sees (Hw2.out.trans hI))).mono ?_
            rintro e w' ⟨v, rfl, hrow, hs⟩
            exact ⟨_, rfl, rgGood_mk hst hI (IntsRd.of_row hrow) hs⟩
          refine ⟨fun vs W hI hV => .inl ⟨by clear hI hV hst; (try simp only [Act.put, hval, hval2, List.setIfInBounds_toArray, List.set_cons_zero, List.set_cons_succ]); go_simp, .inr (.inr ⟨13, #[ptr p2, vs 11], by clear hI hV hst; (try simp only [Act.put, hval, hval2, List.setIfInBounds_toArray, List.set_cons_zero, List.set_cons_succ]); go_simp, ?_⟩)⟩, ?_⟩
          · have hrd : IntsRd W (vs 11) (stopsL L) := hV 11 _ (by kernel_rfl) rfl
            exact listed_at (HTw.out.sp.sees (Hw2.out.trans hI)) _ _ hrd rfl
          refine ⟨fun vs W hI hV => .inl ⟨by clear hI hV hst; (try simp only [Act.put, hval, hval2, List.setIfInBounds_toArray, List.set_cons_zero, List.set_cons_succ]); go_simp, .inl (by clear hI hV hst; (try simp only [Act.put, hval, hval2, List.setIfInBounds_toArray, List.set_cons_zero, List.set_cons_succ]); go_simp)⟩, ?_⟩
          refine ⟨fun vs W hI hV => .inl ⟨by clear hI hV hst; (try simp only [Act.put, hval, hval2, List.setIfInBounds_toArray, List.set_cons_zero, List.set_cons_succ]); go_simp, .inl (by clear hI hV hst; (try simp only [Act.put, hval, hval2, List.setIfInBounds_toArray, List.set_cons_zero, List.set_cons_succ]); go_simp)⟩, ?_⟩
          intro vs W5 hI hV
          have hT5 : RowKit.Hid (StW w W5 p2 m2 q) := Lib.hid ⟨⟨L, b, hb, HTw.out.sees (Hw2.out.trans hI)⟩, (hsw.trans Hw2.out).trans hI⟩
          clear hV hI hst y0 hw2 Hw2 HTw
          go_simp
          refine wpFrom_end rfl ?_
          go_wp2
          go_roundw
          case rel => exact ⟨k + 1, p2, m2, rfl, by go_num, by omega, HB2, hT5⟩
          case measure => simp [vInt]; omega
      · have u1 : decide (x < 0) = false := decide_eq_false (by omega)
        have u2 : decide (x > 6) = false := decide_eq_false (by omega)
        have u2' : decide (6 < x) = false := decide_eq_false (by omega)
        clear hf0 hf1 hf2 hx
        obtain ⟨⟨L, b, hb, hTw⟩, hsw⟩ := hT3.out
        obtain ⟨cap2, y0, hcap2⟩ := hTw.rf.cs
        go_wp2_with fail
        refine wpFrom_go (by kernel_rfl) (by kernel_rfl) (fun hB w2 hw2 => ?_)
        have hval : ∀ x v, (Spec.is x).val v = x := fun _ _ => rfl
        have hval2 : ∀ V v, (Spec.so V).val v = v := fun _ _ => rfl
        have Hw2 := Lib.hid hw2
        have HTw := Lib.hid hTw
        clear hTw
        have hst : segStay (Sees w2) [.is (ptr p), .is (i64 L.length), .is (ptr q), .is (ptr q), .is (ptr q), .is (.slice (some ⟨b, 0, none⟩) L.length cap2), .is (i64 L.length), .is (.bool false), .is (.bool false), .is (ptr p), .is (ptr q), .so (fun v W => IntsRd W v (stopsL L)), .is (.bool true), .is (.bool false), .is (.bool false)] :=
          ⟨fun u W W' _ h hs => h.sees hs, trivial⟩
        refine wpFrom_any 15 _ hB (by kernel_rfl) rfl hst (by simp only [List.cons_append, List.nil_append, List.drop_succ_cons, List.drop_zero, List.take_succ_cons, List.take_zero, Nat.reduceSub]; rfl) ?_
        refine ⟨fun vs W hI hV => .inl ⟨by clear hI hV hst; go_simp, .inl (by clear hI hV hst; (try simp only [Act.put, hval, hval2, List.setIfInBounds_toArray, List.set_cons_zero, List.set_cons_succ]); go_simp)⟩, ?_⟩
        refine ⟨fun vs W hI hV => .inl ⟨by clear hI hV hst; (try simp only [Act.put, hval, hval2, List.setIfInBounds_toArray, List.set_cons_zero, List.set_cons_succ]); go_simp, .inr (.inr ⟨12, #[ptr p], by clear hI hV hst; (try simp only [Act.put, hval, hval2, List.setIfInBounds_toArray, List.set_cons_zero, List.set_cons_succ]); go_simp, (cols_at (HTw.out.sp.sees (Hw2.out.trans hI))).mono fun e w' h' => ⟨h'.1, by rw [h'.2]; exact Sees.refl W⟩⟩)⟩, ?_⟩
        refine ⟨fun vs W hI hV => .inl ⟨by clear hI hV hst; go_simp, .inl (by clear hI hV hst; (try simp only [Act.put, hval, hval2, List.setIfInBounds_toArray, List.set_cons_zero, List.set_cons_succ]); go_simp)⟩, ?_⟩
        refine ⟨fun vs W hI hV => .inl ⟨by clear hI hV hst; go_simp, .inl (by clear hI hV hst; (try simp only [Act.put, hval, hval2, List.setIfInBounds_toArray, List.set_cons_zero, List.set_cons_succ]); go_simp)⟩, ?_⟩
        refine ⟨fun vs W hI hV => .inl ⟨by clear hI hV hst; go_simp, .inl (by clear hI hV hst; (try simp only [Act.put, hval, hval2, List.setIfInBounds_toArray, List.set_cons_zero, List.set_cons_succ]); go_simp)⟩, ?_⟩
        refine ⟨fun vs W hI hV => .inl ⟨by clear hI hV hst; go_simp, .inl (by have q0 := Sees.cell (Hw2.out.trans hI) y0; clear hI hV hst; (try simp only [Act.put, hval, hval2, List.setIfInBounds_toArray, List.set_cons_zero, List.set_cons_succ]); go_simp)⟩, ?_⟩
        refine ⟨fun vs W hI hV => .inl ⟨by clear hI hV hst; go_simp, .inl (by clear hI hV hst; (try simp only [Act.put, hval, hval2, List.setIfInBounds_toArray, List.set_cons_zero, List.set_cons_succ]); go_simp)⟩, ?_⟩
        refine ⟨fun vs W hI hV => .inl ⟨by clear hI hV hst; go_simp, .inl (by clear hI hV hst; (try simp only [Act.put, hval, hval2, List.setIfInBounds_toArray, List.set_cons_zero, List.set_cons_succ]); go_simp)⟩, ?_⟩
        refine ⟨fun vs W hI hV => .inl ⟨by clear hI hV hst; go_simp, .inl (by clear hI hV hst; (try simp only [Act.put, hval, hval2, List.setIfInBounds_toArray, List.set_cons_zero, List.set_cons_succ]); go_simp)⟩, ?_⟩
        refine ⟨fun vs W hI hV => .inl ⟨by clear hI hV hst; (try simp only [Act.put, hval, hval2, List.setIfInBounds_toArray, List.set_cons_zero, List.set_cons_succ]); go_simp, .inl (by clear hI hV hst; (try simp only [Act.put, hval, hval2, List.setIfInBounds_toArray, List.set_cons_zero, List.set_cons_succ]); go_simp)⟩, ?_⟩
        refine ⟨fun vs W hI hV => .inl ⟨by clear hI hV hst; (try simp only [Act.put, hval, hval2, List.setIfInBounds_toArray, List.set_cons_zero, List.set_cons_succ]); go_simp, .inl (by clear hI hV hst; (try simp only [Act.put, hval, hval2, List.setIfInBounds_toArray, List.set_cons_zero, List.set_cons_succ]); go_simp)⟩, ?_⟩
        refine ⟨fun vs W hI hV => .inl ⟨by clear hI hV hst; (try simp only [Act.put, hval, hval2, List.setIfInBounds_toArray, List.set_cons_zero, List.set_cons_succ]); go_simp, .inr (.inr ⟨14, #[ptr q], by clear hI hV hst; (try simp only [Act.put, hval, hval2, List.setIfInBounds_toArray, List.set_cons_zero, List.set_cons_succ]); go_simp, ?_⟩)⟩, ?_⟩
        · refine (rlist_at (HTw.out.rf.sees (Hw2.out.trans hI))).mono ?_
          rintro e w' ⟨v, rfl, hrow, hs⟩
          exact ⟨_, rfl, rgGood_mk hst hI (IntsRd.of_row hrow) hs⟩
        refine ⟨fun vs W hI hV => .inl ⟨by clear hI hV hst; (try simp only [Act.put, hval, hval2, List.setIfInBounds_toArray, List.set_cons_zero, List.set_cons_succ]); go_simp, .inr (.inr ⟨13, #[ptr p, vs 11], by clear hI hV hst; (try simp only [Act.put, hval, hval2, List.setIfInBounds_toArray, List.set_cons_zero, List.set_cons_succ]); go_simp, ?_⟩)⟩, ?_⟩
        · have hrd : IntsRd W (vs 11) (stopsL L) := hV 11 _ (by kernel_rfl) rfl
          exact listed_at (HTw.out.sp.sees (Hw2.out.trans hI)) _ _ hrd rfl
        refine ⟨fun vs W hI hV => .inl ⟨by clear hI hV hst; (try simp only [Act.put, hval, hval2, List.setIfInBounds_toArray, List.set_cons_zero, List.set_cons_succ]); go_simp, .inl (by clear hI hV hst; (try simp only [Act.put, hval, hval2, List.setIfInBounds_toArray, List.set_cons_zero, List.set_cons_succ]); go_simp)⟩, ?_⟩
        refine ⟨fun vs W hI hV => .inl ⟨by clear hI hV hst; (try simp only [Act.put, hval, hval2, List.setIfInBounds_toArray, List.set_cons_zero, List.set_cons_succ]); go_simp, .inl (by clear hI hV hst; (try simp only [Act.put, hval, hval2, List.setIfInBounds_toArray, List.set_cons_zero, List.set_cons_succ]); go_simp)⟩, ?_⟩
        intro vs W5 hI hV
        have hT5 : RowKit.Hid (StW w W5 p mb q) := Lib.hid ⟨⟨L, b, hb, HTw.out.sees (Hw2.out.trans hI)⟩, (hsw.trans Hw2.out).trans hI⟩
        clear hV hI hst y0 hw2 Hw2 HTw
        go_simp
        refine wpFrom_end rfl ?_
        go_wp2
        go_roundw
        case rel => exact ⟨k + 1, p, mb, rfl, by go_num, by omega, HB, hT5⟩
        case measure => simp [vInt]; omega
    · obtain rfl : k = N := by omega
      have hs := hst.out.2
      clear hst
      go_wp2_with fail
      refine (known20 _).mono ?_
      rintro e W8 ⟨rfl, s8⟩
      go_wp2
      go_ret
      exact ⟨rfl, hs.trans s8⟩

set_option maxRecDepth 100000 in
theorem contract (H : Type) (enc : TypeId × Value → H) (W : World) (base : Nat) (args : Array Value) (ds gs : List (DataW H)) (before : List MemPlace)
    (hval : ∀ (j : Nat) t v, Try.f6.params[j]? = some t → args[j]? = some v → Value.okWide Try.prog W .any base t v)
    (hW : DataW.Whole enc Try.prog Try.f6.params.toList Rows.tabsPlaysSpec.vars false W args.toList ds gs before) :
    Calls Try.prog 6 args W fun e W' => ∃ v, e = .returned v ∧ Rows.tabsPlaysSpec.post enc Try.prog Try.f6 false true false false W args v W' := by
  have hW' := hW
  obtain ⟨p, q, hA0, hV, rfl, hfz, hnd⟩ := hW
  have hA : DataW.TrodAll enc Try.prog W 0 (fun _ => true) true Try.f6.params.toList args.toList ds p := hA0
  rw [Try.params6] at hA hval
  obtain ⟨v0, vs0, d0, ds0, p0, q0, hargs, rfl, rfl, h0, r0⟩ := trodAll_cons hA
  obtain ⟨v1, vs1, d1, ds1, p1, q1, rfl, rfl, rfl, h1, r1⟩ := trodAll_cons r0
  obtain ⟨rfl, rfl, rfl⟩ := trodAll_nil r1
  obtain rfl : args = #[v0, v1] := by cases args; simp_all
  obtain ⟨nc, rfl, rfl, rfl, wc⟩ := open_int Try.underlying3 (hval 0 3 v0 rfl rfl) h0
  obtain ⟨asl, xl⟩ := open_acts20 (hval 1 39 v1 rfl rfl) h1
  have xc : -9223372036854775808 ≤ nc ∧ nc ≤ 9223372036854775807 := by simp [Lit.wf, IntKind.min, IntKind.max, IntKind.signed, IntKind.bits] at wc; omega
  refine (walk nc _ asl W xc xl).mono fun e W' ⟨he, hs⟩ => ?_
  subst he
  exact ⟨_, rfl, law_post (tb := 4) laidOut (by
    rw [Try.params6]; intro t ht
    simp only [List.mem_cons, List.not_mem_nil, or_false] at ht
    rcases ht with rfl | rfl <;> exact ⟨by kernel_rfl, of_decide_eq_true (by kernel_rfl)⟩) hW' rfl (fun ds hl => by
    rw [Try.params6] at hl
    match ds, hl with
    | [_, _], _ => rfl) (by kernel_rfl) Try.underlying4 hs⟩

set_option maxRecDepth 100000 in
theorem lifted (os : Os) (started : os.Started) (H : Type) (enc : TypeId × Value → H) :
    ReturnsInHanded {} Try.checked os 6 .any (Rows.tabsPlaysSpec.pre6 enc Try.prog Try.f6 Rows.tabsPlaysRow.domain false) (Rows.tabsPlaysSpec.post enc Try.prog Try.f6 false true false false) := by
  refine returnsInHanded_of_change (C := Try.checked) ownK started (by kernel_rfl) Try.func6
    (ChangeSpec.witness6 (enc := enc) (C := Try.checked) false ⟨#[], #[.int .i64 0, .slice none 0 0], []⟩ 8 (by kernel_rfl) (by kernel_rfl) (by kernel_rfl) (by kernel_rfl)) ?_
  intro W base args ds gs before hval0 hW _ _
  exact contract H enc W base args ds gs before hval0 hW

theorem proved : Rows.TabsPlaysSaid :=
  OpenClaim.holds_of_wide 6 Try.f6 rfl rfl rfl rfl rfl rfl rfl ⟨rfl, rfl, rfl, rfl, rfl⟩ rfl rfl rfl rfl rfl (by kernel_rfl) Try.func6 (by kernel_rfl)
    (of_decide_eq_true (by kernel_rfl)) (by unfold Func.isWrapper; first | (rw [if_pos (by decide +kernel)]; kernel_rfl) | (rw [if_neg (by decide +kernel)]; exact ⟨rfl, rfl⟩))
    (fun os started H enc _ => lifted os started H enc)
end tabsPlays
end Go.Proofs.Ytdblmoaimghplaa
