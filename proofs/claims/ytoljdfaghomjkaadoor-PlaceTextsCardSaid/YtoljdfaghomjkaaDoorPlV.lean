/- The reference's reading of a text. No condition. -/
import Derived.Test.YtoljdfaghomjkaaDoorPlU
namespace Go.Proofs.YtoljdfaghomjkaaDoor
set_option linter.unusedVariables false
set_option linter.unusedSimpArgs false
open Go.RowKit

theorem rp_next {L : List UInt8} {k : Nat} {b : UInt8} {st : Nat × Nat × Nat} (h : rp (L.take k) (0, 0, 0) = some st) (hb : L[k]? = some b) : rp (L.take (k + 1)) (0, 0, 0) = rpStep st b := by
  rw [List.take_add_one, hb, rp_app, h]
  show (rpStep st b).bind (rp []) = _
  cases rpStep st b <;> rfl
theorem rp_stop {L : List UInt8} {k : Nat} {b : UInt8} {st : Nat × Nat × Nat} (h : rp (L.take k) (0, 0, 0) = some st) (hb : L[k]? = some b) (hn : rpStep st b = none) : rp L (0, 0, 0) = none := by
  have e : L = L.take (k + 1) ++ L.drop (k + 1) := (List.take_append_drop _ _).symm
  rw [e, rp_app, rp_next h hb, hn]
  rfl
theorem le8 (x : UInt8) : (x < 48 ↔ x.toNat < 48) ∧ (x > 57 ↔ x.toNat > 57) := by
  rw [gt_iff_lt, UInt8.lt_iff_toNat_lt, UInt8.lt_iff_toNat_lt]
  exact ⟨Iff.rfl, Iff.rfl⟩
theorem step_bad {p n0 n1 : Nat} {x : UInt8} (h : ¬ x = 58) (hb : x.toNat < 48 ∨ x.toNat > 57 ∨ (if p = 0 then n0 else n1) > 1099511627776) : rpStep (p, n0, n1) x = none := by
  unfold rpStep
  rw [if_neg h, if_pos]
  rw [(le8 x).1, (le8 x).2]
  exact hb
theorem step_ok {p n0 n1 : Nat} {x : UInt8} (h : ¬ x = 58) (hb : ¬ (x.toNat < 48 ∨ x.toNat > 57 ∨ (if p = 0 then n0 else n1) > 1099511627776)) :
    rpStep (p, n0, n1) x = if p = 0 then some (0, 10 * n0 + (x.toNat - 48), n1) else some (p, n0, 10 * n1 + (x.toNat - 48)) := by
  unfold rpStep
  rw [if_neg h, if_neg]
  rw [(le8 x).1, (le8 x).2]
  exact hb
theorem no_has {s : ByteArray} (h : rp s.data.toList (0, 0, 0) = none) : ∀ l c, ¬ HasPl s l c := fun l c hp => by
  rw [(rp_has hp).1] at h
  cases h
theorem no_of {s : ByteArray} {p n0 n1 : Nat} (h : rp s.data.toList (0, 0, 0) = some (p, n0, n1)) (hn : ¬ (vP n0 n1 = true ∧ txt n0 n1 = s)) : ∀ l c, ¬ HasPl s l c := fun l c hp => by
  obtain ⟨h1, h2, h3⟩ := rp_has hp
  rw [h] at h1
  simp only [Option.some.injEq, Prod.mk.injEq] at h1
  obtain ⟨_, e1, e2⟩ := h1
  have hb : 0 ≤ l ∧ 0 ≤ c := by
    have := h2
    unfold vP at this
    simp at this
    omega
  have f1 : (n0 : Int) = l := by omega
  have f2 : (n1 : Int) = c := by omega
  rw [f1, f2] at hn
  exact hn ⟨h2, h3⟩
set_option maxRecDepth 100000 in
set_option maxHeartbeats 2000000 in
theorem rparse_any (s : ByteArray) (n : Nat) (hn : n = s.size) (hs : n ≤ 1000000) (w : World) :
    Calls Tryd.prog 25 #[.string s] w fun e w' => ((∃ l c, HasPl s l c ∧ e = .returned (.tuple #[pl l c, .bool true])) ∨ ((∀ l c, ¬ HasPl s l c) ∧ e = .returned (.tuple #[pl 0 0, .bool false]))) ∧ Sees w w' := by
  have hw := Sees.refl w
  go_enter Tryd.func25, Tryd.ntmps25
  go_wp2_with fail
  have hz : ∀ k, k < n → s.data.toList[k]? = some (s.data.toList.getD k 0) := by
    intro k hk
    have : k < s.data.toList.length := by rw [← Lib.size_eq, ← hn]; exact hk
    rw [List.getD_eq_getElem?_getD, List.getElem?_eq_getElem this]; rfl
  have R0 : PlAt ((w.alloc (.cells #[.int .i64 0, .int .i64 0] 23)).alloc (.cells #[.int .i64 0, .int .i64 0] 61)) w.heap.size 0 0 := (PlAt.new w 0 0).sees ((Sees.refl _).alloc _)
  go_loopw [5, 6] (fun p i W => ∃ (k : Nat) (st : Nat × Nat × Nat), k ≤ n ∧ p = .int .i64 st.1 ∧ i = .int .i64 k ∧ rp (s.data.toList.take k) (0, 0, 0) = some st ∧ st.1 ≤ 1 ∧ st.2.1 ≤ 10995116277769 ∧ st.2.2 ≤ 10995116277769 ∧ W.heap[w.heap.size + 1]? = some (.cells #[.int .i64 st.2.1, .int .i64 st.2.2] 61 (0, 0)) ∧ PlAt W w.heap.size 0 0 ∧ Sees w W) (fun _ i _ => n - (intOf i).toNat)
  case atStart =>
    exact ⟨0, (0, 0, 0), by omega, rfl, rfl, rfl, by decide, by decide, by decide, by
      have := heap_alloc_new (w.alloc (.cells #[.int .i64 0, .int .i64 0] 23)) (.cells #[.int .i64 0, .int .i64 0] 61)
      simpa using this, R0, (hw.alloc _).alloc _⟩
  case round =>
    obtain ⟨k, ⟨p, n0, n1⟩, hk, rfl, rfl, hrp, hp, hn0, hn1, hrow, hR, hS⟩ := hrel
    simp only at hp hn0 hn1 hrow
    obtain ⟨d0, d1⟩ := hR.cs
    obtain ⟨f0, f1⟩ := hR.fr
    have c0 : wr.cell? ⟨w.heap.size + 1, 0, none⟩ = some (.int .i64 n0) := by rw [cell_of_row _ _ _ _ _ _ hrow]; rfl
    have c1 : wr.cell? ⟨w.heap.size + 1, 1, none⟩ = some (.int .i64 n1) := by rw [cell_of_row _ _ _ _ _ _ hrow]; rfl
    have y0 := frozen_of_row _ _ 0 _ _ hrow
    have y1 := frozen_of_row _ _ 1 _ _ hrow
    by_cases hlt : k < n
    · have hks : k < s.size := by omega
      have hx : s.data.toList[k]? = some (s[k]'hks) := by
        rw [Array.getElem?_toList, Array.getElem?_eq_getElem (show k < s.data.size from hks)]
        rfl
      have t1 : decide ((k : Int) < (s.size : Int)) = true := decide_eq_true (by omega)
      have t2 : decide (k < s.size) = true := decide_eq_true (by omega)
      have hend : ∀ u v, Sees w ((wr.setCell ⟨w.heap.size, 0, none⟩ u).setCell ⟨w.heap.size, 1, none⟩ v) := fun u v => (hS.setCell (Nat.le_refl _) u).setCell (Nat.le_refl _) v
      by_cases h58 : s[k]'hks = 58
      · have t3 : (((s[k]'hks).toNat : Int) == 58) = true := by rw [h58]; rfl
        rcases (show p = 0 ∨ p = 1 by omega) with rfl | rfl
        · have hst : rpStep (0, n0, n1) (s[k]'hks) = some (1, n0, n1) := by rw [h58]; rfl
          have hnext := (rp_next hrp hx).trans hst
          clear hx hst h58
          go_wp2_with fail
          exact ⟨⟨k + 1, (1, n0, n1), by omega, rfl, by simp, hnext, Nat.le_refl 1, hn0, hn1, hrow, hR, hS⟩, by simp [intOf]; omega⟩
        · have hst : rpStep (1, n0, n1) (s[k]'hks) = none := by rw [h58]; rfl
          have hno := no_has (rp_stop hrp hx hst)
          clear hx hst h58
          go_wp2_with fail
          refine bodyPost_ret_by (v := .tuple #[pl 0 0, .bool false]) (by simp [results, Tryd.results25, go_sem, d0, d1]) rfl ⟨.inr ⟨hno, rfl⟩, hend _ _⟩
      · have t3 : (((s[k]'hks).toNat : Int) == 58) = false := by
          rw [beq_eq_false_iff_ne]
          intro h
          apply h58
          apply UInt8.toNat_inj.1
          have : (58 : UInt8).toNat = 58 := rfl
          omega
        rcases (show p = 0 ∨ p = 1 by omega) with rfl | rfl
        · by_cases g1 : (s[k]'hks).toNat < 48
          · have t4 : decide (((s[k]'hks).toNat : Int) < 48) = true := decide_eq_true (by omega)
            have hno := no_has (rp_stop hrp hx (step_bad h58 (.inl g1)))
            go_wp2_with fail
            refine bodyPost_ret_by (v := .tuple #[pl 0 0, .bool false]) (by simp [results, Tryd.results25, go_sem, d0, d1]) rfl ⟨.inr ⟨hno, rfl⟩, hend _ _⟩
          have t4 : decide (((s[k]'hks).toNat : Int) < 48) = false := decide_eq_false (by omega)
          by_cases g2 : (s[k]'hks).toNat > 57
          · have t5 : decide (((s[k]'hks).toNat : Int) > 57) = true := decide_eq_true (by omega)
            have t5' : decide ((57 : Int) < (s[k]'hks).toNat) = true := decide_eq_true (by omega)
            have hno := no_has (rp_stop hrp hx (step_bad h58 (.inr (.inl g2))))
            go_wp2_with fail
            refine bodyPost_ret_by (v := .tuple #[pl 0 0, .bool false]) (by simp [results, Tryd.results25, go_sem, d0, d1]) rfl ⟨.inr ⟨hno, rfl⟩, hend _ _⟩
          have t5 : decide (((s[k]'hks).toNat : Int) > 57) = false := decide_eq_false (by omega)
          have t5' : decide ((57 : Int) < (s[k]'hks).toNat) = false := decide_eq_false (by omega)
          by_cases g3 : n0 > 1099511627776
          · have t6 : decide ((n0 : Int) > 1099511627776) = true := decide_eq_true (by omega)
            have t6' : decide ((1099511627776 : Int) < n0) = true := decide_eq_true (by omega)
            have hno := no_has (rp_stop hrp hx (step_bad h58 (.inr (.inr g3))))
            go_wp2_with fail
            refine bodyPost_ret_by (v := .tuple #[pl 0 0, .bool false]) (by simp [results, Tryd.results25, go_sem, d0, d1]) rfl ⟨.inr ⟨hno, rfl⟩, hend _ _⟩
          have t6 : decide ((n0 : Int) > 1099511627776) = false := decide_eq_false (by omega)
          have t6' : decide ((1099511627776 : Int) < n0) = false := decide_eq_false (by omega)
          have hst := step_ok (p := 0) (n0 := n0) (n1 := n1) h58 (by intro h; rcases h with h | h | h; exact g1 h; exact g2 h; exact g3 h)
          have hnext := (rp_next hrp hx).trans hst
          go_wp2_with fail
          obtain ⟨d, hd⟩ : ∃ d, d = (s[k]'hks).toNat - 48 := ⟨_, rfl⟩
          rw [← hd] at hnext
          have hd2 : (s[k]'hks).toNat = d + 48 ∧ d < 10 := by omega
          have u1 : IntKind.u8.wrap (((s[k]'hks).toNat : Int) - 48) = (d : Int) := by rw [IntWalk.u8_in _ (by omega)]; omega
          have u2 : IntKind.i64.wrap (10 * (n0 : Int)) = 10 * (n0 : Int) := IntWalk.i64_in _ (by omega)
          have u3 : IntKind.i64.wrap (d : Int) = (d : Int) := IntWalk.i64_in _ (by omega)
          have u4 : IntKind.i64.wrap (10 * (n0 : Int) + d) = ((10 * n0 + d : Nat) : Int) := by rw [IntWalk.i64_in _ (by omega)]; omega
          have hb10 : 10 * n0 + d ≤ 10995116277769 := by omega
          have HRow := Lib.hid hrow
          have HR := Lib.hid hR
          have Hnext := Lib.hid hnext
          clear hst hx hend hd hd2 hnext hrp hz hrow hR
          refine wpFrom_go (by kernel_rfl) (by kernel_rfl) (fun hB w2 hw2 => ?_)
          have hst2 : segStay (Sees w2) [.is (.int .i64 0), .is (.int .i64 0), .is (.pointer (some ⟨w.heap.size + 1, 0, none⟩)), .is (.int .i64 n0), .is (.int .i64 (10 * (n0 : Int))), .is (.string s), .is (.int .i64 k), .is (.int .u8 ((s[k]'hks).toNat : Int)), .is (.int .u8 d), .is (.int .i64 d), .is (.int .i64 ((10 * n0 + d : Nat) : Int)), .is (.pointer (some ⟨w.heap.size + 1, 0, none⟩))] := trivial
          have hval : ∀ x v, (Spec.is x).val v = x := fun _ _ => rfl
          refine wpFrom_any 12 _ hB (by kernel_rfl) rfl hst2 (by simp only [List.cons_append, List.nil_append, List.drop_succ_cons, List.drop_zero, List.take_succ_cons, List.take_zero, Nat.reduceSub]; rfl) ?_
          refine ⟨fun vs W hI hV => .inl ⟨by go_simp, .inl (by go_simp)⟩, ?_⟩
          refine ⟨fun vs W hI hV => .inl ⟨by go_simp, .inl (by go_simp)⟩, ?_⟩
          refine ⟨fun vs W hI hV => .inl ⟨by go_simp, .inl (by go_simp)⟩, ?_⟩
          refine ⟨fun vs W hI hV => .inl ⟨by go_simp, .inl (by have q0 := (hw2.trans hI).cell c0; have q1 := (hw2.trans hI).cell c1; clear hI hV; go_simp)⟩, ?_⟩
          refine ⟨fun vs W hI hV => .inl ⟨by go_simp, .inl (by go_simp)⟩, ?_⟩
          refine ⟨fun vs W hI hV => .inl ⟨by go_simp, .inl (by go_simp)⟩, ?_⟩
          refine ⟨fun vs W hI hV => .inl ⟨by go_simp, .inl (by go_simp)⟩, ?_⟩
          refine ⟨fun vs W hI hV => .inl ⟨by go_simp, .inl (by go_simp)⟩, ?_⟩
          refine ⟨fun vs W hI hV => .inl ⟨by go_simp, .inl (by go_simp)⟩, ?_⟩
          refine ⟨fun vs W hI hV => .inl ⟨by go_simp, .inl (by go_simp)⟩, ?_⟩
          refine ⟨fun vs W hI hV => .inl ⟨by go_simp, .inl (by go_simp)⟩, ?_⟩
          refine ⟨fun vs W hI hV => .inl ⟨by go_simp, .inl (by go_simp)⟩, ?_⟩
          intro vs w3 hI hV
          have hI2 := hw2.trans hI
          have hS3 := hS.trans hI2
          have R3 := HR.out.sees hI2
          have hrow3 : w3.heap[w.heap.size + 1]? = some (.cells #[.int .i64 n0, .int .i64 n1] 61 (0, 0)) := by rw [hI2.block _ (Array.getElem?_eq_some_iff.1 HRow.out).1]; exact HRow.out
          have g0 := hI2.cell c0
          have g1 := hI2.cell c1
          have y2 := frozen_of_row _ _ 0 _ _ hrow3
          have y3 := frozen_of_row _ _ 1 _ _ hrow3
          have HR3 := Lib.hid R3
          have Hrow3 := Lib.hid hrow3
          clear hI hV hst2 hI2 c0 c1 y0 y1 R3 hrow3 d0 d1 f0 f1
          go_simp
          refine wpFrom_to 13 hB (fun _ _ _ _ _ h => h) (by kernel_rfl) (by simp only [List.cons_append, List.nil_append, List.drop_succ_cons, List.drop_zero, List.take_succ_cons, List.take_zero, Nat.reduceSub]; rfl) ?_
          go_wp2
          refine wpFrom_end rfl ?_; go_wp2
          exact ⟨⟨k + 1, (0, 10 * n0 + d, n1), by omega, rfl, by simp, by simpa using Hnext.out, by omega, hb10, hn1, by rw [heap_setCell_same _ _ _ _ _ _ Hrow3.out]; rfl,
            by unfold PlAt; rw [heap_setCell_other _ _ _ _ (by simp)]; exact HR3.out, hS3.setCell (by simp) _⟩, by simp [intOf]; omega⟩
        · by_cases g1 : (s[k]'hks).toNat < 48
          · have t4 : decide (((s[k]'hks).toNat : Int) < 48) = true := decide_eq_true (by omega)
            have hno := no_has (rp_stop hrp hx (step_bad h58 (.inl g1)))
            go_wp2_with fail
            refine bodyPost_ret_by (v := .tuple #[pl 0 0, .bool false]) (by simp [results, Tryd.results25, go_sem, d0, d1]) rfl ⟨.inr ⟨hno, rfl⟩, hend _ _⟩
          have t4 : decide (((s[k]'hks).toNat : Int) < 48) = false := decide_eq_false (by omega)
          by_cases g2 : (s[k]'hks).toNat > 57
          · have t5 : decide (((s[k]'hks).toNat : Int) > 57) = true := decide_eq_true (by omega)
            have t5' : decide ((57 : Int) < (s[k]'hks).toNat) = true := decide_eq_true (by omega)
            have hno := no_has (rp_stop hrp hx (step_bad h58 (.inr (.inl g2))))
            go_wp2_with fail
            refine bodyPost_ret_by (v := .tuple #[pl 0 0, .bool false]) (by simp [results, Tryd.results25, go_sem, d0, d1]) rfl ⟨.inr ⟨hno, rfl⟩, hend _ _⟩
          have t5 : decide (((s[k]'hks).toNat : Int) > 57) = false := decide_eq_false (by omega)
          have t5' : decide ((57 : Int) < (s[k]'hks).toNat) = false := decide_eq_false (by omega)
          by_cases g3 : n1 > 1099511627776
          · have t6 : decide ((n1 : Int) > 1099511627776) = true := decide_eq_true (by omega)
            have t6' : decide ((1099511627776 : Int) < n1) = true := decide_eq_true (by omega)
            have hno := no_has (rp_stop hrp hx (step_bad h58 (.inr (.inr g3))))
            go_wp2_with fail
            refine bodyPost_ret_by (v := .tuple #[pl 0 0, .bool false]) (by simp [results, Tryd.results25, go_sem, d0, d1]) rfl ⟨.inr ⟨hno, rfl⟩, hend _ _⟩
          have t6 : decide ((n1 : Int) > 1099511627776) = false := decide_eq_false (by omega)
          have t6' : decide ((1099511627776 : Int) < n1) = false := decide_eq_false (by omega)
          have hst := step_ok (p := 1) (n0 := n0) (n1 := n1) h58 (by intro h; rcases h with h | h | h; exact g1 h; exact g2 h; exact g3 h)
          have hnext := (rp_next hrp hx).trans hst
          go_wp2_with fail
          obtain ⟨d, hd⟩ : ∃ d, d = (s[k]'hks).toNat - 48 := ⟨_, rfl⟩
          rw [← hd] at hnext
          have hd2 : (s[k]'hks).toNat = d + 48 ∧ d < 10 := by omega
          have u1 : IntKind.u8.wrap (((s[k]'hks).toNat : Int) - 48) = (d : Int) := by rw [IntWalk.u8_in _ (by omega)]; omega
          have u2 : IntKind.i64.wrap (10 * (n1 : Int)) = 10 * (n1 : Int) := IntWalk.i64_in _ (by omega)
          have u3 : IntKind.i64.wrap (d : Int) = (d : Int) := IntWalk.i64_in _ (by omega)
          have u4 : IntKind.i64.wrap (10 * (n1 : Int) + d) = ((10 * n1 + d : Nat) : Int) := by rw [IntWalk.i64_in _ (by omega)]; omega
          have hb10 : 10 * n1 + d ≤ 10995116277769 := by omega
          have HRow := Lib.hid hrow
          have HR := Lib.hid hR
          have Hnext := Lib.hid hnext
          clear hst hx hend hd hd2 hnext hrp hz hrow hR
          refine wpFrom_go (by kernel_rfl) (by kernel_rfl) (fun hB w2 hw2 => ?_)
          have hst2 : segStay (Sees w2) [.is (.int .i64 1), .is (.int .i64 1), .is (.pointer (some ⟨w.heap.size + 1, 1, none⟩)), .is (.int .i64 n1), .is (.int .i64 (10 * (n1 : Int))), .is (.string s), .is (.int .i64 k), .is (.int .u8 ((s[k]'hks).toNat : Int)), .is (.int .u8 d), .is (.int .i64 d), .is (.int .i64 ((10 * n1 + d : Nat) : Int)), .is (.pointer (some ⟨w.heap.size + 1, 1, none⟩))] := trivial
          have hval : ∀ x v, (Spec.is x).val v = x := fun _ _ => rfl
          refine wpFrom_any 12 _ hB (by kernel_rfl) rfl hst2 (by simp only [List.cons_append, List.nil_append, List.drop_succ_cons, List.drop_zero, List.take_succ_cons, List.take_zero, Nat.reduceSub]; rfl) ?_
          refine ⟨fun vs W hI hV => .inl ⟨by go_simp, .inl (by go_simp)⟩, ?_⟩
          refine ⟨fun vs W hI hV => .inl ⟨by go_simp, .inl (by go_simp)⟩, ?_⟩
          refine ⟨fun vs W hI hV => .inl ⟨by go_simp, .inl (by go_simp)⟩, ?_⟩
          refine ⟨fun vs W hI hV => .inl ⟨by go_simp, .inl (by have q0 := (hw2.trans hI).cell c0; have q1 := (hw2.trans hI).cell c1; clear hI hV; go_simp)⟩, ?_⟩
          refine ⟨fun vs W hI hV => .inl ⟨by go_simp, .inl (by go_simp)⟩, ?_⟩
          refine ⟨fun vs W hI hV => .inl ⟨by go_simp, .inl (by go_simp)⟩, ?_⟩
          refine ⟨fun vs W hI hV => .inl ⟨by go_simp, .inl (by go_simp)⟩, ?_⟩
          refine ⟨fun vs W hI hV => .inl ⟨by go_simp, .inl (by go_simp)⟩, ?_⟩
          refine ⟨fun vs W hI hV => .inl ⟨by go_simp, .inl (by go_simp)⟩, ?_⟩
          refine ⟨fun vs W hI hV => .inl ⟨by go_simp, .inl (by go_simp)⟩, ?_⟩
          refine ⟨fun vs W hI hV => .inl ⟨by go_simp, .inl (by go_simp)⟩, ?_⟩
          refine ⟨fun vs W hI hV => .inl ⟨by go_simp, .inl (by go_simp)⟩, ?_⟩
          intro vs w3 hI hV
          have hI2 := hw2.trans hI
          have hS3 := hS.trans hI2
          have R3 := HR.out.sees hI2
          have hrow3 : w3.heap[w.heap.size + 1]? = some (.cells #[.int .i64 n0, .int .i64 n1] 61 (0, 0)) := by rw [hI2.block _ (Array.getElem?_eq_some_iff.1 HRow.out).1]; exact HRow.out
          have g0 := hI2.cell c0
          have g1 := hI2.cell c1
          have y2 := frozen_of_row _ _ 0 _ _ hrow3
          have y3 := frozen_of_row _ _ 1 _ _ hrow3
          have HR3 := Lib.hid R3
          have Hrow3 := Lib.hid hrow3
          clear hI hV hst2 hI2 c0 c1 y0 y1 R3 hrow3 d0 d1 f0 f1
          go_simp
          refine wpFrom_to 13 hB (fun _ _ _ _ _ h => h) (by kernel_rfl) (by simp only [List.cons_append, List.nil_append, List.drop_succ_cons, List.drop_zero, List.take_succ_cons, List.take_zero, Nat.reduceSub]; rfl) ?_
          go_wp2
          refine wpFrom_end rfl ?_; go_wp2
          exact ⟨⟨k + 1, (1, n0, 10 * n1 + d), by omega, rfl, by simp, by simpa using Hnext.out, by omega, hn0, hb10, by rw [heap_setCell_same _ _ _ _ _ _ Hrow3.out]; rfl,
            by unfold PlAt; rw [heap_setCell_other _ _ _ _ (by simp)]; exact HR3.out, hS3.setCell (by simp) _⟩, by simp [intOf]; omega⟩
    · obtain rfl : k = n := by omega
      have hfull : rp s.data.toList (0, 0, 0) = some (p, n0, n1) := by
        rw [List.take_of_length_le (by rw [← Lib.size_eq]; omega)] at hrp
        exact hrp
      have Hfull := Lib.hid hfull
      have t1 : decide ((k : Int) < (s.size : Int)) = false := decide_eq_false (by omega)
      have t2 : decide (k < s.size) = false := decide_eq_false (by omega)
      have hl0 := hR.lt
      clear hfull hrp hz y0 y1 f0 f1
      go_wp2_with fail
      refine (rvalid_any n0 n1 _).mono ?_
      rintro e w1 ⟨rfl, s1⟩
      have hS1 := (hS.alloc _).trans s1
      have R1 := (hR.sees ((Sees.refl _).alloc _)).sees s1
      have P1 := (PlAt.new wr n0 n1).sees s1
      clear s1 d0 d1 c0 c1 hrow hR hl0
      have hl0 := R1.lt
      obtain ⟨d0, d1⟩ := R1.cs
      obtain ⟨f0, f1⟩ := R1.fr
      obtain ⟨p0, p1⟩ := P1.cs
      by_cases hv : vP n0 n1 = true
      · have hT := Lib.hid (rtext_ok n0 n1 hv)
        rw [hv]
        go_wp2_with fail
        refine (hT.out _).mono ?_
        rintro e w2 ⟨rfl, s2⟩
        have hS2 := hS1.trans s2
        have R2 := R1.sees s2
        have P2 := P1.sees s2
        clear s2 d0 d1 f0 f1 p0 p1 R1 P1 hl0
        have hl0 := R2.lt
        have hl1 := P2.lt
        obtain ⟨d0, d1⟩ := R2.cs
        obtain ⟨f0, f1⟩ := R2.fr
        obtain ⟨p0, p1⟩ := P2.cs
        have hend : ∀ u v, Sees w ((w2.setCell ⟨w.heap.size, 0, none⟩ u).setCell ⟨w.heap.size, 1, none⟩ v) := fun u v => (hS2.setCell (Nat.le_refl _) u).setCell (Nat.le_refl _) v
        by_cases hx : txt n0 n1 = s
        · have hh : HasPl s n0 n1 := hx ▸ has_txt hv
          rw [hx]
          go_wp2
          refine bodyPost_ret_by (v := .tuple #[pl n0 n1, .bool true]) (by simp [results, Tryd.results25, go_sem, d0, d1]) rfl ⟨.inl ⟨n0, n1, hh, rfl⟩, hend _ _⟩
        · have hb : ((txt n0 n1).toList == s.toList) = false := str_ne hx
          have hno := no_of Hfull.out fun h => hx h.2
          go_wp2
          refine bodyPost_ret_by (v := .tuple #[pl 0 0, .bool false]) (by simp [results, Tryd.results25, go_sem, d0, d1]) rfl ⟨.inr ⟨hno, rfl⟩, hend _ _⟩
      · have hno := no_of Hfull.out fun h => hv h.1
        have hv' : vP n0 n1 = false := by simpa using hv
        rw [hv']
        have hend : ∀ u v, Sees w ((w1.setCell ⟨w.heap.size, 0, none⟩ u).setCell ⟨w.heap.size, 1, none⟩ v) := fun u v => (hS1.setCell (Nat.le_refl _) u).setCell (Nat.le_refl _) v
        go_wp2
        refine bodyPost_ret_by (v := .tuple #[pl 0 0, .bool false]) (by simp [results, Tryd.results25, go_sem, d0, d1]) rfl ⟨.inr ⟨hno, rfl⟩, hend _ _⟩
end Go.Proofs.YtoljdfaghomjkaaDoor
