/- The theorem of stage 31: HistoryHolds. No condition. -/
import Derived.Test.YtpicffaghoggdaaDoorHlA
import Derived.Test.YtpicffaghoggdaaDoorHiK
import Derived.Test.YtpicffaghoggdaaDoorHrA
namespace Go.Proofs.YtpicffaghoggdaaDoor
set_option linter.unusedVariables false
set_option linter.unusedSimpArgs false
open Go.RowKit

theorem hi_take (xs : List Ln) (m i : Nat) (x : Ln) (hx : xs[i]? = some x) :
    (((xs.take i).drop (i - m)) ++ [x]).drop (((xs.take i).drop (i - m)).length + 1 - m) = (xs.take (i + 1)).drop (i + 1 - m) := by
  have := keep_step [] xs m i x hx (Nat.zero_le _)
  simpa using this
theorem hi_both (ls : List Ln) (k m : Nat) (hk : k ≤ ls.length) : ((ls.take k).drop (k - m) ++ ls.drop k).drop (((ls.take k).drop (k - m)).length + (ls.drop k).length - m) = ls.drop (ls.length - m) := by
  have h1 : (ls.take k).drop (k - m) ++ ls.drop k = ls.drop (k - m) := by
    rw [← List.drop_append_of_le_length (by simp; omega), List.take_append_drop]
  rw [h1, List.drop_drop]
  congr 1
  simp
  omega
theorem few31_two {ls : List Ln} {k : Nat} (h : Few31 [⟨0, 0, ls.take k⟩, ⟨0, 0, ls.drop k⟩]) : ∀ l ∈ ls, l.cells.length ≤ 8 := by
  intro l hl
  rw [← List.take_append_drop k ls] at hl
  rcases List.mem_append.1 hl with hl | hl
  · exact (h.2 ⟨0, 0, ls.take k⟩ (by simp)).2 l hl
  · exact (h.2 ⟨0, 0, ls.drop k⟩ (by simp)).2 l hl

set_option maxRecDepth 1000000 in
set_option maxHeartbeats 8000000 in
theorem historyHolds_out1 (m f : Nat) (u : Value) (ls : List Ln) (w : World) (ht : Tabs w) (hm : 20 < m) (hm2 : m ≤ 255) (hu : lnEl.Rd (fun b => b < w.heap.size) w u ls) :
    Calls Tryd.prog 4 #[.int .u8 m, u, .int .u8 f] w fun e w' => e = .returned (.bool true) ∧ Sees w w' := by
  have Ht := Lib.hid ht
  obtain ⟨ao, cap, rfl, _⟩ := hu.slice'
  clear ht hu
  have d1 : decide ((m : Int) > 20) = true := decide_eq_true (by omega)
  go_enter Tryd.func4, Tryd.ntmps4
  go_wp2_with fail
  refine wpFrom_go (by kernel_rfl) (by kernel_rfl) (fun hB w2 hs2 => ?_)
  refine wpFrom_to 8 hB (fun _ _ _ _ _ h => h) (by kernel_rfl) (by simp only [List.cons_append, List.nil_append, List.drop_succ_cons, List.drop_zero, List.take_succ_cons, List.take_zero, Nat.reduceSub]; rfl) ?_
  go_wp2_with fail
  have hval : ∀ x v, (Spec.is x).val v = x := fun _ _ => rfl
  have hval2 : ∀ V v, (Spec.so V).val v = v := fun _ _ => rfl
  have hst : segStay (Sees w2) [.is undef, .is undef, .is undef, .is undef, .is undef, .is undef, .is undef, .is undef, .is undef, .is undef, .is undef, .is undef, .is undef, .is undef] := trivial
  refine wpFrom_any 22 _ hB (by kernel_rfl) rfl hst (by simp only [List.cons_append, List.nil_append, List.drop_succ_cons, List.drop_zero, List.take_succ_cons, List.take_zero, Nat.reduceSub]; rfl) ?_
  refine ⟨fun vs W hI hV => .inr ⟨by clear hI hV hst; go_simp, rfl⟩, ?_⟩
  refine ⟨fun vs W hI hV => .inr ⟨by clear hI hV hst; go_simp, rfl⟩, ?_⟩
  refine ⟨fun vs W hI hV => .inr ⟨by clear hI hV hst; go_simp, rfl⟩, ?_⟩
  refine ⟨fun vs W hI hV => .inr ⟨by clear hI hV hst; go_simp, rfl⟩, ?_⟩
  refine ⟨fun vs W hI hV => .inr ⟨by clear hI hV hst; go_simp, rfl⟩, ?_⟩
  refine ⟨fun vs W hI hV => .inr ⟨by clear hI hV hst; go_simp, rfl⟩, ?_⟩
  refine ⟨fun vs W hI hV => .inr ⟨by clear hI hV hst; go_simp, rfl⟩, ?_⟩
  refine ⟨fun vs W hI hV => .inr ⟨by clear hI hV hst; go_simp, rfl⟩, ?_⟩
  refine ⟨fun vs W hI hV => .inr ⟨by clear hI hV hst; go_simp, rfl⟩, ?_⟩
  refine ⟨fun vs W hI hV => .inr ⟨by clear hI hV hst; go_simp, rfl⟩, ?_⟩
  refine ⟨fun vs W hI hV => .inr ⟨by clear hI hV hst; go_simp, rfl⟩, ?_⟩
  refine ⟨fun vs W hI hV => .inr ⟨by clear hI hV hst; go_simp, rfl⟩, ?_⟩
  refine ⟨fun vs W hI hV => .inr ⟨by clear hI hV hst; go_simp, rfl⟩, ?_⟩
  refine ⟨fun vs W hI hV => .inr ⟨by clear hI hV hst; go_simp, rfl⟩, ?_⟩
  intro vs w2' hI hV
  have hs2 := Lib.hid (hs2.trans hI)
  clear hI hV hst
  (try simp only [Act.put, hval, hval2, List.setIfInBounds_toArray, List.set_cons_zero, List.set_cons_succ])
  go_simp
  refine wpFrom_to 29 hB (fun _ _ _ _ _ h => h) (by kernel_rfl) (by simp only [List.cons_append, List.nil_append, List.drop_succ_cons, List.drop_zero, List.take_succ_cons, List.take_zero, Nat.reduceSub]; rfl) ?_
  go_wp2_with fail
  refine wpFrom_end rfl ?_
  clear hB
  go_wp2_with fail
  refine (known31 _ (Ht.out.sees hs2.out)).mono ?_
  rintro e w3 ⟨rfl, hs3⟩
  go_wp2
  go_ret
  exact ⟨by simp, hs2.out.trans hs3⟩
set_option maxRecDepth 1000000 in
set_option maxHeartbeats 8000000 in
theorem historyHolds_out2 (m f : Nat) (u : Value) (ls : List Ln) (w : World) (ht : Tabs w) (hm2 : m ≤ 20) (hn : 12 < ls.length) (hu : lnEl.Rd (fun b => b < w.heap.size) w u ls) :
    Calls Tryd.prog 4 #[.int .u8 m, u, .int .u8 f] w fun e w' => e = .returned (.bool true) ∧ Sees w w' := by
  have Ht := Lib.hid ht
  obtain ⟨ao, cap, rfl, _⟩ := hu.slice'
  clear ht hu
  have d1 : decide ((m : Int) > 20) = false := decide_eq_false (by omega)
  have d2 : decide ((ls.length : Int) > 12) = true := decide_eq_true (by omega)
  go_enter Tryd.func4, Tryd.ntmps4
  go_wp2_with fail
  refine wpFrom_go (by kernel_rfl) (by kernel_rfl) (fun hB w2 hs2 => ?_)
  refine wpFrom_to 8 hB (fun _ _ _ _ _ h => h) (by kernel_rfl) (by simp only [List.cons_append, List.nil_append, List.drop_succ_cons, List.drop_zero, List.take_succ_cons, List.take_zero, Nat.reduceSub]; rfl) ?_
  go_wp2_with fail
  have hval : ∀ x v, (Spec.is x).val v = x := fun _ _ => rfl
  have hval2 : ∀ V v, (Spec.so V).val v = v := fun _ _ => rfl
  have hst : segStay (Sees w2) [.is undef, .is undef, .is undef, .is undef, .is undef, .is undef, .is undef, .is undef, .is undef, .is undef, .is undef, .is undef, .is undef, .is undef] := trivial
  refine wpFrom_any 22 _ hB (by kernel_rfl) rfl hst (by simp only [List.cons_append, List.nil_append, List.drop_succ_cons, List.drop_zero, List.take_succ_cons, List.take_zero, Nat.reduceSub]; rfl) ?_
  refine ⟨fun vs W hI hV => .inr ⟨by clear hI hV hst; go_simp, rfl⟩, ?_⟩
  refine ⟨fun vs W hI hV => .inr ⟨by clear hI hV hst; go_simp, rfl⟩, ?_⟩
  refine ⟨fun vs W hI hV => .inr ⟨by clear hI hV hst; go_simp, rfl⟩, ?_⟩
  refine ⟨fun vs W hI hV => .inr ⟨by clear hI hV hst; go_simp, rfl⟩, ?_⟩
  refine ⟨fun vs W hI hV => .inr ⟨by clear hI hV hst; go_simp, rfl⟩, ?_⟩
  refine ⟨fun vs W hI hV => .inr ⟨by clear hI hV hst; go_simp, rfl⟩, ?_⟩
  refine ⟨fun vs W hI hV => .inr ⟨by clear hI hV hst; go_simp, rfl⟩, ?_⟩
  refine ⟨fun vs W hI hV => .inr ⟨by clear hI hV hst; go_simp, rfl⟩, ?_⟩
  refine ⟨fun vs W hI hV => .inr ⟨by clear hI hV hst; go_simp, rfl⟩, ?_⟩
  refine ⟨fun vs W hI hV => .inr ⟨by clear hI hV hst; go_simp, rfl⟩, ?_⟩
  refine ⟨fun vs W hI hV => .inr ⟨by clear hI hV hst; go_simp, rfl⟩, ?_⟩
  refine ⟨fun vs W hI hV => .inr ⟨by clear hI hV hst; go_simp, rfl⟩, ?_⟩
  refine ⟨fun vs W hI hV => .inr ⟨by clear hI hV hst; go_simp, rfl⟩, ?_⟩
  refine ⟨fun vs W hI hV => .inr ⟨by clear hI hV hst; go_simp, rfl⟩, ?_⟩
  intro vs w2' hI hV
  have hs2 := Lib.hid (hs2.trans hI)
  clear hI hV hst
  (try simp only [Act.put, hval, hval2, List.setIfInBounds_toArray, List.set_cons_zero, List.set_cons_succ])
  go_simp
  refine wpFrom_to 29 hB (fun _ _ _ _ _ h => h) (by kernel_rfl) (by simp only [List.cons_append, List.nil_append, List.drop_succ_cons, List.drop_zero, List.take_succ_cons, List.take_zero, Nat.reduceSub]; rfl) ?_
  go_wp2_with fail
  refine wpFrom_end rfl ?_
  clear hB
  go_wp2_with fail
  refine (known31 _ (Ht.out.sees hs2.out)).mono ?_
  rintro e w3 ⟨rfl, hs3⟩
  go_wp2
  go_ret
  exact ⟨by simp, hs2.out.trans hs3⟩
set_option maxRecDepth 1000000 in
set_option maxHeartbeats 8000000 in
theorem historyHolds_inA (m f n : Nat) (a : Option Addr) (ls : List Ln) (w : World) (ht : Tabs w) (hm : m ≤ 20) (hf : f ≤ 255) (hn : n ≤ 12) (hnl : n = ls.length) (hu : lnEl.Rd (fun b => b < w.heap.size) w (.slice a n n) ls) (hk0 : (f : Int) % ((n : Int) + 1) = n) :
    Calls Tryd.prog 4 #[.int .u8 m, .slice a n n, .int .u8 f] w fun e w' => e = .returned (.bool true) ∧ Sees w w' := by
  have Ht := Lib.hid ht
  have Hu := Lib.hid hu
  have Hk0 := Lib.hid hk0
  have hd1 : decide ((m : Int) > 20) = false := decide_eq_false (by omega)
  have hd2 : decide ((n : Int) > 12) = false := decide_eq_false (by omega)
  obtain ⟨k1, hk1⟩ : ∃ k : Nat, min (n : Int) 6 = k := ⟨(min (n : Int) 6).toNat, by omega⟩
  have hk1n : k1 ≤ n := by omega
  obtain ⟨a2, c2, hs2, hr2⟩ := cut_from Hu.out k1 hk1n
  obtain ⟨hs1, hr1⟩ := cut_to Hu.out k1 hk1n
  have HS1 := Lib.hid hs1
  have HS2 := Lib.hid hs2
  have HR1 := Lib.hid hr1
  have HR2 := Lib.hid hr2
  have Hn := Lib.hid hnl
  clear ht hu hs1 hs2 hr1 hr2 hnl hk0
  go_enter Tryd.func4, Tryd.ntmps4
  go_wp2_with fail
  refine wpFrom_go (by kernel_rfl) (by kernel_rfl) (fun hB w2 hsw2 => ?_)
  refine wpFrom_to 8 hB (fun _ _ _ _ _ h => h) (by kernel_rfl) (by simp only [List.cons_append, List.nil_append, List.drop_succ_cons, List.drop_zero, List.take_succ_cons, List.take_zero, Nat.reduceSub]; rfl) ?_
  go_wp2_with fail
  have hval : ∀ x v, (Spec.is x).val v = x := fun _ _ => rfl
  have hval2 : ∀ V v, (Spec.so V).val v = v := fun _ _ => rfl
  have hst : segStay (Sees w2) [.is (.slice a n n), .is (.slice a n n), .is (.int .i64 n), .is (.int .i64 k1), .is (.slice a k1 n), .is (.agg #[.int .i64 0, .int .i64 0, .slice a k1 n]),
      .is (.slice a n n), .is (.slice a n n), .is (.int .i64 n), .is (.int .i64 k1), .is (.slice a2 (n - k1) c2), .is (.agg #[.int .i64 0, .int .i64 0, .slice a2 (n - k1) c2]),
      .so (fun x W => ∃ b, x = .slice (some ⟨b, 0, none⟩) 2 2 ∧ W.heap[b]? = some (.cells #[.int .i64 0, .int .i64 0, .slice a k1 n, .int .i64 0, .int .i64 0, .slice a2 (n - k1) c2] 25 (0, 0))),
      .so (fun x W => Few31R [⟨0, 0, ls.take k1⟩, ⟨0, 0, ls.drop k1⟩] (.returned x))] :=
    ⟨fun u W W' _ ⟨b, h1, h2⟩ hs => ⟨b, h1, by rw [hs.block _ (Array.getElem?_eq_some_iff.1 h2).1]; exact h2⟩, fun u W W' _ h hs => h, trivial⟩
  refine wpFrom_any 22 _ hB (by kernel_rfl) rfl hst (by simp only [List.cons_append, List.nil_append, List.drop_succ_cons, List.drop_zero, List.take_succ_cons, List.take_zero, Nat.reduceSub]; rfl) ?_
  refine ⟨fun vs W hI hV => .inl ⟨by clear hI hV hst; go_simp, .inl (by clear hI hV hst; (try simp only [Act.put, hval, hval2, List.setIfInBounds_toArray, List.set_cons_zero, List.set_cons_succ]); go_simp)⟩, ?_⟩
  refine ⟨fun vs W hI hV => .inl ⟨by clear hI hV hst; go_simp, .inl (by clear hI hV hst; (try simp only [Act.put, hval, hval2, List.setIfInBounds_toArray, List.set_cons_zero, List.set_cons_succ]); go_simp)⟩, ?_⟩
  refine ⟨fun vs W hI hV => .inl ⟨by clear hI hV hst; go_simp, .inl (by clear hI hV hst; (try simp only [Act.put, hval, hval2, List.setIfInBounds_toArray, List.set_cons_zero, List.set_cons_succ]); go_simp)⟩, ?_⟩
  refine ⟨fun vs W hI hV => .inl ⟨by clear hI hV hst; go_simp, .inl (by clear hI hV hst; (try simp only [Act.put, hval, hval2, List.setIfInBounds_toArray, List.set_cons_zero, List.set_cons_succ]); go_simp; split <;> omega)⟩, ?_⟩
  refine ⟨fun vs W hI hV => .inl ⟨by clear hI hV hst; go_simp, .inl (by clear hI hV hst; exact exec_toL (a := .slice a n n) (b := .int .i64 k1) rfl (by (try simp only [Act.put, hval, hval2, List.setIfInBounds_toArray, List.set_cons_zero, List.set_cons_succ]); go_simp) (by (try simp only [Act.put, hval, hval2, List.setIfInBounds_toArray, List.set_cons_zero, List.set_cons_succ]); go_simp) (HS1.out W))⟩, ?_⟩
  refine ⟨fun vs W hI hV => .inl ⟨by clear hI hV hst; go_simp, .inl (by clear hI hV hst; (try simp only [Act.put, hval, hval2, List.setIfInBounds_toArray, List.set_cons_zero, List.set_cons_succ]); go_simp)⟩, ?_⟩
  refine ⟨fun vs W hI hV => .inl ⟨by clear hI hV hst; go_simp, .inl (by clear hI hV hst; (try simp only [Act.put, hval, hval2, List.setIfInBounds_toArray, List.set_cons_zero, List.set_cons_succ]); go_simp)⟩, ?_⟩
  refine ⟨fun vs W hI hV => .inl ⟨by clear hI hV hst; go_simp, .inl (by clear hI hV hst; (try simp only [Act.put, hval, hval2, List.setIfInBounds_toArray, List.set_cons_zero, List.set_cons_succ]); go_simp)⟩, ?_⟩
  refine ⟨fun vs W hI hV => .inl ⟨by clear hI hV hst; go_simp, .inl (by clear hI hV hst; (try simp only [Act.put, hval, hval2, List.setIfInBounds_toArray, List.set_cons_zero, List.set_cons_succ]); go_simp)⟩, ?_⟩
  refine ⟨fun vs W hI hV => .inl ⟨by clear hI hV hst; go_simp, .inl (by clear hI hV hst; (try simp only [Act.put, hval, hval2, List.setIfInBounds_toArray, List.set_cons_zero, List.set_cons_succ]); go_simp; split <;> omega)⟩, ?_⟩
  refine ⟨fun vs W hI hV => .inl ⟨by clear hI hV hst; go_simp, .inl (by clear hI hV hst; exact exec_fromL (a := .slice a n n) (b := .int .i64 k1) rfl (by (try simp only [Act.put, hval, hval2, List.setIfInBounds_toArray, List.set_cons_zero, List.set_cons_succ]); go_simp) (by (try simp only [Act.put, hval, hval2, List.setIfInBounds_toArray, List.set_cons_zero, List.set_cons_succ]); go_simp) (HS2.out W))⟩, ?_⟩
  refine ⟨fun vs W hI hV => .inl ⟨by clear hI hV hst; go_simp, .inl (by clear hI hV hst; (try simp only [Act.put, hval, hval2, List.setIfInBounds_toArray, List.set_cons_zero, List.set_cons_succ]); go_simp)⟩, ?_⟩
  refine ⟨fun vs W hI hV => .inl ⟨by clear hI hV hst; (try simp only [Act.put, hval, hval2, List.setIfInBounds_toArray, List.set_cons_zero, List.set_cons_succ]); go_simp, .inl ⟨.slice (some ⟨W.heap.size, 0, none⟩) 2 2, W.alloc (.cells #[.int .i64 0, .int .i64 0, .slice a k1 n, .int .i64 0, .int .i64 0, .slice a2 (n - k1) c2] 25), by clear hI hV hst; (try simp only [Act.put, hval, hval2, List.setIfInBounds_toArray, List.set_cons_zero, List.set_cons_succ]); go_simp, rgGood_mk hst hI ⟨_, rfl, heap_alloc_new _ _⟩ ((Sees.refl W).alloc _)⟩⟩, ?_⟩
  refine ⟨fun vs W hI hV => .inl ⟨by clear hI hV hst; (try simp only [Act.put, hval, hval2, List.setIfInBounds_toArray, List.set_cons_zero, List.set_cons_succ]); go_simp, .inr (.inr ⟨14, #[vs 20], by clear hI hV hst; (try simp only [Act.put, hval, hval2, List.setIfInBounds_toArray, List.set_cons_zero, List.set_cons_succ]); go_simp, ?_⟩)⟩, ?_⟩
  · obtain ⟨b, eb, hrow⟩ := hV 20 _ (by kernel_rfl) rfl
    rw [eb]
    have hin := Hu.out.sees (hsw2.trans hI)
    refine (few31_any (fun _ => True) _ [⟨0, 0, ls.take k1⟩, ⟨0, 0, ls.drop k1⟩] W (act31_two hrow trivial (Nat.le_refl 2) ((HR1.out _ _ hin).mono (fun _ _ _ => trivial)) ((HR2.out _ _ hin).mono (fun _ _ _ => trivial)))).mono ?_
    rintro e w' ⟨⟨b, rfl, hb⟩, hs⟩
    exact ⟨_, rfl, rgGood_mk hst hI ⟨b, rfl, hb⟩ hs⟩
  intro vs w3 hI hV
  obtain ⟨b, eb, hb⟩ := hV 21 _ rfl
  have S3 := Lib.hid (hsw2.trans hI)
  have Hb := Lib.hid hb
  clear hI hV hst hsw2 hb
  (try simp only [Act.put, hval, hval2, List.setIfInBounds_toArray, List.set_cons_zero, List.set_cons_succ])
  go_simp
  have eb : vs 21 = .bool b := by simpa using eb
  rw [eb]
  clear eb
  have HK := Lib.hid (fun W (hs : Sees w W) => known31 W (Ht.out.sees hs))
  cases hcb : b
  · refine wpFrom_to 29 hB (fun _ _ _ _ _ h => h) (by kernel_rfl) (by simp only [List.cons_append, List.nil_append, List.drop_succ_cons, List.drop_zero, List.take_succ_cons, List.take_zero, Nat.reduceSub]; rfl) ?_
    go_wp2_with fail
    refine wpFrom_end rfl ?_
    clear hB
    go_wp2_with fail
    refine (HK.out _ S3.out).mono ?_
    rintro e w4 ⟨rfl, hs4⟩
    go_wp2
    go_ret
    exact ⟨by simp, S3.out.trans hs4⟩
  subst hcb
  have H8 := Lib.hid (few31_two (Hb.out rfl))
  clear Hb HR1 HR2 HS1 HS2 hk1 hk1n
  refine wpFrom_to 29 hB (fun _ _ _ _ _ h => h) (by kernel_rfl) (by simp only [List.cons_append, List.nil_append, List.drop_succ_cons, List.drop_zero, List.take_succ_cons, List.take_zero, Nat.reduceSub]; rfl) ?_
  go_wp2_with fail
  refine (refValid31_any (fun b => b < w.heap.size) _ ls _ (Hu.out.sees S3.out) (fun l hl => by have := H8.out l hl; omega) (by have := Hn.out; omega)).mono ?_
  rintro e w4 ⟨rfl, hs4⟩
  have S4 := Lib.hid (S3.out.trans hs4)
  clear hs4
  cases hcv : (ls.all fun l => lnOk l.cells)
  · go_wp2_with fail
    refine wpFrom_end rfl ?_
    clear hB
    go_wp2_with fail
    refine (HK.out _ S4.out).mono ?_
    rintro e w5 ⟨rfl, hs5⟩
    go_wp2
    go_ret
    exact ⟨by simp, S4.out.trans hs5⟩
  have Hok := Lib.hid (fun l hl => List.all_eq_true.1 hcv l hl : ∀ l ∈ ls, lnOk l.cells = true)
  clear hcv S3
  go_wp2_with fail
  refine wpFrom_end rfl ?_
  clear hB
  go_wp2_with fail
  refine (hnew_ok (m : Int) w4 (by omega) (by omega)).mono ?_
  rintro e w5 ⟨hb, rfl, P⟩
  have P5 := Lib.hid P.cut
  clear P
  go_wp2_with fail
  refine (hnew_ok (m : Int) w5 (by omega) (by omega)).mono ?_
  rintro e w6 ⟨gb, rfl, Q⟩
  have HH6 : Hid (Hi2 w4 w6 hb gb m 0 [] 0 []) := Lib.hid (by
    have z5 := P5.out.see.size
    have z6 := Q.see.size
    exact ⟨_, _, P5.out.sees Q.see, Q.cut.rebase P5.out.see, fun c h e => by have := h.2; have := e.1; omega, fun c h => by have := h.2; omega, fun c h => h.2⟩)
  have HT := Lib.hid (Ht.out.sees S4.out)
  have HZ := Lib.hid S4.out.size
  have S6 := Lib.hid (S4.out.trans HH6.out.see)
  clear Q P5
  have hk0 := Hk0.out
  obtain ⟨_, hr1⟩ := cut_to Hu.out n (Nat.le_refl n)
  have HR1 := Lib.hid hr1
  clear hr1
  go_wp2_with fail
  refine (HH6.out.push HT.out (Sees.refl _) (fun b => b < w.heap.size) _ (ls.take n) (HR1.out _ _ (Hu.out.sees S6.out)) (fun c h => .inl (Nat.lt_of_lt_of_le h HZ.out)) (fun l hl => Hok.out l (List.mem_of_mem_take hl)) (by have := Hn.out; simp; omega) (n - m) (by have := Hn.out; simp; omega) ((n - m : Nat) : Int) ((ls.take n).drop (n - m)) (by simp) rfl).mono ?_
  rintro e w7 ⟨rfl, hp⟩
  have HH7 := Lib.hid hp
  have S7 := Lib.hid (S4.out.trans hp.see)
  clear hp
  go_wp2_with fail
  refine (HH7.out.push HT.out (Sees.refl _) (fun b => b < w.heap.size) _ (ls.drop n) (by first | exact rd_from' (Hu.out.sees S7.out) n (Nat.le_refl n) | (rw [List.drop_of_length_le (by have := Hn.out; omega)]; exact El.Rd.empty _ _ _ _)) (fun c h => .inl (Nat.lt_of_lt_of_le h HZ.out)) (fun l hl => Hok.out l (List.mem_of_mem_drop hl)) (by have := Hn.out; simp; omega) (((ls.take n).drop (n - m)).length + (ls.drop n).length - m) (by simp) ((n - m : Nat) : Int) (ls.drop (n - m)) (by have := Hn.out; simp; omega) (by rw [hi_both ls n m (by have := Hn.out; omega), ← Hn.out])).mono ?_
  rintro e w8 ⟨rfl, hp⟩
  have HH8 := Lib.hid hp
  have S8 := Lib.hid (S4.out.trans hp.see)
  clear hp HR1 hk0 HH7 S7 HH6 S6
  try generalize Option.map (fun x : Addr => x.add (n * 2)) a = aq
  go_wp2_with fail
  go_loopw [12] (fun i W => ∃ k : Nat, k ≤ n ∧ i = .int .i64 k ∧ Hi2 w4 W hb gb m ((n - m : Nat) : Int) (ls.drop (n - m)) ((k - m : Nat) : Int) ((ls.take k).drop (k - m))) (fun i _ => n - (intOf i).toNat)
  case atStart => exact ⟨0, by omega, rfl, by simpa using HH8.out⟩
  case round =>
    obtain ⟨k, hk, rfl, hH⟩ := hrel
    have HH := Lib.hid hH
    clear hH
    by_cases hlt : k < n
    · obtain ⟨b1, o1, l, a1, m1, rfl, _, hl, _, y0, y1, y2⟩ := Hu.out.line hlt
      have hSr := S4.out.trans HH.out.see
      have x0 := hSr.cell y0
      have x1 := hSr.cell y1
      have Y0 := Lib.hid y0
      have Y1 := Lib.hid y1
      have Y2 := Lib.hid y2
      have Hl := Lib.hid hl
      have Hlm := Lib.hid (List.mem_iff_getElem?.2 ⟨k, hl⟩ : l ∈ ls)
      clear y0 y1 y2 hl hSr
      have hmd : ∃ L d : Nat, L + d = k + 1 ∧ d = k + 1 - m ∧ L ≤ m ∧ ((ls.take (k + 1)).drop (k + 1 - m)).length = L := ⟨k + 1 - (k + 1 - m), k + 1 - m, by omega, rfl, by omega, by have := Hn.out; simp; omega⟩
      obtain ⟨L, d, hLd, hd, hLm, hLL⟩ := hmd
      have HLL := Lib.hid hLL
      have Hd := Lib.hid hd
      have HLd := Lib.hid hLd
      have g1 : decide ((L : Int) > (m : Int)) = false := decide_eq_false (by omega)
      have g2 : IntKind.i64.wrap ((k : Int) + 1 - (d : Int)) = (L : Int) := by rw [IntWalk.i64_in _ (by omega)]; omega
      clear hLL hd hLd
      go_wp2_with fail
      refine calls_world (fun X hX => ?_)
      have hsx : Sees wr X := by subst hX; exact (Sees.refl wr).alloc _
      have Hrow : X.heap[wr.heap.size]? = some (.cells #[.slice a1 l.cells.length m1, .bool l.soft] 40 (0, 0)) := by subst hX; exact heap_alloc_new _ _
      clear hX
      have HR := lnrd_row (F := fun c => c < w.heap.size ∨ c = wr.heap.size) (cap := 1) [(.slice a1 l.cells.length m1, l)] Hrow (.inr rfl) (Nat.le_refl 1) (by
        intro r hr
        simp only [List.mem_cons, List.not_mem_nil, or_false] at hr
        subst hr
        exact (Y2.out.sees ((S4.out.trans HH.out.see).trans hsx)).mono (fun _ _ h => .inl h))
      refine (HH.out.swap.push HT.out hsx (fun c => c < w.heap.size ∨ c = wr.heap.size) _ [l] HR (fun c h => h.elim (fun h => .inl (Nat.lt_of_lt_of_le h HZ.out)) (fun e => .inr (by omega))) (by intro y hy; simp only [List.mem_cons, List.not_mem_nil, or_false] at hy; subst hy; exact Hok.out y Hlm.out) (by have := Hn.out; simp; omega) (((ls.take k).drop (k - m)).length + 1 - m) (by simp) (d : Int) ((ls.take (k + 1)).drop (k + 1 - m)) (by have := Hn.out; have := Hd.out; simp; omega) (hi_take ls m k l Hl.out)).mono ?_
      rintro e W1 ⟨rfl, hp⟩
      have K1 := Lib.hid hp.swap
      clear hp Hrow HR hsx x0 x1 HH
      go_wp2_with fail
      obtain ⟨F1, hF1⟩ := K1.out.b
      refine (hF1.hiLen (L : Int) (by rw [HLL.out])).mono ?_
      rintro e W2 ⟨rfl, hs⟩
      clear hF1
      have K2 := Lib.hid (K1.out.sees hs)
      clear hs K1
      go_wp2_with fail
      obtain ⟨F2, hF2⟩ := K2.out.b
      refine (hF2.hiNext ((k : Int) + 1) (by have := HLd.out; rw [HLL.out]; omega)).mono ?_
      rintro e W3 ⟨rfl, hs⟩
      clear hF2
      have K3 := Lib.hid (K2.out.sees hs)
      clear hs K2
      go_wp2_with fail
      obtain ⟨F3, hF3⟩ := K3.out.b
      refine (hF3.hiFirst).mono ?_
      rintro e W4 ⟨rfl, hs⟩
      clear hF3
      have K4 := Lib.hid (K3.out.sees hs)
      clear hs K3
      go_wp2_with fail
      obtain ⟨F4, hF4⟩ := K4.out.b
      refine (hF4.hiLen (L : Int) (by rw [HLL.out])).mono ?_
      rintro e W5 ⟨rfl, hs⟩
      clear hF4
      have K5 := Lib.hid (K4.out.sees hs)
      clear hs K4
      go_wp2_with fail
      obtain ⟨F5, hF5⟩ := K5.out.b
      refine (hF5.hiNext ((k : Int) + 1) (by have := HLd.out; rw [HLL.out]; omega)).mono ?_
      rintro e W6 ⟨rfl, hs⟩
      clear hF5
      have K6 := Lib.hid (K5.out.sees hs)
      clear hs K5
      have hSr := S4.out.trans K6.out.see
      have x0 := hSr.cell Y0.out
      have x1 := hSr.cell Y1.out
      clear hSr
      by_cases hm0 : m = 0
      · have g3 : decide ((m : Int) > 0) = false := decide_eq_false (by omega)
        have g4 : decide ((0 : Int) < (m : Int)) = false := decide_eq_false (by omega)
        have g5 : ¬ 0 < m := by omega
        clear hm0
        go_wp2
        go_roundw
        case rel => exact ⟨k + 1, by omega, by go_num, by have := K6.out; rw [Hd.out] at this; exact this⟩
        case measure => simp [intOf] <;> omega
      · have g3 : decide ((m : Int) > 0) = true := decide_eq_true (by omega)
        have g4 : decide ((0 : Int) < (m : Int)) = true := decide_eq_true (by omega)
        go_wp2_with fail
        obtain ⟨F6, hF6⟩ := K6.out.b
        refine (hF6.gets (k : Int) (k - d) l (by have := Hd.out; omega) (by have := Hd.out; rw [List.getElem?_drop, List.getElem?_take, if_pos (by omega), show k + 1 - m + (k - d) = k by omega]; exact Hl.out) _ (Y2.out.sees (S4.out.trans K6.out.see)).rdCells).mono ?_
        rintro e W7 ⟨rfl, hs⟩
        clear hF6 x0 x1
        have K7 := Lib.hid (K6.out.sees hs)
        clear hs K6
        go_wp2
        go_roundw
        case rel => exact ⟨k + 1, by omega, by go_num, by have := K7.out; rw [Hd.out] at this; exact this⟩
        case measure => simp [intOf] <;> omega
    · obtain rfl : n = k := by omega
      have K0 : Hid (Hi2 w4 wr hb gb m ((n - m : Nat) : Int) (ls.drop (n - m)) ((n - m : Nat) : Int) (ls.drop (n - m))) := Lib.hid (by
        have := HH.out
        rw [List.take_of_length_le (by have := Hn.out; omega)] at this
        exact this)
      have Hla := Lib.hid (show (ls.drop (n - m)).length + (n - m) = n by have := Hn.out; simp; omega)
      obtain ⟨d, hd⟩ : ∃ d, d = n - m := ⟨_, rfl⟩
      rw [← hd] at K0 Hla
      have Hd := Lib.hid hd
      clear HH hd
      go_wp2_with fail
      obtain ⟨F1, hF1⟩ := K0.out.a
      refine (hF1.all).mono ?_
      rintro e W1 ⟨v1, rfl, ho, hs⟩
      clear hF1
      have K1 := Lib.hid (K0.out.sees hs)
      have O1 := Lib.hid ho.rd
      clear hs ho K0
      go_wp2_with fail
      obtain ⟨F2, hF2⟩ := K1.out.b
      refine (hF2.all).mono ?_
      rintro e W2 ⟨v2, rfl, ho, hs⟩
      clear hF2
      have K2 := Lib.hid (K1.out.sees hs)
      have O2 := Lib.hid ho.rd
      have O3 := Lib.hid (O1.out.sees hs)
      clear hs ho K1 O1
      go_wp2_with fail
      refine (all_true _ _ _ _ (ls.drop d) (ls.drop d) _ O3.out.rdl O2.out.rdl (by have := Hla.out; omega) (fun l hl => by have := H8.out l (List.mem_of_mem_drop hl); omega) rfl).mono ?_
      rintro e W3 ⟨rfl, hs⟩
      have K3 := Lib.hid (K2.out.sees hs)
      clear hs K2 O2 O3
      go_wp2_with fail
      obtain ⟨F3, hF3⟩ := K3.out.a
      refine (hF3.hiFirst).mono ?_
      rintro e W4 ⟨rfl, hs⟩
      clear hF3
      have K4 := Lib.hid (K3.out.sees hs)
      clear hs K3
      go_wp2_with fail
      obtain ⟨F4, hF4⟩ := K4.out.b
      refine (hF4.hiFirst).mono ?_
      rintro e W5 ⟨rfl, hs⟩
      clear hF4
      have K5 := Lib.hid (K4.out.sees hs)
      clear hs K4
      go_wp2_with fail
      obtain ⟨F5, hF5⟩ := K5.out.a
      refine (hF5.hiNext (n : Int) (by have := Hla.out; omega)).mono ?_
      rintro e W6 ⟨rfl, hs⟩
      clear hF5
      have K6 := Lib.hid (K5.out.sees hs)
      clear hs K5
      have HG := Lib.hid (fun (W : World) v ys (h : lnEl.Rd (fun b => b < w.heap.size) W v ys) => (h.mono (G := fun b => b < w4.heap.size) (fun b _ h => Nat.lt_of_lt_of_le h HZ.out)).rdl)
      have hk0 := Hk0.out
      have S6 := Lib.hid (S4.out.trans K6.out.see)
      have HQ := Lib.hid (fun q (hq : q ≤ n - d) => show (ls.drop d).drop ((ls.drop d).length - q) = ls.drop (n - q) by have := Hla.out; have := Hn.out; rw [List.drop_drop]; congr 1; omega)
      have g3 : IntKind.i64.wrap ((n : Int) - 0) = (n : Int) := by rw [IntWalk.i64_in _ (by omega)]; omega
      have g4 : IntKind.i64.wrap (n : Int) = (n : Int) := by rw [IntWalk.i64_in _ (by omega)]
      have g5 : ¬ (m : Int) < 0 := by omega
      go_wp2_with fail
      refine (K6.out.pulls 0 (Nat.zero_le _) (by omega) (ls.drop (n - 0)) (HQ.out 0 (Nat.zero_le _)) _ (by rw [List.drop_of_length_le (by have := Hn.out; omega)]; exact (El.Rd.empty _ _ _ _).rdl)).mono ?_
      rintro e W8 ⟨rfl, hs⟩
      go_wp2_with fail
      refine (HK.out _ (S4.out.trans hs)).mono ?_
      rintro e W9 ⟨rfl, hs9⟩
      go_wp2
      go_ret
      exact ⟨by simp, (S4.out.trans hs).trans hs9⟩
set_option maxRecDepth 1000000 in
set_option maxHeartbeats 8000000 in
theorem historyHolds_inB (m f n k0 c : Nat) (a : Option Addr) (ls : List Ln) (w : World) (ht : Tabs w) (hm : m ≤ 20) (hf : f ≤ 255) (hn : n ≤ 12) (hnl : n = ls.length) (hu : lnEl.Rd (fun b => b < w.heap.size) w (.slice a n c) ls) (hc : n ≤ c) (hk0 : (f : Int) % ((n : Int) + 1) = k0) (hk0n : k0 ≤ n) (hkc : ¬ c = k0) :
    Calls Tryd.prog 4 #[.int .u8 m, .slice a n c, .int .u8 f] w fun e w' => e = .returned (.bool true) ∧ Sees w w' := by
  have Ht := Lib.hid ht
  have Hu := Lib.hid hu
  have Hk0 := Lib.hid hk0
  have hd1 : decide ((m : Int) > 20) = false := decide_eq_false (by omega)
  have hd2 : decide ((n : Int) > 12) = false := decide_eq_false (by omega)
  obtain ⟨k1, hk1⟩ : ∃ k : Nat, min (n : Int) 6 = k := ⟨(min (n : Int) 6).toNat, by omega⟩
  have hk1n : k1 ≤ n := by omega
  obtain ⟨a2, c2, hs2, hr2⟩ := cut_from Hu.out k1 hk1n
  obtain ⟨hs1, hr1⟩ := cut_to Hu.out k1 hk1n
  have HS1 := Lib.hid hs1
  have HS2 := Lib.hid hs2
  have HR1 := Lib.hid hr1
  have HR2 := Lib.hid hr2
  have Hn := Lib.hid hnl
  have Hkc := Lib.hid hkc
  clear ht hu hs1 hs2 hr1 hr2 hnl hk0 hkc
  go_enter Tryd.func4, Tryd.ntmps4
  go_wp2_with fail
  refine wpFrom_go (by kernel_rfl) (by kernel_rfl) (fun hB w2 hsw2 => ?_)
  refine wpFrom_to 8 hB (fun _ _ _ _ _ h => h) (by kernel_rfl) (by simp only [List.cons_append, List.nil_append, List.drop_succ_cons, List.drop_zero, List.take_succ_cons, List.take_zero, Nat.reduceSub]; rfl) ?_
  go_wp2_with fail
  have hval : ∀ x v, (Spec.is x).val v = x := fun _ _ => rfl
  have hval2 : ∀ V v, (Spec.so V).val v = v := fun _ _ => rfl
  have hst : segStay (Sees w2) [.is (.slice a n c), .is (.slice a n c), .is (.int .i64 n), .is (.int .i64 k1), .is (.slice a k1 c), .is (.agg #[.int .i64 0, .int .i64 0, .slice a k1 c]),
      .is (.slice a n c), .is (.slice a n c), .is (.int .i64 n), .is (.int .i64 k1), .is (.slice a2 (n - k1) c2), .is (.agg #[.int .i64 0, .int .i64 0, .slice a2 (n - k1) c2]),
      .so (fun x W => ∃ b, x = .slice (some ⟨b, 0, none⟩) 2 2 ∧ W.heap[b]? = some (.cells #[.int .i64 0, .int .i64 0, .slice a k1 c, .int .i64 0, .int .i64 0, .slice a2 (n - k1) c2] 25 (0, 0))),
      .so (fun x W => Few31R [⟨0, 0, ls.take k1⟩, ⟨0, 0, ls.drop k1⟩] (.returned x))] :=
    ⟨fun u W W' _ ⟨b, h1, h2⟩ hs => ⟨b, h1, by rw [hs.block _ (Array.getElem?_eq_some_iff.1 h2).1]; exact h2⟩, fun u W W' _ h hs => h, trivial⟩
  refine wpFrom_any 22 _ hB (by kernel_rfl) rfl hst (by simp only [List.cons_append, List.nil_append, List.drop_succ_cons, List.drop_zero, List.take_succ_cons, List.take_zero, Nat.reduceSub]; rfl) ?_
  refine ⟨fun vs W hI hV => .inl ⟨by clear hI hV hst; go_simp, .inl (by clear hI hV hst; (try simp only [Act.put, hval, hval2, List.setIfInBounds_toArray, List.set_cons_zero, List.set_cons_succ]); go_simp)⟩, ?_⟩
  refine ⟨fun vs W hI hV => .inl ⟨by clear hI hV hst; go_simp, .inl (by clear hI hV hst; (try simp only [Act.put, hval, hval2, List.setIfInBounds_toArray, List.set_cons_zero, List.set_cons_succ]); go_simp)⟩, ?_⟩
  refine ⟨fun vs W hI hV => .inl ⟨by clear hI hV hst; go_simp, .inl (by clear hI hV hst; (try simp only [Act.put, hval, hval2, List.setIfInBounds_toArray, List.set_cons_zero, List.set_cons_succ]); go_simp)⟩, ?_⟩
  refine ⟨fun vs W hI hV => .inl ⟨by clear hI hV hst; go_simp, .inl (by clear hI hV hst; (try simp only [Act.put, hval, hval2, List.setIfInBounds_toArray, List.set_cons_zero, List.set_cons_succ]); go_simp; split <;> omega)⟩, ?_⟩
  refine ⟨fun vs W hI hV => .inl ⟨by clear hI hV hst; go_simp, .inl (by clear hI hV hst; exact exec_toL (a := .slice a n c) (b := .int .i64 k1) rfl (by (try simp only [Act.put, hval, hval2, List.setIfInBounds_toArray, List.set_cons_zero, List.set_cons_succ]); go_simp) (by (try simp only [Act.put, hval, hval2, List.setIfInBounds_toArray, List.set_cons_zero, List.set_cons_succ]); go_simp) (HS1.out W))⟩, ?_⟩
  refine ⟨fun vs W hI hV => .inl ⟨by clear hI hV hst; go_simp, .inl (by clear hI hV hst; (try simp only [Act.put, hval, hval2, List.setIfInBounds_toArray, List.set_cons_zero, List.set_cons_succ]); go_simp)⟩, ?_⟩
  refine ⟨fun vs W hI hV => .inl ⟨by clear hI hV hst; go_simp, .inl (by clear hI hV hst; (try simp only [Act.put, hval, hval2, List.setIfInBounds_toArray, List.set_cons_zero, List.set_cons_succ]); go_simp)⟩, ?_⟩
  refine ⟨fun vs W hI hV => .inl ⟨by clear hI hV hst; go_simp, .inl (by clear hI hV hst; (try simp only [Act.put, hval, hval2, List.setIfInBounds_toArray, List.set_cons_zero, List.set_cons_succ]); go_simp)⟩, ?_⟩
  refine ⟨fun vs W hI hV => .inl ⟨by clear hI hV hst; go_simp, .inl (by clear hI hV hst; (try simp only [Act.put, hval, hval2, List.setIfInBounds_toArray, List.set_cons_zero, List.set_cons_succ]); go_simp)⟩, ?_⟩
  refine ⟨fun vs W hI hV => .inl ⟨by clear hI hV hst; go_simp, .inl (by clear hI hV hst; (try simp only [Act.put, hval, hval2, List.setIfInBounds_toArray, List.set_cons_zero, List.set_cons_succ]); go_simp; split <;> omega)⟩, ?_⟩
  refine ⟨fun vs W hI hV => .inl ⟨by clear hI hV hst; go_simp, .inl (by clear hI hV hst; exact exec_fromL (a := .slice a n c) (b := .int .i64 k1) rfl (by (try simp only [Act.put, hval, hval2, List.setIfInBounds_toArray, List.set_cons_zero, List.set_cons_succ]); go_simp) (by (try simp only [Act.put, hval, hval2, List.setIfInBounds_toArray, List.set_cons_zero, List.set_cons_succ]); go_simp) (HS2.out W))⟩, ?_⟩
  refine ⟨fun vs W hI hV => .inl ⟨by clear hI hV hst; go_simp, .inl (by clear hI hV hst; (try simp only [Act.put, hval, hval2, List.setIfInBounds_toArray, List.set_cons_zero, List.set_cons_succ]); go_simp)⟩, ?_⟩
  refine ⟨fun vs W hI hV => .inl ⟨by clear hI hV hst; (try simp only [Act.put, hval, hval2, List.setIfInBounds_toArray, List.set_cons_zero, List.set_cons_succ]); go_simp, .inl ⟨.slice (some ⟨W.heap.size, 0, none⟩) 2 2, W.alloc (.cells #[.int .i64 0, .int .i64 0, .slice a k1 c, .int .i64 0, .int .i64 0, .slice a2 (n - k1) c2] 25), by clear hI hV hst; (try simp only [Act.put, hval, hval2, List.setIfInBounds_toArray, List.set_cons_zero, List.set_cons_succ]); go_simp, rgGood_mk hst hI ⟨_, rfl, heap_alloc_new _ _⟩ ((Sees.refl W).alloc _)⟩⟩, ?_⟩
  refine ⟨fun vs W hI hV => .inl ⟨by clear hI hV hst; (try simp only [Act.put, hval, hval2, List.setIfInBounds_toArray, List.set_cons_zero, List.set_cons_succ]); go_simp, .inr (.inr ⟨14, #[vs 20], by clear hI hV hst; (try simp only [Act.put, hval, hval2, List.setIfInBounds_toArray, List.set_cons_zero, List.set_cons_succ]); go_simp, ?_⟩)⟩, ?_⟩
  · obtain ⟨b, eb, hrow⟩ := hV 20 _ (by kernel_rfl) rfl
    rw [eb]
    have hin := Hu.out.sees (hsw2.trans hI)
    refine (few31_any (fun _ => True) _ [⟨0, 0, ls.take k1⟩, ⟨0, 0, ls.drop k1⟩] W (act31_two hrow trivial (Nat.le_refl 2) ((HR1.out _ _ hin).mono (fun _ _ _ => trivial)) ((HR2.out _ _ hin).mono (fun _ _ _ => trivial)))).mono ?_
    rintro e w' ⟨⟨b, rfl, hb⟩, hs⟩
    exact ⟨_, rfl, rgGood_mk hst hI ⟨b, rfl, hb⟩ hs⟩
  intro vs w3 hI hV
  obtain ⟨b, eb, hb⟩ := hV 21 _ rfl
  have S3 := Lib.hid (hsw2.trans hI)
  have Hb := Lib.hid hb
  clear hI hV hst hsw2 hb
  (try simp only [Act.put, hval, hval2, List.setIfInBounds_toArray, List.set_cons_zero, List.set_cons_succ])
  go_simp
  have eb : vs 21 = .bool b := by simpa using eb
  rw [eb]
  clear eb
  have HK := Lib.hid (fun W (hs : Sees w W) => known31 W (Ht.out.sees hs))
  cases hcb : b
  · refine wpFrom_to 29 hB (fun _ _ _ _ _ h => h) (by kernel_rfl) (by simp only [List.cons_append, List.nil_append, List.drop_succ_cons, List.drop_zero, List.take_succ_cons, List.take_zero, Nat.reduceSub]; rfl) ?_
    go_wp2_with fail
    refine wpFrom_end rfl ?_
    clear hB
    go_wp2_with fail
    refine (HK.out _ S3.out).mono ?_
    rintro e w4 ⟨rfl, hs4⟩
    go_wp2
    go_ret
    exact ⟨by simp, S3.out.trans hs4⟩
  subst hcb
  have H8 := Lib.hid (few31_two (Hb.out rfl))
  clear Hb HR1 HR2 HS1 HS2 hk1 hk1n
  refine wpFrom_to 29 hB (fun _ _ _ _ _ h => h) (by kernel_rfl) (by simp only [List.cons_append, List.nil_append, List.drop_succ_cons, List.drop_zero, List.take_succ_cons, List.take_zero, Nat.reduceSub]; rfl) ?_
  go_wp2_with fail
  refine (refValid31_any (fun b => b < w.heap.size) _ ls _ (Hu.out.sees S3.out) (fun l hl => by have := H8.out l hl; omega) (by have := Hn.out; omega)).mono ?_
  rintro e w4 ⟨rfl, hs4⟩
  have S4 := Lib.hid (S3.out.trans hs4)
  clear hs4
  cases hcv : (ls.all fun l => lnOk l.cells)
  · go_wp2_with fail
    refine wpFrom_end rfl ?_
    clear hB
    go_wp2_with fail
    refine (HK.out _ S4.out).mono ?_
    rintro e w5 ⟨rfl, hs5⟩
    go_wp2
    go_ret
    exact ⟨by simp, S4.out.trans hs5⟩
  have Hok := Lib.hid (fun l hl => List.all_eq_true.1 hcv l hl : ∀ l ∈ ls, lnOk l.cells = true)
  clear hcv S3
  go_wp2_with fail
  refine wpFrom_end rfl ?_
  clear hB
  go_wp2_with fail
  refine (hnew_ok (m : Int) w4 (by omega) (by omega)).mono ?_
  rintro e w5 ⟨hb, rfl, P⟩
  have P5 := Lib.hid P.cut
  clear P
  go_wp2_with fail
  refine (hnew_ok (m : Int) w5 (by omega) (by omega)).mono ?_
  rintro e w6 ⟨gb, rfl, Q⟩
  have HH6 : Hid (Hi2 w4 w6 hb gb m 0 [] 0 []) := Lib.hid (by
    have z5 := P5.out.see.size
    have z6 := Q.see.size
    exact ⟨_, _, P5.out.sees Q.see, Q.cut.rebase P5.out.see, fun c h e => by have := h.2; have := e.1; omega, fun c h => by have := h.2; omega, fun c h => h.2⟩)
  have HT := Lib.hid (Ht.out.sees S4.out)
  have HZ := Lib.hid S4.out.size
  have S6 := Lib.hid (S4.out.trans HH6.out.see)
  clear Q P5
  have hk0 := Hk0.out
  have hkc := Hkc.out
  have hk0c : k0 ≤ c := by omega
  obtain ⟨_, hr1⟩ := cut_to Hu.out k0 hk0n
  have HR1 := Lib.hid hr1
  clear hr1
  go_wp2_with fail
  refine (HH6.out.push HT.out (Sees.refl _) (fun b => b < w.heap.size) _ (ls.take k0) (HR1.out _ _ (Hu.out.sees S6.out)) (fun c h => .inl (Nat.lt_of_lt_of_le h HZ.out)) (fun l hl => Hok.out l (List.mem_of_mem_take hl)) (by have := Hn.out; simp; omega) (k0 - m) (by have := Hn.out; simp; omega) ((k0 - m : Nat) : Int) ((ls.take k0).drop (k0 - m)) (by simp) rfl).mono ?_
  rintro e w7 ⟨rfl, hp⟩
  have HH7 := Lib.hid hp
  have S7 := Lib.hid (S4.out.trans hp.see)
  clear hp
  go_wp2_with fail
  refine (HH7.out.push HT.out (Sees.refl _) (fun b => b < w.heap.size) _ (ls.drop k0) (by first | exact rd_from' (Hu.out.sees S7.out) k0 hk0n | (rw [List.drop_of_length_le (by have := Hn.out; omega)]; exact El.Rd.empty _ _ _ _)) (fun c h => .inl (Nat.lt_of_lt_of_le h HZ.out)) (fun l hl => Hok.out l (List.mem_of_mem_drop hl)) (by have := Hn.out; simp; omega) (((ls.take k0).drop (k0 - m)).length + (ls.drop k0).length - m) (by simp) ((n - m : Nat) : Int) (ls.drop (n - m)) (by have := Hn.out; simp; omega) (by rw [hi_both ls k0 m (by have := Hn.out; omega), ← Hn.out])).mono ?_
  rintro e w8 ⟨rfl, hp⟩
  have HH8 := Lib.hid hp
  have S8 := Lib.hid (S4.out.trans hp.see)
  clear hp HR1 hk0 HH7 S7 HH6 S6
  try generalize Option.map (fun x : Addr => x.add (k0 * 2)) a = aq
  go_wp2_with fail
  go_loopw [12] (fun i W => ∃ k : Nat, k ≤ n ∧ i = .int .i64 k ∧ Hi2 w4 W hb gb m ((n - m : Nat) : Int) (ls.drop (n - m)) ((k - m : Nat) : Int) ((ls.take k).drop (k - m))) (fun i _ => n - (intOf i).toNat)
  case atStart => exact ⟨0, by omega, rfl, by simpa using HH8.out⟩
  case round =>
    obtain ⟨k, hk, rfl, hH⟩ := hrel
    have HH := Lib.hid hH
    clear hH
    by_cases hlt : k < n
    · obtain ⟨b1, o1, l, a1, m1, rfl, _, hl, _, y0, y1, y2⟩ := Hu.out.line hlt
      have hSr := S4.out.trans HH.out.see
      have x0 := hSr.cell y0
      have x1 := hSr.cell y1
      have Y0 := Lib.hid y0
      have Y1 := Lib.hid y1
      have Y2 := Lib.hid y2
      have Hl := Lib.hid hl
      have Hlm := Lib.hid (List.mem_iff_getElem?.2 ⟨k, hl⟩ : l ∈ ls)
      clear y0 y1 y2 hl hSr
      have hmd : ∃ L d : Nat, L + d = k + 1 ∧ d = k + 1 - m ∧ L ≤ m ∧ ((ls.take (k + 1)).drop (k + 1 - m)).length = L := ⟨k + 1 - (k + 1 - m), k + 1 - m, by omega, rfl, by omega, by have := Hn.out; simp; omega⟩
      obtain ⟨L, d, hLd, hd, hLm, hLL⟩ := hmd
      have HLL := Lib.hid hLL
      have Hd := Lib.hid hd
      have HLd := Lib.hid hLd
      have g1 : decide ((L : Int) > (m : Int)) = false := decide_eq_false (by omega)
      have g2 : IntKind.i64.wrap ((k : Int) + 1 - (d : Int)) = (L : Int) := by rw [IntWalk.i64_in _ (by omega)]; omega
      clear hLL hd hLd
      go_wp2_with fail
      refine calls_world (fun X hX => ?_)
      have hsx : Sees wr X := by subst hX; exact (Sees.refl wr).alloc _
      have Hrow : X.heap[wr.heap.size]? = some (.cells #[.slice a1 l.cells.length m1, .bool l.soft] 40 (0, 0)) := by subst hX; exact heap_alloc_new _ _
      clear hX
      have HR := lnrd_row (F := fun c => c < w.heap.size ∨ c = wr.heap.size) (cap := 1) [(.slice a1 l.cells.length m1, l)] Hrow (.inr rfl) (Nat.le_refl 1) (by
        intro r hr
        simp only [List.mem_cons, List.not_mem_nil, or_false] at hr
        subst hr
        exact (Y2.out.sees ((S4.out.trans HH.out.see).trans hsx)).mono (fun _ _ h => .inl h))
      refine (HH.out.swap.push HT.out hsx (fun c => c < w.heap.size ∨ c = wr.heap.size) _ [l] HR (fun c h => h.elim (fun h => .inl (Nat.lt_of_lt_of_le h HZ.out)) (fun e => .inr (by omega))) (by intro y hy; simp only [List.mem_cons, List.not_mem_nil, or_false] at hy; subst hy; exact Hok.out y Hlm.out) (by have := Hn.out; simp; omega) (((ls.take k).drop (k - m)).length + 1 - m) (by simp) (d : Int) ((ls.take (k + 1)).drop (k + 1 - m)) (by have := Hn.out; have := Hd.out; simp; omega) (hi_take ls m k l Hl.out)).mono ?_
      rintro e W1 ⟨rfl, hp⟩
      have K1 := Lib.hid hp.swap
      clear hp Hrow HR hsx x0 x1 HH
      go_wp2_with fail
      obtain ⟨F1, hF1⟩ := K1.out.b
      refine (hF1.hiLen (L : Int) (by rw [HLL.out])).mono ?_
      rintro e W2 ⟨rfl, hs⟩
      clear hF1
      have K2 := Lib.hid (K1.out.sees hs)
      clear hs K1
      go_wp2_with fail
      obtain ⟨F2, hF2⟩ := K2.out.b
      refine (hF2.hiNext ((k : Int) + 1) (by have := HLd.out; rw [HLL.out]; omega)).mono ?_
      rintro e W3 ⟨rfl, hs⟩
      clear hF2
      have K3 := Lib.hid (K2.out.sees hs)
      clear hs K2
      go_wp2_with fail
      obtain ⟨F3, hF3⟩ := K3.out.b
      refine (hF3.hiFirst).mono ?_
      rintro e W4 ⟨rfl, hs⟩
      clear hF3
      have K4 := Lib.hid (K3.out.sees hs)
      clear hs K3
      go_wp2_with fail
      obtain ⟨F4, hF4⟩ := K4.out.b
      refine (hF4.hiLen (L : Int) (by rw [HLL.out])).mono ?_
      rintro e W5 ⟨rfl, hs⟩
      clear hF4
      have K5 := Lib.hid (K4.out.sees hs)
      clear hs K4
      go_wp2_with fail
      obtain ⟨F5, hF5⟩ := K5.out.b
      refine (hF5.hiNext ((k : Int) + 1) (by have := HLd.out; rw [HLL.out]; omega)).mono ?_
      rintro e W6 ⟨rfl, hs⟩
      clear hF5
      have K6 := Lib.hid (K5.out.sees hs)
      clear hs K5
      have hSr := S4.out.trans K6.out.see
      have x0 := hSr.cell Y0.out
      have x1 := hSr.cell Y1.out
      clear hSr
      by_cases hm0 : m = 0
      · have g3 : decide ((m : Int) > 0) = false := decide_eq_false (by omega)
        have g4 : decide ((0 : Int) < (m : Int)) = false := decide_eq_false (by omega)
        have g5 : ¬ 0 < m := by omega
        clear hm0
        go_wp2
        go_roundw
        case rel => exact ⟨k + 1, by omega, by go_num, by have := K6.out; rw [Hd.out] at this; exact this⟩
        case measure => simp [intOf] <;> omega
      · have g3 : decide ((m : Int) > 0) = true := decide_eq_true (by omega)
        have g4 : decide ((0 : Int) < (m : Int)) = true := decide_eq_true (by omega)
        go_wp2_with fail
        obtain ⟨F6, hF6⟩ := K6.out.b
        refine (hF6.gets (k : Int) (k - d) l (by have := Hd.out; omega) (by have := Hd.out; rw [List.getElem?_drop, List.getElem?_take, if_pos (by omega), show k + 1 - m + (k - d) = k by omega]; exact Hl.out) _ (Y2.out.sees (S4.out.trans K6.out.see)).rdCells).mono ?_
        rintro e W7 ⟨rfl, hs⟩
        clear hF6 x0 x1
        have K7 := Lib.hid (K6.out.sees hs)
        clear hs K6
        go_wp2
        go_roundw
        case rel => exact ⟨k + 1, by omega, by go_num, by have := K7.out; rw [Hd.out] at this; exact this⟩
        case measure => simp [intOf] <;> omega
    · obtain rfl : n = k := by omega
      have K0 : Hid (Hi2 w4 wr hb gb m ((n - m : Nat) : Int) (ls.drop (n - m)) ((n - m : Nat) : Int) (ls.drop (n - m))) := Lib.hid (by
        have := HH.out
        rw [List.take_of_length_le (by have := Hn.out; omega)] at this
        exact this)
      have Hla := Lib.hid (show (ls.drop (n - m)).length + (n - m) = n by have := Hn.out; simp; omega)
      obtain ⟨d, hd⟩ : ∃ d, d = n - m := ⟨_, rfl⟩
      rw [← hd] at K0 Hla
      have Hd := Lib.hid hd
      clear HH hd
      go_wp2_with fail
      obtain ⟨F1, hF1⟩ := K0.out.a
      refine (hF1.all).mono ?_
      rintro e W1 ⟨v1, rfl, ho, hs⟩
      clear hF1
      have K1 := Lib.hid (K0.out.sees hs)
      have O1 := Lib.hid ho.rd
      clear hs ho K0
      go_wp2_with fail
      obtain ⟨F2, hF2⟩ := K1.out.b
      refine (hF2.all).mono ?_
      rintro e W2 ⟨v2, rfl, ho, hs⟩
      clear hF2
      have K2 := Lib.hid (K1.out.sees hs)
      have O2 := Lib.hid ho.rd
      have O3 := Lib.hid (O1.out.sees hs)
      clear hs ho K1 O1
      go_wp2_with fail
      refine (all_true _ _ _ _ (ls.drop d) (ls.drop d) _ O3.out.rdl O2.out.rdl (by have := Hla.out; omega) (fun l hl => by have := H8.out l (List.mem_of_mem_drop hl); omega) rfl).mono ?_
      rintro e W3 ⟨rfl, hs⟩
      have K3 := Lib.hid (K2.out.sees hs)
      clear hs K2 O2 O3
      go_wp2_with fail
      obtain ⟨F3, hF3⟩ := K3.out.a
      refine (hF3.hiFirst).mono ?_
      rintro e W4 ⟨rfl, hs⟩
      clear hF3
      have K4 := Lib.hid (K3.out.sees hs)
      clear hs K3
      go_wp2_with fail
      obtain ⟨F4, hF4⟩ := K4.out.b
      refine (hF4.hiFirst).mono ?_
      rintro e W5 ⟨rfl, hs⟩
      clear hF4
      have K5 := Lib.hid (K4.out.sees hs)
      clear hs K4
      go_wp2_with fail
      obtain ⟨F5, hF5⟩ := K5.out.a
      refine (hF5.hiNext (n : Int) (by have := Hla.out; omega)).mono ?_
      rintro e W6 ⟨rfl, hs⟩
      clear hF5
      have K6 := Lib.hid (K5.out.sees hs)
      clear hs K5
      have HG := Lib.hid (fun (W : World) v ys (h : lnEl.Rd (fun b => b < w.heap.size) W v ys) => (h.mono (G := fun b => b < w4.heap.size) (fun b _ h => Nat.lt_of_lt_of_le h HZ.out)).rdl)
      have hk0 := Hk0.out
      have S6 := Lib.hid (S4.out.trans K6.out.see)
      have HQ := Lib.hid (fun q (hq : q ≤ n - d) => show (ls.drop d).drop ((ls.drop d).length - q) = ls.drop (n - q) by have := Hla.out; have := Hn.out; rw [List.drop_drop]; congr 1; omega)
      by_cases hme : m < n - k0
      · have Hme := Lib.hid (show m ≤ n by omega)
        obtain ⟨e0, he0⟩ : ∃ e : Nat, e = n - k0 := ⟨_, rfl⟩
        have g1 : IntKind.i64.wrap ((n : Int) - (k0 : Int)) = (e0 : Int) := by rw [IntWalk.i64_in _ (by omega)]; omega
        have g2 : m < e0 := by omega
        by_cases hm0 : m = 0
        · have g3 : IntKind.i64.wrap ((n : Int) - 0) = (n : Int) := by rw [IntWalk.i64_in _ (by omega)]; omega
          have g4 : IntKind.i64.wrap (n : Int) = (n : Int) := by rw [IntWalk.i64_in _ (by omega)]
          subst hm0
          clear hme he0
          by_cases hcn : c = n
          · obtain rfl : n = c := hcn.symm
            go_wp2_with fail
            have hin := Hu.out.sees S6.out
            refine (K6.out.pulls 0 (by have := Hla.out; have := Hd.out; omega) (by omega) (ls.drop (n - 0)) (HQ.out 0 (by have := Hd.out; omega)) _ (by
              first
              | (rw [List.drop_of_length_le (by have := Hn.out; omega)]; exact (El.Rd.empty _ _ _ _).rdl))).mono ?_
            rintro e W8 ⟨rfl, hs⟩
            go_wp2_with fail
            refine (HK.out _ (S4.out.trans hs)).mono ?_
            rintro e W9 ⟨rfl, hs9⟩
            go_wp2
            go_ret
            exact ⟨by simp, (S4.out.trans hs).trans hs9⟩
          · have hcn' : n ≤ c := by omega
            go_wp2_with fail
            have hin := Hu.out.sees S6.out
            refine (K6.out.pulls 0 (by have := Hla.out; have := Hd.out; omega) (by omega) (ls.drop (n - 0)) (HQ.out 0 (by have := Hd.out; omega)) _ (by
              first
              | (with_reducible exact HG.out _ _ _ (rd_from' hin n (Nat.le_refl n)))
              | (rw [List.drop_of_length_le (by have := Hn.out; omega)]; exact (El.Rd.empty _ _ _ _).rdl))).mono ?_
            rintro e W8 ⟨rfl, hs⟩
            go_wp2_with fail
            refine (HK.out _ (S4.out.trans hs)).mono ?_
            rintro e W9 ⟨rfl, hs9⟩
            go_wp2
            go_ret
            exact ⟨by simp, (S4.out.trans hs).trans hs9⟩
        · have g3 : IntKind.i64.wrap ((n : Int) - (m : Int)) = (d : Int) := by have := Hd.out; rw [IntWalk.i64_in _ (by omega)]; omega
          have g4 : d ≤ n := by have := Hd.out; omega
          have g5 : d ≤ c := by have := Hd.out; omega
          have g6 : ¬ c = d := by have := Hd.out; omega
          clear hme he0
          go_wp2_with fail
          have hin := Hu.out.sees S6.out
          refine (K6.out.pulls m (by have := Hla.out; have := Hd.out; have := Hme.out; omega) (by omega) (ls.drop (n - m)) (HQ.out m (by have := Hd.out; have := Hme.out; omega)) _ (by
            first
            | (rw [← Hd.out]; with_reducible exact HG.out _ _ _ (rd_from' hin d g4)))).mono ?_
          rintro e W8 ⟨rfl, hs⟩
          go_wp2_with fail
          refine (HK.out _ (S4.out.trans hs)).mono ?_
          rintro e W9 ⟨rfl, hs9⟩
          go_wp2
          go_ret
          exact ⟨by simp, (S4.out.trans hs).trans hs9⟩
      · obtain ⟨e0, he0⟩ : ∃ e : Nat, e = n - k0 := ⟨_, rfl⟩
        have g1 : IntKind.i64.wrap ((n : Int) - (k0 : Int)) = (e0 : Int) := by rw [IntWalk.i64_in _ (by omega)]; omega
        have g2 : e0 ≤ m := by omega
        have g3 : IntKind.i64.wrap ((n : Int) - (e0 : Int)) = (k0 : Int) := by rw [IntWalk.i64_in _ (by omega)]; omega
        have He := Lib.hid (show e0 ≤ m ∧ e0 ≤ n by omega)
        have Hek := Lib.hid (show k0 = n - e0 by omega)
        clear hme he0
        have hkc := Hkc.out
        have hk0c : k0 ≤ c := by omega
        go_wp2_with fail
        have hin := Hu.out.sees S6.out
        refine (K6.out.pulls e0 (by have := Hla.out; have := Hd.out; have := He.out; omega) (by omega) (ls.drop (n - e0)) (HQ.out e0 (by have := Hd.out; have := He.out; omega)) _ (by
          first
          | (rw [← Hek.out]; with_reducible exact HG.out _ _ _ (rd_from' hin k0 hk0n))
          | (rw [← Hek.out]; rw [List.drop_of_length_le (by have := Hn.out; omega)]; exact (El.Rd.empty _ _ _ _).rdl))).mono ?_
        rintro e W8 ⟨rfl, hs⟩
        go_wp2_with fail
        refine (HK.out _ (S4.out.trans hs)).mono ?_
        rintro e W9 ⟨rfl, hs9⟩
        go_wp2
        go_ret
        exact ⟨by simp, (S4.out.trans hs).trans hs9⟩
theorem historyHolds_any (m f : Nat) (u : Value) (ls : List Ln) (w : World) (ht : Tabs w) (hm : m ≤ 255) (hf : f ≤ 255) (hu : lnEl.Rd (fun b => b < w.heap.size) w u ls) :
    Calls Tryd.prog 4 #[.int .u8 m, u, .int .u8 f] w fun e w' => e = .returned (.bool true) ∧ Sees w w' := by
  by_cases h1 : m ≤ 20
  · by_cases h2 : ls.length ≤ 12
    · obtain ⟨a, c, rfl, hc⟩ := hu.slice'
      have hk0 : (f : Int) % ((ls.length : Int) + 1) = (f % (ls.length + 1) : Nat) := by simp
      have hlt : f % (ls.length + 1) ≤ ls.length := by have := Nat.mod_lt f (show 0 < ls.length + 1 by omega); omega
      by_cases h3 : c = f % (ls.length + 1)
      · have h4 : f % (ls.length + 1) = ls.length := by omega
        rw [h4] at h3 hk0
        subst h3
        exact historyHolds_inA m f ls.length a ls w ht h1 hf h2 rfl hu hk0
      · exact historyHolds_inB m f ls.length _ c a ls w ht h1 hf h2 rfl hu hc hk0 hlt h3
    · exact historyHolds_out2 m f u ls w ht h1 (by omega) hu
  · exact historyHolds_out1 m f u ls w ht (by omega) hm hu
end Go.Proofs.YtpicffaghoggdaaDoor
