/- What a view returns shares no memory: ViewShares. No condition. -/
import Derived.Test.YtpicffaghoggdaaDoorViQ
namespace Go.Proofs.YtpicffaghoggdaaDoor
set_option linter.unusedVariables false
set_option linter.unusedSimpArgs false
open Go.RowKit

theorem extract_list (f : ByteArray) (m : Nat) : (f.extract 0 m).data.toList = f.data.toList.take m := by
  rw [ByteArray.data_extract]; simp
theorem rowsOf_take (f : ByteArray) (m : Nat) : rowsOf (f.extract 0 m) = (rowsOf f).take m := by
  unfold rowsOf; rw [extract_list, List.map_take]
theorem rows32_take (f : ByteArray) (m : Nat) (h : ((rowsOf f).all fun l => lnOk l.cells) = true) : ∀ l ∈ rowsOf (f.extract 0 m), lnOk l.cells = true := fun l hl => by
  rw [rowsOf_take] at hl
  exact rows32_ok f h l (List.mem_of_mem_take hl)
theorem rows32_size (f : ByteArray) (m : Nat) (h : m ≤ f.size) : (rowsOf (f.extract 0 m)).length = m := by
  rw [rowsOf_take, List.length_take, rows32_len]; omega
theorem cut_const (f : ByteArray) (m : Nat) (hm : m ≤ f.size) (W : World) : (Instr.sliceAt 9 (.string f) none (some (.int .u8 (m : Int))) none).run Tryd.prog W = .ok (.string (f.extract 0 m)) W := by
  rw [run_sliceAt_string (P := Tryd.prog) (h := Tryd.underlying9), run_slice_string_h (P := Tryd.prog) (ht := Tryd.underlying9) (h0 := by omega) (h2 := by omega)]
  simp
theorem extract_size (f : ByteArray) (m : Nat) (h : m ≤ f.size) : (f.extract 0 m).size = m := by
  rw [ByteArray.size_extract]; omega
set_option maxRecDepth 1000000 in
set_option maxHeartbeats 8000000 in
theorem viewShares_in (m q r : Nat) (w : World) (ht : Tabs w) (hm : m ≤ 9) (hq : q ≤ 255) (hr1 : 1 ≤ r) (hr : r ≤ 9) :
    Calls Tryd.prog 5 #[.int .u8 m, .int .u8 q, .int .u8 r] w fun e w' => e = .returned (.bool true) ∧ Sees w w' := by
  have Ht := Lib.hid ht
  clear ht
  have d1 : decide ((m : Int) > 9) = false := decide_eq_false (by omega)
  have d2 : decide ((r : Int) < 1) = false := decide_eq_false (by omega)
  have d3 : decide ((r : Int) > 9) = false := decide_eq_false (by omega)
  have gr : IntKind.i64.wrap (r : Int) = (r : Int) := IntWalk.i64_in _ (by omega)
  have gq : IntKind.i64.wrap (q : Int) = (q : Int) := IntWalk.i64_in _ (by omega)
  obtain ⟨s, hs⟩ : ∃ s, s = (ByteArray.mk #[97, 98, 99, 100, 101, 102, 103, 104, 105]).extract 0 m := ⟨_, rfl⟩
  obtain ⟨t, ht⟩ : ∃ t, t = (ByteArray.mk #[114, 115, 116, 117, 118, 119, 120, 121, 122]).extract 0 r := ⟨_, rfl⟩
  have Hs := Lib.hid hs
  have Ht2 := Lib.hid ht
  have Hsl : Hid ((rowsOf s).length = m) := Lib.hid (by rw [hs]; exact rows32_size _ _ hm)
  have Htl : Hid ((rowsOf t).length = r) := Lib.hid (by rw [ht]; exact rows32_size _ _ hr)
  have Hss : Hid (s.size ≤ 1000) := Lib.hid (by rw [hs, extract_size _ _ hm]; omega)
  have Hts : Hid (t.size ≤ 1000) := Lib.hid (by rw [ht, extract_size _ _ hr]; omega)
  have Hok : Hid (∀ l ∈ rowsOf s, lnOk l.cells = true) := Lib.hid (by rw [hs]; exact rows32_take _ _ (by kernel_rfl))
  have hX1 : ∀ W, (Instr.sliceAt 9 (.string ⟨#[97, 98, 99, 100, 101, 102, 103, 104, 105]⟩) none (some (.int .u8 m)) none).run Tryd.prog W = .ok (.string s) W := by rw [hs]; exact cut_const _ m hm
  have hX2 : ∀ W, (Instr.sliceAt 9 (.string ⟨#[114, 115, 116, 117, 118, 119, 120, 121, 122]⟩) none (some (.int .u8 r)) none).run Tryd.prog W = .ok (.string t) W := by rw [ht]; exact cut_const _ r hr
  clear hs ht
  go_enter Tryd.func5, Tryd.ntmps5
  go_wp2_with fail
  refine (list32_any s w Hss.out).mono ?_
  rintro e wa ⟨v0, rfl, o0, s0⟩
  obtain ⟨a0, c0, rfl, _⟩ := o0.slice
  rw [Hsl.out] at o0 ⊢
  have O0 := Lib.hid o0
  have S0 := Lib.hid s0
  clear o0 s0
  go_wp2_with fail
  refine (made32_any 20 _ (rowsOf s) (fun _ => True) wa (Ht.out.sees S0.out) (by decide) (by decide) (O0.out.rd.mono (fun _ _ _ => trivial)) Hok.out (by rw [Hsl.out]; omega) 0 (by rw [Hsl.out]; simp; omega)).mono ?_
  rintro e wb ⟨hb, rfl, P⟩
  have P0 : Hid (HiF wa (fun c => wa.heap.size ≤ c) wb hb 20 0 (rowsOf s)) := Lib.hid P
  clear P
  go_wp2_with fail
  refine (vnew_ok r wb (by omega) (by omega)).mono ?_
  rintro e wc ⟨rfl, hv, hs⟩
  have Q0 : Hid (ViSt wa wc wb.heap.size hb r 0 20 0 (rowsOf s) (.slice none 0 0) []) := Lib.hid (ViSt.start P0.out hv hs hr1 (by omega))
  have HT : Hid (Tabs wa) := Lib.hid (Ht.out.sees S0.out)
  generalize wb.heap.size = vb at *
  clear hv hs P0 O0 Ht
  go_wp2_with fail
  refine (list32_any t wc Hts.out).mono ?_
  rintro e W0 ⟨v1, rfl, o1, s1⟩
  obtain ⟨a1, c1, rfl, _⟩ := o1.slice
  rw [Htl.out] at o1 ⊢
  have H0 : Hid (ViSt wa W0 vb hb r 0 20 0 (rowsOf s) (.slice a1 r c1) (rowsOf t)) := Lib.hid (Q0.out.screen s1 o1.rd)
  clear o1 s1 Q0
  obtain ⟨k, hk, hkm⟩ := clampV_nat (0 + max (min (q : Int) 1048576) (-1048576)) m
  have Hk := Lib.hid hk
  clear hk
  go_wp2_with fail
  refine (H0.out.scroll (q : Int) k (by rw [Hsl.out]; exact Hk.out)).mono ?_
  rintro e W1 ⟨rfl, hs⟩
  have H1 := Lib.hid hs
  clear hs H0
  go_wp2_with fail
  refine (H1.out.lines k (by rw [Hsl.out]; unfold clampV; omega) Htl.out (rows32_cells _) (m - k : Int) (by rw [Hsl.out]; omega)).mono ?_
  rintro e W2 ⟨vl, rfl, ho, hs⟩
  obtain ⟨L, hL⟩ : ∃ L, L = ((rowsOf s).drop ((rowsOf s).length - k) ++ rowsOf t).take r := ⟨_, rfl⟩
  rw [← hL] at ho
  have hLc : ∀ l ∈ L, l.cells.length ≤ 1000000 := by
    rw [hL]
    intro l hl
    rcases List.mem_append.1 (List.mem_of_mem_take hl) with hl | hl
    · exact rows32_cells _ l (List.mem_of_mem_drop hl)
    · exact rows32_cells _ l hl
  have hLn : L.length ≤ 9 := by rw [hL, List.length_take]; omega
  have HLc := Lib.hid hLc
  obtain ⟨al, cl, rfl, _⟩ := ho.slice
  obtain ⟨n, hn⟩ : ∃ n, n = L.length := ⟨_, rfl⟩
  rw [← hn] at hLn ⊢
  have Hn := Lib.hid hn
  have S2 := Lib.hid hs
  have HO := Lib.hid (fun h0 : L ≠ [] => StF.of (own_ownl ho) h0)
  clear ho hs hL hLc hn
  go_wp2_with fail
  go_loopw [13] (fun i W => ∃ j : Nat, j ≤ n ∧ i = .int .i64 j ∧ (L ≠ [] → ∃ g, al = some ⟨g, 0, none⟩ ∧ StF (fun c => W1.heap.size ≤ c) W g L j) ∧ Sees W1 W) (fun i _ => n - (intOf i).toNat)
  case atStart => exact ⟨0, by omega, rfl, HO.out, S2.out⟩
  case round =>
    obtain ⟨j, hj, rfl, hO, hS⟩ := hrel
    have HO2 := Lib.hid hO
    have S3 := Lib.hid hS
    clear hO hS HO S2
    by_cases hlt : j < n
    · have hne : L ≠ [] := fun e => by have := Hn.out; rw [e] at this; simp at this; omega
      obtain ⟨g, rfl, hg⟩ := HO2.out hne
      obtain ⟨l, hl⟩ : ∃ l, L[j]? = some l := ⟨L[j]'(by have := Hn.out; omega), List.getElem?_eq_getElem _⟩
      obtain ⟨a4, c4, x1, x2, x3, x4, x5⟩ := hg.step hl
      have X3 := Lib.hid x3
      have X4 := Lib.hid x4
      have X5 := Lib.hid x5
      have Hl := Lib.hid (HLc.out l (List.mem_iff_getElem?.2 ⟨_, hl⟩))
      clear x2 x3 x4 x5 hg hne HO2 hl
      go_wp2_with fail
      refine (stain_own 0 _ l.cells _ X3.out Hl.out).mono ?_
      rintro e W4 ⟨rfl, hk4⟩
      have S4 := Lib.hid (((Keeps.of_sees (F := fun _ => False) S3.out).trans' hk4 (fun b hb e => by have := X4.out b e; omega)).sees_end (fun _ _ h => h))
      have G4 := Lib.hid (X5.out W4 hk4)
      clear hk4
      go_wp2_with fail
      go_roundw
      case rel => exact ⟨j + 1, by omega, by go_num, fun _ => ⟨g, rfl, G4.out⟩, S4.out⟩
      case measure => simp [intOf] <;> omega
    · obtain rfl : n = j := by omega
      have H3 := Lib.hid (H1.out.sees S3.out)
      clear HO2 H1 S3
      obtain ⟨ws, rfl⟩ : ∃ ws : World, ws = wr := ⟨_, rfl⟩
      go_wp2_with fail
      refine wpFrom_go (by kernel_rfl) (by kernel_rfl) (fun hB W5 hs5 => ?_)
      have H5 := Lib.hid (H3.out.sees hs5)
      clear hs5 H3
      have hval : ∀ x v, (Spec.is x).val v = x := fun _ _ => rfl
      have hval2 : ∀ V v, (Spec.so V).val v = v := fun _ _ => rfl
      have hst : segStay (Sees W5) [.is (.int .i64 0),
            .is (.bool true),
            .is (.bool true),
            .is (.slice a1 r c1),
            .is (.int .u8 r),
            .is (.string t),
            .so (fun x W => lnEl.Own (fun c => W5.heap.size ≤ c) W x (rowsOf t)),
            .is (.bool true),
            .is (.bool true),
            .is (.bool true),
            .is (.pointer (some ⟨hb, 0, none⟩)),
            .so (fun x W => lnEl.Own (fun c => W5.heap.size ≤ c) W x (rowsOf s)),
            .is (.int .u8 m),
            .is (.string s),
            .so (fun x W => lnEl.Own (fun c => W5.heap.size ≤ c) W x (rowsOf s)),
            .is (.bool true),
            .is (.bool true),
            .is (.bool true),
            .is (.bool true),
            .is (.bool true)] :=
          ⟨fun u W W' _ h hs => h.sees hs, fun u W W' _ h hs => h.sees hs, fun u W W' _ h hs => h.sees hs, trivial⟩
      refine wpFrom_any 20 _ hB (by kernel_rfl) rfl hst (by simp only [List.cons_append, List.nil_append, List.drop_succ_cons, List.drop_zero, List.take_succ_cons, List.take_zero, Nat.reduceSub]; rfl) ?_
      refine ⟨fun vs W hI hV => .inl ⟨by clear hI hV hst; go_simp, .inl (by clear hI hV hst; (try simp only [Act.put, hval, hval2, List.setIfInBounds_toArray, List.set_cons_zero, List.set_cons_succ]); go_simp)⟩, ?_⟩
      refine ⟨fun vs W hI hV => .inl ⟨by clear hI hV hst; go_simp, .inl (by clear hI hV hst; (try simp only [Act.put, hval, hval2, List.setIfInBounds_toArray, List.set_cons_zero, List.set_cons_succ]); go_simp)⟩, ?_⟩
      refine ⟨fun vs W hI hV => .inl ⟨by clear hI hV hst; go_simp, .inl (by clear hI hV hst; (try simp only [Act.put, hval, hval2, List.setIfInBounds_toArray, List.set_cons_zero, List.set_cons_succ]); go_simp)⟩, ?_⟩
      refine ⟨fun vs W hI hV => .inl ⟨by clear hI hV hst; go_simp, .inl (by clear hI hV hst; (try simp only [Act.put, hval, hval2, List.setIfInBounds_toArray, List.set_cons_zero, List.set_cons_succ]); go_simp)⟩, ?_⟩
      refine ⟨fun vs W hI hV => .inl ⟨by clear hI hV hst; go_simp, .inl (by clear hI hV hst; (try simp only [Act.put, hval, hval2, List.setIfInBounds_toArray, List.set_cons_zero, List.set_cons_succ]); go_simp)⟩, ?_⟩
      refine ⟨fun vs W hI hV => .inl ⟨by clear hI hV hst; go_simp, .inl (by clear hI hV hst; (try simp only [Act.put, hval, hval2, List.setIfInBounds_toArray, List.set_cons_zero, List.set_cons_succ]); go_simp)⟩, ?_⟩
      refine ⟨fun vs W hI hV => .inl ⟨by clear hI hV hst; (try simp only [Act.put, hval, hval2, List.setIfInBounds_toArray, List.set_cons_zero, List.set_cons_succ]); go_simp, .inr (.inr ⟨31, #[.string t], by clear hI hV hst; (try simp only [Act.put, hval, hval2, List.setIfInBounds_toArray, List.set_cons_zero, List.set_cons_succ]); go_simp, ?_⟩)⟩, ?_⟩
      · refine (list32_any t W Hts.out).mono ?_
        rintro e w' ⟨v', rfl, ho, hs⟩
        exact ⟨_, rfl, rgGood_mk hst hI (ho.mono (fun b _ h => Nat.le_trans hI.size h)) hs⟩
      refine ⟨fun vs W hI hV => .inl ⟨by clear hI hV hst; (try simp only [Act.put, hval, hval2, List.setIfInBounds_toArray, List.set_cons_zero, List.set_cons_succ]); go_simp, .inr (.inr ⟨23, #[.slice a1 r c1, vs 6], by clear hI hV hst; (try simp only [Act.put, hval, hval2, List.setIfInBounds_toArray, List.set_cons_zero, List.set_cons_succ]); go_simp, ?_⟩)⟩, ?_⟩
      · have h6 : lnEl.Own (fun c => W5.heap.size ≤ c) W (vs 6) (rowsOf t) := hV 6 _ (by kernel_rfl) rfl
        exact all_true _ _ _ _ (rowsOf t) (rowsOf t) W (H5.out.sees hI).scr h6.rd.rdl (by rw [Htl.out]; omega) (rows32_cells _) rfl
      refine ⟨fun vs W hI hV => .inl ⟨by clear hI hV hst; go_simp, .inl (by clear hI hV hst; (try simp only [Act.put, hval, hval2, List.setIfInBounds_toArray, List.set_cons_zero, List.set_cons_succ]); go_simp)⟩, ?_⟩
      refine ⟨fun vs W hI hV => .inl ⟨by clear hI hV hst; go_simp, .inl (by clear hI hV hst; (try simp only [Act.put, hval, hval2, List.setIfInBounds_toArray, List.set_cons_zero, List.set_cons_succ]); go_simp)⟩, ?_⟩
      refine ⟨fun vs W hI hV => .inl ⟨by clear hI hV hst; go_simp, .inl (by clear hI hV hst; (try simp only [Act.put, hval, hval2, List.setIfInBounds_toArray, List.set_cons_zero, List.set_cons_succ]); go_simp)⟩, ?_⟩
      refine ⟨fun vs W hI hV => .inl ⟨by clear hI hV hst; (try simp only [Act.put, hval, hval2, List.setIfInBounds_toArray, List.set_cons_zero, List.set_cons_succ]); go_simp, .inr (.inr ⟨19, #[.pointer (some ⟨hb, 0, none⟩)], by clear hI hV hst; (try simp only [Act.put, hval, hval2, List.setIfInBounds_toArray, List.set_cons_zero, List.set_cons_succ]); go_simp, ?_⟩)⟩, ?_⟩
      · refine ((H5.out.sees hI).all_is).mono ?_
        rintro e w' ⟨v', rfl, ho, hs⟩
        exact ⟨_, rfl, rgGood_mk hst hI (ho.mono (fun b _ h => Nat.le_trans hI.size h)) hs⟩
      refine ⟨fun vs W hI hV => .inl ⟨by clear hI hV hst; go_simp, .inl (by clear hI hV hst; (try simp only [Act.put, hval, hval2, List.setIfInBounds_toArray, List.set_cons_zero, List.set_cons_succ]); go_simp)⟩, ?_⟩
      refine ⟨fun vs W hI hV => .inl ⟨by clear hI hV hst; go_simp, .inl (by clear hI hV hst; (try simp only [Act.put, hval, hval2, List.setIfInBounds_toArray, List.set_cons_zero, List.set_cons_succ]); go_simp)⟩, ?_⟩
      refine ⟨fun vs W hI hV => .inl ⟨by clear hI hV hst; (try simp only [Act.put, hval, hval2, List.setIfInBounds_toArray, List.set_cons_zero, List.set_cons_succ]); go_simp, .inr (.inr ⟨31, #[.string s], by clear hI hV hst; (try simp only [Act.put, hval, hval2, List.setIfInBounds_toArray, List.set_cons_zero, List.set_cons_succ]); go_simp, ?_⟩)⟩, ?_⟩
      · refine (list32_any s W Hss.out).mono ?_
        rintro e w' ⟨v', rfl, ho, hs⟩
        exact ⟨_, rfl, rgGood_mk hst hI (ho.mono (fun b _ h => Nat.le_trans hI.size h)) hs⟩
      refine ⟨fun vs W hI hV => .inl ⟨by clear hI hV hst; (try simp only [Act.put, hval, hval2, List.setIfInBounds_toArray, List.set_cons_zero, List.set_cons_succ]); go_simp, .inr (.inr ⟨23, #[vs 11, vs 14], by clear hI hV hst; (try simp only [Act.put, hval, hval2, List.setIfInBounds_toArray, List.set_cons_zero, List.set_cons_succ]); go_simp, ?_⟩)⟩, ?_⟩
      · have h1 : lnEl.Own (fun c => W5.heap.size ≤ c) W (vs 11) (rowsOf s) := hV 11 _ (by kernel_rfl) rfl
        have h2 : lnEl.Own (fun c => W5.heap.size ≤ c) W (vs 14) (rowsOf s) := hV 14 _ (by kernel_rfl) rfl
        exact all_true _ _ _ _ (rowsOf s) (rowsOf s) W h1.rd.rdl h2.rd.rdl (by rw [Hsl.out]; omega) (rows32_cells _) rfl
      refine ⟨fun vs W hI hV => .inl ⟨by clear hI hV hst; go_simp, .inl (by clear hI hV hst; (try simp only [Act.put, hval, hval2, List.setIfInBounds_toArray, List.set_cons_zero, List.set_cons_succ]); go_simp)⟩, ?_⟩
      refine ⟨fun vs W hI hV => .inl ⟨by clear hI hV hst; go_simp, .inl (by clear hI hV hst; (try simp only [Act.put, hval, hval2, List.setIfInBounds_toArray, List.set_cons_zero, List.set_cons_succ]); go_simp)⟩, ?_⟩
      refine ⟨fun vs W hI hV => .inl ⟨by clear hI hV hst; (try simp only [Act.put, hval, hval2, List.setIfInBounds_toArray, List.set_cons_zero, List.set_cons_succ]); go_simp, .inr (.inr ⟨29, #[], by clear hI hV hst; (try simp only [Act.put, hval, hval2, List.setIfInBounds_toArray, List.set_cons_zero, List.set_cons_succ]); go_simp, known32 W (HT.out.sees (H5.out.see.trans hI))⟩)⟩, ?_⟩
      refine ⟨fun vs W hI hV => .inl ⟨by clear hI hV hst; go_simp, .inl (by clear hI hV hst; (try simp only [Act.put, hval, hval2, List.setIfInBounds_toArray, List.set_cons_zero, List.set_cons_succ]); go_simp)⟩, ?_⟩
      intro vs W6 hI hV
      have S6 := Lib.hid (S0.out.trans (H5.out.see.trans hI))
      clear hI hV hst H5
      (try simp only [Act.put, hval, hval2, List.setIfInBounds_toArray, List.set_cons_zero, List.set_cons_succ])
      go_simp
      refine wpFrom_to 21 hB (fun _ _ _ _ _ h => h) (by kernel_rfl) (by simp only [List.cons_append, List.nil_append, List.drop_succ_cons, List.drop_zero, List.take_succ_cons, List.take_zero, Nat.reduceSub]; rfl) ?_
      go_wp2_with fail
      refine wpFrom_end rfl ?_
      clear hB
      go_wp2
      go_ret
      exact ⟨by simp, S6.out⟩
set_option maxRecDepth 1000000 in
set_option maxHeartbeats 4000000 in
theorem viewShares_out1 (m q r : Nat) (w : World) (ht : Tabs w) (hm : 9 < m) :
    Calls Tryd.prog 5 #[.int .u8 m, .int .u8 q, .int .u8 r] w fun e w' => e = .returned (.bool true) ∧ Sees w w' := by
  have Ht := Lib.hid ht
  clear ht
  have d1 : decide ((m : Int) > 9) = true := decide_eq_true (by omega)
  go_enter Tryd.func5, Tryd.ntmps5
  go_wp2_with fail
  refine (known32 _ Ht.out).mono ?_
  rintro e w5 ⟨rfl, hs5⟩
  go_wp2
  go_ret
  exact ⟨by simp, hs5⟩
set_option maxRecDepth 1000000 in
set_option maxHeartbeats 4000000 in
theorem viewShares_out2 (m q r : Nat) (w : World) (ht : Tabs w) (hm : m ≤ 9) (hr : r < 1) :
    Calls Tryd.prog 5 #[.int .u8 m, .int .u8 q, .int .u8 r] w fun e w' => e = .returned (.bool true) ∧ Sees w w' := by
  have Ht := Lib.hid ht
  clear ht
  have d1 : decide ((m : Int) > 9) = false := decide_eq_false (by omega)
  have d2 : decide ((r : Int) < 1) = true := decide_eq_true (by omega)
  go_enter Tryd.func5, Tryd.ntmps5
  go_wp2_with fail
  refine (known32 _ Ht.out).mono ?_
  rintro e w5 ⟨rfl, hs5⟩
  go_wp2
  go_ret
  exact ⟨by simp, hs5⟩
set_option maxRecDepth 1000000 in
set_option maxHeartbeats 4000000 in
theorem viewShares_out3 (m q r : Nat) (w : World) (ht : Tabs w) (hm : m ≤ 9) (hr1 : 1 ≤ r) (hr : 9 < r) :
    Calls Tryd.prog 5 #[.int .u8 m, .int .u8 q, .int .u8 r] w fun e w' => e = .returned (.bool true) ∧ Sees w w' := by
  have Ht := Lib.hid ht
  clear ht
  have d1 : decide ((m : Int) > 9) = false := decide_eq_false (by omega)
  have d2 : decide ((r : Int) < 1) = false := decide_eq_false (by omega)
  have d3 : decide ((r : Int) > 9) = true := decide_eq_true (by omega)
  go_enter Tryd.func5, Tryd.ntmps5
  go_wp2_with fail
  refine (known32 _ Ht.out).mono ?_
  rintro e w5 ⟨rfl, hs5⟩
  go_wp2
  go_ret
  exact ⟨by simp, hs5⟩
theorem viewShares_any (m q r : Nat) (w : World) (ht : Tabs w) (hq : q ≤ 255) :
    Calls Tryd.prog 5 #[.int .u8 m, .int .u8 q, .int .u8 r] w fun e w' => e = .returned (.bool true) ∧ Sees w w' := by
  by_cases h1 : m ≤ 9
  · by_cases h2 : 1 ≤ r
    · by_cases h3 : r ≤ 9
      · exact viewShares_in m q r w ht h1 hq h2 h3
      · exact viewShares_out3 m q r w ht h1 h2 (by omega)
    · exact viewShares_out2 m q r w ht h1 (by omega)
  · exact viewShares_out1 m q r w ht (by omega)
end Go.Proofs.YtpicffaghoggdaaDoor
