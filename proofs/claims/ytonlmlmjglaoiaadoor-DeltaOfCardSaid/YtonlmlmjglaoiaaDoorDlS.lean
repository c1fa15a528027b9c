/- Lines that share no memory. No condition. -/
import Derived.Test.YtonlmlmjglaoiaaDoorDlR
import Derived.Test.YtonlmlmjglaoiaaDoorElO
namespace Go.Proofs.YtonlmlmjglaoiaaDoor
set_option linter.unusedVariables false
set_option linter.unusedSimpArgs false
open Go.RowKit

set_option maxRecDepth 100000 in
set_option maxHeartbeats 4000000 in
theorem copied45_any (F : Nat → Prop) (v : Value) (xs : List Ln) (w : World) (ha : lnEl.Rd F w v xs) (hn : xs.length ≤ 100000) (hnc : ∀ l ∈ xs, l.cells.length ≤ 1000000) :
    Calls Tryd.prog 13 #[v] w fun e w' => ∃ v', e = .returned v' ∧ lnEl.Own (fun b => w.heap.size ≤ b) w' v' xs ∧ Sees w w' := by
  have hw := Sees.refl w
  have Hnc := Lib.hid hnc
  obtain ⟨ao, ca, rfl, _⟩ := ha.slice'
  have Ha := Lib.hid ha
  obtain ⟨n, hna⟩ : ∃ n, n = xs.length := ⟨_, rfl⟩
  rw [← hna] at hn Ha
  rw [← hna]
  have Hna := Lib.hid hna
  clear hna ha hnc
  have hval : ∀ x v, (Spec.is x).val v = x := fun _ _ => rfl
  have hval2 : ∀ V v, (Spec.so V).val v = v := fun _ _ => rfl
  go_enter Tryd.func13, Tryd.ntmps13
  go_wp2
  go_loopw [3, 4] (fun v i W => ∃ k : Nat, k ≤ n ∧ i = .int .i64 k ∧ lnEl.Own (fun b => w.heap.size ≤ b) W v (xs.take k) ∧ Sees w W) (fun _ i _ => n - (intOf i).toNat)
  case atStart => exact ⟨0, by omega, rfl, El.Own.nil _ _, hw⟩
  case round =>
    obtain ⟨k, hk, rfl, ho, hS⟩ := hrel
    obtain ⟨a3, c3, hv3, _⟩ := ho.slice
    subst hv3
    have Ho := Lib.hid ho
    have HS := Lib.hid hS
    clear ho hS
    by_cases hlt : k < n
    · obtain ⟨b1, o1, x, a1, m1, rfl, _, hx, _, x1, x2, x3⟩ := Ha.out.line hlt
      have Hx := Lib.hid hx
      have X1 := Lib.hid x1
      have X2 := Lib.hid x2
      have X3 := Lib.hid x3
      have Hxl := Lib.hid (Hnc.out x (List.mem_iff_getElem?.2 ⟨_, hx⟩))
      clear hx x1 x2 x3
      generalize hl1 : x.cells.length = n1 at *
      have Hn1 := Lib.hid hl1
      clear hl1
      generalize hM : (xs.take k).length = M at *
      have HM : Hid (M ≤ 100000) := by unfold Hid; rw [← hM, List.length_take]; omega
      have HMl := Lib.hid hM
      clear hM
      go_wp2
      refine wpFrom_go (by kernel_rfl) (by kernel_rfl) (fun hB w5 hw5 => ?_)
      have Ho5 := Lib.hid (Ho.out.sees hw5).cut
      have HS5 := Lib.hid (HS.out.trans hw5)
      clear hw5 HS Ho
      have hst : segStay (Sees w5) [.is (.slice a3 M c3), .is (.slice (some ⟨b1, o1, none⟩) n ca), .is (.int .i64 k), .is (.pointer (some ⟨b1, o1 + k * 2, none⟩)), .is (.pointer (some ⟨b1, o1 + k * 2, none⟩)), .is (.slice a1 n1 m1),
          .so (fun v W => OwnCells W w5.heap.size v x.cells), .is (.slice (some ⟨b1, o1, none⟩) n ca), .is (.int .i64 k), .is (.pointer (some ⟨b1, o1 + k * 2, none⟩)), .is (.pointer (some ⟨b1, o1 + k * 2 + 1, none⟩)), .is (.bool x.soft),
          .so (fun x' W => ∃ v', x' = .agg #[v', .bool x.soft] ∧ OwnCells W w5.heap.size v' x.cells),
          .so (fun x' W => ∃ b v', x' = .slice (some ⟨b, 0, none⟩) 1 1 ∧ W.heap[b]? = some (.cells #[v', .bool x.soft] 27 (0, 0)) ∧ OwnCells W w5.heap.size v' x.cells)] :=
        ⟨fun u W W' _ h hs => h.sees hs, fun u W W' _ ⟨v', h1, h2⟩ hs => ⟨v', h1, h2.sees hs⟩, fun u W W' _ ⟨b, v', h1, h2, h3⟩ hs => ⟨b, v', h1, by rw [hs.block _ (Array.getElem?_eq_some_iff.1 h2).1]; exact h2, h3.sees hs⟩, trivial⟩
      refine wpFrom_any 14 _ hB (by kernel_rfl) rfl hst (by simp only [List.cons_append, List.nil_append, List.drop_succ_cons, List.drop_zero, List.take_succ_cons, List.take_zero, Nat.reduceSub]; rfl) ?_
      refine ⟨fun vs W hI hV => .inl ⟨by clear hI hV hst; go_simp, .inl (by clear hI hV hst; (try simp only [Act.put, hval, hval2, List.setIfInBounds_toArray, List.set_cons_zero, List.set_cons_succ]); go_simp)⟩, ?_⟩
      refine ⟨fun vs W hI hV => .inl ⟨by clear hI hV hst; go_simp, .inl (by clear hI hV hst; (try simp only [Act.put, hval, hval2, List.setIfInBounds_toArray, List.set_cons_zero, List.set_cons_succ]); go_simp)⟩, ?_⟩
      refine ⟨fun vs W hI hV => .inl ⟨by clear hI hV hst; go_simp, .inl (by clear hI hV hst; (try simp only [Act.put, hval, hval2, List.setIfInBounds_toArray, List.set_cons_zero, List.set_cons_succ]); go_simp)⟩, ?_⟩
      refine ⟨fun vs W hI hV => .inl ⟨by clear hI hV hst; go_simp, .inl (by clear hI hV hst; (try simp only [Act.put, hval, hval2, List.setIfInBounds_toArray, List.set_cons_zero, List.set_cons_succ]); go_simp)⟩, ?_⟩
      refine ⟨fun vs W hI hV => .inl ⟨by clear hI hV hst; go_simp, .inl (by clear hI hV hst; (try simp only [Act.put, hval, hval2, List.setIfInBounds_toArray, List.set_cons_zero, List.set_cons_succ]); go_simp)⟩, ?_⟩
      refine ⟨fun vs W hI hV => .inl ⟨by clear hI hV hst; go_simp, .inl (by have q1 := (HS5.out.trans hI).cell X1.out; clear hI hV hst; (try simp only [Act.put, hval, hval2, List.setIfInBounds_toArray, List.set_cons_zero, List.set_cons_succ]); go_simp)⟩, ?_⟩
      refine ⟨fun vs W hI hV => ?_, ?_⟩
      · obtain ⟨v', W', h1, h2, h3⟩ := run_append_new 25 w5.heap.size (.slice a1 n1 m1) x.cells ((X3.out.sees (HS5.out.trans hI)).rdCells) (by rw [Hn1.out]; have := Hxl.out; omega) hI.size
        exact .inl ⟨by clear hI hV hst h1 h2 h3; go_simp, .inl ⟨v', W', exec_append rfl (by clear hI hV hst h1 h2 h3; (try simp only [Act.put, hval, hval2, List.setIfInBounds_toArray, List.set_cons_zero, List.set_cons_succ]); go_simp) (by clear hI hV hst h1 h2 h3; (try simp only [Act.put, hval, hval2, List.setIfInBounds_toArray, List.set_cons_zero, List.set_cons_succ]); go_simp) h1, rgGood_mk hst hI h2 h3⟩⟩
      refine ⟨fun vs W hI hV => .inl ⟨by clear hI hV hst; go_simp, .inl (by clear hI hV hst; (try simp only [Act.put, hval, hval2, List.setIfInBounds_toArray, List.set_cons_zero, List.set_cons_succ]); go_simp)⟩, ?_⟩
      refine ⟨fun vs W hI hV => .inl ⟨by clear hI hV hst; go_simp, .inl (by clear hI hV hst; (try simp only [Act.put, hval, hval2, List.setIfInBounds_toArray, List.set_cons_zero, List.set_cons_succ]); go_simp)⟩, ?_⟩
      refine ⟨fun vs W hI hV => .inl ⟨by clear hI hV hst; go_simp, .inl (by clear hI hV hst; (try simp only [Act.put, hval, hval2, List.setIfInBounds_toArray, List.set_cons_zero, List.set_cons_succ]); go_simp)⟩, ?_⟩
      refine ⟨fun vs W hI hV => .inl ⟨by clear hI hV hst; go_simp, .inl (by clear hI hV hst; (try simp only [Act.put, hval, hval2, List.setIfInBounds_toArray, List.set_cons_zero, List.set_cons_succ]); go_simp)⟩, ?_⟩
      refine ⟨fun vs W hI hV => .inl ⟨by clear hI hV hst; go_simp, .inl (by have q1 := (HS5.out.trans hI).cell X2.out; clear hI hV hst; (try simp only [Act.put, hval, hval2, List.setIfInBounds_toArray, List.set_cons_zero, List.set_cons_succ]); go_simp)⟩, ?_⟩
      refine ⟨fun vs W hI hV => ?_, ?_⟩
      · have h2 : OwnCells W w5.heap.size (vs 6) x.cells := hV 6 _ (by kernel_rfl) rfl
        obtain ⟨a', c', e⟩ := h2.slice
        exact .inl ⟨by clear hI hV hst h2; go_simp, .inl ⟨.agg #[.slice a' x.cells.length c', .bool x.soft], W, by clear hI hV hst h2; (try simp only [Act.put, hval, hval2, List.setIfInBounds_toArray, List.set_cons_zero, List.set_cons_succ]); go_simp, rgGood_mk hst hI ⟨_, rfl, e ▸ h2⟩ (Sees.refl W)⟩⟩
      refine ⟨fun vs W hI hV => ?_, ?_⟩
      · obtain ⟨v', e, h2⟩ : ∃ v', vs 12 = .agg #[v', .bool x.soft] ∧ OwnCells W w5.heap.size v' x.cells := hV 12 _ (by kernel_rfl) rfl
        obtain ⟨a', c', rfl⟩ := h2.slice
        have hs : Sees W (W.alloc (.cells #[.slice a' x.cells.length c', .bool x.soft] 27)) := (Sees.refl W).alloc _
        exact .inl ⟨by clear hI hV hst h2 hs; go_simp, .inl ⟨.slice (some ⟨W.heap.size, 0, none⟩) 1 1, W.alloc (.cells #[.slice a' x.cells.length c', .bool x.soft] 27), by clear hI hV hst h2 hs; (try simp only [Act.put, hval, hval2, List.setIfInBounds_toArray, List.set_cons_zero, List.set_cons_succ]); go_simp, rgGood_mk hst hI ⟨_, _, rfl, heap_alloc_new _ _, h2.sees hs⟩ hs⟩⟩
      intro vs w6 hI hV
      obtain ⟨b6, v6, hv6, hr6, ho6⟩ : ∃ b v', vs 13 = .slice (some ⟨b, 0, none⟩) 1 1 ∧ w6.heap[b]? = some (.cells #[v', .bool x.soft] 27 (0, 0)) ∧ OwnCells w6 w5.heap.size v' x.cells := hV 13 _ rfl
      have Hr6 := Lib.hid hr6
      have Hown6 := Lib.hid ho6.el
      have Ho6b := Lib.hid (fun g' (hg' : v6.ownBlock = some g') => El.rowLt ho6 hg')
      have Ho6 := Lib.hid (Ho5.out.sees hI)
      have HS6 := Lib.hid (HS5.out.trans hI)
      have Hz6 := Lib.hid hI.size
      have Hz5 := Lib.hid HS5.out.size
      clear hI hV hst hr6 ho6 Ho5 HS5
      have HcF : Hid (∀ b, (w.heap.size ≤ b ∧ b < w5.heap.size) → b < w6.heap.size) := fun b hb => by have := Hz6.out; omega
      have HcN : Hid (∀ b, (v6.ownBlock = some b ∧ w5.heap.size ≤ b) → b < w6.heap.size ∧ ¬ (w.heap.size ≤ b ∧ b < w5.heap.size)) := fun b hb => ⟨(Ho6b.out b hb.1).2, fun h => by have := h.2; omega⟩
      have HcL : Hid ((xs.take k).length + [x].length ≤ 100000000) := by unfold Hid; rw [HMl.out, List.length_cons, List.length_nil]; have := HM.out; omega
      (try simp only [Act.put, hval, hval2, List.setIfInBounds_toArray, List.set_cons_zero, List.set_cons_succ])
      go_simp
      clear hv6
      refine wpFrom_to 16 hB (fun _ _ _ _ _ h => h) (by kernel_rfl) (by simp only [List.cons_append, List.nil_append, List.drop_succ_cons, List.drop_zero, List.take_succ_cons, List.take_zero, Nat.reduceSub]; rfl) ?_
      go_wp2_with (at_builtin; refine El.wpList_append_own (v := .slice a3 M c3) typedLn rfl (.tmp 11) (.tmp 24) rfl (by go_simp) Ho6.out ⟨b6, 0, none⟩ 1 1 (by go_simp) [v6, .bool x.soft] [x] _ (El.ownIn_one (E := lnEl) ⟨_, rfl, Hown6.out⟩) rfl (fun j u hu => El.row_cells Hr6.out j u hu) HcF.out HcN.out HcL.out ?_; intro v7 w7 ho7 hk7)
      refine wpFrom_end rfl ?_; go_wp2
      have HS7 : Sees w w7 := El.keep_new HS6.out hk7 (fun g' hg' => (Ho6.out.base hg').1.1)
      refine ⟨⟨k + 1, by omega, by go_num, ?_, HS7⟩, by simp [intOf] <;> omega⟩
      rw [List.take_add_one, Hx.out]
      exact ho7.mono (fun b _ h => by
        have := HS6.out.size
        have := Hz5.out
        rcases h with h | h | h
        · exact h.1
        · omega
        · omega)
    · obtain rfl : k = n := by omega
      have e : Hid (xs.take k = xs) := List.take_of_length_le (by rw [← Hna.out]; exact Nat.le_refl _)
      go_wp2
      go_ret
      exact ⟨.slice a3 (xs.take k).length c3, rfl, by have h := Ho.out; rw [e.out] at h ⊢; exact h, HS.out⟩
end Go.Proofs.YtonlmlmjglaoiaaDoor
