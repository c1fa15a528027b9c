/- The rows of patches, and how many cells they have, held against the statement's own. The tables hold what the program's text lays. -/
import Derived.Test.YtonlmlmjglaoiaaDoorDlU
import Derived.Test.YtonlmlmjglaoiaaDoorDlN
import Derived.IntWalk
namespace Go.Proofs.YtonlmlmjglaoiaaDoor
set_option linter.unusedVariables false
set_option linter.unusedSimpArgs false
open Go.RowKit

set_option maxRecDepth 1000000 in
set_option maxHeartbeats 8000000 in
theorem deltaCounts_any (F : Nat → Prop) (v : Value) (ps : List Pt) (w : World) (ht : Tabs w) (ha : ptEl.Rd F w v ps) :
    Calls Tryd.prog 7 #[v] w fun e w' => e = .returned (.bool true) ∧ Sees w w' := by
  have KN := Lib.hid (fun W (hs : Sees w W) => known45 W (ht.sees hs))
  have hw := Sees.refl w
  obtain ⟨ao, ca, rfl, hvx⟩ := ha.slice'
  clear hvx ht
  have Ha := Lib.hid ha
  obtain ⟨n, hna⟩ : ∃ n, n = ps.length := ⟨_, rfl⟩
  rw [← hna] at Ha
  rw [← hna]
  have Hna := Lib.hid hna
  clear hna ha
  by_cases hn : 30 < n
  · have d1 : decide ((n : Int) > 30) = true := decide_eq_true (by omega)
    go_enter Tryd.func7, Tryd.ntmps7
    go_wp2_with fail
    refine (KN.out _ hw).mono ?_
    rintro e w1 ⟨rfl, t1⟩
    go_wp2
    go_ret
    exact ⟨rfl, t1⟩
  have d1 : decide ((n : Int) > 30) = false := decide_eq_false (by omega)
  go_enter Tryd.func7, Tryd.ntmps7
  go_wp2
  go_loopw [3, 4, 5] (fun s v i W => ∃ (k : Nat) (xs : List Int), k ≤ n ∧ i = .int .i64 k ∧ s = .int .i64 (cellsOf (ps.take k)) ∧ intE.Row w.heap.size (fun _ => True) W v xs ∧ Asc xs ∧ (∀ x, x ∈ xs ↔ x ∈ (ps.take k).map (·.row)) ∧ xs.length ≤ k ∧ (∀ (j : Nat) p, j < k → ps[j]? = some p → p.cells.length ≤ 24) ∧ cellsOf (ps.take k) ≤ k * 24 ∧ Sees w W) (fun _ _ i _ => n - (intOf i).toNat)
  case atStart => exact ⟨0, [], by omega, rfl, rfl, El.Row.nil _ _ _, List.Pairwise.nil, fun x => by simp, by simp, fun j p h _ => by omega, by simp [cellsOf], hw⟩
  case round =>
    obtain ⟨k, xs, hk, rfl, rfl, hrow, hasc, hmem, hxl, hsm, hcs, hS⟩ := hrel
    have Hrow := Lib.hid hrow
    have Hasc := Lib.hid hasc
    have Hmem := Lib.hid hmem
    have Hsm := Lib.hid hsm
    have HS := Lib.hid hS
    clear hasc hmem hsm hS
    by_cases hlt : k < n
    · obtain ⟨b1, o1, p, a1, m1, hao, hu1, hp, hu2, ⟨x0, x1, x2, x4⟩, x3⟩ := (Ha.out.sees HS.out).patch hlt
      clear hu1 hu2 x3 x1 x4
      subst hao
      have Hp := Lib.hid hp
      have HcT := Lib.hid (cellsOf_take hp)
      clear hp
      obtain ⟨r, hr⟩ : ∃ r, r = p.row := ⟨_, rfl⟩
      rw [← hr] at x0
      have Hr := Lib.hid hr
      clear hr
      generalize hn2 : p.cells.length = n2 at *
      have Hn2 := Lib.hid hn2
      clear hn2
      by_cases h24 : 24 < n2
      · have d2 : decide ((n2 : Int) > 24) = true := decide_eq_true (by omega)
        clear hrow
        go_wp2_with fail
        refine (KN.out _ HS.out).mono ?_
        rintro e w1 ⟨rfl, t1⟩
        go_wp2
        go_ret
        exact ⟨rfl, HS.out.trans t1⟩
      have d2 : decide ((n2 : Int) > 24) = false := decide_eq_false (by omega)
      obtain ⟨c, hcc⟩ : ∃ c, c = cellsOf (ps.take k) := ⟨_, rfl⟩
      rw [← hcc] at HcT hcs ⊢
      obtain ⟨c2, hc2⟩ : ∃ c2, c2 = c + n2 := ⟨_, rfl⟩
      have HC2 : Hid (cellsOf (ps.take (k + 1)) = c2) := by unfold Hid; rw [HcT.out, hc2]
      have hcw : IntKind.i64.wrap ((c : Int) + (n2 : Int)) = (c2 : Int) := by rw [show (c : Int) + (n2 : Int) = (c2 : Int) by omega]; exact IntWalk.i64_in _ (by omega)
      have Hc2 := Lib.hid (show c2 ≤ (k + 1) * 24 by omega)
      have HC := Lib.hid hcc
      clear hcc hc2 hcs HcT
      have Hsm2 : Hid (∀ (j : Nat) p, j < k + 1 → ps[j]? = some p → p.cells.length ≤ 24) := fun j q hj hq => by
        by_cases e : j = k
        · subst e
          have := Hp.out
          rw [hq] at this
          cases this
          rw [Hn2.out]; omega
        · exact Hsm.out j q (by omega) hq
      have HmemN : Hid (∀ x, x ∈ (ps.take (k + 1)).map (·.row) ↔ x = r ∨ x ∈ xs) := fun x => by
        rw [List.take_add_one, Hp.out, List.map_append, List.mem_append, Hmem.out, Hr.out]
        simp [or_comm]
      have hxl30 : xs.length ≤ 30 := by omega
      obtain ⟨av, cv, rfl, hcv⟩ := hrow.slice
      have Hsh := Lib.hid (row_shape hrow)
      clear hrow
      obtain ⟨M, hM⟩ : ∃ M, M = xs.length := ⟨_, rfl⟩
      rw [← hM] at Hrow hxl hxl30 hcv Hsh ⊢
      have HM := Lib.hid hM
      clear hM
      have X0 := Lib.hid x0
      go_wp2
      obtain ⟨wo, rfl⟩ : ∃ wo : World, wo = wr := ⟨_, rfl⟩
      clear x0 x2
      go_loopw [6] (fun t W => ∃ k0 : Nat, k0 ≤ M ∧ t = .int .i64 k0 ∧ (∀ (j : Nat) x, j < k0 → xs[j]? = some x → x < r) ∧ Sees wo W) (fun t _ => M - (intOf t).toNat)
      case atStart => exact ⟨0, by omega, rfl, fun j x h _ => by omega, Sees.refl _⟩
      case round =>
        obtain ⟨k0, hk0, rfl, hless, hSo⟩ := hrel
        have Hless := Lib.hid hless
        have HSo := Lib.hid hSo
        have x0 := hSo.cell X0.out
        have g0 := fun d os => (sees_grow wr d os).cell x0
        clear x0 hless hSo
        by_cases hkl : k0 < M
        · obtain ⟨b3, o3, x, hav, hu1, hx, xc⟩ := ((Hrow.out.sees HSo.out).rd (F := fun _ => True) (fun _ _ _ => trivial)).num hkl
          clear hu1
          subst hav
          have g1 := fun d os => (sees_grow wr d os).cell xc
          clear xc
          have Hx := Lib.hid hx
          clear hx
          have hk00 : ¬ ((k0 : Int) < 0) := by omega
          have hk01 : ¬ ((M : Int) ≤ k0) := by omega
          have hk02 : (k0 : Int) < M := by omega
          by_cases hxr : x < r
          · have d3 : decide (x < r) = true := decide_eq_true hxr
            go_wp2
            refine wp_region_quiet_below (by kernel_rfl) (by kernel_rfl) ?_
            repeat (first | go_big_quiet_skip | (go_big_quiet_want; go_big_quiet_op; go_big_quiet_on))
            refine wpQuiet_nil ?_; intro w2 hw2'; have hw2 := regrown_sees hw2'; clear hw2'
            go_wp2
            refine ⟨⟨k0 + 1, by omega, by go_num, fun j y hj hy => ?_, HSo.out.trans hw2⟩, by simp [intOf] <;> omega⟩
            by_cases e : j = k0
            · subst e
              have := Hx.out
              rw [hy] at this
              cases this
              exact hxr
            · exact Hless.out j y (by omega) hy
          · have d3 : decide (x < r) = false := decide_eq_false hxr
            have e1 : ((k0 : Int) == (M : Int)) = false := by rw [beq_eq_false_iff_ne]; omega
            have e1' : (k0 == M) = false := by rw [beq_eq_false_iff_ne]; omega
            go_wp2
            refine wp_region_quiet_below (by kernel_rfl) (by kernel_rfl) ?_
            repeat (first | go_big_quiet_skip | (go_big_quiet_want; go_big_quiet_op; go_big_quiet_on))
            refine wpQuiet_nil ?_; intro w2 hw2'; have hw2 := regrown_sees hw2'; clear hw2'
            have HSo := Lib.hid (HSo.out.trans hw2)
            have x0 := HSo.out.cell X0.out
            have xc := (((Hrow.out.sees HSo.out).rd (F := fun _ => True) (fun _ _ _ => trivial)).num hkl)
            obtain ⟨b3', o3', x', hav, hu1, hx', xc⟩ := xc
            cases hav
            have hxx : x' = x := by have := Hx.out; rw [hx'] at this; exact Option.some.inj this
            rw [hxx] at xc
            clear hu1 hx' hxx g0 g1 hw2
            have g0 := fun d os => (sees_grow w2 d os).cell x0
            have g1 := fun d os => (sees_grow w2 d os).cell xc
            clear x0 xc
            rcases bool_cases (x == r) with er | er
            · have f1 := bne_of er
              go_wp2
              refine wp_region_quiet_below (by kernel_rfl) (by kernel_rfl) ?_
              repeat (first | go_big_quiet_skip | (go_big_quiet_want; go_big_quiet_op; go_big_quiet_on))
              refine wpQuiet_nil ?_; intro w2 hw2'; have hw2 := regrown_sees hw2'; clear hw2'
              go_wp2
              have exr : x = r := by simpa using er
              refine ⟨⟨k + 1, xs, by omega, by go_num, by rw [HC2.out], Hrow.out.sees (HSo.out.trans hw2), Hasc.out, fun y => ?_, by rw [← HM.out]; omega, Hsm2.out, by rw [HC2.out]; exact Hc2.out, HS.out.trans (HSo.out.trans hw2)⟩, by simp [intOf] <;> omega⟩
              rw [HmemN.out]
              constructor
              · exact .inr
              · rintro (h | h)
                · rw [h, ← exr]; exact List.mem_iff_getElem?.2 ⟨_, Hx.out⟩
                · exact h
            · have f1 := bne_of er
              have Hgt : Hid (∀ y, xs[k0]? = some y → r < y) := fun y hy => by
                have := Hx.out
                rw [hy] at this
                cases this
                have : x ≠ r := by simpa using er
                omega
              go_wp2
              refine wp_region_quiet_below (by kernel_rfl) (by kernel_rfl) ?_
              repeat (first | go_big_quiet_skip | (go_big_quiet_want; go_big_quiet_op; go_big_quiet_on))
              refine wpQuiet_nil ?_; intro w2 hw2'; have hw2 := regrown_sees hw2'; clear hw2'
              have HSo := Lib.hid (HSo.out.trans hw2)
              clear hw2 g0 g1
              have HA0 : Hid (((some ⟨b3, o3, none⟩) : Option Addr) = none → M = 0 ∧ cv = 0) := fun e => by
                rcases Hsh.out with ⟨h, _⟩ | ⟨g, c, h, _⟩
                · injection h with h1 h2 h3; exact ⟨h2, h3⟩
                · rw [e] at h; cases h
              have HA1 : Hid (∀ x, ((some ⟨b3, o3, none⟩) : Option Addr) = some x → x.spot = none) := fun x e => by cases e <;> rfl
              obtain ⟨af, hfr, hfd⟩ := ints_from (some ⟨b3, o3, none⟩) M cv k0 (by omega) (by omega) HA0.out HA1.out
              obtain ⟨hto, htd⟩ := ints_to (some ⟨b3, o3, none⟩) M cv k0 (by omega) (by omega) HA0.out HA1.out
              have Hfr := Lib.hid hfr
              have Hfd := Lib.hid hfd
              have Hto := Lib.hid hto
              have Htd := Lib.hid htd
              clear hfr hfd hto htd
              go_wp2
              refine wpFrom_go (by kernel_rfl) (by kernel_rfl) (fun hB w4 hw4 => ?_)
              have HS4 := Lib.hid (HSo.out.trans hw4)
              have HR4 := Lib.hid (Hrow.out.sees HS4.out)
              clear hw4
              have hst : segStay (Sees w4) [.is (.slice (some ⟨b1, o1, none⟩) n ca), .is (.int .i64 k), .is (.pointer (some ⟨b1, o1 + k * 4, none⟩)), .is (.pointer (some ⟨b1, o1 + k * 4, none⟩)), .is (.int .i64 r),
                .so (fun u W => ∃ h, u = .slice (some ⟨h, 0, none⟩) 1 1 ∧ W.heap[h]? = some (.cells #[.int .i64 r] 3 (0, 0)) ∧ w4.heap.size ≤ h),
                .is (.slice (some ⟨b3, o3, none⟩) M cv), .is (.int .i64 k0), .is (.slice af (M - k0) (cv - k0))] := ⟨fun u W W' _ ⟨h, h1, h2, h3⟩ hs => ⟨h, h1, by rw [hs.block _ (Array.getElem?_eq_some_iff.1 h2).1]; exact h2, h3⟩, trivial⟩
              have hval : ∀ x v, (Spec.is x).val v = x := fun _ _ => rfl
              have hval2 : ∀ V v, (Spec.so V).val v = v := fun _ _ => rfl
              refine wpFrom_any 9 _ hB (by kernel_rfl) rfl hst (by simp only [List.cons_append, List.nil_append, List.drop_succ_cons, List.drop_zero, List.take_succ_cons, List.take_zero, Nat.reduceSub]; rfl) ?_
              refine ⟨fun vs W hI hV => .inl ⟨by clear hI hV hst; go_simp, .inl (by clear hI hV hst; (try simp only [Act.put, hval, hval2, List.setIfInBounds_toArray, List.set_cons_zero, List.set_cons_succ]); go_simp)⟩, ?_⟩
              refine ⟨fun vs W hI hV => .inl ⟨by clear hI hV hst; go_simp, .inl (by clear hI hV hst; (try simp only [Act.put, hval, hval2, List.setIfInBounds_toArray, List.set_cons_zero, List.set_cons_succ]); go_simp)⟩, ?_⟩
              refine ⟨fun vs W hI hV => .inl ⟨by clear hI hV hst; go_simp, .inl (by clear hI hV hst; (try simp only [Act.put, hval, hval2, List.setIfInBounds_toArray, List.set_cons_zero, List.set_cons_succ]); go_simp)⟩, ?_⟩
              refine ⟨fun vs W hI hV => .inl ⟨by clear hI hV hst; go_simp, .inl (by clear hI hV hst; (try simp only [Act.put, hval, hval2, List.setIfInBounds_toArray, List.set_cons_zero, List.set_cons_succ]); go_simp)⟩, ?_⟩
              refine ⟨fun vs W hI hV => .inl ⟨by clear hI hV hst; go_simp, .inl (by have q1 := (HS4.out.trans hI).cell X0.out; clear hI hV hst; (try simp only [Act.put, hval, hval2, List.setIfInBounds_toArray, List.set_cons_zero, List.set_cons_succ]); go_simp)⟩, ?_⟩
              refine ⟨fun vs W hI hV => .inl ⟨by clear hI hV hst; (try simp only [Act.put, hval, hval2, List.setIfInBounds_toArray, List.set_cons_zero, List.set_cons_succ]); go_simp, .inl ⟨.slice (some ⟨W.heap.size, 0, none⟩) 1 1, W.alloc (.cells #[.int .i64 r] 3), by clear hI hV hst; (try simp only [Act.put, hval, hval2, List.setIfInBounds_toArray, List.set_cons_zero, List.set_cons_succ]); go_simp, rgGood_mk hst hI ⟨W.heap.size, rfl, heap_alloc_new _ _, hI.size⟩ ((Sees.refl W).alloc _)⟩⟩, ?_⟩
              refine ⟨fun vs W hI hV => .inl ⟨by clear hI hV hst; go_simp, .inl (by clear hI hV hst; (try simp only [Act.put, hval, hval2, List.setIfInBounds_toArray, List.set_cons_zero, List.set_cons_succ]); go_simp)⟩, ?_⟩
              refine ⟨fun vs W hI hV => .inl ⟨by clear hI hV hst; go_simp, .inl (by clear hI hV hst; (try simp only [Act.put, hval, hval2, List.setIfInBounds_toArray, List.set_cons_zero, List.set_cons_succ]); go_simp)⟩, ?_⟩
              refine ⟨fun vs W hI hV => .inl ⟨by clear hI hV hst; (try simp only [Act.put, hval, hval2, List.setIfInBounds_toArray, List.set_cons_zero, List.set_cons_succ]); go_simp, .inl (exec_from' rfl (by clear hI hV hst; (try simp only [Act.put, hval, hval2, List.setIfInBounds_toArray, List.set_cons_zero, List.set_cons_succ]); go_simp) (by clear hI hV hst; (try simp only [Act.put, hval, hval2, List.setIfInBounds_toArray, List.set_cons_zero, List.set_cons_succ]); go_simp) (Hfr.out W))⟩, ?_⟩
              intro vs w6 hI hV
              obtain ⟨h6, hv6, hr6, hz6⟩ : ∃ h, vs 5 = .slice (some ⟨h, 0, none⟩) 1 1 ∧ w6.heap[h]? = some (.cells #[.int .i64 r] 3 (0, 0)) ∧ w4.heap.size ≤ h := hV 5 _ rfl
              have HS6 := Lib.hid (HS4.out.trans hI)
              have HRow6 := Lib.hid (int_row_one (base := w4.heap.size) (G := fun b => b < w4.heap.size) hr6 hz6)
              have HRd6 := Lib.hid (Hfd.out _ _ _ ((HR4.out.rd (F := fun b => b < w4.heap.size) (fun b hb _ => hb)).sees hI))
              have HG6 : Hid (∀ b, b < w4.heap.size → (Value.slice (some ⟨h6, 0, none⟩) 1 1).ownBlock ≠ some b) := fun b hb e => by
                have e : h6 = b := by cases e; rfl
                omega
              have HB6 := Lib.hid hI.size
              have HL6 : Hid ([r].length + (xs.drop k0).length ≤ 100000000) := by unfold Hid; rw [List.length_drop, List.length_cons, List.length_nil]; have := HM.out; omega
              have HZ6 := Lib.hid (show wo.heap.size ≤ h6 by have := HS4.out.size; omega)
              clear hI hV hst hr6 hz6
              (try simp only [Act.put, hval, hval2, List.setIfInBounds_toArray, List.set_cons_zero, List.set_cons_succ])
              go_simp
              clear hv6
              refine wpFrom_to 11 hB (fun _ _ _ _ _ h => h) (by kernel_rfl) (by simp only [List.cons_append, List.nil_append, List.drop_succ_cons, List.drop_zero, List.take_succ_cons, List.take_zero, Nat.reduceSub]; rfl) ?_
              go_wp2_with (at_builtin; refine El.wpList_append_row (base := w4.heap.size) typedInt rfl (.tmp 75) (.tmp 78) rfl (by go_simp) HRow6.out (.slice af (M - k0) (cv - k0)) (by go_simp) (xs.drop k0) HRd6.out HG6.out HL6.out HB6.out ?_; intro v7 w7 hr7 hk7 hob7)
              have hS7 : Sees wo w7 := El.keep_new HS6.out hk7 (fun g' hg' => by cases hg'; exact HZ6.out)
              obtain ⟨a8, c8, hv8, hx8⟩ := hr7.slice
              obtain ⟨m8, hm8⟩ : ∃ m8, m8 = ([r] ++ xs.drop k0).length := ⟨_, rfl⟩
              rw [← hm8] at hv8
              subst hv8
              have HS7 := Lib.hid hS7
              have HT7 := Lib.hid (hr7.rd (F := fun b => b < w7.heap.size) (fun b hb _ => hb))
              have HW7 := Lib.hid ((Hrow.out.sees hS7).rd (F := fun b => b < w7.heap.size) (fun b hb _ => hb))
              have Hm8 := Lib.hid hm8
              clear hr7 hk7 hob7 hS7 hx8 hm8
              have hck : ¬ cv < k0 := by omega
              have HL7 : Hid (([] : List Int).length + (xs.take k0).length ≤ 100000000) := by unfold Hid; rw [List.length_take, List.length_nil]; omega
              have HD7 := Lib.hid (Htd.out _ _ _ HW7.out)
              refine wpFrom_end rfl ?_
              clear hB
              go_wp2_with (at_builtin; first | (refine El.wpList_append_row (base := w7.heap.size) typedInt rfl (.const (.slice none 0 0)) (.tmp 82) rfl (by go_simp) (El.Row.nil w7.heap.size (fun b => b < w7.heap.size) w7) (.slice (some ⟨b3, o3, none⟩) k0 cv) (by go_simp) (xs.take k0) HD7.out (fun b _ e => by cases e) HL7.out (Nat.le_refl _) ?_; intro v9 w9 hr9 hk9 hob9; have hS9 : Sees w7 w9 := hk9.sees_end (fun b hb e => by cases e); obtain ⟨a9, c9, hv9, hx9⟩ := hr9.slice; obtain ⟨m9, hm9⟩ : ∃ m9, m9 = (([] : List Int) ++ xs.take k0).length := ⟨_, rfl⟩; rw [← hm9] at hv9; subst hv9; have HR9 := Lib.hid hr9; have HT9 := Lib.hid (HT7.out.sees hS9); have HS9 := Lib.hid hS9; have HG9 : Hid (∀ b, b < w7.heap.size → (Value.slice a9 m9 c9).ownBlock ≠ some b) := (fun b hb e => by have := (hr9.base_le e).1; omega); have HL9 : Hid ((([] : List Int) ++ xs.take k0).length + ([r] ++ xs.drop k0).length ≤ 100000000) := (by unfold Hid; simp only [List.length_append, List.length_cons, List.length_nil, List.length_take, List.length_drop]; have := HM.out; omega); have HB9 := Lib.hid hS9.size; clear hr9 hk9 hob9 hS9 hx9 hm9) | (refine El.wpList_append_row (base := w7.heap.size) typedInt rfl (.tmp 83) (.tmp 84) rfl (by go_simp) HR9.out (.slice a8 m8 c8) (by go_simp) ([r] ++ xs.drop k0) HT9.out HG9.out HL9.out HB9.out ?_; intro v10 w10 hr10 hk10 hob10))
              have hS10 : Sees w7 w10 := El.keep_new HS9.out hk10 (fun g' hg' => (HR9.out.base_le hg').1)
              have hwo : w.heap.size ≤ w7.heap.size := by have := HS.out.size; have := HS7.out.size; omega
              refine ⟨⟨k + 1, xs.take k0 ++ r :: xs.drop k0, by omega, by go_num, by rw [HC2.out], ?_, ?_, ?_, ?_, Hsm2.out, by rw [HC2.out]; exact Hc2.out, HS.out.trans (HS7.out.trans hS10)⟩, by simp [intOf] <;> omega⟩
              · have := hr10.mono (F := fun _ => True) (fun _ _ _ => trivial) hwo
                simpa using this
              · exact asc_ins Hasc.out (by have := HM.out; omega) Hless.out Hgt.out
              · intro y
                rw [mem_ins, HmemN.out]
              · rw [List.length_append, List.length_cons, List.length_take, List.length_drop]; have := HM.out; omega
        · have hkM : k0 = M := by omega
          subst hkM
          have Hgt : Hid (∀ y, xs[k0]? = some y → r < y) := fun y hy => by
            have := (List.getElem?_eq_some_iff.1 hy).1
            have := HM.out
            omega
          have e1 : ((k0 : Int) == (k0 : Int)) = true := by simp
          have e1' : (k0 == k0) = true := by simp
          have d3 : decide ((k0 : Int) < k0) = false := decide_eq_false (by omega)
          have d3' : decide (k0 < k0) = false := decide_eq_false (by omega)
          clear hkl
          go_wp2
          refine wp_region_quiet_below (by kernel_rfl) (by kernel_rfl) ?_
          repeat (first | go_big_quiet_skip | (go_big_quiet_want; go_big_quiet_op; go_big_quiet_on))
          refine wpQuiet_nil ?_; intro w2 hw2'; have hw2 := regrown_sees hw2'; clear hw2'
          have HSo := Lib.hid (HSo.out.trans hw2)
          clear hw2 g0
          go_wp2
          refine wp_region_quiet_below (by kernel_rfl) (by kernel_rfl) ?_
          repeat (first | go_big_quiet_skip | (go_big_quiet_want; go_big_quiet_op; go_big_quiet_on))
          refine wpQuiet_nil ?_; intro w2 hw2'; have hw2 := regrown_sees hw2'; clear hw2'
          have HSo := Lib.hid (HSo.out.trans hw2)
          clear hw2
          cases av with
          | none =>
            have HA0 : Hid ((none : Option Addr) = none → k0 = 0 ∧ cv = 0) := fun e => by
              rcases Hsh.out with ⟨h, _⟩ | ⟨g, c, h, _⟩
              · injection h with h1 h2 h3; exact ⟨h2, h3⟩
              · rw [e] at h; cases h
            have HA1 : Hid (∀ x, (none : Option Addr) = some x → x.spot = none) := fun x e => by cases e <;> rfl
            obtain ⟨af, hfr, hfd⟩ := ints_from none k0 cv k0 (by omega) (by omega) HA0.out HA1.out
            obtain ⟨hto, htd⟩ := ints_to none k0 cv k0 (by omega) (by omega) HA0.out HA1.out
            have Hfr := Lib.hid hfr
            have Hfd := Lib.hid hfd
            have Hto := Lib.hid hto
            have Htd := Lib.hid htd
            clear hfr hfd hto htd
            go_wp2
            refine wpFrom_go (by kernel_rfl) (by kernel_rfl) (fun hB w4 hw4 => ?_)
            have HS4 := Lib.hid (HSo.out.trans hw4)
            have HR4 := Lib.hid (Hrow.out.sees HS4.out)
            clear hw4
            have hst : segStay (Sees w4) [.is (.slice (some ⟨b1, o1, none⟩) n ca), .is (.int .i64 k), .is (.pointer (some ⟨b1, o1 + k * 4, none⟩)), .is (.pointer (some ⟨b1, o1 + k * 4, none⟩)), .is (.int .i64 r),
              .so (fun u W => ∃ h, u = .slice (some ⟨h, 0, none⟩) 1 1 ∧ W.heap[h]? = some (.cells #[.int .i64 r] 3 (0, 0)) ∧ w4.heap.size ≤ h),
              .is (.slice none k0 cv), .is (.int .i64 k0), .is (.slice af (k0 - k0) (cv - k0))] := ⟨fun u W W' _ ⟨h, h1, h2, h3⟩ hs => ⟨h, h1, by rw [hs.block _ (Array.getElem?_eq_some_iff.1 h2).1]; exact h2, h3⟩, trivial⟩
            have hval : ∀ x v, (Spec.is x).val v = x := fun _ _ => rfl
            have hval2 : ∀ V v, (Spec.so V).val v = v := fun _ _ => rfl
            refine wpFrom_any 9 _ hB (by kernel_rfl) rfl hst (by simp only [List.cons_append, List.nil_append, List.drop_succ_cons, List.drop_zero, List.take_succ_cons, List.take_zero, Nat.reduceSub]; rfl) ?_
            refine ⟨fun vs W hI hV => .inl ⟨by clear hI hV hst; go_simp, .inl (by clear hI hV hst; (try simp only [Act.put, hval, hval2, List.setIfInBounds_toArray, List.set_cons_zero, List.set_cons_succ]); go_simp)⟩, ?_⟩
            refine ⟨fun vs W hI hV => .inl ⟨by clear hI hV hst; go_simp, .inl (by clear hI hV hst; (try simp only [Act.put, hval, hval2, List.setIfInBounds_toArray, List.set_cons_zero, List.set_cons_succ]); go_simp)⟩, ?_⟩
            refine ⟨fun vs W hI hV => .inl ⟨by clear hI hV hst; go_simp, .inl (by clear hI hV hst; (try simp only [Act.put, hval, hval2, List.setIfInBounds_toArray, List.set_cons_zero, List.set_cons_succ]); go_simp)⟩, ?_⟩
            refine ⟨fun vs W hI hV => .inl ⟨by clear hI hV hst; go_simp, .inl (by clear hI hV hst; (try simp only [Act.put, hval, hval2, List.setIfInBounds_toArray, List.set_cons_zero, List.set_cons_succ]); go_simp)⟩, ?_⟩
            refine ⟨fun vs W hI hV => .inl ⟨by clear hI hV hst; go_simp, .inl (by have q1 := (HS4.out.trans hI).cell X0.out; clear hI hV hst; (try simp only [Act.put, hval, hval2, List.setIfInBounds_toArray, List.set_cons_zero, List.set_cons_succ]); go_simp)⟩, ?_⟩
            refine ⟨fun vs W hI hV => .inl ⟨by clear hI hV hst; (try simp only [Act.put, hval, hval2, List.setIfInBounds_toArray, List.set_cons_zero, List.set_cons_succ]); go_simp, .inl ⟨.slice (some ⟨W.heap.size, 0, none⟩) 1 1, W.alloc (.cells #[.int .i64 r] 3), by clear hI hV hst; (try simp only [Act.put, hval, hval2, List.setIfInBounds_toArray, List.set_cons_zero, List.set_cons_succ]); go_simp, rgGood_mk hst hI ⟨W.heap.size, rfl, heap_alloc_new _ _, hI.size⟩ ((Sees.refl W).alloc _)⟩⟩, ?_⟩
            refine ⟨fun vs W hI hV => .inl ⟨by clear hI hV hst; go_simp, .inl (by clear hI hV hst; (try simp only [Act.put, hval, hval2, List.setIfInBounds_toArray, List.set_cons_zero, List.set_cons_succ]); go_simp)⟩, ?_⟩
            refine ⟨fun vs W hI hV => .inl ⟨by clear hI hV hst; go_simp, .inl (by clear hI hV hst; (try simp only [Act.put, hval, hval2, List.setIfInBounds_toArray, List.set_cons_zero, List.set_cons_succ]); go_simp)⟩, ?_⟩
            refine ⟨fun vs W hI hV => .inl ⟨by clear hI hV hst; (try simp only [Act.put, hval, hval2, List.setIfInBounds_toArray, List.set_cons_zero, List.set_cons_succ]); go_simp, .inl (exec_from' rfl (by clear hI hV hst; (try simp only [Act.put, hval, hval2, List.setIfInBounds_toArray, List.set_cons_zero, List.set_cons_succ]); go_simp) (by clear hI hV hst; (try simp only [Act.put, hval, hval2, List.setIfInBounds_toArray, List.set_cons_zero, List.set_cons_succ]); go_simp) (Hfr.out W))⟩, ?_⟩
            intro vs w6 hI hV
            obtain ⟨h6, hv6, hr6, hz6⟩ : ∃ h, vs 5 = .slice (some ⟨h, 0, none⟩) 1 1 ∧ w6.heap[h]? = some (.cells #[.int .i64 r] 3 (0, 0)) ∧ w4.heap.size ≤ h := hV 5 _ rfl
            have HS6 := Lib.hid (HS4.out.trans hI)
            have HRow6 := Lib.hid (int_row_one (base := w4.heap.size) (G := fun b => b < w4.heap.size) hr6 hz6)
            have HRd6 := Lib.hid (Hfd.out _ _ _ ((HR4.out.rd (F := fun b => b < w4.heap.size) (fun b hb _ => hb)).sees hI))
            have HG6 : Hid (∀ b, b < w4.heap.size → (Value.slice (some ⟨h6, 0, none⟩) 1 1).ownBlock ≠ some b) := fun b hb e => by
              have e : h6 = b := by cases e; rfl
              omega
            have HB6 := Lib.hid hI.size
            have HL6 : Hid ([r].length + (xs.drop k0).length ≤ 100000000) := by unfold Hid; rw [List.length_drop, List.length_cons, List.length_nil]; have := HM.out; omega
            have HZ6 := Lib.hid (show wo.heap.size ≤ h6 by have := HS4.out.size; omega)
            clear hI hV hst hr6 hz6
            (try simp only [Act.put, hval, hval2, List.setIfInBounds_toArray, List.set_cons_zero, List.set_cons_succ])
            go_simp
            clear hv6
            refine wpFrom_to 11 hB (fun _ _ _ _ _ h => h) (by kernel_rfl) (by simp only [List.cons_append, List.nil_append, List.drop_succ_cons, List.drop_zero, List.take_succ_cons, List.take_zero, Nat.reduceSub]; rfl) ?_
            go_wp2_with (at_builtin; refine El.wpList_append_row (base := w4.heap.size) typedInt rfl (.tmp 75) (.tmp 78) rfl (by go_simp) HRow6.out (.slice af (k0 - k0) (cv - k0)) (by go_simp) (xs.drop k0) HRd6.out HG6.out HL6.out HB6.out ?_; intro v7 w7 hr7 hk7 hob7)
            have hS7 : Sees wo w7 := El.keep_new HS6.out hk7 (fun g' hg' => by cases hg'; exact HZ6.out)
            obtain ⟨a8, c8, hv8, hx8⟩ := hr7.slice
            obtain ⟨m8, hm8⟩ : ∃ m8, m8 = ([r] ++ xs.drop k0).length := ⟨_, rfl⟩
            rw [← hm8] at hv8
            subst hv8
            have HS7 := Lib.hid hS7
            have HT7 := Lib.hid (hr7.rd (F := fun b => b < w7.heap.size) (fun b hb _ => hb))
            have HW7 := Lib.hid ((Hrow.out.sees hS7).rd (F := fun b => b < w7.heap.size) (fun b hb _ => hb))
            have Hm8 := Lib.hid hm8
            clear hr7 hk7 hob7 hS7 hx8 hm8
            have hck : ¬ cv < k0 := by omega
            have HL7 : Hid (([] : List Int).length + (xs.take k0).length ≤ 100000000) := by unfold Hid; rw [List.length_take, List.length_nil]; omega
            have HD7 := Lib.hid (Htd.out _ _ _ HW7.out)
            refine wpFrom_end rfl ?_
            clear hB
            go_wp2_with (at_builtin; first | (refine El.wpList_append_row (base := w7.heap.size) typedInt rfl (.const (.slice none 0 0)) (.tmp 82) rfl (by go_simp) (El.Row.nil w7.heap.size (fun b => b < w7.heap.size) w7) (.slice none k0 cv) (by go_simp) (xs.take k0) HD7.out (fun b _ e => by cases e) HL7.out (Nat.le_refl _) ?_; intro v9 w9 hr9 hk9 hob9; have hS9 : Sees w7 w9 := hk9.sees_end (fun b hb e => by cases e); obtain ⟨a9, c9, hv9, hx9⟩ := hr9.slice; obtain ⟨m9, hm9⟩ : ∃ m9, m9 = (([] : List Int) ++ xs.take k0).length := ⟨_, rfl⟩; rw [← hm9] at hv9; subst hv9; have HR9 := Lib.hid hr9; have HT9 := Lib.hid (HT7.out.sees hS9); have HS9 := Lib.hid hS9; have HG9 : Hid (∀ b, b < w7.heap.size → (Value.slice a9 m9 c9).ownBlock ≠ some b) := (fun b hb e => by have := (hr9.base_le e).1; omega); have HL9 : Hid ((([] : List Int) ++ xs.take k0).length + ([r] ++ xs.drop k0).length ≤ 100000000) := (by unfold Hid; simp only [List.length_append, List.length_cons, List.length_nil, List.length_take, List.length_drop]; have := HM.out; omega); have HB9 := Lib.hid hS9.size; clear hr9 hk9 hob9 hS9 hx9 hm9) | (refine El.wpList_append_row (base := w7.heap.size) typedInt rfl (.tmp 83) (.tmp 84) rfl (by go_simp) HR9.out (.slice a8 m8 c8) (by go_simp) ([r] ++ xs.drop k0) HT9.out HG9.out HL9.out HB9.out ?_; intro v10 w10 hr10 hk10 hob10))
            have hS10 : Sees w7 w10 := El.keep_new HS9.out hk10 (fun g' hg' => (HR9.out.base_le hg').1)
            have hwo : w.heap.size ≤ w7.heap.size := by have := HS.out.size; have := HS7.out.size; omega
            refine ⟨⟨k + 1, xs.take k0 ++ r :: xs.drop k0, by omega, by go_num, by rw [HC2.out], ?_, ?_, ?_, ?_, Hsm2.out, by rw [HC2.out]; exact Hc2.out, HS.out.trans (HS7.out.trans hS10)⟩, by simp [intOf] <;> omega⟩
            · have := hr10.mono (F := fun _ => True) (fun _ _ _ => trivial) hwo
              simpa using this
            · exact asc_ins Hasc.out (by have := HM.out; omega) Hless.out Hgt.out
            · intro y
              rw [mem_ins, HmemN.out]
            · rw [List.length_append, List.length_cons, List.length_take, List.length_drop]; have := HM.out; omega
          | some ad =>
            obtain ⟨b3, o3, sp⟩ := ad
            have hsp : sp = none := by
              rcases Hsh.out with ⟨h, _⟩ | ⟨g, c, h, _⟩
              · cases h
              · cases h; rfl
            subst hsp
            have HA0 : Hid (((some ⟨b3, o3, none⟩) : Option Addr) = none → k0 = 0 ∧ cv = 0) := fun e => by
              rcases Hsh.out with ⟨h, _⟩ | ⟨g, c, h, _⟩
              · injection h with h1 h2 h3; exact ⟨h2, h3⟩
              · rw [e] at h; cases h
            have HA1 : Hid (∀ x, ((some ⟨b3, o3, none⟩) : Option Addr) = some x → x.spot = none) := fun x e => by cases e <;> rfl
            obtain ⟨af, hfr, hfd⟩ := ints_from (some ⟨b3, o3, none⟩) k0 cv k0 (by omega) (by omega) HA0.out HA1.out
            obtain ⟨hto, htd⟩ := ints_to (some ⟨b3, o3, none⟩) k0 cv k0 (by omega) (by omega) HA0.out HA1.out
            have Hfr := Lib.hid hfr
            have Hfd := Lib.hid hfd
            have Hto := Lib.hid hto
            have Htd := Lib.hid htd
            clear hfr hfd hto htd
            go_wp2
            refine wpFrom_go (by kernel_rfl) (by kernel_rfl) (fun hB w4 hw4 => ?_)
            have HS4 := Lib.hid (HSo.out.trans hw4)
            have HR4 := Lib.hid (Hrow.out.sees HS4.out)
            clear hw4
            have hst : segStay (Sees w4) [.is (.slice (some ⟨b1, o1, none⟩) n ca), .is (.int .i64 k), .is (.pointer (some ⟨b1, o1 + k * 4, none⟩)), .is (.pointer (some ⟨b1, o1 + k * 4, none⟩)), .is (.int .i64 r),
              .so (fun u W => ∃ h, u = .slice (some ⟨h, 0, none⟩) 1 1 ∧ W.heap[h]? = some (.cells #[.int .i64 r] 3 (0, 0)) ∧ w4.heap.size ≤ h),
              .is (.slice (some ⟨b3, o3, none⟩) k0 cv), .is (.int .i64 k0), .is (.slice af (k0 - k0) (cv - k0))] := ⟨fun u W W' _ ⟨h, h1, h2, h3⟩ hs => ⟨h, h1, by rw [hs.block _ (Array.getElem?_eq_some_iff.1 h2).1]; exact h2, h3⟩, trivial⟩
            have hval : ∀ x v, (Spec.is x).val v = x := fun _ _ => rfl
            have hval2 : ∀ V v, (Spec.so V).val v = v := fun _ _ => rfl
            refine wpFrom_any 9 _ hB (by kernel_rfl) rfl hst (by simp only [List.cons_append, List.nil_append, List.drop_succ_cons, List.drop_zero, List.take_succ_cons, List.take_zero, Nat.reduceSub]; rfl) ?_
            refine ⟨fun vs W hI hV => .inl ⟨by clear hI hV hst; go_simp, .inl (by clear hI hV hst; (try simp only [Act.put, hval, hval2, List.setIfInBounds_toArray, List.set_cons_zero, List.set_cons_succ]); go_simp)⟩, ?_⟩
            refine ⟨fun vs W hI hV => .inl ⟨by clear hI hV hst; go_simp, .inl (by clear hI hV hst; (try simp only [Act.put, hval, hval2, List.setIfInBounds_toArray, List.set_cons_zero, List.set_cons_succ]); go_simp)⟩, ?_⟩
            refine ⟨fun vs W hI hV => .inl ⟨by clear hI hV hst; go_simp, .inl (by clear hI hV hst; (try simp only [Act.put, hval, hval2, List.setIfInBounds_toArray, List.set_cons_zero, List.set_cons_succ]); go_simp)⟩, ?_⟩
            refine ⟨fun vs W hI hV => .inl ⟨by clear hI hV hst; go_simp, .inl (by clear hI hV hst; (try simp only [Act.put, hval, hval2, List.setIfInBounds_toArray, List.set_cons_zero, List.set_cons_succ]); go_simp)⟩, ?_⟩
            refine ⟨fun vs W hI hV => .inl ⟨by clear hI hV hst; go_simp, .inl (by have q1 := (HS4.out.trans hI).cell X0.out; clear hI hV hst; (try simp only [Act.put, hval, hval2, List.setIfInBounds_toArray, List.set_cons_zero, List.set_cons_succ]); go_simp)⟩, ?_⟩
            refine ⟨fun vs W hI hV => .inl ⟨by clear hI hV hst; (try simp only [Act.put, hval, hval2, List.setIfInBounds_toArray, List.set_cons_zero, List.set_cons_succ]); go_simp, .inl ⟨.slice (some ⟨W.heap.size, 0, none⟩) 1 1, W.alloc (.cells #[.int .i64 r] 3), by clear hI hV hst; (try simp only [Act.put, hval, hval2, List.setIfInBounds_toArray, List.set_cons_zero, List.set_cons_succ]); go_simp, rgGood_mk hst hI ⟨W.heap.size, rfl, heap_alloc_new _ _, hI.size⟩ ((Sees.refl W).alloc _)⟩⟩, ?_⟩
            refine ⟨fun vs W hI hV => .inl ⟨by clear hI hV hst; go_simp, .inl (by clear hI hV hst; (try simp only [Act.put, hval, hval2, List.setIfInBounds_toArray, List.set_cons_zero, List.set_cons_succ]); go_simp)⟩, ?_⟩
            refine ⟨fun vs W hI hV => .inl ⟨by clear hI hV hst; go_simp, .inl (by clear hI hV hst; (try simp only [Act.put, hval, hval2, List.setIfInBounds_toArray, List.set_cons_zero, List.set_cons_succ]); go_simp)⟩, ?_⟩
            refine ⟨fun vs W hI hV => .inl ⟨by clear hI hV hst; (try simp only [Act.put, hval, hval2, List.setIfInBounds_toArray, List.set_cons_zero, List.set_cons_succ]); go_simp, .inl (exec_from' rfl (by clear hI hV hst; (try simp only [Act.put, hval, hval2, List.setIfInBounds_toArray, List.set_cons_zero, List.set_cons_succ]); go_simp) (by clear hI hV hst; (try simp only [Act.put, hval, hval2, List.setIfInBounds_toArray, List.set_cons_zero, List.set_cons_succ]); go_simp) (Hfr.out W))⟩, ?_⟩
            intro vs w6 hI hV
            obtain ⟨h6, hv6, hr6, hz6⟩ : ∃ h, vs 5 = .slice (some ⟨h, 0, none⟩) 1 1 ∧ w6.heap[h]? = some (.cells #[.int .i64 r] 3 (0, 0)) ∧ w4.heap.size ≤ h := hV 5 _ rfl
            have HS6 := Lib.hid (HS4.out.trans hI)
            have HRow6 := Lib.hid (int_row_one (base := w4.heap.size) (G := fun b => b < w4.heap.size) hr6 hz6)
            have HRd6 := Lib.hid (Hfd.out _ _ _ ((HR4.out.rd (F := fun b => b < w4.heap.size) (fun b hb _ => hb)).sees hI))
            have HG6 : Hid (∀ b, b < w4.heap.size → (Value.slice (some ⟨h6, 0, none⟩) 1 1).ownBlock ≠ some b) := fun b hb e => by
              have e : h6 = b := by cases e; rfl
              omega
            have HB6 := Lib.hid hI.size
            have HL6 : Hid ([r].length + (xs.drop k0).length ≤ 100000000) := by unfold Hid; rw [List.length_drop, List.length_cons, List.length_nil]; have := HM.out; omega
            have HZ6 := Lib.hid (show wo.heap.size ≤ h6 by have := HS4.out.size; omega)
            clear hI hV hst hr6 hz6
            (try simp only [Act.put, hval, hval2, List.setIfInBounds_toArray, List.set_cons_zero, List.set_cons_succ])
            go_simp
            clear hv6
            refine wpFrom_to 11 hB (fun _ _ _ _ _ h => h) (by kernel_rfl) (by simp only [List.cons_append, List.nil_append, List.drop_succ_cons, List.drop_zero, List.take_succ_cons, List.take_zero, Nat.reduceSub]; rfl) ?_
            go_wp2_with (at_builtin; refine El.wpList_append_row (base := w4.heap.size) typedInt rfl (.tmp 75) (.tmp 78) rfl (by go_simp) HRow6.out (.slice af (k0 - k0) (cv - k0)) (by go_simp) (xs.drop k0) HRd6.out HG6.out HL6.out HB6.out ?_; intro v7 w7 hr7 hk7 hob7)
            have hS7 : Sees wo w7 := El.keep_new HS6.out hk7 (fun g' hg' => by cases hg'; exact HZ6.out)
            obtain ⟨a8, c8, hv8, hx8⟩ := hr7.slice
            obtain ⟨m8, hm8⟩ : ∃ m8, m8 = ([r] ++ xs.drop k0).length := ⟨_, rfl⟩
            rw [← hm8] at hv8
            subst hv8
            have HS7 := Lib.hid hS7
            have HT7 := Lib.hid (hr7.rd (F := fun b => b < w7.heap.size) (fun b hb _ => hb))
            have HW7 := Lib.hid ((Hrow.out.sees hS7).rd (F := fun b => b < w7.heap.size) (fun b hb _ => hb))
            have Hm8 := Lib.hid hm8
            clear hr7 hk7 hob7 hS7 hx8 hm8
            have hck : ¬ cv < k0 := by omega
            have HL7 : Hid (([] : List Int).length + (xs.take k0).length ≤ 100000000) := by unfold Hid; rw [List.length_take, List.length_nil]; omega
            have HD7 := Lib.hid (Htd.out _ _ _ HW7.out)
            refine wpFrom_end rfl ?_
            clear hB
            go_wp2_with (at_builtin; first | (refine El.wpList_append_row (base := w7.heap.size) typedInt rfl (.const (.slice none 0 0)) (.tmp 82) rfl (by go_simp) (El.Row.nil w7.heap.size (fun b => b < w7.heap.size) w7) (.slice (some ⟨b3, o3, none⟩) k0 cv) (by go_simp) (xs.take k0) HD7.out (fun b _ e => by cases e) HL7.out (Nat.le_refl _) ?_; intro v9 w9 hr9 hk9 hob9; have hS9 : Sees w7 w9 := hk9.sees_end (fun b hb e => by cases e); obtain ⟨a9, c9, hv9, hx9⟩ := hr9.slice; obtain ⟨m9, hm9⟩ : ∃ m9, m9 = (([] : List Int) ++ xs.take k0).length := ⟨_, rfl⟩; rw [← hm9] at hv9; subst hv9; have HR9 := Lib.hid hr9; have HT9 := Lib.hid (HT7.out.sees hS9); have HS9 := Lib.hid hS9; have HG9 : Hid (∀ b, b < w7.heap.size → (Value.slice a9 m9 c9).ownBlock ≠ some b) := (fun b hb e => by have := (hr9.base_le e).1; omega); have HL9 : Hid ((([] : List Int) ++ xs.take k0).length + ([r] ++ xs.drop k0).length ≤ 100000000) := (by unfold Hid; simp only [List.length_append, List.length_cons, List.length_nil, List.length_take, List.length_drop]; have := HM.out; omega); have HB9 := Lib.hid hS9.size; clear hr9 hk9 hob9 hS9 hx9 hm9) | (refine El.wpList_append_row (base := w7.heap.size) typedInt rfl (.tmp 83) (.tmp 84) rfl (by go_simp) HR9.out (.slice a8 m8 c8) (by go_simp) ([r] ++ xs.drop k0) HT9.out HG9.out HL9.out HB9.out ?_; intro v10 w10 hr10 hk10 hob10))
            have hS10 : Sees w7 w10 := El.keep_new HS9.out hk10 (fun g' hg' => (HR9.out.base_le hg').1)
            have hwo : w.heap.size ≤ w7.heap.size := by have := HS.out.size; have := HS7.out.size; omega
            refine ⟨⟨k + 1, xs.take k0 ++ r :: xs.drop k0, by omega, by go_num, by rw [HC2.out], ?_, ?_, ?_, ?_, Hsm2.out, by rw [HC2.out]; exact Hc2.out, HS.out.trans (HS7.out.trans hS10)⟩, by simp [intOf] <;> omega⟩
            · have := hr10.mono (F := fun _ => True) (fun _ _ _ => trivial) hwo
              simpa using this
            · exact asc_ins Hasc.out (by have := HM.out; omega) Hless.out Hgt.out
            · intro y
              rw [mem_ins, HmemN.out]
            · rw [List.length_append, List.length_cons, List.length_take, List.length_drop]; have := HM.out; omega
    · obtain rfl : k = n := by omega
      obtain ⟨av, cv, hv, hcv⟩ := hrow.slice
      subst hv
      clear hrow hcs hcv
      have htk : ps.take k = ps := List.take_of_length_le (by rw [← Hna.out]; exact Nat.le_refl _)
      have Htk := Lib.hid htk
      rw [htk]
      clear htk
      obtain ⟨c, hc⟩ : ∃ c, c = cellsOf ps := ⟨_, rfl⟩
      rw [← hc]
      have HC := Lib.hid hc
      clear hc
      have Hall : Hid (∀ p ∈ ps, p.cells.length ≤ 24) := fun p hp => by
        obtain ⟨j, hj⟩ := List.mem_iff_getElem?.1 hp
        exact Hsm.out j p (by rw [Hna.out]; exact (List.getElem?_eq_some_iff.1 hj).1) hj
      go_wp2_with fail
      refine (rows45_any _ _ ps wr (Ha.out.sees HS.out) (by rw [← Hna.out]; omega)).mono ?_
      rintro e w1 ⟨v1, ys, rfl, hrd, hay, hmy, hyl, t1⟩
      have hyx : ys = xs := asc_eq hay Hasc.out (fun x => by rw [hmy x, Hmem.out x, Htk.out])
      subst hyx
      obtain ⟨a5, c5, rfl, hx5⟩ := hrd.slice'
      obtain ⟨M, hM⟩ : ∃ M, M = ys.length := ⟨_, rfl⟩
      rw [← hM] at hrd Hrow
      rw [← hM]
      have HM := Lib.hid hM
      have HR1 := Lib.hid hrd
      have HW1 := Lib.hid ((Hrow.out.sees t1).rd (F := fun _ => True) (fun _ _ _ => trivial))
      have T1 := Lib.hid (HS.out.trans t1)
      have hMb : M ≤ 1000000 := by rw [hM]; exact hyl
      have KC := cellsN_any _ _ ps w1 (Ha.out.sees T1.out) (by rw [← Hna.out]; omega) (fun l hl => by have := Hall.out l hl; omega)
      rw [← HC.out] at KC
      have HKC := Lib.hid KC
      clear hay hmy hyl t1 hx5 hM hrd KC
      go_wp2_with fail
      refine HKC.out.mono ?_
      rintro e w2 ⟨rfl, t2⟩
      have HR2 := Lib.hid (HR1.out.sees t2)
      have HW2 := Lib.hid (HW1.out.sees t2)
      have T2 := Lib.hid (T1.out.trans t2)
      clear t2 HR1 HW1 HKC
      go_wp2
      go_loopw [9] (fun i W => ∃ i0 : Nat, i0 ≤ M ∧ i = .int .i64 i0 ∧ Sees w2 W) (fun i _ => M - (intOf i).toNat)
      case atStart => exact ⟨0, by omega, rfl, Sees.refl _⟩
      case round =>
        obtain ⟨i0, hi0, rfl, hS2⟩ := hrel
        have HS2 := Lib.hid hS2
        by_cases hil : i0 < M
        · obtain ⟨b5, o5, x, ha5, hu1, hx, xc⟩ := (HR2.out.sees hS2).num hil
          obtain ⟨b6, o6, x', ha6, hu2, hx', xd⟩ := (HW2.out.sees hS2).num hil
          have hxx : x' = x := by rw [hx] at hx'; exact (Option.some.inj hx').symm
          rw [hxx] at xd
          subst ha5
          subst ha6
          clear hu1 hu2 hx hx' hxx hS2
          have g1 := fun d os => (sees_grow wr d os).cell xc
          have g2 := fun d os => (sees_grow wr d os).cell xd
          have f1 : (x != x) = false := by simp
          have hi00 : ¬ ((i0 : Int) < 0) := by omega
          have hi01 : ¬ ((M : Int) ≤ i0) := by omega
          clear xc xd
          go_wp2
          refine wp_region_quiet_below (by kernel_rfl) (by kernel_rfl) ?_
          repeat (first | go_big_quiet_skip | (go_big_quiet_want; go_big_quiet_op; go_big_quiet_on))
          refine wpQuiet_nil ?_; intro w2 hw2'; have hw2 := regrown_sees hw2'; clear hw2'
          go_wp2
          refine ⟨⟨i0 + 1, by omega, by go_num, HS2.out.trans hw2⟩, by simp [intOf] <;> omega⟩
        · obtain rfl : i0 = M := by omega
          go_wp2_with fail
          refine (KN.out _ (T2.out.trans hS2)).mono ?_
          rintro e w3 ⟨rfl, t3⟩
          go_wp2
          go_ret
          exact ⟨rfl, (T2.out.trans HS2.out).trans t3⟩
end Go.Proofs.YtonlmlmjglaoiaaDoor
