/- MarkupLines (48): the runs and the markup of any line. The library's variables hold what the program's text lays. -/
import Derived.Test.YthcndmchlpohpaaGreatDoorMlX
namespace Go.Proofs.YthcndmchlpohpaaGreatDoor
set_option linter.unusedVariables false
set_option linter.unusedSimpArgs false
open Go.RowKit Go.Shelf
attribute [local go_sem] Oper.semAt_some

theorem RnAt.c3 {w : World} {b o : Nat} {r : Rn} (h : RnAt w b o r) : w.cell? ⟨b, o, none⟩ = some (.int .i64 (r.col : Int)) ∧ w.cell? ⟨b, o + 1, none⟩ = some (.int .i64 (r.wid : Int)) ∧ w.cell? ⟨b, o + 2, none⟩ = some (.string (strL r.txt)) := ⟨h 0 _ rfl, h 1 _ rfl, h 2 _ rfl⟩
theorem run_storeI {W : World} {b k : Nat} {x y : Int} (hc : W.cell? ⟨b, k, none⟩ = some (.int .i64 x)) (hf : W.frozen? ⟨b, k, none⟩ = false) : (Instr.storeAt 3 (.pointer (some ⟨b, k, none⟩)) (.int .i64 y)).run Tryz.prog W = .ok () (W.setCell ⟨b, k, none⟩ (.int .i64 y)) := by go_simp
theorem run_storeS {W : World} {b k : Nat} {x y : ByteArray} (hc : W.cell? ⟨b, k, none⟩ = some (.string x)) (hf : W.frozen? ⟨b, k, none⟩ = false) : (Instr.storeAt 9 (.pointer (some ⟨b, k, none⟩)) (.string y)).run Tryz.prog W = .ok () (W.setCell ⟨b, k, none⟩ (.string y)) := by go_simp
theorem run_loadI {W : World} {b k : Nat} {x : Int} (hc : W.cell? ⟨b, k, none⟩ = some (.int .i64 x)) : (Instr.loadAt 3 (.pointer (some ⟨b, k, none⟩))).run Tryz.prog W = .ok (.int .i64 x) W := by go_simp
theorem run_loadS {W : World} {b k : Nat} {x : ByteArray} (hc : W.cell? ⟨b, k, none⟩ = some (.string x)) : (Instr.loadAt 9 (.pointer (some ⟨b, k, none⟩))).run Tryz.prog W = .ok (.string x) W := by go_simp
theorem exec_alloc_ln {ρ : Operand → Value} {o : Oper} {W : World} (ho : o.op = .alloc 27) : (execOp ρ o).run Tryz.prog W = .ok (.value (.pointer (some ⟨W.heap.size, 0, none⟩))) (W.alloc (.cells #[.slice none 0 0, .bool false] 27)) := by
  unfold execOp
  rw [ho]
  go_simp
def lenAt (W : World) (b : Nat) : Nat := match W.cell? ⟨b, 0, none⟩ with | some (.slice _ n _) => n | _ => 0
theorem lenAt_of {W : World} {b : Nat} {a : Option Addr} {n c : Nat} (h : W.cell? ⟨b, 0, none⟩ = some (.slice a n c)) : lenAt W b = n := by unfold lenAt; rw [h]
theorem want_small {cs : List Cell} {k : Nat} : ∀ r ∈ wantF [] 0 (cs.take k), r.wid ≤ cs.length ∧ r.txt.length ≤ cs.length * 16 := by
  have key : ∀ (ds : List Cell) (acc : List Rn) (i W : Nat), (∀ r ∈ acc, r.wid ≤ W ∧ r.txt.length ≤ W * 16) → ∀ r ∈ wantF acc i ds, r.wid ≤ W + ds.length ∧ r.txt.length ≤ (W + ds.length) * 16 := by
    intro ds
    induction ds with
    | nil => intro acc i W h r hr; exact h r hr
    | cons d ds ih =>
      intro acc i W h r hr
      have ht := d.txt_len
      have := ih (stepR acc i d) (i + 1) (W + 1) (fun x hx => by
        have hnew : x ∈ acc ++ [(⟨i, 1, d.txt, d⟩ : Rn)] → x.wid ≤ W + 1 ∧ x.txt.length ≤ (W + 1) * 16 := fun hx => by
          rcases List.mem_append.1 hx with hx | hx
          · have := h x hx; omega
          · obtain rfl := List.mem_singleton.1 hx
            exact ⟨by show 1 ≤ _; omega, by show d.txt.length ≤ _; omega⟩
        unfold stepR at hx
        cases hl : acc.getLast? with
        | none => rw [hl] at hx; exact hnew hx
        | some r0 =>
          rw [hl] at hx
          simp only at hx
          split at hx
          · rcases List.mem_or_eq_of_mem_set hx with hx | rfl
            · have := h x hx; omega
            · have := h r0 (List.mem_of_getLast? hl)
              refine ⟨by show r0.wid + 1 ≤ _; omega, ?_⟩
              show (r0.txt ++ d.txt).length ≤ _
              rw [List.length_append]; omega
          · exact hnew hx) r hr
      rw [List.length_cons]
      rw [show W + (ds.length + 1) = W + 1 + ds.length by omega]
      exact this
  intro r hr
  have h := key (cs.take k) [] 0 0 (by simp) r hr
  have hl : (cs.take k).length ≤ cs.length := by rw [List.length_take]; omega
  omega
set_option maxHeartbeats 8000000 in
set_option maxRecDepth 100000 in
theorem markupLines_true (v : Value) (cs : List Cell) (so : Bool) (F : Nat → Prop) (more : Int) (w : World) (hw : Sd w) (h : cellEl.Rd F w v cs) (hbd : ∀ c ∈ cs, c.Bd) :
    Calls Tryz.prog 7 #[.agg #[v, .bool so], .int .i64 more] w fun e w' => e = .returned (.bool true) ∧ Sees w w' := by
  have KN : Hid (∀ W, Sees w W → Calls Tryz.prog 8 #[] W fun e w' => e = .returned (.bool true) ∧ Sees W w') := fun W hs => known48_any W (hw.sees hs)
  obtain ⟨a, cp, rfl, hcp⟩ := h.slice'
  obtain ⟨n, hnn⟩ : ∃ n, n = cs.length := ⟨_, rfl⟩
  rw [← hnn] at h hcp ⊢
  have L0 : Hid (LnAt (w.alloc (.cells #[.slice a n cp, .bool so] 27)) w.heap.size (.slice a n cp) so) := LnAt.new rfl
  have S0 : Hid (Sees w (w.alloc (.cells #[.slice a n cp, .bool so] 27))) := (Sees.refl w).alloc _
  obtain ⟨W1, hW1⟩ : ∃ W1, W1 = w.alloc (.cells #[.slice a n cp, .bool so] 27) := ⟨_, rfl⟩
  rw [← hW1] at L0 S0
  have HW1 := Lib.hid hW1
  have HW := Lib.hid hw
  have H := Lib.hid h
  have HN := Lib.hid hnn
  have HB := Lib.hid hbd
  clear hW1 hw h hnn hbd
  obtain ⟨l0, l1⟩ := L0.out.c
  by_cases h40 : 40 < n
  · have g1 : (n : Int) > 40 := by omega
    go_enter Tryz.func7, Tryz.ntmps7
    go_upto_region 1 with fail
    rw [← HW1.out]
    go_wp2_with fail
    refine (KN.out _ S0.out).mono ?_
    rintro e Wk ⟨rfl, sk⟩
    have Sk := Lib.hid (S0.out.trans sk)
    go_wp2
    go_ret
    exact ⟨rfl, Sk.out⟩
  · have g1 : ¬ (n : Int) > 40 := by omega
    have KV : Hid (∀ W, Sees w W → Calls Tryz.prog 11 #[.agg #[.slice a n cp, .bool so]] W fun e w' => e = .returned (.bool (lnOk cs)) ∧ Sees W w') := fun W hs => lineValid_any _ cs so W (HW.out.sees hs).t ((H.out.sees hs).rdc.rd) (by rw [← HN.out]; omega)
    obtain ⟨ok, hok⟩ : ∃ ok, ok = lnOk cs := ⟨_, rfl⟩
    rw [← hok] at KV
    have HOK := Lib.hid hok
    clear hok
    cases ok with
    | false =>
      have KR : Hid (∀ W, Sees w W → Calls Tryz.prog 20 #[.agg #[.slice a n cp, .bool so], .slice none 0 0, .int .i64 2] W fun e w' => e = .returned (.bool true) ∧ Sees W w') := fun W hs => by
        have h := runs48_any _ (fun _ => True) (.slice a n cp) (.slice none 0 0) ⟨cs, so⟩ [] 2 W (HW.out.sees hs).t (H.out.sees hs) (by show cs.length ≤ _; rw [← HN.out]; omega) (El.Rd.nil _ _) (by simp)
        simp only [← HOK.out, Bool.false_eq_true, if_false] at h
        exact h.mono fun e W' ⟨he, s⟩ => ⟨he.trans (by simp), s⟩
      have KM : Hid (∀ W, Sees w W → Calls Tryz.prog 21 #[.agg #[.slice a n cp, .bool so], .string ⟨#[]⟩, .int .i64 2] W fun e w' => e = .returned (.bool true) ∧ Sees W w') := fun W hs => by
        have h := marks_true (.slice a n cp) cs so _ W (HW.out.sees hs) (H.out.sees hs) (by rw [← HN.out]; omega) HB.out
        simp only [← HOK.out, Bool.false_eq_true, if_false] at h
        exact h
      have KP : Hid (∀ W, Sees w W → Calls Tryz.prog 12 #[.slice (some ⟨W.heap.size, 0, none⟩) 1 1, .string ⟨#[]⟩, .int .i64 2] (W.alloc (.cells #[.slice a n cp, .bool so] 27)) fun e w' => e = .returned (.bool true) ∧ Sees W w') := fun W hs => by
        have hs2 : Sees W (W.alloc (.cells #[.slice a n cp, .bool so] 27)) := (Sees.refl W).alloc _
        have h := pages_any (.slice (some ⟨W.heap.size, 0, none⟩) 1 1) [⟨cs, so⟩] [] 2 _ _ (HW.out.sees (hs.trans hs2)) (one_line (H.out.sees hs)) (by simp) (fun x hx => by obtain rfl := List.mem_singleton.1 hx; show cs.length ≤ _; rw [← HN.out]; omega) (fun x hx => by obtain rfl := List.mem_singleton.1 hx; exact HB.out)
        have hbad : pageOk [⟨cs, so⟩] = false := by unfold pageOk; rw [List.all_cons, ← HOK.out]; rfl
        rw [hbad] at h
        exact h.mono fun e W' ⟨he, s⟩ => ⟨he.trans (by simp), hs2.trans s⟩
      go_enter Tryz.func7, Tryz.ntmps7
      go_upto_region 1 with fail
      rw [← HW1.out]
      go_wp2_with (guard_target = wpList _ _ _ ({ dst := some 18, op := _, type := _, pos := _, after := _, guard := _ } :: _) _ _; refine wpList_val rfl (exec_load (v := .agg #[.slice a n cp, .bool so]) rfl rfl (run_loadLn L0.out)) (fun K hK => ?_); go_simp; refine hK _ _ ?_; clear hK K)
      refine (KV.out _ S0.out).mono ?_
      rintro e W2 ⟨rfl, s2⟩
      have L2 := Lib.hid (L0.out.sees s2)
      have S2 := Lib.hid (S0.out.trans s2)
      clear s2 KV l0 l1 L0 S0
      go_wp2_with (guard_target = wpList _ _ _ ({ dst := some 21, op := _, type := _, pos := _, after := _, guard := _ } :: _) _ _; refine wpList_val rfl (exec_load (v := .agg #[.slice a n cp, .bool so]) rfl rfl (run_loadLn L2.out)) (fun K hK => ?_); go_simp; refine hK _ _ ?_; clear hK K)
      refine (KR.out _ S2.out).mono ?_
      rintro e W3 ⟨rfl, s3⟩
      have L3 := Lib.hid (L2.out.sees s3)
      have S3 := Lib.hid (S2.out.trans s3)
      clear s3 KR L2 S2
      go_wp2_with (guard_target = wpList _ _ _ ({ dst := some 24, op := _, type := _, pos := _, after := _, guard := _ } :: _) _ _; refine wpList_valG (by go_simp) (exec_load (v := .agg #[.slice a n cp, .bool so]) rfl rfl (run_loadLn L3.out)) (fun K hK => ?_); go_simp; refine hK _ _ ?_; clear hK K)
      refine (KM.out _ S3.out).mono ?_
      rintro e W4 ⟨rfl, s4⟩
      have L4 := Lib.hid (L3.out.sees s4)
      have S4 := Lib.hid (S3.out.trans s4)
      clear s4 KM L3 S3
      go_wp2_with (guard_target = wpList _ _ _ ({ dst := some 28, op := _, type := _, pos := _, after := _, guard := _ } :: _) _ _; refine wpList_valG (by go_simp) (exec_load (v := .agg #[.slice a n cp, .bool so]) rfl rfl (run_loadLn L4.out)) (fun K hK => ?_); go_simp; refine hK _ _ ?_; clear hK K)
      refine (KP.out _ S4.out).mono ?_
      rintro e W5 ⟨rfl, s5⟩
      have S5 := Lib.hid (S4.out.trans s5)
      clear s5 KP L4 S4
      go_wp2_with fail
      refine (KN.out _ S5.out).mono ?_
      rintro e Wk ⟨rfl, sk⟩
      have Sk := Lib.hid (S5.out.trans sk)
      go_wp2
      go_ret
      exact ⟨rfl, Sk.out⟩
    | true =>
      have KU : Hid (∀ W, Sees w W → Calls Tryz.prog 22 #[.agg #[.slice a n cp, .bool so]] W fun e w' => e = .returned (.int .i64 (usedN cs)) ∧ Sees W w') := fun W hs => used_any (.slice a n cp) ⟨cs, so⟩ _ W (H.out.sees hs) (by show cs.length ≤ _; rw [← HN.out]; omega)
      obtain ⟨U, hU⟩ : ∃ U, U = usedN cs := ⟨_, rfl⟩
      rw [← hU] at KU
      have hUn : U ≤ n := by rw [hU, HN.out]; exact usedN_le _
      have HUU := Lib.hid hU
      clear hU
      go_enter Tryz.func7, Tryz.ntmps7
      go_upto_region 1 with fail
      rw [← HW1.out]
      go_wp2_with (guard_target = wpList _ _ _ ({ dst := some 18, op := _, type := _, pos := _, after := _, guard := _ } :: _) _ _; refine wpList_val rfl (exec_load (v := .agg #[.slice a n cp, .bool so]) rfl rfl (run_loadLn L0.out)) (fun K hK => ?_); go_simp; refine hK _ _ ?_; clear hK K)
      refine (KV.out _ S0.out).mono ?_
      rintro e W2 ⟨rfl, s2⟩
      have L2 := Lib.hid (L0.out.sees s2)
      have S2 := Lib.hid (S0.out.trans s2)
      clear s2 KV l0 l1 L0 S0
      go_wp2_with (guard_target = wpList _ _ _ ({ dst := some 35, op := _, type := _, pos := _, after := _, guard := _ } :: _) _ _; refine wpList_val rfl (exec_load (v := .agg #[.slice a n cp, .bool so]) rfl rfl (run_loadLn L2.out)) (fun K hK => ?_); go_simp; refine hK _ _ ?_; clear hK K)
      refine (KU.out _ S2.out).mono ?_
      rintro e wl ⟨rfl, s3⟩
      have L3 := Lib.hid (L2.out.sees s3)
      have S3 := Lib.hid (S2.out.trans s3)
      clear s3 KU L2 S2
      go_wp2
      go_loopw [5, 7] (fun u i W => ∃ k : Nat, k ≤ U ∧ i = .int .i64 k ∧ rnEl.Own (fun b => wl.heap.size ≤ b) W u (wantF [] 0 (cs.take k)) ∧ Sees wl W) (fun _ i _ => U - (intOf i).toNat)
      case atStart => exact ⟨0, Nat.zero_le _, rfl, El.Own.nil _ _, Sees.refl _⟩
      case round =>
        obtain ⟨i, hi, rfl, hO, hS⟩ := hrel
        by_cases hlt : i < U
        · obtain ⟨au, cu, hu, _⟩ := hO.slice
          obtain ⟨q, hq⟩ : ∃ q, q = (wantF [] 0 (cs.take i)).length := ⟨_, rfl⟩
          rw [← hq] at hu
          subst hu
          have HQL := Lib.hid hq
          have hq40 : q ≤ 40 := by
            have h1 := wantF_len (cs.take i) [] 0
            rw [List.length_take, List.length_nil] at h1
            omega
          obtain ⟨b, o, c, rfl, _, hc, hat0⟩ := H.out.cell (show i < n by omega)
          have hat := hat0.sees (S3.out.trans hS)
          have EW := Lib.hid (want_step hc)
          have KC : Hid (∀ W, Calls Tryz.prog 23 #[c.val] W fun e w' => e = .returned (.string (strL c.txt)) ∧ Sees W w') := fun W => ctext_any c W
          have hzc : (strL c.txt).size ≤ 16 := by rw [strL_size]; exact c.txt_len
          have HSM := Lib.hid (want_small (cs := cs) (k := i))
          have L4 := Lib.hid (L3.out.sees hS)
          obtain ⟨l0, l1⟩ := L4.out.c
          have SW := Lib.hid hS
          have OW0 := Lib.hid hO
          clear hq hc hat0 hS hO
          go_upto_region 11 with (first
            | (guard_target = wpList _ _ _ ({ dst := some 46, op := _, type := _, pos := _, after := _, guard := _ } :: _) _ _; refine wpList_val rfl (exec_load (v := c.val) rfl rfl (run_loadCell hat)) (fun K hK => ?_); go_simp; refine hK _ _ ?_; clear hK K)
            | (guard_target = wpList _ _ _ ({ dst := _, op := Op.store 42 _ _, type := _, pos := _, after := _, guard := _ } :: _) _ _; refine wpList_skip rfl (exec_store (v := c.val) rfl rfl rfl (run_storeNew c _ rfl _ rfl)) (fun K hK => ?_); go_simp; refine hK _ _ ?_; clear hK K))
          refine wp_world fun W3 hW3 => ?_
          have C3 : CellAt W3 wr.heap.size 0 c := by subst hW3; exact cellAt_new _ c _
          have s3 : Sees wr W3 := by subst hW3; exact (Sees.refl _).alloc _
          obtain ⟨bc, hbc⟩ : ∃ bc, bc = wr.heap.size := ⟨_, rfl⟩
          rw [← hbc] at C3 ⊢
          have CVb : Hid (wr.heap.size ≤ bc) := by rw [hbc]; exact Nat.le_refl _
          have S4 := Lib.hid (SW.out.trans s3)
          have OW4 := Lib.hid (OW0.out.sees s3)
          have HC4 := Lib.hid C3
          clear hW3 hat C3 l0 l1 hbc SW L4
          rcases Nat.eq_zero_or_pos q with hq0 | hq0
          · subst hq0
            have hnil : wantF [] 0 (cs.take i) = [] := List.eq_nil_of_length_eq_zero HQL.out.symm
            have HNW : Hid (wantF [] 0 (cs.take (i + 1)) = wantF [] 0 (cs.take i) ++ [⟨i, 1, c.txt, c⟩]) := by unfold RowKit.Hid; rw [EW.out, stepR_new _ _ _ (fun r hr => by rw [hnil] at hr; cases hr)]
            clear hnil
            go_upto_region 12 with fail
            refine wp_region_quiet_below (by kernel_rfl) (by kernel_rfl) ?_
            repeat (first | go_big_quiet_skip | (go_big_quiet_want; go_big_quiet_op; go_big_quiet_on))
            refine wpQuiet_nil ?_; intro w2 hw2'; have hw2 := regrown_sees hw2'; clear hw2'
            have S5 := Lib.hid (S4.out.trans hw2)
            have OW5 := Lib.hid (OW4.out.sees hw2)
            have HC5 := Lib.hid (HC4.out.sees hw2)
            clear hw2 S4 OW4 HC4
            go_upto_region 14 with fail
            refine wpH_go (fun x => (Value.slice au 0 cu).ownBlock = some x) 10 (by kernel_rfl) (by kernel_rfl) (by rfl) (fun hB v0 hs9 => ?_)
            have hS0 : Keeps (fun x => (Value.slice au 0 cu).ownBlock = some x) v0 v0 := Keeps.refl _ v0
            have SV := Lib.hid (S5.out.trans hs9)
            have OV := Lib.hid (OW5.out.sees hs9)
            have CV := Lib.hid (HC5.out.sees hs9)
            have NB : Hid (¬ ((Value.slice au 0 cu).ownBlock = some bc)) := fun e => by
              have h1 := (OW0.out.base e).2
              have := CVb.out
              omega
            clear hs9 S5 OW5 HC5
            refine wpH_take (i := 0) (v := .slice au 0 cu) hB (by rfl) (by kernel_rfl) (fun _ _ _ _ _ h => h) (by rfl) hS0 (fun W hI => by clear hI; go_simp) ?_; (try simp only [Act.put, List.setIfInBounds_toArray, List.set_cons_zero, List.set_cons_succ])
            refine wpH_take (i := 1) (v := .int .i64 (i : Int)) hB (by rfl) (by kernel_rfl) (fun _ _ _ _ _ h => h) (by rfl) hS0 (fun W hI => by clear hI; go_simp) ?_; (try simp only [Act.put, List.setIfInBounds_toArray, List.set_cons_zero, List.set_cons_succ])
            refine wpH_take (i := 2) (v := c.val) hB (by rfl) (by kernel_rfl) (fun _ _ _ _ _ h => h) (by rfl) hS0 (fun W hI => exec_load rfl rfl (run_loadCell (CV.out.keeps hI NB.out))) ?_
            (try simp only [Act.put, List.setIfInBounds_toArray, List.set_cons_zero, List.set_cons_succ])
            refine wpH_take (i := 4) (v := .pointer (some ⟨bc, 5, none⟩)) hB (by rfl) (by kernel_rfl) (fun _ _ _ _ _ h => h) (by rfl) hS0 (fun W hI => by clear hI; go_simp) ?_; (try simp only [Act.put, List.setIfInBounds_toArray, List.set_cons_zero, List.set_cons_succ])
            refine wpH_take (i := 5) (v := c.pen) hB (by rfl) (by kernel_rfl) (fun _ _ _ _ _ h => h) (by rfl) hS0 (fun W hI => exec_load rfl rfl (run_loadPen (p := 0) (CV.out.keeps hI NB.out))) ?_
            (try simp only [Act.put, List.setIfInBounds_toArray, List.set_cons_zero, List.set_cons_succ])
            refine wpH_one (i := 3) (by kernel_rfl) (wpOp_enter (fn := 23) (args := #[c.val]) (by rfl) (by rfl) (by go_simp) ((KC.out _).mono ?_))
            rintro ee W5 ⟨rfl, s5⟩
            have hS1 := hS0.trans (Keeps.of_sees s5)
            refine ⟨_, rfl, hS1, ?_⟩
            (try simp only [Act.put, List.setIfInBounds_toArray, List.set_cons_zero, List.set_cons_succ])
            clear hS0
            refine wpH_take (i := 6) (v := Rn.val ⟨i, 1, c.txt, c⟩) hB (by rfl) (by kernel_rfl) (fun _ _ _ _ _ h => h) (by rfl) hS1 (fun W hI => exec_build4 (a := .int .i64 (i : Int)) (b := .int .i64 1) (c := .string (strL c.txt)) (d := c.pen) rfl (by clear hI; go_simp) (by clear hI; go_simp) (by clear hI; go_simp) (by clear hI; go_simp) (run_buildRn i 1 c.txt c W)) ?_
            (try simp only [Act.put, List.setIfInBounds_toArray, List.set_cons_zero, List.set_cons_succ])
            have sA : Sees W5 (W5.alloc (.cells (Rn.vals ⟨i, 1, c.txt, c⟩).toArray 58)) := (Sees.refl W5).alloc _
            have HRW := Lib.hid (heap_alloc_new W5 (.cells (Rn.vals ⟨i, 1, c.txt, c⟩).toArray 58))
            have HO6 := Lib.hid ((OV.out.sees s5).cut.sees sA)
            have HFX := Lib.hid (show ∀ b, (wl.heap.size ≤ b ∧ b < W5.heap.size) → b < (W5.alloc (.cells (Rn.vals ⟨i, 1, c.txt, c⟩).toArray 58)).heap.size from fun b hb => by rw [World.size_alloc]; omega)
            have HXL := Lib.hid (show (wantF [] 0 (cs.take i)).length + [(⟨i, 1, c.txt, c⟩ : Rn)].length ≤ 100000000 by rw [List.length_singleton, ← HQL.out]; omega)
            have HS6 := Lib.hid ((SV.out.trans s5).trans sA)
            have hS2 := hS1.trans (Keeps.of_sees sA)
            refine wpH_one (i := 7) (by kernel_rfl) (wpOp_val (v := .slice (some ⟨W5.heap.size, 0, none⟩) 1 1) (w' := W5.alloc (.cells (Rn.vals ⟨i, 1, c.txt, c⟩).toArray 58)) (by rfl) (wanted_none (by rfl) _) (exec_buildS (a := Rn.val ⟨i, 1, c.txt, c⟩) rfl (by go_simp) (run_buildSRn ⟨i, 1, c.txt, c⟩ W5)) ⟨hS2, ?_⟩)
            (try simp only [Act.put, List.setIfInBounds_toArray, List.set_cons_zero, List.set_cons_succ])
            obtain ⟨v7, w7, ha7, ho7, hk7⟩ := El.run_append_own typedRn 55 HO6.out ⟨W5.heap.size, 0, none⟩ 1 1 (Rn.vals ⟨i, 1, c.txt, c⟩) [⟨i, 1, c.txt, c⟩] (fun _ => False) (El.ownIn_one (E := rnEl) rfl) rfl (fun j u hu => El.row_cells HRW.out j u hu) HFX.out (fun b hb => hb.elim) HXL.out
            have hS3 := hS2.trans hk7
            refine wpH_one (i := 8) (by kernel_rfl) (wpOp_val (v := v7) (w' := w7) (by rfl) (wanted_none (by rfl) _) (exec_append (v := .slice au 0 cu) (u := .slice (some ⟨W5.heap.size, 0, none⟩) 1 1) rfl (by go_simp) (by go_simp) ha7) ⟨hS3, ?_⟩)
            (try simp only [Act.put, List.setIfInBounds_toArray, List.set_cons_zero, List.set_cons_succ])
            have HO7 := Lib.hid ho7
            have HK7 := Lib.hid hk7
            clear ho7 hk7 ha7 s5 sA hS1 hS2
            have hS0 := hS3
            refine wpH_take (i := 9) (v := v7) hB (by rfl) (by kernel_rfl) (fun _ _ _ _ _ h => h) (by rfl) hS0 (fun W hI => by clear hI; go_simp) ?_; (try simp only [Act.put, List.setIfInBounds_toArray, List.set_cons_zero, List.set_cons_succ])
            refine wpH_end (by kernel_rfl) ?_
            clear hS0 hS3 hB
            have hS7 : Sees wl w7 := El.keep_new HS6.out HK7.out (fun g hg => ((HO6.out.base hg).1).1)
            have hO8 : rnEl.Own (fun b => wl.heap.size ≤ b) w7 v7 (wantF [] 0 (cs.take i) ++ [⟨i, 1, c.txt, c⟩]) := HO7.out.mono fun b _ hb => by
              rcases hb with hb | hb | hb
              · exact hb.1
              · exact hb.elim
              · have := HS6.out.size; omega
            rw [← HNW.out] at hO8
            have HO8 := Lib.hid hO8
            have HS8 := Lib.hid hS7
            clear hS7 hO8 HRW HO6 HFX HXL HS6 HO7 HK7 NB CV SV OV KC
            go_wp2
            go_roundw
            case rel => exact ⟨i + 1, by omega, by go_num, HO8.out, HS8.out⟩
            case measure => simp [intOf]; omega
          · obtain ⟨m, rfl⟩ : ∃ m, q = m + 1 := ⟨q - 1, by omega⟩
            obtain ⟨r, hr⟩ : ∃ r, (wantF [] 0 (cs.take i))[m]? = some r := ⟨_, List.getElem?_eq_getElem (by rw [← HQL.out]; omega)⟩
            have hlast : (wantF [] 0 (cs.take i)).getLast? = some r := by rw [List.getLast?_eq_getElem?, ← HQL.out, Nat.add_sub_cancel]; exact hr
            obtain ⟨hrw, hrt⟩ := HSM.out r (List.mem_of_getElem? hr)
            rw [← HN.out] at hrw hrt
            have hzr : (strL r.txt).size ≤ 640 := by rw [strL_size]; omega
            obtain ⟨bw, ew, _, hbwl, hra0, _, _⟩ := rn_setw (r' := r) (u := .int .i64 (r.col : Int)) (k := 0) OW0.out hr (by omega) rfl
            subst ew
            have HBW := Lib.hid hbwl
            have HRA4 : Hid (RnAt W3 bw (m * 14) r) := by
              have h2 := OW4.out.rd
              obtain ⟨b3, o3, r3, e3, hr3, hra3⟩ := rn_at h2 (show m < m + 1 by omega)
              cases e3
              rw [hr] at hr3
              cases hr3
              rwa [Nat.zero_add] at hra3
            have HLS := Lib.hid hr
            have hs1 : IntKind.i64.wrap ((m : Int) + 1 - 1) = m := by rw [IntWalk.i64_in _ (by omega)]; omega
            have hge : (m : Int) ≥ 0 := by omega
            obtain ⟨z, hz⟩ : ∃ z, z = penEq r.c c := ⟨_, rfl⟩
            have HZ := Lib.hid hz
            have HLST := Lib.hid hlast
            clear hr hra0 hbwl hz hlast
            go_upto_region 12 with fail
            refine wp_region_quiet_below (by kernel_rfl) (by kernel_rfl) ?_
            repeat (first | go_big_quiet_skip | (go_big_quiet_want; go_big_quiet_op; go_big_quiet_on))
            go_big_quiet_want; refine quiet_run r.c.pen (fun W hW => exec_load rfl rfl (run_loadRnPenP (HRA4.out.sees (regrown_sees hW)))) ?_; simp only [Act.put, List.setIfInBounds_toArray, List.set_cons_zero, List.set_cons_succ]; go_big_quiet_on
            repeat (first | go_big_quiet_skip | (go_big_quiet_want; go_big_quiet_op; go_big_quiet_on))
            go_big_quiet_want; refine quiet_run (c).pen (fun W hW => exec_load rfl rfl (run_loadPen ((HC4.out.sees (regrown_sees hW))))) ?_; simp only [Act.put, List.setIfInBounds_toArray, List.set_cons_zero, List.set_cons_succ]; go_big_quiet_on
            go_big_quiet_want; refine quiet_run (.bool z) (fun W hW => exec_bin rfl rfl rfl (guard_eqlPen _ _ r.c c W) (by rw [HZ.out]; exact run_eqlPen r.c c W)) ?_; simp only [Act.put, List.setIfInBounds_toArray, List.set_cons_zero, List.set_cons_succ]; go_big_quiet_on
            repeat (first | go_big_quiet_skip | (go_big_quiet_want; go_big_quiet_op; go_big_quiet_on))
            refine wpQuiet_nil ?_; intro w2 hw2'; have hw2 := regrown_sees hw2'; clear hw2'
            have S5 := Lib.hid (S4.out.trans hw2)
            have OW5 := Lib.hid (OW4.out.sees hw2)
            have HC5 := Lib.hid (HC4.out.sees hw2)
            have HRA := Lib.hid (HRA4.out.sees hw2)
            clear hw2 S4 OW4 HC4 HRA4 hs1 hge
            cases z with
            | true =>
              have hpe : penOf r.c = penOf c := by have := HZ.out; rw [penEq_of] at this; exact of_decide_eq_true this.symm
              have HLG : Hid (wantF [] 0 (cs.take (i + 1)) = (wantF [] 0 (cs.take i)).set m ⟨r.col, r.wid + 1, r.txt ++ c.txt, r.c⟩) := by
                unfold RowKit.Hid
                rw [EW.out]
                unfold stepR
                rw [HLST.out]
                simp only
                rw [if_pos hpe, ← HQL.out, Nat.add_sub_cancel]
              clear hpe
              go_upto_region 13 with fail
              refine wpH_go (fun x => x = bw) 24 (by kernel_rfl) (by kernel_rfl) (by rfl) (fun hB v0 hs9 => ?_)
              have hS0 : Keeps (fun x => x = bw) v0 v0 := Keeps.refl _ v0
              have SV := Lib.hid (S5.out.trans hs9)
              have OV := Lib.hid (OW5.out.sees hs9)
              have CV := Lib.hid (HC5.out.sees hs9)
              have RV := Lib.hid (HRA.out.sees hs9)
              have NB : Hid (¬ (bc = bw)) := by have h1 := CVb.out; have h2 := HBW.out; unfold RowKit.Hid; omega
              have zb : ¬ ((m : Int) + 1 ≤ (m : Int)) := by omega
              have z1 : (strL r.txt).size + (strL c.txt).size ≤ 9223372036854775807 := by omega
              have z2 : IntKind.i64.wrap ((r.wid : Int) + 1) = ((r.wid + 1 : Nat) : Int) := by rw [IntWalk.i64_in _ (by omega)]; omega
              clear hs9 S5 OW5 HC5 HRA
              refine wpH_take (i := 0) (v := .slice (some ⟨bw, 0, none⟩) (m + 1) cu) hB (by rfl) (by kernel_rfl) (fun _ _ _ _ _ h => h) (by rfl) hS0 (fun W hI => by clear hI; go_simp) ?_; (try simp only [Act.put, List.setIfInBounds_toArray, List.set_cons_zero, List.set_cons_succ])
              refine wpH_take (i := 2) (v := .slice (some ⟨bw, 0, none⟩) (m + 1) cu) hB (by rfl) (by kernel_rfl) (fun _ _ _ _ _ h => h) (by rfl) hS0 (fun W hI => by clear hI; go_simp) ?_; (try simp only [Act.put, List.setIfInBounds_toArray, List.set_cons_zero, List.set_cons_succ])
              refine wpH_take (i := 4) (v := .slice (some ⟨bw, 0, none⟩) (m + 1) cu) hB (by rfl) (by kernel_rfl) (fun _ _ _ _ _ h => h) (by rfl) hS0 (fun W hI => by clear hI; go_simp) ?_; (try simp only [Act.put, List.setIfInBounds_toArray, List.set_cons_zero, List.set_cons_succ])
              refine wpH_take (i := 10) (v := .slice (some ⟨bw, 0, none⟩) (m + 1) cu) hB (by rfl) (by kernel_rfl) (fun _ _ _ _ _ h => h) (by rfl) hS0 (fun W hI => by clear hI; go_simp) ?_; (try simp only [Act.put, List.setIfInBounds_toArray, List.set_cons_zero, List.set_cons_succ])
              refine wpH_take (i := 1) (v := .int .i64 (m : Int)) hB (by rfl) (by kernel_rfl) (fun _ _ _ _ _ h => h) (by rfl) hS0 (fun W hI => by clear hI; go_simp) ?_; (try simp only [Act.put, List.setIfInBounds_toArray, List.set_cons_zero, List.set_cons_succ])
              refine wpH_take (i := 3) (v := .int .i64 (m : Int)) hB (by rfl) (by kernel_rfl) (fun _ _ _ _ _ h => h) (by rfl) hS0 (fun W hI => by clear hI; go_simp) ?_; (try simp only [Act.put, List.setIfInBounds_toArray, List.set_cons_zero, List.set_cons_succ])
              refine wpH_take (i := 5) (v := .int .i64 (m : Int)) hB (by rfl) (by kernel_rfl) (fun _ _ _ _ _ h => h) (by rfl) hS0 (fun W hI => by clear hI; go_simp) ?_; (try simp only [Act.put, List.setIfInBounds_toArray, List.set_cons_zero, List.set_cons_succ])
              refine wpH_take (i := 11) (v := .int .i64 (m : Int)) hB (by rfl) (by kernel_rfl) (fun _ _ _ _ _ h => h) (by rfl) hS0 (fun W hI => by clear hI; go_simp) ?_; (try simp only [Act.put, List.setIfInBounds_toArray, List.set_cons_zero, List.set_cons_succ])
              refine wpH_take (i := 6) (v := .pointer (some ⟨bw, m * 14, none⟩)) hB (by rfl) (by kernel_rfl) (fun _ _ _ _ _ h => h) (by rfl) hS0 (fun W hI => by clear hI; go_simp) ?_; (try simp only [Act.put, List.setIfInBounds_toArray, List.set_cons_zero, List.set_cons_succ])
              refine wpH_take (i := 7) (v := .pointer (some ⟨bw, m * 14 + 1, none⟩)) hB (by rfl) (by kernel_rfl) (fun _ _ _ _ _ h => h) (by rfl) hS0 (fun W hI => by clear hI; go_simp) ?_; (try simp only [Act.put, List.setIfInBounds_toArray, List.set_cons_zero, List.set_cons_succ])
              refine wpH_take (i := 12) (v := .pointer (some ⟨bw, m * 14, none⟩)) hB (by rfl) (by kernel_rfl) (fun _ _ _ _ _ h => h) (by rfl) hS0 (fun W hI => by clear hI; go_simp) ?_; (try simp only [Act.put, List.setIfInBounds_toArray, List.set_cons_zero, List.set_cons_succ])
              refine wpH_take (i := 13) (v := .pointer (some ⟨bw, m * 14 + 2, none⟩)) hB (by rfl) (by kernel_rfl) (fun _ _ _ _ _ h => h) (by rfl) hS0 (fun W hI => by clear hI; go_simp) ?_; (try simp only [Act.put, List.setIfInBounds_toArray, List.set_cons_zero, List.set_cons_succ])
              refine wpH_take (i := 15) (v := c.val) hB (by rfl) (by kernel_rfl) (fun _ _ _ _ _ h => h) (by rfl) hS0 (fun W hI => exec_load rfl rfl (run_loadCell (CV.out.keeps hI NB.out))) ?_
              (try simp only [Act.put, List.setIfInBounds_toArray, List.set_cons_zero, List.set_cons_succ])
              refine wpH_three (i := 8) (j := 14) (k := 16) (by kernel_rfl) ?_ ?_ ?_
              · refine wpOp_val (v := .int .i64 (r.wid : Int)) (w' := v0) (by rfl) (wanted_none (by rfl) _) (exec_load (a := .pointer (some ⟨bw, m * 14 + 1, none⟩)) rfl (by go_simp) (run_loadI RV.out.c3.2.1)) ⟨hS0, ?_⟩
                (try simp only [Act.put, List.setIfInBounds_toArray, List.set_cons_zero, List.set_cons_succ])
                refine wpH_take (i := 9) (v := .int .i64 ((r.wid + 1 : Nat) : Int)) hB (by rfl) (by kernel_rfl) (fun _ _ _ _ _ h => h) (by rfl) hS0 (fun W hI => by clear hI; go_simp) ?_; (try simp only [Act.put, List.setIfInBounds_toArray, List.set_cons_zero, List.set_cons_succ])
                refine wpH_two (i := 14) (j := 16) (by kernel_rfl) ?_ ?_
                · refine wpOp_val (v := .string (strL r.txt)) (w' := v0) (by rfl) (wanted_none (by rfl) _) (exec_load (a := .pointer (some ⟨bw, m * 14 + 2, none⟩)) rfl (by go_simp) (run_loadS RV.out.c3.2.2)) ⟨hS0, ?_⟩
                  (try simp only [Act.put, List.setIfInBounds_toArray, List.set_cons_zero, List.set_cons_succ])
                  refine wpH_one (i := 16) (by kernel_rfl) (wpOp_enter (fn := 23) (args := #[c.val]) (by rfl) (by rfl) (by go_simp) ((KC.out _).mono ?_))
                  rintro ee W5 ⟨rfl, s5⟩
                  have hS0 := hS0.trans (Keeps.of_sees s5)
                  refine ⟨_, rfl, hS0, ?_⟩
                  (try simp only [Act.put, List.setIfInBounds_toArray, List.set_cons_zero, List.set_cons_succ])
                  refine wpH_take (i := 17) (v := .string (strL r.txt ++ strL c.txt)) hB (by rfl) (by kernel_rfl) (fun _ _ _ _ _ h => h) (by rfl) hS0 (fun W hI => by clear hI; go_simp) ?_; (try simp only [Act.put, List.setIfInBounds_toArray, List.set_cons_zero, List.set_cons_succ])
                  refine wpH_take (i := 18) (v := .pointer (some ⟨bw, m * 14, none⟩)) hB (by rfl) (by kernel_rfl) (fun _ _ _ _ _ h => h) (by rfl) hS0 (fun W hI => by clear hI; go_simp) ?_; (try simp only [Act.put, List.setIfInBounds_toArray, List.set_cons_zero, List.set_cons_succ])
                  refine wpH_take (i := 19) (v := .pointer (some ⟨bw, m * 14 + 1, none⟩)) hB (by rfl) (by kernel_rfl) (fun _ _ _ _ _ h => h) (by rfl) hS0 (fun W hI => by clear hI; go_simp) ?_; (try simp only [Act.put, List.setIfInBounds_toArray, List.set_cons_zero, List.set_cons_succ])
                  obtain ⟨b9, e9, hb9, hb9l, hra, hfr, ho1⟩ := rn_setw (r' := ⟨r.col, r.wid + 1, r.txt, r.c⟩) (u := .int .i64 ((r.wid + 1 : Nat) : Int)) (k := 1) (OV.out.sees s5) HLS.out (by omega) rfl
                  cases e9
                  have hi9 := (List.getElem?_eq_some_iff.1 HLS.out).1
                  obtain ⟨b8, e8, _, _, hra8, hfr8, ho2⟩ := rn_setw (i := m) (r := ⟨r.col, r.wid + 1, r.txt, r.c⟩) (r' := ⟨r.col, r.wid + 1, r.txt ++ c.txt, r.c⟩) (u := .string (strL (r.txt ++ c.txt))) (k := 2) ho1 (by rw [List.getElem?_set]; simp [hi9]) (by omega) rfl
                  cases e8
                  rw [List.set_set] at ho2
                  have hst1 := run_storeI (y := ((r.wid + 1 : Nat) : Int)) hra.c3.2.1 (hfr _)
                  have hst2 := run_storeS (y := strL (r.txt ++ c.txt)) hra8.c3.2.2 (hfr8 _)
                  obtain ⟨X1, hX1⟩ : ∃ X1, X1 = W5.setCell ⟨bw, m * 14 + 1, none⟩ (.int .i64 ((r.wid + 1 : Nat) : Int)) := ⟨_, rfl⟩
                  have hk1 : Keeps (fun x => x = bw) v0 X1 := by rw [hX1]; exact hS0.setCell (p := ⟨bw, m * 14 + 1, none⟩) (fun _ => rfl) _
                  rw [← hX1] at hst1 hst2 ho2
                  refine wpH_one (i := 20) (by kernel_rfl) (wpOp_skip (w' := X1) (by rfl) (wanted_none (by rfl) _) (exec_store (a := .pointer (some ⟨bw, m * 14 + 1, none⟩)) (v := .int .i64 ((r.wid + 1 : Nat) : Int)) rfl (by clear hst1 hst2; go_simp) (by clear hst1 hst2; go_simp) hst1) ⟨hk1, ?_⟩)
                  (try simp only [Act.put, List.setIfInBounds_toArray, List.set_cons_zero, List.set_cons_succ])
                  obtain ⟨X2, hX2⟩ : ∃ X2, X2 = X1.setCell ⟨bw, m * 14 + 2, none⟩ (.string (strL (r.txt ++ c.txt))) := ⟨_, rfl⟩
                  have hk2 : Keeps (fun x => x = bw) v0 X2 := by rw [hX2]; exact hk1.setCell (p := ⟨bw, m * 14 + 2, none⟩) (fun _ => rfl) _
                  rw [← hX2] at hst2 ho2
                  clear hS0
                  have hS0 := hk1
                  refine wpH_take (i := 21) (v := .pointer (some ⟨bw, m * 14, none⟩)) hB (by rfl) (by kernel_rfl) (fun _ _ _ _ _ h => h) (by rfl) hS0 (fun W hI => by clear hI; go_simp) ?_; (try simp only [Act.put, List.setIfInBounds_toArray, List.set_cons_zero, List.set_cons_succ])
                  refine wpH_take (i := 22) (v := .pointer (some ⟨bw, m * 14 + 2, none⟩)) hB (by rfl) (by kernel_rfl) (fun _ _ _ _ _ h => h) (by rfl) hS0 (fun W hI => by clear hI; go_simp) ?_; (try simp only [Act.put, List.setIfInBounds_toArray, List.set_cons_zero, List.set_cons_succ])
                  refine wpH_one (i := 23) (by kernel_rfl) (wpOp_skip (w' := X2) (by rfl) (wanted_none (by rfl) _) (exec_store (a := .pointer (some ⟨bw, m * 14 + 2, none⟩)) (v := .string (strL (r.txt ++ c.txt))) rfl (by clear hst1 hst2; go_simp) (by clear hst1 hst2; rw [← strL_app]; go_simp) hst2) ⟨hk2, ?_⟩)
                  (try simp only [Act.put, List.setIfInBounds_toArray, List.set_cons_zero, List.set_cons_succ])
                  refine wpH_end (by kernel_rfl) ?_
                  have hbw : wl.heap.size ≤ bw := hb9
                  have hS9 : Sees wl X2 := by rw [hX2, hX1]; exact (((SV.out.trans s5).setCell (p := ⟨bw, m * 14 + 1, none⟩) hbw _).setCell (p := ⟨bw, m * 14 + 2, none⟩) hbw _)
                  have hO9 : rnEl.Own (fun b => wl.heap.size ≤ b) X2 (.slice (some ⟨bw, 0, none⟩) (m + 1) cu) (wantF [] 0 (cs.take (i + 1))) := by rw [HLG.out]; exact ho2
                  have HO9 := Lib.hid hO9
                  have HS9 := Lib.hid hS9
                  clear hS0 hk1 hk2 hB hst1 hst2 hX1 hX2 ho1 ho2 hra hra8 hfr hfr8 hS9 hO9 s5 OV CV SV RV NB
                  go_wp2
                  go_roundw
                  case rel => exact ⟨i + 1, by omega, by go_num, HO9.out, HS9.out⟩
                  case measure => simp [intOf]; omega
                · refine wpOp_enter (fn := 23) (args := #[c.val]) (by rfl) (by rfl) (by go_simp) ((KC.out _).mono ?_)
                  rintro ee W5 ⟨rfl, s5⟩
                  have hS0 := hS0.trans (Keeps.of_sees s5)
                  refine ⟨_, rfl, hS0, ?_⟩
                  (try simp only [Act.put, List.setIfInBounds_toArray, List.set_cons_zero, List.set_cons_succ])
                  refine wpH_one (i := 14) (by kernel_rfl) (wpOp_val (v := .string (strL r.txt)) (w' := W5) (by rfl) (wanted_none (by rfl) _) (exec_load (a := .pointer (some ⟨bw, m * 14 + 2, none⟩)) rfl (by go_simp) (run_loadS (RV.out.sees s5).c3.2.2)) ⟨hS0, ?_⟩)
                  (try simp only [Act.put, List.setIfInBounds_toArray, List.set_cons_zero, List.set_cons_succ])
                  refine wpH_take (i := 17) (v := .string (strL r.txt ++ strL c.txt)) hB (by rfl) (by kernel_rfl) (fun _ _ _ _ _ h => h) (by rfl) hS0 (fun W hI => by clear hI; go_simp) ?_; (try simp only [Act.put, List.setIfInBounds_toArray, List.set_cons_zero, List.set_cons_succ])
                  refine wpH_take (i := 18) (v := .pointer (some ⟨bw, m * 14, none⟩)) hB (by rfl) (by kernel_rfl) (fun _ _ _ _ _ h => h) (by rfl) hS0 (fun W hI => by clear hI; go_simp) ?_; (try simp only [Act.put, List.setIfInBounds_toArray, List.set_cons_zero, List.set_cons_succ])
                  refine wpH_take (i := 19) (v := .pointer (some ⟨bw, m * 14 + 1, none⟩)) hB (by rfl) (by kernel_rfl) (fun _ _ _ _ _ h => h) (by rfl) hS0 (fun W hI => by clear hI; go_simp) ?_; (try simp only [Act.put, List.setIfInBounds_toArray, List.set_cons_zero, List.set_cons_succ])
                  obtain ⟨b9, e9, hb9, hb9l, hra, hfr, ho1⟩ := rn_setw (r' := ⟨r.col, r.wid + 1, r.txt, r.c⟩) (u := .int .i64 ((r.wid + 1 : Nat) : Int)) (k := 1) (OV.out.sees s5) HLS.out (by omega) rfl
                  cases e9
                  have hi9 := (List.getElem?_eq_some_iff.1 HLS.out).1
                  obtain ⟨b8, e8, _, _, hra8, hfr8, ho2⟩ := rn_setw (i := m) (r := ⟨r.col, r.wid + 1, r.txt, r.c⟩) (r' := ⟨r.col, r.wid + 1, r.txt ++ c.txt, r.c⟩) (u := .string (strL (r.txt ++ c.txt))) (k := 2) ho1 (by rw [List.getElem?_set]; simp [hi9]) (by omega) rfl
                  cases e8
                  rw [List.set_set] at ho2
                  have hst1 := run_storeI (y := ((r.wid + 1 : Nat) : Int)) hra.c3.2.1 (hfr _)
                  have hst2 := run_storeS (y := strL (r.txt ++ c.txt)) hra8.c3.2.2 (hfr8 _)
                  obtain ⟨X1, hX1⟩ : ∃ X1, X1 = W5.setCell ⟨bw, m * 14 + 1, none⟩ (.int .i64 ((r.wid + 1 : Nat) : Int)) := ⟨_, rfl⟩
                  have hk1 : Keeps (fun x => x = bw) v0 X1 := by rw [hX1]; exact hS0.setCell (p := ⟨bw, m * 14 + 1, none⟩) (fun _ => rfl) _
                  rw [← hX1] at hst1 hst2 ho2
                  refine wpH_one (i := 20) (by kernel_rfl) (wpOp_skip (w' := X1) (by rfl) (wanted_none (by rfl) _) (exec_store (a := .pointer (some ⟨bw, m * 14 + 1, none⟩)) (v := .int .i64 ((r.wid + 1 : Nat) : Int)) rfl (by clear hst1 hst2; go_simp) (by clear hst1 hst2; go_simp) hst1) ⟨hk1, ?_⟩)
                  (try simp only [Act.put, List.setIfInBounds_toArray, List.set_cons_zero, List.set_cons_succ])
                  obtain ⟨X2, hX2⟩ : ∃ X2, X2 = X1.setCell ⟨bw, m * 14 + 2, none⟩ (.string (strL (r.txt ++ c.txt))) := ⟨_, rfl⟩
                  have hk2 : Keeps (fun x => x = bw) v0 X2 := by rw [hX2]; exact hk1.setCell (p := ⟨bw, m * 14 + 2, none⟩) (fun _ => rfl) _
                  rw [← hX2] at hst2 ho2
                  clear hS0
                  have hS0 := hk1
                  refine wpH_take (i := 21) (v := .pointer (some ⟨bw, m * 14, none⟩)) hB (by rfl) (by kernel_rfl) (fun _ _ _ _ _ h => h) (by rfl) hS0 (fun W hI => by clear hI; go_simp) ?_; (try simp only [Act.put, List.setIfInBounds_toArray, List.set_cons_zero, List.set_cons_succ])
                  refine wpH_take (i := 22) (v := .pointer (some ⟨bw, m * 14 + 2, none⟩)) hB (by rfl) (by kernel_rfl) (fun _ _ _ _ _ h => h) (by rfl) hS0 (fun W hI => by clear hI; go_simp) ?_; (try simp only [Act.put, List.setIfInBounds_toArray, List.set_cons_zero, List.set_cons_succ])
                  refine wpH_one (i := 23) (by kernel_rfl) (wpOp_skip (w' := X2) (by rfl) (wanted_none (by rfl) _) (exec_store (a := .pointer (some ⟨bw, m * 14 + 2, none⟩)) (v := .string (strL (r.txt ++ c.txt))) rfl (by clear hst1 hst2; go_simp) (by clear hst1 hst2; rw [← strL_app]; go_simp) hst2) ⟨hk2, ?_⟩)
                  (try simp only [Act.put, List.setIfInBounds_toArray, List.set_cons_zero, List.set_cons_succ])
                  refine wpH_end (by kernel_rfl) ?_
                  have hbw : wl.heap.size ≤ bw := hb9
                  have hS9 : Sees wl X2 := by rw [hX2, hX1]; exact (((SV.out.trans s5).setCell (p := ⟨bw, m * 14 + 1, none⟩) hbw _).setCell (p := ⟨bw, m * 14 + 2, none⟩) hbw _)
                  have hO9 : rnEl.Own (fun b => wl.heap.size ≤ b) X2 (.slice (some ⟨bw, 0, none⟩) (m + 1) cu) (wantF [] 0 (cs.take (i + 1))) := by rw [HLG.out]; exact ho2
                  have HO9 := Lib.hid hO9
                  have HS9 := Lib.hid hS9
                  clear hS0 hk1 hk2 hB hst1 hst2 hX1 hX2 ho1 ho2 hra hra8 hfr hfr8 hS9 hO9 s5 OV CV SV RV NB
                  go_wp2
                  go_roundw
                  case rel => exact ⟨i + 1, by omega, by go_num, HO9.out, HS9.out⟩
                  case measure => simp [intOf]; omega
              · refine wpOp_val (v := .string (strL r.txt)) (w' := v0) (by rfl) (wanted_none (by rfl) _) (exec_load (a := .pointer (some ⟨bw, m * 14 + 2, none⟩)) rfl (by go_simp) (run_loadS RV.out.c3.2.2)) ⟨hS0, ?_⟩
                (try simp only [Act.put, List.setIfInBounds_toArray, List.set_cons_zero, List.set_cons_succ])
                refine wpH_two (i := 8) (j := 16) (by kernel_rfl) ?_ ?_
                · refine wpOp_val (v := .int .i64 (r.wid : Int)) (w' := v0) (by rfl) (wanted_none (by rfl) _) (exec_load (a := .pointer (some ⟨bw, m * 14 + 1, none⟩)) rfl (by go_simp) (run_loadI RV.out.c3.2.1)) ⟨hS0, ?_⟩
                  (try simp only [Act.put, List.setIfInBounds_toArray, List.set_cons_zero, List.set_cons_succ])
                  refine wpH_take (i := 9) (v := .int .i64 ((r.wid + 1 : Nat) : Int)) hB (by rfl) (by kernel_rfl) (fun _ _ _ _ _ h => h) (by rfl) hS0 (fun W hI => by clear hI; go_simp) ?_; (try simp only [Act.put, List.setIfInBounds_toArray, List.set_cons_zero, List.set_cons_succ])
                  refine wpH_one (i := 16) (by kernel_rfl) (wpOp_enter (fn := 23) (args := #[c.val]) (by rfl) (by rfl) (by go_simp) ((KC.out _).mono ?_))
                  rintro ee W5 ⟨rfl, s5⟩
                  have hS0 := hS0.trans (Keeps.of_sees s5)
                  refine ⟨_, rfl, hS0, ?_⟩
                  (try simp only [Act.put, List.setIfInBounds_toArray, List.set_cons_zero, List.set_cons_succ])
                  refine wpH_take (i := 17) (v := .string (strL r.txt ++ strL c.txt)) hB (by rfl) (by kernel_rfl) (fun _ _ _ _ _ h => h) (by rfl) hS0 (fun W hI => by clear hI; go_simp) ?_; (try simp only [Act.put, List.setIfInBounds_toArray, List.set_cons_zero, List.set_cons_succ])
                  refine wpH_take (i := 18) (v := .pointer (some ⟨bw, m * 14, none⟩)) hB (by rfl) (by kernel_rfl) (fun _ _ _ _ _ h => h) (by rfl) hS0 (fun W hI => by clear hI; go_simp) ?_; (try simp only [Act.put, List.setIfInBounds_toArray, List.set_cons_zero, List.set_cons_succ])
                  refine wpH_take (i := 19) (v := .pointer (some ⟨bw, m * 14 + 1, none⟩)) hB (by rfl) (by kernel_rfl) (fun _ _ _ _ _ h => h) (by rfl) hS0 (fun W hI => by clear hI; go_simp) ?_; (try simp only [Act.put, List.setIfInBounds_toArray, List.set_cons_zero, List.set_cons_succ])
                  obtain ⟨b9, e9, hb9, hb9l, hra, hfr, ho1⟩ := rn_setw (r' := ⟨r.col, r.wid + 1, r.txt, r.c⟩) (u := .int .i64 ((r.wid + 1 : Nat) : Int)) (k := 1) (OV.out.sees s5) HLS.out (by omega) rfl
                  cases e9
                  have hi9 := (List.getElem?_eq_some_iff.1 HLS.out).1
                  obtain ⟨b8, e8, _, _, hra8, hfr8, ho2⟩ := rn_setw (i := m) (r := ⟨r.col, r.wid + 1, r.txt, r.c⟩) (r' := ⟨r.col, r.wid + 1, r.txt ++ c.txt, r.c⟩) (u := .string (strL (r.txt ++ c.txt))) (k := 2) ho1 (by rw [List.getElem?_set]; simp [hi9]) (by omega) rfl
                  cases e8
                  rw [List.set_set] at ho2
                  have hst1 := run_storeI (y := ((r.wid + 1 : Nat) : Int)) hra.c3.2.1 (hfr _)
                  have hst2 := run_storeS (y := strL (r.txt ++ c.txt)) hra8.c3.2.2 (hfr8 _)
                  obtain ⟨X1, hX1⟩ : ∃ X1, X1 = W5.setCell ⟨bw, m * 14 + 1, none⟩ (.int .i64 ((r.wid + 1 : Nat) : Int)) := ⟨_, rfl⟩
                  have hk1 : Keeps (fun x => x = bw) v0 X1 := by rw [hX1]; exact hS0.setCell (p := ⟨bw, m * 14 + 1, none⟩) (fun _ => rfl) _
                  rw [← hX1] at hst1 hst2 ho2
                  refine wpH_one (i := 20) (by kernel_rfl) (wpOp_skip (w' := X1) (by rfl) (wanted_none (by rfl) _) (exec_store (a := .pointer (some ⟨bw, m * 14 + 1, none⟩)) (v := .int .i64 ((r.wid + 1 : Nat) : Int)) rfl (by clear hst1 hst2; go_simp) (by clear hst1 hst2; go_simp) hst1) ⟨hk1, ?_⟩)
                  (try simp only [Act.put, List.setIfInBounds_toArray, List.set_cons_zero, List.set_cons_succ])
                  obtain ⟨X2, hX2⟩ : ∃ X2, X2 = X1.setCell ⟨bw, m * 14 + 2, none⟩ (.string (strL (r.txt ++ c.txt))) := ⟨_, rfl⟩
                  have hk2 : Keeps (fun x => x = bw) v0 X2 := by rw [hX2]; exact hk1.setCell (p := ⟨bw, m * 14 + 2, none⟩) (fun _ => rfl) _
                  rw [← hX2] at hst2 ho2
                  clear hS0
                  have hS0 := hk1
                  refine wpH_take (i := 21) (v := .pointer (some ⟨bw, m * 14, none⟩)) hB (by rfl) (by kernel_rfl) (fun _ _ _ _ _ h => h) (by rfl) hS0 (fun W hI => by clear hI; go_simp) ?_; (try simp only [Act.put, List.setIfInBounds_toArray, List.set_cons_zero, List.set_cons_succ])
                  refine wpH_take (i := 22) (v := .pointer (some ⟨bw, m * 14 + 2, none⟩)) hB (by rfl) (by kernel_rfl) (fun _ _ _ _ _ h => h) (by rfl) hS0 (fun W hI => by clear hI; go_simp) ?_; (try simp only [Act.put, List.setIfInBounds_toArray, List.set_cons_zero, List.set_cons_succ])
                  refine wpH_one (i := 23) (by kernel_rfl) (wpOp_skip (w' := X2) (by rfl) (wanted_none (by rfl) _) (exec_store (a := .pointer (some ⟨bw, m * 14 + 2, none⟩)) (v := .string (strL (r.txt ++ c.txt))) rfl (by clear hst1 hst2; go_simp) (by clear hst1 hst2; rw [← strL_app]; go_simp) hst2) ⟨hk2, ?_⟩)
                  (try simp only [Act.put, List.setIfInBounds_toArray, List.set_cons_zero, List.set_cons_succ])
                  refine wpH_end (by kernel_rfl) ?_
                  have hbw : wl.heap.size ≤ bw := hb9
                  have hS9 : Sees wl X2 := by rw [hX2, hX1]; exact (((SV.out.trans s5).setCell (p := ⟨bw, m * 14 + 1, none⟩) hbw _).setCell (p := ⟨bw, m * 14 + 2, none⟩) hbw _)
                  have hO9 : rnEl.Own (fun b => wl.heap.size ≤ b) X2 (.slice (some ⟨bw, 0, none⟩) (m + 1) cu) (wantF [] 0 (cs.take (i + 1))) := by rw [HLG.out]; exact ho2
                  have HO9 := Lib.hid hO9
                  have HS9 := Lib.hid hS9
                  clear hS0 hk1 hk2 hB hst1 hst2 hX1 hX2 ho1 ho2 hra hra8 hfr hfr8 hS9 hO9 s5 OV CV SV RV NB
                  go_wp2
                  go_roundw
                  case rel => exact ⟨i + 1, by omega, by go_num, HO9.out, HS9.out⟩
                  case measure => simp [intOf]; omega
                · refine wpOp_enter (fn := 23) (args := #[c.val]) (by rfl) (by rfl) (by go_simp) ((KC.out _).mono ?_)
                  rintro ee W5 ⟨rfl, s5⟩
                  have hS0 := hS0.trans (Keeps.of_sees s5)
                  refine ⟨_, rfl, hS0, ?_⟩
                  (try simp only [Act.put, List.setIfInBounds_toArray, List.set_cons_zero, List.set_cons_succ])
                  refine wpH_take (i := 17) (v := .string (strL r.txt ++ strL c.txt)) hB (by rfl) (by kernel_rfl) (fun _ _ _ _ _ h => h) (by rfl) hS0 (fun W hI => by clear hI; go_simp) ?_; (try simp only [Act.put, List.setIfInBounds_toArray, List.set_cons_zero, List.set_cons_succ])
                  refine wpH_one (i := 8) (by kernel_rfl) (wpOp_val (v := .int .i64 (r.wid : Int)) (w' := W5) (by rfl) (wanted_none (by rfl) _) (exec_load (a := .pointer (some ⟨bw, m * 14 + 1, none⟩)) rfl (by go_simp) (run_loadI (RV.out.sees s5).c3.2.1)) ⟨hS0, ?_⟩)
                  (try simp only [Act.put, List.setIfInBounds_toArray, List.set_cons_zero, List.set_cons_succ])
                  refine wpH_take (i := 9) (v := .int .i64 ((r.wid + 1 : Nat) : Int)) hB (by rfl) (by kernel_rfl) (fun _ _ _ _ _ h => h) (by rfl) hS0 (fun W hI => by clear hI; go_simp) ?_; (try simp only [Act.put, List.setIfInBounds_toArray, List.set_cons_zero, List.set_cons_succ])
                  refine wpH_take (i := 18) (v := .pointer (some ⟨bw, m * 14, none⟩)) hB (by rfl) (by kernel_rfl) (fun _ _ _ _ _ h => h) (by rfl) hS0 (fun W hI => by clear hI; go_simp) ?_; (try simp only [Act.put, List.setIfInBounds_toArray, List.set_cons_zero, List.set_cons_succ])
                  refine wpH_take (i := 19) (v := .pointer (some ⟨bw, m * 14 + 1, none⟩)) hB (by rfl) (by kernel_rfl) (fun _ _ _ _ _ h => h) (by rfl) hS0 (fun W hI => by clear hI; go_simp) ?_; (try simp only [Act.put, List.setIfInBounds_toArray, List.set_cons_zero, List.set_cons_succ])
                  obtain ⟨b9, e9, hb9, hb9l, hra, hfr, ho1⟩ := rn_setw (r' := ⟨r.col, r.wid + 1, r.txt, r.c⟩) (u := .int .i64 ((r.wid + 1 : Nat) : Int)) (k := 1) (OV.out.sees s5) HLS.out (by omega) rfl
                  cases e9
                  have hi9 := (List.getElem?_eq_some_iff.1 HLS.out).1
                  obtain ⟨b8, e8, _, _, hra8, hfr8, ho2⟩ := rn_setw (i := m) (r := ⟨r.col, r.wid + 1, r.txt, r.c⟩) (r' := ⟨r.col, r.wid + 1, r.txt ++ c.txt, r.c⟩) (u := .string (strL (r.txt ++ c.txt))) (k := 2) ho1 (by rw [List.getElem?_set]; simp [hi9]) (by omega) rfl
                  cases e8
                  rw [List.set_set] at ho2
                  have hst1 := run_storeI (y := ((r.wid + 1 : Nat) : Int)) hra.c3.2.1 (hfr _)
                  have hst2 := run_storeS (y := strL (r.txt ++ c.txt)) hra8.c3.2.2 (hfr8 _)
                  obtain ⟨X1, hX1⟩ : ∃ X1, X1 = W5.setCell ⟨bw, m * 14 + 1, none⟩ (.int .i64 ((r.wid + 1 : Nat) : Int)) := ⟨_, rfl⟩
                  have hk1 : Keeps (fun x => x = bw) v0 X1 := by rw [hX1]; exact hS0.setCell (p := ⟨bw, m * 14 + 1, none⟩) (fun _ => rfl) _
                  rw [← hX1] at hst1 hst2 ho2
                  refine wpH_one (i := 20) (by kernel_rfl) (wpOp_skip (w' := X1) (by rfl) (wanted_none (by rfl) _) (exec_store (a := .pointer (some ⟨bw, m * 14 + 1, none⟩)) (v := .int .i64 ((r.wid + 1 : Nat) : Int)) rfl (by clear hst1 hst2; go_simp) (by clear hst1 hst2; go_simp) hst1) ⟨hk1, ?_⟩)
                  (try simp only [Act.put, List.setIfInBounds_toArray, List.set_cons_zero, List.set_cons_succ])
                  obtain ⟨X2, hX2⟩ : ∃ X2, X2 = X1.setCell ⟨bw, m * 14 + 2, none⟩ (.string (strL (r.txt ++ c.txt))) := ⟨_, rfl⟩
                  have hk2 : Keeps (fun x => x = bw) v0 X2 := by rw [hX2]; exact hk1.setCell (p := ⟨bw, m * 14 + 2, none⟩) (fun _ => rfl) _
                  rw [← hX2] at hst2 ho2
                  clear hS0
                  have hS0 := hk1
                  refine wpH_take (i := 21) (v := .pointer (some ⟨bw, m * 14, none⟩)) hB (by rfl) (by kernel_rfl) (fun _ _ _ _ _ h => h) (by rfl) hS0 (fun W hI => by clear hI; go_simp) ?_; (try simp only [Act.put, List.setIfInBounds_toArray, List.set_cons_zero, List.set_cons_succ])
                  refine wpH_take (i := 22) (v := .pointer (some ⟨bw, m * 14 + 2, none⟩)) hB (by rfl) (by kernel_rfl) (fun _ _ _ _ _ h => h) (by rfl) hS0 (fun W hI => by clear hI; go_simp) ?_; (try simp only [Act.put, List.setIfInBounds_toArray, List.set_cons_zero, List.set_cons_succ])
                  refine wpH_one (i := 23) (by kernel_rfl) (wpOp_skip (w' := X2) (by rfl) (wanted_none (by rfl) _) (exec_store (a := .pointer (some ⟨bw, m * 14 + 2, none⟩)) (v := .string (strL (r.txt ++ c.txt))) rfl (by clear hst1 hst2; go_simp) (by clear hst1 hst2; rw [← strL_app]; go_simp) hst2) ⟨hk2, ?_⟩)
                  (try simp only [Act.put, List.setIfInBounds_toArray, List.set_cons_zero, List.set_cons_succ])
                  refine wpH_end (by kernel_rfl) ?_
                  have hbw : wl.heap.size ≤ bw := hb9
                  have hS9 : Sees wl X2 := by rw [hX2, hX1]; exact (((SV.out.trans s5).setCell (p := ⟨bw, m * 14 + 1, none⟩) hbw _).setCell (p := ⟨bw, m * 14 + 2, none⟩) hbw _)
                  have hO9 : rnEl.Own (fun b => wl.heap.size ≤ b) X2 (.slice (some ⟨bw, 0, none⟩) (m + 1) cu) (wantF [] 0 (cs.take (i + 1))) := by rw [HLG.out]; exact ho2
                  have HO9 := Lib.hid hO9
                  have HS9 := Lib.hid hS9
                  clear hS0 hk1 hk2 hB hst1 hst2 hX1 hX2 ho1 ho2 hra hra8 hfr hfr8 hS9 hO9 s5 OV CV SV RV NB
                  go_wp2
                  go_roundw
                  case rel => exact ⟨i + 1, by omega, by go_num, HO9.out, HS9.out⟩
                  case measure => simp [intOf]; omega
              · refine wpOp_enter (fn := 23) (args := #[c.val]) (by rfl) (by rfl) (by go_simp) ((KC.out _).mono ?_)
                rintro ee W5 ⟨rfl, s5⟩
                have hS0 := hS0.trans (Keeps.of_sees s5)
                refine ⟨_, rfl, hS0, ?_⟩
                (try simp only [Act.put, List.setIfInBounds_toArray, List.set_cons_zero, List.set_cons_succ])
                refine wpH_two (i := 8) (j := 14) (by kernel_rfl) ?_ ?_
                · refine wpOp_val (v := .int .i64 (r.wid : Int)) (w' := W5) (by rfl) (wanted_none (by rfl) _) (exec_load (a := .pointer (some ⟨bw, m * 14 + 1, none⟩)) rfl (by go_simp) (run_loadI (RV.out.sees s5).c3.2.1)) ⟨hS0, ?_⟩
                  (try simp only [Act.put, List.setIfInBounds_toArray, List.set_cons_zero, List.set_cons_succ])
                  refine wpH_take (i := 9) (v := .int .i64 ((r.wid + 1 : Nat) : Int)) hB (by rfl) (by kernel_rfl) (fun _ _ _ _ _ h => h) (by rfl) hS0 (fun W hI => by clear hI; go_simp) ?_; (try simp only [Act.put, List.setIfInBounds_toArray, List.set_cons_zero, List.set_cons_succ])
                  refine wpH_one (i := 14) (by kernel_rfl) (wpOp_val (v := .string (strL r.txt)) (w' := W5) (by rfl) (wanted_none (by rfl) _) (exec_load (a := .pointer (some ⟨bw, m * 14 + 2, none⟩)) rfl (by go_simp) (run_loadS (RV.out.sees s5).c3.2.2)) ⟨hS0, ?_⟩)
                  (try simp only [Act.put, List.setIfInBounds_toArray, List.set_cons_zero, List.set_cons_succ])
                  refine wpH_take (i := 17) (v := .string (strL r.txt ++ strL c.txt)) hB (by rfl) (by kernel_rfl) (fun _ _ _ _ _ h => h) (by rfl) hS0 (fun W hI => by clear hI; go_simp) ?_; (try simp only [Act.put, List.setIfInBounds_toArray, List.set_cons_zero, List.set_cons_succ])
                  refine wpH_take (i := 18) (v := .pointer (some ⟨bw, m * 14, none⟩)) hB (by rfl) (by kernel_rfl) (fun _ _ _ _ _ h => h) (by rfl) hS0 (fun W hI => by clear hI; go_simp) ?_; (try simp only [Act.put, List.setIfInBounds_toArray, List.set_cons_zero, List.set_cons_succ])
                  refine wpH_take (i := 19) (v := .pointer (some ⟨bw, m * 14 + 1, none⟩)) hB (by rfl) (by kernel_rfl) (fun _ _ _ _ _ h => h) (by rfl) hS0 (fun W hI => by clear hI; go_simp) ?_; (try simp only [Act.put, List.setIfInBounds_toArray, List.set_cons_zero, List.set_cons_succ])
                  obtain ⟨b9, e9, hb9, hb9l, hra, hfr, ho1⟩ := rn_setw (r' := ⟨r.col, r.wid + 1, r.txt, r.c⟩) (u := .int .i64 ((r.wid + 1 : Nat) : Int)) (k := 1) (OV.out.sees s5) HLS.out (by omega) rfl
                  cases e9
                  have hi9 := (List.getElem?_eq_some_iff.1 HLS.out).1
                  obtain ⟨b8, e8, _, _, hra8, hfr8, ho2⟩ := rn_setw (i := m) (r := ⟨r.col, r.wid + 1, r.txt, r.c⟩) (r' := ⟨r.col, r.wid + 1, r.txt ++ c.txt, r.c⟩) (u := .string (strL (r.txt ++ c.txt))) (k := 2) ho1 (by rw [List.getElem?_set]; simp [hi9]) (by omega) rfl
                  cases e8
                  rw [List.set_set] at ho2
                  have hst1 := run_storeI (y := ((r.wid + 1 : Nat) : Int)) hra.c3.2.1 (hfr _)
                  have hst2 := run_storeS (y := strL (r.txt ++ c.txt)) hra8.c3.2.2 (hfr8 _)
                  obtain ⟨X1, hX1⟩ : ∃ X1, X1 = W5.setCell ⟨bw, m * 14 + 1, none⟩ (.int .i64 ((r.wid + 1 : Nat) : Int)) := ⟨_, rfl⟩
                  have hk1 : Keeps (fun x => x = bw) v0 X1 := by rw [hX1]; exact hS0.setCell (p := ⟨bw, m * 14 + 1, none⟩) (fun _ => rfl) _
                  rw [← hX1] at hst1 hst2 ho2
                  refine wpH_one (i := 20) (by kernel_rfl) (wpOp_skip (w' := X1) (by rfl) (wanted_none (by rfl) _) (exec_store (a := .pointer (some ⟨bw, m * 14 + 1, none⟩)) (v := .int .i64 ((r.wid + 1 : Nat) : Int)) rfl (by clear hst1 hst2; go_simp) (by clear hst1 hst2; go_simp) hst1) ⟨hk1, ?_⟩)
                  (try simp only [Act.put, List.setIfInBounds_toArray, List.set_cons_zero, List.set_cons_succ])
                  obtain ⟨X2, hX2⟩ : ∃ X2, X2 = X1.setCell ⟨bw, m * 14 + 2, none⟩ (.string (strL (r.txt ++ c.txt))) := ⟨_, rfl⟩
                  have hk2 : Keeps (fun x => x = bw) v0 X2 := by rw [hX2]; exact hk1.setCell (p := ⟨bw, m * 14 + 2, none⟩) (fun _ => rfl) _
                  rw [← hX2] at hst2 ho2
                  clear hS0
                  have hS0 := hk1
                  refine wpH_take (i := 21) (v := .pointer (some ⟨bw, m * 14, none⟩)) hB (by rfl) (by kernel_rfl) (fun _ _ _ _ _ h => h) (by rfl) hS0 (fun W hI => by clear hI; go_simp) ?_; (try simp only [Act.put, List.setIfInBounds_toArray, List.set_cons_zero, List.set_cons_succ])
                  refine wpH_take (i := 22) (v := .pointer (some ⟨bw, m * 14 + 2, none⟩)) hB (by rfl) (by kernel_rfl) (fun _ _ _ _ _ h => h) (by rfl) hS0 (fun W hI => by clear hI; go_simp) ?_; (try simp only [Act.put, List.setIfInBounds_toArray, List.set_cons_zero, List.set_cons_succ])
                  refine wpH_one (i := 23) (by kernel_rfl) (wpOp_skip (w' := X2) (by rfl) (wanted_none (by rfl) _) (exec_store (a := .pointer (some ⟨bw, m * 14 + 2, none⟩)) (v := .string (strL (r.txt ++ c.txt))) rfl (by clear hst1 hst2; go_simp) (by clear hst1 hst2; rw [← strL_app]; go_simp) hst2) ⟨hk2, ?_⟩)
                  (try simp only [Act.put, List.setIfInBounds_toArray, List.set_cons_zero, List.set_cons_succ])
                  refine wpH_end (by kernel_rfl) ?_
                  have hbw : wl.heap.size ≤ bw := hb9
                  have hS9 : Sees wl X2 := by rw [hX2, hX1]; exact (((SV.out.trans s5).setCell (p := ⟨bw, m * 14 + 1, none⟩) hbw _).setCell (p := ⟨bw, m * 14 + 2, none⟩) hbw _)
                  have hO9 : rnEl.Own (fun b => wl.heap.size ≤ b) X2 (.slice (some ⟨bw, 0, none⟩) (m + 1) cu) (wantF [] 0 (cs.take (i + 1))) := by rw [HLG.out]; exact ho2
                  have HO9 := Lib.hid hO9
                  have HS9 := Lib.hid hS9
                  clear hS0 hk1 hk2 hB hst1 hst2 hX1 hX2 ho1 ho2 hra hra8 hfr hfr8 hS9 hO9 s5 OV CV SV RV NB
                  go_wp2
                  go_roundw
                  case rel => exact ⟨i + 1, by omega, by go_num, HO9.out, HS9.out⟩
                  case measure => simp [intOf]; omega
                · refine wpOp_val (v := .string (strL r.txt)) (w' := W5) (by rfl) (wanted_none (by rfl) _) (exec_load (a := .pointer (some ⟨bw, m * 14 + 2, none⟩)) rfl (by go_simp) (run_loadS (RV.out.sees s5).c3.2.2)) ⟨hS0, ?_⟩
                  (try simp only [Act.put, List.setIfInBounds_toArray, List.set_cons_zero, List.set_cons_succ])
                  refine wpH_take (i := 17) (v := .string (strL r.txt ++ strL c.txt)) hB (by rfl) (by kernel_rfl) (fun _ _ _ _ _ h => h) (by rfl) hS0 (fun W hI => by clear hI; go_simp) ?_; (try simp only [Act.put, List.setIfInBounds_toArray, List.set_cons_zero, List.set_cons_succ])
                  refine wpH_one (i := 8) (by kernel_rfl) (wpOp_val (v := .int .i64 (r.wid : Int)) (w' := W5) (by rfl) (wanted_none (by rfl) _) (exec_load (a := .pointer (some ⟨bw, m * 14 + 1, none⟩)) rfl (by go_simp) (run_loadI (RV.out.sees s5).c3.2.1)) ⟨hS0, ?_⟩)
                  (try simp only [Act.put, List.setIfInBounds_toArray, List.set_cons_zero, List.set_cons_succ])
                  refine wpH_take (i := 9) (v := .int .i64 ((r.wid + 1 : Nat) : Int)) hB (by rfl) (by kernel_rfl) (fun _ _ _ _ _ h => h) (by rfl) hS0 (fun W hI => by clear hI; go_simp) ?_; (try simp only [Act.put, List.setIfInBounds_toArray, List.set_cons_zero, List.set_cons_succ])
                  refine wpH_take (i := 18) (v := .pointer (some ⟨bw, m * 14, none⟩)) hB (by rfl) (by kernel_rfl) (fun _ _ _ _ _ h => h) (by rfl) hS0 (fun W hI => by clear hI; go_simp) ?_; (try simp only [Act.put, List.setIfInBounds_toArray, List.set_cons_zero, List.set_cons_succ])
                  refine wpH_take (i := 19) (v := .pointer (some ⟨bw, m * 14 + 1, none⟩)) hB (by rfl) (by kernel_rfl) (fun _ _ _ _ _ h => h) (by rfl) hS0 (fun W hI => by clear hI; go_simp) ?_; (try simp only [Act.put, List.setIfInBounds_toArray, List.set_cons_zero, List.set_cons_succ])
                  obtain ⟨b9, e9, hb9, hb9l, hra, hfr, ho1⟩ := rn_setw (r' := ⟨r.col, r.wid + 1, r.txt, r.c⟩) (u := .int .i64 ((r.wid + 1 : Nat) : Int)) (k := 1) (OV.out.sees s5) HLS.out (by omega) rfl
                  cases e9
                  have hi9 := (List.getElem?_eq_some_iff.1 HLS.out).1
                  obtain ⟨b8, e8, _, _, hra8, hfr8, ho2⟩ := rn_setw (i := m) (r := ⟨r.col, r.wid + 1, r.txt, r.c⟩) (r' := ⟨r.col, r.wid + 1, r.txt ++ c.txt, r.c⟩) (u := .string (strL (r.txt ++ c.txt))) (k := 2) ho1 (by rw [List.getElem?_set]; simp [hi9]) (by omega) rfl
                  cases e8
                  rw [List.set_set] at ho2
                  have hst1 := run_storeI (y := ((r.wid + 1 : Nat) : Int)) hra.c3.2.1 (hfr _)
                  have hst2 := run_storeS (y := strL (r.txt ++ c.txt)) hra8.c3.2.2 (hfr8 _)
                  obtain ⟨X1, hX1⟩ : ∃ X1, X1 = W5.setCell ⟨bw, m * 14 + 1, none⟩ (.int .i64 ((r.wid + 1 : Nat) : Int)) := ⟨_, rfl⟩
                  have hk1 : Keeps (fun x => x = bw) v0 X1 := by rw [hX1]; exact hS0.setCell (p := ⟨bw, m * 14 + 1, none⟩) (fun _ => rfl) _
                  rw [← hX1] at hst1 hst2 ho2
                  refine wpH_one (i := 20) (by kernel_rfl) (wpOp_skip (w' := X1) (by rfl) (wanted_none (by rfl) _) (exec_store (a := .pointer (some ⟨bw, m * 14 + 1, none⟩)) (v := .int .i64 ((r.wid + 1 : Nat) : Int)) rfl (by clear hst1 hst2; go_simp) (by clear hst1 hst2; go_simp) hst1) ⟨hk1, ?_⟩)
                  (try simp only [Act.put, List.setIfInBounds_toArray, List.set_cons_zero, List.set_cons_succ])
                  obtain ⟨X2, hX2⟩ : ∃ X2, X2 = X1.setCell ⟨bw, m * 14 + 2, none⟩ (.string (strL (r.txt ++ c.txt))) := ⟨_, rfl⟩
                  have hk2 : Keeps (fun x => x = bw) v0 X2 := by rw [hX2]; exact hk1.setCell (p := ⟨bw, m * 14 + 2, none⟩) (fun _ => rfl) _
                  rw [← hX2] at hst2 ho2
                  clear hS0
                  have hS0 := hk1
                  refine wpH_take (i := 21) (v := .pointer (some ⟨bw, m * 14, none⟩)) hB (by rfl) (by kernel_rfl) (fun _ _ _ _ _ h => h) (by rfl) hS0 (fun W hI => by clear hI; go_simp) ?_; (try simp only [Act.put, List.setIfInBounds_toArray, List.set_cons_zero, List.set_cons_succ])
                  refine wpH_take (i := 22) (v := .pointer (some ⟨bw, m * 14 + 2, none⟩)) hB (by rfl) (by kernel_rfl) (fun _ _ _ _ _ h => h) (by rfl) hS0 (fun W hI => by clear hI; go_simp) ?_; (try simp only [Act.put, List.setIfInBounds_toArray, List.set_cons_zero, List.set_cons_succ])
                  refine wpH_one (i := 23) (by kernel_rfl) (wpOp_skip (w' := X2) (by rfl) (wanted_none (by rfl) _) (exec_store (a := .pointer (some ⟨bw, m * 14 + 2, none⟩)) (v := .string (strL (r.txt ++ c.txt))) rfl (by clear hst1 hst2; go_simp) (by clear hst1 hst2; rw [← strL_app]; go_simp) hst2) ⟨hk2, ?_⟩)
                  (try simp only [Act.put, List.setIfInBounds_toArray, List.set_cons_zero, List.set_cons_succ])
                  refine wpH_end (by kernel_rfl) ?_
                  have hbw : wl.heap.size ≤ bw := hb9
                  have hS9 : Sees wl X2 := by rw [hX2, hX1]; exact (((SV.out.trans s5).setCell (p := ⟨bw, m * 14 + 1, none⟩) hbw _).setCell (p := ⟨bw, m * 14 + 2, none⟩) hbw _)
                  have hO9 : rnEl.Own (fun b => wl.heap.size ≤ b) X2 (.slice (some ⟨bw, 0, none⟩) (m + 1) cu) (wantF [] 0 (cs.take (i + 1))) := by rw [HLG.out]; exact ho2
                  have HO9 := Lib.hid hO9
                  have HS9 := Lib.hid hS9
                  clear hS0 hk1 hk2 hB hst1 hst2 hX1 hX2 ho1 ho2 hra hra8 hfr hfr8 hS9 hO9 s5 OV CV SV RV NB
                  go_wp2
                  go_roundw
                  case rel => exact ⟨i + 1, by omega, by go_num, HO9.out, HS9.out⟩
                  case measure => simp [intOf]; omega
            | false =>
              have hpe : penOf r.c ≠ penOf c := by have := HZ.out; rw [penEq_of] at this; exact of_decide_eq_false this.symm
              have HNW : Hid (wantF [] 0 (cs.take (i + 1)) = wantF [] 0 (cs.take i) ++ [⟨i, 1, c.txt, c⟩]) := by
                unfold RowKit.Hid
                rw [EW.out, stepR_new _ _ _ (fun x hx => by rw [HLST.out] at hx; cases hx; exact hpe)]
              clear hpe HRA
              go_upto_region 14 with fail
              refine wpH_go (fun x => (Value.slice (some ⟨bw, 0, none⟩) (m + 1) cu).ownBlock = some x) 10 (by kernel_rfl) (by kernel_rfl) (by rfl) (fun hB v0 hs9 => ?_)
              have hS0 : Keeps (fun x => (Value.slice (some ⟨bw, 0, none⟩) (m + 1) cu).ownBlock = some x) v0 v0 := Keeps.refl _ v0
              have SV := Lib.hid (S5.out.trans hs9)
              have OV := Lib.hid (OW5.out.sees hs9)
              have CV := Lib.hid (HC5.out.sees hs9)
              have NB : Hid (¬ ((Value.slice (some ⟨bw, 0, none⟩) (m + 1) cu).ownBlock = some bc)) := fun e => by
                have h1 := (OW0.out.base e).2
                have := CVb.out
                omega
              clear hs9 S5 OW5 HC5
              refine wpH_take (i := 0) (v := .slice (some ⟨bw, 0, none⟩) (m + 1) cu) hB (by rfl) (by kernel_rfl) (fun _ _ _ _ _ h => h) (by rfl) hS0 (fun W hI => by clear hI; go_simp) ?_; (try simp only [Act.put, List.setIfInBounds_toArray, List.set_cons_zero, List.set_cons_succ])
              refine wpH_take (i := 1) (v := .int .i64 (i : Int)) hB (by rfl) (by kernel_rfl) (fun _ _ _ _ _ h => h) (by rfl) hS0 (fun W hI => by clear hI; go_simp) ?_; (try simp only [Act.put, List.setIfInBounds_toArray, List.set_cons_zero, List.set_cons_succ])
              refine wpH_take (i := 2) (v := c.val) hB (by rfl) (by kernel_rfl) (fun _ _ _ _ _ h => h) (by rfl) hS0 (fun W hI => exec_load rfl rfl (run_loadCell (CV.out.keeps hI NB.out))) ?_
              (try simp only [Act.put, List.setIfInBounds_toArray, List.set_cons_zero, List.set_cons_succ])
              refine wpH_take (i := 4) (v := .pointer (some ⟨bc, 5, none⟩)) hB (by rfl) (by kernel_rfl) (fun _ _ _ _ _ h => h) (by rfl) hS0 (fun W hI => by clear hI; go_simp) ?_; (try simp only [Act.put, List.setIfInBounds_toArray, List.set_cons_zero, List.set_cons_succ])
              refine wpH_take (i := 5) (v := c.pen) hB (by rfl) (by kernel_rfl) (fun _ _ _ _ _ h => h) (by rfl) hS0 (fun W hI => exec_load rfl rfl (run_loadPen (p := 0) (CV.out.keeps hI NB.out))) ?_
              (try simp only [Act.put, List.setIfInBounds_toArray, List.set_cons_zero, List.set_cons_succ])
              refine wpH_one (i := 3) (by kernel_rfl) (wpOp_enter (fn := 23) (args := #[c.val]) (by rfl) (by rfl) (by go_simp) ((KC.out _).mono ?_))
              rintro ee W5 ⟨rfl, s5⟩
              have hS1 := hS0.trans (Keeps.of_sees s5)
              refine ⟨_, rfl, hS1, ?_⟩
              (try simp only [Act.put, List.setIfInBounds_toArray, List.set_cons_zero, List.set_cons_succ])
              clear hS0
              refine wpH_take (i := 6) (v := Rn.val ⟨i, 1, c.txt, c⟩) hB (by rfl) (by kernel_rfl) (fun _ _ _ _ _ h => h) (by rfl) hS1 (fun W hI => exec_build4 (a := .int .i64 (i : Int)) (b := .int .i64 1) (c := .string (strL c.txt)) (d := c.pen) rfl (by clear hI; go_simp) (by clear hI; go_simp) (by clear hI; go_simp) (by clear hI; go_simp) (run_buildRn i 1 c.txt c W)) ?_
              (try simp only [Act.put, List.setIfInBounds_toArray, List.set_cons_zero, List.set_cons_succ])
              have sA : Sees W5 (W5.alloc (.cells (Rn.vals ⟨i, 1, c.txt, c⟩).toArray 58)) := (Sees.refl W5).alloc _
              have HRW := Lib.hid (heap_alloc_new W5 (.cells (Rn.vals ⟨i, 1, c.txt, c⟩).toArray 58))
              have HO6 := Lib.hid ((OV.out.sees s5).cut.sees sA)
              have HFX := Lib.hid (show ∀ b, (wl.heap.size ≤ b ∧ b < W5.heap.size) → b < (W5.alloc (.cells (Rn.vals ⟨i, 1, c.txt, c⟩).toArray 58)).heap.size from fun b hb => by rw [World.size_alloc]; omega)
              have HXL := Lib.hid (show (wantF [] 0 (cs.take i)).length + [(⟨i, 1, c.txt, c⟩ : Rn)].length ≤ 100000000 by rw [List.length_singleton, ← HQL.out]; omega)
              have HS6 := Lib.hid ((SV.out.trans s5).trans sA)
              have hS2 := hS1.trans (Keeps.of_sees sA)
              refine wpH_one (i := 7) (by kernel_rfl) (wpOp_val (v := .slice (some ⟨W5.heap.size, 0, none⟩) 1 1) (w' := W5.alloc (.cells (Rn.vals ⟨i, 1, c.txt, c⟩).toArray 58)) (by rfl) (wanted_none (by rfl) _) (exec_buildS (a := Rn.val ⟨i, 1, c.txt, c⟩) rfl (by go_simp) (run_buildSRn ⟨i, 1, c.txt, c⟩ W5)) ⟨hS2, ?_⟩)
              (try simp only [Act.put, List.setIfInBounds_toArray, List.set_cons_zero, List.set_cons_succ])
              obtain ⟨v7, w7, ha7, ho7, hk7⟩ := El.run_append_own typedRn 55 HO6.out ⟨W5.heap.size, 0, none⟩ 1 1 (Rn.vals ⟨i, 1, c.txt, c⟩) [⟨i, 1, c.txt, c⟩] (fun _ => False) (El.ownIn_one (E := rnEl) rfl) rfl (fun j u hu => El.row_cells HRW.out j u hu) HFX.out (fun b hb => hb.elim) HXL.out
              have hS3 := hS2.trans hk7
              refine wpH_one (i := 8) (by kernel_rfl) (wpOp_val (v := v7) (w' := w7) (by rfl) (wanted_none (by rfl) _) (exec_append (v := .slice (some ⟨bw, 0, none⟩) (m + 1) cu) (u := .slice (some ⟨W5.heap.size, 0, none⟩) 1 1) rfl (by go_simp) (by go_simp) ha7) ⟨hS3, ?_⟩)
              (try simp only [Act.put, List.setIfInBounds_toArray, List.set_cons_zero, List.set_cons_succ])
              have HO7 := Lib.hid ho7
              have HK7 := Lib.hid hk7
              clear ho7 hk7 ha7 s5 sA hS1 hS2
              have hS0 := hS3
              refine wpH_take (i := 9) (v := v7) hB (by rfl) (by kernel_rfl) (fun _ _ _ _ _ h => h) (by rfl) hS0 (fun W hI => by clear hI; go_simp) ?_; (try simp only [Act.put, List.setIfInBounds_toArray, List.set_cons_zero, List.set_cons_succ])
              refine wpH_end (by kernel_rfl) ?_
              clear hS0 hS3 hB
              have hS7 : Sees wl w7 := El.keep_new HS6.out HK7.out (fun g hg => ((HO6.out.base hg).1).1)
              have hO8 : rnEl.Own (fun b => wl.heap.size ≤ b) w7 v7 (wantF [] 0 (cs.take i) ++ [⟨i, 1, c.txt, c⟩]) := HO7.out.mono fun b _ hb => by
                rcases hb with hb | hb | hb
                · exact hb.1
                · exact hb.elim
                · have := HS6.out.size; omega
              rw [← HNW.out] at hO8
              have HO8 := Lib.hid hO8
              have HS8 := Lib.hid hS7
              clear hS7 hO8 HRW HO6 HFX HXL HS6 HO7 HK7 NB CV SV OV KC
              go_wp2
              go_roundw
              case rel => exact ⟨i + 1, by omega, by go_num, HO8.out, HS8.out⟩
              case measure => simp [intOf]; omega
        · obtain rfl : i = U := by omega
          have hwa : wantF [] 0 (cs.take i) = runsL cs := by rw [HUU.out]; exact wantF_all cs
          rw [hwa] at hO
          obtain ⟨au, cu, hu, _⟩ := hO.slice
          obtain ⟨q, hq⟩ : ∃ q, q = (runsL cs).length := ⟨_, rfl⟩
          rw [← hq] at hu
          subst hu
          have hq40 : (runsL cs).length ≤ 1000 := by
            have h1 := wantF_len (cs.take (usedN cs)) [] 0
            have h2 := HN.out
            rw [wantF_all, List.length_take, List.length_nil] at h1
            omega
          have HRW := Lib.hid hO.rd
          have L4 := Lib.hid (L3.out.sees hS)
          have S4 := Lib.hid (S3.out.trans hS)
          have SW := Lib.hid hS
          have KM : Hid (∀ W, Sees w W → Calls Tryz.prog 13 #[.agg #[.slice a n cp, .bool so]] W fun e w' => e = .returned (.string (strL (mkL cs so))) ∧ Sees W w') := fun W hs => marked_any _ cs so F W (H.out.sees hs) HOK.out.symm HB.out
          have KR : Hid (∀ W, Sees wr W → Calls Tryz.prog 20 #[.agg #[.slice a n cp, .bool so], .slice au q cu, .int .i64 0] W fun e w' => e = .returned (.bool true) ∧ Sees W w') := fun W hs => by
            have h := runs48_any _ _ (.slice a n cp) (.slice au q cu) ⟨cs, so⟩ (runsL cs) 0 W (HW.out.sees (S4.out.trans hs)).t (H.out.sees (S4.out.trans hs)) (by show cs.length ≤ _; rw [← HN.out]; omega) (HRW.out.sees hs) (by omega)
            simp only [← HOK.out, if_true] at h
            exact h.mono fun e W' ⟨he, s⟩ => ⟨he.trans (by simp), s⟩
          have KA : Hid (∀ W, Sees w W → Calls Tryz.prog 21 #[.agg #[.slice a n cp, .bool so], .string (strL (mkL cs so)), .int .i64 0] W fun e w' => e = .returned (.bool true) ∧ Sees W w') := fun W hs => by
            have h := marks_true (.slice a n cp) cs so _ W (HW.out.sees hs) (H.out.sees hs) (by rw [← HN.out]; omega) HB.out
            simp only [← HOK.out, if_true] at h
            exact h
          have hml : (mkL cs so).length ≤ 1000000000 := by have := mkL_len cs so; rw [← HN.out] at this; omega
          have KD : Hid (∀ (N : Int) (u : Value) (y : Ln) (no : Int) (W : World), lineB (mkL cs so) N = (y.cells, y.soft, no) → Sees w W → cellEl.Rd (fun _ => True) W u y.cells → Calls Tryz.prog 9 #[.string (strL (mkL cs so)), .int .i64 N, .agg #[u, .bool y.soft], .int .i64 no] W fun e w' => e = .returned (.bool true) ∧ Sees W w') := fun N u y no W he hs hr => by
            have h := reads_any (mkL cs so) N hml u y _ no W (HW.out.sees hs) hr
            rwa [he, decide_eq_true rfl] at h
          have HE1 := Lib.hid (line_same HOK.out.symm HB.out so)
          have HE2 := Lib.hid (line_mk HOK.out.symm HB.out so)
          rw [← HN.out] at HE1
          obtain ⟨M, hM⟩ : ∃ M, M = mkL cs so := ⟨_, rfl⟩
          rw [← hM] at KM KA KD HE1 HE2
          clear hwa hq hq40 hml hM hO hS L3 S3
          go_wp2_with (guard_target = wpList _ _ _ ({ dst := some 93, op := _, type := _, pos := _, after := _, guard := _ } :: _) _ _; refine wpList_val rfl (exec_load (v := .agg #[.slice a n cp, .bool so]) rfl rfl (run_loadLn L4.out)) (fun K hK => ?_); go_simp; refine hK _ _ ?_; clear hK K)
          refine (KM.out _ S4.out).mono ?_
          rintro e W5 ⟨rfl, s5⟩
          have L5 := Lib.hid (L4.out.sees s5)
          have S5 := Lib.hid (S4.out.trans s5)
          have R5 := Lib.hid s5
          clear s5 KM L4 S4
          go_wp2_with (guard_target = wpList _ _ _ ({ dst := some 95, op := _, type := _, pos := _, after := _, guard := _ } :: _) _ _; refine wpList_val rfl (exec_load (v := .agg #[.slice a n cp, .bool so]) rfl rfl (run_loadLn L5.out)) (fun K hK => ?_); go_simp; refine hK _ _ ?_; clear hK K)
          refine (KR.out _ R5.out).mono ?_
          rintro e W6 ⟨rfl, s6⟩
          have L6 := Lib.hid (L5.out.sees s6)
          have S6 := Lib.hid (S5.out.trans s6)
          clear s6 KR L5 S5 R5 HRW
          go_wp2_with (guard_target = wpList _ _ _ ({ dst := some 100, op := _, type := _, pos := _, after := _, guard := _ } :: _) _ _; refine wpList_valG (by go_simp) (exec_load (v := .agg #[.slice a n cp, .bool so]) rfl rfl (run_loadLn L6.out)) (fun K hK => ?_); go_simp; refine hK _ _ ?_; clear hK K)
          refine (KA.out _ S6.out).mono ?_
          rintro e W7 ⟨rfl, s7⟩
          have L7 := Lib.hid (L6.out.sees s7)
          have S7 := Lib.hid (S6.out.trans s7)
          obtain ⟨l0, l1⟩ := L7.out.c
          clear s7 KA L6 S6
          go_wp2_with (guard_target = wpList _ _ _ ({ dst := some 110, op := _, type := _, pos := _, after := _, guard := _ } :: _) _ _; refine wpList_valG (by go_simp) (exec_load (v := .agg #[.slice a n cp, .bool so]) rfl rfl (run_loadLn L7.out)) (fun K hK => ?_); go_simp; refine hK _ _ ?_; clear hK K)
          refine (KD.out n (.slice a n cp) ⟨cs, so⟩ 0 _ HE1.out S7.out (H.out.sees S7.out).all).mono ?_
          rintro e W8 ⟨rfl, s8⟩
          have L8 := Lib.hid (L7.out.sees s8)
          have S8 := Lib.hid (S7.out.trans s8)
          clear s8 L7 S7 l0 l1
          by_cases hm2 : more < -2000 ∨ 2000 < more
          · rcases (show more < -2000 ∨ (¬ more < -2000 ∧ more > 2000) by omega) with k1 | ⟨k1, k2⟩
            · clear hm2
              go_wp2_with fail
              refine (KN.out _ S8.out).mono ?_
              rintro e Wk ⟨rfl, sk⟩
              have Sk := Lib.hid (S8.out.trans sk)
              go_wp2
              go_ret
              exact ⟨rfl, Sk.out⟩
            · clear hm2
              go_wp2_with fail
              refine (KN.out _ S8.out).mono ?_
              rintro e Wk ⟨rfl, sk⟩
              have Sk := Lib.hid (S8.out.trans sk)
              go_wp2
              go_ret
              exact ⟨rfl, Sk.out⟩
          · have k1 : ¬ more < -2000 := by omega
            have k2 : ¬ more > 2000 := by omega
            obtain ⟨N, hN⟩ : ∃ N : Int, N = (n : Int) + more := ⟨_, rfl⟩
            have hwN : IntKind.i64.wrap ((n : Int) + more) = N := by rw [hN]; exact IntWalk.i64_in _ (by omega)
            obtain ⟨l0, l1⟩ := L8.out.c
            clear hN
            by_cases hN2 : N < 0 ∨ 1000 < N
            · have HE3 : Hid (lineB M N = ([], false, 2)) := by unfold RowKit.Hid; rw [HE2.out, if_pos hN2]
              have KX := Lib.hid (fun W hs => KD.out N (.slice none 0 0) ⟨[], false⟩ 2 W HE3.out hs (El.Rd.nil _ _))
              rcases (show N < 0 ∨ (¬ N < 0 ∧ N > 1000) by omega) with j1 | ⟨j1, j2⟩
              · clear hN2 hm2
                go_wp2_with fail
                refine (KX.out _ S8.out).mono ?_
                rintro e W9 ⟨rfl, s9⟩
                have S9 := Lib.hid (S8.out.trans s9)
                clear s9 KX
                go_wp2_with fail
                refine (KN.out _ S9.out).mono ?_
                rintro e Wk ⟨rfl, sk⟩
                have Sk := Lib.hid (S9.out.trans sk)
                go_wp2
                go_ret
                exact ⟨rfl, Sk.out⟩
              · clear hN2 hm2
                go_wp2_with fail
                refine (KX.out _ S8.out).mono ?_
                rintro e W9 ⟨rfl, s9⟩
                have S9 := Lib.hid (S8.out.trans s9)
                clear s9 KX
                go_wp2_with fail
                refine (KN.out _ S9.out).mono ?_
                rintro e Wk ⟨rfl, sk⟩
                have Sk := Lib.hid (S9.out.trans sk)
                go_wp2
                go_ret
                exact ⟨rfl, Sk.out⟩
            · have j1 : ¬ N < 0 := by omega
              have j2 : ¬ N > 1000 := by omega
              by_cases hlu : N < (i : Int)
              · have HE3 : Hid (lineB M N = ([], false, 3)) := by unfold RowKit.Hid; rw [HE2.out, if_neg hN2, if_pos (by rw [← HUU.out]; exact hlu)]
                have KX := Lib.hid (fun W hs => KD.out N (.slice none 0 0) ⟨[], false⟩ 3 W HE3.out hs (El.Rd.nil _ _))
                clear hN2 hm2
                go_wp2_with fail
                refine (KX.out _ S8.out).mono ?_
                rintro e W9 ⟨rfl, s9⟩
                have S9 := Lib.hid (S8.out.trans s9)
                clear s9 KX
                go_wp2_with fail
                refine (KN.out _ S9.out).mono ?_
                rintro e Wk ⟨rfl, sk⟩
                have Sk := Lib.hid (S9.out.trans sk)
                go_wp2
                go_ret
                exact ⟨rfl, Sk.out⟩
              · obtain ⟨N', rfl⟩ : ∃ N' : Nat, N = N' := ⟨N.toNat, by omega⟩
                have HE3 : Hid (lineB M (N' : Int) = (cs.take i ++ List.replicate (N' - i) blankC, so, 0)) := by unfold RowKit.Hid; rw [HE2.out, if_neg hN2, if_neg (by rw [← HUU.out]; exact hlu), Int.toNat_natCast, ← HUU.out]
                have hiN : i ≤ N' := by omega
                have hnd : (decide (N' < i)) = false := decide_eq_false (by omega)
                have hnd2 : ¬ (N' < i) := by omega
                have HPR := Lib.hid (H.out.take i (by rw [← HN.out]; exact hUn) cp (by omega))
                clear hN2 hm2
                go_upto_region 25 with fail
                clear l0 l1
                refine wpH_go (fun _ => False) 10 (by kernel_rfl) (by kernel_rfl) (by rfl) (fun hB v0 hs9 => ?_)
                have hS0 : Keeps (fun _ => False) v0 v0 := Keeps.refl _ v0
                have SV := Lib.hid (S8.out.trans hs9)
                have LV := Lib.hid (L8.out.sees hs9)
                obtain ⟨c0, c1⟩ := LV.out.c
                have C0 := Lib.hid c0
                have C1 := Lib.hid c1
                have hci : i ≤ cp := by omega
                clear hs9 c0 c1 S8 L8
                refine wpH_take (i := 0) (v := .pointer (some ⟨w.heap.size, 0, none⟩)) hB (by rfl) (by kernel_rfl) (fun _ _ _ _ _ h => h) (by rfl) hS0 (fun W hI => by clear hI; go_simp) ?_; (try simp only [Act.put, List.setIfInBounds_toArray, List.set_cons_zero, List.set_cons_succ])
                refine wpH_take (i := 1) (v := .slice a n cp) hB (by rfl) (by kernel_rfl) (fun _ _ _ _ _ h => h) (by rfl) hS0 (fun W hI => by have z0 := hI.cell (fun h => h) C0.out; clear hI; go_simp) ?_; (try simp only [Act.put, List.setIfInBounds_toArray, List.set_cons_zero, List.set_cons_succ])
                refine wpH_take (i := 2) (v := .int .i64 (i : Int)) hB (by rfl) (by kernel_rfl) (fun _ _ _ _ _ h => h) (by rfl) hS0 (fun W hI => by clear hI; go_simp) ?_; (try simp only [Act.put, List.setIfInBounds_toArray, List.set_cons_zero, List.set_cons_succ])
                refine wpH_take (i := 3) (v := .slice a i cp) hB (by rfl) (by kernel_rfl) (fun _ _ _ _ _ h => h) (by rfl) hS0 (fun W hI => by clear hI; go_simp) ?_; (try simp only [Act.put, List.setIfInBounds_toArray, List.set_cons_zero, List.set_cons_succ])
                refine wpH_take (i := 5) (v := .pointer (some ⟨w.heap.size, 1, none⟩)) hB (by rfl) (by kernel_rfl) (fun _ _ _ _ _ h => h) (by rfl) hS0 (fun W hI => by clear hI; go_simp) ?_; (try simp only [Act.put, List.setIfInBounds_toArray, List.set_cons_zero, List.set_cons_succ])
                refine wpH_take (i := 6) (v := .bool so) hB (by rfl) (by kernel_rfl) (fun _ _ _ _ _ h => h) (by rfl) hS0 (fun W hI => by have z0 := hI.cell (fun h => h) C1.out; clear hI; go_simp) ?_; (try simp only [Act.put, List.setIfInBounds_toArray, List.set_cons_zero, List.set_cons_succ])
                refine wpH_two (i := 4) (j := 8) (by kernel_rfl) ?_ ?_
                · obtain ⟨v7, w7, ha7, ho7, hk7, _⟩ := El.run_append_row typedCell 25 (El.Row.nil (E := cellEl) v0.heap.size (fun _ => True) v0) (.slice a i cp) (cs.take i) ((HPR.out.sees ((SV.out).trans (hS0.sees_end (fun _ _ h => h)))).all) (fun b _ e => by cases e) (by have h1 := HN.out; rw [List.length_nil, List.length_take]; omega) (Nat.le_refl _)
                  rw [List.nil_append] at ho7
                  have o7 := cell_row_own ho7
                  have hS0 := hS0.trans (hk7.mono fun b _ e => by cases e)
                  obtain ⟨a7, c7, hv7, _⟩ := o7.slice
                  have hti : (cs.take i).length = i := by have h1 := HN.out; rw [List.length_take]; omega
                  rw [hti] at hv7
                  subst hv7
                  have sap : Sees v0 w7 := hk7.sees_end (fun g hg e => by cases e)
                  refine wpOp_val (v := .slice a7 i c7) (w' := w7) (by rfl) (wanted_none (by rfl) _) (exec_append (v := .slice none 0 0) (u := .slice a i cp) rfl (by clear ha7; go_simp) (by clear ha7; go_simp) ha7) ⟨hS0, ?_⟩
                  (try simp only [Act.put, List.setIfInBounds_toArray, List.set_cons_zero, List.set_cons_succ])
                  refine wpH_take (i := 7) (v := .agg #[.slice a7 i c7, .bool so]) hB (by rfl) (by kernel_rfl) (fun _ _ _ _ _ h => h) (by rfl) hS0 (fun W hI => by clear hI; go_simp) ?_; (try simp only [Act.put, List.setIfInBounds_toArray, List.set_cons_zero, List.set_cons_succ])
                  obtain ⟨bx, hbx⟩ : ∃ b, b = w7.heap.size := ⟨_, rfl⟩
                  obtain ⟨x1, hnew⟩ : ∃ x, x = w7.alloc (.cells #[.slice none 0 0, .bool false] 27) := ⟨_, rfl⟩
                  have sal : Sees w7 x1 := by rw [hnew]; exact (Sees.refl w7).alloc _
                  have lz : LnAt x1 bx (.slice none 0 0) false := by rw [hnew, hbx]; exact LnAt.new rfl
                  have hbz : v0.heap.size ≤ bx := by have := hS0.size; omega
                  have hS0 := hS0.trans (Keeps.of_sees (F := fun _ => False) sal)
                  refine wpH_one (i := 8) (by kernel_rfl) (wpOp_val (v := .pointer (some ⟨bx, 0, none⟩)) (w' := x1) (by rfl) (wanted_none (by rfl) _) (by rw [hbx, hnew]; exact exec_alloc_ln rfl) ⟨hS0, ?_⟩)
                  (try simp only [Act.put, List.setIfInBounds_toArray, List.set_cons_zero, List.set_cons_succ])
                  have lz2 : LnAt x1 bx (.slice none 0 0) false := lz
                  have hst := run_storeLn (u := .slice a7 i c7) (so' := so) lz2 rfl
                  obtain ⟨x9, hx9⟩ : ∃ x9, x9 = x1.setRow bx #[.slice a7 i c7, .bool so] := ⟨_, rfl⟩
                  have hS9 : Keeps (fun _ => False) v0 x9 := by rw [hx9]; exact Keeps.setRow' hS0 hbz _
                  have hl9 : LnAt x9 bx (.slice a7 i c7) so := by rw [hx9]; exact setRow_heap _ _ _ _ _ _ lz2
                  have ho9 : cellEl.Own (fun b => v0.heap.size ≤ b ∧ b ≠ bx) x9 (.slice a7 i c7) (cs.take i) := by rw [hx9]; exact ((o7.mono (fun b hb h => (⟨h, by omega⟩ : v0.heap.size ≤ b ∧ b ≠ bx))).sees sal).keeps (Keeps.setRowF (F := fun y => y = bx) (Keeps.refl _ x1) rfl _) (fun b hb e => hb.2 e)
                  rw [← hx9] at hst
                  refine wpH_one (i := 9) (by kernel_rfl) (wpOp_skip (w' := x9) (by rfl) (wanted_none (by rfl) _) (exec_store (a := .pointer (some ⟨bx, 0, none⟩)) (v := .agg #[.slice a7 i c7, .bool so]) rfl (by clear hst; go_simp) (by clear hst; go_simp) hst) ⟨hS9, ?_⟩)
                  (try simp only [Act.put, List.setIfInBounds_toArray, List.set_cons_zero, List.set_cons_succ])
                  refine wpH_end (by kernel_rfl) ?_
                  have S9 := Lib.hid (SV.out.trans (hS9.sees_end (fun _ _ h => h)))
                  have HL9 := Lib.hid hl9
                  have HO9 := Lib.hid ho9
                  have HZ9 : Hid (bx < x9.heap.size) := (Array.getElem?_eq_some_iff.1 hl9).1
                  have HVZ := Lib.hid hbz
                  have HV0 : Hid (Sees v0 x9) := hS9.sees_end (fun _ _ h => h)
                  clear hS0 hS9 hl9 ho9 lz lz2 hst hx9 sal sap hB ho7 hk7 ha7 o7 hnew hbx hbz
                  go_wp2
                  go_loopw [] (fun W => ∃ (j : Nat) (a8 : Option Addr) (c8 : Nat), i + j ≤ N' ∧ LnAt W bx (.slice a8 (i + j) c8) so ∧ cellEl.Own (fun b => v0.heap.size ≤ b ∧ b ≠ bx) W (.slice a8 (i + j) c8) (cs.take i ++ List.replicate j blankC) ∧ Sees v0 W) (fun W => N' - lenAt W bx)
                  case atStart => exact ⟨0, a7, c7, by omega, HL9.out, by simpa using HO9.out, HV0.out⟩
                  case round =>
                    obtain ⟨j, a8, c8, hj, hL, hO, hV⟩ := hrel
                    obtain ⟨l0, l1⟩ := hL.c
                    have LL := Lib.hid hL
                    have OO := Lib.hid hO
                    have VV := Lib.hid hV
                    clear hL hO hV
                    by_cases hlt2 : i + j < N'
                    · have hin : ((i + j : Nat) : Int) < N' := by omega
                      have HRW := Lib.hid (heap_alloc_new wr (.cells blankC.vals.toArray 42))
                      have sal : Sees wr (wr.alloc (.cells blankC.vals.toArray 42)) := (Sees.refl wr).alloc _
                      have HO6 := Lib.hid (OO.out.cut.sees sal)
                      have hlen : (cs.take i ++ List.replicate j blankC).length = i + j := by have h1 := HN.out; rw [List.length_append, List.length_replicate, List.length_take]; omega
                      obtain ⟨v7, w7, ha7, ho7, hk7⟩ := El.run_append_own typedCell 25 HO6.out ⟨wr.heap.size, 0, none⟩ 1 1 blankC.vals [blankC] (fun _ => False) (El.ownIn_one (E := cellEl) rfl) rfl (fun j u hu => El.row_cells HRW.out j u hu) (fun b hb => by have := sal.size; omega) (fun b hb => hb.elim) (by rw [hlen, List.length_singleton]; omega)
                      obtain ⟨a9, c9, hv9, _⟩ := ho7.slice
                      have hl2 : (cs.take i ++ List.replicate j blankC ++ [blankC]).length = i + (j + 1) := by rw [List.length_append, hlen]; rfl
                      rw [hl2] at hv9
                      subst hv9
                      have hrep : cs.take i ++ List.replicate j blankC ++ [blankC] = cs.take i ++ List.replicate (j + 1) blankC := by rw [List.append_assoc, ← List.replicate_succ']
                      rw [hrep] at ho7
                      have L7 : Hid (LnAt w7 bx (.slice a8 (i + j) c8) so) := (LL.out.sees sal).keeps hk7 (fun e => (((HO6.out.base e).1).1).2 rfl)
                      have V7 : Hid (Sees v0 w7) := El.keep_new (VV.out.trans sal) hk7 (fun g hg => (((HO6.out.base hg).1).1).1)
                      have O7 : Hid (cellEl.Own (fun b => v0.heap.size ≤ b ∧ b ≠ bx) w7 (.slice a9 (i + (j + 1)) c9) (cs.take i ++ List.replicate (j + 1) blankC)) := ho7.mono fun b _ hb => by
                        have hz := VV.out.size
                        have hbx := (Array.getElem?_eq_some_iff.1 LL.out).1
                        rcases hb with hb | hb | hb
                        · exact hb.1
                        · exact hb.elim
                        · rw [World.size_alloc] at hb
                          exact ⟨by omega, by omega⟩
                      have HA7 := Lib.hid ha7
                      clear ha7 ho7 hk7 HO6 sal hlen hl2 hrep HRW OO
                      go_wp2_with (first
                        | (guard_target = wpList _ _ _ ({ dst := some 166, op := _, type := _, pos := _, after := _, guard := _ } :: _) _ _; refine wpList_val rfl (exec_buildL (vals := [(2, .int .i64 1)]) (v := blankC.val) rfl rfl (by kernel_rfl)) (fun K hK => ?_); go_simp; refine hK _ _ ?_; clear hK K)
                        | (guard_target = wpList _ _ _ ({ dst := some 167, op := _, type := _, pos := _, after := _, guard := _ } :: _) _ _; refine wpList_val rfl (exec_sliceL (vals := [(0, blankC.val)]) rfl rfl (run_buildOne blankC _)) (fun K hK => ?_); go_simp; refine hK _ _ ?_; clear hK K)
                        | (guard_target = wpList _ _ _ ({ dst := some 168, op := _, type := _, pos := _, after := _, guard := _ } :: _) _ _; refine wpList_val rfl (exec_append (v := .slice a8 (i + j) c8) (u := .slice (some ⟨wr.heap.size, 0, none⟩) 1 1) rfl (by go_simp) (by go_simp) HA7.out) (fun K hK => ?_); go_simp; refine hK _ _ ?_; clear hK K)
                        | (guard_target = wpList _ _ _ ({ dst := none, op := _, type := _, pos := _, after := _, guard := _ } :: _) _ _; refine wpList_skip rfl (exec_store (v := .slice a9 (i + (j + 1)) c9) rfl rfl rfl (run_storeCs L7.out a9 (i + (j + 1)) c9)) (fun K hK => ?_); go_simp; refine hK _ _ ?_; clear hK K))
                      go_roundw
                      case rel => exact ⟨j + 1, a9, c9, by omega, heap_setCell_same _ _ _ _ _ _ L7.out, O7.out.keeps (Keeps.setCell (F := fun y => y = bx) (Keeps.refl _ w7) (p := ⟨bx, 0, none⟩) (fun _ => rfl) _) (fun b hb e => hb.2 e), V7.out.setCell (p := ⟨bx, 0, none⟩) HVZ.out _⟩
                      case measure =>
                        have e1 : lenAt wr bx = i + j := lenAt_of l0
                        have h9 : LnAt (w7.setCell ⟨bx, 0, none⟩ (.slice a9 (i + (j + 1)) c9)) bx (.slice a9 (i + (j + 1)) c9) so := heap_setCell_same _ _ 0 _ _ (.slice a9 (i + (j + 1)) c9) L7.out
                        have e2 : lenAt (w7.setCell ⟨bx, 0, none⟩ (.slice a9 (i + (j + 1)) c9)) bx = i + (j + 1) := lenAt_of h9.c.1
                        rw [e1, e2]; omega
                    · obtain rfl : N' = i + j := by omega
                      have S10 := Lib.hid (SV.out.trans VV.out)
                      have O10 := Lib.hid OO.out.rd.all
                      have hdec : i + j - i = j := by omega
                      rw [hdec] at HE3
                      have KX : Hid (∀ W, Sees wr W → Calls Tryz.prog 9 #[.string (strL M), .int .i64 ((i + j : Nat) : Int), .agg #[.slice a8 (i + j) c8, .bool so], .int .i64 0] W fun e w' => e = .returned (.bool true) ∧ Sees W w') := fun W hs => KD.out ((i + j : Nat) : Int) (.slice a8 (i + j) c8) ⟨cs.take i ++ List.replicate j blankC, so⟩ 0 W HE3.out (S10.out.trans hs) (O10.out.sees hs)
                      clear hlt2 hj hdec
                      go_wp2_with (guard_target = wpList _ _ _ ({ dst := some 172, op := _, type := _, pos := _, after := _, guard := _ } :: _) _ _; refine wpList_val rfl (exec_load (v := .agg #[.slice a8 (i + j) c8, .bool so]) rfl rfl (run_loadLn LL.out)) (fun K hK => ?_); go_simp; refine hK _ _ ?_; clear hK K)
                      refine (KX.out _ (Sees.refl _)).mono ?_
                      rintro e Wz ⟨rfl, sz⟩
                      have Sz := Lib.hid (S10.out.trans sz)
                      clear sz KX
                      go_wp2_with fail
                      refine (KN.out _ Sz.out).mono ?_
                      rintro e Wk ⟨rfl, sk⟩
                      have Sk := Lib.hid (Sz.out.trans sk)
                      go_wp2
                      go_ret
                      exact ⟨rfl, Sk.out⟩
                · obtain ⟨bx, hbx⟩ : ∃ b, b = v0.heap.size := ⟨_, rfl⟩
                  obtain ⟨x1, hnew⟩ : ∃ x, x = v0.alloc (.cells #[.slice none 0 0, .bool false] 27) := ⟨_, rfl⟩
                  have sal : Sees v0 x1 := by rw [hnew]; exact (Sees.refl v0).alloc _
                  have lz : LnAt x1 bx (.slice none 0 0) false := by rw [hnew, hbx]; exact LnAt.new rfl
                  have hbz : v0.heap.size ≤ bx := by have := hS0.size; omega
                  have hS0 := hS0.trans (Keeps.of_sees (F := fun _ => False) sal)
                  refine wpOp_val (v := .pointer (some ⟨bx, 0, none⟩)) (w' := x1) (by rfl) (wanted_none (by rfl) _) (by rw [hbx, hnew]; exact exec_alloc_ln rfl) ⟨hS0, ?_⟩
                  (try simp only [Act.put, List.setIfInBounds_toArray, List.set_cons_zero, List.set_cons_succ])
                  obtain ⟨v7, w7, ha7, ho7, hk7, _⟩ := El.run_append_row typedCell 25 (El.Row.nil (E := cellEl) x1.heap.size (fun _ => True) x1) (.slice a i cp) (cs.take i) ((HPR.out.sees ((SV.out).trans (hS0.sees_end (fun _ _ h => h)))).all) (fun b _ e => by cases e) (by have h1 := HN.out; rw [List.length_nil, List.length_take]; omega) (Nat.le_refl _)
                  rw [List.nil_append] at ho7
                  have o7 := cell_row_own ho7
                  have hS0 := hS0.trans (hk7.mono fun b _ e => by cases e)
                  obtain ⟨a7, c7, hv7, _⟩ := o7.slice
                  have hti : (cs.take i).length = i := by have h1 := HN.out; rw [List.length_take]; omega
                  rw [hti] at hv7
                  subst hv7
                  have sap : Sees x1 w7 := hk7.sees_end (fun g hg e => by cases e)
                  refine wpH_one (i := 4) (by kernel_rfl) (wpOp_val (v := .slice a7 i c7) (w' := w7) (by rfl) (wanted_none (by rfl) _) (exec_append (v := .slice none 0 0) (u := .slice a i cp) rfl (by clear ha7; go_simp) (by clear ha7; go_simp) ha7) ⟨hS0, ?_⟩)
                  (try simp only [Act.put, List.setIfInBounds_toArray, List.set_cons_zero, List.set_cons_succ])
                  refine wpH_take (i := 7) (v := .agg #[.slice a7 i c7, .bool so]) hB (by rfl) (by kernel_rfl) (fun _ _ _ _ _ h => h) (by rfl) hS0 (fun W hI => by clear hI; go_simp) ?_; (try simp only [Act.put, List.setIfInBounds_toArray, List.set_cons_zero, List.set_cons_succ])
                  have lz2 : LnAt w7 bx (.slice none 0 0) false := lz.sees sap
                  have hst := run_storeLn (u := .slice a7 i c7) (so' := so) lz2 rfl
                  obtain ⟨x9, hx9⟩ : ∃ x9, x9 = w7.setRow bx #[.slice a7 i c7, .bool so] := ⟨_, rfl⟩
                  have hS9 : Keeps (fun _ => False) v0 x9 := by rw [hx9]; exact Keeps.setRow' hS0 hbz _
                  have hl9 : LnAt x9 bx (.slice a7 i c7) so := by rw [hx9]; exact setRow_heap _ _ _ _ _ _ lz2
                  have ho9 : cellEl.Own (fun b => v0.heap.size ≤ b ∧ b ≠ bx) x9 (.slice a7 i c7) (cs.take i) := by rw [hx9]; exact (o7.mono (fun b hb h => (⟨by have := sal.size; omega, by have h2 : x1.heap.size ≤ b := h; have h3 := (Array.getElem?_eq_some_iff.1 lz).1; omega⟩ : v0.heap.size ≤ b ∧ b ≠ bx))).keeps (Keeps.setRowF (F := fun y => y = bx) (Keeps.refl _ w7) rfl _) (fun b hb e => hb.2 e)
                  rw [← hx9] at hst
                  refine wpH_one (i := 9) (by kernel_rfl) (wpOp_skip (w' := x9) (by rfl) (wanted_none (by rfl) _) (exec_store (a := .pointer (some ⟨bx, 0, none⟩)) (v := .agg #[.slice a7 i c7, .bool so]) rfl (by clear hst; go_simp) (by clear hst; go_simp) hst) ⟨hS9, ?_⟩)
                  (try simp only [Act.put, List.setIfInBounds_toArray, List.set_cons_zero, List.set_cons_succ])
                  refine wpH_end (by kernel_rfl) ?_
                  have S9 := Lib.hid (SV.out.trans (hS9.sees_end (fun _ _ h => h)))
                  have HL9 := Lib.hid hl9
                  have HO9 := Lib.hid ho9
                  have HZ9 : Hid (bx < x9.heap.size) := (Array.getElem?_eq_some_iff.1 hl9).1
                  have HVZ := Lib.hid hbz
                  have HV0 : Hid (Sees v0 x9) := hS9.sees_end (fun _ _ h => h)
                  clear hS0 hS9 hl9 ho9 lz lz2 hst hx9 sal sap hB ho7 hk7 ha7 o7 hnew hbx hbz
                  go_wp2
                  go_loopw [] (fun W => ∃ (j : Nat) (a8 : Option Addr) (c8 : Nat), i + j ≤ N' ∧ LnAt W bx (.slice a8 (i + j) c8) so ∧ cellEl.Own (fun b => v0.heap.size ≤ b ∧ b ≠ bx) W (.slice a8 (i + j) c8) (cs.take i ++ List.replicate j blankC) ∧ Sees v0 W) (fun W => N' - lenAt W bx)
                  case atStart => exact ⟨0, a7, c7, by omega, HL9.out, by simpa using HO9.out, HV0.out⟩
                  case round =>
                    obtain ⟨j, a8, c8, hj, hL, hO, hV⟩ := hrel
                    obtain ⟨l0, l1⟩ := hL.c
                    have LL := Lib.hid hL
                    have OO := Lib.hid hO
                    have VV := Lib.hid hV
                    clear hL hO hV
                    by_cases hlt2 : i + j < N'
                    · have hin : ((i + j : Nat) : Int) < N' := by omega
                      have HRW := Lib.hid (heap_alloc_new wr (.cells blankC.vals.toArray 42))
                      have sal : Sees wr (wr.alloc (.cells blankC.vals.toArray 42)) := (Sees.refl wr).alloc _
                      have HO6 := Lib.hid (OO.out.cut.sees sal)
                      have hlen : (cs.take i ++ List.replicate j blankC).length = i + j := by have h1 := HN.out; rw [List.length_append, List.length_replicate, List.length_take]; omega
                      obtain ⟨v7, w7, ha7, ho7, hk7⟩ := El.run_append_own typedCell 25 HO6.out ⟨wr.heap.size, 0, none⟩ 1 1 blankC.vals [blankC] (fun _ => False) (El.ownIn_one (E := cellEl) rfl) rfl (fun j u hu => El.row_cells HRW.out j u hu) (fun b hb => by have := sal.size; omega) (fun b hb => hb.elim) (by rw [hlen, List.length_singleton]; omega)
                      obtain ⟨a9, c9, hv9, _⟩ := ho7.slice
                      have hl2 : (cs.take i ++ List.replicate j blankC ++ [blankC]).length = i + (j + 1) := by rw [List.length_append, hlen]; rfl
                      rw [hl2] at hv9
                      subst hv9
                      have hrep : cs.take i ++ List.replicate j blankC ++ [blankC] = cs.take i ++ List.replicate (j + 1) blankC := by rw [List.append_assoc, ← List.replicate_succ']
                      rw [hrep] at ho7
                      have L7 : Hid (LnAt w7 bx (.slice a8 (i + j) c8) so) := (LL.out.sees sal).keeps hk7 (fun e => (((HO6.out.base e).1).1).2 rfl)
                      have V7 : Hid (Sees v0 w7) := El.keep_new (VV.out.trans sal) hk7 (fun g hg => (((HO6.out.base hg).1).1).1)
                      have O7 : Hid (cellEl.Own (fun b => v0.heap.size ≤ b ∧ b ≠ bx) w7 (.slice a9 (i + (j + 1)) c9) (cs.take i ++ List.replicate (j + 1) blankC)) := ho7.mono fun b _ hb => by
                        have hz := VV.out.size
                        have hbx := (Array.getElem?_eq_some_iff.1 LL.out).1
                        rcases hb with hb | hb | hb
                        · exact hb.1
                        · exact hb.elim
                        · rw [World.size_alloc] at hb
                          exact ⟨by omega, by omega⟩
                      have HA7 := Lib.hid ha7
                      clear ha7 ho7 hk7 HO6 sal hlen hl2 hrep HRW OO
                      go_wp2_with (first
                        | (guard_target = wpList _ _ _ ({ dst := some 166, op := _, type := _, pos := _, after := _, guard := _ } :: _) _ _; refine wpList_val rfl (exec_buildL (vals := [(2, .int .i64 1)]) (v := blankC.val) rfl rfl (by kernel_rfl)) (fun K hK => ?_); go_simp; refine hK _ _ ?_; clear hK K)
                        | (guard_target = wpList _ _ _ ({ dst := some 167, op := _, type := _, pos := _, after := _, guard := _ } :: _) _ _; refine wpList_val rfl (exec_sliceL (vals := [(0, blankC.val)]) rfl rfl (run_buildOne blankC _)) (fun K hK => ?_); go_simp; refine hK _ _ ?_; clear hK K)
                        | (guard_target = wpList _ _ _ ({ dst := some 168, op := _, type := _, pos := _, after := _, guard := _ } :: _) _ _; refine wpList_val rfl (exec_append (v := .slice a8 (i + j) c8) (u := .slice (some ⟨wr.heap.size, 0, none⟩) 1 1) rfl (by go_simp) (by go_simp) HA7.out) (fun K hK => ?_); go_simp; refine hK _ _ ?_; clear hK K)
                        | (guard_target = wpList _ _ _ ({ dst := none, op := _, type := _, pos := _, after := _, guard := _ } :: _) _ _; refine wpList_skip rfl (exec_store (v := .slice a9 (i + (j + 1)) c9) rfl rfl rfl (run_storeCs L7.out a9 (i + (j + 1)) c9)) (fun K hK => ?_); go_simp; refine hK _ _ ?_; clear hK K))
                      go_roundw
                      case rel => exact ⟨j + 1, a9, c9, by omega, heap_setCell_same _ _ _ _ _ _ L7.out, O7.out.keeps (Keeps.setCell (F := fun y => y = bx) (Keeps.refl _ w7) (p := ⟨bx, 0, none⟩) (fun _ => rfl) _) (fun b hb e => hb.2 e), V7.out.setCell (p := ⟨bx, 0, none⟩) HVZ.out _⟩
                      case measure =>
                        have e1 : lenAt wr bx = i + j := lenAt_of l0
                        have h9 : LnAt (w7.setCell ⟨bx, 0, none⟩ (.slice a9 (i + (j + 1)) c9)) bx (.slice a9 (i + (j + 1)) c9) so := heap_setCell_same _ _ 0 _ _ (.slice a9 (i + (j + 1)) c9) L7.out
                        have e2 : lenAt (w7.setCell ⟨bx, 0, none⟩ (.slice a9 (i + (j + 1)) c9)) bx = i + (j + 1) := lenAt_of h9.c.1
                        rw [e1, e2]; omega
                    · obtain rfl : N' = i + j := by omega
                      have S10 := Lib.hid (SV.out.trans VV.out)
                      have O10 := Lib.hid OO.out.rd.all
                      have hdec : i + j - i = j := by omega
                      rw [hdec] at HE3
                      have KX : Hid (∀ W, Sees wr W → Calls Tryz.prog 9 #[.string (strL M), .int .i64 ((i + j : Nat) : Int), .agg #[.slice a8 (i + j) c8, .bool so], .int .i64 0] W fun e w' => e = .returned (.bool true) ∧ Sees W w') := fun W hs => KD.out ((i + j : Nat) : Int) (.slice a8 (i + j) c8) ⟨cs.take i ++ List.replicate j blankC, so⟩ 0 W HE3.out (S10.out.trans hs) (O10.out.sees hs)
                      clear hlt2 hj hdec
                      go_wp2_with (guard_target = wpList _ _ _ ({ dst := some 172, op := _, type := _, pos := _, after := _, guard := _ } :: _) _ _; refine wpList_val rfl (exec_load (v := .agg #[.slice a8 (i + j) c8, .bool so]) rfl rfl (run_loadLn LL.out)) (fun K hK => ?_); go_simp; refine hK _ _ ?_; clear hK K)
                      refine (KX.out _ (Sees.refl _)).mono ?_
                      rintro e Wz ⟨rfl, sz⟩
                      have Sz := Lib.hid (S10.out.trans sz)
                      clear sz KX
                      go_wp2_with fail
                      refine (KN.out _ Sz.out).mono ?_
                      rintro e Wk ⟨rfl, sk⟩
                      have Sk := Lib.hid (Sz.out.trans sk)
                      go_wp2
                      go_ret
                      exact ⟨rfl, Sk.out⟩
end Go.Proofs.YthcndmchlpohpaaGreatDoor
