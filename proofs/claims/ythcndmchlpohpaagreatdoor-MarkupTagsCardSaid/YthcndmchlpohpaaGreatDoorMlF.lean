/- MarkupTags (48): the tags of any pen. The library's variables hold what the program's text lays. -/
import Derived.Test.YthcndmchlpohpaaGreatDoorMlE
import Derived.Test.YthcndmchlpohpaaGreatDoorOpB
namespace Go.Proofs.YthcndmchlpohpaaGreatDoor
set_option linter.unusedVariables false
set_option linter.unusedSimpArgs false
open Go.RowKit Go.Shelf
attribute [local go_sem] Oper.semAt_some

set_option maxHeartbeats 1000000 in
set_option maxRecDepth 100000 in
theorem markupTags_true (c : Cell) (hb : c.Bd) (w : World) (hw : Sd w) : Calls Tryz.prog 5 #[c.pen] w fun e w' => e = .returned (.bool true) ∧ Sees w w' := by
  have KV : Hid (∀ W, Calls Tryz.prog 15 #[c.pen] W fun e w' => e = .returned (.bool c.pOk) ∧ Sees W w') := fun W => penValid_any _ _ _ _ _ _ _ _ _ _ _ W
  have KT : Hid (∀ W, Sees w W → Calls Tryz.prog 16 #[c.pen] W fun e w' => e = .returned (.string (strL (if c.pOk then tagsL c else []))) ∧ Sees W w') := fun W hs => tags_cell c hb W (hw.sees hs)
  have KL : Hid (∀ W, Calls Tryz.prog 17 #[c.pen] W fun e w' => e = .returned (.string (strL (tagsL c))) ∧ Sees W w') := fun W => ltags_any c hb W
  have KN : Hid (∀ W, Sees w W → Calls Tryz.prog 8 #[] W fun e w' => e = .returned (.bool true) ∧ Sees W w') := fun W hs => known48_any W (hw.sees hs)
  have P0 : Hid (PeAt (w.alloc (.cells c.pvals.toArray 40)) w.heap.size c) := heap_alloc_new _ _
  have S0 : Hid (Sees w (w.alloc (.cells c.pvals.toArray 40))) := (Sees.refl w).alloc _
  obtain ⟨W1, hW1⟩ : ∃ W1, W1 = w.alloc (.cells c.pvals.toArray 40) := ⟨_, rfl⟩
  rw [← hW1] at P0 S0
  have hbox : ∀ ρ : Operand → Value, ∀ o : Oper, o.op = .box 40 (.tmp 0) → ρ (.tmp 0) = c.pen → (execOp ρ o).run Tryz.prog w = .ok (.value (.pointer (some ⟨w.heap.size, 0, none⟩))) W1 := fun ρ o ho hx => by
    unfold execOp
    rw [ho]
    simp only [hx]
    rw [hW1]
    unfold Cell.pen
    go_simp
    rfl
  clear hw hW1
  go_enter Tryz.func5, Tryz.ntmps5
  go_upto_region 1 with (guard_target = wpList _ _ _ ({ dst := some 1, op := _, type := _, pos := _, after := _, guard := _ } :: _) _ _; refine wpList_val rfl (hbox _ _ rfl rfl) (fun K hK => ?_); go_simp; refine hK _ _ ?_; clear hK K)
  clear hbox
  go_wp2_with (guard_target = wpList _ _ _ ({ dst := some 3, op := _, type := _, pos := _, after := _, guard := _ } :: _) _ _; refine wpList_val rfl (exec_load (v := c.pen) rfl rfl (run_loadPe P0.out)) (fun K hK => ?_); go_simp; refine hK _ _ ?_; clear hK K)
  refine (KV.out _).mono ?_
  rintro e W2 ⟨rfl, s2⟩
  have P2 := Lib.hid (P0.out.sees s2)
  have S2 := Lib.hid (S0.out.trans s2)
  clear s2 P0 S0 KV
  obtain ⟨ok, hok⟩ : ∃ ok, ok = c.pOk := ⟨_, rfl⟩
  rw [← hok] at KT ⊢
  clear hok
  cases ok with
  | false =>
    simp only [Bool.false_eq_true, if_false] at KT
    have hem : strL [] = ⟨#[]⟩ := rfl
    rw [hem] at KT
    go_wp2_with (guard_target = wpList _ _ _ ({ dst := some 6, op := _, type := _, pos := _, after := _, guard := _ } :: _) _ _; refine wpList_val rfl (exec_load (v := c.pen) rfl rfl (run_loadPe P2.out)) (fun K hK => ?_); go_simp; refine hK _ _ ?_; clear hK K)
    refine (KT.out _ S2.out).mono ?_
    rintro e W3 ⟨rfl, s3⟩
    have S3 := Lib.hid (S2.out.trans s3)
    clear s3 P2 S2 KT
    go_wp2_with fail
    refine (KN.out _ S3.out).mono ?_
    rintro e W4 ⟨rfl, s4⟩
    have S4 := Lib.hid (S3.out.trans s4)
    clear s4 S3
    go_wp2
    go_ret
    exact ⟨rfl, S4.out⟩
  | true =>
    simp only [if_true] at KT
    obtain ⟨M, hM⟩ : ∃ M, M = tagsL c := ⟨_, rfl⟩
    rw [← hM] at KT KL
    clear hM
    go_upto_region 3 with fail
    refine wpH_go (fun _ => False) 9 (by kernel_rfl) (by kernel_rfl) (by rfl) (fun hB v0 hs9 => ?_)
    have hS0 : Keeps (fun _ => False) v0 v0 := Keeps.refl _ v0
    have P3 := Lib.hid (P2.out.sees hs9)
    have S3 := Lib.hid (S2.out.trans hs9)
    clear hs9 P2 S2
    refine wpH_take (i := 0) (v := c.pen) hB (by rfl) (by kernel_rfl) (fun _ _ _ _ _ h => h) (by rfl) hS0 (fun W hI => exec_load rfl (by go_simp) (run_loadPe (P3.out.sees (hI.sees_end (fun _ _ h => h))))) ?_; (try simp only [Act.put, List.setIfInBounds_toArray, List.set_cons_zero, List.set_cons_succ])
    refine wpH_take (i := 2) (v := c.pen) hB (by rfl) (by kernel_rfl) (fun _ _ _ _ _ h => h) (by rfl) hS0 (fun W hI => exec_load rfl (by go_simp) (run_loadPe (P3.out.sees (hI.sees_end (fun _ _ h => h))))) ?_; (try simp only [Act.put, List.setIfInBounds_toArray, List.set_cons_zero, List.set_cons_succ])
    refine wpH_one (i := 1) (by kernel_rfl) (wpOp_enter (fn := 16) (args := #[c.pen]) (by rfl) (by rfl) (by go_simp) ((KT.out _ S3.out).mono ?_))
    rintro e W4 ⟨rfl, s4⟩
    have hS1 := hS0.trans (Keeps.of_sees s4)
    refine ⟨_, rfl, hS1, ?_⟩
    (try simp only [Act.put, List.setIfInBounds_toArray, List.set_cons_zero, List.set_cons_succ])
    clear hS0
    refine wpH_one (i := 3) (by kernel_rfl) (wpOp_enter (fn := 17) (args := #[c.pen]) (by rfl) (by rfl) (by go_simp) ((KL.out _).mono ?_))
    rintro e W5 ⟨rfl, s5⟩
    have hS0 := hS1.trans (Keeps.of_sees s5)
    refine ⟨_, rfl, hS0, ?_⟩
    (try simp only [Act.put, List.setIfInBounds_toArray, List.set_cons_zero, List.set_cons_succ])
    clear hS1
    have S5 := Lib.hid ((S3.out.trans s4).trans s5)
    clear s4 s5 S3 P3
    refine wpH_take (i := 4) (v := .bool true) hB (by rfl) (by kernel_rfl) (fun _ _ _ _ _ h => h) (by rfl) hS0 (fun W hI => by clear hI; go_simp) ?_; (try simp only [Act.put, List.setIfInBounds_toArray, List.set_cons_zero, List.set_cons_succ])
    refine wpH_take (i := 5) (v := .bool true) hB (by rfl) (by kernel_rfl) (fun _ _ _ _ _ h => h) (by rfl) hS0 (fun W hI => by clear hI; go_simp) ?_; (try simp only [Act.put, List.setIfInBounds_toArray, List.set_cons_zero, List.set_cons_succ])
    refine wpH_one (i := 6) (by kernel_rfl) (wpOp_enterG (fn := 8) (args := #[]) (by rfl) (by go_simp) (by go_simp) ((KN.out _ S5.out).mono ?_))
    rintro e W6 ⟨rfl, s6⟩
    have hS1 := hS0.trans (Keeps.of_sees s6)
    refine ⟨_, rfl, hS1, ?_⟩
    (try simp only [Act.put, List.setIfInBounds_toArray, List.set_cons_zero, List.set_cons_succ])
    clear hS0
    have hS0 := hS1
    have S6 := Lib.hid (S5.out.trans s6)
    refine wpH_take (i := 7) (v := .bool true) hB (by rfl) (by kernel_rfl) (fun _ _ _ _ _ h => h) (by rfl) hS0 (fun W hI => by clear hI; go_simp) ?_; (try simp only [Act.put, List.setIfInBounds_toArray, List.set_cons_zero, List.set_cons_succ])
    refine wpH_take (i := 8) (v := .bool true) hB (by rfl) (by kernel_rfl) (fun _ _ _ _ _ h => h) (by rfl) hS0 (fun W hI => by clear hI; go_simp) ?_; (try simp only [Act.put, List.setIfInBounds_toArray, List.set_cons_zero, List.set_cons_succ])
    refine wpH_end (by kernel_rfl) ?_
    go_wp2
    go_ret
    exact ⟨rfl, S6.out⟩
end Go.Proofs.YthcndmchlpohpaaGreatDoor
