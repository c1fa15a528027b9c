/- gathered (search): the text of rows, and the place of the cell of each byte. No condition. -/
import Derived.Test.YtfdolhppbimbmaaDoorTxC
import Derived.Deep.CutRange
namespace Go.Proofs.YtfdolhppbimbmaaDoor
set_option linter.unusedVariables false
set_option linter.unusedSimpArgs false
open Go.RowKit

theorem gath_mem {α : Type} {ls : List α} {k : Nat} {x : α} (h : ls[k]? = some x) : x ∈ ls := List.mem_iff_getElem?.2 ⟨k, h⟩
set_option maxHeartbeats 16000000 in
set_option maxRecDepth 1000000 in
theorem gathered_any (v : Value) (ls : List Ln) (number : Int) (F : Nat → Prop) (w : World) (h : lnEl.Rd F w v ls) (hn : ls.length ≤ 1000) (hc : ∀ x ∈ ls, x.cells.length ≤ 1000) (hnum : 0 ≤ number ∧ number ≤ 2199023255552) :
    Calls Tryd.prog 117 #[v, .int .i64 number] w fun e w' => ∃ u, e = .returned (.tuple #[.string ⟨((gath number ls).map Bp.b).toArray⟩, u]) ∧ plEl.Own (fun b => w.heap.size < b) w' u ((gath number ls).map Bp.pl) ∧ Sees w w' := by
  obtain ⟨a, cp, rfl, hcp⟩ := h.slice'
  obtain ⟨n, hnn⟩ : ∃ n, n = ls.length := ⟨_, rfl⟩
  rw [← hnn] at h hn hcp ⊢
  have H := Lib.hid h
  have HN := Lib.hid hnn
  have HC := Lib.hid hc
  have G0 := Lib.hid (GaSt.start w)
  clear h hnn hc
  go_enter Tryd.func117, Tryd.ntmps117
  go_wp2
  go_loopw [16, 7] (fun i u W => ∃ k : Nat, k ≤ n ∧ i = .int .i64 k ∧ GaSt w ((gathP number k ls).map Bp.b) ((gathP number k ls).map Bp.pl) u W) (fun i _ _ => n - (intOf i).toNat)
  case atStart => exact ⟨0, Nat.zero_le _, rfl, G0.out⟩
  case round =>
    obtain ⟨k, hk, rfl, hG⟩ := hrel
    have HG := Lib.hid hG
    clear hG
    by_cases hlt : k < n
    · obtain ⟨b, o, x, ax, mx, rfl, _, hx, hxm, x1, x2, x3⟩ := H.out.line hlt
      replace x1 := HG.out.s.cell x1
      replace x2 := HG.out.s.cell x2
      have HX := Lib.hid hx
      have hxc := HC.out x (gath_mem hx)
      have hgl : (gathP number k ls).length ≤ k * 16000 := gathP_len (m := 1000) HC.out
      have HX3 := Lib.hid x3
      obtain ⟨P, hP⟩ : ∃ P, P = gathP number k ls := ⟨_, rfl⟩
      rw [← hP] at HG hgl
      have HP := Lib.hid hP
      obtain ⟨l, hl⟩ : ∃ l, l = x.cells.length := ⟨_, rfl⟩
      have HL := Lib.hid hl
      rw [← hl] at hxm hxc x1 HX3
      have hw1 : IntKind.i64.wrap (number + (k : Int)) = number + (k : Int) := IntWalk.i64_in _ (by omega)
      have hw2 : IntKind.i64.wrap ((n : Int) - 1) = (n : Int) - 1 := IntWalk.i64_in _ (by omega)
      clear hx x3 hP hl
      by_cases hlast : k + 1 = n
      · have g7 : ((k : Int) == (n : Int) - 1) = true := by rw [beq_iff_eq]; omega
        have HLA : Hid (decide (k + 1 = ls.length) = true) := by have := HN.out; exact decide_eq_true (by omega)
        obtain ⟨m, hm⟩ : ∃ m, m = usedN x.cells := ⟨_, rfl⟩
        have hml : m ≤ l := by rw [hm, HL.out]; exact usedN_le _
        have hmx : m ≤ mx := by omega
        have U := Lib.hid (fun W (hW : cellEl.Rd F W (.slice ax l mx) x.cells) => by have q := used_any (.slice ax l mx) x F W hW (by rw [← HL.out]; omega); rw [← hm] at q; exact q)
        have HPR : Hid (cellEl.Rd F w (.slice ax m mx) (x.part true)) := by
          have e : x.part true = x.cells.take m := by rw [hm]; rfl
          unfold Hid
          rw [e]
          exact HX3.out.take m (by rw [← HL.out]; exact hml) mx hmx
        clear hm hlast
        go_wp2_with fail
        refine (U.out _ (HX3.out.sees (HG.out.s.alloc _))).mono ?_
        rintro e W1 ⟨rfl, s1⟩
        have HG1 := Lib.hid ((HG.out.sees ((Sees.refl _).alloc _)).sees s1)
        clear U HX3 x1 x2 s1 HG
        go_wp2
        have hpl : (x.part true).length = m := HPR.out.len.symm
        have HPL := Lib.hid hpl
        clear hpl
        go_loopw [34, 7] (fun j u W => ∃ i : Nat, i ≤ m ∧ j = .int .i64 i ∧ GaSt w ((P ++ cellsB (number + k) 0 ((x.part true).take i)).map Bp.b) ((P ++ cellsB (number + k) 0 ((x.part true).take i)).map Bp.pl) u W) (fun j _ _ => m - (intOf j).toNat)
        case atStart => exact ⟨0, Nat.zero_le _, rfl, by rw [List.take_zero]; simpa [cellsB] using HG1.out⟩
        case round =>
          obtain ⟨i, hi, rfl, hG2⟩ := hrel
          have HG2 := Lib.hid hG2
          clear hG2
          by_cases hil : i < m
          · obtain ⟨b2, o2, c, rfl, _, hcc, hat⟩ := HPR.out.cell hil
            replace hat := hat.sees HG2.out.s
            have HCC := Lib.hid (cellsB_step (n := number + k) hcc)
            have hcl := cellsB_len (number + k) 0 ((x.part true).take i)
            rw [List.length_take] at hcl
            obtain ⟨Q, hQ⟩ : ∃ Q, Q = P ++ cellsB (number + k) 0 ((x.part true).take i) := ⟨_, rfl⟩
            have hQl : Q.length ≤ 17000000 := by rw [hQ, List.length_append]; omega
            rw [← hQ] at HG2
            have HQ := Lib.hid hQ
            obtain ⟨X, hX⟩ : ∃ X : ByteArray, X = ⟨c.txt.toArray⟩ := ⟨_, rfl⟩
            have hXs : X.size = c.txt.length := by rw [hX]; show c.txt.toArray.size = _; simp
            have hXl : X.size ≤ 16 := by rw [hXs]; exact c.txt_len
            have KT := Lib.hid (fun W => by have q := ctext_any c W; rw [← hX] at q; exact q)
            have KW := Lib.hid (fun (u : Value) W (hW : GaSt w (Q.map Bp.b) (Q.map Bp.pl) u W) => by have q := hW.write c.txt (by rw [List.length_map, ← hXs]; omega); rw [← hX] at q; exact q)
            have HXS := Lib.hid hXs
            clear hcc hcl hQ hX hXs
            go_upto_region 12 with (first
              | (refine wpList_val rfl (exec_load (v := c.val) rfl rfl (run_loadCell hat)) (fun K hK => ?_); go_simp; refine hK _ _ ?_; clear hK K)
              | (refine wpList_skip rfl (exec_store (v := c.val) rfl rfl rfl (run_storeNew c _ rfl _ rfl)) (fun K hK => ?_); go_simp; refine hK _ _ ?_; clear hK K))
            refine wp_world fun W2 hW2 => ?_
            have C2 := hW2 ▸ cellAt_new _ c 46
            have HG3 := Lib.hid (hW2 ▸ HG2.out.sees ((Sees.refl _).alloc _) : GaSt w (Q.map Bp.b) (Q.map Bp.pl) _ W2)
            clear hW2 hat HG2
            go_wp2_with (refine wpList_val rfl (exec_load (v := c.val) rfl rfl (run_loadCell C2)) (fun K hK => ?_); go_simp; refine hK _ _ ?_; clear hK K)
            refine (KT.out _).mono ?_
            rintro e W3 ⟨rfl, s3⟩
            have HG4 := Lib.hid (HG3.out.sees s3)
            clear C2 s3 HG3
            go_wp2_with fail
            refine (KW.out _ _ HG4.out).mono ?_
            rintro e W4 ⟨r1, r2, rfl, hG5⟩
            have HG5 := Lib.hid hG5
            clear hG5 HG4 KT KW
            have hwi : IntKind.i64.wrap (i : Int) = (i : Int) := IntWalk.i64_in _ (by omega)
            go_wp2
            go_loopw [45, 7] (fun j u W => ∃ q : Nat, q ≤ X.size ∧ j = .int .i64 q ∧ GaSt w (Q.map Bp.b ++ c.txt) (Q.map Bp.pl ++ List.replicate q (number + k, (i : Int))) u W) (fun j _ _ => X.size - (intOf j).toNat)
            case atStart => exact ⟨0, Nat.zero_le _, rfl, by simpa using HG5.out⟩
            case round =>
              obtain ⟨q, hq, rfl, hG6⟩ := hrel
              have HG6 := Lib.hid hG6
              clear hG6
              by_cases hqx : q < X.size
              · have hs5 : Sees wr (wr.alloc (.cells #[.int .i64 (number + (k : Int)), .int .i64 (i : Int)] 31)) := (Sees.refl wr).alloc _
                have HO := Lib.hid (HG6.out.sees hs5).p.cut
                have HPN := Lib.hid (pl_news (p := (number + (k : Int), (i : Int))) (heap_alloc_new wr (.cells #[.int .i64 (number + (k : Int)), .int .i64 (i : Int)] 31)))
                have hlen : (Q.map Bp.pl ++ List.replicate q (number + (k : Int), (i : Int))).length + [(number + (k : Int), (i : Int))].length ≤ 100000000 := by
                  rw [List.length_append, List.length_map, List.length_replicate, List.length_singleton]
                  omega
                go_wp2_with (at_builtin; refine El.wpList_append_own (v := u7) typedPl rfl (.tmp 47) (.tmp 53) rfl (by go_simp) HO.out ⟨wr.heap.size, 0, none⟩ 1 1 (by go_simp) _ [(number + (k : Int), (i : Int))] _ HPN.out.1 rfl HPN.out.2 (fun b hb => hb.2) (fun b hb => hb.elim) hlen ?_; intro v7 w7 ho7 hk7)
                have HZ := Lib.hid (HG6.out.add hs5 ho7 hk7)
                clear HO HPN hlen ho7 hk7 hs5
                go_wp2
                go_roundw
                case rel => exact ⟨q + 1, by omega, by go_num, by rw [List.replicate_succ', ← List.append_assoc]; exact HZ.out⟩
                case measure => simp [intOf]; omega
              · obtain rfl : q = X.size := by omega
                have e1 : Q.map Bp.b ++ c.txt = (P ++ cellsB (number + k) 0 ((x.part true).take (i + 1))).map Bp.b := by rw [HCC.out, ← List.append_assoc, ← HQ.out, List.map_append, cellB_b]
                have e2 : Q.map Bp.pl ++ List.replicate X.size (number + k, (i : Int)) = (P ++ cellsB (number + k) 0 ((x.part true).take (i + 1))).map Bp.pl := by rw [HCC.out, ← List.append_assoc, ← HQ.out, List.map_append, cellB_pl, HXS.out]
                have HZ := HG6.out
                rw [e1, e2] at HZ
                replace HZ := Lib.hid HZ
                clear e1 e2
                clear HG6 HG5
                go_wp2
                go_roundw
                case rel => exact ⟨i + 1, by omega, by go_num, HZ.out⟩
                case measure => simp [intOf]; omega
          · obtain rfl : m = i := by omega
            have e1 : P ++ cellsB (number + k) 0 ((x.part true).take m) = gathP number (k + 1) ls := by
              rw [gathP_step HX.out, HLA.out, ← HP.out, List.take_of_length_le (Nat.le_of_eq HPL.out)]
              rfl
            have HZ := HG2.out
            rw [e1] at HZ
            replace HZ := Lib.hid HZ
            clear e1
            clear HG2
            go_wp2
            go_roundw
            case rel => exact ⟨k + 1, by omega, by go_num, HZ.out⟩
            case measure => simp [intOf]; omega
      · have g7 : ((k : Int) == (n : Int) - 1) = false := by rw [beq_eq_false_iff_ne]; omega
        have HLA : Hid (decide (k + 1 = ls.length) = false) := by have := HN.out; exact decide_eq_false (by omega)
        have HPR : Hid (cellEl.Rd F w (.slice ax l mx) (x.part false)) := HX3.out
        clear hlast
        go_upto_region 9 with fail
        refine wp_world fun W1 hW1 => ?_
        have HG1 := Lib.hid (hW1 ▸ HG.out.sees ((Sees.refl _).alloc _) : GaSt w (P.map Bp.b) (P.map Bp.pl) _ W1)
        clear hW1 HX3 x1 x2 HG
        go_wp2
        have hpl : (x.part false).length = l := HPR.out.len.symm
        have HPL := Lib.hid hpl
        clear hpl
        go_loopw [34, 7] (fun j u W => ∃ i : Nat, i ≤ l ∧ j = .int .i64 i ∧ GaSt w ((P ++ cellsB (number + k) 0 ((x.part false).take i)).map Bp.b) ((P ++ cellsB (number + k) 0 ((x.part false).take i)).map Bp.pl) u W) (fun j _ _ => l - (intOf j).toNat)
        case atStart => exact ⟨0, Nat.zero_le _, rfl, by rw [List.take_zero]; simpa [cellsB] using HG1.out⟩
        case round =>
          obtain ⟨i, hi, rfl, hG2⟩ := hrel
          have HG2 := Lib.hid hG2
          clear hG2
          by_cases hil : i < l
          · obtain ⟨b2, o2, c, rfl, _, hcc, hat⟩ := HPR.out.cell hil
            replace hat := hat.sees HG2.out.s
            have HCC := Lib.hid (cellsB_step (n := number + k) hcc)
            have hcl := cellsB_len (number + k) 0 ((x.part false).take i)
            rw [List.length_take] at hcl
            obtain ⟨Q, hQ⟩ : ∃ Q, Q = P ++ cellsB (number + k) 0 ((x.part false).take i) := ⟨_, rfl⟩
            have hQl : Q.length ≤ 17000000 := by rw [hQ, List.length_append]; omega
            rw [← hQ] at HG2
            have HQ := Lib.hid hQ
            obtain ⟨X, hX⟩ : ∃ X : ByteArray, X = ⟨c.txt.toArray⟩ := ⟨_, rfl⟩
            have hXs : X.size = c.txt.length := by rw [hX]; show c.txt.toArray.size = _; simp
            have hXl : X.size ≤ 16 := by rw [hXs]; exact c.txt_len
            have KT := Lib.hid (fun W => by have q := ctext_any c W; rw [← hX] at q; exact q)
            have KW := Lib.hid (fun (u : Value) W (hW : GaSt w (Q.map Bp.b) (Q.map Bp.pl) u W) => by have q := hW.write c.txt (by rw [List.length_map, ← hXs]; omega); rw [← hX] at q; exact q)
            have HXS := Lib.hid hXs
            clear hcc hcl hQ hX hXs
            go_upto_region 12 with (first
              | (refine wpList_val rfl (exec_load (v := c.val) rfl rfl (run_loadCell hat)) (fun K hK => ?_); go_simp; refine hK _ _ ?_; clear hK K)
              | (refine wpList_skip rfl (exec_store (v := c.val) rfl rfl rfl (run_storeNew c _ rfl _ rfl)) (fun K hK => ?_); go_simp; refine hK _ _ ?_; clear hK K))
            refine wp_world fun W2 hW2 => ?_
            have C2 := hW2 ▸ cellAt_new _ c 46
            have HG3 := Lib.hid (hW2 ▸ HG2.out.sees ((Sees.refl _).alloc _) : GaSt w (Q.map Bp.b) (Q.map Bp.pl) _ W2)
            clear hW2 hat HG2
            go_wp2_with (refine wpList_val rfl (exec_load (v := c.val) rfl rfl (run_loadCell C2)) (fun K hK => ?_); go_simp; refine hK _ _ ?_; clear hK K)
            refine (KT.out _).mono ?_
            rintro e W3 ⟨rfl, s3⟩
            have HG4 := Lib.hid (HG3.out.sees s3)
            clear C2 s3 HG3
            go_wp2_with fail
            refine (KW.out _ _ HG4.out).mono ?_
            rintro e W4 ⟨r1, r2, rfl, hG5⟩
            have HG5 := Lib.hid hG5
            clear hG5 HG4 KT KW
            have hwi : IntKind.i64.wrap (i : Int) = (i : Int) := IntWalk.i64_in _ (by omega)
            go_wp2
            go_loopw [45, 7] (fun j u W => ∃ q : Nat, q ≤ X.size ∧ j = .int .i64 q ∧ GaSt w (Q.map Bp.b ++ c.txt) (Q.map Bp.pl ++ List.replicate q (number + k, (i : Int))) u W) (fun j _ _ => X.size - (intOf j).toNat)
            case atStart => exact ⟨0, Nat.zero_le _, rfl, by simpa using HG5.out⟩
            case round =>
              obtain ⟨q, hq, rfl, hG6⟩ := hrel
              have HG6 := Lib.hid hG6
              clear hG6
              by_cases hqx : q < X.size
              · have hs5 : Sees wr (wr.alloc (.cells #[.int .i64 (number + (k : Int)), .int .i64 (i : Int)] 31)) := (Sees.refl wr).alloc _
                have HO := Lib.hid (HG6.out.sees hs5).p.cut
                have HPN := Lib.hid (pl_news (p := (number + (k : Int), (i : Int))) (heap_alloc_new wr (.cells #[.int .i64 (number + (k : Int)), .int .i64 (i : Int)] 31)))
                have hlen : (Q.map Bp.pl ++ List.replicate q (number + (k : Int), (i : Int))).length + [(number + (k : Int), (i : Int))].length ≤ 100000000 := by
                  rw [List.length_append, List.length_map, List.length_replicate, List.length_singleton]
                  omega
                go_wp2_with (at_builtin; refine El.wpList_append_own (v := u7) typedPl rfl (.tmp 47) (.tmp 53) rfl (by go_simp) HO.out ⟨wr.heap.size, 0, none⟩ 1 1 (by go_simp) _ [(number + (k : Int), (i : Int))] _ HPN.out.1 rfl HPN.out.2 (fun b hb => hb.2) (fun b hb => hb.elim) hlen ?_; intro v7 w7 ho7 hk7)
                have HZ := Lib.hid (HG6.out.add hs5 ho7 hk7)
                clear HO HPN hlen ho7 hk7 hs5
                go_wp2
                go_roundw
                case rel => exact ⟨q + 1, by omega, by go_num, by rw [List.replicate_succ', ← List.append_assoc]; exact HZ.out⟩
                case measure => simp [intOf]; omega
              · obtain rfl : q = X.size := by omega
                have e1 : Q.map Bp.b ++ c.txt = (P ++ cellsB (number + k) 0 ((x.part false).take (i + 1))).map Bp.b := by rw [HCC.out, ← List.append_assoc, ← HQ.out, List.map_append, cellB_b]
                have e2 : Q.map Bp.pl ++ List.replicate X.size (number + k, (i : Int)) = (P ++ cellsB (number + k) 0 ((x.part false).take (i + 1))).map Bp.pl := by rw [HCC.out, ← List.append_assoc, ← HQ.out, List.map_append, cellB_pl, HXS.out]
                have HZ := HG6.out
                rw [e1, e2] at HZ
                replace HZ := Lib.hid HZ
                clear e1 e2
                clear HG6 HG5
                go_wp2
                go_roundw
                case rel => exact ⟨i + 1, by omega, by go_num, HZ.out⟩
                case measure => simp [intOf]; omega
          · obtain rfl : l = i := by omega
            have e1 : P ++ cellsB (number + k) 0 ((x.part false).take l) = gathP number (k + 1) ls := by
              rw [gathP_step HX.out, HLA.out, ← HP.out, List.take_of_length_le (Nat.le_of_eq HPL.out)]
              rfl
            have HZ := HG2.out
            rw [e1] at HZ
            replace HZ := Lib.hid HZ
            clear e1
            clear HG2
            go_wp2
            go_roundw
            case rel => exact ⟨k + 1, by omega, by go_num, HZ.out⟩
            case measure => simp [intOf]; omega
    · obtain rfl : k = n := by omega
      have KS := Lib.hid (fun (u : Value) W (hW : GaSt w ((gathP number k ls).map Bp.b) ((gathP number k ls).map Bp.pl) u W) => by have q := hW.string; rw [HN.out, gathP_all] at q; exact q)
      go_wp2_with fail
      refine (KS.out _ _ HG.out).mono ?_
      rintro e W1 ⟨rfl, hp, hs⟩
      go_wp2
      go_ret2
      exact ⟨_, rfl, hp, hs⟩
end Go.Proofs.YtfdolhppbimbmaaDoor
