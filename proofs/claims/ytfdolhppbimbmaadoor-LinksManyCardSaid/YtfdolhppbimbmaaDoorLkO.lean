/- linked (43): the reference's links of rows. The tables hold what the program's text lays. The statements' tests of rows (43). The tables hold what the program's text lays. No condition. -/
import Derived.Test.YtfdolhppbimbmaaDoorLkL
import Derived.Test.YtfdolhppbimbmaaDoorLkF
import Derived.Test.YtfdolhppbimbmaaDoorSrX
namespace Go.Proofs.YtfdolhppbimbmaaDoor
set_option linter.unusedVariables false
set_option linter.unusedSimpArgs false
open Go.RowKit Go.Shelf
attribute [local go_sem] Oper.semAt_some

/-- Links so far, and the places of a text's bytes. -/
structure LdSt (w : World) (ks : List Lk) (ps : List (Int × Int)) (uo up : Value) (W : World) : Prop where
  o : lkEl.Own (fun b => uo.ownBlock = some b) W uo ks
  p : plEl.Own (fun b => up.ownBlock = some b) W up ps
  a2 : ∀ b, up.ownBlock = some b → w.heap.size ≤ b
  a3 : ∀ b, uo.ownBlock = some b → w.heap.size ≤ b
  s : Sees w W
namespace LdSt
variable {w W W1 W2 : World} {ks : List Lk} {ps : List (Int × Int)} {uo up v : Value}
theorem sees (h : LdSt w ks ps uo up W) (hs : Sees W W1) : LdSt w ks ps uo up W1 := ⟨h.o.sees hs, h.p.sees hs, h.a2, h.a3, h.s.trans hs⟩
theorem start (w : World) : LdSt w [] [] (.slice none 0 0) (.slice none 0 0) w := ⟨El.Own.nil _ _, El.Own.nil _ _, fun b h => (by cases h), fun b h => (by cases h), Sees.refl w⟩
theorem clear (h : LdSt w ks ps uo up W) : LdSt w ks [] uo (.slice none 0 0) W := ⟨h.o, El.Own.nil _ _, fun b h => (by cases h), h.a3, h.s⟩
theorem addP (h : LdSt w ks ps uo up W) (hs : Sees W W1) {x : Int × Int} (ho : plEl.Own (fun b => up.ownBlock = some b ∨ False ∨ W1.heap.size ≤ b) W2 v (ps ++ [x])) (hk : Keeps (fun b => up.ownBlock = some b) W1 W2) : LdSt w ks (ps ++ [x]) uo v W2 := by
  have h1 := h.sees hs
  refine ⟨h1.o.keeps hk (fun b hb hb' => own_apart h1.o h1.p LkSt.ne1 b hb hb'), words_self ho, fun b hb => ?_, h.a3, El.keep_new h1.s hk h.a2⟩
  rcases (ho.base hb).1 with e | e | e
  · exact h.a2 b e
  · exact e.elim
  · exact Nat.le_trans h1.s.size e
theorem addO (h : LdSt w ks ps uo up W) (hs : Sees W W1) {x : Lk} (ho : lkEl.Own (fun b => uo.ownBlock = some b ∨ False ∨ W1.heap.size ≤ b) W2 v (ks ++ [x])) (hk : Keeps (fun b => uo.ownBlock = some b) W1 W2) : LdSt w (ks ++ [x]) ps v up W2 := by
  have h1 := h.sees hs
  refine ⟨words_self ho, h1.p.keeps hk (fun b hb hb' => own_apart h1.o h1.p LkSt.ne1 b hb' hb), h.a2, fun b hb => ?_, El.keep_new h1.s hk h.a3⟩
  rcases (ho.base hb).1 with e | e | e
  · exact h.a3 b e
  · exact e.elim
  · exact Nat.le_trans h1.s.size e
end LdSt
theorem fd_cell {F : Nat → Prop} {w : World} {a : Option Addr} {n c : Nat} {xs : List (Nat × ByteArray)} (h : fdEl.Rd F w (.slice a n c) xs) {k : Nat} (hk : k < n) : ∃ b o x, a = some ⟨b, o, none⟩ ∧ xs[k]? = some x ∧ w.cell? ⟨b, o + k * 2, none⟩ = some (.int .i64 x.1) ∧ w.cell? ⟨b, o + k * 2 + 1, none⟩ = some (.string x.2) := by
  obtain ⟨b, o, x, vs, rfl, _, hx, hvs, hc⟩ := h.at_ hk
  have hvs : vs = [.int .i64 x.1, .string x.2] := hvs
  subst hvs
  exact ⟨b, o, x, rfl, hx, hc 0 _ rfl, hc 1 _ rfl⟩
theorem ne_fd : lkEl.ty ≠ fdEl.ty := by decide
theorem pl_D {T : List Bp} {k : Nat} {x : Int × Int} (h : (T.map Bp.pl)[k]? = some x) : (T.getD k default).line = x.1 ∧ (T.getD k default).col = x.2 := ⟨(pl_getD h).1.symm, (pl_getD h).2.symm⟩
set_option maxHeartbeats 8000000 in
set_option maxRecDepth 1000000 in
theorem linked_any (F : Nat → Prop) (a : Option Addr) (n cp : Nat) (ls : List Ln) (first : Int) (w : World) (ha : lnEl.Rd F w (.slice a n cp) ls) (hn : ls.length ≤ 10) (hc : ∀ x ∈ ls, x.cells.length ≤ 40) (h1 : 0 ≤ first) (h2 : first ≤ 1099511627776) :
    Calls Tryd.prog 32 #[.slice a n cp, .int .i64 first] w fun e w' => ∃ v, e = .returned v ∧ lkEl.Own (fun b => w.heap.size ≤ b) w' v (allK ls first) ∧ Sees w w' := by
  have hna : n = ls.length := ha.len
  have HN := Lib.hid hna
  have HA := Lib.hid ha
  have HC := Lib.hid hc
  obtain ⟨A, hA⟩ : ∃ A, A = allK ls first := ⟨_, rfl⟩
  have hn' : n ≤ 10 := by omega
  have HA0 : Hid (A = (segs first [] ls).flatMap linkS) := hA
  rw [← hA]
  clear hna ha hc hn hA
  go_enter Tryd.func32, Tryd.ntmps32
  go_wp2
  go_loopw [5, 6, 7, 8] (fun uo up ut ii W => ∃ (i : Nat) (acc : List Bp) (outs : List Lk) (tx : ByteArray), i ≤ n ∧ ii = .int .i64 i ∧ ut = .string tx ∧ Hid (tx = strL (acc.map Bp.b)) ∧ acc.length ≤ i * 640 ∧ outs.length ≤ i * 6400 ∧ Hid (A = outs ++ (segs (first + i) acc (ls.drop i)).flatMap linkS) ∧ LdSt w outs (acc.map Bp.pl) uo up W) (fun _ _ _ ii _ => n - (intOf ii).toNat)
  case atStart => exact ⟨0, [], [], _, by omega, rfl, rfl, rfl, by simp, by simp, (by have q := HA0.out; simpa [RowKit.Hid] using q), LdSt.start w⟩
  case round =>
    obtain ⟨i, acc, outs, tx, hi, rfl, rfl, htx, hal, hol, hA1, hS⟩ := hrel
    have HS := Lib.hid hS
    clear hS
    by_cases hlt : i < n
    · obtain ⟨b1, o1, x, a1, m1, rfl, _, hx, hcap, x1, x2, x3⟩ := HA.out.line hlt
      have hxl := HC.out x (List.mem_iff_getElem?.2 ⟨_, hx⟩)
      have HX := Lib.hid hx
      have X1 := Lib.hid x1
      have X2 := Lib.hid x2
      have X3 := Lib.hid x3
      replace x1 := HS.out.s.cell x1
      replace x2 := HS.out.s.cell x2
      have hL : Hid (lastB ls i x = (!x.soft || decide (i + 1 = ls.length))) := rfl
      obtain ⟨L, hLL⟩ : ∃ L, L = lastB ls i x := ⟨_, rfl⟩
      have HL := Lib.hid hLL
      rw [← hLL] at hL
      clear hx x3 hLL
      generalize hcl : x.cells.length = m at *
      have HCL := Lib.hid hcl
      clear hcl
      go_upto_region 7 with fail
      go_cut [9] from 21 to 33 (fun v9 wx => v9 = .bool L ∧ wx = wr)
      case first =>
        have hnn := HN.out
        rcases Bool.eq_false_or_eq_true x.soft with e1 | e1
        · rw [e1] at x2
          rcases Nat.lt_or_ge (i + 1) n with e2 | e2
          · have e3 : ((i : Int) == (n : Int) - 1) = false := by rw [beq_eq_false_iff_ne]; omega
            have e4 : L = false := by rw [hL.out, e1]; simp; omega
            clear hnn
            go_wp2
            go_meet
            exact ⟨by rw [e4], rfl⟩
          · have e3 : ((i : Int) == (n : Int) - 1) = true := by rw [beq_iff_eq]; omega
            have e4 : L = true := by rw [hL.out, e1]; simp; omega
            clear hnn
            go_wp2
            go_meet
            exact ⟨by rw [e4], rfl⟩
        · rw [e1] at x2
          have e4 : L = true := by rw [hL.out, e1]; simp
          clear hnn
          go_wp2
          go_meet
          exact ⟨by rw [e4], rfl⟩
      case rest =>
        obtain ⟨rfl, rfl⟩ := hcut
        obtain ⟨R, hR⟩ : ∃ R, R = rowB (first + i) L x := ⟨_, rfl⟩
        obtain ⟨cs, hcs⟩ : ∃ cs, cs = x.part L := ⟨_, rfl⟩
        obtain ⟨K, hK⟩ : ∃ K, K = cs.length := ⟨_, rfl⟩
        have hKm : K ≤ m := by rw [hK, hcs, ← HCL.out]; exact x.part_len L
        have HPT : Hid (cellEl.Rd F w (.slice a1 K m1) cs) := by
          unfold RowKit.Hid
          rw [hK, hcs]
          unfold Ln.part
          cases L
          · rw [if_neg (by decide)]; have := X3.out; rw [← HCL.out] at this; exact this
          · rw [if_pos rfl]
            have := (X3.out).take (usedN x.cells) (usedN_le _) m1 (by have := usedN_le x.cells; have := HCL.out; omega)
            rw [List.length_take, Nat.min_eq_left (usedN_le _)]
            exact this
        have HRK : Hid (cellsB (first + i) 0 (cs.take K) = R) := by unfold RowKit.Hid; rw [hR, hK, List.take_length, hcs]; rfl
        have hLK : Hid (L = false → K = m) := fun e => by rw [hK, hcs, e, ← HCL.out]; rfl
        have hLU : Hid (L = true → K = usedN x.cells) := fun e => by rw [hK, hcs, e]; unfold Ln.part; rw [if_pos rfl, List.length_take, Nat.min_eq_left (usedN_le _)]
        have hRl : R.length ≤ 640 := by
          have := rowB_len (first + i) L x
          rw [hR]; have := HCL.out; omega
        have HRR := Lib.hid hR
        clear hR hcs hK
        go_upto_block 2 with fail
        go_cut [6, 7] from 34 to 79 (fun v6 v7 wx => ∃ ty : ByteArray, v7 = .string ty ∧ Hid (ty = strL ((acc ++ R).map Bp.b)) ∧ LdSt w outs ((acc ++ R).map Bp.pl) u5 v6 wx)
        case first =>
          go_wp2_with fail
          go_loopw [6, 7, 10] (fun up ut kk W => ∃ (k : Nat) (ty : ByteArray), k ≤ K ∧ kk = .int .i64 k ∧ ut = .string ty ∧ Hid (ty = strL ((acc ++ cellsB (first + i) 0 (cs.take k)).map Bp.b)) ∧ LdSt w outs ((acc ++ cellsB (first + i) 0 (cs.take k)).map Bp.pl) u5 up W) (fun _ _ kk _ => K - (intOf kk).toNat)
          case atStart => exact ⟨0, tx, by omega, rfl, rfl, by rw [htx.out]; simp [RowKit.Hid, cellsB], by simpa [cellsB] using HS.out⟩
          case round =>
            obtain ⟨k, ty, hk, rfl, rfl, hty, hS2⟩ := hrel
            have HS2 := Lib.hid hS2
            clear hS2
            have y1 := HS2.out.s.cell X1.out
            have y2 := HS2.out.s.cell X2.out
            rcases Nat.lt_or_ge k K with hkK | hkK
            · have hkm : k < m := by omega
              obtain ⟨b2, o2, c, rfl, _, hcc, hat⟩ := HPT.out.cell hkK
              have HAT := Lib.hid hat
              have HCC := Lib.hid (cellsB_step (n := first + i) hcc)
              clear hcc hat
              go_upto_region 11 with fail
              go_cut [53] from 44 to 53 (fun v53 wx => v53 = .bool false ∧ Sees wr wx)
              case first =>
                cases L
                · go_wp2_with fail
                  go_meet
                  exact ⟨rfl, Sees.refl _⟩
                · have KU := Lib.hid (used_any _ x F _ (X3.out.sees HS2.out.s) (by rw [HCL.out]; omega))
                  rw [← hLU.out rfl] at KU
                  have hg : decide ((k : Int) ≥ (K : Int)) = false := decide_eq_false (by omega)
                  go_wp2_with fail
                  refine KU.out.mono ?_
                  rintro e W1 ⟨rfl, s1⟩
                  go_wp2_with fail
                  go_meet
                  exact ⟨congrArg Value.bool (decide_eq_false (by omega)), s1⟩
              case rest =>
                obtain ⟨rfl, hsc⟩ := hcut
                have HS4 := Lib.hid (HS2.out.sees hsc)
                clear hsc HS2 y1 y2
                have z1 := HS4.out.s.cell X1.out
                have hat4 := HAT.out.sees HS4.out.s
                have hcl := cellsB_len (first + i) 0 (cs.take k)
                rw [List.length_take] at hcl
                obtain ⟨Q, hQ⟩ : ∃ Q, Q = acc ++ cellsB (first + i) 0 (cs.take k) := ⟨_, rfl⟩
                have hQl : Q.length ≤ 17000000 := by rw [hQ, List.length_append]; omega
                rw [← hQ] at HS4
                have HQ := Lib.hid hQ
                obtain ⟨X, hX⟩ : ∃ X : ByteArray, X = ⟨c.txt.toArray⟩ := ⟨_, rfl⟩
                have hXs : X.size = c.txt.length := by rw [hX]; show c.txt.toArray.size = _; simp
                have hXl : X.size ≤ 16 := by rw [hXs]; exact c.txt_len
                have KT := Lib.hid (fun W => by have q := ctext_any c W; rw [← hX] at q; exact q)
                have HXS := Lib.hid hXs
                have HXX := Lib.hid (show X.data.toList = c.txt by rw [hX])
                have KP := Lib.hid (fun l c W => lat_any l c W)
                have HXA : Hid (ty ++ X = strL (Q.map Bp.b ++ c.txt)) := by unfold RowKit.Hid; rw [hty.out, ← hQ, hX]; exact strL_app _ _
                have hts : ty.size ≤ 17000000 := by rw [hty.out, strL_size, List.length_map, ← hQ]; exact hQl
                clear hcl hQ hX hXs
                go_wp2_with (guard_target = wpList _ _ _ ({ dst := _, op := Op.load 46 _, type := _, pos := _, after := _, guard := _ } :: _) _ _; refine wpList_val rfl (exec_load (v := c.val) rfl rfl (run_loadCell hat4)) (fun K hK => ?_); go_simp; refine hK _ _ ?_; clear hK K)
                refine (KT.out _).mono ?_
                rintro e W5 ⟨rfl, s5⟩
                have HS5 := Lib.hid (HS4.out.sees s5)
                clear s5 HS4 z1 hat4 KT
                go_wp2_with fail
                go_loopw [6, 12] (fun up jj W => ∃ q : Nat, q ≤ X.size ∧ jj = .int .i64 q ∧ LdSt w outs (Q.map Bp.pl ++ List.replicate q (first + i, (k : Int))) u5 up W) (fun _ jj _ => X.size - (intOf jj).toNat)
                case atStart => exact ⟨0, Nat.zero_le _, rfl, by simpa using HS5.out⟩
                case round =>
                  obtain ⟨q, hq, rfl, hS6⟩ := hrel
                  have HS6 := Lib.hid hS6
                  clear hS6
                  by_cases hqx : q < X.size
                  · have HL2 : Hid ((Q.map Bp.pl ++ List.replicate q (first + i, (k : Int))).length + [(first + (i : Int), (k : Int))].length ≤ 100000000) := by
                      unfold RowKit.Hid
                      rw [List.length_append, List.length_map, List.length_replicate, List.length_singleton]
                      omega
                    go_wp2_with fail
                    refine (KP.out _ _ _).mono ?_
                    rintro e W8 ⟨rfl, s8⟩
                    have HD8 := Lib.hid (HS6.out.sees s8)
                    clear s8
                    have sB : Sees W8 (W8.alloc (.cells #[.int .i64 (first + (i : Int)), .int .i64 (k : Int)] 31)) := (Sees.refl W8).alloc _
                    have HSB := Lib.hid sB
                    have HB := Lib.hid (HD8.out.sees sB)
                    have HR := Lib.hid (pl_news (p := (first + (i : Int), (k : Int))) (heap_alloc_new W8 (.cells #[.int .i64 (first + (i : Int)), .int .i64 (k : Int)] 31)))
                    clear sB
                    go_wp2_with (at_builtin; refine El.wpList_append_own (v := u6) typedPl rfl (.tmp 72) (.tmp 78) rfl (by go_simp) HB.out.p ⟨W8.heap.size, 0, none⟩ 1 1 (by go_simp) _ [(first + (i : Int), (k : Int))] _ HR.out.1 rfl HR.out.2 (fun b hb => (HB.out.p.base hb).2) (fun b hb => hb.elim) HL2.out ?_; intro v9 w9 ho9 hk9; have HD9 := Lib.hid (HD8.out.addP HSB.out ho9 hk9); clear ho9 hk9)
                    refine ⟨⟨q + 1, by omega, by go_num, ?_⟩, by simp [intOf]; omega⟩
                    rw [List.replicate_succ', ← List.append_assoc]
                    exact HD9.out
                  · obtain rfl : q = X.size := by omega
                    have e1 : Q.map Bp.b ++ c.txt = (acc ++ cellsB (first + i) 0 (cs.take (k + 1))).map Bp.b := by rw [HCC.out, ← List.append_assoc, ← HQ.out, List.map_append, cellB_b]
                    have e2 : Q.map Bp.pl ++ List.replicate X.size (first + i, (k : Int)) = (acc ++ cellsB (first + i) 0 (cs.take (k + 1))).map Bp.pl := by rw [HCC.out, ← List.append_assoc, ← HQ.out, List.map_append, cellB_pl, HXS.out]
                    have HZ := HS6.out
                    rw [e2] at HZ
                    replace HZ := Lib.hid HZ
                    have HXB := HXA.out
                    rw [e1] at HXB
                    have HXC := Lib.hid HXB
                    clear e1 e2 HS6 HS5 HXB
                    go_wp2
                    go_roundw
                    case rel => exact ⟨k + 1, _, by omega, by go_num, rfl, HXC.out, HZ.out⟩
                    case measure => simp [intOf]; omega
            · obtain rfl : k = K := by omega
              have HST : Hid (ty = strL ((acc ++ R).map Bp.b)) := by unfold RowKit.Hid; rw [hty.out, HRK.out]
              have hfin := HS2.out
              rw [HRK.out] at hfin
              have HFIN := Lib.hid hfin
              clear hfin
              cases L
              · have e := hLK.out rfl
                subst e
                go_wp2_with fail
                go_meet
                exact ⟨_, rfl, HST, HFIN.out⟩
              · rcases Nat.lt_or_ge k m with hkm | hkm
                · have KU := Lib.hid (used_any _ x F _ (X3.out.sees HS2.out.s) (by rw [HCL.out]; omega))
                  rw [← hLU.out rfl] at KU
                  go_wp2_with fail
                  refine KU.out.mono ?_
                  rintro e W1 ⟨rfl, s1⟩
                  have hg : decide ((k : Int) ≥ (k : Int)) = true := decide_eq_true (by omega)
                  go_wp2_with fail
                  go_meet
                  exact ⟨_, rfl, HST, HFIN.out.sees s1⟩
                · obtain rfl : k = m := by omega
                  go_wp2_with fail
                  go_meet
                  exact ⟨_, rfl, HST, HFIN.out⟩
        case rest =>
          obtain ⟨ty, hv7, hty, hcut⟩ := hcut
          subst hv7
          have HS3 := Lib.hid hcut
          clear hcut HS
          have hseg := segs_here (n := first + i) (acc := acc) HX.out
          have hLd : (!x.soft || decide (i + 1 = ls.length)) = L := hL.out.symm
          rw [hLd] at hseg
          have hacc : (acc ++ R).length ≤ (i + 1) * 640 := by rw [List.length_append]; omega
          have HSEG := Lib.hid hseg
          clear hseg hLd hL
          cases L
          · rw [if_neg (by decide)] at HSEG
            go_wp2_with fail
            have hnext : A = outs ++ (segs (first + (i + 1 : Nat)) (acc ++ R) (ls.drop (i + 1))).flatMap linkS := by
              rw [hA1.out, HSEG.out, ← HRR.out]
              congr 3
              push_cast
              omega
            exact ⟨⟨i + 1, acc ++ R, outs, ty, by omega, by go_num, rfl, hty, hacc, by omega, hnext, HS3.out⟩, by simp [intOf]; omega⟩
          · rw [if_pos rfl, ← HRR.out] at HSEG
            obtain ⟨T, hT⟩ : ∃ T, T = acc ++ R := ⟨_, rfl⟩
            rw [← hT] at hacc HS3 HSEG hty
            clear hT
            have hTl : T.length ≤ 6400 := by have : (i + 1) * 640 ≤ 10 * 640 := Nat.mul_le_mul_right _ (by omega); omega
            have hA2 : Hid (A = outs ++ (linkS T ++ (segs (first + (i + 1 : Nat)) [] (ls.drop (i + 1))).flatMap linkS)) := by
              unfold RowKit.Hid
              rw [hA1.out, HSEG.out, List.flatMap_cons]
              congr 4
              push_cast
              omega
            clear HSEG hA1
            obtain ⟨B, hB⟩ : ∃ B, B = T.map Bp.b := ⟨_, rfl⟩
            have hBl : B.length = T.length := by rw [hB, List.length_map]
            have KF := Lib.hid (fun W => by have q := fnd_any (strL B) (by rw [strL_size]; omega) W; rw [strL_list] at q; exact q)
            have HBB := Lib.hid hB
            have HBL := Lib.hid hBl
            rw [← hB] at hty
            have hty := hty.out
            subst hty
            clear hB hBl
            obtain ⟨m, hm⟩ : ∃ m, m = (spotsL B).length := ⟨_, rfl⟩
            have hml : m ≤ 6400 := by
              have := spots_len B false 0 0
              rw [hm]
              unfold spotsL
              have := HBL.out
              omega
            have HM := Lib.hid hm
            have HFL : Hid ((foundL B).length = m) := by unfold RowKit.Hid foundL; rw [List.length_map, hm]
            have HLL : Hid ((linkS T).length = m) := by unfold RowKit.Hid; rw [linkS_len, ← HBB.out, hm]
            clear hm
            go_wp2_with fail
            refine (KF.out _).mono ?_
            rintro e W1 ⟨v, rfl, ho, hs1⟩
            obtain ⟨av, cv, rfl, _⟩ := ho.slice
            rw [HFL.out] at ho ⊢
            have HO := Lib.hid (words_self ho)
            have HS4 := Lib.hid (HS3.out.sees hs1)
            clear ho hs1 HS3 KF
            obtain ⟨t3, t4, ht, _⟩ := HS4.out.p.slice
            rw [List.length_map] at ht
            have e6 := ht
            subst e6
            generalize hTT : T.length = N at *
            have HTT := Lib.hid hTT
            clear hTT
            go_wp2_with fail
            go_loopw [5, 14] (fun uo jj W => ∃ j : Nat, j ≤ m ∧ jj = .int .i64 j ∧ LdSt w (outs ++ (linkS T).take j) (T.map Bp.pl) uo (.slice t3 N t4) W ∧ fdEl.Own (fun b => (Value.slice av m cv).ownBlock = some b) W (.slice av m cv) (foundL B)) (fun _ jj _ => m - (intOf jj).toNat)
            case atStart => exact ⟨0, Nat.zero_le _, rfl, by rw [List.take_zero, List.append_nil]; exact HS4.out, HO.out⟩
            case round =>
              obtain ⟨j, hj, rfl, hI, hS5⟩ := hrel
              have HI5 := Lib.hid hI
              have HFD := Lib.hid hS5
              clear hI hS5
              by_cases hjm : j < m
              · obtain ⟨b1, o1, x1, rfl, hx1, y0, y1⟩ := fd_cell HFD.out.rd hjm
                have hx2 : ∃ p z, (spotsL B)[j]? = some (p, z) ∧ x1 = (p, strL (cutL B (p, z))) := by
                  unfold foundL at hx1
                  rw [List.getElem?_map] at hx1
                  obtain ⟨⟨p, z⟩, h1, h2⟩ := Option.map_eq_some_iff.1 hx1
                  exact ⟨p, z, h1, h2.symm⟩
                obtain ⟨p, z, hx, rfl⟩ := hx2
                simp only [] at y0 y1
                have hin := spots_in B false 0 0 (p, z) (List.mem_iff_getElem?.2 ⟨_, hx⟩)
                simp only [] at hin
                have hpz : p < z := hin.2.1
                have hzl : z ≤ N := by have := HBL.out; omega
                obtain ⟨z1, hz1⟩ : ∃ z1, z = z1 + 1 := ⟨z - 1, by omega⟩
                subst hz1
                obtain ⟨b2, o2, ⟨l0, c0⟩, e2, hp0, v0, v1⟩ := pl_cell HI5.out.p.rd (show p < N by omega)
                obtain ⟨b3, o3, ⟨l1, c1⟩, e3, hp1, v2, v3⟩ := pl_cell HI5.out.p.rd (show z1 < N by omega)
                subst e2
                obtain ⟨rfl, rfl⟩ : b2 = b3 ∧ o2 = o3 := by cases e3; exact ⟨rfl, rfl⟩
                simp only [] at v0 v1 v2 v3
                obtain ⟨Y, hY⟩ : ∃ Y : ByteArray, Y = strL (cutL B (p, z1 + 1)) := ⟨_, rfl⟩
                have hYs : Y.size = z1 + 1 - p := by
                  rw [hY, strL_size]
                  unfold cutL
                  rw [List.length_take, List.length_drop]
                  have := HBL.out
                  simp only []
                  omega
                obtain ⟨q, hq⟩ : ∃ q, q = Y.size := ⟨_, rfl⟩
                have hqi : (p : Int) + (q : Int) = (z1 : Int) + 1 := by omega
                have hlk : (linkS T)[j]? = some ⟨l0, c0, l1, c1, Y⟩ := by
                  unfold linkS
                  rw [← HBB.out, List.getElem?_map, hx]
                  simp only [Option.map_some, lkOf, Nat.add_sub_cancel]
                  rw [(pl_D hp0).1, (pl_D hp0).2, (pl_D hp1).1, (pl_D hp1).2, hY, HBB.out]
                have HTK : Hid (outs ++ (linkS T).take (j + 1) = (outs ++ (linkS T).take j) ++ [⟨l0, c0, l1, c1, Y⟩]) := by
                  unfold RowKit.Hid
                  rw [List.take_add_one, hlk, List.append_assoc]
                  rfl
                have HLN : Hid ((outs ++ (linkS T).take j).length + [(⟨l0, c0, l1, c1, Y⟩ : Lk)].length ≤ 100000000) := by
                  unfold RowKit.Hid
                  rw [List.length_append, List.length_take, List.length_singleton, HLL.out]
                  have : i * 6400 ≤ 10 * 6400 := Nat.mul_le_mul_right _ (by omega)
                  omega
                rw [← hY] at y1
                obtain ⟨ao, co, e8, _⟩ := HI5.out.o.slice
                subst e8
                obtain ⟨L, hL⟩ : ∃ L, L = (outs ++ (linkS T).take j).length := ⟨_, rfl⟩
                rw [← hL] at HI5 ⊢
                have hb1 : p < N := by omega
                have hb2 : z1 < N := by omega
                have hwz : IntKind.i64.wrap ((p : Int) + (Y.size : Int)) = (z1 : Int) + 1 := by rw [← hq, hqi]; exact IntWalk.i64_in _ (by omega)
                have hwz2 : IntKind.i64.wrap ((z1 : Int) + 1 - 1) = (z1 : Int) := by rw [Int.add_sub_cancel]; exact IntWalk.i64_in _ (by omega)
                have hwz3 : IntKind.i64.wrap (z1 : Int) = (z1 : Int) := IntWalk.i64_in _ (by omega)
                have T0 := Lib.hid y0
                have T1 := Lib.hid y1
                have U0 := Lib.hid v0
                have U1 := Lib.hid v1
                have V0 := Lib.hid v2
                have V1 := Lib.hid v3
                clear hx1 hx hin hp0 hp1 hY hlk e3 hL y0 y1 v0 v1 v2 v3 hYs hzl
                go_upto_region 23 with fail
                refine wpFrom_go (by kernel_rfl) (by kernel_rfl) (fun hRB w9 hw9 => ?_)
                have HI9 := Lib.hid (HI5.out.sees hw9)
                have HFD9 := Lib.hid (HFD.out.sees hw9)
                replace T0 := Lib.hid (hw9.cell T0.out)
                replace T1 := Lib.hid (hw9.cell T1.out)
                replace U0 := Lib.hid (hw9.cell U0.out)
                replace U1 := Lib.hid (hw9.cell U1.out)
                replace V0 := Lib.hid (hw9.cell V0.out)
                replace V1 := Lib.hid (hw9.cell V1.out)
                clear hw9 HI5 HFD
                have hst : segStay (Sees w9) [.is (.slice ao L co), .is (.slice (some ⟨b2, o2, none⟩) N t4), .is (.slice (some ⟨b1, o1, none⟩) m cv), .is (.int .i64 j), .is (.pointer (some ⟨b1, o1 + j * 2, none⟩)), .is (.pointer (some ⟨b1, o1 + j * 2, none⟩)), .is (.int .i64 p), .is (.pointer (some ⟨b2, o2 + p * 2, none⟩)), .is (.agg #[.int .i64 l0, .int .i64 c0]), .is (.slice (some ⟨b2, o2, none⟩) N t4), .is (.slice (some ⟨b1, o1, none⟩) m cv), .is (.int .i64 j), .is (.pointer (some ⟨b1, o1 + j * 2, none⟩)), .is (.pointer (some ⟨b1, o1 + j * 2, none⟩)), .is (.int .i64 p), .is (.slice (some ⟨b1, o1, none⟩) m cv), .is (.int .i64 j), .is (.pointer (some ⟨b1, o1 + j * 2, none⟩)), .is (.pointer (some ⟨b1, o1 + j * 2 + 1, none⟩)), .is (.string Y), .is (.int .i64 Y.size), .is (.int .i64 ((z1 : Int) + 1)), .is (.int .i64 (z1 : Int)), .is (.pointer (some ⟨b2, o2 + z1 * 2, none⟩)), .is (.agg #[.int .i64 l1, .int .i64 c1]), .is (.slice (some ⟨b1, o1, none⟩) m cv), .is (.int .i64 j), .is (.pointer (some ⟨b1, o1 + j * 2, none⟩)), .is (.pointer (some ⟨b1, o1 + j * 2 + 1, none⟩)), .is (.string Y), .is (.agg #[.int .i64 l0, .int .i64 c0, .int .i64 l1, .int .i64 c1, .string Y]), .so (fun x W => ∃ b, x = .slice (some ⟨b, 0, none⟩) 1 1 ∧ W.heap[b]? = some (.cells #[.int .i64 l0, .int .i64 c0, .int .i64 l1, .int .i64 c1, .string Y] 67 (0, 0)))] :=
                  ⟨fun u W W' _ ⟨b, h1, h2⟩ hs => ⟨b, h1, by rw [hs.block _ (Array.getElem?_eq_some_iff.1 h2).1]; exact h2⟩, trivial⟩
                have hval : ∀ x v, (Spec.is x).val v = x := fun _ _ => rfl
                have hval2 : ∀ V v, (Spec.so V).val v = v := fun _ _ => rfl
                refine wpFrom_any 32 _ hRB (by kernel_rfl) rfl hst (by simp only [List.cons_append, List.nil_append, List.drop_succ_cons, List.drop_zero, List.take_succ_cons, List.take_zero, Nat.reduceSub]; rfl) ?_
                refine ⟨fun vs W hI hV => .inl ⟨by clear hI hV hst; go_simp, .inl (by clear hI hV hst; (try simp only [Act.put, hval, hval2, List.setIfInBounds_toArray, List.set_cons_zero, List.set_cons_succ]); go_simp)⟩, ?_⟩
                refine ⟨fun vs W hI hV => .inl ⟨by clear hI hV hst; go_simp, .inl (by clear hI hV hst; (try simp only [Act.put, hval, hval2, List.setIfInBounds_toArray, List.set_cons_zero, List.set_cons_succ]); go_simp)⟩, ?_⟩
                refine ⟨fun vs W hI hV => .inl ⟨by clear hI hV hst; go_simp, .inl (by clear hI hV hst; (try simp only [Act.put, hval, hval2, List.setIfInBounds_toArray, List.set_cons_zero, List.set_cons_succ]); go_simp)⟩, ?_⟩
                refine ⟨fun vs W hI hV => .inl ⟨by clear hI hV hst; go_simp, .inl (by clear hI hV hst; (try simp only [Act.put, hval, hval2, List.setIfInBounds_toArray, List.set_cons_zero, List.set_cons_succ]); go_simp)⟩, ?_⟩
                refine ⟨fun vs W hI hV => .inl ⟨by clear hI hV hst; go_simp, .inl (by clear hI hV hst; (try simp only [Act.put, hval, hval2, List.setIfInBounds_toArray, List.set_cons_zero, List.set_cons_succ]); go_simp)⟩, ?_⟩
                refine ⟨fun vs W hI hV => .inl ⟨by clear hI hV hst; go_simp, .inl (by clear hI hV hst; (try simp only [Act.put, hval, hval2, List.setIfInBounds_toArray, List.set_cons_zero, List.set_cons_succ]); go_simp)⟩, ?_⟩
                refine ⟨fun vs W hI hV => .inl ⟨by clear hI hV hst; go_simp, .inl (by have q1 := hI.cell T0.out; clear hI hV hst; (try simp only [Act.put, hval, hval2, List.setIfInBounds_toArray, List.set_cons_zero, List.set_cons_succ]); go_simp)⟩, ?_⟩
                refine ⟨fun vs W hI hV => .inl ⟨by clear hI hV hst; go_simp, .inl (by clear hI hV hst; (try simp only [Act.put, hval, hval2, List.setIfInBounds_toArray, List.set_cons_zero, List.set_cons_succ]); go_simp)⟩, ?_⟩
                refine ⟨fun vs W hI hV => .inl ⟨by clear hI hV hst; go_simp, .inl (by have q1 := hI.cell U0.out; have q2 := hI.cell U1.out; clear hI hV hst; (try simp only [Act.put, hval, hval2, List.setIfInBounds_toArray, List.set_cons_zero, List.set_cons_succ]); go_simp)⟩, ?_⟩
                refine ⟨fun vs W hI hV => .inl ⟨by clear hI hV hst; go_simp, .inl (by clear hI hV hst; (try simp only [Act.put, hval, hval2, List.setIfInBounds_toArray, List.set_cons_zero, List.set_cons_succ]); go_simp)⟩, ?_⟩
                refine ⟨fun vs W hI hV => .inl ⟨by clear hI hV hst; go_simp, .inl (by clear hI hV hst; (try simp only [Act.put, hval, hval2, List.setIfInBounds_toArray, List.set_cons_zero, List.set_cons_succ]); go_simp)⟩, ?_⟩
                refine ⟨fun vs W hI hV => .inl ⟨by clear hI hV hst; go_simp, .inl (by clear hI hV hst; (try simp only [Act.put, hval, hval2, List.setIfInBounds_toArray, List.set_cons_zero, List.set_cons_succ]); go_simp)⟩, ?_⟩
                refine ⟨fun vs W hI hV => .inl ⟨by clear hI hV hst; go_simp, .inl (by clear hI hV hst; (try simp only [Act.put, hval, hval2, List.setIfInBounds_toArray, List.set_cons_zero, List.set_cons_succ]); go_simp)⟩, ?_⟩
                refine ⟨fun vs W hI hV => .inl ⟨by clear hI hV hst; go_simp, .inl (by clear hI hV hst; (try simp only [Act.put, hval, hval2, List.setIfInBounds_toArray, List.set_cons_zero, List.set_cons_succ]); go_simp)⟩, ?_⟩
                refine ⟨fun vs W hI hV => .inl ⟨by clear hI hV hst; go_simp, .inl (by have q1 := hI.cell T0.out; clear hI hV hst; (try simp only [Act.put, hval, hval2, List.setIfInBounds_toArray, List.set_cons_zero, List.set_cons_succ]); go_simp)⟩, ?_⟩
                refine ⟨fun vs W hI hV => .inl ⟨by clear hI hV hst; go_simp, .inl (by clear hI hV hst; (try simp only [Act.put, hval, hval2, List.setIfInBounds_toArray, List.set_cons_zero, List.set_cons_succ]); go_simp)⟩, ?_⟩
                refine ⟨fun vs W hI hV => .inl ⟨by clear hI hV hst; go_simp, .inl (by clear hI hV hst; (try simp only [Act.put, hval, hval2, List.setIfInBounds_toArray, List.set_cons_zero, List.set_cons_succ]); go_simp)⟩, ?_⟩
                refine ⟨fun vs W hI hV => .inl ⟨by clear hI hV hst; go_simp, .inl (by clear hI hV hst; (try simp only [Act.put, hval, hval2, List.setIfInBounds_toArray, List.set_cons_zero, List.set_cons_succ]); go_simp)⟩, ?_⟩
                refine ⟨fun vs W hI hV => .inl ⟨by clear hI hV hst; go_simp, .inl (by clear hI hV hst; (try simp only [Act.put, hval, hval2, List.setIfInBounds_toArray, List.set_cons_zero, List.set_cons_succ]); go_simp)⟩, ?_⟩
                refine ⟨fun vs W hI hV => .inl ⟨by clear hI hV hst; go_simp, .inl (by have q1 := hI.cell T1.out; clear hI hV hst; (try simp only [Act.put, hval, hval2, List.setIfInBounds_toArray, List.set_cons_zero, List.set_cons_succ]); go_simp)⟩, ?_⟩
                refine ⟨fun vs W hI hV => .inl ⟨by clear hI hV hst; go_simp, .inl (by clear hI hV hst; (try simp only [Act.put, hval, hval2, List.setIfInBounds_toArray, List.set_cons_zero, List.set_cons_succ]); go_simp)⟩, ?_⟩
                refine ⟨fun vs W hI hV => .inl ⟨by clear hI hV hst; go_simp, .inl (by clear hI hV hst; (try simp only [Act.put, hval, hval2, List.setIfInBounds_toArray, List.set_cons_zero, List.set_cons_succ]); go_simp)⟩, ?_⟩
                refine ⟨fun vs W hI hV => .inl ⟨by clear hI hV hst; go_simp, .inl (by clear hI hV hst; (try simp only [Act.put, hval, hval2, List.setIfInBounds_toArray, List.set_cons_zero, List.set_cons_succ]); go_simp)⟩, ?_⟩
                refine ⟨fun vs W hI hV => .inl ⟨by clear hI hV hst; go_simp, .inl (by clear hI hV hst; (try simp only [Act.put, hval, hval2, List.setIfInBounds_toArray, List.set_cons_zero, List.set_cons_succ]); go_simp)⟩, ?_⟩
                refine ⟨fun vs W hI hV => .inl ⟨by clear hI hV hst; go_simp, .inl (by have q1 := hI.cell V0.out; have q2 := hI.cell V1.out; clear hI hV hst; (try simp only [Act.put, hval, hval2, List.setIfInBounds_toArray, List.set_cons_zero, List.set_cons_succ]); go_simp)⟩, ?_⟩
                refine ⟨fun vs W hI hV => .inl ⟨by clear hI hV hst; go_simp, .inl (by clear hI hV hst; (try simp only [Act.put, hval, hval2, List.setIfInBounds_toArray, List.set_cons_zero, List.set_cons_succ]); go_simp)⟩, ?_⟩
                refine ⟨fun vs W hI hV => .inl ⟨by clear hI hV hst; go_simp, .inl (by clear hI hV hst; (try simp only [Act.put, hval, hval2, List.setIfInBounds_toArray, List.set_cons_zero, List.set_cons_succ]); go_simp)⟩, ?_⟩
                refine ⟨fun vs W hI hV => .inl ⟨by clear hI hV hst; go_simp, .inl (by clear hI hV hst; (try simp only [Act.put, hval, hval2, List.setIfInBounds_toArray, List.set_cons_zero, List.set_cons_succ]); go_simp)⟩, ?_⟩
                refine ⟨fun vs W hI hV => .inl ⟨by clear hI hV hst; go_simp, .inl (by clear hI hV hst; (try simp only [Act.put, hval, hval2, List.setIfInBounds_toArray, List.set_cons_zero, List.set_cons_succ]); go_simp)⟩, ?_⟩
                refine ⟨fun vs W hI hV => .inl ⟨by clear hI hV hst; go_simp, .inl (by have q1 := hI.cell T1.out; clear hI hV hst; (try simp only [Act.put, hval, hval2, List.setIfInBounds_toArray, List.set_cons_zero, List.set_cons_succ]); go_simp)⟩, ?_⟩
                refine ⟨fun vs W hI hV => .inl ⟨by clear hI hV hst; go_simp, .inl (by clear hI hV hst; (try simp only [Act.put, hval, hval2, List.setIfInBounds_toArray, List.set_cons_zero, List.set_cons_succ]); go_simp)⟩, ?_⟩
                refine ⟨fun vs W hI hV => ?_, ?_⟩
                · have hs : Sees W (W.alloc (.cells #[.int .i64 l0, .int .i64 c0, .int .i64 l1, .int .i64 c1, .string Y] 67)) := (Sees.refl W).alloc _
                  exact .inl ⟨by clear hI hV hst hs; go_simp, .inl ⟨.slice (some ⟨W.heap.size, 0, none⟩) 1 1, W.alloc (.cells #[.int .i64 l0, .int .i64 c0, .int .i64 l1, .int .i64 c1, .string Y] 67), by clear hI hV hst hs; (try simp only [Act.put, hval, hval2, List.setIfInBounds_toArray, List.set_cons_zero, List.set_cons_succ]); go_simp, rgGood_mk hst hI ⟨_, rfl, heap_alloc_new _ _⟩ hs⟩⟩
                intro vs w6 hI hV
                obtain ⟨b6, hv6, hr6⟩ : ∃ b, vs 31 = .slice (some ⟨b, 0, none⟩) 1 1 ∧ w6.heap[b]? = some (.cells #[.int .i64 l0, .int .i64 c0, .int .i64 l1, .int .i64 c1, .string Y] 67 (0, 0)) := hV 31 _ rfl
                have HIa := Lib.hid (HI9.out.sees hI)
                have HFDa := Lib.hid (HFD9.out.sees hI)
                have HRW := Lib.hid hr6
                clear hI hV hst hr6
                (try simp only [Act.put, hval, hval2, List.setIfInBounds_toArray, List.set_cons_zero, List.set_cons_succ])
                go_simp
                clear hv6
                refine wpFrom_to 34 hRB (fun _ _ _ _ _ h => h) (by kernel_rfl) (by simp only [List.cons_append, List.nil_append, List.drop_succ_cons, List.drop_zero, List.take_succ_cons, List.take_zero, Nat.reduceSub]; rfl) ?_
                go_wp2_with (at_builtin; go_loud (refine El.wpList_append_own (v := .slice ao L co) typedLk rfl (.tmp 90) (.tmp 121) rfl (by go_simp) HIa.out.o ⟨b6, 0, none⟩ 1 1 (by go_simp) [.int .i64 l0, .int .i64 c0, .int .i64 l1, .int .i64 c1, .string Y] [⟨l0, c0, l1, c1, Y⟩] (fun _ => False) (lk_news (m := ⟨l0, c0, l1, c1, Y⟩) HRW.out).1 rfl (lk_news (m := ⟨l0, c0, l1, c1, Y⟩) HRW.out).2 (fun b hb => (HIa.out.o.base hb).2) (fun b hb => hb.elim) HLN.out ?_); intro v7 w7 ho7 hk7; have HI7 := Lib.hid (HIa.out.addO (Sees.refl _) ho7 hk7); have HK7 := Lib.hid (HFDa.out.keeps hk7 (fun b hb hb' => own_apart HIa.out.o HFDa.out ne_fd b hb' hb)); clear ho7 hk7)
                refine wpFrom_end rfl ?_
                go_wp2_with fail
                exact ⟨⟨j + 1, by omega, by go_num, by rw [HTK.out]; exact HI7.out, HK7.out⟩, by simp [intOf]; omega⟩
              · obtain rfl : j = m := by omega
                have hfin := HI5.out
                rw [List.take_of_length_le (by rw [HLL.out]; exact Nat.le_refl _)] at hfin
                have HF := Lib.hid hfin
                have hnext : A = (outs ++ linkS T) ++ (segs (first + (i + 1 : Nat)) [] (ls.drop (i + 1))).flatMap linkS := by rw [hA2.out, List.append_assoc]
                have HNX := Lib.hid hnext
                clear hfin hnext HI5
                go_wp2_with fail
                exact ⟨⟨i + 1, [], outs ++ linkS T, _, by omega, by go_num, rfl, rfl, by simp, by rw [List.length_append, HLL.out]; omega, HNX.out, HF.out.clear⟩, by simp [intOf]; omega⟩
    · obtain rfl : i = n := by omega
      go_wp2
      go_ret
      refine ⟨_, rfl, ?_, HS.out.s⟩
      have e := hA1.out
      rw [HN.out, List.drop_length] at e
      simp [segs] at e
      rw [e]
      exact HS.out.o.mono (fun b _ hb => HS.out.a3 b hb)
end Go.Proofs.YtfdolhppbimbmaaDoor

namespace Go.Proofs.YtfdolhppbimbmaaDoor
set_option linter.unusedVariables false
set_option linter.unusedSimpArgs false
open Go.RowKit Go.Shelf
attribute [local go_sem] Oper.semAt_some

set_option maxHeartbeats 2000000 in
theorem lrows_any (F : Nat → Prop) (v : Value) (xs : List Ln) (w : World) (ht : Tabs w) (ha : lnEl.Rd F w v xs) (hn : xs.length ≤ 1000000) (hnc : ∀ l ∈ xs, l.cells.length ≤ 1000000) (first : Int) :
    Calls Tryd.prog 29 #[v, .int .i64 first] w fun e w' => e = .returned (.bool (rowsOk xs first)) ∧ Sees w w' := by
  have Hnc := Lib.hid hnc
  have Ht := Lib.hid ht
  obtain ⟨ao, ca, rfl, hca⟩ := ha.slice'
  have hw := Sees.refl w
  obtain ⟨n, hna⟩ : ∃ n, n = xs.length := ⟨_, rfl⟩
  rw [← hna] at ha hn
  rw [← hna]
  have Hna := Lib.hid hna
  have Ha := Lib.hid ha
  clear hna ha hca hnc ht
  go_enter Tryd.func29, Tryd.ntmps29
  go_wp2
  go_loopw [5] (fun i wr => ∃ k : Nat, k ≤ n ∧ i = .int .i64 k ∧ (xs.take k).all (scrAt (cols xs)) = true ∧ Sees w wr) (fun i _ => n - (intOf i).toNat)
  case atStart => exact ⟨0, by omega, rfl, by simp, Sees.refl _⟩
  case round =>
    obtain ⟨k, hk, rfl, hm, hS⟩ := hrel
    have Hm := Lib.hid hm; clear hm hw
    by_cases hlt : k < n
    · obtain ⟨b1, o1, x, a1, m1, rfl, _, hx, _, x1, x2, x3⟩ := (Ha.out.sees hS).line hlt
      obtain ⟨b2, o2, y, a2, m2, hb2, _, hy, _, y1, y2, y3⟩ := (Ha.out.sees hS).line (show 0 < n by omega)
      cases hb2
      rw [Nat.zero_mul, Nat.add_zero] at y1 y2
      have g1 := fun d os => (sees_grow wr d os).cell x1
      have g2 := fun d os => (sees_grow wr d os).cell x2
      have h1 := fun d os => (sees_grow wr d os).cell y1
      have X3 := Lib.hid x3
      have HT := Lib.hid (Ht.out.sees hS)
      have Hx := Lib.hid hx
      have Hxl := Lib.hid (Hnc.out x (List.mem_iff_getElem?.2 ⟨_, hx⟩))
      have hcols := cols_of hy
      have hv : ∀ b1 b2 b3, lnOk x.cells = b1 → ((x.cells.length : Int) == 0) = b2 → (x.cells.length == y.cells.length) = b3 → scrAt (cols xs) x = (b1 && !b2 && b3) := by
        rintro _ _ _ rfl rfl rfl
        unfold scrAt; rw [hcols]
        congr 2
        rw [Bool.eq_iff_iff]; simp
      have Hv := Lib.hid hv
      clear hx hy x1 x2 x3 y1 y2 y3 Ha hcols hv
      generalize hl1 : x.cells.length = n1 at *
      generalize hl2 : y.cells.length = n0 at *
      have H1 := Lib.hid hl1
      clear hl1 hl2
      have k0 : (0 : Nat) < n := by omega
      have k1 : (0 : Int) < n := by omega
      rcases ways3 (lnOk x.cells) (!((n1 : Int) == 0)) (n1 == n0) with ⟨e1, e2, e3⟩ | ⟨e1, e2, e3⟩ | ⟨e1, e2⟩ | e1
      all_goals
        (try (have e2' : ((n1 : Int) == 0) = _ := Bool.not_eq_eq_eq_not.1 e2))
        go_wp2
        refine wp_region_quiet_below (by kernel_rfl) (by kernel_rfl) ?_
        repeat (first | go_big_quiet_skip | (go_big_quiet_want; go_big_quiet_op; go_big_quiet_on))
        (go_big_quiet_want; go_big_quiet_op; apply Exists.intro; refine ⟨fun p => Calls.regrown_of (lineValid_any _ x.cells x.soft _ (HT.out.sees (sees_grow wr _ _)) (X3.out.sees (sees_grow wr _ _)).rdCells (by rw [H1.out]; exact Hxl.out)), ?_⟩; go_big_quiet_on)
        repeat (first | go_big_quiet_skip | (go_big_quiet_want; go_big_quiet_op; go_big_quiet_on))
        refine wpQuiet_nil ?_; intro w2 hw2'; have hw2 := regrown_sees hw2'; clear hw2'
        go_wp2
      · have := Hv.out true false true e1 (by simpa using e2) e3
        go_roundw
        case rel => exact ⟨k + 1, by omega, by go_num, scr_more Hx.out this Hm.out, hS.trans hw2⟩
        case measure => simp [intOf]; omega
      · have := rowsOk_no (first := first) (scrB_bad Hx.out (Hv.out true false false e1 (by simpa using e2) e3))
        go_ret
        exact ⟨ret_bool this.symm, hS.trans hw2⟩
      · have := rowsOk_no (first := first) (scrB_bad Hx.out ((Hv.out true true _ e1 (by simpa using e2) rfl).trans (by simp)))
        go_ret
        exact ⟨ret_bool this.symm, hS.trans hw2⟩
      · have := rowsOk_no (first := first) (scrB_bad Hx.out ((Hv.out false _ _ e1 rfl rfl).trans (by simp)))
        go_ret
        exact ⟨ret_bool this.symm, hS.trans hw2⟩
    · obtain rfl : k = n := by omega
      have Hf : Hid (rowsOk xs first = (decide (first ≥ 0) && decide (first ≤ 1099511627776))) := by
        have := Hm.out
        rw [List.take_of_length_le (by rw [← Hna.out]; exact Nat.le_refl _)] at this
        unfold Hid rowsOk scrB
        rw [this]
        rfl
      rcases Bool.eq_false_or_eq_true (decide (first ≥ 0)) with g1 | g1
      all_goals
        rw [g1] at Hf
        go_wp2
        go_ret
        exact ⟨by rw [Hf.out]; simp, hS⟩
/-- At most so many lines with at most so many cells each. -/
def smallK (ls : List Ln) : Bool := decide (ls.length ≤ 10) && ls.all fun l => decide (l.cells.length ≤ 40)
theorem smallK_ok {ls : List Ln} (h : smallK ls = true) : ls.length ≤ 10 ∧ ∀ l ∈ ls, l.cells.length ≤ 40 := by
  unfold smallK at h
  simpa using h
set_option maxHeartbeats 1000000 in
theorem lsmall_any (F : Nat → Prop) (v : Value) (xs : List Ln) (w : World) (ha : lnEl.Rd F w v xs) :
    Calls Tryd.prog 28 #[v] w fun e w' => e = .returned (.bool (smallK xs)) ∧ Sees w w' := by
  obtain ⟨ao, ca, rfl, hca⟩ := ha.slice'
  have hw := Sees.refl w
  obtain ⟨n, hna⟩ : ∃ n, n = xs.length := ⟨_, rfl⟩
  rw [← hna] at ha
  rw [← hna]
  have Hna := Lib.hid hna
  have Ha := Lib.hid ha
  clear hna ha hca
  go_enter Tryd.func28, Tryd.ntmps28
  go_wp2
  go_loop [3] (fun i => ∃ k : Nat, k ≤ n ∧ k ≤ 11 ∧ i = .int .i64 k ∧ (∀ (j : Nat) x, j < k → xs[j]? = some x → x.cells.length ≤ 40)) (fun i => n - (intOf i).toNat)
  case atStart => exact ⟨0, by omega, by omega, rfl, fun j x h => by omega⟩
  case round =>
    obtain ⟨k, hk, hk2, rfl, hm⟩ := hrel
    have Hm := Lib.hid hm; clear hm
    by_cases hlt : k < n
    · by_cases h11 : k < 11
      · obtain ⟨b1, o1, x, a1, m1, rfl, _, hx, _, x1, x2, x3⟩ := Ha.out.line hlt
        have Hx := Lib.hid hx
        have HW := Lib.hid hw
        generalize hl1 : x.cells.length = n1 at *
        have H1 := Lib.hid hl1
        clear hx x3 Ha hl1 hw
        by_cases h24 : n1 ≤ 40
        · have e1 : decide ((n1 : Int) > 40) = false := decide_eq_false (by omega)
          have e2 : decide ((40 : Int) < n1) = false := decide_eq_false (by omega)
          go_wp2
          go_round
          case rel => exact ⟨k + 1, by omega, by omega, by go_num, fun j y hj hy => by
            rcases Nat.lt_or_ge j k with h | h
            · exact Hm.out j y h hy
            · obtain rfl : j = k := by omega
              rw [Hx.out] at hy; cases hy; rw [H1.out]; exact h24⟩
          case measure => simp [intOf]; omega
        · have e1 : decide ((n1 : Int) > 40) = true := decide_eq_true (by omega)
          have e2 : decide ((40 : Int) < n1) = true := decide_eq_true (by omega)
          have Hf : Hid (smallK xs = false) := Bool.eq_false_iff.2 fun h => by
            have := (smallK_ok h).2 x (List.mem_iff_getElem?.2 ⟨_, Hx.out⟩)
            rw [H1.out] at this; omega
          go_wp2
          go_ret
          exact ⟨ret_bool Hf.out.symm, HW.out⟩
      · have Hf : Hid (smallK xs = false) := Bool.eq_false_iff.2 fun h => by
          have := (smallK_ok h).1; have := Hna.out; omega
        have e1 : decide (n ≤ 10) = false := decide_eq_false (by omega)
        have e2 : decide ((n : Int) ≤ 10) = false := decide_eq_false (by omega)
        go_wp2
        go_ret
        exact ⟨by rw [Hf.out]; first | rfl | (simp; omega), hw⟩
    · obtain rfl : k = n := by omega
      have Hf : Hid (smallK xs = decide (k ≤ 10)) := by
        have h : xs.all (fun l => decide (l.cells.length ≤ 40)) = true := by
          rw [List.all_eq_true]
          intro x hx
          obtain ⟨j, hj⟩ := List.mem_iff_getElem?.1 hx
          exact decide_eq_true (Hm.out j x (by have := Hna.out; have := (List.getElem?_eq_some_iff.1 hj).1; omega) hj)
        unfold Hid smallK; rw [h, ← Hna.out]; simp
      go_wp2
      go_ret
      exact ⟨by rw [Hf.out]; first | rfl | (simp; omega), hw⟩

def stP (W : World) (b : Nat) (l c : Int) : World := W.setRow b [Value.int .i64 l, .int .i64 c].toArray
theorem run_storePl {W : World} {b : Nat} {l0 c0 : Int} (h : PlAt W b l0 c0) (l c : Int) : (Instr.storeAt 31 (.pointer (some ⟨b, 0, none⟩)) (.agg #[.int .i64 l, .int .i64 c])).run Tryd.prog W = .ok () (stP W b l c) :=
  run_storeAt_row (P := Tryd.prog) (W := W) 31 b _ 31 [.int .i64 l, .int .i64 c] (fun _ => by kernel_rfl) h rfl (by intro v hv; simp only [List.mem_cons, List.not_mem_nil, or_false] at hv; rcases hv with rfl | rfl <;> rfl)
theorem stP_at {W : World} {b : Nat} {l0 c0 : Int} (h : PlAt W b l0 c0) (l c : Int) : PlAt (stP W b l c) b l c := by
  unfold PlAt at *
  simp [stP, World.setRow, Array.getElem?_modify, h]
theorem stP_keeps (W : World) (b : Nat) (l c : Int) : Keeps (fun y => y = b) W (stP W b l c) :=
  ⟨rfl, rfl, rfl, by simp [stP, World.setRow], fun y _ hne => setRow_other _ _ _ _ hne⟩

theorem linkS_le (seg : List Bp) : (linkS seg).length ≤ seg.length := by
  rw [linkS_len]
  have h := spots_len (seg.map Bp.b) false 0 0
  rw [List.length_map] at h
  exact h
theorem flat_le : ∀ (L : List (List Bp)), (L.flatMap linkS).length ≤ (L.map List.length).sum
  | [] => by simp
  | s :: L => by
    rw [List.flatMap_cons, List.length_append, List.map_cons, List.sum_cons]
    have := linkS_le s
    have := flat_le L
    omega
theorem allK_few {ls : List Ln} {m : Nat} (first : Int) (h : ∀ x ∈ ls, x.cells.length ≤ m) : (allK ls first).length ≤ ls.length * (m * 16) := by
  have h1 := flat_le (segs first [] ls)
  have h2 := segs_total (n := first) (acc := []) h
  unfold allK
  simp only [List.length_nil, Nat.zero_add] at h2
  omega
theorem bp_mem {seg : List Bp} {k : Nat} (h : k < seg.length) : seg.getD k default ∈ seg := by
  rw [List.getD_eq_getElem?_getD, List.getElem?_eq_getElem h]
  exact List.getElem_mem h
theorem lk_mem {ls : List Ln} {first : Int} {x : Lk} (h : x ∈ allK ls first) : ∃ seg ∈ segs first [] ls, ∃ m ∈ spotsL (seg.map Bp.b), x = lkOf seg m ∧ m.1 < m.2 ∧ m.2 ≤ seg.length := by
  unfold allK at h
  obtain ⟨seg, hs, hx⟩ := List.mem_flatMap.1 h
  unfold linkS at hx
  obtain ⟨m, hm, rfl⟩ := List.mem_map.1 hx
  have hin := spots_in (seg.map Bp.b) false 0 0 m hm
  rw [List.length_map] at hin
  exact ⟨seg, hs, m, hm, rfl, hin.2.1, by omega⟩
theorem lk_in {ls : List Ln} {first : Int} {x : Lk} {k : Nat} (hk : ∀ y ∈ ls, y.cells.length ≤ k) (h : x ∈ allK ls first) : (first ≤ x.l0 ∧ x.l0 < first + ls.length ∧ 0 ≤ x.c0 ∧ x.c0 < k) ∧ first ≤ x.l1 ∧ x.l1 < first + ls.length ∧ 0 ≤ x.c1 ∧ x.c1 < k := by
  obtain ⟨seg, hs, m, hm, rfl, h1, h2⟩ := lk_mem h
  have key : ∀ j, j < seg.length → first ≤ (seg.getD j default).line ∧ (seg.getD j default).line < first + ls.length ∧ 0 ≤ (seg.getD j default).col ∧ (seg.getD j default).col < k := fun j hj => by
    rcases segs_mem hs (bp_mem hj) with hh | ⟨q1, q2, q3, y, hy, q4⟩
    · cases hh
    · exact ⟨q1, q2, q3, by have := hk y hy; omega⟩
  exact ⟨key m.1 (by omega), key (m.2 - 1) (by omega)⟩
def fP (ks : List Lk) (l c : Int) : Lk × Int := match ks.find? (lkHas l c) with
  | some x => (x, 0)
  | none => (zeroLk, 9)
theorem atP_in (ks : List Lk) (l c : Int) : atP ks false l c = fP ks l c := rfl
theorem atP_out (ks : List Lk) (l c : Int) : atP ks true l c = (zeroLk, 3) := rfl
theorem fP_nil (l c : Int) : fP [] l c = (zeroLk, 9) := rfl
theorem fP_step {ks : List Lk} {p : Nat} {x : Lk} (h : ks[p]? = some x) (l c : Int) : fP (ks.drop p) l c = if lkHas l c x then (x, 0) else fP (ks.drop (p + 1)) l c := by
  obtain ⟨hlt, he⟩ := List.getElem?_eq_some_iff.1 h
  rw [List.drop_eq_getElem_cons hlt, he]
  unfold fP
  rw [List.find?_cons]
  cases lkHas l c x <;> rfl
theorem has_num {Z k : Int} {x : Lk} (h0 : 0 ≤ x.c0 ∧ x.c0 < 100) (h1 : 0 ≤ x.c1 ∧ x.c1 < 100) (hk : 0 ≤ k ∧ k < 100) : lkHas Z k x = (decide (100 * Z + k ≥ 100 * x.l0 + x.c0) && decide (100 * Z + k ≤ 100 * x.l1 + x.c1)) := by
  unfold lkHas befB
  rw [Bool.eq_iff_iff]
  simp only [Bool.and_eq_true, Bool.not_eq_true', Bool.or_eq_false_iff, decide_eq_false_iff_not, Bool.and_eq_false_iff, beq_eq_false_iff_ne, decide_eq_true_eq]
  omega
theorem foB_in {ls : List Ln} {first l c : Int} : (!foB ls first l c) = (decide (l ≥ first) && decide (l < first + (ls.length : Int)) && decide (c ≥ 0) && decide (c < (cols ls : Int))) := by
  unfold foB
  rw [Bool.eq_iff_iff]
  simp only [Bool.and_eq_true, Bool.not_eq_true', Bool.or_eq_false_iff, decide_eq_false_iff_not, decide_eq_true_eq]
  omega
theorem smallK_ways {ls : List Ln} (h : smallK ls = true) : ls.length ≤ 10 ∧ ∀ x ∈ ls, x.cells.length ≤ 40 := smallK_ok h
set_option maxHeartbeats 16000000 in
set_option maxRecDepth 1000000 in
theorem linksRows_any (v : Value) (ls : List Ln) (first l c : Int) (w : World) (hst : Std w) (ht : Tabs w) (ha : lnEl.Rd (fun b => b < w.heap.size) w v ls) :
    Calls Tryd.prog 6 #[v, .int .i64 first, .agg #[.int .i64 l, .int .i64 c]] w fun e w' => e = .returned (.bool true) ∧ Sees w w' := by
  obtain ⟨a, n, cp, rfl⟩ : ∃ a n cp, v = .slice a n cp := by obtain ⟨a, c, rfl⟩ := ha.slice; exact ⟨_, _, _, rfl⟩
  have KN := Lib.hid (fun W (hs : Sees w W) => lknown_any W (hst.sees hs) (ht.sees hs))
  have HA := Lib.hid ha
  have HT := Lib.hid ht
  have HST := Lib.hid hst
  have HN : Hid (n = ls.length) := ha.len
  have KSm := Lib.hid (fun W (hs : Sees w W) => lsmall_any _ _ ls W (ha.sees hs))
  obtain ⟨B, hB⟩ : ∃ B, B = smallK ls := ⟨_, rfl⟩
  rw [← hB] at KSm
  have HB := Lib.hid hB
  clear ha hst ht hB
  go_enter Tryd.func6, Tryd.ntmps6
  go_upto_region 1 with fail
  refine wp_world fun W0 hW0 => ?_
  have HP0 : Hid (PlAt W0 w.heap.size l c) := by subst hW0; exact heap_alloc_new w _
  have HS0 : Hid (Sees w W0) := by subst hW0; exact (Sees.refl w).alloc _
  clear hW0
  obtain ⟨b5, hb5⟩ : ∃ b5, b5 = w.heap.size := ⟨_, rfl⟩
  rw [← hb5] at HP0 ⊢
  clear hb5
  go_wp2_with fail
  refine (KSm.out _ HS0.out).mono ?_
  rintro e W1 ⟨rfl, s⟩
  have HS1 := Lib.hid (HS0.out.trans s)
  have HP1 := Lib.hid (HP0.out.sees s)
  clear s HS0 HP0 KSm
  cases B
  · go_wp2_with fail
    refine (KN.out _ HS1.out).mono ?_
    rintro e W2 ⟨rfl, s⟩
    have HS2 := Lib.hid (HS1.out.trans s)
    clear s
    go_wp2
    go_ret
    exact ⟨rfl, HS2.out⟩
  · obtain ⟨hl1, hcell⟩ := smallK_ways HB.out.symm
    have HC := Lib.hid hcell
    have hn10 : n ≤ 10 := by have := HN.out; omega
    have KR := Lib.hid (lrows_any _ _ ls W1 (HT.out.sees HS1.out) (HA.out.sees HS1.out) (by omega) (fun x hx => by have := hcell x hx; omega) first)
    obtain ⟨R, hR⟩ : ∃ R, R = rowsOk ls first := ⟨_, rfl⟩
    rw [← hR] at KR
    have HR := Lib.hid hR
    have HL := Lib.hid hl1
    clear hR HB hcell hl1
    cases R
    · have hof : Hid (ofE ls first = 2) := ofE_rows HR.out.symm
      go_wp2_with fail
      refine KR.out.mono ?_
      rintro e W2 ⟨rfl, s⟩
      have HS2 := Lib.hid (HS1.out.trans s)
      have HP2 := Lib.hid (HP1.out.sees s)
      clear s HP1 HS1
      have KAL : Hid (Calls Tryd.prog 35 #[.slice a n cp, .int .i64 first] W2 fun e w' => ∃ v', e = .returned (.tuple #[v', .int .i64 2]) ∧ lkEl.Rd (fun _ => True) w' v' [] ∧ Sees W2 w') := by
        refine (lall_err (HT.out.sees HS2.out) (rd_up HA.out HS2.out) (by have := HL.out; omega) (fun x hx => by have := HC.out x hx; omega) hof.out).mono ?_
        rintro e w' ⟨rfl, hs⟩
        exact ⟨_, rfl, (El.Own.nil (E := lkEl) (fun _ => False) w').rd.mono (fun b _ _ => trivial), hs⟩
      go_wp2_with fail
      refine (alls_true _ _ first 2 [] _ _ (El.Own.nil (E := lkEl) (fun _ => False) W2).rd (by decide) KAL.out).mono ?_
      rintro e W3 ⟨rfl, s⟩
      have HS3 := Lib.hid (HS2.out.trans s)
      have HP3 := Lib.hid (HP2.out.sees s)
      clear s HS2 HP2 KAL
      have KAT : Hid (∀ W, Sees W3 W → Calls Tryd.prog 82 #[.slice a n cp, .int .i64 first, .agg #[.int .i64 l, .int .i64 c]] W fun e w' => e = .returned (.tuple #[zeroLk.val, .int .i64 2]) ∧ Sees W w') := fun W hs => lat_err (HT.out.sees (HS3.out.trans hs)) (rd_up HA.out (HS3.out.trans hs)) (by have := HL.out; omega) (fun x hx => by have := HC.out x hx; omega) l c hof.out
      obtain ⟨q0, q1⟩ := HP3.out.cells
      go_wp2_with fail
      refine (ats_true _ first l c zeroLk 2 _ KAT.out).mono ?_
      rintro e W4 ⟨rfl, s⟩
      have HS4 := Lib.hid (HS3.out.trans s)
      clear s q0 q1
      go_wp2_with fail
      refine (KN.out _ HS4.out).mono ?_
      rintro e W5 ⟨rfl, s⟩
      have HS5 := Lib.hid (HS4.out.trans s)
      clear s
      go_wp2
      go_ret
      exact ⟨rfl, HS5.out⟩
    · have hof : Hid (ofE ls first = 0) := ofE_ok HR.out.symm (by have := HL.out; omega)
      obtain ⟨hrow, f0, f1⟩ := rowsOk_ok HR.out.symm
      obtain ⟨M, hM⟩ : ∃ M, M = cols ls := ⟨_, rfl⟩
      have HROW : Hid (∀ x ∈ ls, x.cells.length = M) := fun x hx => by rw [hM]; exact (hrow x hx).1
      have HMM := Lib.hid hM
      clear hM hrow
      obtain ⟨ks, hks⟩ : ∃ ks, ks = allK ls first := ⟨_, rfl⟩
      obtain ⟨N, hN⟩ : ∃ N, N = ks.length := ⟨_, rfl⟩
      have hN2 : N ≤ 6400 := by
        have h1 := allK_few (m := 40) first HC.out
        have h2 : ls.length * (40 * 16) ≤ 10 * (40 * 16) := Nat.mul_le_mul_right _ HL.out
        rw [hN, hks]
        omega
      have HTK : Hid ((allK ls first).take 10000 = ks) := by unfold RowKit.Hid; rw [← hks, List.take_of_length_le (by omega)]
      have HRG : Hid (∀ x ∈ ks, (first ≤ x.l0 ∧ x.l0 < first + ls.length ∧ 0 ≤ x.c0 ∧ x.c0 < (40 : Nat)) ∧ first ≤ x.l1 ∧ x.l1 < first + ls.length ∧ 0 ≤ x.c1 ∧ x.c1 < (40 : Nat)) := fun x hx => lk_in HC.out (by rw [← hks]; exact hx)
      have HKS := Lib.hid hks
      have HNE := Lib.hid hN
      clear hks hN
      go_wp2_with fail
      refine KR.out.mono ?_
      rintro e W2 ⟨rfl, s⟩
      have HS2 := Lib.hid (HS1.out.trans s)
      have HP2 := Lib.hid (HP1.out.sees s)
      clear s HP1 HS1 KR
      have KLI := Lib.hid (linked_any _ a n cp ls first W2 (HA.out.sees HS2.out) HL.out HC.out f0 f1)
      rw [← HKS.out] at KLI
      go_wp2_with fail
      refine KLI.out.mono ?_
      rintro e W3 ⟨vk, rfl, ho, s⟩
      obtain ⟨ak, ck, rfl, _⟩ := ho.slice
      rw [← HNE.out] at ho
      rw [← HNE.out]
      have HO3 := Lib.hid ho.rd
      have HS3 := Lib.hid (HS2.out.trans s)
      have HP3 := Lib.hid (HP2.out.sees s)
      clear s ho HS2 HP2 KLI
      have KAL : Hid (Calls Tryd.prog 35 #[.slice a n cp, .int .i64 first] W3 fun e w' => ∃ v', e = .returned (.tuple #[v', .int .i64 0]) ∧ lkEl.Rd (fun _ => True) w' v' ks ∧ Sees W3 w') := by
        refine (lall_ok (HST.out.sees HS3.out) (HT.out.sees HS3.out) (rd_up HA.out HS3.out) hof.out).mono ?_
        rintro e w' ⟨v, rfl, ho, hs⟩
        rw [HTK.out] at ho
        exact ⟨v, rfl, ho.rd.mono (fun b _ _ => trivial), hs⟩
      go_wp2_with fail
      refine (alls_true _ _ first 0 ks _ _ HO3.out (by have := HNE.out; omega) KAL.out).mono ?_
      rintro e W5 ⟨rfl, s⟩
      have HO := Lib.hid (HO3.out.sees s)
      have HS5 := Lib.hid (HS3.out.trans s)
      have HP := Lib.hid (HP3.out.sees s)
      have KAT : Hid (∀ W L C m k, Sees W5 W → atP ks (foB ls first L C) L C = (m, k) → Calls Tryd.prog 82 #[.slice a n cp, .int .i64 first, .agg #[.int .i64 L, .int .i64 C]] W fun e w' => e = .returned (.tuple #[m.val, .int .i64 k]) ∧ Sees W w') := fun W L C m k hs hm => lat_ok (HST.out.sees (HS5.out.trans hs)) (HT.out.sees (HS5.out.trans hs)) (rd_up HA.out (HS5.out.trans hs)) hof.out L C m k (by rw [HTK.out]; exact hm)
      have KP := Lib.hid (fun l c W => lat_any l c W)
      clear s HO3 HS3 HP3 KAL HTK
      go_wp2_with fail
      go_loopw [8] (fun ii W => ∃ i : Nat, i ≤ n ∧ ii = .int .i64 i ∧ Sees W5 W) (fun ii _ => n - (intOf ii).toNat)
      case atStart => exact ⟨0, Nat.zero_le _, rfl, Sees.refl _⟩
      case round =>
        obtain ⟨i, hi, rfl, hS⟩ := hrel
        have HSi := Lib.hid hS
        clear hS
        by_cases hin : i < n
        · obtain ⟨b1, o1, x, a1, m1, rfl, _, hx, hcap, x1, x2, x3⟩ := HA.out.line hin
          have hxm : x.cells.length = M := HROW.out x (List.mem_iff_getElem?.2 ⟨_, hx⟩)
          have hm40 : M ≤ 40 := by rw [← hxm]; exact HC.out x (List.mem_iff_getElem?.2 ⟨_, hx⟩)
          rw [hxm] at x1 hcap
          have X1 := Lib.hid (HS5.out.cell x1)
          clear hx x1 x2 x3 hxm
          go_wp2_with fail
          go_loopw [9] (fun kk W => ∃ k : Nat, k ≤ M + 2 ∧ kk = .int .i64 k ∧ Sees W5 W) (fun kk _ => M + 2 - (intOf kk).toNat)
          case atStart => exact ⟨0, Nat.zero_le _, rfl, HSi.out⟩
          case round =>
            obtain ⟨k, hk, rfl, hS⟩ := hrel
            have HSk := Lib.hid hS
            have y1 := hS.cell X1.out
            clear hS
            by_cases hkm : k < M
            · have hkm2 : (k : Int) < (M : Int) := by omega
              obtain ⟨Z, hZ⟩ : ∃ Z, Z = first + (i : Int) := ⟨_, rfl⟩
              have hfo : foB ls first Z k = false := by
                have h := foB_in (ls := ls) (first := first) (l := Z) (c := (k : Int))
                rw [decide_eq_true (show Z ≥ first by omega), decide_eq_true (show Z < first + (ls.length : Int) by have := HN.out; omega), decide_eq_true (show (k : Int) ≥ 0 by omega), decide_eq_true (show (k : Int) < (cols ls : Int) by rw [← HMM.out]; exact hkm2)] at h
                simpa using h
              have HFO := Lib.hid hfo
              have HZ := Lib.hid hZ
              have hz1 : IntKind.i64.wrap Z = Z := IntWalk.i64_in _ (by omega)
              have hz2 : 0 ≤ Z ∧ Z ≤ 1099511627786 := by omega
              have hze : first + (i : Int) = Z := hZ.symm
              have hz3 : IntKind.i64.wrap (100 * Z) = 100 * Z := IntWalk.i64_in _ (by omega)
              have hz4 : IntKind.i64.wrap (100 * Z + (k : Int)) = 100 * Z + (k : Int) := IntWalk.i64_in _ (by omega)
              clear hfo hZ
              go_upto_region 15 with fail
              refine wp_world fun W6 hW6 => ?_
              have HX6 : Hid (LkAt W6 wr.heap.size zeroLk) := by subst hW6; exact heap_alloc_new wr _
              have HS6 : Hid (Sees wr W6) := by subst hW6; exact (Sees.refl wr).alloc _
              clear hW6
              obtain ⟨bx, hbx⟩ : ∃ bx, bx = wr.heap.size := ⟨_, rfl⟩
              have HBX : Hid (wr.heap.size ≤ bx) := by unfold RowKit.Hid; omega
              rw [← hbx] at HX6 ⊢
              clear hbx y1
              go_wp2_with fail
              go_loopw [11, 12] (fun no jj W => ∃ (q : Nat) (z : Int) (m : Lk) (e : Int), q ≤ N ∧ z + 1 = (q : Int) ∧ jj = .int .i64 z ∧ no = .int .i64 e ∧ Hid (fP (ks.drop q) Z k = (m, e)) ∧ LkAt W bx m ∧ Sees wr W) (fun _ jj _ => (intOf jj + 1).toNat)
              case atStart => exact ⟨N, (N : Int) - 1, zeroLk, 9, Nat.le_refl _, by omega, by go_num, rfl, by unfold RowKit.Hid; rw [HNE.out, List.drop_length]; rfl, HX6.out, HS6.out⟩
              case round =>
                obtain ⟨q, z, m, e, hq, hz, rfl, rfl, hfp, hLk, hS⟩ := hrel
                have HLk := Lib.hid hLk
                have HSj := Lib.hid hS
                clear hLk hS
                rcases Nat.eq_zero_or_pos q with rfl | hqp
                · obtain rfl : z = -1 := by omega
                  rw [List.drop_zero] at hfp
                  have KAS := Lib.hid (fun W (hs : Sees W5 W) => ats_true (.slice (some ⟨b1, o1, none⟩) n cp) first Z k m e W (fun W2 hs2 => KAT.out W2 Z k m e (hs.trans hs2) (by rw [HFO.out, atP_in]; exact hfp.out)))
                  have HSw := Lib.hid (HSk.out.trans HSj.out)
                  clear hfp
                  go_upto_region 22 with fail
                  refine wpH_go (fun _ => False) 11 (by kernel_rfl) (by kernel_rfl) (by rfl) (fun hB w9 hs9 => ?_)
                  have S9 := Lib.hid (HSw.out.trans hs9)
                  have L9 := Lib.hid (HLk.out.sees hs9)
                  clear hs9
                  have hS0 : Keeps (fun _ => False) w9 w9 := Keeps.refl _ w9
                  refine wpH_take (i := 0) (v := .slice (some ⟨b1, o1, none⟩) n cp) hB (by rfl) (by kernel_rfl) (fun _ _ _ _ _ h => h) (by rfl) hS0 (fun W hI => by clear hI; go_simp) ?_; (try simp only [Act.put, List.setIfInBounds_toArray, List.set_cons_zero, List.set_cons_succ])
                  refine wpH_take (i := 1) (v := .int .i64 first) hB (by rfl) (by kernel_rfl) (fun _ _ _ _ _ h => h) (by rfl) hS0 (fun W hI => by clear hI; go_simp) ?_; (try simp only [Act.put, List.setIfInBounds_toArray, List.set_cons_zero, List.set_cons_succ])
                  refine wpH_take (i := 2) (v := .int .i64 first) hB (by rfl) (by kernel_rfl) (fun _ _ _ _ _ h => h) (by rfl) hS0 (fun W hI => by clear hI; go_simp) ?_; (try simp only [Act.put, List.setIfInBounds_toArray, List.set_cons_zero, List.set_cons_succ])
                  refine wpH_take (i := 3) (v := .int .i64 i) hB (by rfl) (by kernel_rfl) (fun _ _ _ _ _ h => h) (by rfl) hS0 (fun W hI => by clear hI; go_simp) ?_; (try simp only [Act.put, List.setIfInBounds_toArray, List.set_cons_zero, List.set_cons_succ])
                  refine wpH_take (i := 4) (v := .int .i64 Z) hB (by rfl) (by kernel_rfl) (fun _ _ _ _ _ h => h) (by rfl) hS0 (fun W hI => by clear hI; go_simp) ?_; (try simp only [Act.put, List.setIfInBounds_toArray, List.set_cons_zero, List.set_cons_succ])
                  refine wpH_take (i := 5) (v := .int .i64 k) hB (by rfl) (by kernel_rfl) (fun _ _ _ _ _ h => h) (by rfl) hS0 (fun W hI => by clear hI; go_simp) ?_; (try simp only [Act.put, List.setIfInBounds_toArray, List.set_cons_zero, List.set_cons_succ])
                  refine wpH_take (i := 7) (v := .agg #[.int .i64 m.l0, .int .i64 m.c0, .int .i64 m.l1, .int .i64 m.c1, .string m.a]) hB (by rfl) (by kernel_rfl) (fun _ _ _ _ _ h => h) (by rfl) hS0 (fun W hI => by obtain ⟨q0, q1, q2, q3, q4⟩ := (L9.out.keeps hI (fun h => h)).c; go_simp) ?_; (try simp only [Act.put, List.setIfInBounds_toArray, List.set_cons_zero, List.set_cons_succ])
                  refine wpH_take (i := 8) (v := .int .i64 e) hB (by rfl) (by kernel_rfl) (fun _ _ _ _ _ h => h) (by rfl) hS0 (fun W hI => by clear hI; go_simp) ?_; (try simp only [Act.put, List.setIfInBounds_toArray, List.set_cons_zero, List.set_cons_succ])
                  refine wpH_one (i := 6) (by kernel_rfl) (wpOp_enter (fn := 33) (args := #[.int .i64 Z, .int .i64 k]) (by rfl) (by rfl) (by go_simp) ((KP.out Z k w9).mono ?_))
                  rintro ee w11 ⟨rfl, hs⟩
                  have hS1 := hS0.trans (Keeps.of_sees hs)
                  refine ⟨_, rfl, hS1, ?_⟩
                  (try simp only [Act.put, List.setIfInBounds_toArray, List.set_cons_zero, List.set_cons_succ])
                  have S11 := Lib.hid (S9.out.trans hs)
                  clear hs hS0
                  have hS0 := hS1
                  clear hS1
                  refine wpH_one (i := 9) (by kernel_rfl) (wpOp_enter (fn := 31) (args := #[.slice (some ⟨b1, o1, none⟩) n cp, .int .i64 first, .agg #[.int .i64 Z, .int .i64 k], .agg #[.int .i64 m.l0, .int .i64 m.c0, .int .i64 m.l1, .int .i64 m.c1, .string m.a], .int .i64 e]) (by rfl) (by rfl) (by go_simp) ((KAS.out w11 S11.out).mono ?_))
                  rintro ee w12 ⟨rfl, hs⟩
                  have hS1 := hS0.trans (Keeps.of_sees hs)
                  refine ⟨_, rfl, hS1, ?_⟩
                  (try simp only [Act.put, List.setIfInBounds_toArray, List.set_cons_zero, List.set_cons_succ])
                  have S12 := Lib.hid (S11.out.trans hs)
                  clear hs hS0
                  have hS0 := hS1
                  clear hS1
                  refine wpH_take (i := 10) (v := .bool false) hB (by rfl) (by kernel_rfl) (fun _ _ _ _ _ h => h) (by rfl) hS0 (fun W hI => by clear hI; go_simp) ?_; (try simp only [Act.put, List.setIfInBounds_toArray, List.set_cons_zero, List.set_cons_succ])
                  refine wpH_end (by kernel_rfl) ?_
                  clear hS0 hB
                  go_wp2
                  go_roundw
                  case rel => exact ⟨k + 3, by omega, by go_num, S12.out⟩
                  case measure => simp [intOf]; omega
                · obtain ⟨p, rfl⟩ : ∃ p, q = p + 1 := ⟨q - 1, by omega⟩
                  obtain rfl : z = (p : Int) := by omega
                  have hpN : p < N := by omega
                  go_upto_region 18 with fail
                  go_cut [13, 14] from 69 to 78 (fun v13 v14 wx => ∃ (ga gb : Nat) (x : Lk), v13 = .pointer (some ⟨ga, 0, none⟩) ∧ v14 = .pointer (some ⟨gb, 0, none⟩) ∧ ks[p]? = some x ∧ PlAt wx ga x.l0 x.c0 ∧ PlAt wx gb x.l1 x.c1 ∧ Sees wr wx)
                  case first =>
                    refine wpH_go (fun _ => False) 14 (by kernel_rfl) (by kernel_rfl) (by rfl) (fun hB w9 hs9 => ?_)
                    have HO9 := Lib.hid (HO.out.sees ((HSk.out.trans HSj.out).trans hs9))
                    have S9 := Lib.hid hs9
                    clear hs9
                    have hS0 : Keeps (fun _ => False) w9 w9 := Keeps.refl _ w9
                    obtain ⟨b3, o3, x0, rfl, hx0, c0, c1, c2, c3, c4⟩ := lk_cell HO9.out hpN
                    have C0 := Lib.hid c0
                    have C1 := Lib.hid c1
                    have C2 := Lib.hid c2
                    have C3 := Lib.hid c3
                    have HX0 := Lib.hid hx0
                    clear c0 c1 c2 c3 c4 hx0
                    refine wpH_take (i := 0) (v := .slice (some ⟨b3, o3, none⟩) N ck) hB (by rfl) (by kernel_rfl) (fun _ _ _ _ _ h => h) (by rfl) hS0 (fun W hI => by clear hI; go_simp) ?_; (try simp only [Act.put, List.setIfInBounds_toArray, List.set_cons_zero, List.set_cons_succ])
                    refine wpH_take (i := 1) (v := .int .i64 p) hB (by rfl) (by kernel_rfl) (fun _ _ _ _ _ h => h) (by rfl) hS0 (fun W hI => by clear hI; go_simp) ?_; (try simp only [Act.put, List.setIfInBounds_toArray, List.set_cons_zero, List.set_cons_succ])
                    refine wpH_take (i := 2) (v := .pointer (some ⟨b3, o3 + p * 5, none⟩)) hB (by rfl) (by kernel_rfl) (fun _ _ _ _ _ h => h) (by rfl) hS0 (fun W hI => by clear hI; go_simp) ?_; (try simp only [Act.put, List.setIfInBounds_toArray, List.set_cons_zero, List.set_cons_succ])
                    refine wpH_take (i := 3) (v := .pointer (some ⟨b3, o3 + p * 5, none⟩)) hB (by rfl) (by kernel_rfl) (fun _ _ _ _ _ h => h) (by rfl) hS0 (fun W hI => by clear hI; go_simp) ?_; (try simp only [Act.put, List.setIfInBounds_toArray, List.set_cons_zero, List.set_cons_succ])
                    refine wpH_take (i := 4) (v := .agg #[.int .i64 x0.l0, .int .i64 x0.c0]) hB (by rfl) (by kernel_rfl) (fun _ _ _ _ _ h => h) (by rfl) hS0 (fun W hI => by have q1 := hI.cell (fun h => h) C0.out; have q2 := hI.cell (fun h => h) C1.out; go_simp) ?_; (try simp only [Act.put, List.setIfInBounds_toArray, List.set_cons_zero, List.set_cons_succ])
                    refine wpH_take (i := 5) (v := .slice (some ⟨b3, o3, none⟩) N ck) hB (by rfl) (by kernel_rfl) (fun _ _ _ _ _ h => h) (by rfl) hS0 (fun W hI => by clear hI; go_simp) ?_; (try simp only [Act.put, List.setIfInBounds_toArray, List.set_cons_zero, List.set_cons_succ])
                    refine wpH_take (i := 6) (v := .int .i64 p) hB (by rfl) (by kernel_rfl) (fun _ _ _ _ _ h => h) (by rfl) hS0 (fun W hI => by clear hI; go_simp) ?_; (try simp only [Act.put, List.setIfInBounds_toArray, List.set_cons_zero, List.set_cons_succ])
                    refine wpH_take (i := 7) (v := .pointer (some ⟨b3, o3 + p * 5, none⟩)) hB (by rfl) (by kernel_rfl) (fun _ _ _ _ _ h => h) (by rfl) hS0 (fun W hI => by clear hI; go_simp) ?_; (try simp only [Act.put, List.setIfInBounds_toArray, List.set_cons_zero, List.set_cons_succ])
                    refine wpH_take (i := 8) (v := .pointer (some ⟨b3, o3 + p * 5 + 2, none⟩)) hB (by rfl) (by kernel_rfl) (fun _ _ _ _ _ h => h) (by rfl) hS0 (fun W hI => by clear hI; go_simp) ?_; (try simp only [Act.put, List.setIfInBounds_toArray, List.set_cons_zero, List.set_cons_succ])
                    refine wpH_take (i := 9) (v := .agg #[.int .i64 x0.l1, .int .i64 x0.c1]) hB (by rfl) (by kernel_rfl) (fun _ _ _ _ _ h => h) (by rfl) hS0 (fun W hI => by have q1 := hI.cell (fun h => h) C2.out; have q2 := hI.cell (fun h => h) C3.out; go_simp) ?_; (try simp only [Act.put, List.setIfInBounds_toArray, List.set_cons_zero, List.set_cons_succ])
                    obtain ⟨wa, hwa⟩ : ∃ wa, wa = w9.alloc (.cells #[.int .i64 0, .int .i64 0] 31) := ⟨_, rfl⟩
                    obtain ⟨wb, hwb⟩ : ∃ wb, wb = wa.alloc (.cells #[.int .i64 0, .int .i64 0] 31) := ⟨_, rfl⟩
                    have HSA : Hid (wa.heap.size = w9.heap.size + 1) := by unfold RowKit.Hid; rw [hwa, World.size_alloc]
                    have E1 : Hid (PlAt wb w9.heap.size 0 0) := by
                      have q : PlAt wa w9.heap.size 0 0 := by rw [hwa]; exact heap_alloc_new w9 _
                      rw [hwb]
                      exact q.sees ((Sees.refl _).alloc _)
                    have E2 : Hid (PlAt wb wa.heap.size 0 0) := by rw [hwb]; exact heap_alloc_new wa _
                    have KA : Keeps (fun _ => False) w9 wa := by rw [hwa]; exact Keeps.of_sees ((Sees.refl _).alloc _)
                    have KB : Keeps (fun _ => False) w9 wb := by rw [hwb]; exact KA.trans (Keeps.of_sees ((Sees.refl _).alloc _))
                    have HWA := Lib.hid hwa
                    have HWB := Lib.hid hwb
                    clear hwa hwb
                    refine wpH_two (i := 10) (j := 11) (by kernel_rfl) ?_ ?_
                    · refine wpOp_val (v := .pointer (some ⟨w9.heap.size, 0, none⟩)) (w' := wa) (by rfl) (wanted_none (by rfl) _) (by rw [HWA.out]; go_simp) ⟨KA, ?_⟩
                      (try simp only [Act.put, List.setIfInBounds_toArray, List.set_cons_zero, List.set_cons_succ])
                      refine wpH_one (i := 11) (by kernel_rfl) (wpOp_val (v := .pointer (some ⟨wa.heap.size, 0, none⟩)) (w' := wb) (by rfl) (wanted_none (by rfl) _) (by rw [HWB.out]; go_simp) ⟨KB, ?_⟩)
                      (try simp only [Act.put, List.setIfInBounds_toArray, List.set_cons_zero, List.set_cons_succ])
                      refine wpH_one (i := 12) (by kernel_rfl) (wpOp_skip (w' := stP wb (w9.heap.size) (x0.l0) (x0.c0)) (by rfl) (wanted_none (by rfl) _) (exec_store (a := .pointer (some ⟨w9.heap.size, 0, none⟩)) (v := .agg #[.int .i64 (x0.l0), .int .i64 (x0.c0)]) rfl (by go_simp) (by go_simp) (run_storePl E1.out (x0.l0) (x0.c0))) ⟨KB.setRow' (by have := HSA.out; omega) _, ?_⟩)
                      (try simp only [Act.put, List.setIfInBounds_toArray, List.set_cons_zero, List.set_cons_succ])
                      refine wpH_one (i := 13) (by kernel_rfl) (wpOp_skip (w' := stP (stP wb (w9.heap.size) (x0.l0) (x0.c0)) (wa.heap.size) (x0.l1) (x0.c1)) (by rfl) (wanted_none (by rfl) _) (exec_store (a := .pointer (some ⟨wa.heap.size, 0, none⟩)) (v := .agg #[.int .i64 (x0.l1), .int .i64 (x0.c1)]) rfl (by go_simp) (by go_simp) (run_storePl (E2.out.keeps (stP_keeps _ _ _ _) (by have := HSA.out; omega)) (x0.l1) (x0.c1))) ⟨(KB.setRow' (by have := HSA.out; omega) _).setRow' (by have := HSA.out; omega) _, ?_⟩)
                      (try simp only [Act.put, List.setIfInBounds_toArray, List.set_cons_zero, List.set_cons_succ])
                      refine wpH_end (by kernel_rfl) ?_
                      have hk2 : Keeps (fun _ => False) w9 (stP (stP wb (w9.heap.size) (x0.l0) (x0.c0)) (wa.heap.size) (x0.l1) (x0.c1)) := (KB.setRow' (by have := HSA.out; omega) _).setRow' (by have := HSA.out; omega) _
                      have HFA : Hid (PlAt (stP (stP wb (w9.heap.size) (x0.l0) (x0.c0)) (wa.heap.size) (x0.l1) (x0.c1)) (w9.heap.size) (x0.l0) (x0.c0)) := (stP_at E1.out (x0.l0) (x0.c0)).keeps (stP_keeps _ _ _ _) (by have := HSA.out; omega)
                      have HFB : Hid (PlAt (stP (stP wb (w9.heap.size) (x0.l0) (x0.c0)) (wa.heap.size) (x0.l1) (x0.c1)) (wa.heap.size) (x0.l1) (x0.c1)) := stP_at (E2.out.keeps (stP_keeps _ _ _ _) (by have := HSA.out; omega)) (x0.l1) (x0.c1)
                      have HFS : Hid (Sees w9 (stP (stP wb (w9.heap.size) (x0.l0) (x0.c0)) (wa.heap.size) (x0.l1) (x0.c1))) := hk2.sees_end (fun _ _ h => h)
                      clear hk2 hS0 hB KA KB
                      go_wp2_with fail
                      go_meet
                      exact ⟨_, _, x0, rfl, rfl, HX0.out, HFA.out, HFB.out, S9.out.trans HFS.out⟩
                    · refine wpOp_val (v := .pointer (some ⟨w9.heap.size, 0, none⟩)) (w' := wa) (by rfl) (wanted_none (by rfl) _) (by rw [HWA.out]; go_simp) ⟨KA, ?_⟩
                      (try simp only [Act.put, List.setIfInBounds_toArray, List.set_cons_zero, List.set_cons_succ])
                      refine wpH_one (i := 10) (by kernel_rfl) (wpOp_val (v := .pointer (some ⟨wa.heap.size, 0, none⟩)) (w' := wb) (by rfl) (wanted_none (by rfl) _) (by rw [HWB.out]; go_simp) ⟨KB, ?_⟩)
                      (try simp only [Act.put, List.setIfInBounds_toArray, List.set_cons_zero, List.set_cons_succ])
                      refine wpH_one (i := 12) (by kernel_rfl) (wpOp_skip (w' := stP wb (wa.heap.size) (x0.l0) (x0.c0)) (by rfl) (wanted_none (by rfl) _) (exec_store (a := .pointer (some ⟨wa.heap.size, 0, none⟩)) (v := .agg #[.int .i64 (x0.l0), .int .i64 (x0.c0)]) rfl (by go_simp) (by go_simp) (run_storePl E2.out (x0.l0) (x0.c0))) ⟨KB.setRow' (by have := HSA.out; omega) _, ?_⟩)
                      (try simp only [Act.put, List.setIfInBounds_toArray, List.set_cons_zero, List.set_cons_succ])
                      refine wpH_one (i := 13) (by kernel_rfl) (wpOp_skip (w' := stP (stP wb (wa.heap.size) (x0.l0) (x0.c0)) (w9.heap.size) (x0.l1) (x0.c1)) (by rfl) (wanted_none (by rfl) _) (exec_store (a := .pointer (some ⟨w9.heap.size, 0, none⟩)) (v := .agg #[.int .i64 (x0.l1), .int .i64 (x0.c1)]) rfl (by go_simp) (by go_simp) (run_storePl (E1.out.keeps (stP_keeps _ _ _ _) (by have := HSA.out; omega)) (x0.l1) (x0.c1))) ⟨(KB.setRow' (by have := HSA.out; omega) _).setRow' (by have := HSA.out; omega) _, ?_⟩)
                      (try simp only [Act.put, List.setIfInBounds_toArray, List.set_cons_zero, List.set_cons_succ])
                      refine wpH_end (by kernel_rfl) ?_
                      have hk2 : Keeps (fun _ => False) w9 (stP (stP wb (wa.heap.size) (x0.l0) (x0.c0)) (w9.heap.size) (x0.l1) (x0.c1)) := (KB.setRow' (by have := HSA.out; omega) _).setRow' (by have := HSA.out; omega) _
                      have HFA : Hid (PlAt (stP (stP wb (wa.heap.size) (x0.l0) (x0.c0)) (w9.heap.size) (x0.l1) (x0.c1)) (wa.heap.size) (x0.l0) (x0.c0)) := (stP_at E2.out (x0.l0) (x0.c0)).keeps (stP_keeps _ _ _ _) (by have := HSA.out; omega)
                      have HFB : Hid (PlAt (stP (stP wb (wa.heap.size) (x0.l0) (x0.c0)) (w9.heap.size) (x0.l1) (x0.c1)) (w9.heap.size) (x0.l1) (x0.c1)) := stP_at (E1.out.keeps (stP_keeps _ _ _ _) (by have := HSA.out; omega)) (x0.l1) (x0.c1)
                      have HFS : Hid (Sees w9 (stP (stP wb (wa.heap.size) (x0.l0) (x0.c0)) (w9.heap.size) (x0.l1) (x0.c1))) := hk2.sees_end (fun _ _ h => h)
                      clear hk2 hS0 hB KA KB
                      go_wp2_with fail
                      go_meet
                      exact ⟨_, _, x0, rfl, rfl, HX0.out, HFA.out, HFB.out, S9.out.trans HFS.out⟩
                  case rest =>
                    obtain ⟨ga, gb, x, rfl, rfl, hx, hga, hgb, hs⟩ := hcut
                    obtain ⟨⟨r1, r2, r3, r4⟩, r5, r6, r7, r8⟩ := HRG.out x (List.mem_iff_getElem?.2 ⟨_, hx⟩)
                    have hln := HN.out
                    have hst := fP_step hx Z k
                    rw [has_num (x := x) (Z := Z) (k := (k : Int)) (by omega) (by omega) (by omega)] at hst
                    obtain ⟨B1, hB1⟩ : ∃ B1, B1 = decide (100 * Z + (k : Int) ≥ 100 * x.l0 + x.c0) := ⟨_, rfl⟩
                    obtain ⟨B2, hB2⟩ : ∃ B2, B2 = decide (100 * Z + (k : Int) ≤ 100 * x.l1 + x.c1) := ⟨_, rfl⟩
                    rw [← hB1, ← hB2] at hst
                    have g1 : decide (100 * Z + (k : Int) ≥ 100 * x.l0 + x.c0) = B1 := hB1.symm
                    have g2 : decide (100 * Z + (k : Int) ≤ 100 * x.l1 + x.c1) = B2 := hB2.symm
                    have v1 : IntKind.i64.wrap (100 * x.l0) = 100 * x.l0 := IntWalk.i64_in _ (by omega)
                    have v2 : IntKind.i64.wrap (100 * x.l0 + x.c0) = 100 * x.l0 + x.c0 := IntWalk.i64_in _ (by omega)
                    have v3 : IntKind.i64.wrap (100 * x.l1) = 100 * x.l1 := IntWalk.i64_in _ (by omega)
                    have v4 : IntKind.i64.wrap (100 * x.l1 + x.c1) = 100 * x.l1 + x.c1 := IntWalk.i64_in _ (by omega)
                    have HST2 := Lib.hid hst
                    have HSx := Lib.hid (HSj.out.trans hs)
                    have HLx := Lib.hid (HLk.out.sees hs)
                    have HOx := Lib.hid (HO.out.sees ((HSk.out.trans HSj.out).trans hs))
                    have HXX := Lib.hid hx
                    obtain ⟨q0, q1⟩ := hga.cells
                    obtain ⟨q2, q3⟩ := hgb.cells
                    clear hst hB1 hB2 hs hx hga hgb r1 r2 r3 r4 r5 r6 r7 r8
                    cases B1
                    · have HFP : Hid (fP (ks.drop p) Z k = (m, e)) := by unfold RowKit.Hid; rw [HST2.out]; exact hfp.out
                      clear hfp HST2
                      go_wp2
                      exact ⟨⟨p, (p : Int) - 1, m, e, by omega, by omega, by go_num, rfl, HFP, HLx.out, HSx.out⟩, by first | (simp [intOf]; done) | (simp [intOf]; omega)⟩
                    · cases B2
                      · have HFP : Hid (fP (ks.drop p) Z k = (m, e)) := by unfold RowKit.Hid; rw [HST2.out]; exact hfp.out
                        clear hfp HST2
                        go_wp2
                        exact ⟨⟨p, (p : Int) - 1, m, e, by omega, by omega, by go_num, rfl, HFP, HLx.out, HSx.out⟩, by first | (simp [intOf]; done) | (simp [intOf]; omega)⟩
                      · have HFP : Hid (fP (ks.drop p) Z k = (x, 0)) := by unfold RowKit.Hid; rw [HST2.out]; rfl
                        clear hfp HST2
                        obtain ⟨b3, o3, x0, rfl, hx0, c0, c1, c2, c3, c4⟩ := lk_cell HOx.out hpN
                        obtain rfl : x0 = x := by have := HXX.out; rw [hx0] at this; exact Option.some.inj this
                        have m2 := HLx.out.fr
                        obtain ⟨m11, m12, m13, m14, m15⟩ := HLx.out.c
                        clear hx0
                        go_wp2
                        exact ⟨⟨p, (p : Int) - 1, x0, 0, by omega, by omega, by go_num, rfl, HFP, put5_at HLx.out x0, sees_put5 HSx.out HBX.out x0⟩, by first | (simp [intOf]; done) | (simp [intOf]; omega)⟩
            · have hkm2 : ¬ ((k : Int) < (M : Int)) := by omega
              go_wp2_with fail
              exact ⟨⟨i + 1, by omega, by go_num, HSk.out⟩, by simp [intOf]; omega⟩
        · obtain rfl : i = n := by omega
          have HPe := Lib.hid (HP.out.sees HSi.out)
          have HSe := Lib.hid (HS5.out.trans HSi.out)
          obtain ⟨F, hF⟩ : ∃ F, F = !foB ls first l c := ⟨_, rfl⟩
          have HF := Lib.hid hF
          have HFE : Hid (F = (decide (l ≥ first) && decide (l < first + (i : Int)) && decide (c ≥ 0) && decide (c < (M : Int)))) := by unfold RowKit.Hid; rw [hF, foB_in, HN.out, HMM.out]
          clear hF
          go_upto_region 24 with fail
          go_cut [152] from 120 to 152 (fun v152 wx => v152 = .bool F ∧ Sees wr wx)
          case first =>
            obtain ⟨d0, d1⟩ := HPe.out.cells
            have g0 := fun d os => (sees_grow wr d os).cell d0
            have g1 := fun d os => (sees_grow wr d os).cell d1
            clear d0 d1
            rcases Nat.eq_zero_or_pos i with hz | hz
            · subst hz
              have hfF : F = false := by
                rw [HFE.out]
                by_cases h1 : l ≥ first
                · rw [decide_eq_false (show ¬ l < first + ((0 : Nat) : Int) by omega)]; simp
                · rw [decide_eq_false h1]; simp
              subst hfF
              refine wp_region_quiet_below (by kernel_rfl) (by kernel_rfl) ?_
              repeat (first | go_big_quiet_skip | (go_big_quiet_want; go_big_quiet_op; go_big_quiet_on))
              refine wpQuiet_nil ?_; intro w2 hw2'; have hw2 := regrown_sees hw2'; clear hw2'
              go_wp2_with fail
              go_meet
              exact ⟨rfl, hw2⟩
            · obtain ⟨b2, o2, y, a2, m2, rfl, _, hy, _, y1, _, _⟩ := HA.out.line hz
              have hym : y.cells.length = M := HROW.out y (List.mem_iff_getElem?.2 ⟨_, hy⟩)
              rw [Nat.zero_mul, Nat.add_zero, hym] at y1
              have y1' := HSe.out.cell y1
              have g3 := fun d os => (sees_grow wr d os).cell y1'
              clear hy hym y1 y1'
              have k1 : (0 : Int) < (i : Int) := by omega
              have k2 : decide ((i : Int) > 0) = true := decide_eq_true (by omega)
              rcases ways4 (decide (l ≥ first)) (decide (l < first + (i : Int))) (decide (c ≥ 0)) (decide (c < (M : Int))) with ⟨e1, e2, e3, e4⟩ | ⟨e1, e2, e3, e4⟩ | ⟨e1, e2, e3⟩ | ⟨e1, e2⟩ | e1
              · obtain rfl : F = true := by rw [HFE.out, e1, e2, e3, e4]; rfl
                refine wp_region_quiet_below (by kernel_rfl) (by kernel_rfl) ?_
                repeat (first | go_big_quiet_skip | (go_big_quiet_want; go_big_quiet_op; go_big_quiet_on))
                refine wpQuiet_nil ?_; intro w2 hw2'; have hw2 := regrown_sees hw2'; clear hw2'
                go_wp2_with fail
                go_meet
                exact ⟨rfl, hw2⟩
              · obtain rfl : F = false := by rw [HFE.out, e1, e2, e3, e4]; rfl
                refine wp_region_quiet_below (by kernel_rfl) (by kernel_rfl) ?_
                repeat (first | go_big_quiet_skip | (go_big_quiet_want; go_big_quiet_op; go_big_quiet_on))
                refine wpQuiet_nil ?_; intro w2 hw2'; have hw2 := regrown_sees hw2'; clear hw2'
                go_wp2_with fail
                go_meet
                exact ⟨rfl, hw2⟩
              · obtain rfl : F = false := by rw [HFE.out, e1, e2, e3]; rfl
                refine wp_region_quiet_below (by kernel_rfl) (by kernel_rfl) ?_
                repeat (first | go_big_quiet_skip | (go_big_quiet_want; go_big_quiet_op; go_big_quiet_on))
                refine wpQuiet_nil ?_; intro w2 hw2'; have hw2 := regrown_sees hw2'; clear hw2'
                go_wp2_with fail
                go_meet
                exact ⟨rfl, hw2⟩
              · obtain rfl : F = false := by rw [HFE.out, e1, e2]; rfl
                refine wp_region_quiet_below (by kernel_rfl) (by kernel_rfl) ?_
                repeat (first | go_big_quiet_skip | (go_big_quiet_want; go_big_quiet_op; go_big_quiet_on))
                refine wpQuiet_nil ?_; intro w2 hw2'; have hw2 := regrown_sees hw2'; clear hw2'
                go_wp2_with fail
                go_meet
                exact ⟨rfl, hw2⟩
              · obtain rfl : F = false := by rw [HFE.out, e1]; rfl
                refine wp_region_quiet_below (by kernel_rfl) (by kernel_rfl) ?_
                repeat (first | go_big_quiet_skip | (go_big_quiet_want; go_big_quiet_op; go_big_quiet_on))
                refine wpQuiet_nil ?_; intro w2 hw2'; have hw2 := regrown_sees hw2'; clear hw2'
                go_wp2_with fail
                go_meet
                exact ⟨rfl, hw2⟩
          case rest =>
            obtain ⟨rfl, hsc⟩ := hcut
            have HSc := Lib.hid (HSi.out.trans hsc)
            have HSw := Lib.hid (HSe.out.trans hsc)
            obtain ⟨q0, q1⟩ := (HPe.out.sees hsc).cells
            clear hsc
            cases F
            · have hfo : foB ls first l c = true := by have := HF.out; cases hh : foB ls first l c with | true => rfl | false => rw [hh] at this; cases this
              have KAS := Lib.hid (fun W (hs : Sees W5 W) => ats_true (.slice a i cp) first l c zeroLk 3 W (fun W2 hs2 => KAT.out W2 l c zeroLk 3 (hs.trans hs2) (by rw [hfo]; rfl)))
              go_wp2_with fail
              refine (KAS.out _ HSc.out).mono ?_
              rintro e W7 ⟨rfl, s⟩
              have HS7 := Lib.hid (HSw.out.trans s)
              clear s q0 q1
              go_wp2_with fail
              refine (KN.out _ HS7.out).mono ?_
              rintro e W8 ⟨rfl, s⟩
              have HS8 := Lib.hid (HS7.out.trans s)
              clear s
              go_wp2
              go_ret
              exact ⟨rfl, HS8.out⟩
            · clear q0 q1
              go_wp2_with fail
              refine (KN.out _ HSw.out).mono ?_
              rintro e W8 ⟨rfl, s⟩
              have HS8 := Lib.hid (HSw.out.trans s)
              clear s
              go_wp2
              go_ret
              exact ⟨rfl, HS8.out⟩
end Go.Proofs.YtfdolhppbimbmaaDoor
