/- matched (42): the reference's search. The tables hold what the program's text lays. -/
import Derived.Test.YtohiigmlkhpneaaDoorSrW
import Derived.Test.YtohiigmlkhpneaaDoorSeqH
namespace Go.Proofs.YtohiigmlkhpneaaDoor
set_option linter.unusedVariables false
set_option linter.unusedSimpArgs false
open Go.RowKit Go.Shelf
attribute [local go_sem] Oper.semAt_some

def lastB (ls : List Ln) (i : Nat) (x : Ln) : Bool := !x.soft || decide (i + 1 = ls.length)
set_option maxHeartbeats 8000000 in
set_option maxRecDepth 100000 in
theorem matched_any (F : Nat → Prop) (a : Option Addr) (n cp : Nat) (ls : List Ln) (first : Int) (p : ByteArray) (fold : Bool) (w : World) (ha : lnEl.Rd F w (.slice a n cp) ls) (hn : ls.length ≤ 1000) (hc : ∀ x ∈ ls, x.cells.length ≤ 1000) (h1 : 0 ≤ first) (h2 : first ≤ 1099511627776) (hp1 : 1 ≤ p.size) (hp2 : p.size ≤ 200) :
    Calls Tryd.prog 13 #[.slice a n cp, .int .i64 first, .string p, .bool fold] w fun e w' => ∃ v, e = .returned v ∧ mtEl.Own (fun b => w.heap.size ≤ b) w' v (allM ls first p.data.toList fold) ∧ Sees w w' := by
  have hna : n = ls.length := ha.len
  have HN := Lib.hid hna
  have HA := Lib.hid ha
  have HC := Lib.hid hc
  obtain ⟨A, hA⟩ : ∃ A, A = allM ls first p.data.toList fold := ⟨_, rfl⟩
  have hfew : A.length ≤ 16000000 := by
    have := allM_few hc first p.data.toList fold
    rw [hA]
    have h3 : ls.length * (1000 * 16) ≤ 1000 * (1000 * 16) := Nat.mul_le_mul_right _ hn
    omega
  have HAA := Lib.hid hA
  have hn' : n ≤ 1000 := by omega
  obtain ⟨M, hM⟩ : ∃ M : List Bp → List Mt, M = matchS (p.data.toList.map (low fold)) fold := ⟨_, rfl⟩
  have hA0 : A = (segs first [] ls).flatMap M := by rw [hA, hM]; rfl
  have HA0 := Lib.hid hA0
  have HMM := Lib.hid hM
  rw [← hA]
  clear hna ha hc hn hA hM hA0
  go_enter Tryd.func13, Tryd.ntmps13
  go_wp2
  go_loopw [9, 10, 11, 12] (fun uo ut up ii W => ∃ (i : Nat) (acc : List Bp) (outs : List Mt), i ≤ n ∧ ii = .int .i64 i ∧ acc.length ≤ i * 16000 ∧ Hid (A = outs ++ (segs (first + i) acc (ls.drop i)).flatMap M) ∧ MdSt w (acc.map Bp.b) (acc.map Bp.pl) outs ut up uo W) (fun _ _ _ ii _ => n - (intOf ii).toNat)
  case atStart => exact ⟨0, [], [], by omega, rfl, by simp, (by have q := HA0.out; simpa [RowKit.Hid] using q), MdSt.start w⟩
  case round =>
    obtain ⟨i, acc, outs, hi, rfl, hal, hA1, hS⟩ := hrel
    have HS := Lib.hid hS
    clear hS
    by_cases hlt : i < n
    · obtain ⟨b1, o1, x, a1, m1, rfl, _, hx, hcap, x1, x2, x3⟩ := HA.out.line hlt
      have hxl := HC.out x (List.mem_iff_getElem?.2 ⟨_, hx⟩)
      have HX := Lib.hid hx
      have X1 := Lib.hid x1
      have X2 := Lib.hid x2
      have X3 := Lib.hid x3
      replace x1 := HS.out.s.cell x1
      replace x2 := HS.out.s.cell x2
      have hL : Hid (lastB ls i x = (!x.soft || decide (i + 1 = ls.length))) := rfl
      obtain ⟨L, hLL⟩ : ∃ L, L = lastB ls i x := ⟨_, rfl⟩
      have HL := Lib.hid hLL
      rw [← hLL] at hL
      clear hx x3 hLL
      generalize hcl : x.cells.length = m at *
      have HCL := Lib.hid hcl
      clear hcl
      go_upto_region 7 with fail
      go_cut [13] from 26 to 38 (fun v13 wx => v13 = .bool L ∧ wx = wr)
      case first =>
        have hnn := HN.out
        rcases Bool.eq_false_or_eq_true x.soft with e1 | e1
        · rw [e1] at x2
          rcases Nat.lt_or_ge (i + 1) n with e2 | e2
          · have e3 : ((i : Int) == (n : Int) - 1) = false := by rw [beq_eq_false_iff_ne]; omega
            have e4 : L = false := by rw [hL.out, e1]; simp; omega
            clear hnn
            go_wp2
            go_meet
            exact ⟨by rw [e4], rfl⟩
          · have e3 : ((i : Int) == (n : Int) - 1) = true := by rw [beq_iff_eq]; omega
            have e4 : L = true := by rw [hL.out, e1]; simp; omega
            clear hnn
            go_wp2
            go_meet
            exact ⟨by rw [e4], rfl⟩
        · rw [e1] at x2
          have e4 : L = true := by rw [hL.out, e1]; simp
          clear hnn
          go_wp2
          go_meet
          exact ⟨by rw [e4], rfl⟩
      case rest =>
        obtain ⟨rfl, rfl⟩ := hcut
        obtain ⟨R, hR⟩ : ∃ R, R = rowB (first + i) L x := ⟨_, rfl⟩
        obtain ⟨cs, hcs⟩ : ∃ cs, cs = x.part L := ⟨_, rfl⟩
        obtain ⟨K, hK⟩ : ∃ K, K = cs.length := ⟨_, rfl⟩
        have hKm : K ≤ m := by rw [hK, hcs, ← HCL.out]; exact x.part_len L
        have HPT : Hid (cellEl.Rd F w (.slice a1 K m1) cs) := by
          unfold RowKit.Hid
          rw [hK, hcs]
          unfold Ln.part
          cases L
          · rw [if_neg (by decide)]; have := X3.out; rw [← HCL.out] at this; exact this
          · rw [if_pos rfl]
            have := (X3.out).take (usedN x.cells) (usedN_le _) m1 (by have := usedN_le x.cells; have := HCL.out; omega)
            rw [List.length_take, Nat.min_eq_left (usedN_le _)]
            exact this
        have HRK : Hid (cellsB (first + i) 0 (cs.take K) = R) := by unfold RowKit.Hid; rw [hR, hK, List.take_length, hcs]; rfl
        have hLK : Hid (L = false → K = m) := fun e => by rw [hK, hcs, e, ← HCL.out]; rfl
        have hLU : Hid (L = true → K = usedN x.cells) := fun e => by rw [hK, hcs, e]; unfold Ln.part; rw [if_pos rfl, List.length_take, Nat.min_eq_left (usedN_le _)]
        have hRl : R.length ≤ 16000 := by
          have := rowB_len (first + i) L x
          rw [hR]; have := HCL.out; omega
        have HRR := Lib.hid hR
        clear hR hcs hK
        go_upto_block 2 with fail
        go_cut [10, 11] from 39 to 87 (fun v10 v11 wx => MdSt w ((acc ++ R).map Bp.b) ((acc ++ R).map Bp.pl) outs v10 v11 u9 wx)
        case first =>
          go_wp2_with fail
          go_loopw [10, 11, 14] (fun ut up kk W => ∃ k : Nat, k ≤ K ∧ kk = .int .i64 k ∧ MdSt w ((acc ++ cellsB (first + i) 0 (cs.take k)).map Bp.b) ((acc ++ cellsB (first + i) 0 (cs.take k)).map Bp.pl) outs ut up u9 W) (fun _ _ kk _ => K - (intOf kk).toNat)
          case atStart => exact ⟨0, by omega, rfl, by simpa [cellsB] using HS.out⟩
          case round =>
            obtain ⟨k, hk, rfl, hS2⟩ := hrel
            have HS2 := Lib.hid hS2
            clear hS2
            have y1 := HS2.out.s.cell X1.out
            have y2 := HS2.out.s.cell X2.out
            rcases Nat.lt_or_ge k K with hkK | hkK
            · have hkm : k < m := by omega
              obtain ⟨b2, o2, c, rfl, _, hcc, hat⟩ := HPT.out.cell hkK
              have HAT := Lib.hid hat
              have HCC := Lib.hid (cellsB_step (n := first + i) hcc)
              clear hcc hat
              go_upto_region 11 with fail
              go_cut [58] from 49 to 58 (fun v58 wx => v58 = .bool false ∧ Sees wr wx)
              case first =>
                cases L
                · go_wp2_with fail
                  go_meet
                  exact ⟨rfl, Sees.refl _⟩
                · have KU := Lib.hid (used_any _ x F _ (X3.out.sees HS2.out.s) (by rw [HCL.out]; omega))
                  rw [← hLU.out rfl] at KU
                  have hg : decide ((k : Int) ≥ (K : Int)) = false := decide_eq_false (by omega)
                  go_wp2_with fail
                  refine KU.out.mono ?_
                  rintro e W1 ⟨rfl, s1⟩
                  go_wp2_with fail
                  go_meet
                  exact ⟨congrArg Value.bool (decide_eq_false (by omega)), s1⟩
              case rest =>
                obtain ⟨rfl, hsc⟩ := hcut
                have HS4 := Lib.hid (HS2.out.sees hsc)
                clear hsc HS2 y1 y2
                have z1 := HS4.out.s.cell X1.out
                have hat4 := HAT.out.sees HS4.out.s
                have hcl := cellsB_len (first + i) 0 (cs.take k)
                rw [List.length_take] at hcl
                obtain ⟨Q, hQ⟩ : ∃ Q, Q = acc ++ cellsB (first + i) 0 (cs.take k) := ⟨_, rfl⟩
                have hQl : Q.length ≤ 17000000 := by rw [hQ, List.length_append]; omega
                rw [← hQ] at HS4
                have HQ := Lib.hid hQ
                obtain ⟨X, hX⟩ : ∃ X : ByteArray, X = ⟨c.txt.toArray⟩ := ⟨_, rfl⟩
                have hXs : X.size = c.txt.length := by rw [hX]; show c.txt.toArray.size = _; simp
                have hXl : X.size ≤ 16 := by rw [hXs]; exact c.txt_len
                have KT := Lib.hid (fun W => by have q := ctext_any c W; rw [← hX] at q; exact q)
                have HXS := Lib.hid hXs
                have HXX := Lib.hid (show X.data.toList = c.txt by rw [hX])
                have KP := Lib.hid (fun l c W => at_any l c W)
                clear hcl hQ hX hXs
                go_wp2_with (guard_target = wpList _ _ _ ({ dst := _, op := Op.load 60 _, type := _, pos := _, after := _, guard := _ } :: _) _ _; refine wpList_val rfl (exec_load (v := c.val) rfl rfl (run_loadCell hat4)) (fun K hK => ?_); go_simp; refine hK _ _ ?_; clear hK K)
                refine (KT.out _).mono ?_
                rintro e W5 ⟨rfl, s5⟩
                have HS5 := Lib.hid (HS4.out.sees s5)
                clear s5 HS4 z1 hat4 KT
                go_wp2
                go_loopw [10, 11, 16] (fun ut up jj W => ∃ q : Nat, q ≤ X.size ∧ jj = .int .i64 q ∧ MdSt w (Q.map Bp.b ++ c.txt.take q) (Q.map Bp.pl ++ List.replicate q (first + i, (k : Int))) outs ut up u9 W) (fun _ _ jj _ => X.size - (intOf jj).toNat)
                case atStart => exact ⟨0, Nat.zero_le _, rfl, by simpa using HS5.out⟩
                case round =>
                  obtain ⟨q, hq, rfl, hS6⟩ := hrel
                  have HS6 := Lib.hid hS6
                  clear hS6
                  by_cases hqx : q < X.size
                  · have hcb : c.txt[q]? = some X[q] := by
                      rw [← HXX.out, List.getElem?_eq_getElem (by rw [← Lib.size_eq]; exact hqx)]
                      rfl
                    have HTK : Hid (c.txt.take (q + 1) = c.txt.take q ++ [X[q]]) := by unfold RowKit.Hid; rw [List.take_add_one, hcb]; rfl
                    have hrow := heap_alloc_new wr (.cells #[.int .u8 (X[q].toNat : Int)] 5)
                    have sA : Sees wr (wr.alloc (.cells #[.int .u8 (X[q].toNat : Int)] 5)) := (Sees.refl wr).alloc _
                    have HB := Lib.hid (HS6.out.sees sA)
                    have HR := Lib.hid (by_news hrow)
                    have HSA := Lib.hid sA
                    have HL1 : Hid ((Q.map Bp.b ++ c.txt.take q).length + [X[q]].length ≤ 100000000) := by
                      unfold RowKit.Hid
                      rw [List.length_append, List.length_map, List.length_take, List.length_singleton]
                      omega
                    have HL2 : Hid ((Q.map Bp.pl ++ List.replicate q (first + i, (k : Int))).length + [(first + (i : Int), (k : Int))].length ≤ 100000000) := by
                      unfold RowKit.Hid
                      rw [List.length_append, List.length_map, List.length_replicate, List.length_singleton]
                      omega
                    clear hcb hrow sA
                    go_wp2_with (at_builtin; refine El.wpList_append_own (v := u10) typedBy rfl (.tmp 74) (.tmp 78) rfl (by go_simp) HB.out.t ⟨wr.heap.size, 0, none⟩ 1 1 (by go_simp) [.int .u8 (X[q].toNat : Int)] [X[q]] (fun _ => False) HR.out.1 rfl HR.out.2 (fun b hb => (HB.out.t.base hb).2) (fun b hb => hb.elim) HL1.out ?_; intro v7 w7 ho7 hk7; have HD7 := Lib.hid (HS6.out.addT HSA.out ho7 hk7); clear ho7 hk7)
                    refine (KP.out _ _ _).mono ?_
                    rintro e W8 ⟨rfl, s8⟩
                    have HD8 := Lib.hid (HD7.out.sees s8)
                    clear s8 HD7 HB HR HSA HL1
                    have sB : Sees W8 (W8.alloc (.cells #[.int .i64 (first + (i : Int)), .int .i64 (k : Int)] 32)) := (Sees.refl W8).alloc _
                    have HSB := Lib.hid sB
                    have HB := Lib.hid (HD8.out.sees sB)
                    have HR := Lib.hid (pl_news (p := (first + (i : Int), (k : Int))) (heap_alloc_new W8 (.cells #[.int .i64 (first + (i : Int)), .int .i64 (k : Int)] 32)))
                    clear sB
                    go_wp2_with (at_builtin; refine El.wpList_append_own (v := u11) typedPl rfl (.tmp 80) (.tmp 86) rfl (by go_simp) HB.out.p ⟨W8.heap.size, 0, none⟩ 1 1 (by go_simp) _ [(first + (i : Int), (k : Int))] _ HR.out.1 rfl HR.out.2 (fun b hb => (HB.out.p.base hb).2) (fun b hb => hb.elim) HL2.out ?_; intro v9 w9 ho9 hk9; have HD9 := Lib.hid (HD8.out.addP HSB.out ho9 hk9); clear ho9 hk9)
                    refine ⟨⟨q + 1, by omega, by go_num, ?_⟩, by simp [intOf]; omega⟩
                    rw [HTK.out, List.replicate_succ', ← List.append_assoc, ← List.append_assoc]
                    exact HD9.out
                  · obtain rfl : q = X.size := by omega
                    have e1 : Q.map Bp.b ++ c.txt.take X.size = (acc ++ cellsB (first + i) 0 (cs.take (k + 1))).map Bp.b := by rw [HCC.out, ← List.append_assoc, ← HQ.out, List.map_append, cellB_b, HXS.out, List.take_length]
                    have e2 : Q.map Bp.pl ++ List.replicate X.size (first + i, (k : Int)) = (acc ++ cellsB (first + i) 0 (cs.take (k + 1))).map Bp.pl := by rw [HCC.out, ← List.append_assoc, ← HQ.out, List.map_append, cellB_pl, HXS.out]
                    have HZ := HS6.out
                    rw [e1, e2] at HZ
                    replace HZ := Lib.hid HZ
                    clear e1 e2 HS6 HS5
                    go_wp2
                    go_roundw
                    case rel => exact ⟨k + 1, by omega, by go_num, HZ.out⟩
                    case measure => simp [intOf]; omega
            · obtain rfl : k = K := by omega
              have hfin := HS2.out
              rw [HRK.out] at hfin
              have HFIN := Lib.hid hfin
              clear hfin
              cases L
              · have e := hLK.out rfl
                subst e
                go_wp2_with fail
                go_meet
                exact HFIN.out
              · rcases Nat.lt_or_ge k m with hkm | hkm
                · have KU := Lib.hid (used_any _ x F _ (X3.out.sees HS2.out.s) (by rw [HCL.out]; omega))
                  rw [← hLU.out rfl] at KU
                  go_wp2_with fail
                  refine KU.out.mono ?_
                  rintro e W1 ⟨rfl, s1⟩
                  have hg : decide ((k : Int) ≥ (k : Int)) = true := decide_eq_true (by omega)
                  go_wp2_with fail
                  go_meet
                  exact HFIN.out.sees s1
                · obtain rfl : k = m := by omega
                  go_wp2_with fail
                  go_meet
                  exact HFIN.out
        case rest =>
          have HS3 := Lib.hid hcut
          clear hcut HS
          have hseg := segs_here (n := first + i) (acc := acc) HX.out
          have hLd : (!x.soft || decide (i + 1 = ls.length)) = L := hL.out.symm
          rw [hLd] at hseg
          have hacc : (acc ++ R).length ≤ (i + 1) * 16000 := by rw [List.length_append]; omega
          have HSEG := Lib.hid hseg
          clear hseg hLd hL
          cases L
          · rw [if_neg (by decide)] at HSEG
            go_wp2_with fail
            have hnext : A = outs ++ (segs (first + (i + 1 : Nat)) (acc ++ R) (ls.drop (i + 1))).flatMap M := by
              rw [hA1.out, HSEG.out, ← HRR.out]
              congr 3
              push_cast
              omega
            exact ⟨⟨i + 1, acc ++ R, outs, by omega, by go_num, hacc, hnext, HS3.out⟩, by simp [intOf]; omega⟩
          · rw [if_pos rfl, ← HRR.out] at HSEG
            obtain ⟨T, hT⟩ : ∃ T, T = acc ++ R := ⟨_, rfl⟩
            rw [← hT] at hacc HS3 HSEG
            clear hT
            have hTl : T.length ≤ 16000000 := by have : (i + 1) * 16000 ≤ 1000 * 16000 := Nat.mul_le_mul_right _ (by omega); omega
            have hA2 : Hid (A = outs ++ (M T ++ (segs (first + (i + 1 : Nat)) [] (ls.drop (i + 1))).flatMap M)) := by
              unfold RowKit.Hid
              rw [hA1.out, HSEG.out, List.flatMap_cons]
              congr 4
              push_cast
              omega
            clear HSEG hA1
            obtain ⟨P, hP⟩ : ∃ P, P = p.data.toList.map (low fold) := ⟨_, rfl⟩
            have hPl : P.length = p.size := by rw [hP, List.length_map, ← Lib.size_eq]
            have hPn : P ≠ [] := fun e => by rw [e] at hPl; simp at hPl; omega
            have hMT : Hid (M T = (hits P 0 0 ((lowB fold T).drop 0)).map (mtOf T p.size)) := by
              unfold RowKit.Hid
              rw [HMM.out, ← hP, ← hPl]; rfl
            have HPP := Lib.hid hP
            have HPL := Lib.hid hPl
            have HPN := Lib.hid hPn
            have HTL : Hid ((lowB fold T).length = T.length) := lowB_len fold T
            clear hP hPl hPn
            obtain ⟨t1, t2, ht, _⟩ := HS3.out.t.slice
            obtain ⟨t3, t4, ht', _⟩ := HS3.out.p.slice
            rw [List.length_map] at ht ht'
            have e10 := ht
            have e11 := ht'
            subst e10 e11
            generalize hTT : T.length = N at *
            go_wp2
            go_loopw [9, 17] (fun uo nn W => ∃ (z : Nat) (o2 : List Mt), z ≤ N ∧ nn = .int .i64 z ∧ Hid (outs ++ M T = o2 ++ (hits P z 0 ((lowB fold T).drop z)).map (mtOf T p.size)) ∧ MdSt w (T.map Bp.b) (T.map Bp.pl) o2 (.slice t1 N t2) (.slice t3 N t4) uo W) (fun _ nn _ => N + 1 - (intOf nn).toNat)
            case atStart => exact ⟨0, outs, by omega, rfl, (by unfold RowKit.Hid; rw [hMT.out]), HS3.out⟩
            case round =>
              obtain ⟨z, o2, hz, rfl, hO, hS7⟩ := hrel
              have HS7 := Lib.hid hS7
              have HO := Lib.hid hO.out
              clear hO hS7
              have HLO : Hid (o2.length ≤ 16000000) := by
                unfold RowKit.Hid
                have e1 := congrArg List.length hA2.out
                have e2 := congrArg List.length HO.out
                rw [List.length_append, List.length_append] at e1
                rw [List.length_append, List.length_append] at e2
                omega
              by_cases hzm : z + p.size ≤ N
              · have hzN : z < N := by omega
                have hzi : (z : Int) + (p.size : Int) ≤ N := by omega
                have hh := hits_here (p := P) (t := lowB fold T) HPN.out (by rw [HTL.out]; exact hzN)
                have HH := Lib.hid hh
                clear hh
                go_wp2
                go_loopw [18, 19] (fun is jj W => ∃ j : Nat, j ≤ p.size ∧ jj = .int .i64 j ∧ is = .bool ((P.take j).isPrefixOf ((lowB fold T).drop z)) ∧ Sees wr W) (fun _ jj _ => p.size - (intOf jj).toNat)
                case atStart => exact ⟨0, by omega, rfl, by rw [pref_none], Sees.refl _⟩
                case round =>
                  obtain ⟨j, hj, rfl, rfl, hS8⟩ := hrel
                  have HS8 := Lib.hid (HS7.out.sees hS8)
                  have HSs := Lib.hid hS8
                  clear hS8
                  by_cases hjm : j < p.size
                  · obtain ⟨b5, o5, y, rfl, hy, hc5⟩ := HS8.out.byte (k := z + j) (by omega)
                    have hpj : P[j]? = some (low fold p[j]) := by
                      rw [HPP.out, List.getElem?_map, List.getElem?_eq_getElem (by rw [← Lib.size_eq]; exact hjm)]
                      rfl
                    have HPS := Lib.hid (pref_step (z := z) hpj (lowB_get (fold := fold) hy))
                    obtain ⟨B, hB⟩ : ∃ B, B = (P.take j).isPrefixOf ((lowB fold T).drop z) := ⟨_, rfl⟩
                    rw [← hB] at HPS ⊢
                    clear hB hpj hy
                    have hnj : (0 : Int) ≤ (z : Int) + j := by omega
                    have hnj2 : ((z : Int) + j) < N := by omega
                    have hnat : ((z : Int) + (j : Int)).toNat = z + j := by omega
                    have g0 := fun d os => (sees_grow wr d os).cell hc5
                    clear hc5
                    cases B
                    · go_wp2
                      refine wp_region_quiet_below (by kernel_rfl) (by kernel_rfl) ?_
                      repeat (first | go_big_quiet_skip | (go_big_quiet_want; go_big_quiet_op; go_big_quiet_on))
                      refine wpQuiet_nil ?_; intro w2 hw2'; have hw2 := regrown_sees hw2'; clear hw2'
                      go_wp2
                      exact ⟨⟨j + 1, by omega, by go_num, by rw [HPS.out]; rfl, HSs.out.trans hw2⟩, by simp [intOf]; omega⟩
                    · have KL1 := fun W => lower_sees y fold W
                      have KL2 := fun W => lower_sees p[j] fold W
                      go_wp2
                      refine wp_region_quiet_below (by kernel_rfl) (by kernel_rfl) ?_
                      repeat (first | go_big_quiet_skip | (go_big_quiet_want; go_big_quiet_op; go_big_quiet_on))
                      (go_big_quiet_want; go_big_quiet_op; apply Exists.intro; refine ⟨fun p => Calls.regrown_of (KL1 _), ?_⟩; go_big_quiet_on)
                      repeat (first | go_big_quiet_skip | (go_big_quiet_want; go_big_quiet_op; go_big_quiet_on))
                      (go_big_quiet_want; go_big_quiet_op; apply Exists.intro; refine ⟨fun p => Calls.regrown_of (KL2 _), ?_⟩; go_big_quiet_on)
                      repeat (first | go_big_quiet_skip | (go_big_quiet_want; go_big_quiet_op; go_big_quiet_on))
                      refine wpQuiet_nil ?_; intro w2 hw2'; have hw2 := regrown_sees hw2'; clear hw2'
                      go_wp2
                      exact ⟨⟨j + 1, by omega, by go_num, by rw [HPS.out, ← u8_beq]; rfl, HSs.out.trans hw2⟩, by simp [intOf]; omega⟩
                  · obtain rfl : j = p.size := by omega
                    have htk : P.take p.size = P := by rw [← HPL.out, List.take_length]
                    rw [htk]
                    clear htk
                    obtain ⟨B, hB⟩ : ∃ B, B = P.isPrefixOf ((lowB fold T).drop z) := ⟨_, rfl⟩
                    rw [← hB] at HH ⊢
                    clear hB
                    cases B
                    · rw [if_neg (by decide)] at HH
                      go_wp2
                      exact ⟨⟨z + 1, o2, by omega, by go_num, (by unfold RowKit.Hid; rw [HO.out, HH.out]), HS8.out⟩, by simp [intOf]; omega⟩
                    · rw [if_pos rfl] at HH
                      go_upto_region 27 with fail
                      refine wpH_go (fun b => u9.ownBlock = some b) 17 (by kernel_rfl) (by kernel_rfl) (by rfl) (fun hB w9 hs9 => ?_)
                      have HS9 := Lib.hid (HS8.out.sees hs9)
                      clear hs9
                      have hS0 : Keeps (fun b => u9.ownBlock = some b) w9 w9 := Keeps.refl _ w9
                      obtain ⟨b3, o3, xz, rfl, hxz, c1, c2⟩ := HS9.out.place hzN
                      obtain ⟨b4, o4, xe, e4, hxe, d1, d2⟩ := HS9.out.place (k := z + p.size - 1) (by omega)
                      cases e4
                      have hap : ∀ W, Keeps (fun b => u9.ownBlock = some b) w9 W → ∀ i v, w9.cell? ⟨b3, i, none⟩ = some v → W.cell? ⟨b3, i, none⟩ = some v := by
                        intro W hk i v hc
                        have hbb : ¬ (u9.ownBlock = some b3) := fun e => own_apart HS9.out.p HS9.out.o MdSt.ne3 b3 rfl e
                        have hlt := (HS9.out.p.base (show (Value.slice (some ⟨b3, o3, none⟩) N t4).ownBlock = some b3 from rfl)).2
                        have := hk.block b3 hlt hbb
                        unfold World.cell? at hc ⊢
                        simpa [this] using hc
                      have HAP := Lib.hid hap
                      have hm0 : (0 : Int) ≤ (z : Int) + (p.size : Int) - 1 := by omega
                      have hm1 : (z : Int) + (p.size : Int) - 1 < N := by omega
                      have hm2 : ((z : Int) + (p.size : Int) - 1).toNat = z + p.size - 1 := by omega
                      have hz0 : (z : Int) < N := by omega
                      have hm3 : ¬ ((z : Int) + (p.size : Int) < 1) := by omega
                      have hw1 : IntKind.i64.wrap ((z : Int) + (p.size : Int)) = (z : Int) + (p.size : Int) := IntWalk.i64_in _ (by omega)
                      have hw2 : IntKind.i64.wrap ((z : Int) + (p.size : Int) - 1) = (z : Int) + (p.size : Int) - 1 := IntWalk.i64_in _ (by omega)
                      have C1 := Lib.hid c1
                      have C2 := Lib.hid c2
                      have D1 := Lib.hid d1
                      have D2 := Lib.hid d2
                      have HXZ := Lib.hid (pl_getD hxz)
                      have HXE := Lib.hid (pl_getD hxe)
                      clear hap c1 c2 d1 d2 hxz hxe
                      refine wpH_take (i := 0) (v := u9) hB (by rfl) (by kernel_rfl) (fun _ _ _ _ _ h => h) (by rfl) hS0 (fun W hI => by clear hI; go_simp) ?_; (try simp only [Act.put, List.setIfInBounds_toArray, List.set_cons_zero, List.set_cons_succ])
                      refine wpH_take (i := 1) (v := .slice (some ⟨b3, o3, none⟩) N t4) hB (by rfl) (by kernel_rfl) (fun _ _ _ _ _ h => h) (by rfl) hS0 (fun W hI => by clear hI; go_simp) ?_; (try simp only [Act.put, List.setIfInBounds_toArray, List.set_cons_zero, List.set_cons_succ])
                      refine wpH_take (i := 2) (v := .int .i64 z) hB (by rfl) (by kernel_rfl) (fun _ _ _ _ _ h => h) (by rfl) hS0 (fun W hI => by clear hI; go_simp) ?_; (try simp only [Act.put, List.setIfInBounds_toArray, List.set_cons_zero, List.set_cons_succ])
                      refine wpH_take (i := 3) (v := .pointer (some ⟨b3, o3 + z * 2, none⟩)) hB (by rfl) (by kernel_rfl) (fun _ _ _ _ _ h => h) (by rfl) hS0 (fun W hI => by clear hI; go_simp) ?_; (try simp only [Act.put, List.setIfInBounds_toArray, List.set_cons_zero, List.set_cons_succ])
                      refine wpH_take (i := 4) (v := .agg #[.int .i64 xz.1, .int .i64 xz.2]) hB (by rfl) (by kernel_rfl) (fun _ _ _ _ _ h => h) (by rfl) hS0 (fun W hI => by have q1 := HAP.out W hI _ _ C1.out; have q2 := HAP.out W hI _ _ C2.out; go_simp) ?_; (try simp only [Act.put, List.setIfInBounds_toArray, List.set_cons_zero, List.set_cons_succ])
                      refine wpH_take (i := 5) (v := .slice (some ⟨b3, o3, none⟩) N t4) hB (by rfl) (by kernel_rfl) (fun _ _ _ _ _ h => h) (by rfl) hS0 (fun W hI => by clear hI; go_simp) ?_; (try simp only [Act.put, List.setIfInBounds_toArray, List.set_cons_zero, List.set_cons_succ])
                      refine wpH_take (i := 6) (v := .int .i64 z) hB (by rfl) (by kernel_rfl) (fun _ _ _ _ _ h => h) (by rfl) hS0 (fun W hI => by clear hI; go_simp) ?_; (try simp only [Act.put, List.setIfInBounds_toArray, List.set_cons_zero, List.set_cons_succ])
                      refine wpH_take (i := 7) (v := .string p) hB (by rfl) (by kernel_rfl) (fun _ _ _ _ _ h => h) (by rfl) hS0 (fun W hI => by clear hI; go_simp) ?_; (try simp only [Act.put, List.setIfInBounds_toArray, List.set_cons_zero, List.set_cons_succ])
                      refine wpH_take (i := 8) (v := .int .i64 p.size) hB (by rfl) (by kernel_rfl) (fun _ _ _ _ _ h => h) (by rfl) hS0 (fun W hI => by clear hI; go_simp) ?_; (try simp only [Act.put, List.setIfInBounds_toArray, List.set_cons_zero, List.set_cons_succ])
                      refine wpH_take (i := 9) (v := .int .i64 ((z : Int) + (p.size : Int))) hB (by rfl) (by kernel_rfl) (fun _ _ _ _ _ h => h) (by rfl) hS0 (fun W hI => by clear hI; go_simp) ?_; (try simp only [Act.put, List.setIfInBounds_toArray, List.set_cons_zero, List.set_cons_succ])
                      refine wpH_take (i := 10) (v := .int .i64 ((z : Int) + (p.size : Int) - 1)) hB (by rfl) (by kernel_rfl) (fun _ _ _ _ _ h => h) (by rfl) hS0 (fun W hI => by clear hI; go_simp) ?_; (try simp only [Act.put, List.setIfInBounds_toArray, List.set_cons_zero, List.set_cons_succ])
                      refine wpH_take (i := 11) (v := .pointer (some ⟨b3, o3 + (z + p.size - 1) * 2, none⟩)) hB (by rfl) (by kernel_rfl) (fun _ _ _ _ _ h => h) (by rfl) hS0 (fun W hI => by clear hI; go_simp) ?_; (try simp only [Act.put, List.setIfInBounds_toArray, List.set_cons_zero, List.set_cons_succ])
                      refine wpH_take (i := 12) (v := .agg #[.int .i64 xe.1, .int .i64 xe.2]) hB (by rfl) (by kernel_rfl) (fun _ _ _ _ _ h => h) (by rfl) hS0 (fun W hI => by have q1 := HAP.out W hI _ _ D1.out; have q2 := HAP.out W hI _ _ D2.out; go_simp) ?_; (try simp only [Act.put, List.setIfInBounds_toArray, List.set_cons_zero, List.set_cons_succ])
                      refine wpH_take (i := 13) (v := .agg #[.int .i64 xz.1, .int .i64 xz.2, .int .i64 xe.1, .int .i64 xe.2]) hB (by rfl) (by kernel_rfl) (fun _ _ _ _ _ h => h) (by rfl) hS0 (fun W hI => by clear hI; go_simp) ?_; (try simp only [Act.put, List.setIfInBounds_toArray, List.set_cons_zero, List.set_cons_succ])
                      have sB : Sees w9 (w9.alloc (.cells #[.int .i64 xz.1, .int .i64 xz.2, .int .i64 xe.1, .int .i64 xe.2] 35)) := (Sees.refl w9).alloc _
                      have HSB := Lib.hid sB
                      have HBB := Lib.hid (HS9.out.sees sB)
                      have HR := Lib.hid (mt_news (m := ⟨xz.1, xz.2, xe.1, xe.2⟩) (heap_alloc_new w9 (.cells #[.int .i64 xz.1, .int .i64 xz.2, .int .i64 xe.1, .int .i64 xe.2] 35)))
                      have hS1 := hS0.trans (Keeps.of_sees (F := fun b => u9.ownBlock = some b) sB)
                      clear sB
                      refine wpH_one (i := 14) (by kernel_rfl) (wpOp_val (v := .slice (some ⟨w9.heap.size, 0, none⟩) 1 1) (w' := w9.alloc (.cells #[.int .i64 xz.1, .int .i64 xz.2, .int .i64 xe.1, .int .i64 xe.2] 35)) (by rfl) (wanted_none (by rfl) _) (by go_simp) ⟨hS1, ?_⟩)
                      (try simp only [Act.put, List.setIfInBounds_toArray, List.set_cons_zero, List.set_cons_succ])
                      obtain ⟨v', w11, hr, ho', hk'⟩ := El.run_append_own (P := Tryd.prog) typedMt 28 HBB.out.o ⟨w9.heap.size, 0, none⟩ 1 1 [.int .i64 xz.1, .int .i64 xz.2, .int .i64 xe.1, .int .i64 xe.2] [⟨xz.1, xz.2, xe.1, xe.2⟩] (fun _ => False) HR.out.1 rfl HR.out.2 (fun b hb => (HBB.out.o.base hb).2) (fun b hb => hb.elim) (by rw [List.length_singleton]; have := HLO.out; omega)
                      have HD := Lib.hid (HS9.out.addO HSB.out ho' hk')
                      have hS2 := hS1.trans hk'
                      clear ho' hk' hS0 HBB HSB
                      refine wpH_one (i := 15) (by kernel_rfl) (wpOp_val (v := v') (w' := w11) (by rfl) (wanted_none (by rfl) _) (exec_append (by rfl) (by go_simp) (by go_simp) hr) ⟨hS2, ?_⟩)
                      (try simp only [Act.put, List.setIfInBounds_toArray, List.set_cons_zero, List.set_cons_succ])
                      clear hr hS1
                      have hS0 := hS2
                      refine wpH_take (i := 16) (v := v') hB (by rfl) (by kernel_rfl) (fun _ _ _ _ _ h => h) (by rfl) hS0 (fun W hI => by clear hI; go_simp) ?_; (try simp only [Act.put, List.setIfInBounds_toArray, List.set_cons_zero, List.set_cons_succ])
                      refine wpH_end (by kernel_rfl) ?_
                      clear hS0 hS2
                      go_wp2
                      have hmt : mtOf T p.size z = ⟨xz.1, xz.2, xe.1, xe.2⟩ := by unfold mtOf; rw [← HXZ.out.1, ← HXZ.out.2, ← HXE.out.1, ← HXE.out.2]
                      exact ⟨⟨z + p.size, o2 ++ [⟨xz.1, xz.2, xe.1, xe.2⟩], hzm, by go_num, (by unfold RowKit.Hid; rw [HO.out, HH.out, List.map_cons, hmt, HPL.out, List.append_assoc]; rfl), HD.out⟩, by simp [intOf]; omega⟩
              · have hzi : ¬ ((z : Int) + (p.size : Int) ≤ N) := by omega
                have hzd : decide ((z : Int) + (p.size : Int) ≤ N) = false := decide_eq_false hzi
                have hfin : outs ++ M T = o2 := by
                  rw [HO.out, hits_short (by rw [List.length_drop, HTL.out, HPL.out]; omega)]
                  simp
                have HF := Lib.hid hfin
                clear hfin
                go_wp2
                have hnext : A = o2 ++ (segs (first + (i + 1 : Nat)) [] (ls.drop (i + 1))).flatMap M := by rw [hA2.out, ← List.append_assoc, HF.out]
                exact ⟨⟨i + 1, [], o2, by omega, by go_num, by simp, hnext, HS7.out.clear⟩, by simp [intOf]; omega⟩
    · obtain rfl : i = n := by omega
      go_wp2
      go_ret
      refine ⟨_, rfl, ?_, HS.out.s⟩
      have e := hA1.out
      rw [HN.out, List.drop_length] at e
      simp [segs] at e
      rw [e]
      exact HS.out.o.mono (fun b _ hb => HS.out.a3 b hb)
end Go.Proofs.YtohiigmlkhpneaaDoor
