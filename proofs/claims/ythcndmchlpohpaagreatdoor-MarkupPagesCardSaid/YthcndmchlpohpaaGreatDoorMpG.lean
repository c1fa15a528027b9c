/- MarkupPages (48). The library's variables hold what the program's text lays. -/
import Derived.Test.YthcndmchlpohpaaGreatDoorMpF
import Derived.Test.YthcndmchlpohpaaGreatDoorMpD
import Derived.Test.YthcndmchlpohpaaGreatDoorMlE
namespace Go.Proofs.YthcndmchlpohpaaGreatDoor
set_option linter.unusedVariables false
set_option linter.unusedSimpArgs false
open Go.RowKit Go.Shelf
attribute [local go_sem] Oper.semAt_some

theorem exec_alloc_ln {ρ : Operand → Value} {o : Oper} {W : World} (ho : o.op = .alloc 27) : (execOp ρ o).run Tryz.prog W = .ok (.value (.pointer (some ⟨W.heap.size, 0, none⟩))) (W.alloc (.cells #[.slice none 0 0, .bool false] 27)) := by
  unfold execOp
  rw [ho]
  go_simp
def lenAt (W : World) (b : Nat) : Nat := match W.cell? ⟨b, 0, none⟩ with | some (.slice _ n _) => n | _ => 0
theorem lenAt_of {W : World} {b : Nat} {a : Option Addr} {n c : Nat} (h : W.cell? ⟨b, 0, none⟩ = some (.slice a n c)) : lenAt W b = n := by unfold lenAt; rw [h]
/-- The most columns. -/
def colN (ls : List Ln) : Nat := ls.foldl (fun m x => max m x.cells.length) 0
theorem colN_step {ls : List Ln} {k : Nat} {x : Ln} (h : ls[k]? = some x) : colN (ls.take (k + 1)) = max (colN (ls.take k)) x.cells.length := by
  unfold colN
  rw [List.take_add_one, h, Option.toList_some, List.foldl_append]
  rfl
theorem colN_from (m : Nat) : ∀ ls : List Ln, m ≤ ls.foldl (fun m x => max m x.cells.length) m ∧ ∀ x ∈ ls, x.cells.length ≤ ls.foldl (fun m x => max m x.cells.length) m := by
  intro ls
  induction ls generalizing m with
  | nil => exact ⟨Nat.le_refl _, fun x hx => by cases hx⟩
  | cons y ls ih =>
    have h := ih (max m y.cells.length)
    rw [List.foldl_cons]
    refine ⟨by omega, fun x hx => ?_⟩
    rcases List.mem_cons.1 hx with rfl | hx
    · omega
    · exact h.2 x hx
theorem colN_le {ls : List Ln} : ∀ x ∈ ls, x.cells.length ≤ colN ls := (colN_from 0 ls).2
theorem colN_max {M : Nat} : ∀ (ls : List Ln) (m : Nat), m ≤ M → (∀ x ∈ ls, x.cells.length ≤ M) → ls.foldl (fun m x => max m x.cells.length) m ≤ M
  | [], m, h, _ => h
  | y :: ls, m, h, hl => by
    rw [List.foldl_cons]
    exact colN_max ls _ (by have := hl y (List.mem_cons_self ..); omega) (fun x hx => hl x (List.mem_cons_of_mem _ hx))
/-- Lines that there may be, none too long. -/
def OkL (ls : List Ln) : Prop := ∀ x ∈ ls, lnOk x.cells = true ∧ x.cells.length ≤ 24
theorem OkL.step {ls : List Ln} {k : Nat} {x : Ln} (h : OkL (ls.take k)) (hx : ls[k]? = some x) (h1 : lnOk x.cells = true) (h2 : x.cells.length ≤ 24) : OkL (ls.take (k + 1)) := by
  intro y hy
  rw [List.take_add_one, hx, Option.toList_some] at hy
  rcases List.mem_append.1 hy with hy | hy
  · exact h y hy
  · obtain rfl := List.mem_singleton.1 hy
    exact ⟨h1, h2⟩
set_option maxHeartbeats 8000000 in
set_option maxRecDepth 100000 in
theorem markupPages_true (v : Value) (ls : List Ln) (F : Nat → Prop) (ms : List UInt8) (w : World) (hw : Sd w) (h : lnEl.Rd F w v ls) (hbd : ∀ x ∈ ls, ∀ c ∈ x.cells, c.Bd) (hms : ms.length ≤ 9223372036854775807) :
    Calls Tryz.prog 4 #[v, .string (strL ms)] w fun e w' => e = .returned (.bool true) ∧ Sees w w' := by
  have KN : Hid (∀ W, Sees w W → Calls Tryz.prog 8 #[] W fun e w' => e = .returned (.bool true) ∧ Sees W w') := fun W hs => known48_any W (hw.sees hs)
  obtain ⟨a, cp, rfl, hcp⟩ := h.slice'
  obtain ⟨n, hnn⟩ : ∃ n, n = ls.length := ⟨_, rfl⟩
  rw [← hnn] at h hcp ⊢
  obtain ⟨q, hq⟩ : ∃ q, q = ms.length := ⟨_, rfl⟩
  have hsz : (strL ms).size = q := by rw [strL_size, hq]
  have HQ := Lib.hid hq
  have HW := Lib.hid hw
  have H := Lib.hid h
  have HN := Lib.hid hnn
  have HB := Lib.hid hbd
  have S0 := Lib.hid (Sees.refl w)
  rw [← hq] at hms
  clear hw h hnn hbd hq
  by_cases h8 : 8 < n
  · have g1 : (n : Int) > 8 := by omega
    go_enter Tryz.func4, Tryz.ntmps4
    go_wp2_with fail
    refine (KN.out _ S0.out).mono ?_
    rintro e Wk ⟨rfl, sk⟩
    have Sk := Lib.hid (S0.out.trans sk)
    go_wp2
    go_ret
    exact ⟨rfl, Sk.out⟩
  have g1 : ¬ (n : Int) > 8 := by omega
  by_cases h6 : 6 < q
  · have g2 : (q : Int) > 6 := by omega
    go_enter Tryz.func4, Tryz.ntmps4
    go_wp2_with fail
    refine (KN.out _ S0.out).mono ?_
    rintro e Wk ⟨rfl, sk⟩
    have Sk := Lib.hid (S0.out.trans sk)
    go_wp2
    go_ret
    exact ⟨rfl, Sk.out⟩
  have g2 : ¬ (q : Int) > 6 := by omega
  go_enter Tryz.func4, Tryz.ntmps4
  go_wp2
  go_loopw [5, 6, 7] (fun s c i W => ∃ k : Nat, k ≤ n ∧ i = .int .i64 k ∧ s = .string (strL (pageL (ls.take k))) ∧ c = .int .i64 (colN (ls.take k) : Nat) ∧ OkL (ls.take k) ∧ Sees w W) (fun _ _ i _ => n - (intOf i).toNat)
  case atStart => exact ⟨0, Nat.zero_le _, rfl, rfl, rfl, (fun x hx => by simp at hx), Sees.refl _⟩
  case round =>
    obtain ⟨k, hk, rfl, rfl, rfl, hok, hS⟩ := hrel
    have HOK := Lib.hid hok
    have HS := Lib.hid hS
    clear hok hS
    by_cases hlt : k < n
    · obtain ⟨b1, o1, x, a1, m1, rfl, _, hx, hc1, x1, x2, x3⟩ := (H.out.sees HS.out).line hlt
      have HX := Lib.hid hx
      have HXB := Lib.hid (HB.out x (List.mem_of_getElem? hx))
      obtain ⟨n1, hn1⟩ : ∃ n1, n1 = x.cells.length := ⟨_, rfl⟩
      rw [← hn1] at x1 x3 hc1
      have HN1 := Lib.hid hn1
      have X3 := Lib.hid x3
      have hPz : (pageL (ls.take k)).length ≤ 8272 := by
        have h1 := pageL_small _ (fun x hx => (HOK.out x hx).2)
        rw [List.length_take] at h1
        omega
      have hC : colN (ls.take k) ≤ 24 := colN_max _ _ (by omega) (fun x hx => (HOK.out x hx).2)
      have HST := Lib.hid (pageL_step hx)
      have HCS := Lib.hid (colN_step hx)
      obtain ⟨PG, hP⟩ : ∃ P, P = pageL (ls.take k) := ⟨_, rfl⟩
      obtain ⟨c0, hc0⟩ : ∃ c, c = colN (ls.take k) := ⟨_, rfl⟩
      rw [← hP] at hPz HST ⊢
      rw [← hc0] at hC HCS ⊢
      rw [← hn1] at HCS
      have hPs : (strL PG).size ≤ 8272 := by rw [strL_size]; exact hPz
      clear hP hc0 hx x3 hn1 hPz
      by_cases h24 : 24 < n1
      · have g3 : (n1 : Int) > 24 := by omega
        go_wp2_with fail
        refine (KN.out _ HS.out).mono ?_
        rintro e Wk ⟨rfl, sk⟩
        have Sk := Lib.hid (HS.out.trans sk)
        go_wp2
        go_ret
        exact ⟨rfl, Sk.out⟩
      · have g3 : ¬ (n1 : Int) > 24 := by omega
        have KV : Hid (∀ W, Sees wr W → Calls Tryz.prog 11 #[.agg #[.slice a1 n1 m1, .bool x.soft]] W fun e w' => e = .returned (.bool (lnOk x.cells)) ∧ Sees W w') := fun W hs => lineValid_any _ x.cells x.soft W (HW.out.sees (HS.out.trans hs)).t ((X3.out.sees hs).rdc.rd) (by rw [← HN1.out]; omega)
        obtain ⟨ok, hok⟩ : ∃ ok, ok = lnOk x.cells := ⟨_, rfl⟩
        rw [← hok] at KV
        have HLK := Lib.hid hok
        have X1 := Lib.hid x1
        have X2 := Lib.hid x2
        clear hok
        cases ok with
        | false =>
          have KPB : Hid (∀ W, Sees w W → Calls Tryz.prog 12 #[.slice (some ⟨b1, o1, none⟩) n cp, .string ⟨#[]⟩, .int .i64 2] W fun e w' => e = .returned (.bool true) ∧ Sees W w') := fun W hs => by
            have h := pages_read _ ls [] 2 _ W (HW.out.sees hs) (H.out.sees hs) (by rw [← HN.out]; omega) HB.out
            have hbad : pageOk ls = false := by
              unfold pageOk
              rw [List.all_eq_false]
              exact ⟨x, List.mem_of_getElem? HX.out, by rw [← HLK.out]; simp⟩
            rw [hbad] at h
            exact h.mono fun e W' ⟨he, s⟩ => ⟨he.trans (by simp), s⟩
          go_wp2_with fail
          refine (KV.out _ (Sees.refl _)).mono ?_
          rintro e W2 ⟨rfl, s2⟩
          have S2 := Lib.hid (HS.out.trans s2)
          clear s2 KV x1 x2
          go_wp2_with fail
          refine (KPB.out _ S2.out).mono ?_
          rintro e W3 ⟨rfl, s3⟩
          have S3 := Lib.hid (S2.out.trans s3)
          clear s3 KPB
          go_wp2_with fail
          refine (KN.out _ S3.out).mono ?_
          rintro e Wk ⟨rfl, sk⟩
          have Sk := Lib.hid (S3.out.trans sk)
          go_wp2
          go_ret
          exact ⟨rfl, Sk.out⟩
        | true =>
          have KM : Hid (∀ W, Sees wr W → Calls Tryz.prog 13 #[.agg #[.slice a1 n1 m1, .bool x.soft]] W fun e w' => e = .returned (.string (strL (mkL x.cells x.soft))) ∧ Sees W w') := fun W hs => marked_any _ x.cells x.soft _ W (X3.out.sees hs) HLK.out.symm HXB.out
          have hMz : (strL (mkL x.cells x.soft)).size ≤ 43001 := by rw [strL_size]; exact mkL_len' HLK.out.symm _
          obtain ⟨M, hM⟩ : ∃ M, M = mkL x.cells x.soft := ⟨_, rfl⟩
          rw [← hM] at KM hMz HST
          have HSTR : Hid (strL PG ++ strL M ++ (⟨#[10]⟩ : ByteArray) = strL (pageL (ls.take (k + 1)))) := by
            unfold RowKit.Hid
            rw [HST.out, show (⟨#[10]⟩ : ByteArray) = strL [10] from rfl, strL_app, strL_app, List.append_assoc]
          have hPM : (strL PG ++ strL M).size ≤ 60000 := by rw [ByteArray.size_append]; omega
          obtain ⟨c1, hc1'⟩ : ∃ c, c = max c0 n1 := ⟨_, rfl⟩
          have hmx : max (c0 : Int) (n1 : Int) = (c1 : Int) := by omega
          rw [← hc1'] at HCS
          clear hM hc1'
          go_wp2_with fail
          refine (KV.out _ (Sees.refl _)).mono ?_
          rintro e W2 ⟨rfl, s2⟩
          have S2 := Lib.hid s2
          have x1 := s2.cell X1.out
          have x2 := s2.cell X2.out
          clear s2 KV
          go_wp2_with fail
          refine (KM.out _ S2.out).mono ?_
          rintro e W3 ⟨rfl, s3⟩
          have S3 := Lib.hid (S2.out.trans s3)
          have x1 := S3.out.cell X1.out
          clear s3 KM x2
          go_wp2
          go_roundw
          case rel => exact ⟨k + 1, by omega, by go_num, by rw [HSTR.out], by rw [HCS.out], HOK.out.step HX.out HLK.out.symm (by rw [← HN1.out]; omega), HS.out.trans S3.out⟩
          case measure => simp [intOf]; omega
    · obtain rfl : n = k := by omega
      have hall : ls.take n = ls := List.take_of_length_le (by rw [← HN.out]; exact Nat.le_refl _)
      rw [hall] at HOK ⊢
      obtain ⟨wl, rfl⟩ : ∃ x, x = wr := ⟨_, rfl⟩
      have HSl := Lib.hid HS.out
      have HA : Hid (∀ x ∈ ls, lnOk x.cells = true ∧ ∀ c ∈ x.cells, c.Bd) := fun x hx => ⟨(HOK.out x hx).1, HB.out x hx⟩
      have H24 : Hid (∀ x ∈ ls, x.cells.length ≤ 24) := fun x hx => (HOK.out x hx).2
      have hl8 : ls.length ≤ 8 := by rw [← HN.out]; omega
      have hN24 : colN ls ≤ 24 := colN_max _ _ (by omega) H24.out
      have hPz := pageL_small ls H24.out
      have hPz2 : (pageL ls).length ≤ 8272 := by omega
      have HPK : Hid (pageOk ls = true) := by unfold RowKit.Hid pageOk; rw [List.all_eq_true]; exact fun x hx => (HA.out x hx).1
      have HCN : Hid (∀ x ∈ ls, x.cells.length ≤ colN ls) := colN_le
      have HE0 : Hid (parseB (pageL ls) (colN ls : Nat) = (ls.map (padL (colN ls)), 0)) := parse_page HA.out H24.out hl8 _ (by omega) HCN.out
      have HM := Lib.hid (parse_more HA.out H24.out hl8 ms (by rw [← HQ.out]; omega))
      have HC := Lib.hid (parse_cols (pageL ls))
      obtain ⟨ys, er, hR⟩ : ∃ ys er, parseB (pageL ls ++ ms) 300 = (ys, er) := ⟨_, _, rfl⟩
      rw [hR] at HM
      have HR1 := Lib.hid HM.out.1
      have HR2 := Lib.hid HM.out.2
      simp only at HR1 HR2
      have KP0 : Hid (∀ W, Sees w W → Calls Tryz.prog 12 #[.slice a n cp, .string (strL (pageL ls)), .int .i64 0] W fun e w' => e = .returned (.bool true) ∧ Sees W w') := fun W hs => by
        have h := pages_read _ ls (pageL ls) 0 _ W (HW.out.sees hs) (H.out.sees hs) (by omega) HB.out
        rw [HPK.out] at h
        exact h.mono fun e W' ⟨he, s⟩ => ⟨he.trans (by simp), s⟩
      have KQ : Hid (∀ u W, Sees w W → lnEl.Rd (fun _ => True) W u (ls.map (padL (colN ls))) → Calls Tryz.prog 10 #[.string (strL (pageL ls)), .int .i64 (colN ls : Nat), u, .int .i64 0] W fun e w' => e = .returned (.bool true) ∧ Sees W w') := fun u W hs hr => by
        have h := parses_any (pageL ls) (colN ls : Nat) _ u _ 0 W (HW.out.sees hs) (by omega) hr (by rw [List.length_map]; omega)
        rw [HE0.out] at h
        exact h.mono fun e W' ⟨he, s⟩ => ⟨he.trans (by simp), s⟩
      have KQ1 : Hid (∀ W, Sees w W → Calls Tryz.prog 10 #[.string (strL (pageL ls)), .int .i64 (-1), .slice none 0 0, .int .i64 2] W fun e w' => e = .returned (.bool true) ∧ Sees W w') := fun W hs => by
        have h := parses_any (pageL ls) (-1) (fun _ => True) (.slice none 0 0) [] 2 W (HW.out.sees hs) (by omega) (El.Rd.nil _ _) (by simp)
        rw [HC.out.1] at h
        exact h.mono fun e W' ⟨he, s⟩ => ⟨he.trans (by simp), s⟩
      have KQ2 : Hid (∀ W, Sees w W → Calls Tryz.prog 10 #[.string (strL (pageL ls)), .int .i64 1001, .slice none 0 0, .int .i64 2] W fun e w' => e = .returned (.bool true) ∧ Sees W w') := fun W hs => by
        have h := parses_any (pageL ls) 1001 (fun _ => True) (.slice none 0 0) [] 2 W (HW.out.sees hs) (by omega) (El.Rd.nil _ _) (by simp)
        rw [HC.out.2] at h
        exact h.mono fun e W' ⟨he, s⟩ => ⟨he.trans (by simp), s⟩
      have KR : Hid (∀ W, Sees w W → Calls Tryz.prog 14 #[.string (strL (pageL ls) ++ strL ms), .int .i64 300] W fun e w' => ParseP W (ys, er) e w') := fun W hs => by
        rw [strL_app, ← hR]
        exact parse_any (pageL ls ++ ms) 300 W (HW.out.sees hs) (by rw [List.length_append, ← HQ.out]; omega)
      have hps : (strL (pageL ls)).size ≤ 8272 := by rw [strL_size]; exact hPz2
      obtain ⟨N, hN⟩ : ∃ N, N = colN ls := ⟨_, rfl⟩
      obtain ⟨PG, hP⟩ : ∃ P, P = pageL ls := ⟨_, rfl⟩
      rw [← hN] at KQ hN24 HCN ⊢
      rw [← hP] at KP0 KQ KQ1 KQ2 KR HR2 hps ⊢
      clear hall hN hP hR hPz hPz2 HE0 HM HC HPK HOK hlt hk H24 HA S0
      go_wp2
      go_loopw [8, 9] (fun v i W => ∃ k : Nat, k ≤ n ∧ i = .int .i64 k ∧ lnEl.Own (fun b => wl.heap.size ≤ b) W v ((ls.take k).map (padL N)) ∧ Sees wl W) (fun _ i _ => n - (intOf i).toNat)
      case atStart => exact ⟨0, Nat.zero_le _, rfl, El.Own.nil _ _, Sees.refl _⟩
      case round =>
        obtain ⟨k, hk, rfl, hO, hS⟩ := hrel
        by_cases hlt : k < n
        · obtain ⟨b1, o1, x, a1, m1, rfl, _, hx, hc1, x1, x2, x3⟩ := (H.out.sees (HSl.out.trans hS)).line hlt
          have HX := Lib.hid hx
          have HXB := Lib.hid (HB.out x (List.mem_of_getElem? hx))
          obtain ⟨n1, hn1⟩ : ∃ n1, n1 = x.cells.length := ⟨_, rfl⟩
          rw [← hn1] at x1 x3 hc1
          have HN1 := Lib.hid hn1
          have X3 := Lib.hid x3
          have hle : n1 ≤ N := by rw [hn1]; exact HCN.out x (List.mem_of_getElem? hx)
          obtain ⟨au, cu, hu, _⟩ := hO.slice
          rw [List.length_map, List.length_take, Nat.min_eq_left (by rw [← HN.out]; omega)] at hu
          subst hu
          obtain ⟨wo, rfl⟩ : ∃ x, x = wr := ⟨_, rfl⟩
          have OW0 := Lib.hid hO.cut
          have HSl := Lib.hid hS
          clear hx hn1 x3 hO hS KP0 KQ KQ1 KQ2 KR HR1 HR2
          go_upto_region 18 with fail
          refine wpH_go (fun _ => False) 14 (by kernel_rfl) (by kernel_rfl) (by rfl) (fun hB v0 hs9 => ?_)
          have hS0 : Keeps (fun _ => False) v0 v0 := Keeps.refl _ v0
          have SV := Lib.hid hs9
          have SVl := Lib.hid (HSl.out.trans hs9)
          have OW := Lib.hid (OW0.out.sees hs9)
          have C0 := Lib.hid (hs9.cell x1)
          have C1 := Lib.hid (hs9.cell x2)
          clear hs9 x1 x2 OW0
          refine wpH_take (i := 0) (v := .slice (some ⟨b1, o1, none⟩) n cp) hB (by rfl) (by kernel_rfl) (fun _ _ _ _ _ h => h) (by rfl) hS0 (fun W hI => by clear hI; go_simp) ?_; (try simp only [Act.put, List.setIfInBounds_toArray, List.set_cons_zero, List.set_cons_succ])
          refine wpH_take (i := 1) (v := .int .i64 (k : Int)) hB (by rfl) (by kernel_rfl) (fun _ _ _ _ _ h => h) (by rfl) hS0 (fun W hI => by clear hI; go_simp) ?_; (try simp only [Act.put, List.setIfInBounds_toArray, List.set_cons_zero, List.set_cons_succ])
          refine wpH_take (i := 2) (v := .pointer (some ⟨b1, o1 + k * 2, none⟩)) hB (by rfl) (by kernel_rfl) (fun _ _ _ _ _ h => h) (by rfl) hS0 (fun W hI => by clear hI; go_simp) ?_; (try simp only [Act.put, List.setIfInBounds_toArray, List.set_cons_zero, List.set_cons_succ])
          refine wpH_take (i := 3) (v := .pointer (some ⟨b1, o1 + k * 2, none⟩)) hB (by rfl) (by kernel_rfl) (fun _ _ _ _ _ h => h) (by rfl) hS0 (fun W hI => by clear hI; go_simp) ?_; (try simp only [Act.put, List.setIfInBounds_toArray, List.set_cons_zero, List.set_cons_succ])
          refine wpH_take (i := 4) (v := .slice a1 n1 m1) hB (by rfl) (by kernel_rfl) (fun _ _ _ _ _ h => h) (by rfl) hS0 (fun W hI => by have z0 := hI.cell (fun h => h) C0.out; clear hI; go_simp) ?_; (try simp only [Act.put, List.setIfInBounds_toArray, List.set_cons_zero, List.set_cons_succ])
          refine wpH_take (i := 6) (v := .slice (some ⟨b1, o1, none⟩) n cp) hB (by rfl) (by kernel_rfl) (fun _ _ _ _ _ h => h) (by rfl) hS0 (fun W hI => by clear hI; go_simp) ?_; (try simp only [Act.put, List.setIfInBounds_toArray, List.set_cons_zero, List.set_cons_succ])
          refine wpH_take (i := 7) (v := .int .i64 (k : Int)) hB (by rfl) (by kernel_rfl) (fun _ _ _ _ _ h => h) (by rfl) hS0 (fun W hI => by clear hI; go_simp) ?_; (try simp only [Act.put, List.setIfInBounds_toArray, List.set_cons_zero, List.set_cons_succ])
          refine wpH_take (i := 8) (v := .pointer (some ⟨b1, o1 + k * 2, none⟩)) hB (by rfl) (by kernel_rfl) (fun _ _ _ _ _ h => h) (by rfl) hS0 (fun W hI => by clear hI; go_simp) ?_; (try simp only [Act.put, List.setIfInBounds_toArray, List.set_cons_zero, List.set_cons_succ])
          refine wpH_take (i := 9) (v := .pointer (some ⟨b1, o1 + k * 2 + 1, none⟩)) hB (by rfl) (by kernel_rfl) (fun _ _ _ _ _ h => h) (by rfl) hS0 (fun W hI => by clear hI; go_simp) ?_; (try simp only [Act.put, List.setIfInBounds_toArray, List.set_cons_zero, List.set_cons_succ])
          refine wpH_take (i := 10) (v := .bool x.soft) hB (by rfl) (by kernel_rfl) (fun _ _ _ _ _ h => h) (by rfl) hS0 (fun W hI => by have z0 := hI.cell (fun h => h) C1.out; clear hI; go_simp) ?_; (try simp only [Act.put, List.setIfInBounds_toArray, List.set_cons_zero, List.set_cons_succ])
          refine wpH_two (i := 5) (j := 12) (by kernel_rfl) ?_ ?_
          · obtain ⟨v7, w7, ha7, ho7, hk7, _⟩ := El.run_append_row typedCell 25 (El.Row.nil (E := cellEl) v0.heap.size (fun _ => True) v0) (.slice a1 n1 m1) x.cells ((X3.out.sees (SV.out.trans (hS0.sees_end (fun _ _ h => h)))).all) (fun b _ e => by cases e) (by have h1 := HN1.out; rw [List.length_nil]; omega) (Nat.le_refl _)
            rw [List.nil_append] at ho7
            have o7 := cell_row_own ho7
            have hS0 := hS0.trans (hk7.mono fun b _ e => by cases e)
            obtain ⟨a7, c7, hv7, _⟩ := o7.slice
            rw [← HN1.out] at hv7
            subst hv7
            have sap : Sees v0 w7 := hk7.sees_end (fun g hg e => by cases e)
            refine wpOp_val (v := .slice a7 n1 c7) (w' := w7) (by rfl) (wanted_none (by rfl) _) (exec_append (v := .slice none 0 0) (u := .slice a1 n1 m1) rfl (by clear ha7; go_simp) (by clear ha7; go_simp) ha7) ⟨hS0, ?_⟩
            (try simp only [Act.put, List.setIfInBounds_toArray, List.set_cons_zero, List.set_cons_succ])
            refine wpH_take (i := 11) (v := .agg #[.slice a7 n1 c7, .bool x.soft]) hB (by rfl) (by kernel_rfl) (fun _ _ _ _ _ h => h) (by rfl) hS0 (fun W hI => by clear hI; go_simp) ?_; (try simp only [Act.put, List.setIfInBounds_toArray, List.set_cons_zero, List.set_cons_succ])
            obtain ⟨bx, hbx⟩ : ∃ b, b = w7.heap.size := ⟨_, rfl⟩
            obtain ⟨x1, hnew⟩ : ∃ x, x = w7.alloc (.cells #[.slice none 0 0, .bool false] 27) := ⟨_, rfl⟩
            have sal : Sees w7 x1 := by rw [hnew]; exact (Sees.refl w7).alloc _
            have lz : LnAt x1 bx (.slice none 0 0) false := by rw [hnew, hbx]; exact LnAt.new rfl
            have hbz : v0.heap.size ≤ bx := by have := hS0.size; omega
            have hS0 := hS0.trans (Keeps.of_sees (F := fun _ => False) sal)
            refine wpH_one (i := 12) (by kernel_rfl) (wpOp_val (v := .pointer (some ⟨bx, 0, none⟩)) (w' := x1) (by rfl) (wanted_none (by rfl) _) (by rw [hbx, hnew]; exact exec_alloc_ln rfl) ⟨hS0, ?_⟩)
            (try simp only [Act.put, List.setIfInBounds_toArray, List.set_cons_zero, List.set_cons_succ])
            have lz2 : LnAt x1 bx (.slice none 0 0) false := lz
            have hst := run_storeLn (u := .slice a7 n1 c7) (so' := x.soft) lz2 rfl
            obtain ⟨x9, hx9⟩ : ∃ x9, x9 = x1.setRow bx #[.slice a7 n1 c7, .bool x.soft] := ⟨_, rfl⟩
            have hS9 : Keeps (fun _ => False) v0 x9 := by rw [hx9]; exact Keeps.setRow' hS0 hbz _
            have hl9 : LnAt x9 bx (.slice a7 n1 c7) x.soft := by rw [hx9]; exact setRow_heap _ _ _ _ _ _ lz2
            have ho9 : cellEl.Own (fun b => v0.heap.size ≤ b ∧ b ≠ bx) x9 (.slice a7 n1 c7) x.cells := by rw [hx9]; exact ((o7.mono (fun b hb h => (⟨h, by omega⟩ : v0.heap.size ≤ b ∧ b ≠ bx))).sees sal).keeps (Keeps.setRowF (F := fun y => y = bx) (Keeps.refl _ x1) rfl _) (fun b hb e => hb.2 e)
            rw [← hx9] at hst
            refine wpH_one (i := 13) (by kernel_rfl) (wpOp_skip (w' := x9) (by rfl) (wanted_none (by rfl) _) (exec_store (a := .pointer (some ⟨bx, 0, none⟩)) (v := .agg #[.slice a7 n1 c7, .bool x.soft]) rfl (by clear hst; go_simp) (by clear hst; go_simp) hst) ⟨hS9, ?_⟩)
            (try simp only [Act.put, List.setIfInBounds_toArray, List.set_cons_zero, List.set_cons_succ])
            refine wpH_end (by kernel_rfl) ?_
            have HL9 := Lib.hid hl9
            have HO9 := Lib.hid ho9
            have HZ9 : Hid (bx < x9.heap.size) := (Array.getElem?_eq_some_iff.1 hl9).1
            have HVZ := Lib.hid hbz
            have HV0 : Hid (Sees v0 x9) := hS9.sees_end (fun _ _ h => h)
            clear hS0 hS9 hl9 ho9 lz lz2 hst hx9 sal sap hB ho7 hk7 ha7 o7 hnew hbx hbz
            go_wp2
            go_loopw [] (fun W => ∃ (j : Nat) (a8 : Option Addr) (c8 : Nat), n1 + j ≤ N ∧ LnAt W bx (.slice a8 (n1 + j) c8) x.soft ∧ cellEl.Own (fun b => v0.heap.size ≤ b ∧ b ≠ bx) W (.slice a8 (n1 + j) c8) (x.cells ++ List.replicate j blankC) ∧ Sees v0 W) (fun W => N - lenAt W bx)
            case atStart => exact ⟨0, a7, c7, by omega, HL9.out, by simpa using HO9.out, HV0.out⟩
            case round =>
              obtain ⟨j, a8, c8, hj, hL, hO, hV⟩ := hrel
              obtain ⟨l0, l1⟩ := hL.c
              have LL := Lib.hid hL
              have OO := Lib.hid hO
              have VV := Lib.hid hV
              clear hL hO hV
              by_cases hlt2 : n1 + j < N
              · have hin : ((n1 + j : Nat) : Int) < N := by omega
                have HRW := Lib.hid (heap_alloc_new wr (.cells blankC.vals.toArray 42))
                have sal : Sees wr (wr.alloc (.cells blankC.vals.toArray 42)) := (Sees.refl wr).alloc _
                have HO6 := Lib.hid (OO.out.cut.sees sal)
                have hlen : (x.cells ++ List.replicate j blankC).length = n1 + j := by have h1 := HN1.out; rw [List.length_append, List.length_replicate]; omega
                obtain ⟨v7, w7, ha7, ho7, hk7⟩ := El.run_append_own typedCell 25 HO6.out ⟨wr.heap.size, 0, none⟩ 1 1 blankC.vals [blankC] (fun _ => False) (El.ownIn_one (E := cellEl) rfl) rfl (fun j u hu => El.row_cells HRW.out j u hu) (fun b hb => by have := sal.size; omega) (fun b hb => hb.elim) (by rw [hlen, List.length_singleton]; omega)
                obtain ⟨a9, c9, hv9, _⟩ := ho7.slice
                have hl2 : (x.cells ++ List.replicate j blankC ++ [blankC]).length = n1 + (j + 1) := by rw [List.length_append, hlen]; rfl
                rw [hl2] at hv9
                subst hv9
                have hrep : x.cells ++ List.replicate j blankC ++ [blankC] = x.cells ++ List.replicate (j + 1) blankC := by rw [List.append_assoc, ← List.replicate_succ']
                rw [hrep] at ho7
                have L7 : Hid (LnAt w7 bx (.slice a8 (n1 + j) c8) x.soft) := (LL.out.sees sal).keeps hk7 (fun e => (((HO6.out.base e).1).1).2 rfl)
                have V7 : Hid (Sees v0 w7) := El.keep_new (VV.out.trans sal) hk7 (fun g hg => (((HO6.out.base hg).1).1).1)
                have O7 : Hid (cellEl.Own (fun b => v0.heap.size ≤ b ∧ b ≠ bx) w7 (.slice a9 (n1 + (j + 1)) c9) (x.cells ++ List.replicate (j + 1) blankC)) := ho7.mono fun b _ hb => by
                  have hz := VV.out.size
                  have hbx := (Array.getElem?_eq_some_iff.1 LL.out).1
                  rcases hb with hb | hb | hb
                  · exact hb.1
                  · exact hb.elim
                  · rw [World.size_alloc] at hb
                    exact ⟨by omega, by omega⟩
                have HA7 := Lib.hid ha7
                clear ha7 ho7 hk7 HO6 sal hlen hl2 hrep HRW OO
                go_wp2_with (first
                  | (guard_target = wpList _ _ _ ({ dst := some 88, op := _, type := _, pos := _, after := _, guard := _ } :: _) _ _; refine wpList_val rfl (exec_buildL (vals := [(2, .int .i64 1)]) (v := blankC.val) rfl rfl (by kernel_rfl)) (fun K hK => ?_); go_simp; refine hK _ _ ?_; clear hK K)
                  | (guard_target = wpList _ _ _ ({ dst := some 89, op := _, type := _, pos := _, after := _, guard := _ } :: _) _ _; refine wpList_val rfl (exec_sliceL (vals := [(0, blankC.val)]) rfl rfl (run_buildOne blankC _)) (fun K hK => ?_); go_simp; refine hK _ _ ?_; clear hK K)
                  | (guard_target = wpList _ _ _ ({ dst := some 90, op := _, type := _, pos := _, after := _, guard := _ } :: _) _ _; refine wpList_val rfl (exec_append (v := .slice a8 (n1 + j) c8) (u := .slice (some ⟨wr.heap.size, 0, none⟩) 1 1) rfl (by go_simp) (by go_simp) HA7.out) (fun K hK => ?_); go_simp; refine hK _ _ ?_; clear hK K)
                  | (guard_target = wpList _ _ _ ({ dst := none, op := _, type := _, pos := _, after := _, guard := _ } :: _) _ _; refine wpList_skip rfl (exec_store (v := .slice a9 (n1 + (j + 1)) c9) rfl rfl rfl (run_storeCs L7.out a9 (n1 + (j + 1)) c9)) (fun K hK => ?_); go_simp; refine hK _ _ ?_; clear hK K))
                go_roundw
                case rel => exact ⟨j + 1, a9, c9, by omega, heap_setCell_same _ _ _ _ _ _ L7.out, O7.out.keeps (Keeps.setCell (F := fun y => y = bx) (Keeps.refl _ w7) (p := ⟨bx, 0, none⟩) (fun _ => rfl) _) (fun b hb e => hb.2 e), V7.out.setCell (p := ⟨bx, 0, none⟩) HVZ.out _⟩
                case measure =>
                  have e1 : lenAt wr bx = n1 + j := lenAt_of l0
                  have h9 : LnAt (w7.setCell ⟨bx, 0, none⟩ (.slice a9 (n1 + (j + 1)) c9)) bx (.slice a9 (n1 + (j + 1)) c9) x.soft := heap_setCell_same _ _ 0 _ _ (.slice a9 (n1 + (j + 1)) c9) L7.out
                  have e2 : lenAt (w7.setCell ⟨bx, 0, none⟩ (.slice a9 (n1 + (j + 1)) c9)) bx = n1 + (j + 1) := lenAt_of h9.c.1
                  rw [e1, e2]; omega
              · have hNj : n1 + j = N := by omega
                rw [hNj] at LL OO l0
                have hpad : (⟨x.cells ++ List.replicate j blankC, x.soft⟩ : Ln) = padL N x := by unfold padL; rw [← HN1.out, show N - n1 = j by omega]
                have HNW : Hid ((ls.take (k + 1)).map (padL N) = (ls.take k).map (padL N) ++ [⟨x.cells ++ List.replicate j blankC, x.soft⟩]) := Lib.hid (by rw [hpad, List.take_add_one, HX.out]; simp)
                have SX : Hid (Sees wr (wr.alloc (.cells #[.slice a8 N c8, .bool x.soft] 27))) := Lib.hid ((Sees.refl wr).alloc _)
                have HRW := Lib.hid (heap_alloc_new wr (.cells #[.slice a8 N c8, .bool x.soft] 27))
                have HOA := Lib.hid ((OW.out.sees VV.out).sees SX.out)
                have HON := Lib.hid (OO.out.cut.sees SX.out)
                have HSX := Lib.hid ((SVl.out.trans VV.out).trans SX.out)
                have HF1 : Hid (∀ b, ((wl.heap.size ≤ b ∧ b < wo.heap.size)) → b < (wr.alloc (.cells #[.slice a8 N c8, .bool x.soft] 27)).heap.size) := Lib.hid (fun b hb => by have h1 := SV.out.size; have h2 := VV.out.size; have h3 := SX.out.size; omega)
                have HF2 : Hid (∀ b, ((v0.heap.size ≤ b ∧ b ≠ bx) ∧ b < wr.heap.size) → b < (wr.alloc (.cells #[.slice a8 N c8, .bool x.soft] 27)).heap.size ∧ ¬ (wl.heap.size ≤ b ∧ b < wo.heap.size)) := Lib.hid (fun b hb => ⟨by have h3 := SX.out.size; omega, fun h => by have h1 := SV.out.size; omega⟩)
                have HF3 : Hid (((ls.take k).map (padL N)).length + [(⟨x.cells ++ List.replicate j blankC, x.soft⟩ : Ln)].length ≤ 100000000) := Lib.hid (by rw [List.length_map, List.length_take, List.length_singleton]; omega)
                clear hpad hj
                go_wp2_with (first
                  | (guard_target = wpList _ _ _ ({ dst := some 93, op := _, type := _, pos := _, after := _, guard := _ } :: _) _ _; refine wpList_val rfl (exec_load (v := .agg #[.slice a8 N c8, .bool x.soft]) rfl rfl (run_loadLn LL.out)) (fun K hK => ?_); go_simp; refine hK _ _ ?_; clear hK K)
                  | (guard_target = wpList _ _ _ ({ dst := some 95, op := _, type := _, pos := _, after := _, guard := _ } :: _) _ _; refine El.wpList_append_own (v := .slice au k cu) typedLn rfl (.tmp 92) (.tmp 94) rfl (by go_simp) HOA.out ⟨wr.heap.size, 0, none⟩ 1 1 (by go_simp) [.slice a8 N c8, .bool x.soft] [⟨x.cells ++ List.replicate j blankC, x.soft⟩] _ (El.ownIn_one (E := lnEl) ⟨_, rfl, HON.out⟩) rfl (fun j u hu => El.row_cells HRW.out j u hu) HF1.out HF2.out HF3.out ?_; intro v9 w9 ho9 hk9; have HO9' := Lib.hid ho9; have HK9 := Lib.hid hk9; clear ho9 hk9))
                have hS9 : Sees wl w9 := El.keep_new HSX.out HK9.out (fun g hg => ((HOA.out.base hg).1).1)
                have hO9 : lnEl.Own (fun b => wl.heap.size ≤ b) w9 v9 ((ls.take k).map (padL N) ++ [⟨x.cells ++ List.replicate j blankC, x.soft⟩]) := HO9'.out.mono fun b _ hb => by
                  have h1 := SVl.out.size
                  have h2 := HSX.out.size
                  rcases hb with hb | hb | hb
                  · exact hb.1
                  · have := hb.1.1; omega
                  · omega
                rw [← HNW.out] at hO9
                have HO10 := Lib.hid hO9
                have HS10 := Lib.hid hS9
                clear hS9 hO9
                go_wp2
                go_roundw
                case rel => exact ⟨k + 1, by omega, by go_num, HO10.out, HS10.out⟩
                case measure => simp [intOf]; omega
          · obtain ⟨bx, hbx⟩ : ∃ b, b = v0.heap.size := ⟨_, rfl⟩
            obtain ⟨x1, hnew⟩ : ∃ x, x = v0.alloc (.cells #[.slice none 0 0, .bool false] 27) := ⟨_, rfl⟩
            have sal : Sees v0 x1 := by rw [hnew]; exact (Sees.refl v0).alloc _
            have lz : LnAt x1 bx (.slice none 0 0) false := by rw [hnew, hbx]; exact LnAt.new rfl
            have hbz : v0.heap.size ≤ bx := by have := hS0.size; omega
            have hS0 := hS0.trans (Keeps.of_sees (F := fun _ => False) sal)
            refine wpOp_val (v := .pointer (some ⟨bx, 0, none⟩)) (w' := x1) (by rfl) (wanted_none (by rfl) _) (by rw [hbx, hnew]; exact exec_alloc_ln rfl) ⟨hS0, ?_⟩
            (try simp only [Act.put, List.setIfInBounds_toArray, List.set_cons_zero, List.set_cons_succ])
            obtain ⟨v7, w7, ha7, ho7, hk7, _⟩ := El.run_append_row typedCell 25 (El.Row.nil (E := cellEl) x1.heap.size (fun _ => True) x1) (.slice a1 n1 m1) x.cells ((X3.out.sees (SV.out.trans (hS0.sees_end (fun _ _ h => h)))).all) (fun b _ e => by cases e) (by have h1 := HN1.out; rw [List.length_nil]; omega) (Nat.le_refl _)
            rw [List.nil_append] at ho7
            have o7 := cell_row_own ho7
            have hS0 := hS0.trans (hk7.mono fun b _ e => by cases e)
            obtain ⟨a7, c7, hv7, _⟩ := o7.slice
            rw [← HN1.out] at hv7
            subst hv7
            have sap : Sees x1 w7 := hk7.sees_end (fun g hg e => by cases e)
            refine wpH_one (i := 5) (by kernel_rfl) (wpOp_val (v := .slice a7 n1 c7) (w' := w7) (by rfl) (wanted_none (by rfl) _) (exec_append (v := .slice none 0 0) (u := .slice a1 n1 m1) rfl (by clear ha7; go_simp) (by clear ha7; go_simp) ha7) ⟨hS0, ?_⟩)
            (try simp only [Act.put, List.setIfInBounds_toArray, List.set_cons_zero, List.set_cons_succ])
            refine wpH_take (i := 11) (v := .agg #[.slice a7 n1 c7, .bool x.soft]) hB (by rfl) (by kernel_rfl) (fun _ _ _ _ _ h => h) (by rfl) hS0 (fun W hI => by clear hI; go_simp) ?_; (try simp only [Act.put, List.setIfInBounds_toArray, List.set_cons_zero, List.set_cons_succ])
            have lz2 : LnAt w7 bx (.slice none 0 0) false := lz.sees sap
            have hst := run_storeLn (u := .slice a7 n1 c7) (so' := x.soft) lz2 rfl
            obtain ⟨x9, hx9⟩ : ∃ x9, x9 = w7.setRow bx #[.slice a7 n1 c7, .bool x.soft] := ⟨_, rfl⟩
            have hS9 : Keeps (fun _ => False) v0 x9 := by rw [hx9]; exact Keeps.setRow' hS0 hbz _
            have hl9 : LnAt x9 bx (.slice a7 n1 c7) x.soft := by rw [hx9]; exact setRow_heap _ _ _ _ _ _ lz2
            have ho9 : cellEl.Own (fun b => v0.heap.size ≤ b ∧ b ≠ bx) x9 (.slice a7 n1 c7) x.cells := by rw [hx9]; exact (o7.mono (fun b hb h => (⟨by have := sal.size; omega, by have h2 : x1.heap.size ≤ b := h; have h3 := (Array.getElem?_eq_some_iff.1 lz).1; omega⟩ : v0.heap.size ≤ b ∧ b ≠ bx))).keeps (Keeps.setRowF (F := fun y => y = bx) (Keeps.refl _ w7) rfl _) (fun b hb e => hb.2 e)
            rw [← hx9] at hst
            refine wpH_one (i := 13) (by kernel_rfl) (wpOp_skip (w' := x9) (by rfl) (wanted_none (by rfl) _) (exec_store (a := .pointer (some ⟨bx, 0, none⟩)) (v := .agg #[.slice a7 n1 c7, .bool x.soft]) rfl (by clear hst; go_simp) (by clear hst; go_simp) hst) ⟨hS9, ?_⟩)
            (try simp only [Act.put, List.setIfInBounds_toArray, List.set_cons_zero, List.set_cons_succ])
            refine wpH_end (by kernel_rfl) ?_
            have HL9 := Lib.hid hl9
            have HO9 := Lib.hid ho9
            have HZ9 : Hid (bx < x9.heap.size) := (Array.getElem?_eq_some_iff.1 hl9).1
            have HVZ := Lib.hid hbz
            have HV0 : Hid (Sees v0 x9) := hS9.sees_end (fun _ _ h => h)
            clear hS0 hS9 hl9 ho9 lz lz2 hst hx9 sal sap hB ho7 hk7 ha7 o7 hnew hbx hbz
            go_wp2
            go_loopw [] (fun W => ∃ (j : Nat) (a8 : Option Addr) (c8 : Nat), n1 + j ≤ N ∧ LnAt W bx (.slice a8 (n1 + j) c8) x.soft ∧ cellEl.Own (fun b => v0.heap.size ≤ b ∧ b ≠ bx) W (.slice a8 (n1 + j) c8) (x.cells ++ List.replicate j blankC) ∧ Sees v0 W) (fun W => N - lenAt W bx)
            case atStart => exact ⟨0, a7, c7, by omega, HL9.out, by simpa using HO9.out, HV0.out⟩
            case round =>
              obtain ⟨j, a8, c8, hj, hL, hO, hV⟩ := hrel
              obtain ⟨l0, l1⟩ := hL.c
              have LL := Lib.hid hL
              have OO := Lib.hid hO
              have VV := Lib.hid hV
              clear hL hO hV
              by_cases hlt2 : n1 + j < N
              · have hin : ((n1 + j : Nat) : Int) < N := by omega
                have HRW := Lib.hid (heap_alloc_new wr (.cells blankC.vals.toArray 42))
                have sal : Sees wr (wr.alloc (.cells blankC.vals.toArray 42)) := (Sees.refl wr).alloc _
                have HO6 := Lib.hid (OO.out.cut.sees sal)
                have hlen : (x.cells ++ List.replicate j blankC).length = n1 + j := by have h1 := HN1.out; rw [List.length_append, List.length_replicate]; omega
                obtain ⟨v7, w7, ha7, ho7, hk7⟩ := El.run_append_own typedCell 25 HO6.out ⟨wr.heap.size, 0, none⟩ 1 1 blankC.vals [blankC] (fun _ => False) (El.ownIn_one (E := cellEl) rfl) rfl (fun j u hu => El.row_cells HRW.out j u hu) (fun b hb => by have := sal.size; omega) (fun b hb => hb.elim) (by rw [hlen, List.length_singleton]; omega)
                obtain ⟨a9, c9, hv9, _⟩ := ho7.slice
                have hl2 : (x.cells ++ List.replicate j blankC ++ [blankC]).length = n1 + (j + 1) := by rw [List.length_append, hlen]; rfl
                rw [hl2] at hv9
                subst hv9
                have hrep : x.cells ++ List.replicate j blankC ++ [blankC] = x.cells ++ List.replicate (j + 1) blankC := by rw [List.append_assoc, ← List.replicate_succ']
                rw [hrep] at ho7
                have L7 : Hid (LnAt w7 bx (.slice a8 (n1 + j) c8) x.soft) := (LL.out.sees sal).keeps hk7 (fun e => (((HO6.out.base e).1).1).2 rfl)
                have V7 : Hid (Sees v0 w7) := El.keep_new (VV.out.trans sal) hk7 (fun g hg => (((HO6.out.base hg).1).1).1)
                have O7 : Hid (cellEl.Own (fun b => v0.heap.size ≤ b ∧ b ≠ bx) w7 (.slice a9 (n1 + (j + 1)) c9) (x.cells ++ List.replicate (j + 1) blankC)) := ho7.mono fun b _ hb => by
                  have hz := VV.out.size
                  have hbx := (Array.getElem?_eq_some_iff.1 LL.out).1
                  rcases hb with hb | hb | hb
                  · exact hb.1
                  · exact hb.elim
                  · rw [World.size_alloc] at hb
                    exact ⟨by omega, by omega⟩
                have HA7 := Lib.hid ha7
                clear ha7 ho7 hk7 HO6 sal hlen hl2 hrep HRW OO
                go_wp2_with (first
                  | (guard_target = wpList _ _ _ ({ dst := some 88, op := _, type := _, pos := _, after := _, guard := _ } :: _) _ _; refine wpList_val rfl (exec_buildL (vals := [(2, .int .i64 1)]) (v := blankC.val) rfl rfl (by kernel_rfl)) (fun K hK => ?_); go_simp; refine hK _ _ ?_; clear hK K)
                  | (guard_target = wpList _ _ _ ({ dst := some 89, op := _, type := _, pos := _, after := _, guard := _ } :: _) _ _; refine wpList_val rfl (exec_sliceL (vals := [(0, blankC.val)]) rfl rfl (run_buildOne blankC _)) (fun K hK => ?_); go_simp; refine hK _ _ ?_; clear hK K)
                  | (guard_target = wpList _ _ _ ({ dst := some 90, op := _, type := _, pos := _, after := _, guard := _ } :: _) _ _; refine wpList_val rfl (exec_append (v := .slice a8 (n1 + j) c8) (u := .slice (some ⟨wr.heap.size, 0, none⟩) 1 1) rfl (by go_simp) (by go_simp) HA7.out) (fun K hK => ?_); go_simp; refine hK _ _ ?_; clear hK K)
                  | (guard_target = wpList _ _ _ ({ dst := none, op := _, type := _, pos := _, after := _, guard := _ } :: _) _ _; refine wpList_skip rfl (exec_store (v := .slice a9 (n1 + (j + 1)) c9) rfl rfl rfl (run_storeCs L7.out a9 (n1 + (j + 1)) c9)) (fun K hK => ?_); go_simp; refine hK _ _ ?_; clear hK K))
                go_roundw
                case rel => exact ⟨j + 1, a9, c9, by omega, heap_setCell_same _ _ _ _ _ _ L7.out, O7.out.keeps (Keeps.setCell (F := fun y => y = bx) (Keeps.refl _ w7) (p := ⟨bx, 0, none⟩) (fun _ => rfl) _) (fun b hb e => hb.2 e), V7.out.setCell (p := ⟨bx, 0, none⟩) HVZ.out _⟩
                case measure =>
                  have e1 : lenAt wr bx = n1 + j := lenAt_of l0
                  have h9 : LnAt (w7.setCell ⟨bx, 0, none⟩ (.slice a9 (n1 + (j + 1)) c9)) bx (.slice a9 (n1 + (j + 1)) c9) x.soft := heap_setCell_same _ _ 0 _ _ (.slice a9 (n1 + (j + 1)) c9) L7.out
                  have e2 : lenAt (w7.setCell ⟨bx, 0, none⟩ (.slice a9 (n1 + (j + 1)) c9)) bx = n1 + (j + 1) := lenAt_of h9.c.1
                  rw [e1, e2]; omega
              · have hNj : n1 + j = N := by omega
                rw [hNj] at LL OO l0
                have hpad : (⟨x.cells ++ List.replicate j blankC, x.soft⟩ : Ln) = padL N x := by unfold padL; rw [← HN1.out, show N - n1 = j by omega]
                have HNW : Hid ((ls.take (k + 1)).map (padL N) = (ls.take k).map (padL N) ++ [⟨x.cells ++ List.replicate j blankC, x.soft⟩]) := Lib.hid (by rw [hpad, List.take_add_one, HX.out]; simp)
                have SX : Hid (Sees wr (wr.alloc (.cells #[.slice a8 N c8, .bool x.soft] 27))) := Lib.hid ((Sees.refl wr).alloc _)
                have HRW := Lib.hid (heap_alloc_new wr (.cells #[.slice a8 N c8, .bool x.soft] 27))
                have HOA := Lib.hid ((OW.out.sees VV.out).sees SX.out)
                have HON := Lib.hid (OO.out.cut.sees SX.out)
                have HSX := Lib.hid ((SVl.out.trans VV.out).trans SX.out)
                have HF1 : Hid (∀ b, ((wl.heap.size ≤ b ∧ b < wo.heap.size)) → b < (wr.alloc (.cells #[.slice a8 N c8, .bool x.soft] 27)).heap.size) := Lib.hid (fun b hb => by have h1 := SV.out.size; have h2 := VV.out.size; have h3 := SX.out.size; omega)
                have HF2 : Hid (∀ b, ((v0.heap.size ≤ b ∧ b ≠ bx) ∧ b < wr.heap.size) → b < (wr.alloc (.cells #[.slice a8 N c8, .bool x.soft] 27)).heap.size ∧ ¬ (wl.heap.size ≤ b ∧ b < wo.heap.size)) := Lib.hid (fun b hb => ⟨by have h3 := SX.out.size; omega, fun h => by have h1 := SV.out.size; omega⟩)
                have HF3 : Hid (((ls.take k).map (padL N)).length + [(⟨x.cells ++ List.replicate j blankC, x.soft⟩ : Ln)].length ≤ 100000000) := Lib.hid (by rw [List.length_map, List.length_take, List.length_singleton]; omega)
                clear hpad hj
                go_wp2_with (first
                  | (guard_target = wpList _ _ _ ({ dst := some 93, op := _, type := _, pos := _, after := _, guard := _ } :: _) _ _; refine wpList_val rfl (exec_load (v := .agg #[.slice a8 N c8, .bool x.soft]) rfl rfl (run_loadLn LL.out)) (fun K hK => ?_); go_simp; refine hK _ _ ?_; clear hK K)
                  | (guard_target = wpList _ _ _ ({ dst := some 95, op := _, type := _, pos := _, after := _, guard := _ } :: _) _ _; refine El.wpList_append_own (v := .slice au k cu) typedLn rfl (.tmp 92) (.tmp 94) rfl (by go_simp) HOA.out ⟨wr.heap.size, 0, none⟩ 1 1 (by go_simp) [.slice a8 N c8, .bool x.soft] [⟨x.cells ++ List.replicate j blankC, x.soft⟩] _ (El.ownIn_one (E := lnEl) ⟨_, rfl, HON.out⟩) rfl (fun j u hu => El.row_cells HRW.out j u hu) HF1.out HF2.out HF3.out ?_; intro v9 w9 ho9 hk9; have HO9' := Lib.hid ho9; have HK9 := Lib.hid hk9; clear ho9 hk9))
                have hS9 : Sees wl w9 := El.keep_new HSX.out HK9.out (fun g hg => ((HOA.out.base hg).1).1)
                have hO9 : lnEl.Own (fun b => wl.heap.size ≤ b) w9 v9 ((ls.take k).map (padL N) ++ [⟨x.cells ++ List.replicate j blankC, x.soft⟩]) := HO9'.out.mono fun b _ hb => by
                  have h1 := SVl.out.size
                  have h2 := HSX.out.size
                  rcases hb with hb | hb | hb
                  · exact hb.1
                  · have := hb.1.1; omega
                  · omega
                rw [← HNW.out] at hO9
                have HO10 := Lib.hid hO9
                have HS10 := Lib.hid hS9
                clear hS9 hO9
                go_wp2
                go_roundw
                case rel => exact ⟨k + 1, by omega, by go_num, HO10.out, HS10.out⟩
                case measure => simp [intOf]; omega
        · obtain rfl : k = n := by omega
          rw [List.take_of_length_le (by rw [← HN.out]; exact Nat.le_refl _)] at hO
          have S0 := Lib.hid (HSl.out.trans hS)
          have HRD := Lib.hid hO.rd.all
          obtain ⟨au, cu, hu, _⟩ := hO.slice
          subst hu
          obtain ⟨q2, hq2⟩ : ∃ q2, q2 = (ls.map (padL N)).length := ⟨_, rfl⟩
          rw [← hq2] at HRD ⊢
          clear hO hq2 hlt hk
          go_wp2_with fail
          refine (KP0.out _ S0.out).mono ?_
          rintro e W1 ⟨rfl, s1⟩
          have S1 := Lib.hid (S0.out.trans s1)
          have RD1 := Lib.hid (HRD.out.sees s1)
          clear s1 KP0
          go_wp2_with fail
          refine (KQ.out _ _ S1.out RD1.out).mono ?_
          rintro e W2 ⟨rfl, s2⟩
          have S2 := Lib.hid (S1.out.trans s2)
          clear s2 KQ
          go_wp2_with fail
          refine (KQ1.out _ S2.out).mono ?_
          rintro e W3 ⟨rfl, s3⟩
          have S3 := Lib.hid (S2.out.trans s3)
          clear s3 KQ1
          go_wp2_with fail
          refine (KQ2.out _ S3.out).mono ?_
          rintro e W4 ⟨rfl, s4⟩
          have S4 := Lib.hid (S3.out.trans s4)
          clear s4 KQ2
          go_wp2_with fail
          refine (KR.out _ S4.out).mono ?_
          rintro e W5 ⟨v5, rfl, ho5, s5⟩
          have S5 := Lib.hid (S4.out.trans s5)
          have RD5 := Lib.hid ho5.all
          obtain ⟨a5, c5, hu5, _⟩ := ho5.slice'
          subst hu5
          simp only at RD5 ⊢
          clear s5 ho5 KR
          obtain ⟨q5, hq5⟩ : ∃ q5, q5 = ys.length := ⟨_, rfl⟩
          rw [← hq5] at RD5 ⊢
          have HQ5 := Lib.hid hq5
          clear hq5
          by_cases her : er = 0
          · subst her
            obtain ⟨p1, p2, p3, p4⟩ := HR2.out rfl
            have KY : Hid (∀ W, Sees W5 W → Calls Tryz.prog 12 #[.slice a5 q5 c5, .string (strL PG ++ strL ms), .int .i64 0] W fun e w' => e = .returned (.bool true) ∧ Sees W w') := fun W hs => by
              have h := pages_read (.slice a5 q5 c5) ys (PG ++ ms) 0 _ W (HW.out.sees (S5.out.trans hs)) (RD5.out.sees hs) p3 p4
              rw [p1] at h
              simp only [if_true] at h
              rw [p2, ← strL_app] at h
              exact h.mono fun e W' ⟨he, s⟩ => ⟨he.trans (by simp), s⟩
            clear p1 p2 p3 p4
            go_wp2_with fail
            refine (KY.out _ (Sees.refl _)).mono ?_
            rintro e W6 ⟨rfl, s6⟩
            have S6 := Lib.hid (S5.out.trans s6)
            clear s6 KY
            go_wp2_with fail
            refine (KN.out _ S6.out).mono ?_
            rintro e Wk ⟨rfl, sk⟩
            have Sk := Lib.hid (S6.out.trans sk)
            go_wp2
            go_ret
            exact ⟨rfl, Sk.out⟩
          · have g7 : (er != 0) = true := by simpa using her
            obtain ⟨p1, p2⟩ := HR1.out her
            obtain ⟨rfl, rfl⟩ := Prod.mk.inj p1
            obtain rfl : q5 = 0 := HQ5.out
            have hmz : strL ms ≠ (⟨#[]⟩ : ByteArray) := fun e => p2 (by have := congrArg (fun b : ByteArray => b.data.toList) e; simpa [strL] using this)
            have g8 : decide (strL ms = (⟨#[]⟩ : ByteArray)) = false := decide_eq_false hmz
            have hl0 : (strL ms).toList = ms := by rw [ByteArray.toList_eq, strL_list]
            have e1 : ((strL ms).toList == []) = false := by rw [hl0]; simpa using p2
            have e2 : (strL ms).toList.isEmpty = false := by rw [hl0]; simpa using p2
            have e3 : ((strL ms).toList == (⟨#[]⟩ : ByteArray).toList) = false := by rw [hl0, ByteArray.toList_eq]; simpa using p2
            have e4 : ¬ (strL ms).toList = [] := by rw [hl0]; exact p2
            clear hl0
            clear p1 p2 her
            go_wp2_with fail
            refine (KN.out _ S5.out).mono ?_
            rintro e Wk ⟨rfl, sk⟩
            have Sk := Lib.hid (S5.out.trans sk)
            go_wp2
            go_ret
            exact ⟨rfl, Sk.out⟩
end Go.Proofs.YthcndmchlpohpaaGreatDoor
