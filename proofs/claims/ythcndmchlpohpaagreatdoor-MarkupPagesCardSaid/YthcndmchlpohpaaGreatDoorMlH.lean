/- markup.Page; the statement's pages (48). The library's variables hold what the program's text lays. -/
import Derived.Test.YthcndmchlpohpaaGreatDoorMlG
namespace Go.Proofs.YthcndmchlpohpaaGreatDoor
set_option linter.unusedVariables false
set_option linter.unusedSimpArgs false
open Go.RowKit Go.Shelf
attribute [local go_sem] Oper.semAt_some

/-- The text of lines; what Page answers. -/
def pageL (ls : List Ln) : List UInt8 := ls.flatMap fun x => mkL x.cells x.soft ++ [10]
def pageOk (ls : List Ln) : Bool := ls.all fun x => lnOk x.cells
theorem pageL_step {ls : List Ln} {k : Nat} {x : Ln} (h : ls[k]? = some x) : pageL (ls.take (k + 1)) = pageL (ls.take k) ++ (mkL x.cells x.soft ++ [10]) := by
  unfold pageL
  rw [flat_step _ h]
theorem mkL_len' {cs : List Cell} (h : lnOk cs = true) (so : Bool) : (mkL cs so).length ≤ 43001 := by
  have h0 : cs.length ≤ 1000 := by unfold lnOk at h; simp at h; exact h.1
  unfold mkL
  have h1 := mkFrom_len none (cs.take (usedN cs))
  have h2 : (cs.take (usedN cs)).length ≤ cs.length := by rw [List.length_take]; omega
  rw [List.length_append]
  split
  · simp only [List.length_singleton]; omega
  · simp only [List.length_nil]; omega
theorem pageOk_take {ls : List Ln} {k : Nat} (h : pageOk (ls.take k) = true) {x : Ln} (hx : ls[k]? = some x) (hv : lnOk x.cells = true) : pageOk (ls.take (k + 1)) = true := by
  unfold pageOk at *
  rw [List.take_add_one, hx, Option.toList_some, List.all_append, h]
  simpa using hv
theorem pageL_len : ∀ (ls : List Ln), pageOk ls = true → (pageL ls).length ≤ ls.length * 43002
  | [], _ => by simp [pageL]
  | x :: ls, h => by
    unfold pageOk at h
    rw [List.all_cons, Bool.and_eq_true] at h
    have ih := pageL_len ls h.2
    have h1 := mkL_len' h.1 x.soft
    unfold pageL at ih ⊢
    rw [List.flatMap_cons, List.length_append, List.length_append]
    simp only [List.length_cons, List.length_nil]
    omega
set_option maxHeartbeats 2000000 in
set_option maxRecDepth 100000 in
theorem page_read (v : Value) (ls : List Ln) (F : Nat → Prop) (w : World) (hw : Sd w) (h : lnEl.Rd F w v ls) (hn : ls.length ≤ 20000) (hbd : ∀ x ∈ ls, ∀ c ∈ x.cells, c.Bd) :
    Calls Tryz.prog 25 #[v] w fun e w' => e = .returned (.tuple #[.string (strL (if pageOk ls then pageL ls else [])), .int .i64 (if pageOk ls then 0 else 2)]) ∧ Sees w w' := by
  obtain ⟨a, cp, rfl, hcp⟩ := h.slice'
  obtain ⟨n, hnn⟩ : ∃ n, n = ls.length := ⟨_, rfl⟩
  rw [← hnn] at h hn hcp ⊢
  have H := Lib.hid h
  have HN := Lib.hid hnn
  have HW := Lib.hid hw
  have HB := Lib.hid hbd
  have B0 := Lib.hid (BuSt.start w)
  obtain ⟨Z1, hZ1⟩ : ∃ Z1, Z1 = strL (if pageOk ls then pageL ls else []) := ⟨_, rfl⟩
  obtain ⟨Z2, hZ2⟩ : ∃ Z2 : Int, Z2 = (if pageOk ls then 0 else 2) := ⟨_, rfl⟩
  rw [← hZ1, ← hZ2]
  have HZ1 := Lib.hid hZ1
  have HZ2 := Lib.hid hZ2
  obtain ⟨W1, hW1⟩ : ∃ W1, W1 = w.alloc (.cells #[.pointer none, .slice none 0 0] 80) := ⟨_, rfl⟩
  rw [← hW1] at B0
  have HW1 := Lib.hid hW1
  clear h hnn hw hbd hW1 hZ1 hZ2
  go_enter Tryz.func25, Tryz.ntmps25
  go_upto_region 2 with fail
  rw [← HW1.out]
  go_wp2
  go_loopw [11] (fun i W => ∃ k : Nat, k ≤ n ∧ i = .int .i64 k ∧ pageOk (ls.take k) = true ∧ BuSt w (pageL (ls.take k)) W) (fun i _ => n - (intOf i).toNat)
  case atStart => exact ⟨0, Nat.zero_le _, rfl, rfl, B0.out⟩
  case round =>
    obtain ⟨k, hk, rfl, hok, hB⟩ := hrel
    have HOK := Lib.hid hok
    have HBu := Lib.hid hB
    clear hok hB
    by_cases hlt : k < n
    · obtain ⟨b1, o1, x, a1, m1, rfl, _, hx, _, x1, x2, x3⟩ := (H.out.sees HBu.out.s).line hlt
      have X3 := Lib.hid x3
      have hxm := List.mem_of_getElem? hx
      have hxb := HB.out x hxm
      have hst := pageL_step hx
      have hlen := pageL_len _ HOK.out
      have htl : (ls.take k).length ≤ 20000 := by rw [List.length_take, ← HN.out]; omega
      have hxx := fun (h : lnOk x.cells = true) => pageOk_take HOK.out hx h
      have HXX := Lib.hid hxx
      have HST := Lib.hid hst
      have HX := Lib.hid hx
      generalize h1 : x.cells.length = n1 at *
      have H1 := Lib.hid h1
      obtain ⟨P, hP⟩ : ∃ P, P = pageL (ls.take k) := ⟨_, rfl⟩
      rw [← hP] at HBu hlen HST
      have hPz : P.length ≤ 900000000 := by omega
      have KM : Hid (∀ W, Sees wr W → Calls Tryz.prog 32 #[.agg #[.slice a1 n1 m1, .bool x.soft]] W fun e w' => e = .returned (.tuple #[.string (strL (if lnOk x.cells then mkL x.cells x.soft else [])), .int .i64 (if lnOk x.cells then 0 else 2)]) ∧ Sees W w') := fun W hs =>
        markup_read _ x.cells x.soft _ W (HW.out.sees (HBu.out.s.trans hs)) (X3.out.sees hs) hxb
      obtain ⟨lk, hlk⟩ : ∃ lk, lk = lnOk x.cells := ⟨_, rfl⟩
      rw [← hlk] at KM HXX
      have HLK := Lib.hid hlk
      have LX : Hid (LnAt (wr.alloc (.cells #[.slice a1 n1 m1, .bool x.soft] 27)) wr.heap.size (.slice a1 n1 m1) x.soft) := LnAt.new rfl
      have SX : Hid (Sees wr (wr.alloc (.cells #[.slice a1 n1 m1, .bool x.soft] 27))) := (Sees.refl wr).alloc _
      clear x3 hst hx hlen htl hxx h1 hxb hlk hP hxm H
      go_upto_region 5 with fail
      refine wp_world fun W2 hW2 => ?_
      rw [← hW2] at LX SX
      have B2 := Lib.hid (HBu.out.sees SX.out)
      clear hW2 x1 x2 HBu
      go_wp2_with (guard_target = wpList _ _ _ ({ dst := some 16, op := _, type := _, pos := _, after := _, guard := _ } :: _) _ _; refine wpList_val rfl (exec_load (v := .agg #[.slice a1 n1 m1, .bool x.soft]) rfl rfl (run_loadLn LX.out)) (fun K hK => ?_); go_simp; refine hK _ _ ?_; clear hK K)
      refine (KM.out _ SX.out).mono ?_
      rintro e W3 ⟨rfl, s3⟩
      have B3 := Lib.hid (B2.out.sees s3)
      clear s3 KM B2 SX LX
      cases lk with
      | false =>
        have hbad : pageOk ls = false := by
          unfold pageOk
          rw [List.all_eq_false]
          exact ⟨x, List.mem_of_getElem? HX.out, by rw [← HLK.out]; simp⟩
        have HBAD := Lib.hid hbad
        clear hbad
        go_wp2
        go_ret2
        exact ⟨by rw [HZ1.out, HZ2.out, HBAD.out]; rfl, B3.out.s⟩
      | true =>
        obtain ⟨M, hM⟩ : ∃ M, M = mkL x.cells x.soft := ⟨_, rfl⟩
        have hMz : M.length ≤ 43001 := by rw [hM]; exact mkL_len' HLK.out.symm _
        rw [← hM] at HST ⊢
        have hMs : (strL M).size ≤ 43001 := by rw [strL_size]; exact hMz
        have KW : Hid (∀ W, BuSt w P W → Calls Tryz.prog 37 #[.pointer (some ⟨w.heap.size, 0, none⟩), .string (strL M ++ ⟨#[10]⟩)] W fun e W' => ∃ x y, e = .returned (.tuple #[x, y]) ∧ BuSt w (P ++ (M ++ [10])) W') := fun W hW => by
          rw [show (⟨#[10]⟩ : ByteArray) = strL [10] from rfl, strL_app]
          exact hW.write _ (by rw [List.length_append, List.length_singleton]; omega)
        simp only [if_true]
        clear hM
        go_wp2_with fail
        refine (KW.out _ B3.out).mono ?_
        rintro e W4 ⟨r3, r4, rfl, hB4⟩
        rw [← HST.out] at hB4
        have B4 := Lib.hid hB4
        clear hB4 B3 KW
        go_wp2
        go_roundw
        case rel => exact ⟨k + 1, by omega, by go_num, HXX.out trivial, B4.out⟩
        case measure => simp [intOf]; omega
    · obtain rfl : k = n := by omega
      have hall : ls.take k = ls := List.take_of_length_le (by rw [← HN.out]; exact Nat.le_refl _)
      rw [hall] at HOK HBu
      have KS : Hid (∀ W, BuSt w (pageL ls) W → Calls Tryz.prog 38 #[.pointer (some ⟨w.heap.size, 0, none⟩)] W fun e W' => e = .returned (.string (strL (pageL ls))) ∧ Sees w W') := fun W hW => hW.string
      clear hall hlt H
      go_wp2_with fail
      refine (KS.out _ HBu.out).mono ?_
      rintro e W4 ⟨rfl, s4⟩
      have S4 := Lib.hid s4
      clear s4 KS HBu
      go_wp2
      go_ret2
      exact ⟨by rw [HZ1.out, HZ2.out, HOK.out]; rfl, S4.out⟩
set_option maxHeartbeats 1000000 in
/-- pages is true where Page answers what is wanted. -/
theorem pages_read (v : Value) (ls : List Ln) (want : List UInt8) (no : Int) (F : Nat → Prop) (w : World) (hw : Sd w) (h : lnEl.Rd F w v ls) (hn : ls.length ≤ 20000) (hbd : ∀ x ∈ ls, ∀ c ∈ x.cells, c.Bd) :
    Calls Tryz.prog 12 #[v, .string (strL want), .int .i64 no] w fun e w' => e = .returned (.bool (decide ((if pageOk ls then pageL ls else []) = want) && ((if pageOk ls then 0 else 2 : Int) == no))) ∧ Sees w w' := by
  have KP : Hid (∀ W, Sees w W → Calls Tryz.prog 25 #[v] W fun e w' => e = .returned (.tuple #[.string (strL (if pageOk ls then pageL ls else [])), .int .i64 (if pageOk ls then 0 else 2)]) ∧ Sees W w') := fun W hs => page_read v ls F W (hw.sees hs) (h.sees hs) hn hbd
  obtain ⟨M, hM⟩ : ∃ M, M = (if pageOk ls then pageL ls else []) := ⟨_, rfl⟩
  obtain ⟨E, hE⟩ : ∃ E : Int, E = (if pageOk ls then 0 else 2) := ⟨_, rfl⟩
  rw [← hM, ← hE] at KP ⊢
  obtain ⟨a, cp, rfl, hcp⟩ := h.slice'
  obtain ⟨n, hnn⟩ : ∃ n, n = ls.length := ⟨_, rfl⟩
  rw [← hnn] at KP ⊢
  have heq : ((strL M).toList == (strL want).toList) = decide (M = want) := by
    rw [ByteArray.toList_eq, ByteArray.toList_eq, strL_list, strL_list]
    rw [Bool.eq_iff_iff]; simp
  obtain ⟨z, hz⟩ : ∃ z, z = decide (M = want) := ⟨_, rfl⟩
  rw [← hz] at heq ⊢
  clear hM hE hnn hz h hcp hw hn hbd
  go_enter Tryz.func12, Tryz.ntmps12
  go_wp2_with fail
  refine (KP.out _ (Sees.refl _)).mono ?_
  rintro e W2 ⟨rfl, s2⟩
  have S2 := Lib.hid s2
  clear s2 KP
  cases z with
  | false =>
    go_wp2
    go_ret
    exact ⟨rfl, S2.out⟩
  | true =>
    go_wp2
    go_ret
    exact ⟨rfl, S2.out⟩
theorem pages_any (v : Value) (ls : List Ln) (want : List UInt8) (no : Int) (F : Nat → Prop) (w : World) (hw : Sd w) (h : lnEl.Rd F w v ls) (hn : ls.length ≤ 20000) (_hnc : ∀ x ∈ ls, x.cells.length ≤ 1000000) (hbd : ∀ x ∈ ls, ∀ c ∈ x.cells, c.Bd) :
    Calls Tryz.prog 12 #[v, .string (strL want), .int .i64 no] w fun e w' => e = .returned (.bool (decide ((if pageOk ls then pageL ls else []) = want) && ((if pageOk ls then 0 else 2 : Int) == no))) ∧ Sees w w' := pages_read v ls want no F w hw h hn hbd
end Go.Proofs.YthcndmchlpohpaaGreatDoor
