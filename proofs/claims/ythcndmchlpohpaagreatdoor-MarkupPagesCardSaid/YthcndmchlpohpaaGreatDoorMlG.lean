/- The law's markup of a line that there may be (48): the same. No condition. -/
import Derived.Test.YthcndmchlpohpaaGreatDoorMlE
namespace Go.Proofs.YthcndmchlpohpaaGreatDoor
set_option linter.unusedVariables false
set_option linter.unusedSimpArgs false
open Go.RowKit Go.Shelf
attribute [local go_sem] Oper.semAt_some

def lastP : Option (List Int) → List Cell → Option (List Int)
  | p, [] => p
  | _, c :: cs => lastP (some (penOf c)) cs
def tagP (p : Option (List Int)) (c : Cell) : List UInt8 := if p = some (penOf c) then [] else 91 :: (tagsL c ++ [93])
theorem mkFrom_snoc (c : Cell) : ∀ (cs : List Cell) (p : Option (List Int)), mkFrom p (cs ++ [c]) = mkFrom p cs ++ (tagP (lastP p cs) c ++ mkC c)
  | [], p => by by_cases h : p = some (penOf c) <;> simp [mkFrom, lastP, tagP, h]
  | d :: cs, p => by rw [List.cons_append, mkFrom, mkFrom, mkFrom_snoc c cs, lastP]; simp [List.append_assoc]
theorem lastP_snoc (d : Cell) : ∀ (cs : List Cell) (p : Option (List Int)), lastP p (cs ++ [d]) = some (penOf d)
  | [], _ => rfl
  | _ :: cs, _ => lastP_snoc d cs _
theorem mk_step {cs : List Cell} {k : Nat} {c : Cell} (h : cs[k]? = some c) : mkFrom none (cs.take (k + 1)) = mkFrom none (cs.take k) ++ (tagP (lastP none (cs.take k)) c ++ mkC c) := by
  rw [List.take_add_one, h, Option.toList_some, mkFrom_snoc]
theorem last_at {cs : List Cell} {k : Nat} {d : Cell} (h : cs[k]? = some d) : lastP none (cs.take (k + 1)) = some (penOf d) := by
  rw [List.take_add_one, h, Option.toList_some, lastP_snoc]
theorem tagP_len (p : Option (List Int)) (c : Cell) : (tagP p c).length ≤ 26 := by
  have := tagsL_len c
  unfold tagP
  split
  · simp
  · simp; omega
theorem strL_esc (P x : List UInt8) : strL (P ++ 92 :: x) = strL P ++ (⟨#[92]⟩ : ByteArray) ++ strL x := by
  rw [show (⟨#[92]⟩ : ByteArray) = strL [92] from rfl, strL_app, strL_app]
  simp
/-- What is written of a cell behind its tag: three ways. -/
theorem mk_ways {c : Cell} (h : c.valid = true) : ((c.rune == 0) = true ∧ (c.width == 1) = true ∧ mkC c = [95]) ∨
    ((c.rune == 0) = true ∧ (c.width == 1) = false ∧ (c.rune == 92) = false ∧ (c.rune == 91) = false ∧ (c.rune == 93) = false ∧ (c.rune == 95) = false ∧ mkC c = c.txt) ∨
    ((c.rune == 0) = false ∧ (c.rune == 92) = true ∧ mkC c = 92 :: c.txt) ∨
    ((c.rune == 0) = false ∧ (c.rune == 92) = false ∧ (c.rune == 91) = true ∧ mkC c = 92 :: c.txt) ∨
    ((c.rune == 0) = false ∧ (c.rune == 92) = false ∧ (c.rune == 91) = false ∧ (c.rune == 93) = true ∧ mkC c = 92 :: c.txt) ∨
    ((c.rune == 0) = false ∧ (c.rune == 92) = false ∧ (c.rune == 91) = false ∧ (c.rune == 93) = false ∧ (c.rune == 95) = true ∧ mkC c = 92 :: c.txt) ∨
    ((c.rune == 0) = false ∧ (c.rune == 92) = false ∧ (c.rune == 91) = false ∧ (c.rune == 93) = false ∧ (c.rune == 95) = false ∧ mkC c = c.txt) := by
  have hz : c.rune = 0 → c.width = 0 ∨ c.width = 1 := fun e => by
    unfold Cell.valid at h
    rw [if_pos e] at h
    simp only [Bool.and_eq_true, Bool.or_eq_true, beq_iff_eq] at h
    exact h.2.1
  unfold mkC escB
  by_cases h0 : c.rune = 0
  · rcases hz h0 with hw | hw
    · simp [h0, hw]
    · simp [h0, hw]
  · by_cases h1 : c.rune = 92
    · simp [h1]
    · by_cases h2 : c.rune = 91
      · simp [h2]
      · by_cases h3 : c.rune = 93
        · simp [h3]
        · by_cases h4 : c.rune = 95
          · simp [h4]
          · simp [h0, h1, h2, h3, h4]
set_option maxHeartbeats 4000000 in
set_option maxRecDepth 100000 in
theorem marked_any (v : Value) (cs : List Cell) (so : Bool) (F : Nat → Prop) (w : World) (h : cellEl.Rd F w v cs) (hok : lnOk cs = true) (hbd : ∀ c ∈ cs, c.Bd) :
    Calls Tryz.prog 13 #[.agg #[v, .bool so]] w fun e w' => e = .returned (.string (strL (mkL cs so))) ∧ Sees w w' := by
  have hn : cs.length ≤ 1000 := by unfold lnOk at hok; simp at hok; exact hok.1
  have KU := Lib.hid (fun W (hs : Sees w W) => used_any v ⟨cs, so⟩ F W (h.sees hs) (by show cs.length ≤ _; omega))
  obtain ⟨a, cp, rfl, hcp⟩ := h.slice'
  obtain ⟨n, hnn⟩ : ∃ n, n = cs.length := ⟨_, rfl⟩
  obtain ⟨U, hU⟩ : ∃ U, U = usedN cs := ⟨_, rfl⟩
  have hUn : U ≤ n := by rw [hU, hnn]; exact usedN_le _
  have hfin : mkL cs so = mkFrom none (cs.take U) ++ (if so then [92] else []) := by unfold mkL; rw [hU]
  simp only at KU
  rw [← hnn] at h hn hcp KU ⊢
  rw [← hU] at KU
  have H := Lib.hid h
  have HN := Lib.hid hnn
  have HF := Lib.hid hfin
  have HV : Hid (∀ c ∈ cs, c.valid = true) := fun c hc => ok_valid hok hc
  have HB := Lib.hid hbd
  have HZ : Hid (∀ k, (mkFrom none (cs.take k)).length ≤ 43000) := fun k => by
    have h1 := mkFrom_len none (cs.take k)
    have h2 : (cs.take k).length ≤ 1000 := by rw [List.length_take, ← hnn]; omega
    omega
  have L0 : Hid (LnAt (w.alloc (.cells #[.slice a n cp, .bool so] 27)) w.heap.size (.slice a n cp) so) := LnAt.new rfl
  have S0 : Hid (Sees w (w.alloc (.cells #[.slice a n cp, .bool so] 27))) := (Sees.refl w).alloc _
  obtain ⟨W1, hW1⟩ : ∃ W1, W1 = w.alloc (.cells #[.slice a n cp, .bool so] 27) := ⟨_, rfl⟩
  rw [← hW1] at L0 S0
  have HW1 := Lib.hid hW1
  clear h hU hnn hok hbd hfin hW1
  go_enter Tryz.func13, Tryz.ntmps13
  go_upto_region 1 with fail
  rw [← HW1.out]
  go_wp2
  go_loopw [3, 4] (fun o i W => ∃ k : Nat, k ≤ U ∧ i = .int .i64 k ∧ o = .string (strL (mkFrom none (cs.take k))) ∧ Sees W1 W) (fun _ i _ => U - (intOf i).toNat)
  case atStart => exact ⟨0, Nat.zero_le _, rfl, rfl, Sees.refl _⟩
  case round =>
    obtain ⟨i, hi, rfl, rfl, hS⟩ := hrel
    have L1 := Lib.hid (L0.out.sees hS)
    have S1 := Lib.hid (S0.out.trans hS)
    go_wp2_with (guard_target = wpList _ _ _ ({ dst := _, op := Op.load 27 _, type := _, pos := _, after := _, guard := _ } :: _) _ _; refine wpList_val rfl (exec_load (v := .agg #[.slice a n cp, .bool so]) rfl rfl (run_loadLn L1.out)) (fun K hK => ?_); go_simp; refine hK _ _ ?_; clear hK K)
    refine (KU.out _ S1.out).mono ?_
    rintro e W2 ⟨rfl, s2⟩
    have L2 := Lib.hid (L1.out.sees s2)
    have S2 := Lib.hid (S1.out.trans s2)
    have SW2 := Lib.hid (hS.trans s2)
    clear s2 hS L1 S1
    by_cases hlt : i < U
    · obtain ⟨b, o, c, rfl, _, hc, hat0⟩ := H.out.cell (show i < n by omega)
      have hat := hat0.sees S2.out
      have hval := HV.out c (List.mem_of_getElem? hc)
      have hcb := HB.out c (List.mem_of_getElem? hc)
      have hst := mk_step hc
      have hz := HZ.out (i + 1)
      obtain ⟨P, hP⟩ : ∃ P, P = mkFrom none (cs.take i) := ⟨_, rfl⟩
      obtain ⟨T, hT⟩ : ∃ T, T = tagP (lastP none (cs.take i)) c := ⟨_, rfl⟩
      rw [← hP, ← hT] at hst
      rw [← hP]
      have hPz : (strL P).size ≤ 43000 := by rw [strL_size, hP]; exact HZ.out i
      have HST := Lib.hid hst
      have KT : Hid (∀ W, Calls Tryz.prog 17 #[c.pen] W fun e w' => e = .returned (.string (strL (tagsL c))) ∧ Sees W w') := fun W => ltags_any c hcb W
      have KC : Hid (∀ W, Calls Tryz.prog 23 #[c.val] W fun e w' => e = .returned (.string (strL c.txt)) ∧ Sees W w') := fun W => ctext_any c W
      have hzc : (strL c.txt).size ≤ 16 := by rw [strL_size]; exact c.txt_len
      have hzt : (strL (tagsL c)).size ≤ 24 := by rw [strL_size]; exact tagsL_len c
      have HWY := Lib.hid (mk_ways hval)
      have HP := Lib.hid hP
      clear hst hval hcb hP hz
      obtain ⟨l0, l1⟩ := L2.out.c
      go_upto_region 6 with (first
        | (guard_target = wpList _ _ _ ({ dst := _, op := Op.load 42 _, type := _, pos := _, after := _, guard := _ } :: _) _ _; refine wpList_val rfl (exec_load (v := c.val) rfl rfl (run_loadCell hat)) (fun K hK => ?_); go_simp; refine hK _ _ ?_; clear hK K)
        | (guard_target = wpList _ _ _ ({ dst := _, op := Op.store 42 _ _, type := _, pos := _, after := _, guard := _ } :: _) _ _; refine wpList_skip rfl (exec_store (v := c.val) rfl rfl rfl (run_storeNew c _ rfl _ rfl)) (fun K hK => ?_); go_simp; refine hK _ _ ?_; clear hK K))
      refine wp_world fun W3 hW3 => ?_
      have C3 : CellAt W3 W2.heap.size 0 c := by subst hW3; exact cellAt_new _ c _
      have s3 : Sees W2 W3 := by subst hW3; exact (Sees.refl _).alloc _
      have L3 := Lib.hid (L2.out.sees s3)
      have S3 := Lib.hid (S2.out.trans s3)
      have SW3 := Lib.hid (SW2.out.trans s3)
      have HC3 := Lib.hid C3
      clear hW3 hat hat0 s3 C3 l0 l1 L2 S2 SW2 L0 S0
      have hj : T = [] ∨ T = 91 :: (tagsL c ++ [93]) := by rw [hT]; unfold tagP; split; exact .inl rfl; exact .inr rfl
      have HJ : Hid (∀ W4 (Z : List UInt8), Z = P ++ T → Sees W3 W4 → True) := fun _ _ _ _ => trivial
      rcases hj with hT0 | hT1
      · obtain ⟨m, rfl⟩ : ∃ m, i = m + 1 := by
          rcases Nat.eq_zero_or_pos i with h0 | h0
          · rw [h0] at hT
            rw [hT0] at hT
            unfold tagP at hT
            rw [if_neg (by simp [lastP])] at hT
            cases hT
          · exact ⟨i - 1, by omega⟩
        obtain ⟨b2, o2, p, e0, _, hp, hatp0⟩ := H.out.cell (show m < n by omega)
        cases e0
        have hpe : penOf p = penOf c := by
          have e1 := last_at hp
          rw [e1] at hT
          unfold tagP at hT
          by_cases e2 : penOf p = penOf c
          · exact e2
          · rw [if_neg (by simpa using e2), hT0] at hT; cases hT
        have HPA := Lib.hid (hatp0.sees S3.out)
        have hs1 : IntKind.i64.wrap ((m : Int) + 1 - 1) = m := by rw [IntWalk.i64_in _ (by omega)]; omega
        have hb0 : (((m : Int) + 1) == 0) = false := by simp; omega
        obtain ⟨l0, l1⟩ := L3.out.c
        have g0 := fun d os => (sees_grow W3 d os).cell l0
        clear l0 l1 hp hatp0 hT
        refine wp_region_quiet_below (by kernel_rfl) (by kernel_rfl) ?_
        repeat (first | go_big_quiet_skip | (go_big_quiet_want; go_big_quiet_op; go_big_quiet_on))
        go_big_quiet_want; refine quiet_run (p).pen (fun W hW => exec_load rfl rfl (run_loadPen (HPA.out.sees (regrown_sees hW)))) ?_; simp only [Act.put, List.setIfInBounds_toArray, List.set_cons_zero, List.set_cons_succ]; go_big_quiet_on
        repeat (first | go_big_quiet_skip | (go_big_quiet_want; go_big_quiet_op; go_big_quiet_on))
        go_big_quiet_want; refine quiet_run (c).pen (fun W hW => exec_load rfl rfl (run_loadPen ((HC3.out.sees (regrown_sees hW))))) ?_; simp only [Act.put, List.setIfInBounds_toArray, List.set_cons_zero, List.set_cons_succ]; go_big_quiet_on
        go_big_quiet_want; refine quiet_run (.bool false) (fun W hW => exec_bin rfl rfl rfl (guard_neqPen _ _ p c W) (by have := run_neqPen p c W; rw [penEq_of, decide_eq_true hpe] at this; exact this)) ?_; simp only [Act.put, List.setIfInBounds_toArray, List.set_cons_zero, List.set_cons_succ]; go_big_quiet_on
        repeat (first | go_big_quiet_skip | (go_big_quiet_want; go_big_quiet_op; go_big_quiet_on))
        refine wpQuiet_nil ?_; intro w2 hw2'; have hw2 := regrown_sees hw2'; clear hw2'
        have HC4 := Lib.hid (HC3.out.sees hw2)
        have SW4 := Lib.hid (SW3.out.trans hw2)
        clear hw2 g0 HC3 SW3 L3 S3 HPA hs1 hb0 hpe
        have HY : Hid (P ++ T = P) := by unfold RowKit.Hid; rw [hT0, List.append_nil]
        obtain ⟨f0, _, _, _, f4, _⟩ := HC4.out.all
        clear hT0
        rcases HWY.out with ⟨g0, g1, hm⟩ | ⟨g0, g1, g2, g3, g4, g5, hm⟩ | ⟨g0, g1, hm⟩ | ⟨g0, g1, g2, hm⟩ | ⟨g0, g1, g2, g3, hm⟩ | ⟨g0, g1, g2, g3, g4, hm⟩ | ⟨g0, g1, g2, g3, g4, hm⟩
        · have HM := Lib.hid hm
          clear hm KC KT HWY
          go_wp2
          go_roundw
          case rel => exact ⟨m + 1 + 1, by omega, by go_num, by rw [HST.out, HM.out, ← List.append_assoc, HY.out, ← strL_app]; rfl, SW4.out⟩
          case measure => simp [intOf]; omega
        · have HM := Lib.hid hm
          clear hm KT HWY
          go_wp2_with (guard_target = wpList _ _ _ ({ dst := _, op := Op.load 42 _, type := _, pos := _, after := _, guard := _ } :: _) _ _; refine wpList_val rfl (exec_load (v := c.val) rfl rfl (run_loadCell HC4.out)) (fun K hK => ?_); go_simp; refine hK _ _ ?_; clear hK K)
          refine (KC.out _).mono ?_
          rintro e W8 ⟨rfl, s8⟩
          have S8 := Lib.hid (SW4.out.trans s8)
          clear s8 f0 f4 HC4 KC
          go_wp2
          go_roundw
          case rel => exact ⟨m + 1 + 1, by omega, by go_num, by rw [HST.out, HM.out, ← List.append_assoc, HY.out, ← strL_app], S8.out⟩
          case measure => simp [intOf]; omega
        iterate 4
          · have HM := Lib.hid hm
            clear hm KT HWY
            go_wp2_with (guard_target = wpList _ _ _ ({ dst := _, op := Op.load 42 _, type := _, pos := _, after := _, guard := _ } :: _) _ _; refine wpList_val rfl (exec_load (v := c.val) rfl rfl (run_loadCell HC4.out)) (fun K hK => ?_); go_simp; refine hK _ _ ?_; clear hK K)
            refine (KC.out _).mono ?_
            rintro e W8 ⟨rfl, s8⟩
            have S8 := Lib.hid (SW4.out.trans s8)
            clear s8 f0 f4 HC4 KC
            go_wp2
            go_roundw
            case rel => exact ⟨m + 1 + 1, by omega, by go_num, by rw [HST.out, HM.out, ← List.append_assoc, HY.out, ← strL_esc], S8.out⟩
            case measure => simp [intOf]; omega
        · have HM := Lib.hid hm
          clear hm KT HWY
          go_wp2_with (guard_target = wpList _ _ _ ({ dst := _, op := Op.load 42 _, type := _, pos := _, after := _, guard := _ } :: _) _ _; refine wpList_val rfl (exec_load (v := c.val) rfl rfl (run_loadCell HC4.out)) (fun K hK => ?_); go_simp; refine hK _ _ ?_; clear hK K)
          refine (KC.out _).mono ?_
          rintro e W8 ⟨rfl, s8⟩
          have S8 := Lib.hid (SW4.out.trans s8)
          clear s8 f0 f4 HC4 KC
          go_wp2
          go_roundw
          case rel => exact ⟨m + 1 + 1, by omega, by go_num, by rw [HST.out, HM.out, ← List.append_assoc, HY.out, ← strL_app], S8.out⟩
          case measure => simp [intOf]; omega
      · rcases Nat.eq_zero_or_pos i with h0 | h0
        · subst h0
          obtain ⟨q0, hq0⟩ : ∃ q0 : Nat, q0 = 0 := ⟨_, rfl⟩
          refine wp_region_quiet_below (by kernel_rfl) (by kernel_rfl) ?_
          repeat (first | go_big_quiet_skip | (go_big_quiet_want; go_big_quiet_op; go_big_quiet_on))
          refine wpQuiet_nil ?_; intro w2 hw2'; have hw2 := regrown_sees hw2'; clear hw2'
          have HC4 := Lib.hid (HC3.out.sees hw2)
          have SW4 := Lib.hid (SW3.out.trans hw2)
          clear hw2 HC3 SW3 L3 S3 hq0
          have hYs : strL P ++ (⟨#[91]⟩ : ByteArray) ++ strL (tagsL c) ++ (⟨#[93]⟩ : ByteArray) = strL (P ++ T) := by
            rw [hT1, show (⟨#[91]⟩ : ByteArray) = strL [91] from rfl, show (⟨#[93]⟩ : ByteArray) = strL [93] from rfl, strL_app, strL_app, strL_app]
            congr 1
            simp
          obtain ⟨Y, hY⟩ : ∃ Y, Y = P ++ T := ⟨_, rfl⟩
          rw [← hY] at hYs
          have hYz : (strL Y).size ≤ 44000 := by rw [← hYs]; simp only [ByteArray.size_append]; show _ + 1 + _ + 1 ≤ _; omega
          have HY := Lib.hid hY.symm
          have HYS := Lib.hid hYs
          clear hYs hY hT1
          go_wp2_with (guard_target = wpList _ _ _ ({ dst := _, op := Op.load 40 _, type := _, pos := _, after := _, guard := _ } :: _) _ _; refine wpList_val rfl (exec_load (v := c.pen) rfl rfl (run_loadPen HC4.out)) (fun K hK => ?_); go_simp; refine hK _ _ ?_; clear hK K)
          refine (KT.out _).mono ?_
          rintro e W5 ⟨rfl, s5⟩
          have HC5 := Lib.hid (HC4.out.sees s5)
          have SW5 := Lib.hid (SW4.out.trans s5)
          obtain ⟨f0, _, _, _, f4, _⟩ := HC5.out.all
          clear s5 HC4 SW4
          go_upto_region 9 with fail
          rw [HYS.out]
          clear HYS hPz
          rcases HWY.out with ⟨g0, g1, hm⟩ | ⟨g0, g1, g2, g3, g4, g5, hm⟩ | ⟨g0, g1, hm⟩ | ⟨g0, g1, g2, hm⟩ | ⟨g0, g1, g2, g3, hm⟩ | ⟨g0, g1, g2, g3, g4, hm⟩ | ⟨g0, g1, g2, g3, g4, hm⟩
          · have HM := Lib.hid hm
            clear hm KC KT HWY
            go_wp2
            go_roundw
            case rel => exact ⟨0 + 1, by omega, by go_num, by rw [HST.out, HM.out, ← List.append_assoc, HY.out, ← strL_app]; rfl, SW5.out⟩
            case measure => simp [intOf]; omega
          · have HM := Lib.hid hm
            clear hm KT HWY
            go_wp2_with (guard_target = wpList _ _ _ ({ dst := _, op := Op.load 42 _, type := _, pos := _, after := _, guard := _ } :: _) _ _; refine wpList_val rfl (exec_load (v := c.val) rfl rfl (run_loadCell HC5.out)) (fun K hK => ?_); go_simp; refine hK _ _ ?_; clear hK K)
            refine (KC.out _).mono ?_
            rintro e W8 ⟨rfl, s8⟩
            have S8 := Lib.hid (SW5.out.trans s8)
            clear s8 f0 f4 HC5 KC
            go_wp2
            go_roundw
            case rel => exact ⟨0 + 1, by omega, by go_num, by rw [HST.out, HM.out, ← List.append_assoc, HY.out, ← strL_app], S8.out⟩
            case measure => simp [intOf]; omega
          iterate 4
            · have HM := Lib.hid hm
              clear hm KT HWY
              go_wp2_with (guard_target = wpList _ _ _ ({ dst := _, op := Op.load 42 _, type := _, pos := _, after := _, guard := _ } :: _) _ _; refine wpList_val rfl (exec_load (v := c.val) rfl rfl (run_loadCell HC5.out)) (fun K hK => ?_); go_simp; refine hK _ _ ?_; clear hK K)
              refine (KC.out _).mono ?_
              rintro e W8 ⟨rfl, s8⟩
              have S8 := Lib.hid (SW5.out.trans s8)
              clear s8 f0 f4 HC5 KC
              go_wp2
              go_roundw
              case rel => exact ⟨0 + 1, by omega, by go_num, by rw [HST.out, HM.out, ← List.append_assoc, HY.out, ← strL_esc], S8.out⟩
              case measure => simp [intOf]; omega
          · have HM := Lib.hid hm
            clear hm KT HWY
            go_wp2_with (guard_target = wpList _ _ _ ({ dst := _, op := Op.load 42 _, type := _, pos := _, after := _, guard := _ } :: _) _ _; refine wpList_val rfl (exec_load (v := c.val) rfl rfl (run_loadCell HC5.out)) (fun K hK => ?_); go_simp; refine hK _ _ ?_; clear hK K)
            refine (KC.out _).mono ?_
            rintro e W8 ⟨rfl, s8⟩
            have S8 := Lib.hid (SW5.out.trans s8)
            clear s8 f0 f4 HC5 KC
            go_wp2
            go_roundw
            case rel => exact ⟨0 + 1, by omega, by go_num, by rw [HST.out, HM.out, ← List.append_assoc, HY.out, ← strL_app], S8.out⟩
            case measure => simp [intOf]; omega
        · obtain ⟨m, rfl⟩ : ∃ m, i = m + 1 := ⟨i - 1, by omega⟩
          obtain ⟨b2, o2, p, e0, _, hp, hatp0⟩ := H.out.cell (show m < n by omega)
          cases e0
          have hpe : penOf p ≠ penOf c := by
            have e1 := last_at hp
            rw [e1] at hT
            unfold tagP at hT
            intro e2
            rw [if_pos (by rw [e2]), hT1] at hT
            cases hT
          have HPA := Lib.hid (hatp0.sees S3.out)
          have hs1 : IntKind.i64.wrap ((m : Int) + 1 - 1) = m := by rw [IntWalk.i64_in _ (by omega)]; omega
          have hb0 : (((m : Int) + 1) == 0) = false := by simp; omega
          obtain ⟨l0, l1⟩ := L3.out.c
          have g0 := fun d os => (sees_grow W3 d os).cell l0
          clear l0 l1 hp hatp0 hT
          refine wp_region_quiet_below (by kernel_rfl) (by kernel_rfl) ?_
          repeat (first | go_big_quiet_skip | (go_big_quiet_want; go_big_quiet_op; go_big_quiet_on))
          go_big_quiet_want; refine quiet_run (p).pen (fun W hW => exec_load rfl rfl (run_loadPen (HPA.out.sees (regrown_sees hW)))) ?_; simp only [Act.put, List.setIfInBounds_toArray, List.set_cons_zero, List.set_cons_succ]; go_big_quiet_on
          repeat (first | go_big_quiet_skip | (go_big_quiet_want; go_big_quiet_op; go_big_quiet_on))
          go_big_quiet_want; refine quiet_run (c).pen (fun W hW => exec_load rfl rfl (run_loadPen ((HC3.out.sees (regrown_sees hW))))) ?_; simp only [Act.put, List.setIfInBounds_toArray, List.set_cons_zero, List.set_cons_succ]; go_big_quiet_on
          go_big_quiet_want; refine quiet_run (.bool true) (fun W hW => exec_bin rfl rfl rfl (guard_neqPen _ _ p c W) (by have := run_neqPen p c W; rw [penEq_of, decide_eq_false hpe] at this; exact this)) ?_; simp only [Act.put, List.setIfInBounds_toArray, List.set_cons_zero, List.set_cons_succ]; go_big_quiet_on
          repeat (first | go_big_quiet_skip | (go_big_quiet_want; go_big_quiet_op; go_big_quiet_on))
          refine wpQuiet_nil ?_; intro w2 hw2'; have hw2 := regrown_sees hw2'; clear hw2'
          have HC4 := Lib.hid (HC3.out.sees hw2)
          have SW4 := Lib.hid (SW3.out.trans hw2)
          clear hw2 g0 HC3 SW3 L3 S3 HPA hs1 hb0 hpe
          have hYs : strL P ++ (⟨#[91]⟩ : ByteArray) ++ strL (tagsL c) ++ (⟨#[93]⟩ : ByteArray) = strL (P ++ T) := by
            rw [hT1, show (⟨#[91]⟩ : ByteArray) = strL [91] from rfl, show (⟨#[93]⟩ : ByteArray) = strL [93] from rfl, strL_app, strL_app, strL_app]
            congr 1
            simp
          obtain ⟨Y, hY⟩ : ∃ Y, Y = P ++ T := ⟨_, rfl⟩
          rw [← hY] at hYs
          have hYz : (strL Y).size ≤ 44000 := by rw [← hYs]; simp only [ByteArray.size_append]; show _ + 1 + _ + 1 ≤ _; omega
          have HY := Lib.hid hY.symm
          have HYS := Lib.hid hYs
          clear hYs hY hT1
          go_wp2_with (guard_target = wpList _ _ _ ({ dst := _, op := Op.load 40 _, type := _, pos := _, after := _, guard := _ } :: _) _ _; refine wpList_val rfl (exec_load (v := c.pen) rfl rfl (run_loadPen HC4.out)) (fun K hK => ?_); go_simp; refine hK _ _ ?_; clear hK K)
          refine (KT.out _).mono ?_
          rintro e W5 ⟨rfl, s5⟩
          have HC5 := Lib.hid (HC4.out.sees s5)
          have SW5 := Lib.hid (SW4.out.trans s5)
          obtain ⟨f0, _, _, _, f4, _⟩ := HC5.out.all
          clear s5 HC4 SW4
          go_upto_region 9 with fail
          rw [HYS.out]
          clear HYS hPz
          rcases HWY.out with ⟨g0, g1, hm⟩ | ⟨g0, g1, g2, g3, g4, g5, hm⟩ | ⟨g0, g1, hm⟩ | ⟨g0, g1, g2, hm⟩ | ⟨g0, g1, g2, g3, hm⟩ | ⟨g0, g1, g2, g3, g4, hm⟩ | ⟨g0, g1, g2, g3, g4, hm⟩
          · have HM := Lib.hid hm
            clear hm KC KT HWY
            go_wp2
            go_roundw
            case rel => exact ⟨m + 1 + 1, by omega, by go_num, by rw [HST.out, HM.out, ← List.append_assoc, HY.out, ← strL_app]; rfl, SW5.out⟩
            case measure => simp [intOf]; omega
          · have HM := Lib.hid hm
            clear hm KT HWY
            go_wp2_with (guard_target = wpList _ _ _ ({ dst := _, op := Op.load 42 _, type := _, pos := _, after := _, guard := _ } :: _) _ _; refine wpList_val rfl (exec_load (v := c.val) rfl rfl (run_loadCell HC5.out)) (fun K hK => ?_); go_simp; refine hK _ _ ?_; clear hK K)
            refine (KC.out _).mono ?_
            rintro e W8 ⟨rfl, s8⟩
            have S8 := Lib.hid (SW5.out.trans s8)
            clear s8 f0 f4 HC5 KC
            go_wp2
            go_roundw
            case rel => exact ⟨m + 1 + 1, by omega, by go_num, by rw [HST.out, HM.out, ← List.append_assoc, HY.out, ← strL_app], S8.out⟩
            case measure => simp [intOf]; omega
          iterate 4
            · have HM := Lib.hid hm
              clear hm KT HWY
              go_wp2_with (guard_target = wpList _ _ _ ({ dst := _, op := Op.load 42 _, type := _, pos := _, after := _, guard := _ } :: _) _ _; refine wpList_val rfl (exec_load (v := c.val) rfl rfl (run_loadCell HC5.out)) (fun K hK => ?_); go_simp; refine hK _ _ ?_; clear hK K)
              refine (KC.out _).mono ?_
              rintro e W8 ⟨rfl, s8⟩
              have S8 := Lib.hid (SW5.out.trans s8)
              clear s8 f0 f4 HC5 KC
              go_wp2
              go_roundw
              case rel => exact ⟨m + 1 + 1, by omega, by go_num, by rw [HST.out, HM.out, ← List.append_assoc, HY.out, ← strL_esc], S8.out⟩
              case measure => simp [intOf]; omega
          · have HM := Lib.hid hm
            clear hm KT HWY
            go_wp2_with (guard_target = wpList _ _ _ ({ dst := _, op := Op.load 42 _, type := _, pos := _, after := _, guard := _ } :: _) _ _; refine wpList_val rfl (exec_load (v := c.val) rfl rfl (run_loadCell HC5.out)) (fun K hK => ?_); go_simp; refine hK _ _ ?_; clear hK K)
            refine (KC.out _).mono ?_
            rintro e W8 ⟨rfl, s8⟩
            have S8 := Lib.hid (SW5.out.trans s8)
            clear s8 f0 f4 HC5 KC
            go_wp2
            go_roundw
            case rel => exact ⟨m + 1 + 1, by omega, by go_num, by rw [HST.out, HM.out, ← List.append_assoc, HY.out, ← strL_app], S8.out⟩
            case measure => simp [intOf]; omega
    · obtain rfl : i = U := by omega
      clear hlt KU
      obtain ⟨P, hP⟩ : ∃ P, P = mkFrom none (cs.take i) := ⟨_, rfl⟩
      have HP := Lib.hid hP
      have hPz : (strL P).size ≤ 43000 := by rw [strL_size, hP]; exact HZ.out i
      rw [← hP]
      obtain ⟨l0, l1⟩ := L2.out.c
      clear hP
      cases so with
      | false =>
        go_wp2
        go_ret
        exact ⟨by rw [HF.out, ← HP.out, if_neg (by simp), List.append_nil]; rfl, S2.out⟩
      | true =>
        have e : mkL cs true = P ++ [92] := by rw [HF.out, ← HP.out]; simp
        have HE := Lib.hid e
        clear e
        go_wp2
        go_ret
        exact ⟨by rw [HE.out, ← strL_app]; rfl, S2.out⟩
end Go.Proofs.YthcndmchlpohpaaGreatDoor
