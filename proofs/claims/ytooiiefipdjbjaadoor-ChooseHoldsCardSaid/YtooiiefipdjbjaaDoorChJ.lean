/- choose: the end of a word (41). choose: the steps that spans hands to end (41). choose.Word (41). choose: the rows in which a choice may be made (41). choose.Word with errors (41). The law's trimmed (41). No condition. -/
import Derived.Test.YtooiiefipdjbjaaDoorChD
import Derived.Test.YtooiiefipdjbjaaDoorTtA
namespace Go.Proofs.YtooiiefipdjbjaaDoor
set_option linter.unusedVariables false
set_option linter.unusedSimpArgs false
open Go.RowKit
attribute [local go_sem] Oper.semAt_some

theorem Keeps.setCell2 {W : World} {b : Nat} {l0 c0 : Int} (_ : PlAt W b l0 c0) (l c : Int) : Keeps (fun y => y = b) W (setP W b l c) := by
  refine ⟨rfl, rfl, rfl, ?_, fun y _ hne => ?_⟩
  · unfold setP; simp
  · unfold setP
    rw [heap_setCell_other _ _ _ _ hne, heap_setCell_other _ _ _ _ hne]
/-- What a function of a place is at a place in memory. -/
def plM (μ : Int → Int → Nat) (W : World) (b : Nat) : Nat := μ (intOf ((W.cell? ⟨b, 0, none⟩).getD undef)) (intOf ((W.cell? ⟨b, 1, none⟩).getD undef))
theorem plM_at {μ : Int → Int → Nat} {W : World} {b : Nat} {l c : Int} (h : PlAt W b l c) : plM μ W b = μ l c := by
  obtain ⟨h0, h1⟩ := h.cells
  unfold plM
  rw [h0, h1]
  rfl
abbrev plV (p : Int × Int) : Value := .agg #[.int .i64 p.1, .int .i64 p.2]
set_option maxHeartbeats 4000000 in
set_option maxRecDepth 100000 in
theorem sh_end_mp (w : World) (a : Option Addr) (n cp : Nat) (first : Int) (ps : Nat → Int × Int) (m : Nat) (B0 : Bool) (μ : Int → Int → Nat)
    (hμ : B0 = true → ∀ i, i < m → μ (ps (i + 1)).1 (ps (i + 1)).2 < μ (ps i).1 (ps i).2)
    (KW0 : ∀ W, Sees w W → Calls Tryd.prog 86 #[.agg #[.slice a n cp, .int .i64 first], plV (ps 0)] W fun e w' => e = .returned (.bool B0) ∧ Sees W w')
    (KS : B0 = true → ∀ i, i < m → ∀ W, Sees w W → Calls Tryd.prog 68 #[.agg #[.slice a n cp, .int .i64 first], plV (ps i)] W fun e w' => e = .returned (.tuple #[plV (ps (i + 1)), .bool true]) ∧ Sees W w')
    (KW : B0 = true → ∀ i, i < m → ∀ W, Sees w W → Calls Tryd.prog 86 #[.agg #[.slice a n cp, .int .i64 first], plV (ps (i + 1))] W fun e w' => e = .returned (.bool true) ∧ Sees W w')
    (KL : B0 = true → ∃ (q : Int × Int) (b : Bool), (∀ W, Sees w W → Calls Tryd.prog 68 #[.agg #[.slice a n cp, .int .i64 first], plV (ps m)] W fun e w' => e = .returned (.tuple #[plV q, .bool b]) ∧ Sees W w') ∧ (b = true → ∀ W, Sees w W → Calls Tryd.prog 86 #[.agg #[.slice a n cp, .int .i64 first], plV q] W fun e w' => e = .returned (.bool false) ∧ Sees W w')) :
    Calls Tryd.prog 66 #[.agg #[.slice a n cp, .int .i64 first], plV (ps 0), .func (.func 68) #[.agg #[.slice a n cp, .int .i64 first]] #[]] w fun e w' => e = .returned (plV (ps (if B0 then m else 0))) ∧ Sees w w' := by
  have KW0 := Lib.hid KW0
  have KS := Lib.hid KS
  have KW := Lib.hid KW
  have KL := Lib.hid KL
  have Hμ := Lib.hid hμ
  clear hμ
  obtain ⟨l, hl⟩ : ∃ l, l = (ps 0).1 := ⟨_, rfl⟩
  obtain ⟨c, hc⟩ : ∃ c, c = (ps 0).2 := ⟨_, rfl⟩
  have HP0 : Hid (ps 0 = (l, c)) := by unfold RowKit.Hid; rw [hl, hc]
  rw [HP0.out] at KW0
  show Calls Tryd.prog 66 #[.agg #[.slice a n cp, .int .i64 first], .agg #[.int .i64 (ps 0).1, .int .i64 (ps 0).2], .func (.func 68) #[.agg #[.slice a n cp, .int .i64 first]] #[]] w _
  rw [← hl, ← hc]
  clear hl hc
  go_enter Tryd.func66, Tryd.ntmps66
  go_upto_region 1 with fail
  refine wp_world fun W1 hW1 => ?_
  have c0 : W1.cell? ⟨w.heap.size, 0, none⟩ = some (.slice a n cp) := by
    subst hW1
    exact (((Sees.refl _).alloc _).alloc _).cell (by rw [cell_of_row _ _ _ _ _ _ (heap_alloc_new w _)]; rfl)
  have c1 : W1.cell? ⟨w.heap.size, 1, none⟩ = some (.int .i64 first) := by
    subst hW1
    exact (((Sees.refl _).alloc _).alloc _).cell (by rw [cell_of_row _ _ _ _ _ _ (heap_alloc_new w _)]; rfl)
  have p1 : PlAt W1 (w.heap.size + 1) l c := by
    subst hW1
    have q := heap_alloc_new (w.alloc (.cells #[.slice a n cp, .int .i64 first] 87)) (.cells #[.int .i64 l, .int .i64 c] 25)
    rw [World.size_alloc] at q
    have q' : PlAt _ _ l c := q
    exact q'.sees ((Sees.refl _).alloc _)
  have p2 : PlAt W1 (w.heap.size + 1 + 1) 0 0 := by
    subst hW1
    have q := heap_alloc_new ((w.alloc (.cells #[.slice a n cp, .int .i64 first] 87)).alloc (.cells #[.int .i64 l, .int .i64 c] 25)) (.cells #[.int .i64 0, .int .i64 0] 25)
    rw [World.size_alloc, World.size_alloc] at q
    exact q
  have s1 : Sees w W1 := by subst hW1; exact (((Sees.refl w).alloc _).alloc _).alloc _
  have C0 := Lib.hid c0
  have C1 := Lib.hid c1
  have P1 := Lib.hid p1
  have P2 := Lib.hid p2
  have S1 := Lib.hid s1
  clear hW1 c0 c1 p1 p2 s1
  obtain ⟨b6, hb6⟩ : ∃ b6, b6 = w.heap.size + 1 + 1 := ⟨_, rfl⟩
  obtain ⟨b4, hb4⟩ : ∃ b4, b4 = w.heap.size + 1 := ⟨_, rfl⟩
  obtain ⟨b3, hb3⟩ : ∃ b3, b3 = w.heap.size := ⟨_, rfl⟩
  have HBW : Hid (w.heap.size ≤ b6 ∧ w.heap.size ≤ b4) := by unfold RowKit.Hid; omega
  have HNE : Hid (b3 ≠ b4 ∧ b6 ≠ b4) := by unfold RowKit.Hid; omega
  rw [← hb6] at P2 ⊢
  rw [← hb4] at P1 ⊢
  rw [← hb3] at C0 C1 ⊢
  clear hb6 hb4 hb3
  obtain ⟨d0, d1⟩ := P1.out.cells
  have c0 := C0.out
  have c1 := C1.out
  go_wp2_with fail
  refine (KW0.out _ S1.out).mono ?_
  rintro ee W2 ⟨rfl, s2⟩
  have S2 := Lib.hid (S1.out.trans s2)
  have P12 := Lib.hid (P1.out.sees s2)
  have P22 := Lib.hid (P2.out.sees s2)
  have C02 := Lib.hid (s2.cell C0.out)
  have C12 := Lib.hid (s2.cell C1.out)
  clear s2 c0 c1 d0 d1 KW0
  cases B0
  · obtain ⟨d0, d1⟩ := P12.out.cells
    obtain ⟨f0, f1⟩ := P22.out.cells
    have m2 : ∀ i, W2.frozen? ⟨b6, i, none⟩ = false := fun i => frozen_of_row W2 b6 i _ _ P22.out
    have HR : Hid (plV (ps (if false = true then m else 0)) = .agg #[.int .i64 l, .int .i64 c]) := by unfold RowKit.Hid; rw [if_neg (by decide), HP0.out]
    go_wp2
    exact bodyPost_ret (results_one rfl rfl (run_loadPl (setP_at P22.out l c))) rfl ⟨by first | rw [HR.out] | (show _ = Ending.returned (plV (ps 0)); rw [HP0.out]), sees_setP S2.out HBW.out.1 l c⟩
  · obtain ⟨ql, bl, hKL, hKM⟩ := KL.out rfl
    have KL1 := Lib.hid hKL
    have KL2 := Lib.hid hKM
    have KS1 := Lib.hid (KS.out rfl)
    have KW1 := Lib.hid (KW.out rfl)
    have HM1 := Lib.hid (Hμ.out rfl)
    clear Hμ
    clear hKL hKM KL KS KW
    go_wp2_with fail
    go_loopw [] (fun W => ∃ (i : Nat) (l c : Int), i ≤ m ∧ Hid (ps i = (l, c)) ∧ PlAt W b4 l c ∧ PlAt W b6 0 0 ∧ W.cell? ⟨b3, 0, none⟩ = some (.slice a n cp) ∧ W.cell? ⟨b3, 1, none⟩ = some (.int .i64 first) ∧ Sees w W) (fun W => plM μ W b4)
    case atStart => exact ⟨0, l, c, Nat.zero_le _, HP0, P12.out, P22.out, C02.out, C12.out, S2.out⟩
    case round =>
      obtain ⟨i, l, c, him, hps, hP, hP6, c0, c1, hS⟩ := hrel
      have HP1 := Lib.hid hP
      have HP6 := Lib.hid hP6
      have HS := Lib.hid hS
      have C03 := Lib.hid c0
      have C13 := Lib.hid c1
      obtain ⟨d0, d1⟩ := hP.cells
      clear hP hP6 hS c0 c1
      by_cases hlt : i < m
      · obtain ⟨l2, hl2⟩ : ∃ l2, l2 = (ps (i + 1)).1 := ⟨_, rfl⟩
        obtain ⟨k2, hk2⟩ : ∃ k2, k2 = (ps (i + 1)).2 := ⟨_, rfl⟩
        have HP2 : Hid (ps (i + 1) = (l2, k2)) := by unfold RowKit.Hid; rw [hl2, hk2]
        have K1 := Lib.hid (KS1.out i hlt)
        have K2 := Lib.hid (KW1.out i hlt)
        have hmu := HM1.out i hlt
        rw [hps.out, HP2.out] at K1
        rw [HP2.out] at K2
        rw [hps.out, HP2.out] at hmu
        have HMU := Lib.hid hmu
        clear hl2 hk2 hmu
        go_wp2_with fail
        refine (K1.out _ HS.out).mono ?_
        rintro ee W3 ⟨rfl, s3⟩
        have S3 := Lib.hid (HS.out.trans s3)
        have P13 := Lib.hid (HP1.out.sees s3)
        have P63 := Lib.hid (HP6.out.sees s3)
        have C04 := Lib.hid (s3.cell C03.out)
        have C14 := Lib.hid (s3.cell C13.out)
        clear s3 d0 d1
        go_upto_region 4 with fail
        refine wp_world fun W4 hW4 => ?_
        have Q4 : Hid (PlAt W4 W3.heap.size l2 k2) := by subst hW4; exact heap_alloc_new W3 _
        have S34 : Hid (Sees W3 W4) := by subst hW4; exact (Sees.refl _).alloc _
        clear hW4
        obtain ⟨b7, hb7⟩ : ∃ b7, b7 = W3.heap.size := ⟨_, rfl⟩
        rw [← hb7] at Q4 ⊢
        have P14 := Lib.hid (P13.out.sees S34.out)
        have P64 := Lib.hid (P63.out.sees S34.out)
        have S4 := Lib.hid (S3.out.trans S34.out)
        have c0 := S34.out.cell C04.out
        have c1 := S34.out.cell C14.out
        obtain ⟨e0, e1⟩ := Q4.out.cells
        have HB7 : Hid (b7 ≠ b4) := by have := (Array.getElem?_eq_some_iff.1 P13.out).1; unfold RowKit.Hid; omega
        clear hb7
        go_wp2_with fail
        refine (K2.out _ S4.out).mono ?_
        rintro ee W5 ⟨rfl, s5⟩
        have S5 := Lib.hid (S4.out.trans s5)
        have P15 := Lib.hid (P14.out.sees s5)
        have P65 := Lib.hid (P64.out.sees s5)
        have C05 := Lib.hid (s5.cell c0)
        have C15 := Lib.hid (s5.cell c1)
        have Q5 := Lib.hid (Q4.out.sees s5)
        clear s5 c0 c1 e0 e1
        obtain ⟨e0, e1⟩ := Q5.out.cells
        obtain ⟨d0, d1⟩ := P15.out.cells
        have m4 : ∀ i, W5.frozen? ⟨b4, i, none⟩ = false := fun i => frozen_of_row W5 b4 i _ _ P15.out
        have HPN := Lib.hid (setP_at P15.out l2 k2)
        have HKP : Hid (Keeps (fun y => y = b4) W5 (setP W5 b4 l2 k2)) := by
          unfold RowKit.Hid
          have q := stQ_keeps W5 b4 l2 k2
          exact Keeps.setCell2 P15.out l2 k2
        have HFR : Hid (PlAt (setP W5 b4 l2 k2) b6 0 0) := P65.out.keeps HKP.out HNE.out.2
        have HF0 : Hid ((setP W5 b4 l2 k2).cell? ⟨b3, 0, none⟩ = some (.slice a n cp)) := HKP.out.cell HNE.out.1 C05.out
        have HF1 : Hid ((setP W5 b4 l2 k2).cell? ⟨b3, 1, none⟩ = some (.int .i64 first)) := HKP.out.cell HNE.out.1 C15.out
        have HFS := Lib.hid (sees_setP S5.out HBW.out.2 l2 k2)
        go_wp2
        exact ⟨⟨i + 1, l2, k2, hlt, HP2, HPN.out, HFR.out, HF0.out, HF1.out, HFS.out⟩, by first | (rw [plM_at HP1.out]; show plM μ (setP W5 b4 l2 k2) b4 < _; rw [plM_at HPN.out]; exact HMU.out) | (show plM μ (setP W5 b4 l2 k2) b4 < plM μ _ b4; rw [plM_at HP1.out, plM_at HPN.out]; exact HMU.out)⟩
      · obtain rfl : i = m := by omega
        obtain ⟨lq, hlq⟩ : ∃ lq, lq = ql.1 := ⟨_, rfl⟩
        obtain ⟨cq, hcq⟩ : ∃ cq, cq = ql.2 := ⟨_, rfl⟩
        have HQ : Hid (ql = (lq, cq)) := by unfold RowKit.Hid; rw [hlq, hcq]
        rw [hps.out, HQ.out] at KL1
        rw [HQ.out] at KL2
        have HR : Hid (plV (ps i) = .agg #[.int .i64 l, .int .i64 c]) := by unfold RowKit.Hid; rw [hps.out]
        clear hlq hcq
        go_wp2_with fail
        refine (KL1.out _ HS.out).mono ?_
        rintro ee W3 ⟨rfl, s3⟩
        have S3 := Lib.hid (HS.out.trans s3)
        have P13 := Lib.hid (HP1.out.sees s3)
        have P63 := Lib.hid (HP6.out.sees s3)
        have C04 := Lib.hid (s3.cell C03.out)
        have C14 := Lib.hid (s3.cell C13.out)
        clear s3 d0 d1
        go_upto_region 4 with fail
        refine wp_world fun W4 hW4 => ?_
        have Q4 : Hid (PlAt W4 W3.heap.size lq cq) := by subst hW4; exact heap_alloc_new W3 _
        have S34 : Hid (Sees W3 W4) := by subst hW4; exact (Sees.refl _).alloc _
        clear hW4
        obtain ⟨b7, hb7⟩ : ∃ b7, b7 = W3.heap.size := ⟨_, rfl⟩
        rw [← hb7] at Q4 ⊢
        have P14 := Lib.hid (P13.out.sees S34.out)
        have P64 := Lib.hid (P63.out.sees S34.out)
        have S4 := Lib.hid (S3.out.trans S34.out)
        have c0 := S34.out.cell C04.out
        have c1 := S34.out.cell C14.out
        clear hb7
        cases bl
        · obtain ⟨d0, d1⟩ := P14.out.cells
          obtain ⟨f0, f1⟩ := P64.out.cells
          have m2 : ∀ i, W4.frozen? ⟨b6, i, none⟩ = false := fun i => frozen_of_row W4 b6 i _ _ P64.out
          go_wp2
          exact bodyPost_ret (results_one rfl rfl (run_loadPl (setP_at P64.out l c))) rfl ⟨by first | rw [HR.out] | (show _ = Ending.returned (plV (ps i)); rw [HR.out]), sees_setP S4.out HBW.out.1 l c⟩
        · have K2 := Lib.hid (KL2.out rfl)
          obtain ⟨e0, e1⟩ := Q4.out.cells
          go_wp2_with fail
          refine (K2.out _ S4.out).mono ?_
          rintro ee W5 ⟨rfl, s5⟩
          have S5 := Lib.hid (S4.out.trans s5)
          have P15 := Lib.hid (P14.out.sees s5)
          have P65 := Lib.hid (P64.out.sees s5)
          clear s5 c0 c1 e0 e1
          obtain ⟨d0, d1⟩ := P15.out.cells
          obtain ⟨f0, f1⟩ := P65.out.cells
          have m2 : ∀ i, W5.frozen? ⟨b6, i, none⟩ = false := fun i => frozen_of_row W5 b6 i _ _ P65.out
          go_wp2
          exact bodyPost_ret (results_one rfl rfl (run_loadPl (setP_at P65.out l c))) rfl ⟨by first | rw [HR.out] | (show _ = Ending.returned (plV (ps i)); rw [HR.out]), sees_setP S5.out HBW.out.1 l c⟩
set_option maxHeartbeats 4000000 in
set_option maxRecDepth 100000 in
theorem sh_end_mn (w : World) (a : Option Addr) (n cp : Nat) (first : Int) (ps : Nat → Int × Int) (m : Nat) (B0 : Bool) (μ : Int → Int → Nat)
    (hμ : B0 = true → ∀ i, i < m → μ (ps (i + 1)).1 (ps (i + 1)).2 < μ (ps i).1 (ps i).2)
    (KW0 : ∀ W, Sees w W → Calls Tryd.prog 86 #[.agg #[.slice a n cp, .int .i64 first], plV (ps 0)] W fun e w' => e = .returned (.bool B0) ∧ Sees W w')
    (KS : B0 = true → ∀ i, i < m → ∀ W, Sees w W → Calls Tryd.prog 70 #[.agg #[.slice a n cp, .int .i64 first], plV (ps i)] W fun e w' => e = .returned (.tuple #[plV (ps (i + 1)), .bool true]) ∧ Sees W w')
    (KW : B0 = true → ∀ i, i < m → ∀ W, Sees w W → Calls Tryd.prog 86 #[.agg #[.slice a n cp, .int .i64 first], plV (ps (i + 1))] W fun e w' => e = .returned (.bool true) ∧ Sees W w')
    (KL : B0 = true → ∃ (q : Int × Int) (b : Bool), (∀ W, Sees w W → Calls Tryd.prog 70 #[.agg #[.slice a n cp, .int .i64 first], plV (ps m)] W fun e w' => e = .returned (.tuple #[plV q, .bool b]) ∧ Sees W w') ∧ (b = true → ∀ W, Sees w W → Calls Tryd.prog 86 #[.agg #[.slice a n cp, .int .i64 first], plV q] W fun e w' => e = .returned (.bool false) ∧ Sees W w')) :
    Calls Tryd.prog 66 #[.agg #[.slice a n cp, .int .i64 first], plV (ps 0), .func (.func 70) #[.agg #[.slice a n cp, .int .i64 first]] #[]] w fun e w' => e = .returned (plV (ps (if B0 then m else 0))) ∧ Sees w w' := by
  have KW0 := Lib.hid KW0
  have KS := Lib.hid KS
  have KW := Lib.hid KW
  have KL := Lib.hid KL
  have Hμ := Lib.hid hμ
  clear hμ
  obtain ⟨l, hl⟩ : ∃ l, l = (ps 0).1 := ⟨_, rfl⟩
  obtain ⟨c, hc⟩ : ∃ c, c = (ps 0).2 := ⟨_, rfl⟩
  have HP0 : Hid (ps 0 = (l, c)) := by unfold RowKit.Hid; rw [hl, hc]
  rw [HP0.out] at KW0
  show Calls Tryd.prog 66 #[.agg #[.slice a n cp, .int .i64 first], .agg #[.int .i64 (ps 0).1, .int .i64 (ps 0).2], .func (.func 70) #[.agg #[.slice a n cp, .int .i64 first]] #[]] w _
  rw [← hl, ← hc]
  clear hl hc
  go_enter Tryd.func66, Tryd.ntmps66
  go_upto_region 1 with fail
  refine wp_world fun W1 hW1 => ?_
  have c0 : W1.cell? ⟨w.heap.size, 0, none⟩ = some (.slice a n cp) := by
    subst hW1
    exact (((Sees.refl _).alloc _).alloc _).cell (by rw [cell_of_row _ _ _ _ _ _ (heap_alloc_new w _)]; rfl)
  have c1 : W1.cell? ⟨w.heap.size, 1, none⟩ = some (.int .i64 first) := by
    subst hW1
    exact (((Sees.refl _).alloc _).alloc _).cell (by rw [cell_of_row _ _ _ _ _ _ (heap_alloc_new w _)]; rfl)
  have p1 : PlAt W1 (w.heap.size + 1) l c := by
    subst hW1
    have q := heap_alloc_new (w.alloc (.cells #[.slice a n cp, .int .i64 first] 87)) (.cells #[.int .i64 l, .int .i64 c] 25)
    rw [World.size_alloc] at q
    have q' : PlAt _ _ l c := q
    exact q'.sees ((Sees.refl _).alloc _)
  have p2 : PlAt W1 (w.heap.size + 1 + 1) 0 0 := by
    subst hW1
    have q := heap_alloc_new ((w.alloc (.cells #[.slice a n cp, .int .i64 first] 87)).alloc (.cells #[.int .i64 l, .int .i64 c] 25)) (.cells #[.int .i64 0, .int .i64 0] 25)
    rw [World.size_alloc, World.size_alloc] at q
    exact q
  have s1 : Sees w W1 := by subst hW1; exact (((Sees.refl w).alloc _).alloc _).alloc _
  have C0 := Lib.hid c0
  have C1 := Lib.hid c1
  have P1 := Lib.hid p1
  have P2 := Lib.hid p2
  have S1 := Lib.hid s1
  clear hW1 c0 c1 p1 p2 s1
  obtain ⟨b6, hb6⟩ : ∃ b6, b6 = w.heap.size + 1 + 1 := ⟨_, rfl⟩
  obtain ⟨b4, hb4⟩ : ∃ b4, b4 = w.heap.size + 1 := ⟨_, rfl⟩
  obtain ⟨b3, hb3⟩ : ∃ b3, b3 = w.heap.size := ⟨_, rfl⟩
  have HBW : Hid (w.heap.size ≤ b6 ∧ w.heap.size ≤ b4) := by unfold RowKit.Hid; omega
  have HNE : Hid (b3 ≠ b4 ∧ b6 ≠ b4) := by unfold RowKit.Hid; omega
  rw [← hb6] at P2 ⊢
  rw [← hb4] at P1 ⊢
  rw [← hb3] at C0 C1 ⊢
  clear hb6 hb4 hb3
  obtain ⟨d0, d1⟩ := P1.out.cells
  have c0 := C0.out
  have c1 := C1.out
  go_wp2_with fail
  refine (KW0.out _ S1.out).mono ?_
  rintro ee W2 ⟨rfl, s2⟩
  have S2 := Lib.hid (S1.out.trans s2)
  have P12 := Lib.hid (P1.out.sees s2)
  have P22 := Lib.hid (P2.out.sees s2)
  have C02 := Lib.hid (s2.cell C0.out)
  have C12 := Lib.hid (s2.cell C1.out)
  clear s2 c0 c1 d0 d1 KW0
  cases B0
  · obtain ⟨d0, d1⟩ := P12.out.cells
    obtain ⟨f0, f1⟩ := P22.out.cells
    have m2 : ∀ i, W2.frozen? ⟨b6, i, none⟩ = false := fun i => frozen_of_row W2 b6 i _ _ P22.out
    have HR : Hid (plV (ps (if false = true then m else 0)) = .agg #[.int .i64 l, .int .i64 c]) := by unfold RowKit.Hid; rw [if_neg (by decide), HP0.out]
    go_wp2
    exact bodyPost_ret (results_one rfl rfl (run_loadPl (setP_at P22.out l c))) rfl ⟨by first | rw [HR.out] | (show _ = Ending.returned (plV (ps 0)); rw [HP0.out]), sees_setP S2.out HBW.out.1 l c⟩
  · obtain ⟨ql, bl, hKL, hKM⟩ := KL.out rfl
    have KL1 := Lib.hid hKL
    have KL2 := Lib.hid hKM
    have KS1 := Lib.hid (KS.out rfl)
    have KW1 := Lib.hid (KW.out rfl)
    have HM1 := Lib.hid (Hμ.out rfl)
    clear Hμ
    clear hKL hKM KL KS KW
    go_wp2_with fail
    go_loopw [] (fun W => ∃ (i : Nat) (l c : Int), i ≤ m ∧ Hid (ps i = (l, c)) ∧ PlAt W b4 l c ∧ PlAt W b6 0 0 ∧ W.cell? ⟨b3, 0, none⟩ = some (.slice a n cp) ∧ W.cell? ⟨b3, 1, none⟩ = some (.int .i64 first) ∧ Sees w W) (fun W => plM μ W b4)
    case atStart => exact ⟨0, l, c, Nat.zero_le _, HP0, P12.out, P22.out, C02.out, C12.out, S2.out⟩
    case round =>
      obtain ⟨i, l, c, him, hps, hP, hP6, c0, c1, hS⟩ := hrel
      have HP1 := Lib.hid hP
      have HP6 := Lib.hid hP6
      have HS := Lib.hid hS
      have C03 := Lib.hid c0
      have C13 := Lib.hid c1
      obtain ⟨d0, d1⟩ := hP.cells
      clear hP hP6 hS c0 c1
      by_cases hlt : i < m
      · obtain ⟨l2, hl2⟩ : ∃ l2, l2 = (ps (i + 1)).1 := ⟨_, rfl⟩
        obtain ⟨k2, hk2⟩ : ∃ k2, k2 = (ps (i + 1)).2 := ⟨_, rfl⟩
        have HP2 : Hid (ps (i + 1) = (l2, k2)) := by unfold RowKit.Hid; rw [hl2, hk2]
        have K1 := Lib.hid (KS1.out i hlt)
        have K2 := Lib.hid (KW1.out i hlt)
        have hmu := HM1.out i hlt
        rw [hps.out, HP2.out] at K1
        rw [HP2.out] at K2
        rw [hps.out, HP2.out] at hmu
        have HMU := Lib.hid hmu
        clear hl2 hk2 hmu
        go_wp2_with fail
        refine (K1.out _ HS.out).mono ?_
        rintro ee W3 ⟨rfl, s3⟩
        have S3 := Lib.hid (HS.out.trans s3)
        have P13 := Lib.hid (HP1.out.sees s3)
        have P63 := Lib.hid (HP6.out.sees s3)
        have C04 := Lib.hid (s3.cell C03.out)
        have C14 := Lib.hid (s3.cell C13.out)
        clear s3 d0 d1
        go_upto_region 4 with fail
        refine wp_world fun W4 hW4 => ?_
        have Q4 : Hid (PlAt W4 W3.heap.size l2 k2) := by subst hW4; exact heap_alloc_new W3 _
        have S34 : Hid (Sees W3 W4) := by subst hW4; exact (Sees.refl _).alloc _
        clear hW4
        obtain ⟨b7, hb7⟩ : ∃ b7, b7 = W3.heap.size := ⟨_, rfl⟩
        rw [← hb7] at Q4 ⊢
        have P14 := Lib.hid (P13.out.sees S34.out)
        have P64 := Lib.hid (P63.out.sees S34.out)
        have S4 := Lib.hid (S3.out.trans S34.out)
        have c0 := S34.out.cell C04.out
        have c1 := S34.out.cell C14.out
        obtain ⟨e0, e1⟩ := Q4.out.cells
        have HB7 : Hid (b7 ≠ b4) := by have := (Array.getElem?_eq_some_iff.1 P13.out).1; unfold RowKit.Hid; omega
        clear hb7
        go_wp2_with fail
        refine (K2.out _ S4.out).mono ?_
        rintro ee W5 ⟨rfl, s5⟩
        have S5 := Lib.hid (S4.out.trans s5)
        have P15 := Lib.hid (P14.out.sees s5)
        have P65 := Lib.hid (P64.out.sees s5)
        have C05 := Lib.hid (s5.cell c0)
        have C15 := Lib.hid (s5.cell c1)
        have Q5 := Lib.hid (Q4.out.sees s5)
        clear s5 c0 c1 e0 e1
        obtain ⟨e0, e1⟩ := Q5.out.cells
        obtain ⟨d0, d1⟩ := P15.out.cells
        have m4 : ∀ i, W5.frozen? ⟨b4, i, none⟩ = false := fun i => frozen_of_row W5 b4 i _ _ P15.out
        have HPN := Lib.hid (setP_at P15.out l2 k2)
        have HKP : Hid (Keeps (fun y => y = b4) W5 (setP W5 b4 l2 k2)) := by
          unfold RowKit.Hid
          have q := stQ_keeps W5 b4 l2 k2
          exact Keeps.setCell2 P15.out l2 k2
        have HFR : Hid (PlAt (setP W5 b4 l2 k2) b6 0 0) := P65.out.keeps HKP.out HNE.out.2
        have HF0 : Hid ((setP W5 b4 l2 k2).cell? ⟨b3, 0, none⟩ = some (.slice a n cp)) := HKP.out.cell HNE.out.1 C05.out
        have HF1 : Hid ((setP W5 b4 l2 k2).cell? ⟨b3, 1, none⟩ = some (.int .i64 first)) := HKP.out.cell HNE.out.1 C15.out
        have HFS := Lib.hid (sees_setP S5.out HBW.out.2 l2 k2)
        go_wp2
        exact ⟨⟨i + 1, l2, k2, hlt, HP2, HPN.out, HFR.out, HF0.out, HF1.out, HFS.out⟩, by first | (rw [plM_at HP1.out]; show plM μ (setP W5 b4 l2 k2) b4 < _; rw [plM_at HPN.out]; exact HMU.out) | (show plM μ (setP W5 b4 l2 k2) b4 < plM μ _ b4; rw [plM_at HP1.out, plM_at HPN.out]; exact HMU.out)⟩
      · obtain rfl : i = m := by omega
        obtain ⟨lq, hlq⟩ : ∃ lq, lq = ql.1 := ⟨_, rfl⟩
        obtain ⟨cq, hcq⟩ : ∃ cq, cq = ql.2 := ⟨_, rfl⟩
        have HQ : Hid (ql = (lq, cq)) := by unfold RowKit.Hid; rw [hlq, hcq]
        rw [hps.out, HQ.out] at KL1
        rw [HQ.out] at KL2
        have HR : Hid (plV (ps i) = .agg #[.int .i64 l, .int .i64 c]) := by unfold RowKit.Hid; rw [hps.out]
        clear hlq hcq
        go_wp2_with fail
        refine (KL1.out _ HS.out).mono ?_
        rintro ee W3 ⟨rfl, s3⟩
        have S3 := Lib.hid (HS.out.trans s3)
        have P13 := Lib.hid (HP1.out.sees s3)
        have P63 := Lib.hid (HP6.out.sees s3)
        have C04 := Lib.hid (s3.cell C03.out)
        have C14 := Lib.hid (s3.cell C13.out)
        clear s3 d0 d1
        go_upto_region 4 with fail
        refine wp_world fun W4 hW4 => ?_
        have Q4 : Hid (PlAt W4 W3.heap.size lq cq) := by subst hW4; exact heap_alloc_new W3 _
        have S34 : Hid (Sees W3 W4) := by subst hW4; exact (Sees.refl _).alloc _
        clear hW4
        obtain ⟨b7, hb7⟩ : ∃ b7, b7 = W3.heap.size := ⟨_, rfl⟩
        rw [← hb7] at Q4 ⊢
        have P14 := Lib.hid (P13.out.sees S34.out)
        have P64 := Lib.hid (P63.out.sees S34.out)
        have S4 := Lib.hid (S3.out.trans S34.out)
        have c0 := S34.out.cell C04.out
        have c1 := S34.out.cell C14.out
        clear hb7
        cases bl
        · obtain ⟨d0, d1⟩ := P14.out.cells
          obtain ⟨f0, f1⟩ := P64.out.cells
          have m2 : ∀ i, W4.frozen? ⟨b6, i, none⟩ = false := fun i => frozen_of_row W4 b6 i _ _ P64.out
          go_wp2
          exact bodyPost_ret (results_one rfl rfl (run_loadPl (setP_at P64.out l c))) rfl ⟨by first | rw [HR.out] | (show _ = Ending.returned (plV (ps i)); rw [HR.out]), sees_setP S4.out HBW.out.1 l c⟩
        · have K2 := Lib.hid (KL2.out rfl)
          obtain ⟨e0, e1⟩ := Q4.out.cells
          go_wp2_with fail
          refine (K2.out _ S4.out).mono ?_
          rintro ee W5 ⟨rfl, s5⟩
          have S5 := Lib.hid (S4.out.trans s5)
          have P15 := Lib.hid (P14.out.sees s5)
          have P65 := Lib.hid (P64.out.sees s5)
          clear s5 c0 c1 e0 e1
          obtain ⟨d0, d1⟩ := P15.out.cells
          obtain ⟨f0, f1⟩ := P65.out.cells
          have m2 : ∀ i, W5.frozen? ⟨b6, i, none⟩ = false := fun i => frozen_of_row W5 b6 i _ _ P65.out
          go_wp2
          exact bodyPost_ret (results_one rfl rfl (run_loadPl (setP_at P65.out l c))) rfl ⟨by first | rw [HR.out] | (show _ = Ending.returned (plV (ps i)); rw [HR.out]), sees_setP S5.out HBW.out.1 l c⟩
set_option maxHeartbeats 4000000 in
set_option maxRecDepth 100000 in
theorem sh_end_s1 (w : World) (a : Option Addr) (n cp : Nat) (first : Int) (gs : Nat) (ps : Nat → Int × Int) (m : Nat) (B0 : Bool) (μ : Int → Int → Nat)
    (hμ : B0 = true → ∀ i, i < m → μ (ps (i + 1)).1 (ps (i + 1)).2 < μ (ps i).1 (ps i).2)
    (KW0 : ∀ W, Sees w W → Calls Tryd.prog 86 #[.agg #[.slice a n cp, .int .i64 first], plV (ps 0)] W fun e w' => e = .returned (.bool B0) ∧ Sees W w')
    (KS : B0 = true → ∀ i, i < m → ∀ W, Sees w W → Calls Tryd.prog 67 #[plV (ps i), .pointer (some ⟨gs, 0, none⟩)] W fun e w' => e = .returned (.tuple #[plV (ps (i + 1)), .bool true]) ∧ Sees W w')
    (KW : B0 = true → ∀ i, i < m → ∀ W, Sees w W → Calls Tryd.prog 86 #[.agg #[.slice a n cp, .int .i64 first], plV (ps (i + 1))] W fun e w' => e = .returned (.bool true) ∧ Sees W w')
    (KL : B0 = true → ∃ (q : Int × Int) (b : Bool), (∀ W, Sees w W → Calls Tryd.prog 67 #[plV (ps m), .pointer (some ⟨gs, 0, none⟩)] W fun e w' => e = .returned (.tuple #[plV q, .bool b]) ∧ Sees W w') ∧ (b = true → ∀ W, Sees w W → Calls Tryd.prog 86 #[.agg #[.slice a n cp, .int .i64 first], plV q] W fun e w' => e = .returned (.bool false) ∧ Sees W w')) :
    Calls Tryd.prog 66 #[.agg #[.slice a n cp, .int .i64 first], plV (ps 0), .func (.func 67) #[] #[.pointer (some ⟨gs, 0, none⟩)]] w fun e w' => e = .returned (plV (ps (if B0 then m else 0))) ∧ Sees w w' := by
  have KW0 := Lib.hid KW0
  have KS := Lib.hid KS
  have KW := Lib.hid KW
  have KL := Lib.hid KL
  have Hμ := Lib.hid hμ
  clear hμ
  obtain ⟨l, hl⟩ : ∃ l, l = (ps 0).1 := ⟨_, rfl⟩
  obtain ⟨c, hc⟩ : ∃ c, c = (ps 0).2 := ⟨_, rfl⟩
  have HP0 : Hid (ps 0 = (l, c)) := by unfold RowKit.Hid; rw [hl, hc]
  rw [HP0.out] at KW0
  show Calls Tryd.prog 66 #[.agg #[.slice a n cp, .int .i64 first], .agg #[.int .i64 (ps 0).1, .int .i64 (ps 0).2], .func (.func 67) #[] #[.pointer (some ⟨gs, 0, none⟩)]] w _
  rw [← hl, ← hc]
  clear hl hc
  go_enter Tryd.func66, Tryd.ntmps66
  go_upto_region 1 with fail
  refine wp_world fun W1 hW1 => ?_
  have c0 : W1.cell? ⟨w.heap.size, 0, none⟩ = some (.slice a n cp) := by
    subst hW1
    exact (((Sees.refl _).alloc _).alloc _).cell (by rw [cell_of_row _ _ _ _ _ _ (heap_alloc_new w _)]; rfl)
  have c1 : W1.cell? ⟨w.heap.size, 1, none⟩ = some (.int .i64 first) := by
    subst hW1
    exact (((Sees.refl _).alloc _).alloc _).cell (by rw [cell_of_row _ _ _ _ _ _ (heap_alloc_new w _)]; rfl)
  have p1 : PlAt W1 (w.heap.size + 1) l c := by
    subst hW1
    have q := heap_alloc_new (w.alloc (.cells #[.slice a n cp, .int .i64 first] 87)) (.cells #[.int .i64 l, .int .i64 c] 25)
    rw [World.size_alloc] at q
    have q' : PlAt _ _ l c := q
    exact q'.sees ((Sees.refl _).alloc _)
  have p2 : PlAt W1 (w.heap.size + 1 + 1) 0 0 := by
    subst hW1
    have q := heap_alloc_new ((w.alloc (.cells #[.slice a n cp, .int .i64 first] 87)).alloc (.cells #[.int .i64 l, .int .i64 c] 25)) (.cells #[.int .i64 0, .int .i64 0] 25)
    rw [World.size_alloc, World.size_alloc] at q
    exact q
  have s1 : Sees w W1 := by subst hW1; exact (((Sees.refl w).alloc _).alloc _).alloc _
  have C0 := Lib.hid c0
  have C1 := Lib.hid c1
  have P1 := Lib.hid p1
  have P2 := Lib.hid p2
  have S1 := Lib.hid s1
  clear hW1 c0 c1 p1 p2 s1
  obtain ⟨b6, hb6⟩ : ∃ b6, b6 = w.heap.size + 1 + 1 := ⟨_, rfl⟩
  obtain ⟨b4, hb4⟩ : ∃ b4, b4 = w.heap.size + 1 := ⟨_, rfl⟩
  obtain ⟨b3, hb3⟩ : ∃ b3, b3 = w.heap.size := ⟨_, rfl⟩
  have HBW : Hid (w.heap.size ≤ b6 ∧ w.heap.size ≤ b4) := by unfold RowKit.Hid; omega
  have HNE : Hid (b3 ≠ b4 ∧ b6 ≠ b4) := by unfold RowKit.Hid; omega
  rw [← hb6] at P2 ⊢
  rw [← hb4] at P1 ⊢
  rw [← hb3] at C0 C1 ⊢
  clear hb6 hb4 hb3
  obtain ⟨d0, d1⟩ := P1.out.cells
  have c0 := C0.out
  have c1 := C1.out
  go_wp2_with fail
  refine (KW0.out _ S1.out).mono ?_
  rintro ee W2 ⟨rfl, s2⟩
  have S2 := Lib.hid (S1.out.trans s2)
  have P12 := Lib.hid (P1.out.sees s2)
  have P22 := Lib.hid (P2.out.sees s2)
  have C02 := Lib.hid (s2.cell C0.out)
  have C12 := Lib.hid (s2.cell C1.out)
  clear s2 c0 c1 d0 d1 KW0
  cases B0
  · obtain ⟨d0, d1⟩ := P12.out.cells
    obtain ⟨f0, f1⟩ := P22.out.cells
    have m2 : ∀ i, W2.frozen? ⟨b6, i, none⟩ = false := fun i => frozen_of_row W2 b6 i _ _ P22.out
    have HR : Hid (plV (ps (if false = true then m else 0)) = .agg #[.int .i64 l, .int .i64 c]) := by unfold RowKit.Hid; rw [if_neg (by decide), HP0.out]
    go_wp2
    exact bodyPost_ret (results_one rfl rfl (run_loadPl (setP_at P22.out l c))) rfl ⟨by first | rw [HR.out] | (show _ = Ending.returned (plV (ps 0)); rw [HP0.out]), sees_setP S2.out HBW.out.1 l c⟩
  · obtain ⟨ql, bl, hKL, hKM⟩ := KL.out rfl
    have KL1 := Lib.hid hKL
    have KL2 := Lib.hid hKM
    have KS1 := Lib.hid (KS.out rfl)
    have KW1 := Lib.hid (KW.out rfl)
    have HM1 := Lib.hid (Hμ.out rfl)
    clear Hμ
    clear hKL hKM KL KS KW
    go_wp2_with fail
    go_loopw [] (fun W => ∃ (i : Nat) (l c : Int), i ≤ m ∧ Hid (ps i = (l, c)) ∧ PlAt W b4 l c ∧ PlAt W b6 0 0 ∧ W.cell? ⟨b3, 0, none⟩ = some (.slice a n cp) ∧ W.cell? ⟨b3, 1, none⟩ = some (.int .i64 first) ∧ Sees w W) (fun W => plM μ W b4)
    case atStart => exact ⟨0, l, c, Nat.zero_le _, HP0, P12.out, P22.out, C02.out, C12.out, S2.out⟩
    case round =>
      obtain ⟨i, l, c, him, hps, hP, hP6, c0, c1, hS⟩ := hrel
      have HP1 := Lib.hid hP
      have HP6 := Lib.hid hP6
      have HS := Lib.hid hS
      have C03 := Lib.hid c0
      have C13 := Lib.hid c1
      obtain ⟨d0, d1⟩ := hP.cells
      clear hP hP6 hS c0 c1
      by_cases hlt : i < m
      · obtain ⟨l2, hl2⟩ : ∃ l2, l2 = (ps (i + 1)).1 := ⟨_, rfl⟩
        obtain ⟨k2, hk2⟩ : ∃ k2, k2 = (ps (i + 1)).2 := ⟨_, rfl⟩
        have HP2 : Hid (ps (i + 1) = (l2, k2)) := by unfold RowKit.Hid; rw [hl2, hk2]
        have K1 := Lib.hid (KS1.out i hlt)
        have K2 := Lib.hid (KW1.out i hlt)
        have hmu := HM1.out i hlt
        rw [hps.out, HP2.out] at K1
        rw [HP2.out] at K2
        rw [hps.out, HP2.out] at hmu
        have HMU := Lib.hid hmu
        clear hl2 hk2 hmu
        go_wp2_with fail
        refine (K1.out _ HS.out).mono ?_
        rintro ee W3 ⟨rfl, s3⟩
        have S3 := Lib.hid (HS.out.trans s3)
        have P13 := Lib.hid (HP1.out.sees s3)
        have P63 := Lib.hid (HP6.out.sees s3)
        have C04 := Lib.hid (s3.cell C03.out)
        have C14 := Lib.hid (s3.cell C13.out)
        clear s3 d0 d1
        go_upto_region 4 with fail
        refine wp_world fun W4 hW4 => ?_
        have Q4 : Hid (PlAt W4 W3.heap.size l2 k2) := by subst hW4; exact heap_alloc_new W3 _
        have S34 : Hid (Sees W3 W4) := by subst hW4; exact (Sees.refl _).alloc _
        clear hW4
        obtain ⟨b7, hb7⟩ : ∃ b7, b7 = W3.heap.size := ⟨_, rfl⟩
        rw [← hb7] at Q4 ⊢
        have P14 := Lib.hid (P13.out.sees S34.out)
        have P64 := Lib.hid (P63.out.sees S34.out)
        have S4 := Lib.hid (S3.out.trans S34.out)
        have c0 := S34.out.cell C04.out
        have c1 := S34.out.cell C14.out
        obtain ⟨e0, e1⟩ := Q4.out.cells
        have HB7 : Hid (b7 ≠ b4) := by have := (Array.getElem?_eq_some_iff.1 P13.out).1; unfold RowKit.Hid; omega
        clear hb7
        go_wp2_with fail
        refine (K2.out _ S4.out).mono ?_
        rintro ee W5 ⟨rfl, s5⟩
        have S5 := Lib.hid (S4.out.trans s5)
        have P15 := Lib.hid (P14.out.sees s5)
        have P65 := Lib.hid (P64.out.sees s5)
        have C05 := Lib.hid (s5.cell c0)
        have C15 := Lib.hid (s5.cell c1)
        have Q5 := Lib.hid (Q4.out.sees s5)
        clear s5 c0 c1 e0 e1
        obtain ⟨e0, e1⟩ := Q5.out.cells
        obtain ⟨d0, d1⟩ := P15.out.cells
        have m4 : ∀ i, W5.frozen? ⟨b4, i, none⟩ = false := fun i => frozen_of_row W5 b4 i _ _ P15.out
        have HPN := Lib.hid (setP_at P15.out l2 k2)
        have HKP : Hid (Keeps (fun y => y = b4) W5 (setP W5 b4 l2 k2)) := by
          unfold RowKit.Hid
          have q := stQ_keeps W5 b4 l2 k2
          exact Keeps.setCell2 P15.out l2 k2
        have HFR : Hid (PlAt (setP W5 b4 l2 k2) b6 0 0) := P65.out.keeps HKP.out HNE.out.2
        have HF0 : Hid ((setP W5 b4 l2 k2).cell? ⟨b3, 0, none⟩ = some (.slice a n cp)) := HKP.out.cell HNE.out.1 C05.out
        have HF1 : Hid ((setP W5 b4 l2 k2).cell? ⟨b3, 1, none⟩ = some (.int .i64 first)) := HKP.out.cell HNE.out.1 C15.out
        have HFS := Lib.hid (sees_setP S5.out HBW.out.2 l2 k2)
        go_wp2
        exact ⟨⟨i + 1, l2, k2, hlt, HP2, HPN.out, HFR.out, HF0.out, HF1.out, HFS.out⟩, by first | (rw [plM_at HP1.out]; show plM μ (setP W5 b4 l2 k2) b4 < _; rw [plM_at HPN.out]; exact HMU.out) | (show plM μ (setP W5 b4 l2 k2) b4 < plM μ _ b4; rw [plM_at HP1.out, plM_at HPN.out]; exact HMU.out)⟩
      · obtain rfl : i = m := by omega
        obtain ⟨lq, hlq⟩ : ∃ lq, lq = ql.1 := ⟨_, rfl⟩
        obtain ⟨cq, hcq⟩ : ∃ cq, cq = ql.2 := ⟨_, rfl⟩
        have HQ : Hid (ql = (lq, cq)) := by unfold RowKit.Hid; rw [hlq, hcq]
        rw [hps.out, HQ.out] at KL1
        rw [HQ.out] at KL2
        have HR : Hid (plV (ps i) = .agg #[.int .i64 l, .int .i64 c]) := by unfold RowKit.Hid; rw [hps.out]
        clear hlq hcq
        go_wp2_with fail
        refine (KL1.out _ HS.out).mono ?_
        rintro ee W3 ⟨rfl, s3⟩
        have S3 := Lib.hid (HS.out.trans s3)
        have P13 := Lib.hid (HP1.out.sees s3)
        have P63 := Lib.hid (HP6.out.sees s3)
        have C04 := Lib.hid (s3.cell C03.out)
        have C14 := Lib.hid (s3.cell C13.out)
        clear s3 d0 d1
        go_upto_region 4 with fail
        refine wp_world fun W4 hW4 => ?_
        have Q4 : Hid (PlAt W4 W3.heap.size lq cq) := by subst hW4; exact heap_alloc_new W3 _
        have S34 : Hid (Sees W3 W4) := by subst hW4; exact (Sees.refl _).alloc _
        clear hW4
        obtain ⟨b7, hb7⟩ : ∃ b7, b7 = W3.heap.size := ⟨_, rfl⟩
        rw [← hb7] at Q4 ⊢
        have P14 := Lib.hid (P13.out.sees S34.out)
        have P64 := Lib.hid (P63.out.sees S34.out)
        have S4 := Lib.hid (S3.out.trans S34.out)
        have c0 := S34.out.cell C04.out
        have c1 := S34.out.cell C14.out
        clear hb7
        cases bl
        · obtain ⟨d0, d1⟩ := P14.out.cells
          obtain ⟨f0, f1⟩ := P64.out.cells
          have m2 : ∀ i, W4.frozen? ⟨b6, i, none⟩ = false := fun i => frozen_of_row W4 b6 i _ _ P64.out
          go_wp2
          exact bodyPost_ret (results_one rfl rfl (run_loadPl (setP_at P64.out l c))) rfl ⟨by first | rw [HR.out] | (show _ = Ending.returned (plV (ps i)); rw [HR.out]), sees_setP S4.out HBW.out.1 l c⟩
        · have K2 := Lib.hid (KL2.out rfl)
          obtain ⟨e0, e1⟩ := Q4.out.cells
          go_wp2_with fail
          refine (K2.out _ S4.out).mono ?_
          rintro ee W5 ⟨rfl, s5⟩
          have S5 := Lib.hid (S4.out.trans s5)
          have P15 := Lib.hid (P14.out.sees s5)
          have P65 := Lib.hid (P64.out.sees s5)
          clear s5 c0 c1 e0 e1
          obtain ⟨d0, d1⟩ := P15.out.cells
          obtain ⟨f0, f1⟩ := P65.out.cells
          have m2 : ∀ i, W5.frozen? ⟨b6, i, none⟩ = false := fun i => frozen_of_row W5 b6 i _ _ P65.out
          go_wp2
          exact bodyPost_ret (results_one rfl rfl (run_loadPl (setP_at P65.out l c))) rfl ⟨by first | rw [HR.out] | (show _ = Ending.returned (plV (ps i)); rw [HR.out]), sees_setP S5.out HBW.out.1 l c⟩
set_option maxHeartbeats 4000000 in
set_option maxRecDepth 100000 in
theorem sh_end_s2 (w : World) (a : Option Addr) (n cp : Nat) (first : Int) (gs : Nat) (ps : Nat → Int × Int) (m : Nat) (B0 : Bool) (μ : Int → Int → Nat)
    (hμ : B0 = true → ∀ i, i < m → μ (ps (i + 1)).1 (ps (i + 1)).2 < μ (ps i).1 (ps i).2)
    (KW0 : ∀ W, Sees w W → Calls Tryd.prog 86 #[.agg #[.slice a n cp, .int .i64 first], plV (ps 0)] W fun e w' => e = .returned (.bool B0) ∧ Sees W w')
    (KS : B0 = true → ∀ i, i < m → ∀ W, Sees w W → Calls Tryd.prog 69 #[plV (ps i), .pointer (some ⟨gs, 0, none⟩)] W fun e w' => e = .returned (.tuple #[plV (ps (i + 1)), .bool true]) ∧ Sees W w')
    (KW : B0 = true → ∀ i, i < m → ∀ W, Sees w W → Calls Tryd.prog 86 #[.agg #[.slice a n cp, .int .i64 first], plV (ps (i + 1))] W fun e w' => e = .returned (.bool true) ∧ Sees W w')
    (KL : B0 = true → ∃ (q : Int × Int) (b : Bool), (∀ W, Sees w W → Calls Tryd.prog 69 #[plV (ps m), .pointer (some ⟨gs, 0, none⟩)] W fun e w' => e = .returned (.tuple #[plV q, .bool b]) ∧ Sees W w') ∧ (b = true → ∀ W, Sees w W → Calls Tryd.prog 86 #[.agg #[.slice a n cp, .int .i64 first], plV q] W fun e w' => e = .returned (.bool false) ∧ Sees W w')) :
    Calls Tryd.prog 66 #[.agg #[.slice a n cp, .int .i64 first], plV (ps 0), .func (.func 69) #[] #[.pointer (some ⟨gs, 0, none⟩)]] w fun e w' => e = .returned (plV (ps (if B0 then m else 0))) ∧ Sees w w' := by
  have KW0 := Lib.hid KW0
  have KS := Lib.hid KS
  have KW := Lib.hid KW
  have KL := Lib.hid KL
  have Hμ := Lib.hid hμ
  clear hμ
  obtain ⟨l, hl⟩ : ∃ l, l = (ps 0).1 := ⟨_, rfl⟩
  obtain ⟨c, hc⟩ : ∃ c, c = (ps 0).2 := ⟨_, rfl⟩
  have HP0 : Hid (ps 0 = (l, c)) := by unfold RowKit.Hid; rw [hl, hc]
  rw [HP0.out] at KW0
  show Calls Tryd.prog 66 #[.agg #[.slice a n cp, .int .i64 first], .agg #[.int .i64 (ps 0).1, .int .i64 (ps 0).2], .func (.func 69) #[] #[.pointer (some ⟨gs, 0, none⟩)]] w _
  rw [← hl, ← hc]
  clear hl hc
  go_enter Tryd.func66, Tryd.ntmps66
  go_upto_region 1 with fail
  refine wp_world fun W1 hW1 => ?_
  have c0 : W1.cell? ⟨w.heap.size, 0, none⟩ = some (.slice a n cp) := by
    subst hW1
    exact (((Sees.refl _).alloc _).alloc _).cell (by rw [cell_of_row _ _ _ _ _ _ (heap_alloc_new w _)]; rfl)
  have c1 : W1.cell? ⟨w.heap.size, 1, none⟩ = some (.int .i64 first) := by
    subst hW1
    exact (((Sees.refl _).alloc _).alloc _).cell (by rw [cell_of_row _ _ _ _ _ _ (heap_alloc_new w _)]; rfl)
  have p1 : PlAt W1 (w.heap.size + 1) l c := by
    subst hW1
    have q := heap_alloc_new (w.alloc (.cells #[.slice a n cp, .int .i64 first] 87)) (.cells #[.int .i64 l, .int .i64 c] 25)
    rw [World.size_alloc] at q
    have q' : PlAt _ _ l c := q
    exact q'.sees ((Sees.refl _).alloc _)
  have p2 : PlAt W1 (w.heap.size + 1 + 1) 0 0 := by
    subst hW1
    have q := heap_alloc_new ((w.alloc (.cells #[.slice a n cp, .int .i64 first] 87)).alloc (.cells #[.int .i64 l, .int .i64 c] 25)) (.cells #[.int .i64 0, .int .i64 0] 25)
    rw [World.size_alloc, World.size_alloc] at q
    exact q
  have s1 : Sees w W1 := by subst hW1; exact (((Sees.refl w).alloc _).alloc _).alloc _
  have C0 := Lib.hid c0
  have C1 := Lib.hid c1
  have P1 := Lib.hid p1
  have P2 := Lib.hid p2
  have S1 := Lib.hid s1
  clear hW1 c0 c1 p1 p2 s1
  obtain ⟨b6, hb6⟩ : ∃ b6, b6 = w.heap.size + 1 + 1 := ⟨_, rfl⟩
  obtain ⟨b4, hb4⟩ : ∃ b4, b4 = w.heap.size + 1 := ⟨_, rfl⟩
  obtain ⟨b3, hb3⟩ : ∃ b3, b3 = w.heap.size := ⟨_, rfl⟩
  have HBW : Hid (w.heap.size ≤ b6 ∧ w.heap.size ≤ b4) := by unfold RowKit.Hid; omega
  have HNE : Hid (b3 ≠ b4 ∧ b6 ≠ b4) := by unfold RowKit.Hid; omega
  rw [← hb6] at P2 ⊢
  rw [← hb4] at P1 ⊢
  rw [← hb3] at C0 C1 ⊢
  clear hb6 hb4 hb3
  obtain ⟨d0, d1⟩ := P1.out.cells
  have c0 := C0.out
  have c1 := C1.out
  go_wp2_with fail
  refine (KW0.out _ S1.out).mono ?_
  rintro ee W2 ⟨rfl, s2⟩
  have S2 := Lib.hid (S1.out.trans s2)
  have P12 := Lib.hid (P1.out.sees s2)
  have P22 := Lib.hid (P2.out.sees s2)
  have C02 := Lib.hid (s2.cell C0.out)
  have C12 := Lib.hid (s2.cell C1.out)
  clear s2 c0 c1 d0 d1 KW0
  cases B0
  · obtain ⟨d0, d1⟩ := P12.out.cells
    obtain ⟨f0, f1⟩ := P22.out.cells
    have m2 : ∀ i, W2.frozen? ⟨b6, i, none⟩ = false := fun i => frozen_of_row W2 b6 i _ _ P22.out
    have HR : Hid (plV (ps (if false = true then m else 0)) = .agg #[.int .i64 l, .int .i64 c]) := by unfold RowKit.Hid; rw [if_neg (by decide), HP0.out]
    go_wp2
    exact bodyPost_ret (results_one rfl rfl (run_loadPl (setP_at P22.out l c))) rfl ⟨by first | rw [HR.out] | (show _ = Ending.returned (plV (ps 0)); rw [HP0.out]), sees_setP S2.out HBW.out.1 l c⟩
  · obtain ⟨ql, bl, hKL, hKM⟩ := KL.out rfl
    have KL1 := Lib.hid hKL
    have KL2 := Lib.hid hKM
    have KS1 := Lib.hid (KS.out rfl)
    have KW1 := Lib.hid (KW.out rfl)
    have HM1 := Lib.hid (Hμ.out rfl)
    clear Hμ
    clear hKL hKM KL KS KW
    go_wp2_with fail
    go_loopw [] (fun W => ∃ (i : Nat) (l c : Int), i ≤ m ∧ Hid (ps i = (l, c)) ∧ PlAt W b4 l c ∧ PlAt W b6 0 0 ∧ W.cell? ⟨b3, 0, none⟩ = some (.slice a n cp) ∧ W.cell? ⟨b3, 1, none⟩ = some (.int .i64 first) ∧ Sees w W) (fun W => plM μ W b4)
    case atStart => exact ⟨0, l, c, Nat.zero_le _, HP0, P12.out, P22.out, C02.out, C12.out, S2.out⟩
    case round =>
      obtain ⟨i, l, c, him, hps, hP, hP6, c0, c1, hS⟩ := hrel
      have HP1 := Lib.hid hP
      have HP6 := Lib.hid hP6
      have HS := Lib.hid hS
      have C03 := Lib.hid c0
      have C13 := Lib.hid c1
      obtain ⟨d0, d1⟩ := hP.cells
      clear hP hP6 hS c0 c1
      by_cases hlt : i < m
      · obtain ⟨l2, hl2⟩ : ∃ l2, l2 = (ps (i + 1)).1 := ⟨_, rfl⟩
        obtain ⟨k2, hk2⟩ : ∃ k2, k2 = (ps (i + 1)).2 := ⟨_, rfl⟩
        have HP2 : Hid (ps (i + 1) = (l2, k2)) := by unfold RowKit.Hid; rw [hl2, hk2]
        have K1 := Lib.hid (KS1.out i hlt)
        have K2 := Lib.hid (KW1.out i hlt)
        have hmu := HM1.out i hlt
        rw [hps.out, HP2.out] at K1
        rw [HP2.out] at K2
        rw [hps.out, HP2.out] at hmu
        have HMU := Lib.hid hmu
        clear hl2 hk2 hmu
        go_wp2_with fail
        refine (K1.out _ HS.out).mono ?_
        rintro ee W3 ⟨rfl, s3⟩
        have S3 := Lib.hid (HS.out.trans s3)
        have P13 := Lib.hid (HP1.out.sees s3)
        have P63 := Lib.hid (HP6.out.sees s3)
        have C04 := Lib.hid (s3.cell C03.out)
        have C14 := Lib.hid (s3.cell C13.out)
        clear s3 d0 d1
        go_upto_region 4 with fail
        refine wp_world fun W4 hW4 => ?_
        have Q4 : Hid (PlAt W4 W3.heap.size l2 k2) := by subst hW4; exact heap_alloc_new W3 _
        have S34 : Hid (Sees W3 W4) := by subst hW4; exact (Sees.refl _).alloc _
        clear hW4
        obtain ⟨b7, hb7⟩ : ∃ b7, b7 = W3.heap.size := ⟨_, rfl⟩
        rw [← hb7] at Q4 ⊢
        have P14 := Lib.hid (P13.out.sees S34.out)
        have P64 := Lib.hid (P63.out.sees S34.out)
        have S4 := Lib.hid (S3.out.trans S34.out)
        have c0 := S34.out.cell C04.out
        have c1 := S34.out.cell C14.out
        obtain ⟨e0, e1⟩ := Q4.out.cells
        have HB7 : Hid (b7 ≠ b4) := by have := (Array.getElem?_eq_some_iff.1 P13.out).1; unfold RowKit.Hid; omega
        clear hb7
        go_wp2_with fail
        refine (K2.out _ S4.out).mono ?_
        rintro ee W5 ⟨rfl, s5⟩
        have S5 := Lib.hid (S4.out.trans s5)
        have P15 := Lib.hid (P14.out.sees s5)
        have P65 := Lib.hid (P64.out.sees s5)
        have C05 := Lib.hid (s5.cell c0)
        have C15 := Lib.hid (s5.cell c1)
        have Q5 := Lib.hid (Q4.out.sees s5)
        clear s5 c0 c1 e0 e1
        obtain ⟨e0, e1⟩ := Q5.out.cells
        obtain ⟨d0, d1⟩ := P15.out.cells
        have m4 : ∀ i, W5.frozen? ⟨b4, i, none⟩ = false := fun i => frozen_of_row W5 b4 i _ _ P15.out
        have HPN := Lib.hid (setP_at P15.out l2 k2)
        have HKP : Hid (Keeps (fun y => y = b4) W5 (setP W5 b4 l2 k2)) := by
          unfold RowKit.Hid
          have q := stQ_keeps W5 b4 l2 k2
          exact Keeps.setCell2 P15.out l2 k2
        have HFR : Hid (PlAt (setP W5 b4 l2 k2) b6 0 0) := P65.out.keeps HKP.out HNE.out.2
        have HF0 : Hid ((setP W5 b4 l2 k2).cell? ⟨b3, 0, none⟩ = some (.slice a n cp)) := HKP.out.cell HNE.out.1 C05.out
        have HF1 : Hid ((setP W5 b4 l2 k2).cell? ⟨b3, 1, none⟩ = some (.int .i64 first)) := HKP.out.cell HNE.out.1 C15.out
        have HFS := Lib.hid (sees_setP S5.out HBW.out.2 l2 k2)
        go_wp2
        exact ⟨⟨i + 1, l2, k2, hlt, HP2, HPN.out, HFR.out, HF0.out, HF1.out, HFS.out⟩, by first | (rw [plM_at HP1.out]; show plM μ (setP W5 b4 l2 k2) b4 < _; rw [plM_at HPN.out]; exact HMU.out) | (show plM μ (setP W5 b4 l2 k2) b4 < plM μ _ b4; rw [plM_at HP1.out, plM_at HPN.out]; exact HMU.out)⟩
      · obtain rfl : i = m := by omega
        obtain ⟨lq, hlq⟩ : ∃ lq, lq = ql.1 := ⟨_, rfl⟩
        obtain ⟨cq, hcq⟩ : ∃ cq, cq = ql.2 := ⟨_, rfl⟩
        have HQ : Hid (ql = (lq, cq)) := by unfold RowKit.Hid; rw [hlq, hcq]
        rw [hps.out, HQ.out] at KL1
        rw [HQ.out] at KL2
        have HR : Hid (plV (ps i) = .agg #[.int .i64 l, .int .i64 c]) := by unfold RowKit.Hid; rw [hps.out]
        clear hlq hcq
        go_wp2_with fail
        refine (KL1.out _ HS.out).mono ?_
        rintro ee W3 ⟨rfl, s3⟩
        have S3 := Lib.hid (HS.out.trans s3)
        have P13 := Lib.hid (HP1.out.sees s3)
        have P63 := Lib.hid (HP6.out.sees s3)
        have C04 := Lib.hid (s3.cell C03.out)
        have C14 := Lib.hid (s3.cell C13.out)
        clear s3 d0 d1
        go_upto_region 4 with fail
        refine wp_world fun W4 hW4 => ?_
        have Q4 : Hid (PlAt W4 W3.heap.size lq cq) := by subst hW4; exact heap_alloc_new W3 _
        have S34 : Hid (Sees W3 W4) := by subst hW4; exact (Sees.refl _).alloc _
        clear hW4
        obtain ⟨b7, hb7⟩ : ∃ b7, b7 = W3.heap.size := ⟨_, rfl⟩
        rw [← hb7] at Q4 ⊢
        have P14 := Lib.hid (P13.out.sees S34.out)
        have P64 := Lib.hid (P63.out.sees S34.out)
        have S4 := Lib.hid (S3.out.trans S34.out)
        have c0 := S34.out.cell C04.out
        have c1 := S34.out.cell C14.out
        clear hb7
        cases bl
        · obtain ⟨d0, d1⟩ := P14.out.cells
          obtain ⟨f0, f1⟩ := P64.out.cells
          have m2 : ∀ i, W4.frozen? ⟨b6, i, none⟩ = false := fun i => frozen_of_row W4 b6 i _ _ P64.out
          go_wp2
          exact bodyPost_ret (results_one rfl rfl (run_loadPl (setP_at P64.out l c))) rfl ⟨by first | rw [HR.out] | (show _ = Ending.returned (plV (ps i)); rw [HR.out]), sees_setP S4.out HBW.out.1 l c⟩
        · have K2 := Lib.hid (KL2.out rfl)
          obtain ⟨e0, e1⟩ := Q4.out.cells
          go_wp2_with fail
          refine (K2.out _ S4.out).mono ?_
          rintro ee W5 ⟨rfl, s5⟩
          have S5 := Lib.hid (S4.out.trans s5)
          have P15 := Lib.hid (P14.out.sees s5)
          have P65 := Lib.hid (P64.out.sees s5)
          clear s5 c0 c1 e0 e1
          obtain ⟨d0, d1⟩ := P15.out.cells
          obtain ⟨f0, f1⟩ := P65.out.cells
          have m2 : ∀ i, W5.frozen? ⟨b6, i, none⟩ = false := fun i => frozen_of_row W5 b6 i _ _ P65.out
          go_wp2
          exact bodyPost_ret (results_one rfl rfl (run_loadPl (setP_at P65.out l c))) rfl ⟨by first | rw [HR.out] | (show _ = Ending.returned (plV (ps i)); rw [HR.out]), sees_setP S5.out HBW.out.1 l c⟩
end Go.Proofs.YtooiiefipdjbjaaDoor

namespace Go.Proofs.YtooiiefipdjbjaaDoor
set_option linter.unusedVariables false
set_option linter.unusedSimpArgs false
open Go.RowKit
attribute [local go_sem] Oper.semAt_some

set_option maxHeartbeats 2000000 in
set_option maxRecDepth 100000 in
theorem sh_s1 (w : World) (sv : Value) (first : Int) (gs : Nat) (l c l' c' : Int) (t : Bool) (a : Option Addr) (n cp : Nat) (hsv : sv = .slice a n cp) (g0 : w.cell? ⟨gs, 0, none⟩ = some sv) (g1 : w.cell? ⟨gs, 1, none⟩ = some (.int .i64 first))
    (K : ∀ W, Sees w W → Calls Tryd.prog 68 #[.agg #[sv, .int .i64 first], .agg #[.int .i64 l, .int .i64 c]] W fun e w' => e = .returned (.tuple #[.agg #[.int .i64 l', .int .i64 c'], .bool t]) ∧ Sees W w') :
    Calls Tryd.prog 67 #[.agg #[.int .i64 l, .int .i64 c], .pointer (some ⟨gs, 0, none⟩)] w fun e w' => e = .returned (.tuple #[.agg #[.int .i64 l', .int .i64 c'], .bool t]) ∧ Sees w w' := by
  subst hsv
  have HK := Lib.hid K
  clear K
  go_enter Tryd.func67, Tryd.ntmps67
  go_upto_region 1 with fail
  refine wp_world fun W1 hW1 => ?_
  have p1 : PlAt W1 w.heap.size l c := by
    subst hW1
    have q : PlAt _ _ l c := heap_alloc_new w _
    exact q.sees ((Sees.refl _).alloc _)
  have p2 : PlAt W1 (w.heap.size + 1) 0 0 := by
    subst hW1
    have q := heap_alloc_new (w.alloc (.cells #[.int .i64 l, .int .i64 c] 25)) (.cells #[.int .i64 0, .int .i64 0] 25)
    rw [World.size_alloc] at q
    exact q
  have s1 : Sees w W1 := by subst hW1; exact ((Sees.refl w).alloc _).alloc _
  have P2 := Lib.hid p2
  have S1 := Lib.hid s1
  have c0 := s1.cell g0
  have c1 := s1.cell g1
  clear hW1 s1 g0 g1
  obtain ⟨d0, d1⟩ := p1.cells
  obtain ⟨b3, hb3⟩ : ∃ b3, b3 = w.heap.size + 1 := ⟨_, rfl⟩
  obtain ⟨b2, hb2⟩ : ∃ b2, b2 = w.heap.size := ⟨_, rfl⟩
  have HB : Hid (w.heap.size ≤ b3) := by unfold RowKit.Hid; omega
  rw [← hb3] at P2 ⊢
  rw [← hb2] at d0 d1 ⊢
  clear hb3 hb2 p1 p2
  go_wp2_with fail
  refine (HK.out _ S1.out).mono ?_
  rintro ee W2 ⟨rfl, s2⟩
  have S2 := Lib.hid (S1.out.trans s2)
  have P22 := Lib.hid (P2.out.sees s2)
  clear s2 c0 c1 d0 d1
  have m2 : ∀ i, W2.frozen? ⟨b3, i, none⟩ = false := fun i => frozen_of_row W2 b3 i _ _ P22.out
  obtain ⟨f0, f1⟩ := P22.out.cells
  go_wp2
  exact bodyPost_ret (results_pt rfl rfl rfl (setP_at P22.out l' c')) rfl ⟨rfl, sees_setP S2.out HB.out l' c'⟩
set_option maxHeartbeats 2000000 in
set_option maxRecDepth 100000 in
theorem sh_s2 (w : World) (sv : Value) (first : Int) (gs : Nat) (l c l' c' : Int) (t : Bool) (a : Option Addr) (n cp : Nat) (hsv : sv = .slice a n cp) (g0 : w.cell? ⟨gs, 0, none⟩ = some sv) (g1 : w.cell? ⟨gs, 1, none⟩ = some (.int .i64 first))
    (K : ∀ W, Sees w W → Calls Tryd.prog 70 #[.agg #[sv, .int .i64 first], .agg #[.int .i64 l, .int .i64 c]] W fun e w' => e = .returned (.tuple #[.agg #[.int .i64 l', .int .i64 c'], .bool t]) ∧ Sees W w') :
    Calls Tryd.prog 69 #[.agg #[.int .i64 l, .int .i64 c], .pointer (some ⟨gs, 0, none⟩)] w fun e w' => e = .returned (.tuple #[.agg #[.int .i64 l', .int .i64 c'], .bool t]) ∧ Sees w w' := by
  subst hsv
  have HK := Lib.hid K
  clear K
  go_enter Tryd.func69, Tryd.ntmps69
  go_upto_region 1 with fail
  refine wp_world fun W1 hW1 => ?_
  have p1 : PlAt W1 w.heap.size l c := by
    subst hW1
    have q : PlAt _ _ l c := heap_alloc_new w _
    exact q.sees ((Sees.refl _).alloc _)
  have p2 : PlAt W1 (w.heap.size + 1) 0 0 := by
    subst hW1
    have q := heap_alloc_new (w.alloc (.cells #[.int .i64 l, .int .i64 c] 25)) (.cells #[.int .i64 0, .int .i64 0] 25)
    rw [World.size_alloc] at q
    exact q
  have s1 : Sees w W1 := by subst hW1; exact ((Sees.refl w).alloc _).alloc _
  have P2 := Lib.hid p2
  have S1 := Lib.hid s1
  have c0 := s1.cell g0
  have c1 := s1.cell g1
  clear hW1 s1 g0 g1
  obtain ⟨d0, d1⟩ := p1.cells
  obtain ⟨b3, hb3⟩ : ∃ b3, b3 = w.heap.size + 1 := ⟨_, rfl⟩
  obtain ⟨b2, hb2⟩ : ∃ b2, b2 = w.heap.size := ⟨_, rfl⟩
  have HB : Hid (w.heap.size ≤ b3) := by unfold RowKit.Hid; omega
  rw [← hb3] at P2 ⊢
  rw [← hb2] at d0 d1 ⊢
  clear hb3 hb2 p1 p2
  go_wp2_with fail
  refine (HK.out _ S1.out).mono ?_
  rintro ee W2 ⟨rfl, s2⟩
  have S2 := Lib.hid (S1.out.trans s2)
  have P22 := Lib.hid (P2.out.sees s2)
  clear s2 c0 c1 d0 d1
  have m2 : ∀ i, W2.frozen? ⟨b3, i, none⟩ = false := fun i => frozen_of_row W2 b3 i _ _ P22.out
  obtain ⟨f0, f1⟩ := P22.out.cells
  go_wp2
  exact bodyPost_ret (results_pt rfl rfl rfl (setP_at P22.out l' c')) rfl ⟨rfl, sees_setP S2.out HB.out l' c'⟩
end Go.Proofs.YtooiiefipdjbjaaDoor

namespace Go.Proofs.YtooiiefipdjbjaaDoor
set_option linter.unusedVariables false
set_option linter.unusedSimpArgs false
open Go.RowKit
attribute [local go_sem] Oper.semAt_some

theorem results_ppt {fn : Func} {tmps : Array Value} {W : World} {i j k b b' : Nat} {l c l' c' : Int} {v : Value} (hr : fn.results = #[.cell i 25, .cell j 25, .tmp k]) (hi : tmps[i]?.getD undef = .pointer (some ⟨b, 0, none⟩)) (hj : tmps[j]?.getD undef = .pointer (some ⟨b', 0, none⟩)) (hk : tmps[k]?.getD undef = v) (h : PlAt W b l c) (h' : PlAt W b' l' c') :
    (results fn tmps).run Tryd.prog W = .ok (.tuple #[.agg #[.int .i64 l, .int .i64 c], .agg #[.int .i64 l', .int .i64 c'], v]) W := by
  have h1 := run_loadPl h
  have h2 := run_loadPl h'
  unfold results
  rw [hr]
  simp [hi, hj, hk, asAddr, h1, h2]
set_option maxHeartbeats 4000000 in
set_option maxRecDepth 100000 in
theorem word_ok (w : World) (a : Option Addr) (n cp : Nat) (first l c la ca lb cb : Int)
    (KO : ∀ W, Sees w W → Calls Tryd.prog 51 #[.slice a n cp, .int .i64 first] W fun e w' => e = .returned (.tuple #[.agg #[.slice a n cp, .int .i64 first], .int .i64 0]) ∧ Sees W w')
    (KI : ∀ W, Sees w W → Calls Tryd.prog 39 #[.agg #[.slice a n cp, .int .i64 first], .agg #[.int .i64 l, .int .i64 c]] W fun e w' => e = .returned (.bool true) ∧ Sees W w')
    (KE1 : ∀ W, Sees w W → Calls Tryd.prog 66 #[.agg #[.slice a n cp, .int .i64 first], .agg #[.int .i64 l, .int .i64 c], .func (.func 68) #[.agg #[.slice a n cp, .int .i64 first]] #[]] W fun e w' => e = .returned (.agg #[.int .i64 la, .int .i64 ca]) ∧ Sees W w')
    (KE2 : ∀ W, Sees w W → Calls Tryd.prog 66 #[.agg #[.slice a n cp, .int .i64 first], .agg #[.int .i64 l, .int .i64 c], .func (.func 70) #[.agg #[.slice a n cp, .int .i64 first]] #[]] W fun e w' => e = .returned (.agg #[.int .i64 lb, .int .i64 cb]) ∧ Sees W w') :
    Calls Tryd.prog 43 #[.slice a n cp, .int .i64 first, .agg #[.int .i64 l, .int .i64 c]] w fun e w' => e = .returned (.tuple #[.agg #[.int .i64 la, .int .i64 ca], .agg #[.int .i64 lb, .int .i64 cb], .int .i64 0]) ∧ Sees w w' := by
  have KO := Lib.hid KO
  have KI := Lib.hid KI
  have KE1 := Lib.hid KE1
  have KE2 := Lib.hid KE2
  go_enter Tryd.func43, Tryd.ntmps43
  go_upto_region 1 with fail
  refine wp_world fun W1 hW1 => ?_
  have p0 : PlAt W1 w.heap.size l c := by
    subst hW1
    have q : PlAt _ _ l c := heap_alloc_new w _
    exact q.sees (((Sees.refl _).alloc _).alloc _)
  have p1 : PlAt W1 (w.heap.size + 1) 0 0 := by
    subst hW1
    have q := heap_alloc_new (w.alloc (.cells #[.int .i64 l, .int .i64 c] 25)) (.cells #[.int .i64 0, .int .i64 0] 25)
    rw [World.size_alloc] at q
    have q' : PlAt _ _ 0 0 := q
    exact q'.sees ((Sees.refl _).alloc _)
  have p2 : PlAt W1 (w.heap.size + 1 + 1) 0 0 := by
    subst hW1
    have q := heap_alloc_new ((w.alloc (.cells #[.int .i64 l, .int .i64 c] 25)).alloc (.cells #[.int .i64 0, .int .i64 0] 25)) (.cells #[.int .i64 0, .int .i64 0] 25)
    rw [World.size_alloc, World.size_alloc] at q
    exact q
  have s1 : Sees w W1 := by subst hW1; exact (((Sees.refl w).alloc _).alloc _).alloc _
  have P0 := Lib.hid p0
  have P1 := Lib.hid p1
  have P2 := Lib.hid p2
  have S1 := Lib.hid s1
  clear hW1 p0 p1 p2 s1
  obtain ⟨b7, hb7⟩ : ∃ b7, b7 = w.heap.size + 1 + 1 := ⟨_, rfl⟩
  obtain ⟨b6, hb6⟩ : ∃ b6, b6 = w.heap.size + 1 := ⟨_, rfl⟩
  obtain ⟨b5, hb5⟩ : ∃ b5, b5 = w.heap.size := ⟨_, rfl⟩
  have HB : Hid (w.heap.size ≤ b6 ∧ w.heap.size ≤ b7) := by unfold RowKit.Hid; omega
  have HNE : Hid (b5 ≠ b6 ∧ b5 ≠ b7 ∧ b6 ≠ b7) := by unfold RowKit.Hid; omega
  rw [← hb7] at P2 ⊢
  rw [← hb6] at P1 ⊢
  rw [← hb5] at P0 ⊢
  clear hb7 hb6 hb5
  go_wp2_with fail
  refine (KO.out _ S1.out).mono ?_
  rintro ee W2 ⟨rfl, s2⟩
  have S2 := Lib.hid (S1.out.trans s2)
  have P02 := Lib.hid (P0.out.sees s2)
  have P12 := Lib.hid (P1.out.sees s2)
  have P22 := Lib.hid (P2.out.sees s2)
  clear s2 KO
  go_upto_block 0 with fail
  refine wp_world fun W3 hW3 => ?_
  have c0 : W3.cell? ⟨W2.heap.size, 0, none⟩ = some (.slice a n cp) := by subst hW3; rw [cell_of_row _ _ _ _ _ _ (heap_alloc_new W2 _)]; rfl
  have c1 : W3.cell? ⟨W2.heap.size, 1, none⟩ = some (.int .i64 first) := by subst hW3; rw [cell_of_row _ _ _ _ _ _ (heap_alloc_new W2 _)]; rfl
  have s3 : Sees W2 W3 := by subst hW3; exact (Sees.refl _).alloc _
  have HB9 : Hid (W2.heap.size ≠ b6 ∧ W2.heap.size ≠ b7) := by
    have := (Array.getElem?_eq_some_iff.1 P12.out).1
    have := (Array.getElem?_eq_some_iff.1 P22.out).1
    unfold RowKit.Hid
    omega
  obtain ⟨b9, hb9⟩ : ∃ b9, b9 = W2.heap.size := ⟨_, rfl⟩
  rw [← hb9] at c0 c1 HB9 ⊢
  have S3 := Lib.hid (S2.out.trans s3)
  have P03 := Lib.hid (P02.out.sees s3)
  have P13 := Lib.hid (P12.out.sees s3)
  have P23 := Lib.hid (P22.out.sees s3)
  have C03 := Lib.hid c0
  have C13 := Lib.hid c1
  obtain ⟨d0, d1⟩ := P03.out.cells
  clear hW3 hb9 s3
  go_wp2_with fail
  refine (KI.out _ S3.out).mono ?_
  rintro ee W4 ⟨rfl, s4⟩
  have S4 := Lib.hid (S3.out.trans s4)
  have P04 := Lib.hid (P03.out.sees s4)
  have P14 := Lib.hid (P13.out.sees s4)
  have P24 := Lib.hid (P23.out.sees s4)
  have C04 := Lib.hid (s4.cell C03.out)
  have C14 := Lib.hid (s4.cell C13.out)
  clear s4 c0 c1 d0 d1 KI
  go_upto_region 6 with fail
  refine wpH_go (fun b => b = b6 ∨ b = b7) 13 (by kernel_rfl) (by kernel_rfl) (by rfl) (fun hB w9 hs9 => ?_)
  have S9 := Lib.hid (S4.out.trans hs9)
  have P09 := Lib.hid (P04.out.sees hs9)
  have P19 := Lib.hid (P14.out.sees hs9)
  have P29 := Lib.hid (P24.out.sees hs9)
  have C09 := Lib.hid (hs9.cell C04.out)
  have C19 := Lib.hid (hs9.cell C14.out)
  clear hs9
  have hS0 : Keeps (fun b => b = b6 ∨ b = b7) w9 w9 := Keeps.refl _ w9
  have hn9 : ¬ (b9 = b6 ∨ b9 = b7) := fun h => h.elim HB9.out.1 HB9.out.2
  have hn5 : ¬ (b5 = b6 ∨ b5 = b7) := fun h => h.elim HNE.out.1 HNE.out.2.1
  have N9 := Lib.hid hn9
  have N5 := Lib.hid hn5
  clear hn9 hn5
  refine wpH_take (i := 0) (v := .agg #[.slice a n cp, .int .i64 first]) hB (by rfl) (by kernel_rfl) (fun _ _ _ _ _ h => h) (by rfl) hS0 (fun W hI => by have q0 := hI.cell N9.out C09.out; have q1 := hI.cell N9.out C19.out; go_simp) ?_; (try simp only [Act.put, List.setIfInBounds_toArray, List.set_cons_zero, List.set_cons_succ])
  refine wpH_take (i := 1) (v := .agg #[.int .i64 l, .int .i64 c]) hB (by rfl) (by kernel_rfl) (fun _ _ _ _ _ h => h) (by rfl) hS0 (fun W hI => by obtain ⟨q0, q1⟩ := (P09.out.keeps hI N5.out).cells; go_simp) ?_; (try simp only [Act.put, List.setIfInBounds_toArray, List.set_cons_zero, List.set_cons_succ])
  refine wpH_take (i := 2) (v := .agg #[.slice a n cp, .int .i64 first]) hB (by rfl) (by kernel_rfl) (fun _ _ _ _ _ h => h) (by rfl) hS0 (fun W hI => by have q0 := hI.cell N9.out C09.out; have q1 := hI.cell N9.out C19.out; go_simp) ?_; (try simp only [Act.put, List.setIfInBounds_toArray, List.set_cons_zero, List.set_cons_succ])
  refine wpH_take (i := 3) (v := .func (.func 68) #[.agg #[.slice a n cp, .int .i64 first]] #[]) hB (by rfl) (by kernel_rfl) (fun _ _ _ _ _ h => h) (by rfl) hS0 (fun W hI => by clear hI; go_simp) ?_; (try simp only [Act.put, List.setIfInBounds_toArray, List.set_cons_zero, List.set_cons_succ])
  refine wpH_take (i := 5) (v := .agg #[.slice a n cp, .int .i64 first]) hB (by rfl) (by kernel_rfl) (fun _ _ _ _ _ h => h) (by rfl) hS0 (fun W hI => by have q0 := hI.cell N9.out C09.out; have q1 := hI.cell N9.out C19.out; go_simp) ?_; (try simp only [Act.put, List.setIfInBounds_toArray, List.set_cons_zero, List.set_cons_succ])
  refine wpH_take (i := 6) (v := .agg #[.int .i64 l, .int .i64 c]) hB (by rfl) (by kernel_rfl) (fun _ _ _ _ _ h => h) (by rfl) hS0 (fun W hI => by obtain ⟨q0, q1⟩ := (P09.out.keeps hI N5.out).cells; go_simp) ?_; (try simp only [Act.put, List.setIfInBounds_toArray, List.set_cons_zero, List.set_cons_succ])
  refine wpH_take (i := 7) (v := .agg #[.slice a n cp, .int .i64 first]) hB (by rfl) (by kernel_rfl) (fun _ _ _ _ _ h => h) (by rfl) hS0 (fun W hI => by have q0 := hI.cell N9.out C09.out; have q1 := hI.cell N9.out C19.out; go_simp) ?_; (try simp only [Act.put, List.setIfInBounds_toArray, List.set_cons_zero, List.set_cons_succ])
  refine wpH_take (i := 8) (v := .func (.func 70) #[.agg #[.slice a n cp, .int .i64 first]] #[]) hB (by rfl) (by kernel_rfl) (fun _ _ _ _ _ h => h) (by rfl) hS0 (fun W hI => by clear hI; go_simp) ?_; (try simp only [Act.put, List.setIfInBounds_toArray, List.set_cons_zero, List.set_cons_succ])
  refine wpH_one (i := 4) (by kernel_rfl) (wpOp_enter (fn := 66) (args := #[.agg #[.slice a n cp, .int .i64 first], .agg #[.int .i64 l, .int .i64 c], .func (.func 68) #[.agg #[.slice a n cp, .int .i64 first]] #[]]) (by rfl) (by rfl) (by go_simp) ((KE1.out w9 S9.out).mono ?_))
  rintro ee w11 ⟨rfl, hs⟩
  have hS1 := hS0.trans (Keeps.of_sees hs)
  refine ⟨_, rfl, hS1, ?_⟩
  (try simp only [Act.put, List.setIfInBounds_toArray, List.set_cons_zero, List.set_cons_succ])
  have S11 := Lib.hid (S9.out.trans hs)
  have P111 := Lib.hid (P19.out.sees hs)
  have P211 := Lib.hid (P29.out.sees hs)
  clear hs hS0
  have hS0 := hS1
  clear hS1
  refine wpH_one (i := 9) (by kernel_rfl) (wpOp_enter (fn := 66) (args := #[.agg #[.slice a n cp, .int .i64 first], .agg #[.int .i64 l, .int .i64 c], .func (.func 70) #[.agg #[.slice a n cp, .int .i64 first]] #[]]) (by rfl) (by rfl) (by go_simp) ((KE2.out w11 S11.out).mono ?_))
  rintro ee w12 ⟨rfl, hs⟩
  have hS1 := hS0.trans (Keeps.of_sees hs)
  refine ⟨_, rfl, hS1, ?_⟩
  (try simp only [Act.put, List.setIfInBounds_toArray, List.set_cons_zero, List.set_cons_succ])
  have S12 := Lib.hid (S11.out.trans hs)
  have P112 := Lib.hid (P111.out.sees hs)
  have P212 := Lib.hid (P211.out.sees hs)
  clear hs hS0
  have hS0 := hS1
  clear hS1
  have k6 : Keeps (fun b => b = b6 ∨ b = b7) w12 (stQ w12 b6 la ca) := (stQ_keeps w12 b6 la ca).mono (fun _ _ h => .inl h)
  refine wpH_one (i := 10) (by kernel_rfl) (wpOp_skip (w' := stQ w12 b6 la ca) (by rfl) (wanted_none (by rfl) _) (exec_store (a := .pointer (some ⟨b6, 0, none⟩)) (v := .agg #[.int .i64 la, .int .i64 ca]) rfl (by go_simp) (by go_simp) (run_storeQ P112.out la ca)) ⟨hS0.trans k6, ?_⟩)
  (try simp only [Act.put, List.setIfInBounds_toArray, List.set_cons_zero, List.set_cons_succ])
  have Q6 := Lib.hid (stQ_at P112.out la ca)
  have Q7 := Lib.hid (P212.out.keeps (stQ_keeps w12 b6 la ca) (fun h => HNE.out.2.2 (Eq.symm h)))
  have SA : Hid (Sees w (stQ w12 b6 la ca)) := by
    unfold RowKit.Hid stQ
    exact ((Keeps.of_sees (F := fun _ => False) S12.out).setRow' HB.out.1 _).sees_end (fun _ _ h => h)
  have hS1 := hS0.trans k6
  clear hS0 k6
  obtain ⟨w13, h13⟩ : ∃ w13, w13 = stQ w12 b6 la ca := ⟨_, rfl⟩
  rw [← h13] at Q6 Q7 SA hS1 ⊢
  clear h13
  have k7 : Keeps (fun b => b = b6 ∨ b = b7) w13 (stQ w13 b7 lb cb) := (stQ_keeps w13 b7 lb cb).mono (fun _ _ h => .inr h)
  refine wpH_one (i := 11) (by kernel_rfl) (wpOp_skip (w' := stQ w13 b7 lb cb) (by rfl) (wanted_none (by rfl) _) (exec_store (a := .pointer (some ⟨b7, 0, none⟩)) (v := .agg #[.int .i64 lb, .int .i64 cb]) rfl (by go_simp) (by go_simp) (run_storeQ Q7.out lb cb)) ⟨hS1.trans k7, ?_⟩)
  (try simp only [Act.put, List.setIfInBounds_toArray, List.set_cons_zero, List.set_cons_succ])
  have R7 := Lib.hid (stQ_at Q7.out lb cb)
  have R6 := Lib.hid (Q6.out.keeps (stQ_keeps w13 b7 lb cb) (fun h => HNE.out.2.2 h))
  have SB : Hid (Sees w (stQ w13 b7 lb cb)) := by
    unfold RowKit.Hid stQ
    exact ((Keeps.of_sees (F := fun _ => False) SA.out).setRow' HB.out.2 _).sees_end (fun _ _ h => h)
  have hS0 := hS1.trans k7
  clear hS1 k7
  refine wpH_take (i := 12) (v := .int .i64 0) hB (by rfl) (by kernel_rfl) (fun _ _ _ _ _ h => h) (by rfl) hS0 (fun W hI => by clear hI; go_simp) ?_; (try simp only [Act.put, List.setIfInBounds_toArray, List.set_cons_zero, List.set_cons_succ])
  refine wpH_end (by kernel_rfl) ?_
  clear hS0 hB
  go_wp2
  exact bodyPost_ret (results_ppt rfl rfl rfl rfl R6.out R7.out) rfl ⟨rfl, SB.out⟩
end Go.Proofs.YtooiiefipdjbjaaDoor

namespace Go.Proofs.YtooiiefipdjbjaaDoor
set_option linter.unusedVariables false
set_option linter.unusedSimpArgs false
open Go.RowKit
attribute [local go_sem] Oper.semAt_some

def ShAt (W : World) (b : Nat) (a : Option Addr) (n cp : Nat) (f : Int) : Prop := W.heap[b]? = some (.cells #[.slice a n cp, .int .i64 f] 87 (0, 0))
theorem sh_isAgg : ∀ W, (isAgg 87).run Tryd.prog W = .ok true W := fun _ => by kernel_rfl
theorem sh_sizeOf : ∀ W, (sizeOf 87).run Tryd.prog W = .ok 2 W := fun _ => by kernel_rfl
theorem run_loadSh {W : World} {b : Nat} {a : Option Addr} {n cp : Nat} {f : Int} (h : ShAt W b a n cp f) : (loadVar 87 ⟨b, 0, none⟩).run Tryd.prog W = .ok (.agg #[.slice a n cp, .int .i64 f]) W :=
  run_load_agg 87 b 0 [.slice a n cp, .int .i64 f] sh_isAgg sh_sizeOf fun j x hx => by
    rw [Nat.zero_add, Go.cell_of_row W b _ _ _ _ h]
    simpa using hx
theorem results_st {fn : Func} {tmps : Array Value} {W : World} {i j b : Nat} {a : Option Addr} {n cp : Nat} {f : Int} {v : Value} (hr : fn.results = #[.cell i 87, .tmp j]) (hi : tmps[i]?.getD undef = .pointer (some ⟨b, 0, none⟩)) (hj : tmps[j]?.getD undef = v) (h : ShAt W b a n cp f) :
    (results fn tmps).run Tryd.prog W = .ok (.tuple #[.agg #[.slice a n cp, .int .i64 f], v]) W := by
  have h1 := run_loadSh h
  unfold results
  rw [hr]
  simp [hi, hj, asAddr, h1]
def setS (W : World) (b : Nat) (a : Option Addr) (n cp : Nat) (f : Int) : World := (W.setCell ⟨b, 0, none⟩ (.slice a n cp)).setCell ⟨b, 1, none⟩ (.int .i64 f)
theorem setS_at {W : World} {b : Nat} {a0 : Option Addr} {n0 cp0 : Nat} {f0 : Int} (h : ShAt W b a0 n0 cp0 f0) (a : Option Addr) (n cp : Nat) (f : Int) : ShAt (setS W b a n cp f) b a n cp f := by
  have h1 := heap_setCell_same W b 0 _ _ (.slice a n cp) h
  exact heap_setCell_same _ b 1 _ _ (.int .i64 f) h1
theorem sees_setS {w W : World} {b : Nat} (h : Sees w W) (hb : w.heap.size ≤ b) (a : Option Addr) (n cp : Nat) (f : Int) : Sees w (setS W b a n cp f) := (h.setCell (p := ⟨b, 0, none⟩) hb _).setCell (p := ⟨b, 1, none⟩) hb _
theorem ShAt.sees {w W : World} {b : Nat} {a : Option Addr} {n cp : Nat} {f : Int} (h : ShAt w b a n cp f) (hs : Sees w W) : ShAt W b a n cp f := by
  unfold ShAt at *
  rw [hs.block _ (Array.getElem?_eq_some_iff.1 h).1]
  exact h
set_option maxHeartbeats 4000000 in
set_option maxRecDepth 100000 in
theorem chosen_ok (w : World) (a : Option Addr) (n cp : Nat) (first kd l0 c0 l1 c1 : Int) (I1 I2 : Bool)
    (KO : ∀ W, Sees w W → Calls Tryd.prog 51 #[.slice a n cp, .int .i64 first] W fun e w' => e = .returned (.tuple #[.agg #[.slice a n cp, .int .i64 first], .int .i64 0]) ∧ Sees W w')
    (KI1 : ∀ W, Sees w W → Calls Tryd.prog 39 #[.agg #[.slice a n cp, .int .i64 first], .agg #[.int .i64 l0, .int .i64 c0]] W fun e w' => e = .returned (.bool I1) ∧ Sees W w')
    (KI2 : ∀ W, Sees w W → Calls Tryd.prog 39 #[.agg #[.slice a n cp, .int .i64 first], .agg #[.int .i64 l1, .int .i64 c1]] W fun e w' => e = .returned (.bool I2) ∧ Sees W w') :
    Calls Tryd.prog 38 #[.slice a n cp, .int .i64 first, .agg #[.int .i64 kd, .int .i64 l0, .int .i64 c0, .int .i64 l1, .int .i64 c1]] w fun e w' => e = .returned (.tuple #[.agg #[.slice a n cp, .int .i64 first], .int .i64 (if kd < 1 ∨ 4 < kd then 2 else if I1 && I2 then 0 else 3)]) ∧ Sees w w' := by
  have KO := Lib.hid KO
  have KI1 := Lib.hid KI1
  have KI2 := Lib.hid KI2
  obtain ⟨E, hE⟩ : ∃ E : Int, E = (if kd < 1 ∨ 4 < kd then 2 else if I1 && I2 then 0 else 3) := ⟨_, rfl⟩
  rw [← hE]
  have HE := Lib.hid hE
  clear hE
  go_enter Tryd.func38, Tryd.ntmps38
  go_upto_region 1 with fail
  refine wp_world fun W1 hW1 => ?_
  have hrow : W1.heap[w.heap.size]? = some (.cells #[.int .i64 kd, .int .i64 l0, .int .i64 c0, .int .i64 l1, .int .i64 c1] 27 (0, 0)) := by
    subst hW1
    have q := heap_alloc_new w (.cells #[.int .i64 kd, .int .i64 l0, .int .i64 c0, .int .i64 l1, .int .i64 c1] 27)
    have hs : Sees (w.alloc (.cells #[.int .i64 kd, .int .i64 l0, .int .i64 c0, .int .i64 l1, .int .i64 c1] 27)) _ := (Sees.refl _).alloc (.cells #[.slice none 0 0, .int .i64 0] 87)
    rw [hs.block _ (Array.getElem?_eq_some_iff.1 q).1]
    exact q
  have p2 : ShAt W1 (w.heap.size + 1) none 0 0 0 := by
    subst hW1
    have q := heap_alloc_new (w.alloc (.cells #[.int .i64 kd, .int .i64 l0, .int .i64 c0, .int .i64 l1, .int .i64 c1] 27)) (.cells #[.slice none 0 0, .int .i64 0] 87)
    rw [World.size_alloc] at q
    exact q
  have s1 : Sees w W1 := by subst hW1; exact ((Sees.refl w).alloc _).alloc _
  have P1 := Lib.hid hrow
  have P2 := Lib.hid p2
  have S1 := Lib.hid s1
  clear hW1 hrow p2 s1
  obtain ⟨b6, hb6⟩ : ∃ b6, b6 = w.heap.size + 1 := ⟨_, rfl⟩
  obtain ⟨b5, hb5⟩ : ∃ b5, b5 = w.heap.size := ⟨_, rfl⟩
  have HB : Hid (w.heap.size ≤ b6) := by unfold RowKit.Hid; omega
  rw [← hb6] at P2 ⊢
  rw [← hb5] at P1 ⊢
  clear hb6 hb5
  go_wp2_with fail
  refine (KO.out _ S1.out).mono ?_
  rintro ee W2 ⟨rfl, s2⟩
  have S2 := Lib.hid (S1.out.trans s2)
  have P22 := Lib.hid (P2.out.sees s2)
  have P12 : Hid (W2.heap[b5]? = some (.cells #[.int .i64 kd, .int .i64 l0, .int .i64 c0, .int .i64 l1, .int .i64 c1] 27 (0, 0))) := by unfold RowKit.Hid; rw [s2.block _ (Array.getElem?_eq_some_iff.1 P1.out).1]; exact P1.out
  clear s2 KO
  go_upto_block 0 with fail
  refine wp_world fun W3 hW3 => ?_
  have Q3 : Hid (ShAt W3 W2.heap.size a n cp first) := by subst hW3; exact heap_alloc_new W2 _
  have s3 : Sees W2 W3 := by subst hW3; exact (Sees.refl _).alloc _
  have S3 := Lib.hid (S2.out.trans s3)
  have P23 := Lib.hid (P22.out.sees s3)
  have P13 : Hid (W3.heap[b5]? = some (.cells #[.int .i64 kd, .int .i64 l0, .int .i64 c0, .int .i64 l1, .int .i64 c1] 27 (0, 0))) := by unfold RowKit.Hid; rw [s3.block _ (Array.getElem?_eq_some_iff.1 P12.out).1]; exact P12.out
  obtain ⟨b8, hb8⟩ : ∃ b8, b8 = W2.heap.size := ⟨_, rfl⟩
  rw [← hb8] at Q3 ⊢
  clear hW3 s3 hb8
  have KF : Hid (∀ W, Sees W3 W → (W.cell? ⟨b5, 0, none⟩ = some (.int .i64 kd) ∧ W.cell? ⟨b5, 1, none⟩ = some (.int .i64 l0) ∧ W.cell? ⟨b5, 2, none⟩ = some (.int .i64 c0) ∧ W.cell? ⟨b5, 3, none⟩ = some (.int .i64 l1) ∧ W.cell? ⟨b5, 4, none⟩ = some (.int .i64 c1)) ∧ (W.cell? ⟨b8, 0, none⟩ = some (.slice a n cp) ∧ W.cell? ⟨b8, 1, none⟩ = some (.int .i64 first)) ∧ (W.cell? ⟨b6, 0, none⟩ = some (.slice none 0 0) ∧ W.cell? ⟨b6, 1, none⟩ = some (.int .i64 0)) ∧ (∀ i, W.frozen? ⟨b6, i, none⟩ = false) ∧ ShAt W b6 none 0 0 0) := fun W hs => by
    have e5 : W.heap[b5]? = some (.cells #[.int .i64 kd, .int .i64 l0, .int .i64 c0, .int .i64 l1, .int .i64 c1] 27 (0, 0)) := by rw [hs.block _ (Array.getElem?_eq_some_iff.1 P13.out).1]; exact P13.out
    have e8 := Q3.out.sees hs
    have e6 := P23.out.sees hs
    refine ⟨⟨?_, ?_, ?_, ?_, ?_⟩, ⟨?_, ?_⟩, ⟨?_, ?_⟩, fun i => frozen_of_row W b6 i _ _ e6, e6⟩
    all_goals first | (rw [cell_of_row _ _ _ _ _ _ e5]; rfl) | (rw [cell_of_row _ _ _ _ _ _ e8]; rfl) | (rw [cell_of_row _ _ _ _ _ _ e6]; rfl)
  clear P1 P2 P12 P22 P13 P23 Q3
  by_cases k1 : kd < 1
  · have g1 : decide (kd < 1) = true := decide_eq_true k1
    have HEE : Hid (E = 2) := by unfold RowKit.Hid; rw [HE.out, if_pos (.inl k1)]
    obtain ⟨⟨x0, x1, x2, x3, x4⟩, ⟨y0, y1⟩, ⟨z0, z1⟩, zf, zz⟩ := KF.out _ (Sees.refl _)
    go_wp2
    exact bodyPost_ret (results_st rfl rfl rfl (setS_at zz a n cp first)) rfl ⟨by rw [HEE.out]; rfl, sees_setS S3.out HB.out a n cp first⟩
  by_cases k2 : 4 < kd
  · have g1 : decide (kd < 1) = false := decide_eq_false k1
    have g2 : decide (kd > 4) = true := decide_eq_true k2
    have HEE : Hid (E = 2) := by unfold RowKit.Hid; rw [HE.out, if_pos (.inr k2)]
    obtain ⟨⟨x0, x1, x2, x3, x4⟩, ⟨y0, y1⟩, ⟨z0, z1⟩, zf, zz⟩ := KF.out _ (Sees.refl _)
    go_wp2
    exact bodyPost_ret (results_st rfl rfl rfl (setS_at zz a n cp first)) rfl ⟨by rw [HEE.out]; rfl, sees_setS S3.out HB.out a n cp first⟩
  have g1 : decide (kd < 1) = false := decide_eq_false k1
  have g2 : decide (kd > 4) = false := decide_eq_false k2
  have HE2 : Hid (E = if I1 && I2 then 0 else 3) := by unfold RowKit.Hid; rw [HE.out, if_neg (by omega)]
  obtain ⟨⟨x0, x1, x2, x3, x4⟩, ⟨y0, y1⟩, ⟨z0, z1⟩, zf, zz⟩ := KF.out _ (Sees.refl _)
  clear zz zf z0 z1
  go_wp2_with fail
  refine (KI1.out _ S3.out).mono ?_
  rintro ee W4 ⟨rfl, s4⟩
  have S4 := Lib.hid (S3.out.trans s4)
  clear x0 x1 x2 x3 x4 y0 y1
  obtain ⟨⟨x0, x1, x2, x3, x4⟩, ⟨y0, y1⟩, ⟨z0, z1⟩, zf, zz⟩ := KF.out _ s4
  cases I1
  · have HEE : Hid (E = 3) := by unfold RowKit.Hid; rw [HE2.out]; rfl
    go_wp2
    exact bodyPost_ret (results_st rfl rfl rfl (setS_at zz a n cp first)) rfl ⟨by rw [HEE.out]; rfl, sees_setS S4.out HB.out a n cp first⟩
  · clear zz zf z0 z1
    go_wp2_with fail
    refine (KI2.out _ S4.out).mono ?_
    rintro ee W5 ⟨rfl, s5⟩
    have S5 := Lib.hid (S4.out.trans s5)
    clear x0 x1 x2 x3 x4 y0 y1
    obtain ⟨⟨x0, x1, x2, x3, x4⟩, ⟨y0, y1⟩, ⟨z0, z1⟩, zf, zz⟩ := KF.out _ (s4.trans s5)
    cases I2
    · have HEE : Hid (E = 3) := by unfold RowKit.Hid; rw [HE2.out]; rfl
      go_wp2
      exact bodyPost_ret (results_st rfl rfl rfl (setS_at zz a n cp first)) rfl ⟨by rw [HEE.out]; rfl, sees_setS S5.out HB.out a n cp first⟩
    · have HEE : Hid (E = 0) := by unfold RowKit.Hid; rw [HE2.out]; rfl
      go_wp2
      exact bodyPost_ret (results_st rfl rfl rfl (setS_at zz a n cp first)) rfl ⟨by rw [HEE.out]; rfl, sees_setS S5.out HB.out a n cp first⟩
set_option maxHeartbeats 2000000 in
set_option maxRecDepth 100000 in
theorem chosen_err (w : World) (a : Option Addr) (n cp : Nat) (first kd l0 c0 l1 c1 : Int)
    (KO : ∀ W, Sees w W → Calls Tryd.prog 51 #[.slice a n cp, .int .i64 first] W fun e w' => e = .returned (.tuple #[.agg #[.slice none 0 0, .int .i64 0], .int .i64 2]) ∧ Sees W w') :
    Calls Tryd.prog 38 #[.slice a n cp, .int .i64 first, .agg #[.int .i64 kd, .int .i64 l0, .int .i64 c0, .int .i64 l1, .int .i64 c1]] w fun e w' => e = .returned (.tuple #[.agg #[.slice none 0 0, .int .i64 0], .int .i64 2]) ∧ Sees w w' := by
  have KO := Lib.hid KO
  go_enter Tryd.func38, Tryd.ntmps38
  go_upto_region 1 with fail
  refine wp_world fun W1 hW1 => ?_
  have p2 : ShAt W1 (w.heap.size + 1) none 0 0 0 := by
    subst hW1
    have q := heap_alloc_new (w.alloc (.cells #[.int .i64 kd, .int .i64 l0, .int .i64 c0, .int .i64 l1, .int .i64 c1] 27)) (.cells #[.slice none 0 0, .int .i64 0] 87)
    rw [World.size_alloc] at q
    exact q
  have s1 : Sees w W1 := by subst hW1; exact ((Sees.refl w).alloc _).alloc _
  have P2 := Lib.hid p2
  have S1 := Lib.hid s1
  clear hW1 p2 s1
  obtain ⟨b6, hb6⟩ : ∃ b6, b6 = w.heap.size + 1 := ⟨_, rfl⟩
  have HB : Hid (w.heap.size ≤ b6) := by unfold RowKit.Hid; omega
  rw [← hb6] at P2 ⊢
  clear hb6
  go_wp2_with fail
  refine (KO.out _ S1.out).mono ?_
  rintro ee W2 ⟨rfl, s2⟩
  have S2 := Lib.hid (S1.out.trans s2)
  have P22 := Lib.hid (P2.out.sees s2)
  clear s2 KO
  go_upto_block 0 with fail
  refine wp_world fun W3 hW3 => ?_
  have Q3 : Hid (ShAt W3 W2.heap.size none 0 0 0) := by subst hW3; exact heap_alloc_new W2 _
  have s3 : Sees W2 W3 := by subst hW3; exact (Sees.refl _).alloc _
  have S3 := Lib.hid (S2.out.trans s3)
  have zz := P22.out.sees s3
  obtain ⟨b8, hb8⟩ : ∃ b8, b8 = W2.heap.size := ⟨_, rfl⟩
  rw [← hb8] at Q3 ⊢
  have e8 := Q3.out
  have y0 : W3.cell? ⟨b8, 0, none⟩ = some (.slice none 0 0) := by rw [cell_of_row _ _ _ _ _ _ e8]; rfl
  have y1 : W3.cell? ⟨b8, 1, none⟩ = some (.int .i64 0) := by rw [cell_of_row _ _ _ _ _ _ e8]; rfl
  have z0 : W3.cell? ⟨b6, 0, none⟩ = some (.slice none 0 0) := by rw [cell_of_row _ _ _ _ _ _ zz]; rfl
  have z1 : W3.cell? ⟨b6, 1, none⟩ = some (.int .i64 0) := by rw [cell_of_row _ _ _ _ _ _ zz]; rfl
  have zf : ∀ i, W3.frozen? ⟨b6, i, none⟩ = false := fun i => frozen_of_row W3 b6 i _ _ zz
  clear hW3 s3 hb8 e8
  go_wp2
  exact bodyPost_ret (results_st rfl rfl rfl (setS_at zz none 0 0 0)) rfl ⟨rfl, sees_setS S3.out HB.out none 0 0 0⟩
end Go.Proofs.YtooiiefipdjbjaaDoor

namespace Go.Proofs.YtooiiefipdjbjaaDoor
set_option linter.unusedVariables false
set_option linter.unusedSimpArgs false
open Go.RowKit
attribute [local go_sem] Oper.semAt_some

theorem stQ_same {W : World} {b : Nat} {l c : Int} (h : PlAt W b l c) : Keeps (fun _ => False) W (stQ W b l c) := by
  refine ⟨rfl, rfl, rfl, by simp [stQ, World.setRow], fun y _ _ => ?_⟩
  by_cases e : y = b
  · subst e
    exact (stQ_at h l c).trans h.symm
  · exact setRow_other _ _ _ _ e
set_option maxHeartbeats 4000000 in
set_option maxRecDepth 100000 in
theorem word_out (w : World) (a : Option Addr) (n cp : Nat) (first l c : Int)
    (KO : ∀ W, Sees w W → Calls Tryd.prog 51 #[.slice a n cp, .int .i64 first] W fun e w' => e = .returned (.tuple #[.agg #[.slice a n cp, .int .i64 first], .int .i64 0]) ∧ Sees W w')
    (KI : ∀ W, Sees w W → Calls Tryd.prog 39 #[.agg #[.slice a n cp, .int .i64 first], .agg #[.int .i64 l, .int .i64 c]] W fun e w' => e = .returned (.bool false) ∧ Sees W w') :
    Calls Tryd.prog 43 #[.slice a n cp, .int .i64 first, .agg #[.int .i64 l, .int .i64 c]] w fun e w' => e = .returned (.tuple #[.agg #[.int .i64 0, .int .i64 0], .agg #[.int .i64 0, .int .i64 0], .int .i64 3]) ∧ Sees w w' := by
  have KO := Lib.hid KO
  have KI := Lib.hid KI
  go_enter Tryd.func43, Tryd.ntmps43
  go_upto_region 1 with fail
  refine wp_world fun W1 hW1 => ?_
  have p0 : PlAt W1 w.heap.size l c := by
    subst hW1
    have q : PlAt _ _ l c := heap_alloc_new w _
    exact q.sees (((Sees.refl _).alloc _).alloc _)
  have p1 : PlAt W1 (w.heap.size + 1) 0 0 := by
    subst hW1
    have q := heap_alloc_new (w.alloc (.cells #[.int .i64 l, .int .i64 c] 25)) (.cells #[.int .i64 0, .int .i64 0] 25)
    rw [World.size_alloc] at q
    have q' : PlAt _ _ 0 0 := q
    exact q'.sees ((Sees.refl _).alloc _)
  have p2 : PlAt W1 (w.heap.size + 1 + 1) 0 0 := by
    subst hW1
    have q := heap_alloc_new ((w.alloc (.cells #[.int .i64 l, .int .i64 c] 25)).alloc (.cells #[.int .i64 0, .int .i64 0] 25)) (.cells #[.int .i64 0, .int .i64 0] 25)
    rw [World.size_alloc, World.size_alloc] at q
    exact q
  have s1 : Sees w W1 := by subst hW1; exact (((Sees.refl w).alloc _).alloc _).alloc _
  have P0 := Lib.hid p0
  have P1 := Lib.hid p1
  have P2 := Lib.hid p2
  have S1 := Lib.hid s1
  clear hW1 p0 p1 p2 s1
  obtain ⟨b7, hb7⟩ : ∃ b7, b7 = w.heap.size + 1 + 1 := ⟨_, rfl⟩
  obtain ⟨b6, hb6⟩ : ∃ b6, b6 = w.heap.size + 1 := ⟨_, rfl⟩
  obtain ⟨b5, hb5⟩ : ∃ b5, b5 = w.heap.size := ⟨_, rfl⟩
  have HB : Hid (w.heap.size ≤ b6 ∧ w.heap.size ≤ b7) := by unfold RowKit.Hid; omega
  have HNE : Hid (b5 ≠ b6 ∧ b5 ≠ b7 ∧ b6 ≠ b7) := by unfold RowKit.Hid; omega
  rw [← hb7] at P2 ⊢
  rw [← hb6] at P1 ⊢
  rw [← hb5] at P0 ⊢
  clear hb7 hb6 hb5
  go_wp2_with fail
  refine (KO.out _ S1.out).mono ?_
  rintro ee W2 ⟨rfl, s2⟩
  have S2 := Lib.hid (S1.out.trans s2)
  have P02 := Lib.hid (P0.out.sees s2)
  have P12 := Lib.hid (P1.out.sees s2)
  have P22 := Lib.hid (P2.out.sees s2)
  clear s2 KO
  go_upto_block 0 with fail
  refine wp_world fun W3 hW3 => ?_
  have c0 : W3.cell? ⟨W2.heap.size, 0, none⟩ = some (.slice a n cp) := by subst hW3; rw [cell_of_row _ _ _ _ _ _ (heap_alloc_new W2 _)]; rfl
  have c1 : W3.cell? ⟨W2.heap.size, 1, none⟩ = some (.int .i64 first) := by subst hW3; rw [cell_of_row _ _ _ _ _ _ (heap_alloc_new W2 _)]; rfl
  have s3 : Sees W2 W3 := by subst hW3; exact (Sees.refl _).alloc _
  have HB9 : Hid (W2.heap.size ≠ b6 ∧ W2.heap.size ≠ b7) := by
    have := (Array.getElem?_eq_some_iff.1 P12.out).1
    have := (Array.getElem?_eq_some_iff.1 P22.out).1
    unfold RowKit.Hid
    omega
  obtain ⟨b9, hb9⟩ : ∃ b9, b9 = W2.heap.size := ⟨_, rfl⟩
  rw [← hb9] at c0 c1 HB9 ⊢
  have S3 := Lib.hid (S2.out.trans s3)
  have P03 := Lib.hid (P02.out.sees s3)
  have P13 := Lib.hid (P12.out.sees s3)
  have P23 := Lib.hid (P22.out.sees s3)
  have C03 := Lib.hid c0
  have C13 := Lib.hid c1
  obtain ⟨d0, d1⟩ := P03.out.cells
  clear hW3 hb9 s3
  go_wp2_with fail
  refine (KI.out _ S3.out).mono ?_
  rintro ee W4 ⟨rfl, s4⟩
  have S4 := Lib.hid (S3.out.trans s4)
  have P04 := Lib.hid (P03.out.sees s4)
  have P14 := Lib.hid (P13.out.sees s4)
  have P24 := Lib.hid (P23.out.sees s4)
  have C04 := Lib.hid (s4.cell C03.out)
  have C14 := Lib.hid (s4.cell C13.out)
  clear s4 c0 c1 d0 d1 KI
  go_upto_region 5 with fail
  refine wpH_go (fun _ => False) 5 (by kernel_rfl) (by kernel_rfl) (by rfl) (fun hB w9 hs9 => ?_)
  have S9 := Lib.hid (S4.out.trans hs9)
  have P19 := Lib.hid (P14.out.sees hs9)
  have P29 := Lib.hid (P24.out.sees hs9)
  clear hs9
  have hS0 : Keeps (fun _ => False) w9 w9 := Keeps.refl _ w9
  refine wpH_take (i := 0) (v := .agg #[.int .i64 0, .int .i64 0]) hB (by rfl) (by kernel_rfl) (fun _ _ _ _ _ h => h) (by rfl) hS0 (fun W hI => by obtain ⟨q0, q1⟩ := (P19.out.keeps hI (fun h => h)).cells; go_simp) ?_; (try simp only [Act.put, List.setIfInBounds_toArray, List.set_cons_zero, List.set_cons_succ])
  refine wpH_take (i := 1) (v := .agg #[.int .i64 0, .int .i64 0]) hB (by rfl) (by kernel_rfl) (fun _ _ _ _ _ h => h) (by rfl) hS0 (fun W hI => by obtain ⟨q0, q1⟩ := (P29.out.keeps hI (fun h => h)).cells; go_simp) ?_; (try simp only [Act.put, List.setIfInBounds_toArray, List.set_cons_zero, List.set_cons_succ])
  have k6 := stQ_same P19.out
  refine wpH_one (i := 2) (by kernel_rfl) (wpOp_skip (w' := stQ w9 b6 0 0) (by rfl) (wanted_none (by rfl) _) (exec_store (a := .pointer (some ⟨b6, 0, none⟩)) (v := .agg #[.int .i64 0, .int .i64 0]) rfl (by go_simp) (by go_simp) (run_storeQ P19.out 0 0)) ⟨hS0.trans k6, ?_⟩)
  (try simp only [Act.put, List.setIfInBounds_toArray, List.set_cons_zero, List.set_cons_succ])
  have Q6 := Lib.hid (P19.out.keeps k6 (fun h => h))
  have Q7 := Lib.hid (P29.out.keeps k6 (fun h => h))
  have hS1 := hS0.trans k6
  obtain ⟨w13, h13⟩ : ∃ w13, w13 = stQ w9 b6 0 0 := ⟨_, rfl⟩
  rw [← h13] at Q6 Q7 hS1 ⊢
  clear h13 k6 hS0
  have k7 := stQ_same Q7.out
  refine wpH_one (i := 3) (by kernel_rfl) (wpOp_skip (w' := stQ w13 b7 0 0) (by rfl) (wanted_none (by rfl) _) (exec_store (a := .pointer (some ⟨b7, 0, none⟩)) (v := .agg #[.int .i64 0, .int .i64 0]) rfl (by go_simp) (by go_simp) (run_storeQ Q7.out 0 0)) ⟨hS1.trans k7, ?_⟩)
  (try simp only [Act.put, List.setIfInBounds_toArray, List.set_cons_zero, List.set_cons_succ])
  have R6 := Lib.hid (Q6.out.keeps k7 (fun h => h))
  have R7 := Lib.hid (Q7.out.keeps k7 (fun h => h))
  have hS0 := hS1.trans k7
  clear hS1 k7
  refine wpH_take (i := 4) (v := .int .i64 3) hB (by rfl) (by kernel_rfl) (fun _ _ _ _ _ h => h) (by rfl) hS0 (fun W hI => by clear hI; go_simp) ?_; (try simp only [Act.put, List.setIfInBounds_toArray, List.set_cons_zero, List.set_cons_succ])
  refine wpH_end (by kernel_rfl) ?_
  have SB := Lib.hid (S9.out.trans (hS0.sees_end (fun _ _ h => h)))
  clear hS0 hB
  go_wp2
  exact bodyPost_ret (results_ppt rfl rfl rfl rfl R6.out R7.out) rfl ⟨rfl, SB.out⟩
set_option maxHeartbeats 4000000 in
set_option maxRecDepth 100000 in
theorem word_err (w : World) (a : Option Addr) (n cp : Nat) (first l c : Int)
    (KO : ∀ W, Sees w W → Calls Tryd.prog 51 #[.slice a n cp, .int .i64 first] W fun e w' => e = .returned (.tuple #[.agg #[.slice none 0 0, .int .i64 0], .int .i64 2]) ∧ Sees W w') :
    Calls Tryd.prog 43 #[.slice a n cp, .int .i64 first, .agg #[.int .i64 l, .int .i64 c]] w fun e w' => e = .returned (.tuple #[.agg #[.int .i64 0, .int .i64 0], .agg #[.int .i64 0, .int .i64 0], .int .i64 2]) ∧ Sees w w' := by
  have KO := Lib.hid KO
  go_enter Tryd.func43, Tryd.ntmps43
  go_upto_region 1 with fail
  refine wp_world fun W1 hW1 => ?_
  have p0 : PlAt W1 w.heap.size l c := by
    subst hW1
    have q : PlAt _ _ l c := heap_alloc_new w _
    exact q.sees (((Sees.refl _).alloc _).alloc _)
  have p1 : PlAt W1 (w.heap.size + 1) 0 0 := by
    subst hW1
    have q := heap_alloc_new (w.alloc (.cells #[.int .i64 l, .int .i64 c] 25)) (.cells #[.int .i64 0, .int .i64 0] 25)
    rw [World.size_alloc] at q
    have q' : PlAt _ _ 0 0 := q
    exact q'.sees ((Sees.refl _).alloc _)
  have p2 : PlAt W1 (w.heap.size + 1 + 1) 0 0 := by
    subst hW1
    have q := heap_alloc_new ((w.alloc (.cells #[.int .i64 l, .int .i64 c] 25)).alloc (.cells #[.int .i64 0, .int .i64 0] 25)) (.cells #[.int .i64 0, .int .i64 0] 25)
    rw [World.size_alloc, World.size_alloc] at q
    exact q
  have s1 : Sees w W1 := by subst hW1; exact (((Sees.refl w).alloc _).alloc _).alloc _
  have P0 := Lib.hid p0
  have P1 := Lib.hid p1
  have P2 := Lib.hid p2
  have S1 := Lib.hid s1
  clear hW1 p0 p1 p2 s1
  obtain ⟨b7, hb7⟩ : ∃ b7, b7 = w.heap.size + 1 + 1 := ⟨_, rfl⟩
  obtain ⟨b6, hb6⟩ : ∃ b6, b6 = w.heap.size + 1 := ⟨_, rfl⟩
  obtain ⟨b5, hb5⟩ : ∃ b5, b5 = w.heap.size := ⟨_, rfl⟩
  have HB : Hid (w.heap.size ≤ b6 ∧ w.heap.size ≤ b7) := by unfold RowKit.Hid; omega
  have HNE : Hid (b5 ≠ b6 ∧ b5 ≠ b7 ∧ b6 ≠ b7) := by unfold RowKit.Hid; omega
  rw [← hb7] at P2 ⊢
  rw [← hb6] at P1 ⊢
  rw [← hb5] at P0 ⊢
  clear hb7 hb6 hb5
  go_wp2_with fail
  refine (KO.out _ S1.out).mono ?_
  rintro ee W2 ⟨rfl, s2⟩
  have S2 := Lib.hid (S1.out.trans s2)
  have P12 := Lib.hid (P1.out.sees s2)
  have P22 := Lib.hid (P2.out.sees s2)
  clear s2 KO
  go_upto_block 0 with fail
  refine wp_world fun W3 hW3 => ?_
  have s3 : Sees W2 W3 := by subst hW3; exact (Sees.refl _).alloc _
  have S3 := Lib.hid (S2.out.trans s3)
  have P13 := Lib.hid (P12.out.sees s3)
  have P23 := Lib.hid (P22.out.sees s3)
  clear hW3 s3
  go_upto_region 3 with fail
  refine wpH_go (fun _ => False) 6 (by kernel_rfl) (by kernel_rfl) (by rfl) (fun hB w9 hs9 => ?_)
  have S9 := Lib.hid (S3.out.trans hs9)
  have P19 := Lib.hid (P13.out.sees hs9)
  have P29 := Lib.hid (P23.out.sees hs9)
  clear hs9
  have hS0 : Keeps (fun _ => False) w9 w9 := Keeps.refl _ w9
  refine wpH_take (i := 0) (v := .agg #[.int .i64 0, .int .i64 0]) hB (by rfl) (by kernel_rfl) (fun _ _ _ _ _ h => h) (by rfl) hS0 (fun W hI => by obtain ⟨q0, q1⟩ := (P19.out.keeps hI (fun h => h)).cells; go_simp) ?_; (try simp only [Act.put, List.setIfInBounds_toArray, List.set_cons_zero, List.set_cons_succ])
  refine wpH_take (i := 1) (v := .agg #[.int .i64 0, .int .i64 0]) hB (by rfl) (by kernel_rfl) (fun _ _ _ _ _ h => h) (by rfl) hS0 (fun W hI => by obtain ⟨q0, q1⟩ := (P29.out.keeps hI (fun h => h)).cells; go_simp) ?_; (try simp only [Act.put, List.setIfInBounds_toArray, List.set_cons_zero, List.set_cons_succ])
  refine wpH_take (i := 2) (v := .int .i64 2) hB (by rfl) (by kernel_rfl) (fun _ _ _ _ _ h => h) (by rfl) hS0 (fun W hI => by clear hI; go_simp) ?_; (try simp only [Act.put, List.setIfInBounds_toArray, List.set_cons_zero, List.set_cons_succ])
  have k6 := stQ_same P19.out
  refine wpH_one (i := 3) (by kernel_rfl) (wpOp_skip (w' := stQ w9 b6 0 0) (by rfl) (wanted_none (by rfl) _) (exec_store (a := .pointer (some ⟨b6, 0, none⟩)) (v := .agg #[.int .i64 0, .int .i64 0]) rfl (by go_simp) (by go_simp) (run_storeQ P19.out 0 0)) ⟨hS0.trans k6, ?_⟩)
  (try simp only [Act.put, List.setIfInBounds_toArray, List.set_cons_zero, List.set_cons_succ])
  have Q6 := Lib.hid (P19.out.keeps k6 (fun h => h))
  have Q7 := Lib.hid (P29.out.keeps k6 (fun h => h))
  have hS1 := hS0.trans k6
  obtain ⟨w13, h13⟩ : ∃ w13, w13 = stQ w9 b6 0 0 := ⟨_, rfl⟩
  rw [← h13] at Q6 Q7 hS1 ⊢
  clear h13 k6 hS0
  have k7 := stQ_same Q7.out
  refine wpH_one (i := 4) (by kernel_rfl) (wpOp_skip (w' := stQ w13 b7 0 0) (by rfl) (wanted_none (by rfl) _) (exec_store (a := .pointer (some ⟨b7, 0, none⟩)) (v := .agg #[.int .i64 0, .int .i64 0]) rfl (by go_simp) (by go_simp) (run_storeQ Q7.out 0 0)) ⟨hS1.trans k7, ?_⟩)
  (try simp only [Act.put, List.setIfInBounds_toArray, List.set_cons_zero, List.set_cons_succ])
  have R6 := Lib.hid (Q6.out.keeps k7 (fun h => h))
  have R7 := Lib.hid (Q7.out.keeps k7 (fun h => h))
  have hS0 := hS1.trans k7
  clear hS1 k7
  refine wpH_take (i := 5) (v := .int .i64 2) hB (by rfl) (by kernel_rfl) (fun _ _ _ _ _ h => h) (by rfl) hS0 (fun W hI => by clear hI; go_simp) ?_; (try simp only [Act.put, List.setIfInBounds_toArray, List.set_cons_zero, List.set_cons_succ])
  refine wpH_end (by kernel_rfl) ?_
  have SB := Lib.hid (S9.out.trans (hS0.sees_end (fun _ _ h => h)))
  clear hS0 hB
  go_wp2
  exact bodyPost_ret (results_ppt rfl rfl rfl rfl R6.out R7.out) rfl ⟨rfl, SB.out⟩
set_option maxHeartbeats 2000000 in
set_option maxRecDepth 100000 in
theorem logical_err (w : World) (a : Option Addr) (n cp : Nat) (first l c : Int)
    (KO : ∀ W, Sees w W → Calls Tryd.prog 51 #[.slice a n cp, .int .i64 first] W fun e w' => e = .returned (.tuple #[.agg #[.slice none 0 0, .int .i64 0], .int .i64 2]) ∧ Sees W w') :
    Calls Tryd.prog 29 #[.slice a n cp, .int .i64 first, .agg #[.int .i64 l, .int .i64 c]] w fun e w' => e = .returned (.tuple #[.int .i64 0, .int .i64 0, .int .i64 2]) ∧ Sees w w' := by
  have KO := Lib.hid KO
  go_enter Tryd.func29, Tryd.ntmps29
  go_wp2_with fail
  refine (KO.out _ ((Sees.refl w).alloc _)).mono ?_
  rintro e W1 ⟨rfl, hs⟩
  have HS1 := Lib.hid (((Sees.refl w).alloc _).trans hs)
  clear hs KO
  go_upto_block 0 with fail
  refine wp_world fun W2 hW2 => ?_
  have HS2 : Hid (Sees w W2) := by subst hW2; exact HS1.out.alloc _
  clear hW2
  go_wp2
  go_ret3
  exact ⟨rfl, HS2.out⟩
set_option maxHeartbeats 2000000 in
set_option maxRecDepth 100000 in
theorem logical_out (w : World) (a : Option Addr) (n cp : Nat) (first l c : Int)
    (KO : ∀ W, Sees w W → Calls Tryd.prog 51 #[.slice a n cp, .int .i64 first] W fun e w' => e = .returned (.tuple #[.agg #[.slice a n cp, .int .i64 first], .int .i64 0]) ∧ Sees W w')
    (KI : ∀ W, Sees w W → Calls Tryd.prog 39 #[.agg #[.slice a n cp, .int .i64 first], .agg #[.int .i64 l, .int .i64 c]] W fun e w' => e = .returned (.bool false) ∧ Sees W w') :
    Calls Tryd.prog 29 #[.slice a n cp, .int .i64 first, .agg #[.int .i64 l, .int .i64 c]] w fun e w' => e = .returned (.tuple #[.int .i64 0, .int .i64 0, .int .i64 3]) ∧ Sees w w' := by
  have KO := Lib.hid KO
  have KI := Lib.hid KI
  go_enter Tryd.func29, Tryd.ntmps29
  go_wp2_with fail
  refine (KO.out _ ((Sees.refl w).alloc _)).mono ?_
  rintro e W1 ⟨rfl, hs⟩
  have HS1 := Lib.hid (((Sees.refl w).alloc _).trans hs)
  have p0 : W1.cell? ⟨w.heap.size, 0, none⟩ = some (.int .i64 l) := by rw [hs.cells _ _ (by simp)]; simp
  have p1 : W1.cell? ⟨w.heap.size, 1, none⟩ = some (.int .i64 c) := by rw [hs.cells _ _ (by simp)]; simp
  clear hs KO
  go_upto_block 0 with fail
  refine wp_world fun W2 hW2 => ?_
  have hs2 : Sees W1 W2 := by subst hW2; exact (Sees.refl W1).alloc _
  have q0 : W2.cell? ⟨W1.heap.size, 0, none⟩ = some (.slice a n cp) := by subst hW2; simp
  have q1 : W2.cell? ⟨W1.heap.size, 1, none⟩ = some (.int .i64 first) := by subst hW2; simp
  replace p0 := hs2.cell p0
  replace p1 := hs2.cell p1
  have HS2 := Lib.hid (HS1.out.trans hs2)
  clear hW2 hs2 HS1
  go_wp2_with fail
  refine (KI.out _ HS2.out).mono ?_
  rintro e W3 ⟨rfl, hs⟩
  have HS3 := Lib.hid (HS2.out.trans hs)
  clear hs p0 p1 q0 q1
  go_wp2
  go_ret3
  exact ⟨rfl, HS3.out⟩
end Go.Proofs.YtooiiefipdjbjaaDoor

namespace Go.Proofs.YtooiiefipdjbjaaDoor
set_option linter.unusedVariables false
set_option linter.unusedSimpArgs false
open Go.RowKit
attribute [local go_sem] Oper.semAt_some

def trN (s : ByteArray) : Nat → Nat
  | 0 => 0
  | n + 1 => if s.data.toList[n]? = some 32 then trN s n else n + 1
theorem trN_le (s : ByteArray) : ∀ n, trN s n ≤ n
  | 0 => Nat.le_refl _
  | n + 1 => by
    unfold trN
    split
    · have := trN_le s n; omega
    · exact Nat.le_refl _
set_option maxHeartbeats 2000000 in
set_option maxRecDepth 100000 in
theorem trimmed41_any (s : ByteArray) (hs : s.size ≤ 1000000000) (w : World) : Calls Tryd.prog 42 #[.string s] w fun e w' => e = .returned (.string (s.extract 0 (trN s s.size))) ∧ w' = w := by
  obtain ⟨m, hm⟩ : ∃ m, m = s.size := ⟨_, rfl⟩
  obtain ⟨R, hR⟩ : ∃ R, R = trN s s.size := ⟨_, rfl⟩
  rw [← hR]
  have HR : Hid (R = trN s m) := by unfold RowKit.Hid; rw [hR, hm]
  have hsm : s.size = m := hm.symm
  have hm2 : m ≤ 1000000000 := by omega
  clear hm hR hs
  go_enter Tryd.func42, Tryd.ntmps42
  go_wp2_with fail
  go_loopw [3] (fun v W => ∃ n : Nat, n ≤ m ∧ v = .int .i64 n ∧ Hid (R = trN s n) ∧ W = w) (fun v _ => (intOf v).toNat)
  case atStart => exact ⟨m, Nat.le_refl _, by first | rfl | rw [hsm], HR, rfl⟩
  case round =>
    obtain ⟨n, hn, rfl, hr, hW⟩ := hrel
    subst hW
    cases n with
    | zero =>
      have hr0 : R = 0 := hr.out
      subst hr0
      go_wp2
      go_ret
      exact ⟨by first | rfl | (simp; done) | (congr 2; apply ByteArray.ext; simp), by first | rfl | trivial⟩
    | succ k =>
      have hks : k < s.size := by omega
      have hkb : s.data.toList[k]? = some s[k] := by
        rw [List.getElem?_eq_getElem (by rw [← Lib.size_eq]; exact hks)]
        rfl
      have hrr : R = if s.data.toList[k]? = some 32 then trN s k else k + 1 := hr.out
      rw [hkb] at hrr
      have hkw : IntKind.i64.wrap (k : Int) = (k : Int) := IntWalk.i64_in _ (by omega)
      have k1 : (0 : Int) < (k : Int) + 1 := by omega
      have k2 : (k : Int) < (s.size : Int) := by omega
      by_cases h32 : s[k] = 32
      · rw [if_pos (by rw [h32])] at hrr
        have HRR := Lib.hid hrr
        have e1 : ((s[k].toNat : Int) == 32) = true := by rw [h32]; rfl
        clear hkb hrr
        go_wp2
        exact ⟨⟨k, by omega, by go_num, HRR.out, by first | trivial | rfl⟩, by simp [intOf]⟩
      · rw [if_neg (fun h => h32 (Option.some.inj h))] at hrr
        subst hrr
        have e1 : ((s[k].toNat : Int) == 32) = false := by
          rw [beq_eq_false_iff_ne]
          intro h
          apply h32
          apply UInt8.toNat_inj.1
          have : s[k].toNat = 32 := by omega
          rw [this]
          rfl
        clear hkb
        go_wp2
        go_ret
        exact ⟨by first | rfl | (simp; done), by first | rfl | trivial⟩
end Go.Proofs.YtooiiefipdjbjaaDoor
