/- scrollbacklaw40.part (40). The tables hold what the program's text lays. -/
import Derived.Test.YtfpopoeeokdbiaaDoorTtV
namespace Go.Proofs.YtfpopoeeokdbiaaDoor
set_option linter.unusedVariables false
set_option linter.unusedSimpArgs false
open Go.RowKit
attribute [local go_sem] Oper.semAt_some

def halfC (cs : List Cell) (l r i : Nat) (c : Cell) : Bool := (c.width == 0 && i == l) || (c.width == 2 && (i == r || i + 1 == cs.length))
def partTo (cs : List Cell) (l r : Nat) : Nat → List UInt8
  | 0 => []
  | j + 1 => partTo cs l r j ++ (match cs[l + j]? with | some c => if halfC cs l r (l + j) c then [32] else c.txt | none => [])
/-- The text of a part of a row's cells. -/
def partB (cs : List Cell) (l r : Nat) : List UInt8 := partTo cs l r (min (r + 1) cs.length - l)
theorem partTo_step {cs : List Cell} {l r j : Nat} {c : Cell} (h : cs[l + j]? = some c) : partTo cs l r (j + 1) = partTo cs l r j ++ (if halfC cs l r (l + j) c then [32] else c.txt) := by rw [partTo, h]
theorem partTo_len (cs : List Cell) (l r : Nat) : ∀ j, (partTo cs l r j).length ≤ j * 16
  | 0 => by simp [partTo]
  | j + 1 => by
    have h := partTo_len cs l r j
    rw [partTo, List.length_append, Nat.succ_mul]
    split
    · rename_i c _
      have := c.txt_len
      split <;> simp <;> omega
    · simp; omega
set_option maxHeartbeats 8000000 in
set_option maxRecDepth 100000 in
theorem tpart_any (v : Value) (x : Ln) (F : Nat → Prop) (w : World) (h : cellEl.Rd F w v x.cells) (hn : x.cells.length ≤ 1000000) (l r : Nat) (hl : l ≤ r) (hr : r ≤ 1000) :
    Calls Tryd.prog 13 #[.agg #[v, .bool x.soft], .int .i64 l, .int .i64 r] w fun e w' => e = .returned (.string (strL (Lib.trimRightB (partB x.cells l r) 32))) ∧ Sees w w' := by
  obtain ⟨a, cp, rfl, hcp⟩ := h.slice'
  obtain ⟨n, hnn⟩ : ∃ n, n = x.cells.length := ⟨_, rfl⟩
  rw [← hnn] at h hn hcp ⊢
  have H := Lib.hid h
  have HN := Lib.hid hnn
  obtain ⟨J, hJ⟩ : ∃ J, J = min (r + 1) n - l := ⟨_, rfl⟩
  have HJ := Lib.hid hJ
  have hJ1 : J ≤ 1001 := by omega
  have HPB : Hid (partB x.cells l r = partTo x.cells l r J) := by unfold RowKit.Hid partB; rw [hJ, hnn]
  rw [HPB.out]
  have L0 : LnAt (w.alloc (.cells #[.slice a n cp, .bool x.soft] 29)) w.heap.size (.slice a n cp) x.soft := LnAt.new rfl
  have HL0 := Lib.hid L0
  have HS0 : Hid (Sees w (w.alloc (.cells #[.slice a n cp, .bool x.soft] 29))) := (Sees.refl w).alloc _
  clear h hnn L0 hJ hcp
  go_enter Tryd.func13, Tryd.ntmps13
  go_wp2_with fail
  go_loopw [7, 8] (fun ou i W => ∃ j : Nat, j ≤ J ∧ i = .int .i64 ((l + j : Nat) : Int) ∧ ou = .string (strL (partTo x.cells l r j)) ∧ LnAt W w.heap.size (.slice a n cp) x.soft ∧ Sees w W) (fun _ i _ => l + J - (intOf i).toNat)
  case atStart => exact ⟨0, Nat.zero_le _, rfl, rfl, HL0.out, HS0.out⟩
  case round =>
    obtain ⟨j, hj, rfl, rfl, hL, hS⟩ := hrel
    have HL := Lib.hid hL
    have HS := Lib.hid hS
    clear hL hS
    obtain ⟨l0, l1⟩ := HL.out.c
    have HPL := Lib.hid (partTo_len x.cells l r j)
    obtain ⟨i, hi⟩ : ∃ i, i = l + j := ⟨_, rfl⟩
    rw [← hi]
    have HI := Lib.hid hi
    obtain ⟨X, hX⟩ : ∃ X, X = strL (partTo x.cells l r j) := ⟨_, rfl⟩
    rw [← hX]
    have hxs : X.size ≤ 20000 := by rw [hX, strL_size]; have := HPL.out; omega
    have HX := Lib.hid hX
    have hin : j < J → i < n ∧ i ≤ r := fun h => by have := HJ.out; omega
    have HIN := Lib.hid hin
    have HOUT : Hid (¬ j < J → ¬ (i < n ∧ i ≤ r)) := fun h => by have := HJ.out; omega
    clear hX hi hin
    by_cases hlt : j < J
    · obtain ⟨hin1, hin2⟩ := HIN.out hlt
      have d1 : decide ((i : Int) ≤ (r : Int)) = true := decide_eq_true (by omega)
      have d2 : (i : Int) ≤ (r : Int) := by omega
      have d3 : (i : Int) < (n : Int) := by omega
      obtain ⟨b, o, c, rfl, _, hc, hat0⟩ := H.out.cell (k := i) hin1
      have hat := hat0.sees HS.out
      have hc2 : x.cells[l + j]? = some c := by rw [← HI.out]; exact hc
      have HST := Lib.hid (partTo_step (r := r) hc2)
      obtain ⟨Y, hY⟩ : ∃ Y, Y = strL c.txt := ⟨_, rfl⟩
      have hys : Y.size ≤ 16 := by rw [hY, strL_size]; exact c.txt_len
      have HYE := Lib.hid hY
      have KC : Hid (∀ W, Calls Tryd.prog 22 #[c.val] W fun e w' => e = .returned (.string Y) ∧ Sees W w') := fun W => by rw [hY]; exact ctext_any c W
      clear hc hat0 hY hc2
      go_upto_region 6 with (first
        | (guard_target = wpList _ _ _ ({ dst := _, op := Op.load 59 _, type := _, pos := _, after := _, guard := _ } :: _) _ _; refine wpList_val rfl (exec_load (v := c.val) rfl rfl (run_loadCell hat)) (fun K hK => ?_); go_simp; refine hK _ _ ?_; clear hK K)
        | (guard_target = wpList _ _ _ ({ dst := _, op := Op.store 59 _ _, type := _, pos := _, after := _, guard := _ } :: _) _ _; refine wpList_skip rfl (exec_store (v := c.val) rfl rfl rfl (run_storeNew c _ rfl _ rfl)) (fun K hK => ?_); go_simp; refine hK _ _ ?_; clear hK K))
      refine wp_world fun W2 hW2 => ?_
      have C2 : CellAt W2 wr.heap.size 0 c := by subst hW2; exact cellAt_new _ c _
      have HS2 : Hid (Sees w W2) := by subst hW2; exact HS.out.alloc _
      have HL2 : Hid (LnAt W2 w.heap.size (.slice (some ⟨b, o, none⟩) n cp) x.soft) := by subst hW2; exact HL.out.sees ((Sees.refl _).alloc _)
      have HC2 := Lib.hid C2
      clear hW2 hat HS HL l0 l1
      obtain ⟨l0, l1⟩ := HL2.out.c
      have hcw : W2.cell? ⟨wr.heap.size, 4, none⟩ = some (.int .i64 c.width) := C2.all.2.2.2.2.1
      obtain ⟨wd, hwd⟩ : ∃ wd, wd = c.width := ⟨_, rfl⟩
      rw [← hwd] at hcw
      have HWD := Lib.hid hwd
      clear hwd C2
      have hsub : IntKind.i64.wrap ((n : Int) - 1) = ((n - 1 : Nat) : Int) := by rw [IntWalk.i64_in _ (by omega)]; omega
      obtain ⟨n1, hn1⟩ : ∃ n1, n1 = n - 1 := ⟨_, rfl⟩
      rw [← hn1] at hsub
      have HN1 := Lib.hid hn1
      clear hn1
      by_cases hA : wd = 0
      · have a1 : (wd == 0) = true := beq_iff_eq.2 hA
        have a2 : (wd == 2) = false := by rw [hA]; rfl
        have a3 : ¬ wd = 2 := by omega
        have HA := Lib.hid hA
        clear hA
        by_cases hB : i = l
        · have b1 : ((i : Int) == (l : Int)) = true := by rw [hB]; exact beq_self_eq_true _
          have HB := Lib.hid hB
          clear hB
          have HXY : Hid (X ++ ⟨#[32]⟩ = strL (partTo x.cells l r (j + 1))) := by
            unfold RowKit.Hid
            rw [HST.out, show halfC x.cells l r (l + j) c = true by unfold halfC; rw [← HI.out, ← HWD.out, ← HN.out]; rw [HA.out, HB.out]; simp]
            rw [HX.out]
            rw [show (⟨#[32]⟩ : ByteArray) = strL [32] from rfl, strL_app]; rfl
          have hp1 : (⟨#[32]⟩ : ByteArray).size = 1 := rfl
          go_wp2_with fail
          refine ⟨⟨j + 1, by omega, by rw [HI.out]; go_num, by rw [← HXY.out], HL2.out, HS2.out⟩, by have := HI.out; simp [intOf]; omega⟩
        · have b1 : ((i : Int) == (l : Int)) = false := beq_eq_false_iff_ne.2 (by omega)
          have b2 : ¬ (i : Int) = (l : Int) := by omega
          have HXY : Hid (X ++ Y = strL (partTo x.cells l r (j + 1))) := by
            unfold RowKit.Hid
            rw [HST.out, show halfC x.cells l r (l + j) c = false by unfold halfC; rw [← HI.out, ← HWD.out, ← HN.out]; rw [HA.out]; simp; exact hB]
            rw [HX.out, HYE.out]
            rw [strL_app]; rfl
          go_wp2_with (guard_target = wpList _ _ _ ({ dst := _, op := Op.load 59 _, type := _, pos := _, after := _, guard := _ } :: _) _ _; refine wpList_val rfl (exec_load (v := c.val) rfl rfl (run_loadCell HC2.out)) (fun K hK => ?_); go_simp; refine hK _ _ ?_; clear hK K)
          refine (KC.out _).mono ?_
          rintro e W3 ⟨rfl, s3⟩
          have HS3 := Lib.hid (HS2.out.trans s3)
          have HL3 := Lib.hid (HL2.out.sees s3)
          clear s3 l0 l1 hcw
          go_wp2
          refine ⟨⟨j + 1, by omega, by rw [HI.out]; go_num, by rw [← HXY.out], HL3.out, HS3.out⟩, by have := HI.out; simp [intOf]; omega⟩
      · have a1 : (wd == 0) = false := beq_eq_false_iff_ne.2 hA
        by_cases hC : wd = 2
        · have c1 : (wd == 2) = true := beq_iff_eq.2 hC
          have HC := Lib.hid hC
          clear hC
          by_cases hD : i = r
          · have e1 : ((i : Int) == (r : Int)) = true := by rw [hD]; exact beq_self_eq_true _
            have HD := Lib.hid hD
            clear hD
            have HXY : Hid (X ++ ⟨#[32]⟩ = strL (partTo x.cells l r (j + 1))) := by
              unfold RowKit.Hid
              rw [HST.out, show halfC x.cells l r (l + j) c = true by unfold halfC; rw [← HI.out, ← HWD.out, ← HN.out]; rw [HC.out, HD.out]; simp]
              rw [HX.out]
              rw [show (⟨#[32]⟩ : ByteArray) = strL [32] from rfl, strL_app]; rfl
            have hp1 : (⟨#[32]⟩ : ByteArray).size = 1 := rfl
            go_wp2_with fail
            refine ⟨⟨j + 1, by omega, by rw [HI.out]; go_num, by rw [← HXY.out], HL2.out, HS2.out⟩, by have := HI.out; simp [intOf]; omega⟩
          · have e1 : ((i : Int) == (r : Int)) = false := beq_eq_false_iff_ne.2 (by omega)
            have e2 : ¬ (i : Int) = (r : Int) := by omega
            by_cases hE : i = n1
            · have g1 : ((i : Int) == (n1 : Int)) = true := by rw [hE]; exact beq_self_eq_true _
              have HE := Lib.hid hE
              clear hE
              have HXY : Hid (X ++ ⟨#[32]⟩ = strL (partTo x.cells l r (j + 1))) := by
                unfold RowKit.Hid
                rw [HST.out, show halfC x.cells l r (l + j) c = true by unfold halfC; rw [← HI.out, ← HWD.out, ← HN.out]; rw [HC.out, show i + 1 = n by have := HE.out; have := HN1.out; omega]; simp]
                rw [HX.out]
                rw [show (⟨#[32]⟩ : ByteArray) = strL [32] from rfl, strL_app]; rfl
              have hp1 : (⟨#[32]⟩ : ByteArray).size = 1 := rfl
              go_wp2_with fail
              refine ⟨⟨j + 1, by omega, by rw [HI.out]; go_num, by rw [← HXY.out], HL2.out, HS2.out⟩, by have := HI.out; simp [intOf]; omega⟩
            · have g1 : ((i : Int) == (n1 : Int)) = false := beq_eq_false_iff_ne.2 (by omega)
              have g2 : ¬ (i : Int) = (n1 : Int) := by omega
              have HXY : Hid (X ++ Y = strL (partTo x.cells l r (j + 1))) := by
                unfold RowKit.Hid
                rw [HST.out, show halfC x.cells l r (l + j) c = false by unfold halfC; rw [← HI.out, ← HWD.out, ← HN.out]; rw [HC.out]; have := HN1.out; simp; omega]
                rw [HX.out, HYE.out]
                rw [strL_app]; rfl
              go_wp2_with (guard_target = wpList _ _ _ ({ dst := _, op := Op.load 59 _, type := _, pos := _, after := _, guard := _ } :: _) _ _; refine wpList_val rfl (exec_load (v := c.val) rfl rfl (run_loadCell HC2.out)) (fun K hK => ?_); go_simp; refine hK _ _ ?_; clear hK K)
              refine (KC.out _).mono ?_
              rintro e W3 ⟨rfl, s3⟩
              have HS3 := Lib.hid (HS2.out.trans s3)
              have HL3 := Lib.hid (HL2.out.sees s3)
              clear s3 l0 l1 hcw
              go_wp2
              refine ⟨⟨j + 1, by omega, by rw [HI.out]; go_num, by rw [← HXY.out], HL3.out, HS3.out⟩, by have := HI.out; simp [intOf]; omega⟩
        · have c1 : (wd == 2) = false := beq_eq_false_iff_ne.2 hC
          have HXY : Hid (X ++ Y = strL (partTo x.cells l r (j + 1))) := by
            unfold RowKit.Hid
            rw [HST.out, show halfC x.cells l r (l + j) c = false by unfold halfC; rw [← HI.out, ← HWD.out, ← HN.out]; simp [hA, hC]]
            rw [HX.out, HYE.out]
            rw [strL_app]; rfl
          go_wp2_with (guard_target = wpList _ _ _ ({ dst := _, op := Op.load 59 _, type := _, pos := _, after := _, guard := _ } :: _) _ _; refine wpList_val rfl (exec_load (v := c.val) rfl rfl (run_loadCell HC2.out)) (fun K hK => ?_); go_simp; refine hK _ _ ?_; clear hK K)
          refine (KC.out _).mono ?_
          rintro e W3 ⟨rfl, s3⟩
          have HS3 := Lib.hid (HS2.out.trans s3)
          have HL3 := Lib.hid (HL2.out.sees s3)
          clear s3 l0 l1 hcw
          go_wp2
          refine ⟨⟨j + 1, by omega, by rw [HI.out]; go_num, by rw [← HXY.out], HL3.out, HS3.out⟩, by have := HI.out; simp [intOf]; omega⟩
    · have hno := HOUT.out hlt
      have hJ : j = J := by omega
      have HXJ : Hid (X = strL (partTo x.cells l r J)) := by unfold RowKit.Hid; rw [HX.out, hJ]
      have KT := Lib.hid (fun W => trimmed_any X (by omega) W)
      have KTR : Hid (strL (Lib.trimRightB X.data.toList 32) = strL (Lib.trimRightB (partTo x.cells l r J) 32)) := by unfold RowKit.Hid; rw [HXJ.out, strL_list]
      clear hJ
      by_cases hir : i ≤ r
      · have q1 : decide ((i : Int) ≤ (r : Int)) = true := decide_eq_true (by omega)
        have q2 : ¬ ((i : Int) < (n : Int)) := by omega
        have q3 : ¬ (i < n) := by omega
        clear hno
        go_wp2_with fail
        refine (KT.out _).mono ?_
        rintro e W3 ⟨rfl, s3⟩
        have HS3 := Lib.hid (HS.out.trans s3)
        clear s3
        go_wp2
        go_ret
        exact ⟨by rw [← KTR.out]; rfl, HS3.out⟩
      · have q1 : decide ((i : Int) ≤ (r : Int)) = false := decide_eq_false (by omega)
        have q2 : ¬ ((i : Int) ≤ (r : Int)) := by omega
        clear hno
        go_wp2_with fail
        refine (KT.out _).mono ?_
        rintro e W3 ⟨rfl, s3⟩
        have HS3 := Lib.hid (HS.out.trans s3)
        clear s3
        go_wp2
        go_ret
        exact ⟨by rw [← KTR.out]; rfl, HS3.out⟩
end Go.Proofs.YtfpopoeeokdbiaaDoor
