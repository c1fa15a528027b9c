/- cell.Fix (40): halves without the other half have become blanks. No condition. -/
import Derived.Test.YthcndmchlpohpaaGreatDoorTtA
import Derived.Test.YthcndmchlpohpaaGreatDoorTtM
import Derived.Test.YthcndmchlpohpaaGreatDoorTtN
import Derived.BigQuiet
import Derived.Lib.QuietBelow
namespace Go.Proofs.YthcndmchlpohpaaGreatDoor
set_option linter.unusedVariables false
set_option linter.unusedSimpArgs false
open Go.RowKit

def leftAt (cs : List Cell) : Nat → Bool
  | 0 => false
  | m + 1 => match cs[m]? with | some p => p.width == 2 | none => false
def rightAt (cs : List Cell) (k : Nat) : Bool := match cs[k + 1]? with | some p => p.width == 0 | none => false
def beforeC (cs : List Cell) (d : Cell) : Nat → Cell
  | 0 => d
  | m + 1 => (cs[m]?.getD d).spacer
/-- What becomes of a cell. -/
def fixC (cs : List Cell) (k : Nat) (c : Cell) : Cell :=
  if (c.width == 0 && !leftAt cs k) || (c.width == 2 && !rightAt cs k) then c.blankP else if c.width == 0 then beforeC cs c k else c
def fixTo (cs : List Cell) : Nat → List Cell
  | 0 => cs
  | k + 1 => match (fixTo cs k)[k]? with | some c => (fixTo cs k).set k (fixC (fixTo cs k) k c) | none => fixTo cs k
def fixL (cs : List Cell) : List Cell := fixTo cs cs.length
theorem fixTo_len (cs : List Cell) : ∀ k, (fixTo cs k).length = cs.length
  | 0 => rfl
  | k + 1 => by
    rw [fixTo]
    split
    · rw [List.length_set, fixTo_len cs k]
    · exact fixTo_len cs k
theorem fixTo_step {cs : List Cell} {k : Nat} {c : Cell} (h : (fixTo cs k)[k]? = some c) : fixTo cs (k + 1) = (fixTo cs k).set k (fixC (fixTo cs k) k c) := by rw [fixTo, h]
theorem set_same {α : Type} {l : List α} {k : Nat} {c : α} (h : l[k]? = some c) : l.set k c = l := by
  apply List.ext_getElem?
  intro i
  rw [List.getElem?_set]
  split
  · rename_i e
    subst e
    rw [if_pos (List.getElem?_eq_some_iff.1 h).1, h]
  · rfl
theorem cell_relIn_own {G F : Nat → Prop} {w : World} : ∀ {xs : List Cell} {vs : List Value}, cellEl.relIn G w vs xs → cellEl.ownIn F w vs xs
  | [], vs, h => by
    have := h.1
    exact List.eq_nil_of_length_eq_zero (by simpa using this)
  | x :: xs, vs, h => by
    have h0 := h.2 0 x rfl
    rw [Nat.zero_mul, List.drop_zero] at h0
    have e16 : cellEl.n = 16 := rfl
    have hl := h.1
    rw [List.length_cons, Nat.add_mul, Nat.one_mul] at hl
    refine ⟨fun _ => False, F, fun _ h => h.elim, fun _ h => h, fun _ h => h.elim, h0, cell_relIn_own (G := G) ⟨by rw [List.length_drop]; omega, fun i y hy => ?_⟩⟩
    have := h.2 (i + 1) y (by simpa using hy)
    rw [List.drop_drop, show cellEl.n + i * cellEl.n = (i + 1) * cellEl.n by rw [Nat.add_mul, Nat.one_mul, Nat.add_comm]]
    exact this
/-- A row of cells of the call's own. -/
theorem cell_row_own {base : Nat} {G : Nat → Prop} {w : World} {v : Value} {xs : List Cell} (h : cellEl.Row base G w v xs) : cellEl.Own (fun b => base ≤ b) w v xs := by
  obtain ⟨vals, h1, h2⟩ := h
  exact ⟨vals, El.rowMono h1 (fun _ _ => Nat.zero_le _), fun g hg => (El.rowLt h1 hg).1, cell_relIn_own h2⟩
set_option maxHeartbeats 8000000 in
set_option maxRecDepth 100000 in
theorem fix_any (v : Value) (cs : List Cell) (F : Nat → Prop) (w : World) (h : cellEl.Rd F w v cs) (hn : cs.length ≤ 1000000) :
    Calls Tryz.prog 53 #[v] w fun e w' => ∃ v', e = .returned v' ∧ cellEl.Own (fun b => w.heap.size ≤ b) w' v' (fixL cs) ∧ Sees w w' := by
  have HR := Lib.hid h
  obtain ⟨a, cp, rfl, _⟩ := h.slice'
  obtain ⟨n, hnn⟩ : ∃ n, n = cs.length := ⟨_, rfl⟩
  rw [← hnn] at HR hn ⊢
  have HN := Lib.hid hnn
  have HFX : Hid (fixL cs = fixTo cs n) := by unfold RowKit.Hid fixL; rw [hnn]
  have HRow := Lib.hid (El.Row.nil (E := cellEl) w.heap.size F w)
  have HLL : Hid (([] : List Cell).length + cs.length ≤ 100000000) := by unfold RowKit.Hid; rw [List.length_nil, ← hnn]; omega
  clear h hnn
  go_enter Tryz.func53, Tryz.ntmps53
  go_wp2_with (at_builtin; refine El.wpList_append_row (base := w.heap.size) (v := .slice none 0 0) typedCell rfl _ (.tmp 7) rfl rfl HRow.out (.slice a n cp) (by go_simp) cs HR.out (fun b _ e => by cases e) HLL.out (Nat.le_refl _) ?_; intro v1 w1 ho1 hk1 _; have HO1 := Lib.hid (cell_row_own ho1); have HK1 := Lib.hid (hk1.sees_end (fun b hb e => by cases e) : Sees w w1); obtain ⟨a1, c1, rfl, _⟩ := ho1.slice; obtain ⟨j1, hj1⟩ : ∃ j1, j1 = ([] ++ cs : List Cell).length := ⟨_, rfl⟩; rw [← hj1] at HO1 ⊢; have HJ := Lib.hid hj1; clear ho1 hk1 hj1)
  rw [List.nil_append] at HO1 HJ
  have hj : j1 = n := by rw [HJ.out, HN.out]
  subst hj
  have HL0 := Lib.hid (show fixTo cs 0 = cs from rfl)
  clear HRow HR
  rcases Nat.eq_zero_or_pos j1 with h0 | h0
  · have HF : Hid (cellEl.Own (fun b => w.heap.size ≤ b) w1 (.slice a1 j1 c1) (fixL cs)) := by
      have q := HO1.out
      rw [← HL0.out, ← h0, ← HFX.out] at q
      exact q
    have g0 : ¬ ((0 : Int) < j1) := by omega
    have g1 : ¬ (0 < j1) := by omega
    clear h0
    go_loopw [11] (fun ii W => ii = .int .i64 0 ∧ W = w1) (fun _ _ => 0)
    case atStart => exact ⟨rfl, rfl⟩
    case round =>
      obtain ⟨rfl, rfl⟩ := hrel
      go_wp2
      go_ret
      exact ⟨_, rfl, HF.out, HK1.out⟩
  obtain ⟨g, _, rfl, -⟩ := own_store_cell HO1.out (show 0 < cs.length by rw [← HN.out]; exact h0) blankC
  go_loopw [11] (fun ii W => ∃ k : Nat, k ≤ j1 ∧ ii = .int .i64 k ∧ cellEl.Own (fun b => w.heap.size ≤ b) W (.slice (some ⟨g, 0, none⟩) j1 c1) (fixTo cs k) ∧ Sees w W) (fun ii _ => j1 - (intOf ii).toNat)
  case atStart => exact ⟨0, Nat.zero_le _, rfl, HO1.out, HK1.out⟩
  case round =>
    obtain ⟨k, hk, rfl, hO, hS⟩ := hrel
    have HO := Lib.hid hO
    have HS := Lib.hid hS
    clear hO hS HO1 HK1
    by_cases hlt : k < j1
    · obtain ⟨ds, hds⟩ : ∃ ds, ds = fixTo cs k := ⟨_, rfl⟩
      have hdl : ds.length = j1 := by rw [hds, fixTo_len, ← HN.out]
      have HST : Hid (∀ c, ds[k]? = some c → fixTo cs (k + 1) = ds.set k (fixC ds k c)) := fun c h => by rw [hds] at h ⊢; exact fixTo_step h
      rw [← hds] at HO
      have HDL := Lib.hid hdl
      clear hds hdl
      obtain ⟨b, o, c, e0, _, hc, hat⟩ := HO.out.rd.cell hlt
      cases e0
      rw [Nat.zero_add] at hat
      have HC := Lib.hid hc
      have HAT := Lib.hid hat
      have cw := hat.all.2.2.2.2.1
      clear hc hat
      obtain ⟨LB, hLB⟩ : ∃ LB, LB = leftAt ds k := ⟨_, rfl⟩
      have HLB := Lib.hid hLB
      obtain ⟨RB, hRB⟩ : ∃ RB, RB = rightAt ds k := ⟨_, rfl⟩
      have HRB := Lib.hid hRB
      clear hLB hRB
      go_upto_region 5 with fail
      go_cut [5] from 14 to 24 (fun v5 wx => v5 = .bool LB ∧ wx = wr)
      case first =>
        rcases Nat.eq_zero_or_pos k with h0 | h0
        · have e : LB = false := by rw [HLB.out, h0]; rfl
          have g0 : decide ((k : Int) > 0) = false := decide_eq_false (by omega)
          have g1 : ¬ ((0 : Int) < k) := by omega
          have g2 : ¬ (0 < k) := by omega
          clear h0
          go_wp2_with fail
          go_meet
          exact ⟨by rw [e], rfl⟩
        · obtain ⟨z, hz⟩ : ∃ z, k = z + 1 := ⟨k - 1, by omega⟩
          obtain ⟨b4, o4, d, e4, _, hd, hat2⟩ := HO.out.rd.cell (show z < j1 by omega)
          cases e4
          rw [Nat.zero_add] at hat2
          have e : LB = (d.width == 2) := by rw [HLB.out, hz]; show (match ds[z]? with | some p => p.width == 2 | none => false) = _; rw [hd]
          have dw := hat2.all.2.2.2.2.1
          have g0 : decide ((k : Int) > 0) = true := decide_eq_true (by omega)
          have g1 : (k : Int) - 1 = (z : Int) := by omega
          have g2 : IntKind.i64.wrap ((k : Int) - 1) = (z : Int) := by rw [g1]; exact IntWalk.i64_in _ (by omega)
          have g3 : (0 : Int) < k := by omega
          have g4 : (z : Int) < j1 := by omega
          have E := Lib.hid e
          clear hat2 hd e h0 hz
          go_wp2_with fail
          go_meet
          exact ⟨by rw [E.out], rfl⟩
      case rest =>
        obtain ⟨rfl, rfl⟩ := hcut
        go_upto_region 6 with fail
        go_cut [6] from 25 to 38 (fun v6 wx => v6 = .bool RB ∧ wx = wc)
        case first =>
          rcases Nat.lt_or_ge (k + 1) j1 with h0 | h0
          · obtain ⟨b4, o4, d, e4, _, hd, hat2⟩ := HO.out.rd.cell h0
            cases e4
            rw [Nat.zero_add] at hat2
            have e : RB = (d.width == 0) := by rw [HRB.out]; show (match ds[k + 1]? with | some p => p.width == 0 | none => false) = _; rw [hd]
            have dw := hat2.all.2.2.2.2.1
            have g1 : (k : Int) + 1 = ((k + 1 : Nat) : Int) := by omega
            have g2 : ((k : Int) + 1).toNat = k + 1 := by omega
            have g3 : (0 : Int) ≤ (k : Int) + 1 := by omega
            have g4 : (k : Int) + 1 < j1 := by omega
            have E := Lib.hid e
            clear hat2 hd e h0 g1
            go_wp2_with fail
            go_meet
            exact ⟨by rw [E.out], rfl⟩
          · have e : RB = false := by rw [HRB.out]; show (match ds[k + 1]? with | some p => p.width == 0 | none => false) = false; rw [List.getElem?_eq_none (by rw [HDL.out]; exact h0)]
            have g4 : ¬ ((k : Int) + 1 < j1) := by omega
            have E := Lib.hid e
            clear e h0
            go_wp2_with fail
            go_meet
            exact ⟨by rw [E.out], rfl⟩
        case rest =>
          obtain ⟨rfl, rfl⟩ := hcut
          rcases Bool.eq_false_or_eq_true (c.width == 0) with w0 | w0
          · have w2 : (c.width == 2) = false := by rw [beq_iff_eq] at w0; rw [w0]; rfl
            cases LB
            · have hp := HAT.out
              go_wp2_with (guard_target = wpList _ _ _ ({ dst := _, op := Op.load 40 _, type := _, pos := _, after := _, guard := _ } :: _) _ _; refine wpList_val rfl (exec_load (v := c.pen) rfl rfl (run_loadPen hp)) (fun K hK => ?_); go_simp; refine hK _ _ ?_; clear hK K)
              refine (blankP_any c _).mono ?_
              rintro e W3 ⟨rfl, s⟩
              have HS3 := Lib.hid (HS.out.trans s)
              obtain ⟨g2, W4, e4, hg, -, hst, hown, hkp⟩ := own_store_cell (HO.out.sees s) (show k < ds.length by rw [HDL.out]; exact hlt) (c.blankP)
              cases e4
              have HOW := Lib.hid hown
              have HS4 : Hid (Sees w W4) := ((Keeps.of_sees (F := fun _ => False) HS3.out).trans' hkp (fun b hb e => by omega)).sees_end (fun _ _ h => h)
              have HFC := Lib.hid (HST.out c HC.out)
              rw [show fixC ds k c = c.blankP from by unfold fixC; rw [← HLB.out, w0]; rfl] at HFC
              clear hp s hown hkp cw HAT HC
              go_wp2_with (guard_target = wpList _ _ _ ({ dst := _, op := Op.store 42 _ _, type := _, pos := _, after := _, guard := _ } :: _) _ _; refine wpList_skip rfl (exec_store (v := (c.blankP).val) rfl rfl rfl hst) (fun K hK => ?_); go_simp; refine hK _ _ ?_; clear hK K)
              exact ⟨⟨k + 1, by omega, by go_num, by rw [HFC.out]; exact HOW.out, HS4.out⟩, by simp [intOf]; omega⟩
            · obtain ⟨z, hz⟩ : ∃ z, k = z + 1 := by
                cases k with
                | zero => have := HLB.out; cases this
                | succ z => exact ⟨z, rfl⟩
              obtain ⟨b4, o4, d, e4, _, hd, hat2⟩ := HO.out.rd.cell (show z < j1 by omega)
              cases e4
              rw [Nat.zero_add] at hat2
              have HBF : Hid (beforeC ds c k = d.spacer) := by unfold RowKit.Hid; rw [hz]; show (ds[z]?.getD c).spacer = _; rw [hd]; rfl
              have HAT2 := Lib.hid hat2
              have g1 : (k : Int) - 1 = (z : Int) := by omega
              have g2 : IntKind.i64.wrap ((k : Int) - 1) = (z : Int) := by rw [g1]; exact IntWalk.i64_in _ (by omega)
              have g4 : (z : Int) < j1 := by omega
              clear hat2 hd hz
              have hp := HAT2.out
              go_wp2_with (guard_target = wpList _ _ _ ({ dst := _, op := Op.load 40 _, type := _, pos := _, after := _, guard := _ } :: _) _ _; refine wpList_val rfl (exec_load (v := d.pen) rfl rfl (run_loadPen hp)) (fun K hK => ?_); go_simp; refine hK _ _ ?_; clear hK K)
              refine (spacer_any d _).mono ?_
              rintro e W3 ⟨rfl, s⟩
              have HS3 := Lib.hid (HS.out.trans s)
              obtain ⟨g2, W4, e4, hg, -, hst, hown, hkp⟩ := own_store_cell (HO.out.sees s) (show k < ds.length by rw [HDL.out]; exact hlt) (d.spacer)
              cases e4
              have HOW := Lib.hid hown
              have HS4 : Hid (Sees w W4) := ((Keeps.of_sees (F := fun _ => False) HS3.out).trans' hkp (fun b hb e => by omega)).sees_end (fun _ _ h => h)
              have HFC := Lib.hid (HST.out c HC.out)
              rw [show fixC ds k c = d.spacer from by unfold fixC; rw [← HLB.out, w0, w2]; exact HBF.out] at HFC
              clear hp s hown hkp cw HAT HC
              go_wp2_with (guard_target = wpList _ _ _ ({ dst := _, op := Op.store 42 _ _, type := _, pos := _, after := _, guard := _ } :: _) _ _; refine wpList_skip rfl (exec_store (v := (d.spacer).val) rfl rfl rfl hst) (fun K hK => ?_); go_simp; refine hK _ _ ?_; clear hK K)
              exact ⟨⟨k + 1, by omega, by go_num, by rw [HFC.out]; exact HOW.out, HS4.out⟩, by simp [intOf]; omega⟩
          · rcases Bool.eq_false_or_eq_true (c.width == 2) with w2 | w2
            · cases RB
              · have hp := HAT.out
                go_wp2_with (guard_target = wpList _ _ _ ({ dst := _, op := Op.load 40 _, type := _, pos := _, after := _, guard := _ } :: _) _ _; refine wpList_val rfl (exec_load (v := c.pen) rfl rfl (run_loadPen hp)) (fun K hK => ?_); go_simp; refine hK _ _ ?_; clear hK K)
                refine (blankP_any c _).mono ?_
                rintro e W3 ⟨rfl, s⟩
                have HS3 := Lib.hid (HS.out.trans s)
                obtain ⟨g2, W4, e4, hg, -, hst, hown, hkp⟩ := own_store_cell (HO.out.sees s) (show k < ds.length by rw [HDL.out]; exact hlt) (c.blankP)
                cases e4
                have HOW := Lib.hid hown
                have HS4 : Hid (Sees w W4) := ((Keeps.of_sees (F := fun _ => False) HS3.out).trans' hkp (fun b hb e => by omega)).sees_end (fun _ _ h => h)
                have HFC := Lib.hid (HST.out c HC.out)
                rw [show fixC ds k c = c.blankP from by unfold fixC; rw [← HRB.out, w0, w2]; simp] at HFC
                clear hp s hown hkp cw HAT HC
                go_wp2_with (guard_target = wpList _ _ _ ({ dst := _, op := Op.store 42 _ _, type := _, pos := _, after := _, guard := _ } :: _) _ _; refine wpList_skip rfl (exec_store (v := (c.blankP).val) rfl rfl rfl hst) (fun K hK => ?_); go_simp; refine hK _ _ ?_; clear hK K)
                exact ⟨⟨k + 1, by omega, by go_num, by rw [HFC.out]; exact HOW.out, HS4.out⟩, by simp [intOf]; omega⟩
              · have HFC := Lib.hid (HST.out c HC.out)
                rw [show fixC ds k c = c from by unfold fixC; rw [← HRB.out, w0, w2]; simp, set_same HC.out] at HFC
                go_wp2_with fail
                exact ⟨⟨k + 1, by omega, by go_num, by rw [HFC.out]; exact HO.out, HS.out⟩, by simp [intOf]; omega⟩
            · have HFC := Lib.hid (HST.out c HC.out)
              rw [show fixC ds k c = c from by unfold fixC; rw [w0, w2]; simp, set_same HC.out] at HFC
              go_wp2_with fail
              exact ⟨⟨k + 1, by omega, by go_num, by rw [HFC.out]; exact HO.out, HS.out⟩, by simp [intOf]; omega⟩
    · obtain rfl : j1 = k := by omega
      have HF := Lib.hid (HFX.out ▸ HO.out : cellEl.Own (fun b => w.heap.size ≤ b) wr (.slice (some ⟨g, 0, none⟩) j1 c1) (fixL cs))
      go_wp2
      go_ret
      exact ⟨_, rfl, HF.out, HS.out⟩
end Go.Proofs.YthcndmchlpohpaaGreatDoor
