/- ChooseMany (41). The tables hold what the program's text lays. -/
import Derived.Test.YtooiiefipdjbjaaDoorCiP
namespace Go.Proofs.YtooiiefipdjbjaaDoor
set_option linter.unusedVariables false
set_option linter.unusedSimpArgs false
open Go.RowKit Go.Shelf
attribute [local go_sem] Oper.semAt_some

theorem lines_made (n : Nat) (hn : n ≤ 1000000) (W : World) : (Instr.makeSlice 22 (.int .i64 (n : Int)) (.int .i64 (n : Int))).run Tryd.prog W = .ok (.slice (some ⟨W.heap.size, 0, none⟩) n n) (W.alloc (.cells (List.replicate n [Value.slice none 0 0, .bool false]).flatten.toArray 40)) :=
  (El.run_make_own (E := lnEl) (P := Tryd.prog) (st := 22) [Value.slice none 0 0, .bool false] (⟨[], false⟩ : Ln) Tryd.underlying22 (by kernel_rfl) (fun i hi => by
    have h : (Tryd.prog.info? 40).map (·.bytes) = some 32 := by kernel_rfl
    have hi2 : Tryd.prog.info? 40 = some i := hi
    rw [hi2] at h; simp at h; omega) rfl rfl (fun F w => ⟨.slice none 0 0, rfl, El.Own.nil _ _⟩) n hn W).1
/-- The rows as they are made. -/
def MnR (W : World) (g n : Nat) (so : Bool) (k : Nat) : Prop := ∃ cur : Array Value, W.heap[g]? = some (.cells cur 40 (0, 0)) ∧ cur.size = n * 2 ∧ ∀ j, j < k → ∃ v, cur[j * 2]? = some v ∧ cur[j * 2 + 1]? = some (.bool so) ∧ cellEl.Rd (fun b => b ≠ g ∧ b < W.heap.size) W v abC
namespace MnR
variable {W W' : World} {g n k : Nat} {so : Bool}
theorem sees (h : MnR W g n so k) (hs : Sees W W') : MnR W' g n so k := by
  obtain ⟨cur, h1, h2, h3⟩ := h
  refine ⟨cur, by rw [hs.block _ (Array.getElem?_eq_some_iff.1 h1).1]; exact h1, h2, fun j hj => ?_⟩
  obtain ⟨v, a, b, c⟩ := h3 j hj
  exact ⟨v, a, b, (c.sees hs).mono fun x _ hx => ⟨hx.1, Nat.lt_of_lt_of_le hx.2 hs.size⟩⟩
theorem lt (h : MnR W g n so k) : g < W.heap.size := by
  obtain ⟨cur, h1, _⟩ := h
  exact (Array.getElem?_eq_some_iff.1 h1).1
theorem cell (h : MnR W g n so k) (hk : k < n) : (∃ x, W.cell? ⟨g, k * 2, none⟩ = some x) ∧ (∃ x, W.cell? ⟨g, k * 2 + 1, none⟩ = some x) ∧ ∀ i, W.frozen? ⟨g, i, none⟩ = false := by
  obtain ⟨cur, h1, h2, _⟩ := h
  refine ⟨⟨cur[k * 2]'(by omega), ?_⟩, ⟨cur[k * 2 + 1]'(by omega), ?_⟩, fun i => frozen_of_row W g i _ _ h1⟩
  · rw [cell_of_row _ _ _ _ _ _ h1]; exact Array.getElem?_eq_getElem _
  · rw [cell_of_row _ _ _ _ _ _ h1]; exact Array.getElem?_eq_getElem _
theorem put (h : MnR W g n so k) (hk : k < n) {v : Value} (hv : cellEl.Rd (fun b => b ≠ g ∧ b < W.heap.size) W v abC) : MnR ((W.setCell ⟨g, k * 2, none⟩ v).setCell ⟨g, k * 2 + 1, none⟩ (.bool so)) g n so (k + 1) ∧ Keeps (fun b => b = g) W ((W.setCell ⟨g, k * 2, none⟩ v).setCell ⟨g, k * 2 + 1, none⟩ (.bool so)) := by
  obtain ⟨cur, h1, h2, h3⟩ := h
  have hK : Keeps (fun b => b = g) W ((W.setCell ⟨g, k * 2, none⟩ v).setCell ⟨g, k * 2 + 1, none⟩ (.bool so)) := Keeps.setCell (F := fun b => b = g) (Keeps.setCell (F := fun b => b = g) (Keeps.refl _ W) (p := ⟨g, k * 2, none⟩) (fun _ => rfl) _) (p := ⟨g, k * 2 + 1, none⟩) (fun _ => rfl) _
  have hR : ∀ u, cellEl.Rd (fun b => b ≠ g ∧ b < W.heap.size) W u abC → cellEl.Rd (fun b => b ≠ g ∧ b < ((W.setCell ⟨g, k * 2, none⟩ v).setCell ⟨g, k * 2 + 1, none⟩ (.bool so)).heap.size) ((W.setCell ⟨g, k * 2, none⟩ v).setCell ⟨g, k * 2 + 1, none⟩ (.bool so)) u abC := fun u hu =>
    (hu.keeps hK (fun b hb e => hb.1 e)).mono fun b hb hx => ⟨hx.1, hb⟩
  refine ⟨⟨_, heap_setCell_same _ _ _ _ _ _ (heap_setCell_same _ _ _ _ _ _ h1), by simpa using h2, fun j hj => ?_⟩, hK⟩
  rcases Nat.lt_or_ge j k with hjk | hjk
  · obtain ⟨u, a, b, c⟩ := h3 j hjk
    exact ⟨u, by rw [Array.getElem?_setIfInBounds_ne (by omega), Array.getElem?_setIfInBounds_ne (by omega)]; exact a, by rw [Array.getElem?_setIfInBounds_ne (by omega), Array.getElem?_setIfInBounds_ne (by omega)]; exact b, hR u c⟩
  · obtain rfl : j = k := by omega
    exact ⟨v, by rw [Array.getElem?_setIfInBounds_ne (by omega), Array.getElem?_setIfInBounds_self_of_lt (by omega)], by rw [Array.getElem?_setIfInBounds_self_of_lt (by simp; omega)], hR v hv⟩
theorem rd (h : MnR W g n so n) : lnEl.Rd (fun b => b < W.heap.size) W (.slice (some ⟨g, 0, none⟩) n n) (mnL n so) := by
  have hg := h.lt
  obtain ⟨cur, h1, h2, h3⟩ := h
  refine rd_block (E := lnEl) h1 ⟨?_, fun i x hx => ?_⟩ hg mn_len.symm
  · show cur.toList.length = (mnL n so).length * 2
    rw [mn_len, Array.length_toList, h2]
  · have hi : i < n := by have := (List.getElem?_eq_some_iff.1 hx).1; rw [mn_len] at this; exact this
    rw [mn_at hi] at hx
    cases hx
    obtain ⟨v, a, b, c⟩ := h3 i hi
    have a' : cur.toList[i * 2]? = some v := by simpa using a
    have b' : cur.toList[i * 2 + 1]? = some (.bool so) := by simpa using b
    have e : (cur.toList.drop (i * lnEl.n)).take lnEl.n = [v, .bool so] := by
      show (cur.toList.drop (i * 2)).take 2 = [v, .bool so]
      obtain ⟨p, a2⟩ := List.getElem?_eq_some_iff.1 a'
      obtain ⟨q, b2⟩ := List.getElem?_eq_some_iff.1 b'
      rw [List.drop_eq_getElem_cons p, List.drop_eq_getElem_cons q, a2, b2]
      rfl
    rw [e]
    exact ln_rel (c.mono fun _ _ hx => hx.2) so
end MnR
structure CmM (w : World) (b : Nat) (q : Int) (W : World) : Prop where
  i : Sees w W
  ch : ChAt W b 3 q 0 q 1
theorem CmM.sees {w W W' : World} {b : Nat} {q : Int} (h : CmM w b q W) (hs : Sees W W') : CmM w b q W' := ⟨h.i.trans hs, h.ch.sees hs⟩
set_option maxHeartbeats 4000000 in
set_option maxRecDepth 100000 in
theorem many_in (n : Nat) (wh : Int) (so : Bool) (w : World) (ht : Tabs w) (h1 : 998 ≤ n) (h2 : n ≤ 1002) (hw0 : 0 ≤ wh ∧ wh ≤ 65535) :
    Calls Tryd.prog 5 #[.int .i64 (n : Int), .int .u16 wh, .bool so] w fun e w' => e = .returned (.bool true) ∧ Sees w w' := by
  have KP := Lib.hid (fun l c W => at41_any l c W)
  have KC := Lib.hid (fun k a b c d W => choice41_any k a b c d W)
  have KR := Lib.hid (fun s hs W => row41_any s hs W)
  have HT := Lib.hid ht
  obtain ⟨obj, hobj⟩ : ∃ obj, obj = Obj.cells (List.replicate n [Value.slice none 0 0, .bool false]).flatten.toArray 40 := ⟨_, rfl⟩
  have hmk := fun W => lines_made n (by omega) W
  rw [← hobj] at hmk
  have R0 : MnR (w.alloc obj) w.heap.size n so 0 := ⟨_, by rw [hobj]; exact heap_alloc_new w _, by simp, fun j hj => by omega⟩
  have S0 := (Sees.refl w).alloc obj
  have d1 : decide ((n : Int) < 998) = false := decide_eq_false (by omega)
  have d2 : decide ((n : Int) > 1002) = false := decide_eq_false (by omega)
  obtain ⟨g, hg⟩ : ∃ g, g = w.heap.size := ⟨_, rfl⟩
  have HG := Lib.hid hg
  have R1 := Lib.hid R0
  have S1 := Lib.hid S0
  obtain ⟨q, hq, hqb⟩ : ∃ q : Nat, wh.tmod (n : Int) = (q : Int) ∧ q < n := by
    obtain ⟨f, rfl⟩ := Int.eq_ofNat_of_zero_le hw0.1
    exact ⟨f % n, (Int.ofNat_tmod f n).symm, Nat.mod_lt _ (by omega)⟩
  have k1 : IntKind.i64.wrap wh = wh := IntWalk.i64_in _ (by omega)
  have k2 : IntKind.i64.wrap (q : Int) = (q : Int) := IntWalk.i64_in _ (by omega)
  have k3 : ((n : Int) == 0) = false := by rw [beq_eq_false_iff_ne]; omega
  have k4 : n ≠ 0 := by omega
  clear ht hobj R0 S0 hw0
  go_enter Tryd.func5, Tryd.ntmps5
  go_upto_block 0 with fail
  rw [← hg] at R1 ⊢
  clear hg hmk
  go_wp2
  go_loopw [8] (fun u W => ∃ k : Nat, k ≤ n ∧ u = .int .i64 (k : Int) ∧ MnR W g n so k ∧ Sees w W) (fun u _ => n - (intOf u).toNat)
  case atStart => exact ⟨0, Nat.zero_le _, rfl, R1.out, S1.out⟩
  case round =>
    obtain ⟨k, hk, rfl, hR, hS⟩ := hrel
    have R := Lib.hid hR
    have S := Lib.hid hS
    clear hR hS R1 S1
    by_cases hlt : k < n
    · have hkI : (k : Int) < (n : Int) := by omega
      have k5 : IntKind.i64.wrap ((k : Int) + 1) = ((k + 1 : Nat) : Int) := by rw [IntWalk.i64_in _ (by omega)]; omega
      clear d1 d2 hq k1 k2
      go_wp2_with fail
      refine (KR.out ⟨#[97, 98]⟩ (by decide) wr).mono ?_
      rintro e w3 ⟨v, rfl, ho, hs⟩
      have S3 := Lib.hid (S.out.trans hs)
      have R3 := Lib.hid (R.out.sees hs)
      have HV : Hid (cellEl.Rd (fun b => b ≠ g ∧ b < w3.heap.size) w3 v abC) := ho.cut.rd.mono fun b _ hb => ⟨by have := R.out.lt; omega, hb.2⟩
      obtain ⟨av, cv, hv, _⟩ := ho.slice
      obtain ⟨lv, hlv⟩ : ∃ lv, lv = (chL ⟨#[97, 98]⟩).length := ⟨_, rfl⟩
      rw [← hlv] at hv
      subst hv
      clear hs ho S R hlv
      obtain ⟨⟨x0, c0⟩, ⟨x1, c1⟩, c2⟩ := R3.out.cell hlt
      go_wp2
      obtain ⟨hp, hkp⟩ := R3.out.put hlt HV.out
      have hfin : ∃ k' : Nat, k' ≤ n ∧ Value.int .i64 ((k : Int) + 1) = .int .i64 (k' : Int) ∧ MnR ((w3.setCell ⟨g, k * 2, none⟩ (.slice av lv cv)).setCell ⟨g, k * 2 + 1, none⟩ (.bool so)) g n so k' ∧ Sees w ((w3.setCell ⟨g, k * 2, none⟩ (.slice av lv cv)).setCell ⟨g, k * 2 + 1, none⟩ (.bool so)) := ⟨k + 1, hlt, by congr 1, hp, (S3.out.setCell (p := ⟨g, k * 2, none⟩) (by show w.heap.size ≤ g; have := HG.out; omega) _).setCell (p := ⟨g, k * 2 + 1, none⟩) (by show w.heap.size ≤ g; have := HG.out; omega) _⟩
      go_roundw
      case rel => first | exact hfin | ((repeat apply Exists.intro); exact ⟨hfin, rfl⟩)
      case measure => simp [intOf]; omega
    · obtain rfl : k = n := by omega
      have hkI : (k : Int) ≤ (k : Int) := Int.le_refl _
      have hn0 : 0 < k := by omega
      have hl := R.out.rd
      have hgl := R.out.lt
      have S0 := S
      have KK := Lib.hid (fun W (hs : Sees wr W) => known41_any W (HT.out.sees (S0.out.trans hs)))
      have HNC : Hid (∀ x ∈ mnL k so, x.cells.length ≤ 1000000) := fun x hx => by rw [(List.mem_replicate.1 hx).2]; show (2 : Nat) ≤ 1000000; decide
      have HLN : Hid ((mnL k so).length ≤ 1000000) := by unfold RowKit.Hid; rw [mn_len]; omega
      have HA := Lib.hid hl
      have hrows := mn_rows (so := so) hn0
      have e0 : plI (mnL k so) 0 (2 * q) = ((q : Int), 0) := mn_pl hn0 0 (by decide)
      have e1 : plI (mnL k so) 0 (2 * q + 1) = ((q : Int), 1) := mn_pl hn0 1 (by decide)
      have hcl : (mnL k so).length * cols (mnL k so) = k * 2 := by rw [mn_len, mn_cols hn0]
      have hx : 2 * q < (mnL k so).length * cols (mnL k so) := by omega
      have hy : 2 * q + 1 < (mnL k so).length * cols (mnL k so) := by omega
      have E0 := Lib.hid e0
      have E1 := Lib.hid e1
      have HX := Lib.hid hx
      have HY := Lib.hid hy
      have HR := Lib.hid hrows
      clear hl hrows e0 e1 hcl hx hy S R hgl hlt
      go_wp2_with fail
      refine (KC.out 3 q 0 q 1 wr).mono ?_
      rintro e w3 ⟨rfl, hs⟩
      have S3 := Lib.hid hs
      clear hs
      go_upto_region 10 with fail
      refine wp_world fun x0 hwa => ?_
      have hq1 : ChAt x0 w3.heap.size 3 q 0 q 1 := by subst hwa; exact heap_alloc_new w3 _
      have hs : Sees w3 x0 := by subst hwa; exact (Sees.refl w3).alloc _
      obtain ⟨b10, hb10⟩ : ∃ b10, b10 = w3.heap.size := ⟨_, rfl⟩
      rw [← hb10] at hq1 ⊢
      have M0 : Hid (CmM wr b10 q x0) := ⟨S3.out.trans hs, hq1⟩
      clear hwa hq1 hs hb10 S3
      by_cases hb : k ≤ 1000
      case neg =>
        have hbI : (k : Int) > 1000 := by omega
        have hof : ofE (mnL k so) 0 = 2 := ofE_long (by rw [mn_len]; exact hb)
        have hE : chE (mnL k so) 0 3 (q : Int) 0 (q : Int) 1 = 2 := by unfold chE; rw [if_pos hof]
        have HB := Lib.hid (show (-9223372036854775808 ≤ (q : Int) ∧ (q : Int) ≤ 9223372036854775807) ∧ (-9223372036854775808 ≤ (q : Int) ∧ (q : Int) ≤ 9223372036854775807) by omega)
        have KT1 := Lib.hid (fun W (hs : Sees wr W) => tSpansErr (HT.out.sees (S0.out.trans hs)) (HA.out.sees hs) HLN.out HNC.out HB.out hE (by decide))
        have KT2 := Lib.hid (fun W (hs : Sees wr W) => tLogicalsErr (HT.out.sees (S0.out.trans hs)) (HA.out.sees hs) HLN.out HNC.out (q : Int) 0 hof)
        clear hof hE
        obtain ⟨q0, q1, q2, q3, q4⟩ := M0.out.ch.c
        go_wp2_with fail
        refine (KT1.out _ M0.out.i).mono ?_
        rintro e x1 ⟨rfl, hs⟩
        have M1 := Lib.hid (M0.out.sees hs)
        clear hs M0 q0 q1 q2 q3 q4
        go_wp2_with fail
        refine (KP.out q 0 x1).mono ?_
        rintro e x2 ⟨rfl, hs⟩
        have M2 := Lib.hid (M1.out.sees hs)
        clear hs M1
        go_wp2_with fail
        refine (KT2.out _ M2.out.i).mono ?_
        rintro e x3 ⟨rfl, hs⟩
        have M3 := Lib.hid (M2.out.sees hs)
        clear hs M2
        go_wp2_with fail
        refine (KK.out _ M3.out.i).mono ?_
        rintro e wk ⟨rfl, hs⟩
        have MK := Lib.hid (S0.out.trans (M3.out.i.trans hs))
        clear hs
        go_wp2
        go_ret
        exact ⟨rfl, MK.out⟩
      have hbI : ¬ (k : Int) > 1000 := by omega
      have HF : Hid (ShF (fun b => b < wr.heap.size) wr (.slice (some ⟨g, 0, none⟩) k k) (mnL k so) 0) := ⟨HA.out, fun _ h => h, HR.out, by rw [mn_len]; exact hb⟩
      cases so
      · have HQB := Lib.hid hqb
        have KTS := Lib.hid (fun W u (hs : Sees wr W) (hr : snEl.Rd (fun _ => True) W u (spansL (mnL k false) 0 3 (2 * q) (2 * q + 1))) => tSpans (HT.out.sees (S0.out.trans hs)) (HF.out.sees hs) (kd := 3) (by decide) (by decide) HX.out HY.out E0.out E1.out hr)
        have KTX := Lib.hid (fun W (hs : Sees wr W) => tTexts (HT.out.sees (S0.out.trans hs)) (HF.out.sees hs) (kd := 3) (by decide) (by decide) HX.out HY.out E0.out E1.out (mn_text hqb))
        have KTW := Lib.hid (fun W (hs : Sees wr W) => tWords (HT.out.sees (S0.out.trans hs)) (HF.out.sees hs) HY.out E1.out (la := (q : Int)) (ca := 0) (lb := (q : Int)) (cb := 1) (by rw [mn_wA_N HQB.out]; exact E0.out) (by rw [mn_wB_N HQB.out]; exact E1.out))
        obtain ⟨q0, q1, q2, q3, q4⟩ := M0.out.ch.c
        have sA : Sees x0 (x0.alloc (.cells #[.int .i64 (q : Int), .int .i64 0, .int .i64 2] 42)) := (Sees.refl _).alloc _
        have hr : snEl.Rd (fun _ => True) (x0.alloc (.cells #[.int .i64 (q : Int), .int .i64 0, .int .i64 2] 42)) (.slice (some ⟨x0.heap.size, 0, none⟩) 1 1) [⟨(q : Int), 0, 2⟩] := rd_block (E := snEl) (heap_alloc_new x0 _) (relIn_one (E := snEl) (sn_rel _ _ ⟨(q : Int), 0, 2⟩)) trivial rfl
        rw [← mn_spans HQB.out] at hr
        have HSR := Lib.hid hr
        have MX := Lib.hid (M0.out.sees sA)
        clear hr sA
        go_wp2_with fail
        refine (KTS.out _ _ MX.out.i HSR.out).mono ?_
        rintro e x1 ⟨rfl, hs⟩
        have M1 := Lib.hid (MX.out.sees hs)
        clear hs M0 MX HSR q0 q1 q2 q3 q4
        obtain ⟨q0, q1, q2, q3, q4⟩ := M1.out.ch.c
        go_wp2_with fail
        refine (KTX.out _ M1.out.i).mono ?_
        rintro e x2 ⟨rfl, hs⟩
        have M2 := Lib.hid (M1.out.sees hs)
        clear hs M1 q0 q1 q2 q3 q4
        go_wp2_with fail
        refine (KP.out q 1 x2).mono ?_
        rintro e x3 ⟨rfl, hs⟩
        have M3 := Lib.hid (M2.out.sees hs)
        clear hs M2
        go_wp2_with fail
        refine (KP.out q 0 x3).mono ?_
        rintro e x4 ⟨rfl, hs⟩
        have M4 := Lib.hid (M3.out.sees hs)
        clear hs M3
        go_wp2_with fail
        refine (KP.out q 1 x4).mono ?_
        rintro e x5 ⟨rfl, hs⟩
        have M5 := Lib.hid (M4.out.sees hs)
        clear hs M4
        go_wp2_with fail
        refine (KTW.out _ M5.out.i).mono ?_
        rintro e x6 ⟨rfl, hs⟩
        have M6 := Lib.hid (M5.out.sees hs)
        clear hs M5
        go_wp2_with fail
        refine (KK.out _ M6.out.i).mono ?_
        rintro e wk ⟨rfl, hs⟩
        have MK := Lib.hid (S0.out.trans (M6.out.i.trans hs))
        clear hs
        go_wp2
        go_ret
        exact ⟨rfl, MK.out⟩
      · have HQB := Lib.hid hqb
        have KSP := Lib.hid (fun W (hs : Sees wr W) => by
          have z := cSpans_ok _ _ _ _ (mnL k true) W (HT.out.sees (S0.out.trans hs)) 0 (HF.out.sees hs) 3 (by decide) (by decide) (2 * q) (2 * q + 1) HX.out HY.out
          rw [E0.out, E1.out] at z
          exact z)
        have kn : IntKind.i64.wrap ((k : Int) - 1) = ((k - 1 : Nat) : Int) := by rw [IntWalk.i64_in _ (by omega)]; omega
        have KTL := Lib.hid (fun W (hs : Sees wr W) => tLogicals (HT.out.sees (S0.out.trans hs)) (HF.out.sees hs) (i := 2 * q) (t := 0) (b := ((k - 1 : Nat) : Int)) HX.out E0.out (by rw [mn_cols hn0, show 2 * q / 2 = q by omega, mn_topS HQB.out]; rfl) (by rw [mn_cols hn0, show 2 * q / 2 = q by omega, mn_botS HQB.out, Int.zero_add]))
        have HN0 := Lib.hid hn0
        have KTW := Lib.hid (fun W (hs : Sees wr W) => tWords (HT.out.sees (S0.out.trans hs)) (HF.out.sees hs) HY.out E1.out (la := 0) (ca := 0) (lb := ((k - 1 : Nat) : Int)) (cb := 1) (by rw [mn_wA_S HQB.out]; exact mn_pl (q := 0) HN0.out 0 (by decide)) (by rw [mn_wB_S HQB.out]; exact mn_pl HN0.out 1 (by decide)))
        obtain ⟨q0, q1, q2, q3, q4⟩ := M0.out.ch.c
        go_wp2_with fail
        refine (KSP.out _ M0.out.i).mono ?_
        rintro e x1 ⟨v, rfl, ho, hs⟩
        obtain ⟨av, cv, hv, _⟩ := ho.slice
        rw [mn_spansLen HQB.out] at hv
        subst hv
        have M1 := Lib.hid (M0.out.sees hs)
        clear hs ho M0 q0 q1 q2 q3 q4
        go_wp2_with fail
        refine (KP.out q 0 x1).mono ?_
        rintro e x2 ⟨rfl, hs⟩
        have M2 := Lib.hid (M1.out.sees hs)
        clear hs M1
        go_wp2_with fail
        refine (KTL.out _ M2.out.i).mono ?_
        rintro e x3 ⟨rfl, hs⟩
        have M3 := Lib.hid (M2.out.sees hs)
        clear hs M2
        go_wp2_with fail
        refine (KP.out q 1 x3).mono ?_
        rintro e x4 ⟨rfl, hs⟩
        have M4 := Lib.hid (M3.out.sees hs)
        clear hs M3
        go_wp2_with fail
        refine (KP.out 0 0 x4).mono ?_
        rintro e x5 ⟨rfl, hs⟩
        have M5 := Lib.hid (M4.out.sees hs)
        clear hs M4
        go_wp2_with fail
        refine (KP.out ((k - 1 : Nat) : Int) 1 x5).mono ?_
        rintro e x6 ⟨rfl, hs⟩
        have M6 := Lib.hid (M5.out.sees hs)
        clear hs M5
        go_wp2_with fail
        refine (KTW.out _ M6.out.i).mono ?_
        rintro e x7 ⟨rfl, hs⟩
        have M7 := Lib.hid (M6.out.sees hs)
        clear hs M6
        go_wp2_with fail
        refine (KK.out _ M7.out.i).mono ?_
        rintro e wk ⟨rfl, hs⟩
        have MK := Lib.hid (S0.out.trans (M7.out.i.trans hs))
        clear hs
        go_wp2
        go_ret
        exact ⟨rfl, MK.out⟩
theorem many_out (m wh : Int) (so : Bool) (w : World) (ht : Tabs w) (h : m < 998 ∨ 1002 < m) :
    Calls Tryd.prog 5 #[.int .i64 m, .int .u16 wh, .bool so] w fun e w' => e = .returned (.bool true) ∧ Sees w w' := by
  have HK := Lib.hid (known41_any w ht)
  clear ht
  by_cases h1 : m < 998
  · have d1 : decide (m < 998) = true := decide_eq_true h1
    go_enter Tryd.func5, Tryd.ntmps5
    go_wp2_with fail
    refine HK.out.mono ?_
    rintro e w1 ⟨rfl, hs⟩
    go_wp2
    go_ret
    exact ⟨rfl, hs⟩
  · have d1 : decide (m < 998) = false := decide_eq_false h1
    have h2 : m > 1002 := by omega
    have d2 : decide (m > 1002) = true := decide_eq_true h2
    clear h
    go_enter Tryd.func5, Tryd.ntmps5
    go_wp2_with fail
    refine HK.out.mono ?_
    rintro e w1 ⟨rfl, hs⟩
    go_wp2
    go_ret
    exact ⟨rfl, hs⟩
theorem choosemany_true (m wh : Int) (so : Bool) (w : World) (ht : Tabs w) (hw : 0 ≤ wh ∧ wh ≤ 65535) :
    Calls Tryd.prog 5 #[.int .i64 m, .int .u16 wh, .bool so] w fun e w' => e = .returned (.bool true) ∧ Sees w w' := by
  by_cases h : m < 998 ∨ 1002 < m
  · exact many_out m wh so w ht h
  · obtain ⟨n, rfl⟩ := Int.eq_ofNat_of_zero_le (show 0 ≤ m by omega)
    exact many_in n wh so w ht (by omega) (by omega) hw
end Go.Proofs.YtooiiefipdjbjaaDoor
