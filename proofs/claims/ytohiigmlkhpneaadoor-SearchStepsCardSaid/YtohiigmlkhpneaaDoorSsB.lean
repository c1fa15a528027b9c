/- SearchSteps (42): its walk. The tables hold what the program's text lays. -/
import Derived.Test.YtohiigmlkhpneaaDoorSsA
namespace Go.Proofs.YtohiigmlkhpneaaDoor
set_option linter.unusedVariables false
set_option linter.unusedSimpArgs false
open Go.RowKit Go.Shelf
attribute [local go_sem] Oper.semAt_some

section
variable {ls : List Ln} {first : Int} {p : ByteArray} {fold : Bool} {l c k : Int}
theorem nxt_err (h : foR ls first p l c = k) (hk : k ≠ 0) : nxt ls first p fold l c = (⟨0, 0, 0, 0⟩, k) := by unfold nxt; rw [h, if_neg hk]; rfl
theorem prv_err (h : foR ls first p l c = k) (hk : k ≠ 0) : prv ls first p fold l c = (⟨0, 0, 0, 0⟩, k) := by unfold prv; rw [h, if_neg hk]; rfl
theorem nxt_in (h : foR ls first p l c = 0) : nxt ls first p fold l c = (nextR (allM ls first p.data.toList fold) l c, noneE (allM ls first p.data.toList fold)) := by unfold nxt; rw [if_pos h]
theorem prv_in (h : foR ls first p l c = 0) : prv ls first p fold l c = (prevR (allM ls first p.data.toList fold) l c, noneE (allM ls first p.data.toList fold)) := by unfold prv; rw [if_pos h]
theorem foR_two (h : ckR ls first p = 2) : foR ls first p l c = 2 := by unfold foR; rw [if_neg (by omega)]
end
theorem pl_put {W : World} {b : Nat} {l0 c0 : Int} (h : PlAt W b l0 c0) (l c : Int) : PlAt ((W.setCell ⟨b, 0, none⟩ (.int .i64 l)).setCell ⟨b, 1, none⟩ (.int .i64 c)) b l c := by
  have h1 := heap_setCell_same W b 0 _ _ (.int .i64 l) h
  exact heap_setCell_same _ b 1 _ _ (.int .i64 c) h1
theorem sees_two {w W : World} {b : Nat} (h : Sees w W) (hb : w.heap.size ≤ b) (x y : Value) : Sees w ((W.setCell ⟨b, 0, none⟩ x).setCell ⟨b, 1, none⟩ y) := (h.setCell (p := ⟨b, 0, none⟩) hb _).setCell (p := ⟨b, 1, none⟩) hb _
theorem after_at {l c l' c' : Int} {B : Bool} (h : befB l' c' l c = B) (w : World) : Calls Tryd.prog 17 #[.agg #[.int .i64 l, .int .i64 c], .agg #[.int .i64 l', .int .i64 c']] w fun e w' => e = .returned (.bool B) ∧ Sees w w' := by
  have q := after_sees l c l' c' w
  rw [h] at q
  exact q
def stM (W : World) (b : Nat) (x : Mt) : World := W.setRow b [Value.int .i64 x.l0, .int .i64 x.c0, .int .i64 x.l1, .int .i64 x.c1].toArray
theorem run_storeMt {W : World} {b : Nat} {m : Mt} (h : MtAt W b m) (x : Mt) : (Instr.storeAt 35 (.pointer (some ⟨b, 0, none⟩)) (.agg #[.int .i64 x.l0, .int .i64 x.c0, .int .i64 x.l1, .int .i64 x.c1])).run Tryd.prog W = .ok () (stM W b x) :=
  run_storeAt_row (P := Tryd.prog) (W := W) 35 b _ 35 [.int .i64 x.l0, .int .i64 x.c0, .int .i64 x.l1, .int .i64 x.c1] (fun _ => by kernel_rfl) h rfl (by intro v hv; simp only [List.mem_cons, List.not_mem_nil, or_false] at hv; rcases hv with rfl | rfl | rfl | rfl <;> rfl)
theorem stM_at {W : World} {b : Nat} {m : Mt} (h : MtAt W b m) (x : Mt) : MtAt (stM W b x) b x := by
  unfold MtAt at *
  simp [stM, World.setRow, Array.getElem?_modify, h]
theorem stM_keeps (W : World) (b : Nat) (x : Mt) : Keeps (fun y => y = b) W (stM W b x) :=
  ⟨rfl, rfl, rfl, by simp [stM, World.setRow], fun y _ hne => setRow_other _ _ _ _ hne⟩
/-- What stands while a place's neighbours are looked for. -/
structure StI (w : World) (b14 b15 b16 : Nat) (l c : Int) (x y : Mt) (W : World) : Prop where
  p : PlAt W b14 l c
  n : MtAt W b15 x
  v : MtAt W b16 y
  s : Sees w W
structure StB (w : World) (b14 b15 b16 : Nat) : Prop where
  a : b14 < b15 ∧ b14 < b16 ∧ b15 ≠ b16
  b : w.heap.size ≤ b15 ∧ w.heap.size ≤ b16
section
variable {w W W' : World} {b14 b15 b16 : Nat} {l c : Int} {x y : Mt}
theorem StI.sees (h : StI w b14 b15 b16 l c x y W) (hs : Sees W W') : StI w b14 b15 b16 l c x y W' := ⟨h.p.sees hs, h.n.sees hs, h.v.sees hs, h.s.trans hs⟩
theorem StI.setN (h : StI w b14 b15 b16 l c x y W) (hb : StB w b14 b15 b16) (z : Mt) : StI w b14 b15 b16 l c z y (put4 W b15 z) := by
  have hk := put4_keeps (F := fun y => y = b15) (Keeps.refl _ W) (.inr rfl) z
  have := hb.a
  exact ⟨h.p.keeps hk (by omega), put4_at h.n z, h.v.keeps hk (by omega), sees_put4 h.s hb.b.1 z⟩
theorem StI.setV (h : StI w b14 b15 b16 l c x y W) (hb : StB w b14 b15 b16) (z : Mt) : StI w b14 b15 b16 l c x z (put4 W b16 z) := by
  have hk := put4_keeps (F := fun y => y = b16) (Keeps.refl _ W) (.inr rfl) z
  have := hb.a
  exact ⟨h.p.keeps hk (by omega), h.n.keeps hk (by omega), put4_at h.v z, sees_put4 h.s hb.b.2 z⟩
end
set_option maxHeartbeats 8000000 in
set_option maxRecDepth 100000 in
theorem searchSteps_any (v : Value) (ls : List Ln) (first : Int) (p : ByteArray) (fold : Bool) (l c : Int) (w : World) (hst : Std w) (ht : Tabs w) (ha : lnEl.Rd (fun b => b < w.heap.size) w v ls) :
    Calls Tryd.prog 4 #[v, .int .i64 first, .string p, .bool fold, .agg #[.int .i64 l, .int .i64 c]] w fun e w' => e = .returned (.bool true) ∧ Sees w w' := by
  obtain ⟨a, n, cp, rfl⟩ : ∃ a n cp, v = .slice a n cp := by obtain ⟨a, c, rfl⟩ := ha.slice; exact ⟨_, _, _, rfl⟩
  have KN := Lib.hid (fun W (hs : Sees w W) => known_any W (hst.sees hs) (ht.sees hs))
  have HA := Lib.hid ha
  have HT := Lib.hid ht
  have HST := Lib.hid hst
  go_enter Tryd.func4, Tryd.ntmps4
  have KS := Lib.hid (fun W (hs : Sees w W) => small_any _ _ ls W (ha.sees hs) p)
  obtain ⟨B, hB⟩ : ∃ B, B = (smallB ls && decide (p.size ≤ 30)) := ⟨_, rfl⟩
  rw [← hB] at KS
  have HB := Lib.hid hB
  clear ha hst ht hB
  go_wp2_with fail
  refine calls_world fun W0 hW0 => ?_
  have P0 : Hid (PlAt W0 w.heap.size l c) := by subst hW0; exact heap_alloc_new w _
  have S0 : Hid (Sees w W0) := by subst hW0; exact (Sees.refl w).alloc _
  clear hW0
  refine (KS.out _ S0.out).mono ?_
  rintro e W1 ⟨rfl, s⟩
  have P1 := Lib.hid (P0.out.sees s)
  have HS1 := Lib.hid (S0.out.trans s)
  clear s P0 S0 KS
  cases B
  · go_wp2_with fail
    refine (KN.out _ HS1.out).mono ?_
    rintro e W2 ⟨rfl, s⟩
    have HS2 := Lib.hid (HS1.out.trans s)
    clear s
    go_wp2
    go_ret
    exact ⟨rfl, HS2.out⟩
  have hsm := HB.out.symm
  rw [Bool.and_eq_true, decide_eq_true_eq] at hsm
  obtain ⟨hl1, hcell⟩ := smallB_ok hsm.1
  have hp30 := hsm.2
  have hp : p.size ≤ 1000000000 := by omega
  have HC := Lib.hid hcell
  have hlm : ls.length ≤ 1000000 := by omega
  have hcm : ∀ x ∈ ls, x.cells.length ≤ 1000000 := fun x hx => by have := hcell x hx; omega
  have HCM := Lib.hid hcm
  have KR := Lib.hid (fun W (hs : Sees w W) => rows_any _ _ ls W (HT.out.sees hs) (HA.out.sees hs) hlm HCM.out first)
  have KE2 : Hid (∀ W, Sees w W → ckR ls first p = 2 → Calls Tryd.prog 14 #[.slice a n cp, .int .i64 first, .string p, .bool fold, .agg #[.int .i64 l, .int .i64 c], .agg #[.int .i64 0, .int .i64 0, .int .i64 0, .int .i64 0], .int .i64 2] W fun e w' => e = .returned (.bool true) ∧ Sees W w') :=
    fun W hs h => nexts_any (HST.out.sees hs) (HT.out.sees hs) (rd_up HA.out hs) hlm HCM.out hp fold l c ⟨0, 0, 0, 0⟩ 2 (nxt_err (foR_two h) (by decide))
  have KF2 : Hid (∀ W, Sees w W → ckR ls first p = 2 → Calls Tryd.prog 15 #[.slice a n cp, .int .i64 first, .string p, .bool fold, .agg #[.int .i64 l, .int .i64 c], .agg #[.int .i64 0, .int .i64 0, .int .i64 0, .int .i64 0], .int .i64 2] W fun e w' => e = .returned (.bool true) ∧ Sees W w') :=
    fun W hs h => prevs_any (HST.out.sees hs) (HT.out.sees hs) (rd_up HA.out hs) hlm HCM.out hp fold l c ⟨0, 0, 0, 0⟩ 2 (prv_err (foR_two h) (by decide))
  clear hsm hcell hcm
  obtain ⟨R, hR⟩ : ∃ R, R = rowsOk ls first := ⟨_, rfl⟩
  rw [← hR] at KR
  have HR := Lib.hid hR
  clear hR
  obtain ⟨q0, q1⟩ := P1.out.cells
  go_wp2_with fail
  refine (KR.out _ HS1.out).mono ?_
  rintro e W2 ⟨rfl, s⟩
  have P2 := Lib.hid (P1.out.sees s)
  have HS2 := Lib.hid (HS1.out.trans s)
  clear s P1 HS1 KR q0 q1
  obtain ⟨q0, q1⟩ := P2.out.cells
  cases R
  · have HCK := Lib.hid (ckR_rows (p := p) HR.out.symm)
    go_wp2_with fail
    refine (KE2.out _ HS2.out HCK.out).mono ?_
    rintro e W3 ⟨rfl, s⟩
    have P3 := Lib.hid (P2.out.sees s)
    have HS3 := Lib.hid (HS2.out.trans s)
    clear s q0 q1
    obtain ⟨q0, q1⟩ := P3.out.cells
    go_wp2_with fail
    refine (KF2.out _ HS3.out HCK.out).mono ?_
    rintro e W4 ⟨rfl, s⟩
    have HS4 := Lib.hid (HS3.out.trans s)
    clear s q0 q1
    go_wp2_with fail
    refine (KN.out _ HS4.out).mono ?_
    rintro e W5 ⟨rfl, s⟩
    have HS5 := Lib.hid (HS4.out.trans s)
    clear s
    go_wp2
    go_ret
    exact ⟨rfl, HS5.out⟩
  have KP := Lib.hid (fun W => pattern_any p hp W)
  obtain ⟨P, hP⟩ : ∃ P, P = patOk p := ⟨_, rfl⟩
  rw [← hP] at KP
  have HP := Lib.hid hP
  clear hP
  go_wp2_with fail
  refine (KP.out _).mono ?_
  rintro e W3 ⟨rfl, s⟩
  subst s
  clear KP
  cases P
  · have HCK := Lib.hid (ckR_pat (ls := ls) (first := first) HP.out.symm)
    go_wp2_with fail
    refine (KE2.out _ HS2.out HCK.out).mono ?_
    rintro e W3 ⟨rfl, s⟩
    have P3 := Lib.hid (P2.out.sees s)
    have HS3 := Lib.hid (HS2.out.trans s)
    clear s q0 q1
    obtain ⟨q0, q1⟩ := P3.out.cells
    go_wp2_with fail
    refine (KF2.out _ HS3.out HCK.out).mono ?_
    rintro e W4 ⟨rfl, s⟩
    have HS4 := Lib.hid (HS3.out.trans s)
    clear s q0 q1
    go_wp2_with fail
    refine (KN.out _ HS4.out).mono ?_
    rintro e W5 ⟨rfl, s⟩
    have HS5 := Lib.hid (HS4.out.trans s)
    clear s
    go_wp2
    go_ret
    exact ⟨rfl, HS5.out⟩
  have hck : ckR ls first p = 0 := ckR_ok HR.out.symm (by omega) HP.out.symm
  obtain ⟨hq1, hq2⟩ := patOk_ok HP.out.symm
  obtain ⟨hq0, hq3, hq4⟩ := rowsOk_ok HR.out.symm
  have HQ0 := Lib.hid hq0
  have HCK := Lib.hid hck
  clear hck hq0 q0 q1 KE2 KF2
  go_wp2_with fail
  refine (matched_any _ _ _ _ ls first p fold _ (HA.out.sees HS2.out) (by omega) (fun x hx => by have := HC.out x hx; omega) hq3 hq4 hq1 hq2).mono ?_
  rintro e W4 ⟨v4, rfl, ho, s⟩
  obtain ⟨a4, c4, rfl, _⟩ := ho.slice
  have P4 := Lib.hid (P2.out.sees s)
  have HS4 := Lib.hid (HS2.out.trans s)
  have HO := Lib.hid (ho.rd.mono (G := fun b => b < W4.heap.size) (fun b hb _ => hb))
  clear s ho P2 HS2
  obtain ⟨ms, hms⟩ : ∃ ms, ms = allM ls first p.data.toList fold := ⟨_, rfl⟩
  rw [← hms] at HO ⊢
  have HMS := Lib.hid hms
  obtain ⟨M, hM⟩ : ∃ M, M = ms.length := ⟨_, rfl⟩
  rw [← hM] at HO ⊢
  have HM := Lib.hid hM
  clear hms hM
  have hna : n = ls.length := HA.out.len
  have HN := Lib.hid hna
  have hn10 : n ≤ 10 := by omega
  clear hna hl1 hlm
  go_wp2_with fail
  go_loopw [12] (fun ii W => ∃ i : Nat, i ≤ n ∧ ii = .int .i64 i ∧ Sees W4 W) (fun ii _ => n - (intOf ii).toNat)
  case atStart => exact ⟨0, by omega, rfl, Sees.refl _⟩
  case round =>
    obtain ⟨i, hi, rfl, hS⟩ := hrel
    have HS := Lib.hid hS
    clear hS
    by_cases hlt : i < n
    · have hlti : (i : Int) < n := by omega
      obtain ⟨b1, o1, x, a1, m1, rfl, _, hx, hcap, x1, x2, x3⟩ := HA.out.line hlt
      have hxm := List.mem_iff_getElem?.2 ⟨_, hx⟩
      have hxc := (HQ0.out x hxm).1
      have hxl := HC.out x hxm
      have X1 := Lib.hid x1
      clear x1 x2 x3 hx hxm
      generalize x.cells.length = m at *
      go_wp2_with fail
      go_loopw [13] (fun kk W => ∃ k : Nat, k ≤ m ∧ kk = .int .i64 k ∧ Sees W4 W) (fun kk _ => m - (intOf kk).toNat)
      case atStart => exact ⟨0, by omega, rfl, HS.out⟩
      case round =>
        obtain ⟨k, hk, rfl, hS2⟩ := hrel
        have HS2 := Lib.hid hS2
        have y1 := (HS4.out.trans hS2).cell X1.out
        clear hS2 HS
        by_cases hkm : k < m
        · have hkmi : (k : Int) < m := by omega
          have hfo : foR ls first p (first + i) k = 0 := foR_in HCK.out (by rw [← HN.out]; omega) (by omega)
          have HFO := Lib.hid hfo
          clear hfo hxc
          obtain ⟨L, hL⟩ : ∃ L, L = first + (i : Int) := ⟨_, rfl⟩
          rw [← hL] at HFO
          have hw0 : IntKind.i64.wrap (first + (i : Int)) = L := by rw [hL]; exact IntWalk.i64_in _ (by omega)
          have HL := Lib.hid hL
          clear hL
          go_wp2_with fail
          refine (at_any L k _).mono ?_
          rintro e W5 ⟨rfl, s5⟩
          go_upto_region 13 with fail
          refine wp_world fun W6 hW6 => ?_
          have P6 : Hid (PlAt W6 W5.heap.size L k) := by
            subst hW6
            exact heap_alloc_new W5 _
          have S6 : Hid (Sees W4 W6) := by
            subst hW6
            exact (HS2.out.trans s5).alloc _
          have hb14 : W5.heap.size < W6.heap.size := P6.out.lt
          clear hW6 s5 y1 hkmi hlti hw0
          generalize W5.heap.size = b14 at *
          have hlM : M ≤ 10000 := by
            have := allM_few HC.out first p.data.toList fold
            rw [← HMS.out, ← HM.out] at this
            have h3 : ls.length * (20 * 16) ≤ 10 * (20 * 16) := Nat.mul_le_mul_right _ (by rw [← HN.out]; exact hn10)
            omega
          rcases Nat.eq_zero_or_pos M with hM0 | hMp
          · have hms0 : ms = [] := List.eq_nil_of_length_eq_zero (by rw [← HM.out]; exact hM0)
            have g0 : ((M : Int) == 0) = true := by simp [hM0]
            have KE : Hid (∀ W, Sees w W → Calls Tryd.prog 14 #[.slice (some ⟨b1, o1, none⟩) n cp, .int .i64 first, .string p, .bool fold, .agg #[.int .i64 L, .int .i64 k], .agg #[.int .i64 0, .int .i64 0, .int .i64 0, .int .i64 0], .int .i64 9] W fun e w' => e = .returned (.bool true) ∧ Sees W w') :=
              fun W hs => nexts_any (HST.out.sees hs) (HT.out.sees hs) (rd_up HA.out hs) (by rw [← HN.out]; omega) HCM.out hp fold L k ⟨0, 0, 0, 0⟩ 9 (by rw [nxt_in HFO.out, ← HMS.out, hms0]; rfl)
            have KF : Hid (∀ W, Sees w W → Calls Tryd.prog 15 #[.slice (some ⟨b1, o1, none⟩) n cp, .int .i64 first, .string p, .bool fold, .agg #[.int .i64 L, .int .i64 k], .agg #[.int .i64 0, .int .i64 0, .int .i64 0, .int .i64 0], .int .i64 9] W fun e w' => e = .returned (.bool true) ∧ Sees W w') :=
              fun W hs => prevs_any (HST.out.sees hs) (HT.out.sees hs) (rd_up HA.out hs) (by rw [← HN.out]; omega) HCM.out hp fold L k ⟨0, 0, 0, 0⟩ 9 (by rw [prv_in HFO.out, ← HMS.out, hms0]; rfl)
            clear hms0 hM0
            obtain ⟨q0, q1⟩ := P6.out.cells
            go_wp2_with fail
            refine (KE.out _ (HS4.out.trans S6.out)).mono ?_
            rintro e W7 ⟨rfl, s7⟩
            have P7 := Lib.hid (P6.out.sees s7)
            have S7 := Lib.hid (S6.out.trans s7)
            clear s7 q0 q1 g0 KE
            obtain ⟨q0, q1⟩ := P7.out.cells
            go_wp2_with fail
            refine (KF.out _ (HS4.out.trans S7.out)).mono ?_
            rintro e W8 ⟨rfl, s8⟩
            have S8 := Lib.hid (S7.out.trans s8)
            clear s8 q0 q1 KF
            go_wp2
            exact ⟨⟨k + 1, by omega, by go_num, S8.out⟩, by first | (simp [intOf]; done) | (simp [intOf]; omega)⟩
          · have g0 : ((M : Int) == 0) = false := by rw [beq_eq_false_iff_ne]; omega
            obtain ⟨d, r, hdr⟩ : ∃ d r, ms = d :: r := List.exists_cons_of_length_pos (by rw [← HM.out]; exact hMp)
            obtain ⟨lst, hlst⟩ : ∃ y, ms.getLast? = some y := ⟨_, List.getLast?_eq_some_getLast (by rw [hdr]; simp)⟩
            have HD : Hid (ms[0]? = some d) := by unfold RowKit.Hid; rw [hdr]; rfl
            have HLS : Hid (ms[M - 1]? = some lst) := by unfold RowKit.Hid; rw [← hlst, List.getLast?_eq_getElem?, HM.out]
            have hNX : Hid (nextR ms L k = nextD d L k ms) := by unfold RowKit.Hid nextR; rw [hdr]
            have hPV : Hid (prevR ms L k = prevD L k lst ms) := by unfold RowKit.Hid prevR; rw [hlst]
            have hNE : Hid (noneE ms = 0) := by unfold RowKit.Hid; rw [hdr]; rfl
            clear hdr hlst
            go_upto_region 16 with fail
            go_cut [15, 16] from 99 to 107 (fun v15 v16 wx => ∃ b15 b16 : Nat, v15 = .pointer (some ⟨b15, 0, none⟩) ∧ v16 = .pointer (some ⟨b16, 0, none⟩) ∧ StB W4 b14 b15 b16 ∧ StI W4 b14 b15 b16 L k d lst wx)
            case first =>
              have hs46 := S6.out.size
              refine wpH_go (fun _ => False) 13 (by kernel_rfl) (by kernel_rfl) (by rfl) (fun hB w9 hs9 => ?_)
              have HO9 := Lib.hid ((HO.out.sees S6.out).sees hs9)
              have P9 := Lib.hid (P6.out.sees hs9)
              have S9 := Lib.hid (S6.out.trans hs9)
              have h69 := hs9.size
              clear hs9
              have hS0 : Keeps (fun _ => False) w9 w9 := Keeps.refl _ w9
              obtain ⟨b3, o3, x0, rfl, hx0, c0, c1, c2, c3⟩ := mt_at HO9.out hMp
              obtain rfl : x0 = d := by rw [HD.out] at hx0; exact (Option.some.inj hx0).symm
              obtain ⟨b4, o4, x1, e4, hx1, d0, d1, d2, d3⟩ := mt_at HO9.out (show M - 1 < M by omega)
              cases e4
              obtain rfl : x1 = lst := by rw [HLS.out] at hx1; exact (Option.some.inj hx1).symm
              rw [Nat.zero_mul, Nat.add_zero] at c0 c1 c2 c3
              have C0 := Lib.hid c0
              have C1 := Lib.hid c1
              have C2 := Lib.hid c2
              have C3 := Lib.hid c3
              have D0 := Lib.hid d0
              have D1 := Lib.hid d1
              have D2 := Lib.hid d2
              have D3 := Lib.hid d3
              have hm0 : (0 : Int) ≤ (M : Int) - 1 := by omega
              have hm1 : (M : Int) - 1 < M := by omega
              have hm2 : ((M : Int) - 1).toNat = M - 1 := by omega
              have hm3 : ¬ ((M : Int) < 1) := by omega
              have hm4 : (0 : Int) < M := by omega
              have hm5 : IntKind.i64.wrap ((M : Int) - 1) = (M : Int) - 1 := IntWalk.i64_in _ (by omega)
              clear hx0 hx1 c0 c1 c2 c3 d0 d1 d2 d3 g0
              refine wpH_take (i := 0) (v := .slice (some ⟨b3, o3, none⟩) M c4) hB (by rfl) (by kernel_rfl) (fun _ _ _ _ _ h => h) (by rfl) hS0 (fun W hI => by clear hI; go_simp) ?_; (try simp only [Act.put, List.setIfInBounds_toArray, List.set_cons_zero, List.set_cons_succ])
              refine wpH_take (i := 1) (v := .pointer (some ⟨b3, o3, none⟩)) hB (by rfl) (by kernel_rfl) (fun _ _ _ _ _ h => h) (by rfl) hS0 (fun W hI => by clear hI; go_simp) ?_; (try simp only [Act.put, List.setIfInBounds_toArray, List.set_cons_zero, List.set_cons_succ])
              refine wpH_take (i := 2) (v := .agg #[.int .i64 x0.l0, .int .i64 x0.c0, .int .i64 x0.l1, .int .i64 x0.c1]) hB (by rfl) (by kernel_rfl) (fun _ _ _ _ _ h => h) (by rfl) hS0 (fun W hI => by have q1 := hI.cell (fun h => h) C0.out; have q2 := hI.cell (fun h => h) C1.out; have q3 := hI.cell (fun h => h) C2.out; have q4 := hI.cell (fun h => h) C3.out; go_simp) ?_; (try simp only [Act.put, List.setIfInBounds_toArray, List.set_cons_zero, List.set_cons_succ])
              refine wpH_take (i := 3) (v := .slice (some ⟨b3, o3, none⟩) M c4) hB (by rfl) (by kernel_rfl) (fun _ _ _ _ _ h => h) (by rfl) hS0 (fun W hI => by clear hI; go_simp) ?_; (try simp only [Act.put, List.setIfInBounds_toArray, List.set_cons_zero, List.set_cons_succ])
              refine wpH_take (i := 4) (v := .slice (some ⟨b3, o3, none⟩) M c4) hB (by rfl) (by kernel_rfl) (fun _ _ _ _ _ h => h) (by rfl) hS0 (fun W hI => by clear hI; go_simp) ?_; (try simp only [Act.put, List.setIfInBounds_toArray, List.set_cons_zero, List.set_cons_succ])
              refine wpH_take (i := 5) (v := .int .i64 M) hB (by rfl) (by kernel_rfl) (fun _ _ _ _ _ h => h) (by rfl) hS0 (fun W hI => by clear hI; go_simp) ?_; (try simp only [Act.put, List.setIfInBounds_toArray, List.set_cons_zero, List.set_cons_succ])
              refine wpH_take (i := 6) (v := .int .i64 ((M : Int) - 1)) hB (by rfl) (by kernel_rfl) (fun _ _ _ _ _ h => h) (by rfl) hS0 (fun W hI => by clear hI; go_simp) ?_; (try simp only [Act.put, List.setIfInBounds_toArray, List.set_cons_zero, List.set_cons_succ])
              refine wpH_take (i := 7) (v := .pointer (some ⟨b3, o3 + (M - 1) * 4, none⟩)) hB (by rfl) (by kernel_rfl) (fun _ _ _ _ _ h => h) (by rfl) hS0 (fun W hI => by clear hI; go_simp) ?_; (try simp only [Act.put, List.setIfInBounds_toArray, List.set_cons_zero, List.set_cons_succ])
              refine wpH_take (i := 8) (v := .agg #[.int .i64 x1.l0, .int .i64 x1.c0, .int .i64 x1.l1, .int .i64 x1.c1]) hB (by rfl) (by kernel_rfl) (fun _ _ _ _ _ h => h) (by rfl) hS0 (fun W hI => by have q1 := hI.cell (fun h => h) D0.out; have q2 := hI.cell (fun h => h) D1.out; have q3 := hI.cell (fun h => h) D2.out; have q4 := hI.cell (fun h => h) D3.out; go_simp) ?_; (try simp only [Act.put, List.setIfInBounds_toArray, List.set_cons_zero, List.set_cons_succ])
              obtain ⟨wa, hwa⟩ : ∃ wa, wa = w9.alloc (.cells #[.int .i64 0, .int .i64 0, .int .i64 0, .int .i64 0] 35) := ⟨_, rfl⟩
              obtain ⟨wb, hwb⟩ : ∃ wb, wb = wa.alloc (.cells #[.int .i64 0, .int .i64 0, .int .i64 0, .int .i64 0] 35) := ⟨_, rfl⟩
              have HSA : Hid (wa.heap.size = w9.heap.size + 1) := by unfold RowKit.Hid; rw [hwa, World.size_alloc]
              have E1 : Hid (MtAt wb w9.heap.size zeroMt) := by
                have q : MtAt wa w9.heap.size zeroMt := by rw [hwa]; exact heap_alloc_new w9 _
                rw [hwb]
                exact q.sees ((Sees.refl _).alloc _)
              have E2 : Hid (MtAt wb wa.heap.size zeroMt) := by rw [hwb]; exact heap_alloc_new wa _
              have KA : Keeps (fun _ => False) w9 wa := by rw [hwa]; exact Keeps.of_sees ((Sees.refl _).alloc _)
              have KB : Keeps (fun _ => False) w9 wb := by rw [hwb]; exact KA.trans (Keeps.of_sees ((Sees.refl _).alloc _))
              have HWA := Lib.hid hwa
              have HWB := Lib.hid hwb
              clear hwa hwb
              refine wpH_two (i := 9) (j := 10) (by kernel_rfl) ?_ ?_
              · refine wpOp_val (v := .pointer (some ⟨w9.heap.size, 0, none⟩)) (w' := wa) (by rfl) (wanted_none (by rfl) _) (by rw [HWA.out]; go_simp) ⟨KA, ?_⟩
                (try simp only [Act.put, List.setIfInBounds_toArray, List.set_cons_zero, List.set_cons_succ])
                refine wpH_one (i := 10) (by kernel_rfl) (wpOp_val (v := .pointer (some ⟨wa.heap.size, 0, none⟩)) (w' := wb) (by rfl) (wanted_none (by rfl) _) (by rw [HWB.out]; go_simp) ⟨KB, ?_⟩)
                (try simp only [Act.put, List.setIfInBounds_toArray, List.set_cons_zero, List.set_cons_succ])
                refine wpH_one (i := 11) (by kernel_rfl) (wpOp_skip (w' := stM wb (w9.heap.size) x0) (by rfl) (wanted_none (by rfl) _) (exec_store (a := .pointer (some ⟨w9.heap.size, 0, none⟩)) (v := .agg #[.int .i64 x0.l0, .int .i64 x0.c0, .int .i64 x0.l1, .int .i64 x0.c1]) rfl (by go_simp) (by go_simp) (run_storeMt E1.out x0)) ⟨KB.setRow' (by have := HSA.out; omega) _, ?_⟩)
                (try simp only [Act.put, List.setIfInBounds_toArray, List.set_cons_zero, List.set_cons_succ])
                refine wpH_one (i := 12) (by kernel_rfl) (wpOp_skip (w' := stM (stM wb (w9.heap.size) x0) (wa.heap.size) x1) (by rfl) (wanted_none (by rfl) _) (exec_store (a := .pointer (some ⟨wa.heap.size, 0, none⟩)) (v := .agg #[.int .i64 x1.l0, .int .i64 x1.c0, .int .i64 x1.l1, .int .i64 x1.c1]) rfl (by go_simp) (by go_simp) (run_storeMt (E2.out.keeps (stM_keeps _ _ _) (by have := HSA.out; omega)) x1)) ⟨(KB.setRow' (by have := HSA.out; omega) _).setRow' (by have := HSA.out; omega) _, ?_⟩)
                (try simp only [Act.put, List.setIfInBounds_toArray, List.set_cons_zero, List.set_cons_succ])
                refine wpH_end (by kernel_rfl) ?_
                have hk2 : Keeps (fun _ => False) w9 (stM (stM wb (w9.heap.size) x0) (wa.heap.size) x1) := (KB.setRow' (by have := HSA.out; omega) _).setRow' (by have := HSA.out; omega) _
                have hfin : StI W4 b14 (w9.heap.size) (wa.heap.size) L k x0 x1 (stM (stM wb (w9.heap.size) x0) (wa.heap.size) x1) := ⟨P9.out.keeps hk2 (fun h => h), (stM_at E1.out x0).keeps (stM_keeps _ _ _) (by have := HSA.out; omega), stM_at (E2.out.keeps (stM_keeps _ _ _) (by have := HSA.out; omega)) x1, (Keeps.trans (Keeps.of_sees S9.out) hk2).sees_end (fun _ _ h => h)⟩
                have hbb : StB W4 b14 (w9.heap.size) (wa.heap.size) := ⟨by have := HSA.out; omega, by have := HSA.out; omega⟩
                have HFIN := Lib.hid hfin
                have HBB := Lib.hid hbb
                clear hfin hbb hk2 hS0 hB KA KB
                go_wp2_with fail
                go_meet
                exact ⟨_, _, rfl, rfl, HBB.out, HFIN.out⟩
              · refine wpOp_val (v := .pointer (some ⟨w9.heap.size, 0, none⟩)) (w' := wa) (by rfl) (wanted_none (by rfl) _) (by rw [HWA.out]; go_simp) ⟨KA, ?_⟩
                (try simp only [Act.put, List.setIfInBounds_toArray, List.set_cons_zero, List.set_cons_succ])
                refine wpH_one (i := 9) (by kernel_rfl) (wpOp_val (v := .pointer (some ⟨wa.heap.size, 0, none⟩)) (w' := wb) (by rfl) (wanted_none (by rfl) _) (by rw [HWB.out]; go_simp) ⟨KB, ?_⟩)
                (try simp only [Act.put, List.setIfInBounds_toArray, List.set_cons_zero, List.set_cons_succ])
                refine wpH_one (i := 11) (by kernel_rfl) (wpOp_skip (w' := stM wb (wa.heap.size) x0) (by rfl) (wanted_none (by rfl) _) (exec_store (a := .pointer (some ⟨wa.heap.size, 0, none⟩)) (v := .agg #[.int .i64 x0.l0, .int .i64 x0.c0, .int .i64 x0.l1, .int .i64 x0.c1]) rfl (by go_simp) (by go_simp) (run_storeMt E2.out x0)) ⟨KB.setRow' (by have := HSA.out; omega) _, ?_⟩)
                (try simp only [Act.put, List.setIfInBounds_toArray, List.set_cons_zero, List.set_cons_succ])
                refine wpH_one (i := 12) (by kernel_rfl) (wpOp_skip (w' := stM (stM wb (wa.heap.size) x0) (w9.heap.size) x1) (by rfl) (wanted_none (by rfl) _) (exec_store (a := .pointer (some ⟨w9.heap.size, 0, none⟩)) (v := .agg #[.int .i64 x1.l0, .int .i64 x1.c0, .int .i64 x1.l1, .int .i64 x1.c1]) rfl (by go_simp) (by go_simp) (run_storeMt (E1.out.keeps (stM_keeps _ _ _) (by have := HSA.out; omega)) x1)) ⟨(KB.setRow' (by have := HSA.out; omega) _).setRow' (by have := HSA.out; omega) _, ?_⟩)
                (try simp only [Act.put, List.setIfInBounds_toArray, List.set_cons_zero, List.set_cons_succ])
                refine wpH_end (by kernel_rfl) ?_
                have hk2 : Keeps (fun _ => False) w9 (stM (stM wb (wa.heap.size) x0) (w9.heap.size) x1) := (KB.setRow' (by have := HSA.out; omega) _).setRow' (by have := HSA.out; omega) _
                have hfin : StI W4 b14 (wa.heap.size) (w9.heap.size) L k x0 x1 (stM (stM wb (wa.heap.size) x0) (w9.heap.size) x1) := ⟨P9.out.keeps hk2 (fun h => h), (stM_at E2.out x0).keeps (stM_keeps _ _ _) (by have := HSA.out; omega), stM_at (E1.out.keeps (stM_keeps _ _ _) (by have := HSA.out; omega)) x1, (Keeps.trans (Keeps.of_sees S9.out) hk2).sees_end (fun _ _ h => h)⟩
                have hbb : StB W4 b14 (wa.heap.size) (w9.heap.size) := ⟨by have := HSA.out; omega, by have := HSA.out; omega⟩
                have HFIN := Lib.hid hfin
                have HBB := Lib.hid hbb
                clear hfin hbb hk2 hS0 hB KA KB
                go_wp2_with fail
                go_meet
                exact ⟨_, _, rfl, rfl, HBB.out, HFIN.out⟩
            case rest =>
              obtain ⟨b15, b16, rfl, rfl, hSB, hSI⟩ := hcut
              have HSB := Lib.hid hSB
              have HSI := Lib.hid hSI
              obtain ⟨b3, o3, _, rfl, _⟩ := mt_at HO.out hMp
              have hm4 : (0 : Int) < M := by omega
              clear hSB hSI P6 S6 g0
              go_wp2_with fail
              go_loopw [17] (fun jj W => ∃ (q : Nat) (j : Int), q ≤ M ∧ j = (q : Int) - 1 ∧ jj = .int .i64 j ∧ StI W4 b14 b15 b16 L k (nextD d L k (ms.drop q)) lst W) (fun jj _ => (intOf jj + 1).toNat)
              case atStart => exact ⟨M, (M : Int) - 1, Nat.le_refl _, rfl, by go_num, by rw [HM.out, List.drop_length]; exact HSI.out⟩
              case round =>
                obtain ⟨q, j, hq, hj, rfl, hI⟩ := hrel
                have HI := Lib.hid hI
                clear hI HSI
                rcases Nat.eq_zero_or_pos q with rfl | hqp
                · obtain rfl : j = -1 := by omega
                  clear hj
                  rw [List.drop_zero] at HI
                  obtain ⟨X, hX⟩ : ∃ X, X = nextD d L k ms := ⟨_, rfl⟩
                  rw [← hX] at HI hNX
                  clear hX
                  go_wp2_with fail
                  go_loopw [18] (fun jj W => ∃ q : Nat, q ≤ M ∧ jj = .int .i64 q ∧ StI W4 b14 b15 b16 L k X (prevD L k lst (ms.take q)) W) (fun jj _ => M - (intOf jj).toNat)
                  case atStart => exact ⟨0, by omega, rfl, HI.out⟩
                  case round =>
                    obtain ⟨q, hq, rfl, hI⟩ := hrel
                    have HI2 := Lib.hid hI
                    clear hI HI
                    by_cases hqm : q < M
                    · have hqmi : (q : Int) < M := by omega
                      obtain ⟨b4, o4, y, e4, hy, p0, p1, p2, p3⟩ := mt_at (HO.out.sees HI2.out.s) hqm
                      obtain ⟨rfl, rfl⟩ : b4 = b3 ∧ o4 = o3 := by cases e4; exact ⟨rfl, rfl⟩
                      clear e4
                      have HY := Lib.hid (prevD_step (d := lst) (l := L) (c := k) hy)
                      obtain ⟨r0, r1⟩ := HI2.out.p.cells
                      obtain ⟨B, hB⟩ : ∃ B, B = y.ahe L k := ⟨_, rfl⟩
                      have hbb : befB y.l0 y.c0 L k = B := by rw [befB_ahe]; exact hB.symm
                      have KA1 := fun W => after_at hbb W
                      rw [← hB] at HY
                      have gp0 := fun d os => (sees_grow wr d os).cell p0
                      have gp1 := fun d os => (sees_grow wr d os).cell p1
                      have gr0 := fun d os => (sees_grow wr d os).cell r0
                      have gr1 := fun d os => (sees_grow wr d os).cell r1
                      have P0 := Lib.hid p0
                      have P1 := Lib.hid p1
                      have P2 := Lib.hid p2
                      have P3 := Lib.hid p3
                      clear hy hB hbb p0 p1 p2 p3 r0 r1
                      cases B
                      · rw [if_neg (by decide)] at HY
                        go_wp2
                        refine wp_region_quiet_below (by kernel_rfl) (by kernel_rfl) ?_
                        repeat (first | go_big_quiet_skip | (go_big_quiet_want; go_big_quiet_op; go_big_quiet_on))
                        (go_big_quiet_want; go_big_quiet_op; apply Exists.intro; refine ⟨fun p => Calls.regrown_of (KA1 _), ?_⟩; go_big_quiet_on)
                        repeat (first | go_big_quiet_skip | (go_big_quiet_want; go_big_quiet_op; go_big_quiet_on))
                        refine wpQuiet_nil ?_; intro w2 hw2'; have hw2 := regrown_sees hw2'; clear hw2'
                        go_wp2
                        exact ⟨⟨q + 1, by omega, by go_num, by rw [HY.out]; exact HI2.out.sees hw2⟩, by first | (simp [intOf]; done) | (simp [intOf]; omega)⟩
                      · rw [if_pos rfl] at HY
                        go_wp2
                        refine wp_region_quiet_below (by kernel_rfl) (by kernel_rfl) ?_
                        repeat (first | go_big_quiet_skip | (go_big_quiet_want; go_big_quiet_op; go_big_quiet_on))
                        (go_big_quiet_want; go_big_quiet_op; apply Exists.intro; refine ⟨fun p => Calls.regrown_of (KA1 _), ?_⟩; go_big_quiet_on)
                        repeat (first | go_big_quiet_skip | (go_big_quiet_want; go_big_quiet_op; go_big_quiet_on))
                        refine wpQuiet_nil ?_; intro w2 hw2'; have hw2 := regrown_sees hw2'; clear hw2'
                        have HI3 := Lib.hid (HI2.out.sees hw2)
                        have p0 := hw2.cell P0.out
                        have p1 := hw2.cell P1.out
                        have p2 := hw2.cell P2.out
                        have p3 := hw2.cell P3.out
                        obtain ⟨m0, m1, m2, m3⟩ := HI3.out.v.c
                        have m4 := HI3.out.v.fr
                        clear hw2 gp0 gp1 gr0 gr1 KA1
                        go_wp2
                        exact ⟨⟨q + 1, by omega, by go_num, by rw [HY.out]; exact HI3.out.setV HSB.out y⟩, by first | (simp [intOf]; done) | (simp [intOf]; omega)⟩
                    · obtain rfl : q = M := by omega
                      rw [HM.out, List.take_length] at HI2
                      obtain ⟨Y, hY⟩ : ∃ Y, Y = prevD L k lst ms := ⟨_, rfl⟩
                      rw [← hY] at HI2 hPV
                      clear hY
                      have KX : Hid (∀ W, Sees w W → Calls Tryd.prog 14 #[.slice (some ⟨b1, o1, none⟩) n cp, .int .i64 first, .string p, .bool fold, .agg #[.int .i64 L, .int .i64 k], .agg #[.int .i64 X.l0, .int .i64 X.c0, .int .i64 X.l1, .int .i64 X.c1], .int .i64 0] W fun e w' => e = .returned (.bool true) ∧ Sees W w') :=
                        fun W hs => nexts_any (HST.out.sees hs) (HT.out.sees hs) (rd_up HA.out hs) (by rw [← HN.out]; omega) HCM.out hp fold L k X 0 (by rw [nxt_in HFO.out, ← HMS.out, hNX.out, hNE.out])
                      have KY : Hid (∀ W, Sees w W → Calls Tryd.prog 15 #[.slice (some ⟨b1, o1, none⟩) n cp, .int .i64 first, .string p, .bool fold, .agg #[.int .i64 L, .int .i64 k], .agg #[.int .i64 Y.l0, .int .i64 Y.c0, .int .i64 Y.l1, .int .i64 Y.c1], .int .i64 0] W fun e w' => e = .returned (.bool true) ∧ Sees W w') :=
                        fun W hs => prevs_any (HST.out.sees hs) (HT.out.sees hs) (rd_up HA.out hs) (by rw [← HN.out]; omega) HCM.out hp fold L k Y 0 (by rw [prv_in HFO.out, ← HMS.out, hPV.out, hNE.out])
                      obtain ⟨q0, q1⟩ := HI2.out.p.cells
                      obtain ⟨m0, m1, m2, m3⟩ := HI2.out.n.c
                      clear hNX hPV hNE
                      go_wp2_with fail
                      refine (KX.out _ (HS4.out.trans HI2.out.s)).mono ?_
                      rintro e W7 ⟨rfl, s7⟩
                      have HI3 := Lib.hid (HI2.out.sees s7)
                      clear s7 q0 q1 m0 m1 m2 m3 KX
                      obtain ⟨q0, q1⟩ := HI3.out.p.cells
                      obtain ⟨m0, m1, m2, m3⟩ := HI3.out.v.c
                      go_wp2_with fail
                      refine (KY.out _ (HS4.out.trans HI3.out.s)).mono ?_
                      rintro e W8 ⟨rfl, s8⟩
                      have S8 := Lib.hid (HI3.out.s.trans s8)
                      clear s8 q0 q1 m0 m1 m2 m3 KY
                      go_wp2
                      exact ⟨⟨k + 1, by omega, by go_num, S8.out⟩, by simp [intOf]; omega⟩
                · obtain ⟨z, rfl⟩ : ∃ z, q = z + 1 := ⟨q - 1, by omega⟩
                  obtain rfl : j = (z : Int) := by omega
                  have hzm : z < M := by omega
                  have hzmi : (z : Int) < M := by omega
                  obtain ⟨b4, o4, y, e4, hy, p0, p1, p2, p3⟩ := mt_at (HO.out.sees HI.out.s) hzm
                  obtain ⟨rfl, rfl⟩ : b4 = b3 ∧ o4 = o3 := by cases e4; exact ⟨rfl, rfl⟩
                  clear e4
                  have HY := Lib.hid (nextD_step (d := d) (l := L) (c := k) hy)
                  obtain ⟨r0, r1⟩ := HI.out.p.cells
                  obtain ⟨B, hB⟩ : ∃ B, B = y.beh L k := ⟨_, rfl⟩
                  have hbb : befB L k y.l0 y.c0 = B := by rw [befB_beh]; exact hB.symm
                  have KA1 := fun W => after_at hbb W
                  rw [← hB] at HY
                  have gp0 := fun d os => (sees_grow wr d os).cell p0
                  have gp1 := fun d os => (sees_grow wr d os).cell p1
                  have gr0 := fun d os => (sees_grow wr d os).cell r0
                  have gr1 := fun d os => (sees_grow wr d os).cell r1
                  have P0 := Lib.hid p0
                  have P1 := Lib.hid p1
                  have P2 := Lib.hid p2
                  have P3 := Lib.hid p3
                  clear hy hB hbb p0 p1 p2 p3 r0 r1 hj
                  cases B
                  · rw [if_neg (by decide)] at HY
                    go_wp2
                    refine wp_region_quiet_below (by kernel_rfl) (by kernel_rfl) ?_
                    repeat (first | go_big_quiet_skip | (go_big_quiet_want; go_big_quiet_op; go_big_quiet_on))
                    (go_big_quiet_want; go_big_quiet_op; apply Exists.intro; refine ⟨fun p => Calls.regrown_of (KA1 _), ?_⟩; go_big_quiet_on)
                    repeat (first | go_big_quiet_skip | (go_big_quiet_want; go_big_quiet_op; go_big_quiet_on))
                    refine wpQuiet_nil ?_; intro w2 hw2'; have hw2 := regrown_sees hw2'; clear hw2'
                    go_wp2
                    exact ⟨⟨z, (z : Int) - 1, by omega, rfl, by go_num, by rw [HY.out]; exact HI.out.sees hw2⟩, by first | (simp [intOf]; done) | (simp [intOf]; omega)⟩
                  · rw [if_pos rfl] at HY
                    go_wp2
                    refine wp_region_quiet_below (by kernel_rfl) (by kernel_rfl) ?_
                    repeat (first | go_big_quiet_skip | (go_big_quiet_want; go_big_quiet_op; go_big_quiet_on))
                    (go_big_quiet_want; go_big_quiet_op; apply Exists.intro; refine ⟨fun p => Calls.regrown_of (KA1 _), ?_⟩; go_big_quiet_on)
                    repeat (first | go_big_quiet_skip | (go_big_quiet_want; go_big_quiet_op; go_big_quiet_on))
                    refine wpQuiet_nil ?_; intro w2 hw2'; have hw2 := regrown_sees hw2'; clear hw2'
                    have HI3 := Lib.hid (HI.out.sees hw2)
                    have p0 := hw2.cell P0.out
                    have p1 := hw2.cell P1.out
                    have p2 := hw2.cell P2.out
                    have p3 := hw2.cell P3.out
                    obtain ⟨m0, m1, m2, m3⟩ := HI3.out.n.c
                    have m4 := HI3.out.n.fr
                    clear hw2 gp0 gp1 gr0 gr1 KA1
                    go_wp2
                    exact ⟨⟨z, (z : Int) - 1, by omega, rfl, by go_num, by rw [HY.out]; exact HI3.out.setN HSB.out y⟩, by first | (simp [intOf]; done) | (simp [intOf]; omega)⟩
        · obtain rfl : k = m := by omega
          go_wp2
          exact ⟨⟨i + 1, by omega, by go_num, HS2.out⟩, by first | (simp [intOf]; done) | (simp [intOf]; omega)⟩
    · obtain rfl : i = n := by omega
      have P8 := Lib.hid (P4.out.sees HS.out)
      have HS8 := Lib.hid (HS4.out.trans HS.out)
      have KG : Hid (foB ls first l c = true → ∀ W, Sees w W → Calls Tryd.prog 14 #[.slice a i cp, .int .i64 first, .string p, .bool fold, .agg #[.int .i64 l, .int .i64 c], .agg #[.int .i64 0, .int .i64 0, .int .i64 0, .int .i64 0], .int .i64 3] W fun e w' => e = .returned (.bool true) ∧ Sees W w') :=
        fun h W hs => nexts_any (HST.out.sees hs) (HT.out.sees hs) (rd_up HA.out hs) (by rw [← HN.out]; omega) HCM.out hp fold l c ⟨0, 0, 0, 0⟩ 3 (nxt_err (foR_out HCK.out h) (by decide))
      have KH : Hid (foB ls first l c = true → ∀ W, Sees w W → Calls Tryd.prog 15 #[.slice a i cp, .int .i64 first, .string p, .bool fold, .agg #[.int .i64 l, .int .i64 c], .agg #[.int .i64 0, .int .i64 0, .int .i64 0, .int .i64 0], .int .i64 3] W fun e w' => e = .returned (.bool true) ∧ Sees W w') :=
        fun h W hs => prevs_any (HST.out.sees hs) (HT.out.sees hs) (rd_up HA.out hs) (by rw [← HN.out]; omega) HCM.out hp fold l c ⟨0, 0, 0, 0⟩ 3 (prv_err (foR_out HCK.out h) (by decide))
      obtain ⟨d0, d1⟩ := P8.out.cells
      have g0 := fun d os => (sees_grow wr d os).cell d0
      have g1 := fun d os => (sees_grow wr d os).cell d1
      have hFB : Hid (¬ (first ≤ l ∧ l < first + (i : Int) ∧ 0 ≤ c ∧ c < (cols ls : Int)) → foB ls first l c = true) := by
        intro h
        rw [HN.out] at h
        unfold foB
        rcases Classical.em (l < first) with e | e
        · rw [decide_eq_true e]; simp
        rcases Classical.em (l ≥ first + (ls.length : Int)) with e2 | e2
        · rw [decide_eq_true e2]; simp
        rcases Classical.em (c < 0) with e3 | e3
        · rw [decide_eq_true e3]; simp
        rw [decide_eq_true (p := c ≥ (cols ls : Int)) (by omega)]; simp
      have hw0 : IntKind.i64.wrap (first + (i : Int)) = first + (i : Int) := IntWalk.i64_in _ (by omega)
      clear HS hlt hi
      rcases Nat.eq_zero_or_pos i with hz | hz
      · have HFB := Lib.hid (hFB.out (by omega))
        have k0 : decide ((i : Int) > 0) = false := decide_eq_false (by omega)
        have k2 : decide ((0 : Int) < i) = false := decide_eq_false (by omega)
        have k3 : ¬ ((0 : Int) < i) := by omega
        have k4 : decide (0 < i) = false := decide_eq_false (by omega)
        have k5 : ¬ (0 < i) := by omega
        clear hFB hw0 hz
        go_wp2
        refine wp_region_quiet_below (by kernel_rfl) (by kernel_rfl) ?_
        repeat (first | go_big_quiet_skip | (go_big_quiet_want; go_big_quiet_op; go_big_quiet_on))
        refine wpQuiet_nil ?_; intro w2 hw2'; have hw2 := regrown_sees hw2'; clear hw2'
        have P9 := Lib.hid (P8.out.sees hw2)
        have HS9 := Lib.hid (HS8.out.trans hw2)
        clear hw2 d0 d1 g0 g1
        obtain ⟨d0, d1⟩ := P9.out.cells
        go_wp2_with fail
        refine (KG.out HFB.out _ HS9.out).mono ?_
        rintro e W9 ⟨rfl, s⟩
        have P10 := Lib.hid (P9.out.sees s)
        have HS10 := Lib.hid (HS9.out.trans s)
        clear s d0 d1
        obtain ⟨d0, d1⟩ := P10.out.cells
        go_wp2_with fail
        refine (KH.out HFB.out _ HS10.out).mono ?_
        rintro e W10 ⟨rfl, s⟩
        have HS11 := Lib.hid (HS10.out.trans s)
        clear s d0 d1
        go_wp2_with fail
        refine (KN.out _ HS11.out).mono ?_
        rintro e W11 ⟨rfl, s⟩
        have HS12 := Lib.hid (HS11.out.trans s)
        clear s
        go_wp2
        go_ret
        exact ⟨rfl, HS12.out⟩
      · obtain ⟨b2, o2, y, a2, m2, hb2, _, hy, _, y1, y2, y3⟩ := HA.out.line hz
        cases hb2
        rw [Nat.zero_mul, Nat.add_zero] at y1 y2
        have Y1 := Lib.hid (HS8.out.cell y1)
        have g3 := fun d os => (sees_grow wr d os).cell Y1.out
        have hcols := cols_of hy
        rw [hcols] at hFB
        clear hy hcols y1 y2 y3
        generalize y.cells.length = n0 at *
        have k1 : (0 : Int) < i := by omega
        have k0 : decide ((i : Int) > 0) = true := decide_eq_true (by omega)
        rcases ways4 (decide (l ≥ first)) (decide (l < first + (i : Int))) (decide (c ≥ 0)) (decide (c < (n0 : Int))) with ⟨e1, e2, e3, e4⟩ | ⟨e1, e2, e3, e4⟩ | ⟨e1, e2, e3⟩ | ⟨e1, e2⟩ | e1
        · go_wp2
          refine wp_region_quiet_below (by kernel_rfl) (by kernel_rfl) ?_
          repeat (first | go_big_quiet_skip | (go_big_quiet_want; go_big_quiet_op; go_big_quiet_on))
          refine wpQuiet_nil ?_; intro w2 hw2'; have hw2 := regrown_sees hw2'; clear hw2'
          have HS9 := Lib.hid (HS8.out.trans hw2)
          clear hw2
          go_wp2_with fail
          refine (KN.out _ HS9.out).mono ?_
          rintro e W11 ⟨rfl, s⟩
          have HS12 := Lib.hid (HS9.out.trans s)
          clear s
          go_wp2
          go_ret
          exact ⟨rfl, HS12.out⟩
        all_goals
          have HFB := Lib.hid (hFB.out (by
            (try have f1 := of_decide_eq_true e1)
            (try have f1 := of_decide_eq_false e1)
            (try have f2 := of_decide_eq_true e2)
            (try have f2 := of_decide_eq_false e2)
            (try have f3 := of_decide_eq_true e3)
            (try have f3 := of_decide_eq_false e3)
            (try have f4 := of_decide_eq_false e4)
            omega))
          go_wp2
          refine wp_region_quiet_below (by kernel_rfl) (by kernel_rfl) ?_
          repeat (first | go_big_quiet_skip | (go_big_quiet_want; go_big_quiet_op; go_big_quiet_on))
          refine wpQuiet_nil ?_; intro w2 hw2'; have hw2 := regrown_sees hw2'; clear hw2'
          have P9 := Lib.hid (P8.out.sees hw2)
          have HS9 := Lib.hid (HS8.out.trans hw2)
          clear hw2 d0 d1 g0 g1
          obtain ⟨d0, d1⟩ := P9.out.cells
          go_wp2_with fail
          refine (KG.out HFB.out _ HS9.out).mono ?_
          rintro e W9 ⟨rfl, s⟩
          have P10 := Lib.hid (P9.out.sees s)
          have HS10 := Lib.hid (HS9.out.trans s)
          clear s d0 d1
          obtain ⟨d0, d1⟩ := P10.out.cells
          go_wp2_with fail
          refine (KH.out HFB.out _ HS10.out).mono ?_
          rintro e W10 ⟨rfl, s⟩
          have HS11 := Lib.hid (HS10.out.trans s)
          clear s d0 d1
          go_wp2_with fail
          refine (KN.out _ HS11.out).mono ?_
          rintro e W11 ⟨rfl, s⟩
          have HS12 := Lib.hid (HS11.out.trans s)
          clear s
          go_wp2
          go_ret
          exact ⟨rfl, HS12.out⟩
end Go.Proofs.YtohiigmlkhpneaaDoor
