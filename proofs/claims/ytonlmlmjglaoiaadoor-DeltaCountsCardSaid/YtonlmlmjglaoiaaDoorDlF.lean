/- Which columns of two rows are patched: the program's way. No condition. -/
import Derived.Test.YtonlmlmjglaoiaaDoorDlB
import Derived.Test.YtonlmlmjglaoiaaDoorElO
namespace Go.Proofs.YtonlmlmjglaoiaaDoor
set_option linter.unusedVariables false
set_option linter.unusedSimpArgs false
open Go.RowKit

def zc (c : Cell) : Bool := c.width == 0
theorem Tz_at {a b : List Cell} {m : Nat} {c d : Cell} (h1 : a[m]? = some c) (h2 : b[m]? = some d) : Tz zc a b m = (c.width == 0 || d.width == 0) := by
  unfold Tz isz; rw [h1, h2]; rfl
theorem Df_at {a b : List Cell} {m : Nat} {c d : Cell} (h1 : a[m]? = some c) (h2 : b[m]? = some d) : Df a b m = !decide (c = d) := by
  unfold Df; rw [h1, h2]; simp

set_option maxRecDepth 100000 in
set_option maxHeartbeats 4000000 in
theorem changed_any (F G : Nat → Prop) (v u : Value) (xs ys : List Cell) (w : World) (ha : cellEl.Rd F w v xs) (hb : cellEl.Rd G w u ys) (hlen : xs.length = ys.length) (hn : xs.length ≤ 1000000) (h0 : Tz zc xs ys 0 = false) :
    Calls Tryd.prog 28 #[v, u] w fun e w' => ∃ g, e = .returned (.slice (some ⟨g, 0, none⟩) xs.length xs.length) ∧ w.heap.size ≤ g ∧ BRow w' g (chgR zc xs ys) ∧ Sees w w' := by
  obtain ⟨ao, ca, rfl, hca⟩ := ha.slice'; obtain ⟨bo, cb, rfl, hcb⟩ := hb.slice'; have hw := Sees.refl w
  have H0 := Lib.hid h0
  clear h0
  obtain ⟨n, hna⟩ : ∃ n, n = xs.length := ⟨_, rfl⟩; have hnb : n = ys.length := (by omega); rw [← hna] at ha hn; rw [← hnb] at hb; rw [← hna, ← hnb]; have Hna := Lib.hid hna; have Hnb := Lib.hid hnb; have Ha := Lib.hid ha; have Hb := Lib.hid hb; clear hna hnb ha hb hlen hca hcb
  have hmk := run_make_bools n hn
  go_enter Tryd.func28, Tryd.ntmps28
  go_wp2
  clear hmk
  go_loopw [15] (fun i wr => ∃ (k : Nat) (out : List Bool), k ≤ n ∧ i = .int .i64 k ∧ ChInv (Tz zc xs ys) (Df xs ys) n k out ∧ BRow wr w.heap.size out ∧ Sees w wr) (fun i _ => n - (intOf i).toNat)
  case atStart => exact ⟨0, _, by omega, rfl, ch_start _ _ n, BRow.new n rfl, hw.alloc _⟩
  case round =>
    obtain ⟨k, out, hk, rfl, hm, hR, hS⟩ := hrel
    have Hm := Lib.hid hm; clear hm hw
    by_cases hlt : k < n
    · obtain ⟨b1, o1, c, rfl, _, hc, hca⟩ := (Ha.out.sees hS).cell hlt
      obtain ⟨b2, o2, d, rfl, _, hd, hdb⟩ := (Hb.out.sees hS).cell hlt
      have HA := Lib.hid (Ha.out.sees hS)
      have HB := Lib.hid (Hb.out.sees hS)
      have F1 := Lib.hid hca
      have F2 := Lib.hid hdb
      have HDf := Lib.hid (Df_at hc hd)
      obtain ⟨q, hq⟩ : ∃ q, out[k]? = some q := ⟨_, List.getElem?_eq_getElem (by have := Hm.out.1; omega)⟩
      have r0 := hR.c hq
      have g0 := fun d os => (sees_grow wr d os).cell r0
      have HR := Lib.hid hR
      have HS := Lib.hid hS
      have Hq := Lib.hid hq
      clear hc hd hca hdb Ha Hb hR hS hq r0
      rcases ways2 (!decide (c = d)) (!q) with ⟨e1, e2⟩ | ⟨e1, e2⟩ | e1
      · have e1 : decide (c = d) = false := by simpa using e1
        have e2 : q = false := by simpa using e2
        subst e2
        go_wp2
        refine wp_region_quiet_below (by kernel_rfl) (by kernel_rfl) ?_
        repeat (first | go_big_quiet_skip | (go_big_quiet_want; go_big_quiet_op; go_big_quiet_on))
        go_big_quiet_want; refine quiet_run (c).val (fun W hW => exec_load rfl rfl (run_loadCell (F1.out.sees (regrown_sees hW)))) ?_; simp only [Act.put, List.setIfInBounds_toArray, List.set_cons_zero, List.set_cons_succ]; go_big_quiet_on
        repeat (first | go_big_quiet_skip | (go_big_quiet_want; go_big_quiet_op; go_big_quiet_on))
        go_big_quiet_want; refine quiet_run (d).val (fun W hW => exec_load rfl rfl (run_loadCell (F2.out.sees (regrown_sees hW)))) ?_; simp only [Act.put, List.setIfInBounds_toArray, List.set_cons_zero, List.set_cons_succ]; go_big_quiet_on
        go_big_quiet_want; refine quiet_run (.bool false) (fun W hW => exec_bin rfl rfl rfl (guard_eqlCell _ _ c d W) ((run_eqlCell c d W).trans (by rw [e1]))) ?_; simp only [Act.put, List.setIfInBounds_toArray, List.set_cons_zero, List.set_cons_succ]; go_big_quiet_on
        repeat (first | go_big_quiet_skip | (go_big_quiet_want; go_big_quiet_op; go_big_quiet_on))
        refine wpQuiet_nil ?_; intro w2 hw2'; have hw2 := regrown_sees hw2'; clear hw2'
        have HDk : Hid (Df xs ys k = true) := by unfold Hid; rw [HDf.out, e1]; rfl
        have HR2 := Lib.hid (HR.out.sees hw2)
        have HA2 := Lib.hid (HA.out.sees hw2)
        have HB2 := Lib.hid (HB.out.sees hw2)
        have HS2 := Lib.hid (HS.out.trans hw2)
        clear HR HA HB HS F1 F2 g0 HDf hw2 e1
        go_wp2
        go_loop [7] (fun f => ∃ m : Nat, m ≤ k ∧ f = .int .i64 m ∧ ∀ j, m < j → j ≤ k → Tz zc xs ys j = true) (fun f => (intOf f).toNat)
        case atStart => exact ⟨k, by omega, rfl, fun j h1 h2 => by omega⟩
        case round =>
          obtain ⟨m, hmk, rfl, hf⟩ := hrel
          have Hf := Lib.hid hf
          clear hf
          have hmn : m < n := by omega
          obtain ⟨_, _, c, hb, _, hc, hca⟩ := HA2.out.cell hmn
          cases hb
          obtain ⟨_, _, d, hb, _, hd, hdb⟩ := HB2.out.cell hmn
          cases hb
          have x1 := hca.all.2.2.2.2.1
          have x2 := hdb.all.2.2.2.2.1
          have HT := Lib.hid (Tz_at hc hd)
          clear hc hd hca hdb
          by_cases hz : (c.width == 0 || d.width == 0) = true
          · have hTm : Tz zc xs ys m = true := HT.out.trans hz
            obtain ⟨m', rfl⟩ : ∃ m', m = m' + 1 := by
              rcases Nat.eq_zero_or_pos m with h | h
              · subst h; rw [H0.out] at hTm; cases hTm
              · exact ⟨m - 1, by omega⟩
            have HTm := Lib.hid hTm
            clear hTm HT
            rcases bool_cases (c.width == 0) with e1 | e1
            · clear hz
              go_wp2
              go_round
              case rel => exact ⟨m', by omega, by go_num, fun j h1 h2 => by
                rcases Nat.lt_or_ge (m' + 1) j with h | h
                · exact Hf.out j h h2
                · obtain rfl : j = m' + 1 := by omega
                  exact HTm.out⟩
              case measure => simp [intOf] <;> omega
            · have e2 : (d.width == 0) = true := by rw [e1] at hz; simpa using hz
              clear hz
              go_wp2
              go_round
              case rel => exact ⟨m', by omega, by go_num, fun j h1 h2 => by
                rcases Nat.lt_or_ge (m' + 1) j with h | h
                · exact Hf.out j h h2
                · obtain rfl : j = m' + 1 := by omega
                  exact HTm.out⟩
              case measure => simp [intOf] <;> omega
          · replace hz : (c.width == 0 || d.width == 0) = false := by simpa using hz
            have HTm : Hid (Tz zc xs ys m = false) := Lib.hid (HT.out.trans hz)
            obtain ⟨e1, e2⟩ := Bool.or_eq_false_iff.1 hz
            clear hz
            clear HT
            go_wp2
            clear x1 x2 e1 e2
            go_loop [8] (fun t => ∃ t0 : Nat, k < t0 ∧ t0 ≤ n ∧ t = .int .i64 t0 ∧ ∀ j, k < j → j < t0 → Tz zc xs ys j = true) (fun t => n - (intOf t).toNat)
            case atStart => exact ⟨k + 1, by omega, by omega, by go_num, fun j h1 h2 => by omega⟩
            case round =>
              obtain ⟨t0, hkt, htn, rfl, ht⟩ := hrel
              have Ht := Lib.hid ht
              clear ht
              have Hend : t0 < n → Hid (Tz zc xs ys t0 = false) ∨ Hid (Tz zc xs ys t0 = true) := fun _ => by
                rcases bool_cases (Tz zc xs ys t0) with h | h
                · exact .inr h
                · exact .inl h
              by_cases htl : t0 < n
              · obtain ⟨_, _, c, hb, _, hc, hca⟩ := HA2.out.cell htl
                cases hb
                obtain ⟨_, _, d, hb, _, hd, hdb⟩ := HB2.out.cell htl
                cases hb
                have x1 := hca.all.2.2.2.2.1
                have x2 := hdb.all.2.2.2.2.1
                have HT := Lib.hid (Tz_at hc hd)
                clear hc hd hca hdb
                rcases bool_cases (c.width == 0) with e1 | e1
                · have HTt : Hid (Tz zc xs ys t0 = true) := Lib.hid (HT.out.trans (by rw [e1]; rfl))
                  clear HT Hend
                  go_wp2
                  go_round
                  case rel => exact ⟨t0 + 1, by omega, by omega, by go_num, fun j h1 h2 => by
                    rcases Nat.lt_or_ge j t0 with h | h
                    · exact Ht.out j h1 h
                    · obtain rfl : j = t0 := by omega
                      exact HTt.out⟩
                  case measure => simp [intOf] <;> omega
                · rcases bool_cases (d.width == 0) with e2 | e2
                  · have HTt : Hid (Tz zc xs ys t0 = true) := Lib.hid (HT.out.trans (by rw [e2]; simp))
                    clear HT Hend
                    go_wp2
                    go_round
                    case rel => exact ⟨t0 + 1, by omega, by omega, by go_num, fun j h1 h2 => by
                      rcases Nat.lt_or_ge j t0 with h | h
                      · exact Ht.out j h1 h
                      · obtain rfl : j = t0 := by omega
                        exact HTt.out⟩
                    case measure => simp [intOf] <;> omega
                  · have HTt : Hid (t0 < n → Tz zc xs ys t0 = false) := Lib.hid (fun _ => HT.out.trans (by rw [e1, e2]; rfl))
                    clear HT Hend
                    go_wp2
                    clear x1 x2 e1 e2
                    go_loopw [9] (fun j W => ∃ p : Nat, m ≤ p ∧ p ≤ t0 ∧ j = .int .i64 p ∧ BRow W w.heap.size (mark out m p) ∧ Sees w W) (fun j _ => t0 - (intOf j).toNat)
                    case atStart => exact ⟨m, by omega, by omega, rfl, by rw [mark_none]; exact HR2.out, HS2.out⟩
                    case round =>
                      obtain ⟨p, hmp, hpt, rfl, hR, hS⟩ := hrel
                      have HR := Lib.hid hR
                      have HS := Lib.hid hS
                      have Hol := Lib.hid Hm.out.1
                      clear hS
                      by_cases hpl : p < t0
                      · obtain ⟨q, hq⟩ : ∃ q, (mark out m p)[p]? = some q := ⟨_, List.getElem?_eq_getElem (by rw [mark_length]; have := Hol.out; omega)⟩
                        have c0 := hR.c hq
                        have f0 := hR.fr p
                        clear hR hq
                        go_wp2
                        have hset := HR.out.set p true
                        rw [mark_succ hmp] at hset
                        refine ⟨⟨p + 1, by omega, by omega, by go_num, hset, HS.out.setCell (p := ⟨w.heap.size, p, none⟩) (Nat.le_refl _) _⟩, by simp [intOf]; omega⟩
                      · obtain rfl : p = t0 := by omega
                        clear hR
                        go_wp2
                        refine ⟨⟨k + 1, mark out m p, by omega, by go_num, ch_mark Hm.out hlt HDk.out hmk hkt htn Hf.out HTm.out Ht.out HTt.out, HR.out, HS.out⟩, by simp [intOf]; omega⟩
              · obtain rfl : t0 = n := by omega
                have HTt : Hid (t0 < t0 → Tz zc xs ys t0 = false) := Lib.hid (fun h => absurd h (Nat.lt_irrefl _))
                clear Hend
                go_wp2
                go_loopw [9] (fun j W => ∃ p : Nat, m ≤ p ∧ p ≤ t0 ∧ j = .int .i64 p ∧ BRow W w.heap.size (mark out m p) ∧ Sees w W) (fun j _ => t0 - (intOf j).toNat)
                case atStart => exact ⟨m, by omega, by omega, rfl, by rw [mark_none]; exact HR2.out, HS2.out⟩
                case round =>
                  obtain ⟨p, hmp, hpt, rfl, hR, hS⟩ := hrel
                  have HR := Lib.hid hR
                  have HS := Lib.hid hS
                  have Hol := Lib.hid Hm.out.1
                  clear hS
                  by_cases hpl : p < t0
                  · obtain ⟨q, hq⟩ : ∃ q, (mark out m p)[p]? = some q := ⟨_, List.getElem?_eq_getElem (by rw [mark_length]; have := Hol.out; omega)⟩
                    have c0 := hR.c hq
                    have f0 := hR.fr p
                    clear hR hq
                    go_wp2
                    have hset := HR.out.set p true
                    rw [mark_succ hmp] at hset
                    refine ⟨⟨p + 1, by omega, by omega, by go_num, hset, HS.out.setCell (p := ⟨w.heap.size, p, none⟩) (Nat.le_refl _) _⟩, by simp [intOf]; omega⟩
                  · obtain rfl : p = t0 := by omega
                    clear hR
                    go_wp2
                    refine ⟨⟨k + 1, mark out m p, by omega, by go_num, ch_mark Hm.out hlt HDk.out hmk hkt htn Hf.out HTm.out Ht.out HTt.out, HR.out, HS.out⟩, by simp [intOf]; omega⟩
      · have e1 : decide (c = d) = false := by simpa using e1
        have e2 : q = true := by simpa using e2
        subst e2
        go_wp2
        refine wp_region_quiet_below (by kernel_rfl) (by kernel_rfl) ?_
        repeat (first | go_big_quiet_skip | (go_big_quiet_want; go_big_quiet_op; go_big_quiet_on))
        go_big_quiet_want; refine quiet_run (c).val (fun W hW => exec_load rfl rfl (run_loadCell (F1.out.sees (regrown_sees hW)))) ?_; simp only [Act.put, List.setIfInBounds_toArray, List.set_cons_zero, List.set_cons_succ]; go_big_quiet_on
        repeat (first | go_big_quiet_skip | (go_big_quiet_want; go_big_quiet_op; go_big_quiet_on))
        go_big_quiet_want; refine quiet_run (d).val (fun W hW => exec_load rfl rfl (run_loadCell (F2.out.sees (regrown_sees hW)))) ?_; simp only [Act.put, List.setIfInBounds_toArray, List.set_cons_zero, List.set_cons_succ]; go_big_quiet_on
        go_big_quiet_want; refine quiet_run (.bool false) (fun W hW => exec_bin rfl rfl rfl (guard_eqlCell _ _ c d W) ((run_eqlCell c d W).trans (by rw [e1]))) ?_; simp only [Act.put, List.setIfInBounds_toArray, List.set_cons_zero, List.set_cons_succ]; go_big_quiet_on
        repeat (first | go_big_quiet_skip | (go_big_quiet_want; go_big_quiet_op; go_big_quiet_on))
        refine wpQuiet_nil ?_; intro w2 hw2'; have hw2 := regrown_sees hw2'; clear hw2'
        go_wp2
        refine ⟨⟨k + 1, out, by omega, by go_num, ch_done hlt Hm.out Hq.out, HR.out.sees hw2, HS.out.trans hw2⟩, by simp [intOf]; omega⟩
      · have e1 : decide (c = d) = true := by simpa using e1
        have HDk : Hid (Df xs ys k = false) := by unfold Hid; rw [HDf.out, e1]; rfl
        go_wp2
        refine wp_region_quiet_below (by kernel_rfl) (by kernel_rfl) ?_
        repeat (first | go_big_quiet_skip | (go_big_quiet_want; go_big_quiet_op; go_big_quiet_on))
        go_big_quiet_want; refine quiet_run (c).val (fun W hW => exec_load rfl rfl (run_loadCell (F1.out.sees (regrown_sees hW)))) ?_; simp only [Act.put, List.setIfInBounds_toArray, List.set_cons_zero, List.set_cons_succ]; go_big_quiet_on
        repeat (first | go_big_quiet_skip | (go_big_quiet_want; go_big_quiet_op; go_big_quiet_on))
        go_big_quiet_want; refine quiet_run (d).val (fun W hW => exec_load rfl rfl (run_loadCell (F2.out.sees (regrown_sees hW)))) ?_; simp only [Act.put, List.setIfInBounds_toArray, List.set_cons_zero, List.set_cons_succ]; go_big_quiet_on
        go_big_quiet_want; refine quiet_run (.bool true) (fun W hW => exec_bin rfl rfl rfl (guard_eqlCell _ _ c d W) ((run_eqlCell c d W).trans (by rw [e1]))) ?_; simp only [Act.put, List.setIfInBounds_toArray, List.set_cons_zero, List.set_cons_succ]; go_big_quiet_on
        repeat (first | go_big_quiet_skip | (go_big_quiet_want; go_big_quiet_op; go_big_quiet_on))
        refine wpQuiet_nil ?_; intro w2 hw2'; have hw2 := regrown_sees hw2'; clear hw2'
        go_wp2
        refine ⟨⟨k + 1, out, by omega, by go_num, ch_none Hm.out HDk.out, HR.out.sees hw2, HS.out.trans hw2⟩, by simp [intOf]; omega⟩
    · obtain rfl : k = n := by omega
      have HE : Hid (out = chgR zc xs ys) := by unfold Hid chgR; rw [← Hna.out]; exact ch_end Hm.out
      have HR := Lib.hid hR
      clear hR
      go_wp2
      go_ret
      exact ⟨_, rfl, Nat.le_refl _, by rw [← HE.out]; exact HR.out, hS⟩
end Go.Proofs.YtonlmlmjglaoiaaDoor
