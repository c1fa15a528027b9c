/- A page's copy. The calls of a page as data. What a page looks like. Each call, for the reference and for the page, with one plain function for both. No condition. -/
import Derived.Test.YtfeoejpbmpdkaaaDoorRefV
import Derived.Test.YtfeoejpbmpdkaaaDoorElO
import Derived.Test.YtfeoejpbmpdkaaaDoorStL
import Derived.Test.YtfeoejpbmpdkaaaDoorPgF
namespace Go.Proofs.YtfeoejpbmpdkaaaDoor
set_option linter.unusedVariables false
set_option linter.unusedSimpArgs false
open Go.RowKit

set_option maxRecDepth 100000 in
set_option maxHeartbeats 2000000 in
theorem pgCopy_ok {w1 : World} {M : Nat} {W : World} {p : Nat} {most gone : Int} {ls : List Ln} (h : PgS w1 M W p most gone ls) :
    Calls Tryd.prog 31 #[.pointer (some ⟨p, 0, none⟩)] W fun e w' => ∃ q, e = .returned (.pointer (some ⟨q, 0, none⟩)) ∧ PgS W w'.heap.size w' q most gone ls ∧ Sees W w' := by
  obtain ⟨a, c, hp⟩ := h.page.words
  have hd : decide (most = 0) = false := decide_eq_false (by have := h.most0; omega)
  have hm : (most == 0) = false := beq_eq_false_iff_ne.2 (by have := h.most0; omega)
  have H := Lib.hid h
  have hw := Sees.refl W
  clear h
  go_enter Tryd.func31, Tryd.ntmps31
  go_wp2_with fail
  refine (zero_at _ p most gone _ hp H.out.most0).mono ?_
  rintro e w2 ⟨rfl, hs2⟩
  have hp2 := hp.sees hs2
  go_wp2_with fail
  refine wpH_go (fun _ => False) 13 (by kernel_rfl) (by kernel_rfl) (by rfl) (fun hB w4 hs4 => ?_)
  have S4 := Lib.hid (hs2.trans hs4)
  have D0 := Lib.hid (hp2.sees hs4)
  have P4 := Lib.hid (H.out.sees S4.out)
  clear hp hp2 hs2 hs4
  have hS0 : Keeps (fun _ => False) w4 w4 := Keeps.refl _ w4
  refine wpH_take (i := 0) (v := .pointer (some ⟨p, 0, none⟩)) hB (by rfl) (by kernel_rfl) (fun _ _ _ _ _ h => h) (by rfl) hS0 (fun W hI => by clear hI; go_simp) ?_; (try simp only [Act.put, List.setIfInBounds_toArray, List.set_cons_zero, List.set_cons_succ])
  refine wpH_take (i := 1) (v := .pointer (some ⟨p, 0, none⟩)) hB (by rfl) (by kernel_rfl) (fun _ _ _ _ _ h => h) (by rfl) hS0 (fun W hI => by clear hI; go_simp) ?_; (try simp only [Act.put, List.setIfInBounds_toArray, List.set_cons_zero, List.set_cons_succ])
  refine wpH_take (i := 2) (v := .pointer (some ⟨p, 0, none⟩)) hB (by rfl) (by kernel_rfl) (fun _ _ _ _ _ h => h) (by rfl) hS0 (fun W hI => by clear hI; go_simp) ?_; (try simp only [Act.put, List.setIfInBounds_toArray, List.set_cons_zero, List.set_cons_succ])
  refine wpH_take (i := 3) (v := .int .i64 most) hB (by rfl) (by kernel_rfl) (fun _ _ _ _ _ h => h) (by rfl) hS0 (fun W hI => by have q := (D0.out.sees (hI.sees_end (fun _ _ h => h))).c0; go_simp) ?_; (try simp only [Act.put, List.setIfInBounds_toArray, List.set_cons_zero, List.set_cons_succ])
  refine wpH_take (i := 4) (v := .pointer (some ⟨p, 0, none⟩)) hB (by rfl) (by kernel_rfl) (fun _ _ _ _ _ h => h) (by rfl) hS0 (fun W hI => by clear hI; go_simp) ?_; (try simp only [Act.put, List.setIfInBounds_toArray, List.set_cons_zero, List.set_cons_succ])
  refine wpH_take (i := 5) (v := .pointer (some ⟨p, 0, none⟩)) hB (by rfl) (by kernel_rfl) (fun _ _ _ _ _ h => h) (by rfl) hS0 (fun W hI => by clear hI; go_simp) ?_; (try simp only [Act.put, List.setIfInBounds_toArray, List.set_cons_zero, List.set_cons_succ])
  refine wpH_take (i := 6) (v := .pointer (some ⟨p, 1, none⟩)) hB (by rfl) (by kernel_rfl) (fun _ _ _ _ _ h => h) (by rfl) hS0 (fun W hI => by clear hI; go_simp) ?_; (try simp only [Act.put, List.setIfInBounds_toArray, List.set_cons_zero, List.set_cons_succ])
  refine wpH_take (i := 7) (v := .int .i64 gone) hB (by rfl) (by kernel_rfl) (fun _ _ _ _ _ h => h) (by rfl) hS0 (fun W hI => by have q := (D0.out.sees (hI.sees_end (fun _ _ h => h))).c1; go_simp) ?_; (try simp only [Act.put, List.setIfInBounds_toArray, List.set_cons_zero, List.set_cons_succ])
  refine wpH_take (i := 8) (v := .pointer (some ⟨p, 0, none⟩)) hB (by rfl) (by kernel_rfl) (fun _ _ _ _ _ h => h) (by rfl) hS0 (fun W hI => by clear hI; go_simp) ?_; (try simp only [Act.put, List.setIfInBounds_toArray, List.set_cons_zero, List.set_cons_succ])
  refine wpH_one (i := 9) (by kernel_rfl) (wpOp_enter (fn := 25) (args := #[.pointer (some ⟨p, 0, none⟩)]) (by rfl) (by rfl) (by go_simp) (P4.out.lines.mono ?_))
  rintro e W8 ⟨v8, rfl, ho8, hs8⟩
  obtain ⟨a8, c8, rfl⟩ := ho8.slice
  refine ⟨_, rfl, Keeps.of_sees hs8, ?_⟩
  (try simp only [Act.put, List.setIfInBounds_toArray, List.set_cons_zero, List.set_cons_succ])
  have HO8 := Lib.hid ho8
  have HS8 := Lib.hid hs8
  clear ho8 hs8
  refine wpH_one (i := 10) (by kernel_rfl) (wpOp_val (v := .agg #[.int .i64 most, .int .i64 gone, .slice a8 ls.length c8]) (w' := W8) (by rfl) (wanted_none (by rfl) _) (exec_build3 (a := .int .i64 most) (b := .int .i64 gone) (c := .slice a8 ls.length c8) rfl (by go_simp) (by go_simp) (by go_simp) (by go_simp)) ⟨Keeps.of_sees HS8.out, ?_⟩)
  (try simp only [Act.put, List.setIfInBounds_toArray, List.set_cons_zero, List.set_cons_succ])
  have hS9 : Sees W8 (W8.alloc (.cells #[.int .i64 most, .int .i64 gone, .slice a8 ls.length c8] 58)) := (Sees.refl W8).alloc _
  refine wpH_one (i := 11) (by kernel_rfl) (wpOp_val (v := .pointer (some ⟨W8.heap.size, 0, none⟩)) (w' := W8.alloc (.cells #[.int .i64 most, .int .i64 gone, .slice a8 ls.length c8] 58)) (by rfl) (wanted_none (by rfl) _) (by go_simp) ⟨Keeps.of_sees (HS8.out.trans hS9), ?_⟩)
  (try simp only [Act.put, List.setIfInBounds_toArray, List.set_cons_zero, List.set_cons_succ])
  refine wpH_one (i := 12) (by kernel_rfl) (wpOp_val (v := .pointer (some ⟨W8.heap.size, 0, none⟩)) (w' := W8.alloc (.cells #[.int .i64 most, .int .i64 gone, .slice a8 ls.length c8] 58)) (by rfl) (wanted_none (by rfl) _) (by go_simp) ⟨Keeps.of_sees (HS8.out.trans hS9), ?_⟩)
  (try simp only [Act.put, List.setIfInBounds_toArray, List.set_cons_zero, List.set_cons_succ])
  refine wpH_end (by kernel_rfl) ?_
  go_wp2
  have hall : Sees W (W8.alloc (.cells #[.int .i64 most, .int .i64 gone, .slice a8 ls.length c8] 58)) := S4.out.trans (HS8.out.trans hS9)
  have hz4 := S4.out.size
  have hz8 := HS8.out.size
  have hz : (W8.alloc (.cells #[.int .i64 most, .int .i64 gone, .slice a8 ls.length c8] 58)).heap.size = W8.heap.size + 1 := Array.size_push _
  refine bodyPost_ret_by (v := .pointer (some ⟨W8.heap.size, 0, none⟩)) (by simp [results, Tryd.results31, go_sem]) rfl ⟨W8.heap.size, rfl, ⟨hall, ?_, Nat.le_refl _, P4.out.most0, P4.out.most1, P4.out.gone0, P4.out.room, P4.out.ok⟩, hall⟩
  refine ⟨⟨by omega, by omega⟩, _, heap_alloc_new W8 _, ((HO8.out.mono (G := fun b => w4.heap.size ≤ b ∧ b < W8.heap.size) (fun b hb h => ⟨h, hb⟩)).keeps (Keeps.of_sees (F := fun _ => False) hS9) (fun _ _ h => h)).mono (fun b hb h => ⟨⟨by omega, by omega⟩, by omega⟩)⟩
end Go.Proofs.YtfeoejpbmpdkaaaDoor

namespace Go.Proofs.YtfeoejpbmpdkaaaDoor
set_option linter.unusedVariables false
set_option linter.unusedSimpArgs false
open Go.RowKit

/-- A call of a page. -/
structure Act7 where
  what : Int
  num : Int
  cells : List Cell
  soft : Bool
def actEl : El Act7 := sliceAnd cellEl 52 4 (·.cells) (fun p => [.int .i64 p.what, .int .i64 p.num]) (fun p => [.bool p.soft]) (by decide) (fun _ => rfl) (by intro x v hv; simp at hv; rcases hv with rfl | rfl | rfl <;> rfl)
section
variable {F G : Nat → Prop} {w W : World} {v : Value}
/-- A call at a place. -/
theorem El.Rd.act {ao : Option Addr} {n c k : Nat} {ls : List Act7} (h : actEl.Rd F w (.slice ao n c) ls) (hk : k < n) : ∃ b o l a m, ao = some ⟨b, o, none⟩ ∧ F b ∧ ls[k]? = some l ∧ l.cells.length ≤ m ∧
    (w.cell? ⟨b, o + k * 4, none⟩ = some (.int .i64 l.what) ∧ w.cell? ⟨b, o + k * 4 + 1, none⟩ = some (.int .i64 l.num) ∧ w.cell? ⟨b, o + k * 4 + 2, none⟩ = some (.slice a l.cells.length m) ∧ w.cell? ⟨b, o + k * 4 + 3, none⟩ = some (.bool l.soft)) ∧ cellEl.Rd F w (.slice a l.cells.length m) l.cells := by
  obtain ⟨b, o, l, vs, e, hb, hl, ⟨sv, rfl, hr⟩, h6⟩ := h.at_ hk
  obtain ⟨a, m, rfl, hm⟩ := hr.slice'
  exact ⟨b, o, l, a, m, e, hb, hl, hm, ⟨h6 0 _ rfl, h6 1 _ rfl, h6 2 _ rfl, h6 3 _ rfl⟩, hr⟩
end
/-- At most 40 calls with at most 20 cells each. -/
def fewB (ls : List Act7) : Bool := decide (ls.length ≤ 40) && ls.all fun l => decide (l.cells.length ≤ 20)
theorem fewB_ok {ls : List Act7} (h : fewB ls = true) : ls.length ≤ 40 ∧ ∀ l ∈ ls, l.cells.length ≤ 20 := by
  unfold fewB at h
  simpa using h
set_option maxHeartbeats 1000000 in
theorem few_any (F : Nat → Prop) (v : Value) (xs : List Act7) (w : World) (ha : actEl.Rd F w v xs) :
    Calls Tryd.prog 27 #[v] w fun e w' => e = .returned (.bool (fewB xs)) ∧ Sees w w' := by
  obtain ⟨ao, ca, rfl, hca⟩ := ha.slice'
  have hw := Sees.refl w
  obtain ⟨n, hna⟩ : ∃ n, n = xs.length := ⟨_, rfl⟩
  rw [← hna] at ha
  rw [← hna]
  have Hna := Lib.hid hna
  have Ha := Lib.hid ha
  clear hna ha hca
  go_enter Tryd.func27, Tryd.ntmps27
  go_wp2
  go_loop [3] (fun i => ∃ k : Nat, k ≤ n ∧ k ≤ 41 ∧ i = .int .i64 k ∧ (∀ (j : Nat) x, j < k → xs[j]? = some x → x.cells.length ≤ 20)) (fun i => n - (intOf i).toNat)
  case atStart => exact ⟨0, by omega, by omega, rfl, fun j x h => by omega⟩
  case round =>
    obtain ⟨k, hk, hk2, rfl, hm⟩ := hrel
    have Hm := Lib.hid hm; clear hm
    by_cases hlt : k < n
    · by_cases h41 : k < 41
      · obtain ⟨b1, o1, x, a1, m1, rfl, _, hx, _, ⟨x0, x4, x1, x2⟩, x3⟩ := Ha.out.act hlt
        have Hx := Lib.hid hx
        have HW := Lib.hid hw
        generalize hl1 : x.cells.length = n1 at *
        have H1 := Lib.hid hl1
        clear hx x3 Ha hl1 hw
        by_cases h20 : n1 ≤ 20
        · have e1 : decide ((n1 : Int) > 20) = false := decide_eq_false (by omega)
          have e2 : decide ((20 : Int) < n1) = false := decide_eq_false (by omega)
          go_wp2
          go_round
          case rel => exact ⟨k + 1, by omega, by omega, by go_num, fun j y hj hy => by
            rcases Nat.lt_or_ge j k with h | h
            · exact Hm.out j y h hy
            · obtain rfl : j = k := by omega
              rw [Hx.out] at hy; cases hy; rw [H1.out]; exact h20⟩
          case measure => simp [intOf]; omega
        · have e1 : decide ((n1 : Int) > 20) = true := decide_eq_true (by omega)
          have e2 : decide ((20 : Int) < n1) = true := decide_eq_true (by omega)
          have Hf : Hid (fewB xs = false) := Bool.eq_false_iff.2 fun h => by
            have := (fewB_ok h).2 x (List.mem_iff_getElem?.2 ⟨_, Hx.out⟩)
            rw [H1.out] at this; omega
          go_wp2
          go_ret
          exact ⟨ret_bool Hf.out.symm, HW.out⟩
      · have Hf : Hid (fewB xs = false) := Bool.eq_false_iff.2 fun h => by
          have := (fewB_ok h).1; have := Hna.out; omega
        have e1 : decide (n ≤ 40) = false := decide_eq_false (by omega)
        have e2 : decide ((n : Int) ≤ 40) = false := decide_eq_false (by omega)
        go_wp2
        go_ret
        exact ⟨by rw [Hf.out]; first | rfl | (simp; omega), hw⟩
    · obtain rfl : k = n := by omega
      have Hf : Hid (fewB xs = decide (k ≤ 40)) := by
        have h : xs.all (fun l => decide (l.cells.length ≤ 20)) = true := by
          rw [List.all_eq_true]
          intro x hx
          obtain ⟨j, hj⟩ := List.mem_iff_getElem?.1 hx
          exact decide_eq_true (Hm.out j x (by have := Hna.out; have := (List.getElem?_eq_some_iff.1 hj).1; omega) hj)
        unfold Hid fewB; rw [h, ← Hna.out]; simp
      go_wp2
      go_ret
      exact ⟨by rw [Hf.out]; first | rfl | (simp; omega), hw⟩
end Go.Proofs.YtfeoejpbmpdkaaaDoor

namespace Go.Proofs.YtfeoejpbmpdkaaaDoor
set_option linter.unusedVariables false
set_option linter.unusedSimpArgs false
open Go.RowKit

set_option maxRecDepth 100000 in
set_option maxHeartbeats 4000000 in
theorem looks_any {w1 : World} {M : Nat} {W : World} {p : Nat} {most gone : Int} {ls : List Ln} (h : PgS w1 M W p most gone ls) (G : Nat → Prop) (v : Value) (hv : lnEl.Rd G W v ls) :
    Calls Tryd.prog 29 #[.pointer (some ⟨p, 0, none⟩), .agg #[.int .i64 most, .int .i64 gone, v]] W fun e w' => e = .returned (.bool true) ∧ Sees W w' := by
  have H := Lib.hid h
  have HV := Lib.hid hv
  obtain ⟨a, c, rfl, hvx⟩ := hv.slice'
  obtain ⟨n, hn⟩ : ∃ n, n = ls.length := ⟨_, rfl⟩
  rw [← hn]
  have Hn := Lib.hid hn
  have hn1 : n ≤ 1024 := by have := h.len; omega
  clear hvx hv hn h
  have hw := Sees.refl W
  go_enter Tryd.func29, Tryd.ntmps29
  go_wp2_with fail
  refine wp_world (fun w1 hw1 => ?_)
  have A1 : RsAt w1 W.heap.size most gone (.slice a n c) := by subst hw1; exact RsAt.new rfl
  have S1 : Sees W w1 := by subst hw1; exact hw.alloc _
  have P1 := Lib.hid (H.out.sees S1)
  clear hw1 hw
  have HA1 := Lib.hid A1
  have HS1 := Lib.hid S1
  obtain ⟨x0, x1, x2⟩ := A1.c
  have g0 := fun d os => (sees_grow w1 d os).cell x0
  have g1 := fun d os => (sees_grow w1 d os).cell x1
  have g2 := fun d os => (sees_grow w1 d os).cell x2
  clear x0 x1 x2 A1 S1
  have e1 : ((n : Int) != (n : Int)) = false := by simp
  have e2 : (most != most) = false := by simp
  have e3 : (gone != gone) = false := by simp
  have e4 : (most - gone - (n : Int) != most - gone - (n : Int)) = false := by simp
  refine wp_region_quiet_below (by kernel_rfl) (by kernel_rfl) ?_
  repeat (first | go_big_quiet_skip | (go_big_quiet_want; go_big_quiet_op; go_big_quiet_on))
  go_big_quiet_want; go_big_quiet_op; apply Exists.intro; refine ⟨fun p => Calls.regrown_of ((P1.out.sees (sees_grow _ _ _)).lenIs n (by rw [Hn.out])), ?_⟩; go_big_quiet_on
  repeat (first | go_big_quiet_skip | (go_big_quiet_want; go_big_quiet_op; go_big_quiet_on))
  go_big_quiet_want; go_big_quiet_op; apply Exists.intro; refine ⟨fun p => Calls.regrown_of ((P1.out.sees (sees_grow _ _ _)).pgcap), ?_⟩; go_big_quiet_on
  repeat (first | go_big_quiet_skip | (go_big_quiet_want; go_big_quiet_op; go_big_quiet_on))
  go_big_quiet_want; go_big_quiet_op; apply Exists.intro; refine ⟨fun p => Calls.regrown_of ((P1.out.sees (sees_grow _ _ _)).pggone), ?_⟩; go_big_quiet_on
  repeat (first | go_big_quiet_skip | (go_big_quiet_want; go_big_quiet_op; go_big_quiet_on))
  go_big_quiet_want; go_big_quiet_op; apply Exists.intro; refine ⟨fun p => Calls.regrown_of ((P1.out.sees (sees_grow _ _ _)).roomIs (most - gone - (n : Int)) (by rw [Hn.out])), ?_⟩; go_big_quiet_on
  repeat (first | go_big_quiet_skip | (go_big_quiet_want; go_big_quiet_op; go_big_quiet_on))
  go_big_quiet_want; go_big_quiet_op; apply Exists.intro; refine ⟨fun p => Calls.regrown_of (refRoom_any most gone a n c _ (by have := H.out.most0; omega) H.out.most1 H.out.gone0 H.out.nogone (by omega)), ?_⟩; go_big_quiet_on
  repeat (first | go_big_quiet_skip | (go_big_quiet_want; go_big_quiet_op; go_big_quiet_on))
  refine wpQuiet_nil ?_; intro w2 hw2'; have hw2 := regrown_sees hw2'; clear hw2'
  have HS2 := Lib.hid (HS1.out.trans hw2)
  have HA2 := Lib.hid (HA1.out.sees hw2)
  clear e1 e2 e3 e4 g0 g1 g2 hw2 P1
  go_wp2_with fail
  go_loopw [5] (fun i wr => ∃ k : Nat, k ≤ n + 2 ∧ i = .int .i64 ((k : Int) - 1) ∧ Sees w2 wr) (fun i _ => n + 2 - (intOf i + 1).toNat)
  case atStart => exact ⟨0, by omega, rfl, Sees.refl _⟩
  case round =>
    obtain ⟨k, hk, rfl, hS⟩ := hrel
    have HS := Lib.hid hS
    obtain ⟨x0, x1, x2⟩ := (HA2.out.sees hS).c
    clear hS
    by_cases hin : (k : Int) - 1 ≤ (n : Int)
    · have d0 : decide ((k : Int) - 1 ≤ (n : Int)) = true := decide_eq_true hin
      by_cases hout : (k : Int) - 1 < 0 ∨ (k : Int) - 1 = n
      · have d1 : (decide ((k : Int) - 1 < 0) || ((k : Int) - 1 == (n : Int))) = true := by
          rcases hout with h | h
          · rw [decide_eq_true h, Bool.true_or]
          · rw [h]; simp
        rcases hout with h | h
        · have d2 : decide ((k : Int) - 1 < 0) = true := decide_eq_true h
          go_wp2_with fail
          refine ((H.out.sees (HS2.out.trans HS.out)).gets_range ((k : Int) - 1) (.inl h)).mono ?_
          rintro e w4 ⟨rfl, hs4⟩
          have HS4 := Lib.hid (HS.out.trans hs4)
          clear hs4 x0 x1 x2
          go_wp2
          refine ⟨⟨k + 1, by omega, by go_num, HS4.out⟩, by simp [intOf] <;> omega⟩
        · obtain rfl : k = n + 1 := by omega
          clear h hin d1
          have hj1 : ((n + 1 : Nat) : Int) - 1 = (n : Int) := by omega
          rw [hj1] at d0 ⊢
          clear hj1
          have d2 : decide ((n : Int) < 0) = false := decide_eq_false (by omega)
          have d3 : ((n : Int) == (n : Int)) = true := beq_self_eq_true _
          go_wp2_with fail
          refine ((H.out.sees (HS2.out.trans HS.out)).gets_range (n : Int) (.inr (Int.ofNat_le.2 (Nat.le_of_eq Hn.out.symm)))).mono ?_
          rintro e w4 ⟨rfl, hs4⟩
          have HS4 := Lib.hid (HS.out.trans hs4)
          clear hs4 x0 x1 x2
          go_wp2
          refine ⟨⟨n + 1 + 1, by omega, by go_num, HS4.out⟩, by simp [intOf] <;> omega⟩
      · obtain ⟨j, rfl⟩ : ∃ j : Nat, k = j + 1 := ⟨k - 1, by omega⟩
        have hjn : j < n := by omega
        have hj1 : ((j + 1 : Nat) : Int) - 1 = (j : Int) := by omega
        rw [hj1] at d0 ⊢
        clear hin hout hj1
        have d1 : decide ((j : Int) < 0) = false := decide_eq_false (by omega)
        have d2 : ((j : Int) == (n : Int)) = false := beq_eq_false_iff_ne.2 (by omega)
        go_wp2_with fail
        obtain ⟨b1, o1, l, a1, m1, rfl, _, hl, _, y0, y1, y2⟩ := HV.out.line (k := j) (by rw [← Hn.out]; exact hjn)
        have hSW := HS2.out.trans HS.out
        have Y2 := Lib.hid (y2.rdCells)
        have Hll := Lib.hid (H.out.lenc l (List.mem_iff_getElem?.2 ⟨_, hl⟩))
        have Y0 := Lib.hid y0
        have Y1 := Lib.hid y1
        refine ((H.out.sees hSW).get j l hl).mono ?_
        rintro e w4 ⟨v4, rfl, ho4, hs4⟩
        obtain ⟨a4, c4, rfl⟩ := ho4.slice
        have HS4 := Lib.hid (hSW.trans hs4)
        have HW4 := Lib.hid (HS.out.trans hs4)
        have Ho4 := Lib.hid ho4
        have Hz4 := Lib.hid hs4.size
        clear hl y0 y1 y2 hSW ho4 hs4 x0 x1 x2
        generalize hl1 : l.cells.length = n1 at *
        have H1 := Lib.hid hl1
        clear hl1
        go_wp2_with fail
        refine wp_world (fun w5 hw5 => ?_)
        have A5 : LnAt w5 w4.heap.size (.slice a4 n1 c4) l.soft := by subst hw5; exact LnAt.new rfl
        have S5 : Sees w4 w5 := by subst hw5; exact (Sees.refl w4).alloc _
        have HA5 := Lib.hid A5
        have HS5 := Lib.hid (HS4.out.trans S5)
        have HW5 := Lib.hid (HW4.out.trans S5)
        have Ho5 := Lib.hid (Ho4.out.sees S5)
        have HR5 := Lib.hid (HA2.out.sees HW5.out)
        obtain ⟨x0, x1⟩ := A5.c
        have x2 := HR5.out.c.2.2
        have x3 := HS5.out.cell Y0.out
        have x4 := HS5.out.cell Y1.out
        have g0 := fun d os => (sees_grow w5 d os).cell x0
        have g1 := fun d os => (sees_grow w5 d os).cell x1
        have g2 := fun d os => (sees_grow w5 d os).cell x2
        have g3 := fun d os => (sees_grow w5 d os).cell x3
        have g4 := fun d os => (sees_grow w5 d os).cell x4
        clear x0 x1 x2 x3 x4 S5 A5 hw5
        have he : decide (l = l) = true := decide_eq_true rfl
        refine wp_region_quiet_below (by kernel_rfl) (by kernel_rfl) ?_
        repeat (first | go_big_quiet_skip | (go_big_quiet_want; go_big_quiet_op; go_big_quiet_on))
        go_big_quiet_want; go_big_quiet_op; apply Exists.intro; refine ⟨fun p => Calls.regrown_of (sameLine_any (.slice a4 n1 c4) (.slice a1 n1 m1) l l _ (Ho5.out.rd.sees (sees_grow w5 _ _)) (Y2.out.sees (HS5.out.trans (sees_grow w5 _ _))) (by rw [H1.out]; exact Hll.out)), ?_⟩; go_big_quiet_on
        repeat (first | go_big_quiet_skip | (go_big_quiet_want; go_big_quiet_op; go_big_quiet_on))
        refine wpQuiet_nil ?_; intro w2 hw2'; have hw2 := regrown_sees hw2'; clear hw2'
        have HS6 := Lib.hid (HS5.out.trans hw2)
        have HW6 := Lib.hid (HW5.out.trans hw2)
        have Ho6 := Lib.hid (Ho5.out.sees hw2)
        obtain ⟨x0, x1⟩ := (HA5.out.sees hw2).c
        clear g0 g1 g2 g3 g4 he hw2
        go_wp2_with fail
        refine (stain_own wr.heap.size _ l.cells _ Ho6.out (by rw [H1.out]; exact Hll.out)).mono ?_
        rintro e w7 ⟨rfl, hk7⟩
        have HS7 := Lib.hid (((Keeps.of_sees (F := fun _ => False) HW6.out).trans' hk7 (fun b hb e => by have := (Ho6.out.base e).1; have := HS.out.size; omega)).sees_end (fun _ _ h => h))
        clear hk7 x0 x1
        go_wp2
        refine ⟨⟨j + 1 + 1, by omega, by go_num, HS7.out⟩, by simp [intOf] <;> omega⟩
    · have d0 : decide ((k : Int) - 1 ≤ (n : Int)) = false := decide_eq_false hin
      obtain rfl : k = n + 2 := by omega
      go_wp2_with fail
      have hSW := HS2.out.trans HS.out
      refine ((H.out.sees hSW).lines).mono ?_
      rintro e w4 ⟨v4, rfl, ho4, hs4⟩
      obtain ⟨a4, c4, rfl⟩ := ho4.slice
      have HS4 := Lib.hid (hSW.trans hs4)
      have HW4 := Lib.hid (HS.out.trans hs4)
      rw [← Hn.out] at ho4 ⊢
      have Ho4 := Lib.hid ho4
      have Hz4 := Lib.hid hSW.size
      have hv4 := HV.out
      rw [← Hn.out] at hv4
      have HV4 := Lib.hid hv4
      clear hv4
      have HR4 := Lib.hid (HA2.out.sees HW4.out)
      have x0 := HR4.out.c.2.2
      clear hSW ho4 hs4 x1 x2 hk
      go_wp2_with fail
      refine (all_true _ G _ _ ls ls _ Ho4.out.rdl (HV4.out.rdl.sees HS4.out) (by rw [← Hn.out]; omega) H.out.lenc rfl).mono ?_
      rintro e w5 ⟨rfl, hs5⟩
      have HS5 := Lib.hid (HS4.out.trans hs5)
      have HW5 := Lib.hid (HW4.out.trans hs5)
      have Ho5 := Lib.hid (Ho4.out.sees hs5)
      clear hs5 x0
      go_wp2_with fail
      obtain ⟨B, hB⟩ : ∃ B, B = wr.heap.size := ⟨_, rfl⟩
      have hBW : w2.heap.size ≤ B := by rw [hB]; exact HS.out.size
      rw [← hB] at Ho5
      have HT5 := Lib.hid (fun h0 : ls ≠ [] => StL.of Ho5.out h0)
      clear hB Ho5 Ho4
      go_loopw [88] (fun i wr => ∃ k : Nat, k ≤ n ∧ i = .int .i64 k ∧ Sees w2 wr ∧ (ls ≠ [] → ∃ b, a4 = some ⟨b, 0, none⟩ ∧ StL B wr b ls k)) (fun i _ => n - (intOf i).toNat)
      case atStart => exact ⟨0, by omega, rfl, HW5.out, HT5.out⟩
      case round =>
        obtain ⟨k, hk, rfl, hW, hT⟩ := hrel
        have HW := Lib.hid hW
        have HT := Lib.hid hT
        clear hW hT
        by_cases hlt : k < n
        · have hkl : k < ls.length := by have := Hn.out; omega
          obtain ⟨b, rfl, hst⟩ := HT.out (fun e => by rw [e] at hkl; exact absurd hkl (Nat.not_lt_zero _))
          obtain ⟨a6, c6, x0, x1, ho, hb, hkeep⟩ := hst.step (List.getElem?_eq_getElem hkl)
          have Hl6 := Lib.hid (H.out.lenc _ (List.getElem_mem hkl))
          generalize ls[k] = l at *
          have Hkp := Lib.hid hkeep
          have Hb := Lib.hid hb
          have Ho := Lib.hid ho
          clear hkl hst hkeep ho hb HT
          go_wp2_with fail
          refine (stain_own 0 _ l.cells _ Ho.out Hl6.out).mono ?_
          rintro e w7 ⟨rfl, hk7⟩
          have HS7 := Lib.hid (((Keeps.of_sees (F := fun _ => False) HW.out).trans' hk7 (fun b hb e => by have := Hb.out _ e; omega)).sees_end (fun _ _ h => h))
          have HT7 := Lib.hid (Hkp.out _ hk7)
          clear hk7 x0 x1
          go_wp2
          refine ⟨⟨k + 1, by omega, by go_num, HS7.out, fun _ => ⟨_, rfl, HT7.out⟩⟩, by simp [intOf] <;> omega⟩
        · obtain rfl : k = n := by omega
          clear HT HT5
          have hSW := HS2.out.trans HW.out
          go_wp2_with fail
          have HR := Lib.hid (HA2.out.sees HW.out)
          have HSW := Lib.hid hSW
          clear hSW
          refine wpH_go (fun _ => False) 6 (by kernel_rfl) (by kernel_rfl) (by rfl) (fun hB w6 hs6 => ?_)
          have D0 := Lib.hid (HR.out.sees hs6)
          have HS6 := Lib.hid (HSW.out.trans hs6)
          clear hs6 HR
          have hS0 : Keeps (fun _ => False) w6 w6 := Keeps.refl _ w6
          refine wpH_take (i := 0) (v := .pointer (some ⟨p, 0, none⟩)) hB (by rfl) (by kernel_rfl) (fun _ _ _ _ _ h => h) (by rfl) hS0 (fun W hI => by clear hI; go_simp) ?_; (try simp only [Act.put, List.setIfInBounds_toArray, List.set_cons_zero, List.set_cons_succ])
          refine wpH_take (i := 2) (v := .pointer (some ⟨W.heap.size, 2, none⟩)) hB (by rfl) (by kernel_rfl) (fun _ _ _ _ _ h => h) (by rfl) hS0 (fun W hI => by clear hI; go_simp) ?_; (try simp only [Act.put, List.setIfInBounds_toArray, List.set_cons_zero, List.set_cons_succ])
          refine wpH_take (i := 3) (v := .slice a k c) hB (by rfl) (by kernel_rfl) (fun _ _ _ _ _ h => h) (by rfl) hS0 (fun W hI => by have q := (D0.out.sees (hI.sees_end (fun _ _ h => h))).c.2.2; go_simp) ?_; (try simp only [Act.put, List.setIfInBounds_toArray, List.set_cons_zero, List.set_cons_succ])
          refine wpH_one (i := 1) (by kernel_rfl) (wpOp_enter (fn := 25) (args := #[.pointer (some ⟨p, 0, none⟩)]) (by rfl) (by rfl) (by go_simp) (((H.out.sees HS6.out).lines).mono ?_))
          rintro e W8 ⟨v8, rfl, ho8, hs8⟩
          obtain ⟨a8, c8, rfl⟩ := ho8.slice
          refine ⟨_, rfl, Keeps.of_sees hs8, ?_⟩
          rw [← Hn.out] at ho8 ⊢
          (try simp only [Act.put, List.setIfInBounds_toArray, List.set_cons_zero, List.set_cons_succ])
          have HO8 := Lib.hid ho8
          have HS8 := Lib.hid hs8
          clear ho8 hs8
          refine wpH_one (i := 4) (by kernel_rfl) (wpOp_enter (fn := 24) (args := #[.slice a8 k c8, .slice a k c]) (by rfl) (by rfl) (by go_simp) ((all_true _ G _ _ ls ls _ HO8.out.rdl (HV4.out.rdl.sees (HS6.out.trans HS8.out)) (by rw [← Hn.out]; omega) H.out.lenc rfl).mono ?_))
          rintro e W9 ⟨rfl, hs9⟩
          have HS9 := Lib.hid (HS8.out.trans hs9)
          clear hs9
          refine ⟨_, rfl, Keeps.of_sees HS9.out, ?_⟩
          (try simp only [Act.put, List.setIfInBounds_toArray, List.set_cons_zero, List.set_cons_succ])
          refine wpH_one (i := 5) (by kernel_rfl) (wpOp_val (v := .bool true) (w' := W9) (by rfl) (wanted_none (by rfl) _) (by go_simp) ⟨Keeps.of_sees HS9.out, ?_⟩)
          (try simp only [Act.put, List.setIfInBounds_toArray, List.set_cons_zero, List.set_cons_succ])
          refine wpH_end (by kernel_rfl) ?_
          go_wp2
          refine bodyPost_ret_by (v := .bool true) (by simp [results, Tryd.results29, go_sem]) rfl ⟨rfl, HS6.out.trans HS9.out⟩
end Go.Proofs.YtfeoejpbmpdkaaaDoor

namespace Go.Proofs.YtfeoejpbmpdkaaaDoor
set_option linter.unusedVariables false
set_option linter.unusedSimpArgs false
open Go.RowKit

def pushR (most gone : Int) (ls : List Ln) (cs : List Cell) (soft : Bool) : List Ln × Int :=
  if lnOk cs = true then (if gone + ls.length = most then (ls, 7) else (ls ++ [⟨cs, soft⟩], 0)) else (ls, 2)
def setR (ls : List Ln) (i : Int) (cs : List Cell) (soft : Bool) : List Ln × Int :=
  if lnOk cs = true then (if i < 0 ∨ (ls.length : Int) ≤ i then (ls, 3) else (ls.set i.toNat ⟨cs, soft⟩, 0)) else (ls, 2)
def dropR (gone : Int) (ls : List Ln) (i : Int) : List Ln × Int × Int :=
  if i < 0 ∨ (ls.length : Int) < i then (ls, gone, 3) else (ls.drop i.toNat, gone + i, 0)

section
variable {w1 W : World} {F G H : Nat → Prop} {p : Nat} {most gone : Int} {ls : List Ln} {v u : Value} {cs : List Cell} {soft : Bool}
theorem rd_more {W' : World} (hv : lnEl.Rd G W v ls) (hs : Sees W W') : lnEl.Rd (fun b => (G b ∧ b < W.heap.size) ∨ W.heap.size ≤ b) W' v ls :=
  (hv.mono (G := fun b => (G b ∧ b < W.heap.size) ∨ W.heap.size ≤ b) (fun b hb h => .inl ⟨h, hb⟩)).sees hs
theorem PgF.more {W' : World} (h : PgF w1 F W p most gone ls) (hs : Sees W W') : PgF w1 (fun b => F b ∨ W.heap.size ≤ b) W' p most gone ls :=
  (h.mono (F' := fun b => F b ∨ W.heap.size ≤ b) (fun b _ h => .inl h) (fun b hb => by have := h.see.size; rcases hb with hb | hb; exact h.low b hb; omega)).sees hs
theorem refPush_any (w : World) (h : PgF w1 F W p most gone ls) (hv : lnEl.Rd G w v ls) (hu : RdCells w u cs) (hn : cs.length ≤ 1000000) :
    Calls Tryd.prog 63 #[.agg #[.int .i64 most, .int .i64 gone, v], .agg #[u, .bool soft]] w fun e w' => ∃ v', e = .returned (.tuple #[.agg #[.int .i64 most, .int .i64 gone, v'], .int .i64 (pushR most gone ls cs soft).2]) ∧ lnEl.Rd (fun b => (G b ∧ b < w.heap.size) ∨ w.heap.size ≤ b) w' v' (pushR most gone ls cs soft).1 ∧ Sees w w' := by
  have hm := h.most0
  have hr := h.room
  obtain ⟨a, c, rfl, hvx⟩ := hv.slice'
  unfold pushR
  by_cases hok : lnOk cs = true
  · rw [if_pos hok]
    by_cases hf : gone + ls.length = most
    · rw [if_pos hf]
      refine (refPush_full most gone a ls.length c u cs soft w (by omega) h.most1 h.gone0 hf.symm hu hok).mono ?_
      rintro e w' ⟨rfl, hs⟩
      exact ⟨_, rfl, rd_more hv hs, hs⟩
    · rw [if_neg hf]
      refine (refPush_ok G most gone _ ls u cs soft w (by omega) h.most1 h.gone0 (by omega) hv hu hok).mono ?_
      rintro e w' ⟨v', rfl, h1, hs⟩
      exact ⟨_, rfl, h1, hs⟩
  · rw [if_neg hok]
    refine (refPush_bad most gone a ls.length c u cs soft w hu hn (by simpa using hok)).mono ?_
    rintro e w' ⟨rfl, hs⟩
    exact ⟨_, rfl, rd_more hv hs, hs⟩
theorem pgPush_any (ht : Tabs W) (h : PgF w1 F W p most gone ls) (hu : RdC H W u cs) (hH : ∀ b, H b → ¬ F b) (hn : cs.length ≤ 1000000) :
    Calls Tryd.prog 13 #[.pointer (some ⟨p, 0, none⟩), .agg #[u, .bool soft]] W fun e w' => e = .returned (.int .i64 (pushR most gone ls cs soft).2) ∧ PgF w1 (fun b => F b ∨ W.heap.size ≤ b) w' p most gone (pushR most gone ls cs soft).1 ∧ Keeps F W w' := by
  have hr := h.room
  unfold pushR
  by_cases hok : lnOk cs = true
  · rw [if_pos hok]
    by_cases hf : gone + ls.length = most
    · rw [if_pos hf]
      refine (h.toS.push_full ht u cs soft hu.rd hok hf).mono ?_
      rintro e w' ⟨rfl, hs⟩
      exact ⟨rfl, h.more hs, Keeps.of_sees hs⟩
    · rw [if_neg hf]
      exact h.push ht u cs soft hu hH hok (by omega)
  · rw [if_neg hok]
    refine (h.toS.push_bad ht u cs soft hu.rd hn (by simpa using hok)).mono ?_
    rintro e w' ⟨rfl, hs⟩
    exact ⟨rfl, h.more hs, Keeps.of_sees hs⟩
theorem refSet_any (w : World) (h : PgF w1 F W p most gone ls) (i : Int) (hv : lnEl.Rd G w v ls) (hu : RdCells w u cs) (hn : cs.length ≤ 1000000) :
    Calls Tryd.prog 65 #[.agg #[.int .i64 most, .int .i64 gone, v], .int .i64 i, .agg #[u, .bool soft]] w fun e w' => ∃ v', e = .returned (.tuple #[.agg #[.int .i64 most, .int .i64 gone, v'], .int .i64 (setR ls i cs soft).2]) ∧ lnEl.Rd (fun b => (G b ∧ b < w.heap.size) ∨ w.heap.size ≤ b) w' v' (setR ls i cs soft).1 ∧ Sees w w' := by
  have hl := h.toS.len
  obtain ⟨a, c, rfl, hvx⟩ := hv.slice'
  unfold setR
  by_cases hok : lnOk cs = true
  · rw [if_pos hok]
    by_cases hf : i < 0 ∨ (ls.length : Int) ≤ i
    · rw [if_pos hf]
      refine (refSet_range most gone a ls.length c i u cs soft w hf hu hok).mono ?_
      rintro e w' ⟨rfl, hs⟩
      exact ⟨_, rfl, rd_more hv hs, hs⟩
    · rw [if_neg hf]
      obtain ⟨k, rfl⟩ : ∃ k : Nat, i = k := ⟨i.toNat, by omega⟩
      refine (refSet_ok G most gone _ ls k u cs soft w (by omega) hl hv hu hok).mono ?_
      rintro e w' ⟨v', rfl, h1, hs⟩
      exact ⟨_, rfl, h1, hs⟩
  · rw [if_neg hok]
    refine (refSet_bad most gone a ls.length c i u cs soft w hu hn (by simpa using hok)).mono ?_
    rintro e w' ⟨rfl, hs⟩
    exact ⟨_, rfl, rd_more hv hs, hs⟩
theorem pgSet_any (ht : Tabs W) (h : PgF w1 F W p most gone ls) (i : Int) (hu : RdC H W u cs) (hH : ∀ b, H b → ¬ F b) (hn : cs.length ≤ 1000000) :
    Calls Tryd.prog 30 #[.pointer (some ⟨p, 0, none⟩), .int .i64 i, .agg #[u, .bool soft]] W fun e w' => e = .returned (.int .i64 (setR ls i cs soft).2) ∧ PgF w1 (fun b => F b ∨ W.heap.size ≤ b) w' p most gone (setR ls i cs soft).1 ∧ Keeps F W w' := by
  unfold setR
  by_cases hok : lnOk cs = true
  · rw [if_pos hok]
    by_cases hf : i < 0 ∨ (ls.length : Int) ≤ i
    · rw [if_pos hf]
      refine (h.toS.set_range ht i hf u cs soft hu.rd hok).mono ?_
      rintro e w' ⟨rfl, hs⟩
      exact ⟨rfl, h.more hs, Keeps.of_sees hs⟩
    · rw [if_neg hf]
      obtain ⟨k, rfl⟩ : ∃ k : Nat, i = k := ⟨i.toNat, by omega⟩
      exact h.set ht k (by omega) u cs soft hu hH hok
  · rw [if_neg hok]
    refine (h.toS.set_bad ht i u cs soft hu.rd hn (by simpa using hok)).mono ?_
    rintro e w' ⟨rfl, hs⟩
    exact ⟨rfl, h.more hs, Keeps.of_sees hs⟩
theorem refDrop_any (w : World) (h : PgF w1 F W p most gone ls) (i : Int) (hv : lnEl.Rd G w v ls) :
    Calls Tryd.prog 66 #[.agg #[.int .i64 most, .int .i64 gone, v], .int .i64 i] w fun e w' => ∃ v', e = .returned (.tuple #[.agg #[.int .i64 most, .int .i64 (dropR gone ls i).2.1, v'], .int .i64 (dropR gone ls i).2.2]) ∧ lnEl.Rd (fun b => (G b ∧ b < w.heap.size) ∨ w.heap.size ≤ b) w' v' (dropR gone ls i).1 ∧ Sees w w' := by
  have hl := h.toS.len
  obtain ⟨a, c, rfl, hvx⟩ := hv.slice'
  unfold dropR
  by_cases hf : i < 0 ∨ (ls.length : Int) < i
  · rw [if_pos hf]
    refine (refDrop_range most gone a ls.length c i w hf).mono ?_
    rintro e w' ⟨rfl, hs⟩
    exact ⟨_, rfl, rd_more hv hs, hs⟩
  · rw [if_neg hf]
    obtain ⟨k, rfl⟩ : ∃ k : Nat, i = k := ⟨i.toNat, by omega⟩
    refine (refDrop_ok G most gone _ ls k w (by omega) hl h.gone0 h.toS.nogone hv).mono ?_
    rintro e w' ⟨v', rfl, h1, hs⟩
    exact ⟨_, rfl, h1, hs⟩
theorem pgDrop_any (h : PgF w1 F W p most gone ls) (i : Int) :
    Calls Tryd.prog 16 #[.pointer (some ⟨p, 0, none⟩), .int .i64 i] W fun e w' => e = .returned (.int .i64 (dropR gone ls i).2.2) ∧ PgF w1 (fun b => F b ∨ W.heap.size ≤ b) w' p most (dropR gone ls i).2.1 (dropR gone ls i).1 ∧ Keeps F W w' := by
  unfold dropR
  by_cases hf : i < 0 ∨ (ls.length : Int) < i
  · rw [if_pos hf]
    refine (h.toS.drop_range i hf).mono ?_
    rintro e w' ⟨rfl, hs⟩
    exact ⟨rfl, h.more hs, Keeps.of_sees hs⟩
  · rw [if_neg hf]
    obtain ⟨k, rfl⟩ : ∃ k : Nat, i = k := ⟨i.toNat, by omega⟩
    exact h.drop k (by omega)
end
end Go.Proofs.YtfeoejpbmpdkaaaDoor
