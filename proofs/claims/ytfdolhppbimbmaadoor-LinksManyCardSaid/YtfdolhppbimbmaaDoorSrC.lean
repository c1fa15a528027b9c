/- search.check, found and before; the statements' test of a pattern (42). The tables hold what the program's text lays. -/
import Derived.Test.YtfdolhppbimbmaaDoorScr
import Derived.Test.YtfdolhppbimbmaaDoorSrF
import Derived.Shelf.Strings.FuncGrows
namespace Go.Proofs.YtfdolhppbimbmaaDoor
set_option linter.unusedVariables false
set_option linter.unusedSimpArgs false
open Go.RowKit Go.Shelf

/-- A rune is a control character just if its first byte is one; the bytes behind the first one are none. -/
theorem decode_ctl (s : ByteArray) (pos : Nat) : ((Utf8.decode s pos).1 < 32 ↔ (s.get! pos).toNat < 32) ∧ 1 ≤ (Utf8.decode s pos).2 ∧ ∀ d, 0 < d → d < (Utf8.decode s pos).2 → 128 ≤ (s.get! (pos + d)).toNat := by
  have h0 := (s.get! pos).toNat_lt
  have key : ∀ d, d < 4 → (s.get! (pos + d)).toNat / 64 == 2 → 128 ≤ (s.get! (pos + d)).toNat := fun d _ h => by
    have := beq_iff_eq.1 h
    omega
  unfold Utf8.decode
  simp only [Nat.add_zero, Utf8.runeError]
  split
  · rename_i h
    exact ⟨Iff.rfl, Nat.le_refl _, fun d h1 h2 => by omega⟩
  rename_i hn
  split
  · rename_i h
    simp only [Bool.and_eq_true, decide_eq_true_eq] at h
    have k1 := key 1 (by omega) h.2.2
    split
    · refine ⟨by simp only []; omega, by simp only []; omega, fun d h1 h2 => ?_⟩
      obtain rfl : d = 1 := by simp only [] at h2; omega
      exact k1
    · exact ⟨by simp only []; omega, Nat.le_refl _, fun d h1 h2 => by simp only [] at h2; omega⟩
  split
  · rename_i h
    simp only [Bool.and_eq_true, decide_eq_true_eq] at h
    have k1 := key 1 (by omega) h.1.2.2
    have k2 := key 2 (by omega) h.2.2
    split
    · rename_i hc
      simp only [Bool.and_eq_true, decide_eq_true_eq] at hc
      refine ⟨by simp only []; omega, by simp only []; omega, fun d h1 h2 => ?_⟩
      rcases (show d = 1 ∨ d = 2 by simp only [] at h2; omega) with rfl | rfl
      · exact k1
      · exact k2
    · exact ⟨by simp only []; omega, Nat.le_refl _, fun d h1 h2 => by simp only [] at h2; omega⟩
  split
  · rename_i h
    simp only [Bool.and_eq_true, decide_eq_true_eq] at h
    have k1 := key 1 (by omega) h.1.1.2.2
    have k2 := key 2 (by omega) h.1.2.2
    have k3 := key 3 (by omega) h.2.2
    split
    · rename_i hc
      simp only [Bool.and_eq_true, decide_eq_true_eq] at hc
      refine ⟨by simp only []; omega, by simp only []; omega, fun d h1 h2 => ?_⟩
      rcases (show d = 1 ∨ d = 2 ∨ d = 3 by simp only [] at h2; omega) with rfl | rfl | rfl
      · exact k1
      · exact k2
      · exact k3
    · exact ⟨by simp only []; omega, Nat.le_refl _, fun d h1 h2 => by simp only [] at h2; omega⟩
  · exact ⟨by simp only []; omega, Nat.le_refl _, fun d h1 h2 => by simp only [] at h2; omega⟩
theorem ctl_from (s : ByteArray) : ∀ (f pos : Nat), s.size ≤ pos + f → (0 ≤ Lib.idxFuncFrom (fun n => decide (n < 32)) true s f pos ↔ ∃ j, pos ≤ j ∧ j < s.size ∧ (s.get! j).toNat < 32)
  | 0, pos, h => by
    unfold Lib.idxFuncFrom
    constructor
    · intro h; omega
    · rintro ⟨j, h1, h2, _⟩; omega
  | f + 1, pos, h => by
    unfold Lib.idxFuncFrom
    obtain ⟨d1, d2, d3⟩ := decode_ctl s pos
    split
    · rename_i hp
      split
      · rename_i hc
        have hc : (Utf8.decode s pos).1 < 32 := by simpa using hc
        exact ⟨fun _ => ⟨pos, Nat.le_refl _, hp, d1.1 hc⟩, fun _ => by omega⟩
      · rename_i hc
        have hc : ¬ (Utf8.decode s pos).1 < 32 := by simpa using hc
        rw [ctl_from s f _ (by omega)]
        constructor
        · rintro ⟨j, h1, h2, h3⟩
          exact ⟨j, by omega, h2, h3⟩
        · rintro ⟨j, h1, h2, h3⟩
          refine ⟨j, ?_, h2, h3⟩
          rcases Nat.lt_or_ge j (pos + (Utf8.decode s pos).2) with h4 | h4
          · exfalso
            rcases Nat.lt_or_eq_of_le h1 with h5 | h5
            · have := d3 (j - pos) (by omega) (by omega)
              rw [show pos + (j - pos) = j by omega] at this
              omega
            · subst h5
              exact hc (d1.2 h3)
          · exact h4
    · rename_i hp
      constructor
      · intro h; omega
      · rintro ⟨j, h1, h2, _⟩; omega
/-- Has a pattern no control characters? -/
def patB (p : ByteArray) : Bool := p.data.toList.all fun b => decide (32 ≤ b.toNat)
theorem get_list (s : ByteArray) (j : Nat) (h : j < s.size) : s.data.toList[j]? = some (s.get! j) := by
  have h' : j < s.data.size := h
  rw [Array.getElem?_toList, Array.getElem?_eq_getElem h']
  show some _ = some (s.data[j]!)
  rw [getElem!_pos s.data j h']
theorem patB_idx (p : ByteArray) : decide (0 ≤ Lib.idxFunc (fun n => decide (n < 32)) true p) = !patB p := by
  rw [Bool.eq_iff_iff, decide_eq_true_eq, Bool.not_eq_true']
  unfold Lib.idxFunc patB
  rw [ctl_from p p.size 0 (by omega), List.all_eq_false]
  constructor
  · rintro ⟨j, _, h2, h3⟩
    exact ⟨_, List.mem_iff_getElem?.2 ⟨j, get_list p j h2⟩, by simp; omega⟩
  · rintro ⟨b, hb, h⟩
    obtain ⟨j, hj⟩ := List.mem_iff_getElem?.1 hb
    have hl : j < p.size := by rw [Lib.size_eq]; exact (List.getElem?_eq_some_iff.1 hj).1
    rw [get_list p j hl] at hj
    cases hj
    exact ⟨j, Nat.zero_le _, hl, by simp at h; omega⟩
/-- Is a string a pattern? -/
def patOk (p : ByteArray) : Bool := decide (1 ≤ p.size) && (decide (p.size ≤ 200) && patB p)
theorem patOk_ok {p : ByteArray} (h : patOk p = true) : 1 ≤ p.size ∧ p.size ≤ 200 := by
  unfold patOk at h
  rw [Bool.and_eq_true, Bool.and_eq_true, decide_eq_true_eq, decide_eq_true_eq] at h
  exact ⟨h.1, h.2.1⟩
set_option maxHeartbeats 1000000 in
theorem check1_any (x : Nat) (w : World) : Calls Tryd.prog 114 #[.int .i32 (x : Int)] w fun e w' => e = .returned (.bool (decide (x < 32))) ∧ w' = w := by
  go_enter Tryd.func114, Tryd.ntmps114
  go_wp2
  go_ret
  exact ⟨by simp <;> omega, rfl⟩
theorem contains_ctl (p : ByteArray) (w : World) : Calls Tryd.prog 113 #[.string p, .func (.func 114) #[] #[]] w fun e w' => e = .returned (.bool (!patB p)) ∧ Sees w w' := by
  have q := Any.strings_ContainsFunc_grows { Tryd.laysGw17 with } 114 #[] (enters_of Tryd.func114 (by kernel_rfl) rfl) (fun n => decide (n < 32)) p w
    (fun W x _ _ => (check1_any x W).mono fun e w' ⟨h1, h2⟩ => ⟨h1, h2 ▸ Below.refl _ _⟩)
  rw [patB_idx] at q
  exact q
/-- What check answers: 0, or the error 2. -/
def ckR (ls : List Ln) (first : Int) (p : ByteArray) : Int := if rowsOk ls first && (decide (ls.length ≤ 1000) && patOk p) then 0 else 2
theorem ckR_rows {ls : List Ln} {first : Int} {p : ByteArray} (h : rowsOk ls first = false) : ckR ls first p = 2 := by unfold ckR; rw [h]; rfl
theorem ckR_long {ls : List Ln} {first : Int} {p : ByteArray} (h : ¬ ls.length ≤ 1000) : ckR ls first p = 2 := by unfold ckR; rw [decide_eq_false h]; simp
theorem ckR_pat {ls : List Ln} {first : Int} {p : ByteArray} (h : patOk p = false) : ckR ls first p = 2 := by unfold ckR; rw [h]; simp
theorem ckR_ok {ls : List Ln} {first : Int} {p : ByteArray} (h1 : rowsOk ls first = true) (h2 : ls.length ≤ 1000) (h3 : patOk p = true) : ckR ls first p = 0 := by unfold ckR; rw [h1, h3, decide_eq_true h2]; rfl
theorem ckR_zero {ls : List Ln} {first : Int} {p : ByteArray} (h : (ckR ls first p == 0) = true) : rowsOk ls first = true ∧ ls.length ≤ 1000 ∧ patOk p = true := by
  unfold ckR at h
  split at h
  · rename_i hh
    rw [Bool.and_eq_true, Bool.and_eq_true, decide_eq_true_eq] at hh
    exact hh
  · cases h
theorem ckR_not {ls : List Ln} {first : Int} {p : ByteArray} (h : (ckR ls first p == 0) = false) : ckR ls first p = 2 := by
  unfold ckR at h ⊢
  split at h
  · cases h
  · rename_i hh; rw [if_neg hh]
set_option maxHeartbeats 2000000 in
theorem check_any (F : Nat → Prop) (v : Value) (xs : List Ln) (w : World) (ht : Tabs w) (ha : lnEl.Rd F w v xs) (hn : xs.length ≤ 1000000) (hnc : ∀ l ∈ xs, l.cells.length ≤ 1000000) (first : Int) (p : ByteArray) (hp : p.size ≤ 1000000000) :
    Calls Tryd.prog 75 #[v, .int .i64 first, .string p] w fun e w' => e = .returned (.int .i64 (ckR xs first p)) ∧ Sees w w' := by
  have Hnc := Lib.hid hnc
  have Ht := Lib.hid ht
  obtain ⟨ao, ca, rfl, hca⟩ := ha.slice'
  have hw := Sees.refl w
  obtain ⟨n, hna⟩ : ∃ n, n = xs.length := ⟨_, rfl⟩
  rw [← hna] at ha hn
  rw [← hna]
  have Hna := Lib.hid hna
  have Ha := Lib.hid ha
  clear hna ha hca hnc ht
  go_enter Tryd.func75, Tryd.ntmps75
  rcases Bool.eq_false_or_eq_true (decide (first < 0)) with a1 | a1
  · have Hf : Hid (ckR xs first p = 2) := ckR_rows (by unfold rowsOk; rw [decide_eq_false (p := first ≥ 0) (by have := of_decide_eq_true a1; omega)]; simp)
    go_wp2
    go_ret
    exact ⟨ret_int Hf.out.symm, hw⟩
  rcases Bool.eq_false_or_eq_true (decide (first > 1099511627776)) with a2 | a2
  · have Hf : Hid (ckR xs first p = 2) := ckR_rows (by unfold rowsOk; rw [decide_eq_false (p := first ≤ 1099511627776) (by have := of_decide_eq_true a2; omega)]; simp)
    go_wp2
    go_ret
    exact ⟨ret_int Hf.out.symm, hw⟩
  rcases Nat.lt_or_ge 1000 n with a3 | a3
  · have Hf : Hid (ckR xs first p = 2) := ckR_long (by have := Hna.out; omega)
    have a4 : decide ((n : Int) > 1000) = true := decide_eq_true (by omega)
    go_wp2
    go_ret
    exact ⟨ret_int Hf.out.symm, hw⟩
  have a4 : decide ((n : Int) > 1000) = false := decide_eq_false (by omega)
  have HR : Hid (scrB xs = true → rowsOk xs first = true) := fun h => by
    unfold rowsOk
    rw [h, decide_eq_true (p := first ≥ 0) (by have := of_decide_eq_false a1; omega), decide_eq_true (p := first ≤ 1099511627776) (by have := of_decide_eq_false a2; omega)]
    rfl
  go_wp2
  go_loopw [22] (fun i wr => ∃ k : Nat, k ≤ n ∧ i = .int .i64 k ∧ (xs.take k).all (scrAt (cols xs)) = true ∧ Sees w wr) (fun i _ => n - (intOf i).toNat)
  case atStart => exact ⟨0, by omega, rfl, by simp, Sees.refl _⟩
  case round =>
    obtain ⟨k, hk, rfl, hm, hS⟩ := hrel
    have Hm := Lib.hid hm; clear hm hw
    by_cases hlt : k < n
    · obtain ⟨b1, o1, x, a1, m1, rfl, _, hx, _, x1, x2, x3⟩ := (Ha.out.sees hS).line hlt
      obtain ⟨b2, o2, y, a2, m2, hb2, _, hy, _, y1, y2, y3⟩ := (Ha.out.sees hS).line (show 0 < n by omega)
      cases hb2
      rw [Nat.zero_mul, Nat.add_zero] at y1 y2
      have X3 := Lib.hid x3
      have Y1 := Lib.hid y1
      have HT := Lib.hid (Ht.out.sees hS)
      have HS := Lib.hid hS
      have Hx := Lib.hid hx
      have Hxl := Lib.hid (Hnc.out x (List.mem_iff_getElem?.2 ⟨_, hx⟩))
      have hcols := cols_of hy
      have hv : ∀ b1 b2 b3, lnOk x.cells = b1 → ((x.cells.length : Int) == 0) = b2 → (x.cells.length == y.cells.length) = b3 → scrAt (cols xs) x = (b1 && !b2 && b3) := by
        rintro _ _ _ rfl rfl rfl
        unfold scrAt; rw [hcols]
        congr 2
        rw [Bool.eq_iff_iff]; simp
      have Hv := Lib.hid hv
      clear hx hy x3 y1 y2 y3 Ha hcols hv hS
      generalize hl1 : x.cells.length = n1 at *
      generalize hl2 : y.cells.length = n0 at *
      have H1 := Lib.hid hl1
      clear hl1 hl2
      have k0 : (0 : Nat) < n := by omega
      have k1 : (0 : Int) < n := by omega
      rcases ways3 (lnOk x.cells) (!((n1 : Int) == 0)) (n1 == n0) with ⟨e1, e2, e3⟩ | ⟨e1, e2, e3⟩ | ⟨e1, e2⟩ | e1
      all_goals
        (try (have e2' : ((n1 : Int) == 0) = _ := Bool.not_eq_eq_eq_not.1 e2))
        go_wp2
        refine wp_world fun w1 hw1 => ?_
        have hs1 : Sees wr w1 := by subst hw1; exact (Sees.refl wr).alloc _
        have c0 : w1.cell? ⟨wr.heap.size, 0, none⟩ = some (.slice a1 n1 m1) := by subst hw1; simp
        have c1 : w1.cell? ⟨wr.heap.size, 1, none⟩ = some (.bool x.soft) := by subst hw1; simp
        have g1 := fun d os => (sees_grow w1 d os).cell c0
        have g2 := fun d os => (sees_grow w1 d os).cell c1
        have g3 := fun d os => (sees_grow w1 d os).cell (hs1.cell Y1.out)
        have Hs1 := Lib.hid hs1
        clear hw1 hs1 c0 c1 x1 x2
        refine wp_region_quiet_below (by kernel_rfl) (by kernel_rfl) ?_
        repeat (first | go_big_quiet_skip | (go_big_quiet_want; go_big_quiet_op; go_big_quiet_on))
        (go_big_quiet_want; go_big_quiet_op; apply Exists.intro; refine ⟨fun p => Calls.regrown_of (lineValid_any _ x.cells x.soft _ (HT.out.sees (Hs1.out.trans (sees_grow w1 _ _))) (X3.out.sees (Hs1.out.trans (sees_grow w1 _ _))).rdCells (by rw [H1.out]; exact Hxl.out)), ?_⟩; go_big_quiet_on)
        repeat (first | go_big_quiet_skip | (go_big_quiet_want; go_big_quiet_op; go_big_quiet_on))
        refine wpQuiet_nil ?_; intro w2 hw2'; have hw2 := regrown_sees hw2'; clear hw2'
        go_wp2
      · have := Hv.out true false true e1 (by simpa using e2) e3
        go_roundw
        case rel => exact ⟨k + 1, by omega, by go_num, scr_more Hx.out this Hm.out, HS.out.trans (Hs1.out.trans hw2)⟩
        case measure => simp [intOf]; omega
      · have := scrB_bad Hx.out (Hv.out true false false e1 (by simpa using e2) e3)
        go_ret
        exact ⟨ret_int (ckR_rows (p := p) (rowsOk_no (first := first) this)).symm, HS.out.trans (Hs1.out.trans hw2)⟩
      · have := scrB_bad Hx.out ((Hv.out true true _ e1 (by simpa using e2) rfl).trans (by simp))
        go_ret
        exact ⟨ret_int (ckR_rows (p := p) (rowsOk_no (first := first) this)).symm, HS.out.trans (Hs1.out.trans hw2)⟩
      · have := scrB_bad Hx.out ((Hv.out false _ _ e1 rfl rfl).trans (by simp))
        go_ret
        exact ⟨ret_int (ckR_rows (p := p) (rowsOk_no (first := first) this)).symm, HS.out.trans (Hs1.out.trans hw2)⟩
    · obtain rfl : k = n := by omega
      have hsc : scrB xs = true := by
        have := Hm.out
        rw [List.take_of_length_le (by rw [← Hna.out]; exact Nat.le_refl _)] at this
        exact this
      have Hok := Lib.hid (HR.out hsc)
      have Hl : Hid (xs.length ≤ 1000) := by have := Hna.out; unfold Hid; omega
      clear hsc
      rcases Bool.eq_false_or_eq_true (decide ((p.size : Int) < 1)) with b1 | b1
      · have Hf : Hid (ckR xs first p = 2) := ckR_pat (by unfold patOk; rw [decide_eq_false (by have := of_decide_eq_true b1; omega)]; rfl)
        go_wp2
        go_ret
        exact ⟨ret_int Hf.out.symm, hS⟩
      rcases Bool.eq_false_or_eq_true (decide ((p.size : Int) > 200)) with b2 | b2
      · have Hf : Hid (ckR xs first p = 2) := ckR_pat (by unfold patOk; rw [decide_eq_false (p := p.size ≤ 200) (by have := of_decide_eq_true b2; omega)]; simp)
        go_wp2
        go_ret
        exact ⟨ret_int Hf.out.symm, hS⟩
      have hpo : patOk p = patB p := by
        unfold patOk
        rw [decide_eq_true (by have := of_decide_eq_false b1; omega), decide_eq_true (by have := of_decide_eq_false b2; omega)]
        rfl
      have KC := Lib.hid (fun W => contains_ctl p W)
      have HPO := Lib.hid hpo
      clear hpo
      rcases Bool.eq_false_or_eq_true (patB p) with b3 | b3
      all_goals
        rw [b3] at KC HPO
        go_wp2_with fail
        refine (KC.out _).mono ?_
        rintro e W5 ⟨rfl, s5⟩
        go_wp2
        go_ret
        first
          | exact ⟨ret_int (ckR_ok Hok.out Hl.out HPO.out).symm, hS.trans s5⟩
          | exact ⟨ret_int (ckR_pat (ls := xs) (first := first) HPO.out).symm, hS.trans s5⟩
end Go.Proofs.YtfdolhppbimbmaaDoor
