/- The reference of layer 31: Valid, Fine, Last, Push, Pull, Replace, Clear. No condition. -/
import Derived.Test.YtpicffaghoggdaaDoorHiE
namespace Go.Proofs.YtpicffaghoggdaaDoor
set_option linter.unusedVariables false
set_option linter.unusedSimpArgs false
open Go.RowKit

/-- A history of the reference, in memory. -/
def HrAt (W : World) (b : Nat) (p g : Int) (v : Value) : Prop := W.heap[b]? = some (.cells #[.int .i64 p, .int .i64 g, v] 60 (0, 0))
namespace HrAt
variable {W W' : World} {b : Nat} {p g : Int} {v : Value}
theorem sees (h : HrAt W b p g v) (hs : Sees W W') : HrAt W' b p g v := by
  unfold HrAt; rw [hs.block _ (Array.getElem?_eq_some_iff.1 h).1]; exact h
theorem keeps {F : Nat → Prop} (h : HrAt W b p g v) (hk : Keeps F W W') (hF : ¬ F b) : HrAt W' b p g v := by
  unfold HrAt; rw [hk.block _ (Array.getElem?_eq_some_iff.1 h).1 hF]; exact h
theorem new {n : Nat} (hn : n = W.heap.size) : HrAt (W.alloc (.cells #[.int .i64 p, .int .i64 g, v] 60)) n p g v := by subst hn; exact heap_alloc_new W _
theorem alloc (h : HrAt W b p g v) (o : Obj) : HrAt (W.alloc o) b p g v := h.sees ((Sees.refl W).alloc o)
theorem lt (h : HrAt W b p g v) : b < W.heap.size := (Array.getElem?_eq_some_iff.1 h).1
theorem c (h : HrAt W b p g v) : W.cell? ⟨b, 0, none⟩ = some (.int .i64 p) ∧ W.cell? ⟨b, 1, none⟩ = some (.int .i64 g) ∧ W.cell? ⟨b, 2, none⟩ = some v := by
  rw [cell_of_row _ _ _ _ _ _ h, cell_of_row _ _ _ _ _ _ h, cell_of_row _ _ _ _ _ _ h]; exact ⟨rfl, rfl, rfl⟩
theorem fr (h : HrAt W b p g v) : ∀ i, W.frozen? ⟨b, i, none⟩ = false := fun i => frozen_of_row W b i _ _ h
end HrAt
/-- Lines cut at the front. -/
theorem cut_from {G : Nat → Prop} {w : World} {a : Option Addr} {n c : Nat} {ls : List Ln} (hv : lnEl.Rd G w (.slice a n c) ls) (k : Nat) (hk : k ≤ n) :
    ∃ a2 c2, (∀ W, (Instr.sliceAt 22 (.slice a n c) (some (.int .i64 (k : Int))) none none).run Tryd.prog W = .ok (.slice a2 (n - k) c2) W) ∧ (∀ (F : Nat → Prop) (W : World), lnEl.Rd F W (.slice a n c) ls → lnEl.Rd F W (.slice a2 (n - k) c2) (ls.drop k)) := by
  have hnl := hv.len
  have hvx : n ≤ c := by obtain ⟨_, _, e, h, _⟩ := hv; cases e; omega
  by_cases hls : ls = []
  · subst hls
    obtain rfl : n = 0 := hnl
    obtain rfl : k = 0 := by omega
    cases a with
    | none => exact ⟨none, c, fun W => by go_simp, fun F W _ => El.Rd.empty _ _ _ _⟩
    | some x =>
      by_cases hc0 : c = 0
      · subst hc0
        exact ⟨some x, 0, fun W => by go_simp, fun F W _ => El.Rd.empty _ _ _ _⟩
      · exact ⟨some (x.add 0), c, fun W => by go_simp, fun F W _ => El.Rd.empty _ _ _ _⟩
  · obtain ⟨hsp, hne⟩ := rd_spot hv hls
    obtain ⟨a', h1, h2⟩ := lns_from a n c k hk hvx hsp (fun h => absurd h hne)
    exact ⟨a', _, h1, fun F W h => h2 F W ls h⟩
/-- Lines cut at the end. -/
theorem cut_to {G : Nat → Prop} {w : World} {a : Option Addr} {n c : Nat} {ls : List Ln} (hv : lnEl.Rd G w (.slice a n c) ls) (k : Nat) (hk : k ≤ n) :
    (∀ W, (Instr.sliceAt 22 (.slice a n c) none (some (.int .i64 (k : Int))) none).run Tryd.prog W = .ok (.slice a k c) W) ∧ (∀ (F : Nat → Prop) (W : World), lnEl.Rd F W (.slice a n c) ls → lnEl.Rd F W (.slice a k c) (ls.take k)) := by
  have hnl := hv.len
  have hvx : n ≤ c := by obtain ⟨_, _, e, h, _⟩ := hv; cases e; omega
  by_cases hls : ls = []
  · subst hls
    obtain rfl : n = 0 := hnl
    obtain rfl : k = 0 := by omega
    have hc : ¬ ((c : Int) < 0) := by omega
    refine ⟨fun W => ?_, fun F W _ => El.Rd.empty _ _ _ _⟩
    cases a <;> go_simp
  · obtain ⟨hsp, _⟩ := rd_spot hv hls
    obtain ⟨h1, h2⟩ := lns_to a n c k hk hvx hsp
    exact ⟨h1, fun F W h => h2 F W ls h⟩

theorem refValid31_any (G : Nat → Prop) (v : Value) (xs : List Ln) (w : World) (hv : lnEl.Rd G w v xs) (hl : ∀ l ∈ xs, l.cells.length ≤ 1000000) (hn0 : xs.length ≤ 1000000000) :
    Calls Tryd.prog 15 #[v] w fun e w' => e = .returned (.bool (xs.all fun l => lnOk l.cells)) ∧ Sees w w' := by
  have Hv := Lib.hid hv
  have Hl := Lib.hid hl
  obtain ⟨ao, c, rfl, _⟩ := hv.slice'
  obtain ⟨n, hn⟩ : ∃ n, n = xs.length := ⟨_, rfl⟩
  rw [← hn] at Hv hn0 ⊢
  have Hn := Lib.hid hn
  clear hv hl hn
  go_enter Tryd.func15, Tryd.ntmps15
  go_wp2_with fail
  go_loopw [3] (fun i W => ∃ k : Nat, k ≤ n ∧ i = .int .i64 k ∧ (∀ (j : Nat) x, j < k → xs[j]? = some x → lnOk x.cells = true) ∧ Sees w W) (fun i _ => n - (intOf i).toNat)
  case atStart => exact ⟨0, Nat.zero_le _, rfl, fun j x h => by omega, Sees.refl _⟩
  case round =>
    obtain ⟨k, hk, rfl, hm, hS⟩ := hrel
    have HS := Lib.hid hS
    have HM := Lib.hid hm
    clear hS hm
    by_cases hlt : k < n
    · obtain ⟨b1, o1, l, a1, m1, rfl, _, hl, _, y0, y1, y2⟩ := Hv.out.line (k := k) hlt
      have x0 := HS.out.cell y0
      have x1 := HS.out.cell y1
      have Y2 := Lib.hid (y2.rdCells)
      have Hll := Lib.hid (Hl.out l (List.mem_iff_getElem?.2 ⟨k, hl⟩))
      have Hlk := Lib.hid hl
      obtain ⟨n1, hn1⟩ : ∃ n1, n1 = l.cells.length := ⟨_, rfl⟩
      rw [← hn1] at x0 Y2
      clear hl y0 y1 y2 hn1
      go_wp2_with fail
      refine (refLine_any _ l.cells l.soft _ (Y2.out.sees HS.out) Hll.out).mono ?_
      rintro e W2 ⟨rfl, hs⟩
      have HS2 := Lib.hid (HS.out.trans hs)
      clear hs x0 x1
      by_cases hok : lnOk l.cells = true
      · go_wp2
        refine ⟨⟨k + 1, by omega, by go_num, fun j y hj hy => ?_, HS2.out⟩, by simp [intOf] <;> omega⟩
        rcases Nat.lt_or_ge j k with h | h
        · exact HM.out j y h hy
        · obtain rfl : j = k := by omega
          rw [Hlk.out] at hy; cases hy; exact hok
      · have hok : lnOk l.cells = false := by simpa using hok
        have Hf : Hid ((xs.all fun l => lnOk l.cells) = false) := Lib.hid (by
          rw [List.all_eq_false]
          exact ⟨l, List.mem_iff_getElem?.2 ⟨k, Hlk.out⟩, by simp [hok]⟩)
        go_wp2
        go_ret
        exact ⟨ret_bool Hf.out.symm, HS2.out⟩
    · obtain rfl : k = n := by omega
      have Hf : Hid ((xs.all fun l => lnOk l.cells) = true) := Lib.hid (by
        rw [List.all_eq_true]
        intro x hx
        obtain ⟨j, hj⟩ := List.mem_iff_getElem?.1 hx
        exact HM.out j x (by have := Hn.out; have := (List.getElem?_eq_some_iff.1 hj).1; omega) hj)
      go_wp2
      go_ret
      exact ⟨ret_bool Hf.out.symm, HS.out⟩
theorem refFine_yes (n : Int) (w : World) (h0 : 0 ≤ n) (h1 : n ≤ 1048576) : Calls Tryd.prog 35 #[.int .i64 n] w fun e w' => e = .returned (.bool true) ∧ Sees w w' := by
  have hw := Sees.refl w
  have d1 : decide (n ≥ 0) = true := decide_eq_true h0
  have d2 : decide (n ≤ 1048576) = true := decide_eq_true h1
  go_enter Tryd.func35, Tryd.ntmps35
  go_wp2
  go_ret
  exact ⟨by simp [d1, d2], hw⟩
theorem refFine_no (n : Int) (w : World) (h : decide (n ≥ 0) = false ∨ (decide (n ≥ 0) = true ∧ decide (n ≤ 1048576) = false)) : Calls Tryd.prog 35 #[.int .i64 n] w fun e w' => e = .returned (.bool false) ∧ Sees w w' := by
  have hw := Sees.refl w
  rcases h with d1 | ⟨d1, d2⟩
  all_goals
    go_enter Tryd.func35, Tryd.ntmps35
    go_wp2
    go_ret
    exact ⟨by simp_all, hw⟩
theorem refLast_none (most first n : Int) (v : Value) (w : World) (hn : n < 1) :
    Calls Tryd.prog 71 #[.agg #[.int .i64 most, .int .i64 first, v], .int .i64 n] w fun e w' => e = .returned (.slice none 0 0) ∧ Sees w w' := by
  have hw := Sees.refl w
  have d1 : decide (n < 1) = true := decide_eq_true hn
  clear hn
  go_enter Tryd.func71, Tryd.ntmps71
  go_wp2
  go_ret
  exact ⟨by simp, hw.alloc _⟩
/-- Lines from a place on, as the machine cuts them. -/
theorem rd_from {F : Nat → Prop} {W : World} {a : Option Addr} {n c : Nat} {ls : List Ln} (h : lnEl.Rd F W (.slice a n c) ls) (k : Nat) (hk : k < n) : lnEl.Rd F W (.slice (Option.map (fun x => x.add (k * 2)) a) (n - k) (c - k)) (ls.drop k) := by
  have hl := h.len
  obtain ⟨ao, cap, e, hc, hh⟩ := id h
  cases e
  obtain ⟨b, o, rfl, _⟩ := hh (by intro e; subst e; exact absurd hk (Nat.not_lt_zero k))
  rw [Option.map_some, addr_add]
  exact h.drop k (by omega) (c - k) (by omega)
theorem rd_from' {F : Nat → Prop} {W : World} {a : Option Addr} {n c : Nat} {ls : List Ln} (h : lnEl.Rd F W (.slice a n c) ls) (k : Nat) (hk : k ≤ n) : lnEl.Rd F W (.slice (Option.map (fun x => x.add (k * 2)) a) (n - k) (c - k)) (ls.drop k) := by
  rcases Nat.lt_or_ge k n with h1 | h1
  · exact rd_from h k h1
  · have hl := h.len
    rw [List.drop_of_length_le (by omega), show n - k = 0 by omega]
    exact El.Rd.empty _ _ _ _
theorem refLast_some (most first n : Int) (v : Value) (ls : List Ln) (G : Nat → Prop) (w : World) (hn : 1 ≤ n) (hn2 : n ≤ 9223372036854775807) (hl : ls.length ≤ 1000000000) (hv : lnEl.Rd G w v ls) :
    Calls Tryd.prog 71 #[.agg #[.int .i64 most, .int .i64 first, v], .int .i64 n] w fun e w' => (∃ v', e = .returned v' ∧ ∀ (F : Nat → Prop) (W : World), lnEl.Rd F W v ls → lnEl.Rd F W v' (ls.drop (ls.length - n.toNat))) ∧ Sees w w' := by
  have hw := Sees.refl w
  obtain ⟨a, c, rfl, hc⟩ := hv.slice'
  have d1 : decide (n < 1) = false := decide_eq_false (by omega)
  have Hd := Lib.hid (fun (F : Nat → Prop) (W : World) (h : lnEl.Rd F W (.slice a ls.length c) ls) => rd_from h)
  obtain ⟨m, hm⟩ : ∃ m, m = ls.length := ⟨_, rfl⟩
  rw [← hm] at Hd hl hc ⊢
  have Hm := Lib.hid hm
  clear hm hv
  by_cases h0 : m = 0
  · subst h0
    have e1 : IntKind.i64.wrap ((0 : Nat) - n) = 0 - n := IntWalk.i64_in _ (by omega)
    have e2 : IntKind.i64.wrap (0 - n) = 0 - n := IntWalk.i64_in _ (by omega)
    have e3 : ¬ (0 : Int) < 0 - n := by omega
    have e4 : IntKind.i64.wrap (-n) = -n := IntWalk.i64_in _ (by omega)
    have e5 : ¬ n < 0 := by omega
    have Hls : Hid (ls = []) := Lib.hid (List.eq_nil_of_length_eq_zero Hm.out.symm)
    clear hn hn2
    go_enter Tryd.func71, Tryd.ntmps71
    go_wp2
    go_ret
    rw [Hls.out]
    exact ⟨⟨_, rfl, fun F W h => h⟩, hw.alloc _⟩
  · by_cases h1 : n < m
    · obtain ⟨k, hk⟩ : ∃ k : Nat, (m : Int) - n = k := ⟨((m : Int) - n).toNat, by omega⟩
      have e1 : IntKind.i64.wrap ((m : Int) - n) = (k : Int) := by rw [hk]; exact IntWalk.i64_in _ (by omega)
      have e2 : (0 : Int) < k := by omega
      have e3 : k ≤ m := by omega
      have e4 : ¬ c = k := by omega
      have Hk : Hid (k = m - n.toNat) := Lib.hid (by omega)
      have Hkm : Hid (k < m) := Lib.hid (by omega)
      clear hn hn2 hk h1
      go_enter Tryd.func71, Tryd.ntmps71
      go_wp2
      go_ret
      rw [← Hk.out]
      exact ⟨⟨_, rfl, fun F W h => Hd.out F W h k Hkm.out⟩, hw.alloc _⟩
    · have e1 : IntKind.i64.wrap ((m : Int) - n) = (m : Int) - n := IntWalk.i64_in _ (by omega)
      have e3 : ¬ (0 : Int) < (m : Int) - n := by omega
      have e4 : ¬ c = 0 := by omega
      have Hk : Hid (0 = m - n.toNat) := Lib.hid (by omega)
      have Hkm : Hid (0 < m) := Lib.hid (by omega)
      clear hn hn2
      go_enter Tryd.func71, Tryd.ntmps71
      go_wp2
      go_ret
      rw [← Hk.out]
      exact ⟨⟨_, rfl, fun F W h => h⟩, hw.alloc _⟩
end Go.Proofs.YtpicffaghoggdaaDoor
