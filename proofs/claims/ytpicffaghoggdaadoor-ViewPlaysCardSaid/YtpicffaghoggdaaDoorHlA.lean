/- The calls of a history as data: few. No condition. -/
import Derived.Test.YtpicffaghoggdaaDoorHiE
namespace Go.Proofs.YtpicffaghoggdaaDoor
set_option linter.unusedVariables false
set_option linter.unusedSimpArgs false
open Go.RowKit

/-- A call of a history. -/
structure Act31 where
  what : Int
  num : Int
  ls : List Ln
def act31El : El Act31 := sliceAnd lnEl 25 3 (·.ls) (fun p => [.int .i64 p.what, .int .i64 p.num]) (fun _ => []) (by decide) (fun _ => rfl) (by intro x v hv; simp at hv; rcases hv with rfl | rfl <;> rfl)
section
variable {F G : Nat → Prop} {w W : World} {v : Value}
/-- A call at a place. -/
theorem El.Rd.act31 {ao : Option Addr} {n c k : Nat} {ls : List Act31} (h : act31El.Rd F w (.slice ao n c) ls) (hk : k < n) : ∃ b o l a m, ao = some ⟨b, o, none⟩ ∧ F b ∧ ls[k]? = some l ∧ l.ls.length ≤ m ∧
    (w.cell? ⟨b, o + k * 3, none⟩ = some (.int .i64 l.what) ∧ w.cell? ⟨b, o + k * 3 + 1, none⟩ = some (.int .i64 l.num) ∧ w.cell? ⟨b, o + k * 3 + 2, none⟩ = some (.slice a l.ls.length m)) ∧ lnEl.Rd F w (.slice a l.ls.length m) l.ls := by
  obtain ⟨b, o, l, vs, e, hb, hl, ⟨sv, rfl, hr⟩, h6⟩ := h.at_ hk
  obtain ⟨a, m, rfl, hm⟩ := hr.slice'
  exact ⟨b, o, l, a, m, e, hb, hl, hm, ⟨h6 0 _ rfl, h6 1 _ rfl, h6 2 _ rfl⟩, hr⟩
/-- Two calls in a row. -/
theorem act31_two {b c : Nat} {t : TypeId} {u v : Value} {xs ys : List Ln} (hrow : W.heap[b]? = some (.cells #[.int .i64 0, .int .i64 0, u, .int .i64 0, .int .i64 0, v] t (0, 0))) (hF : F b) (hc : 2 ≤ c) (hu : lnEl.Rd F W u xs) (hv : lnEl.Rd F W v ys) :
    act31El.Rd F W (.slice (some ⟨b, 0, none⟩) 2 c) [⟨0, 0, xs⟩, ⟨0, 0, ys⟩] := by
  refine ⟨some ⟨b, 0, none⟩, c, rfl, hc, fun _ => ⟨b, 0, rfl, hF, fun i x hx => ?_⟩⟩
  match i with
  | 0 =>
    cases hx
    refine ⟨[.int .i64 0, .int .i64 0, u], ⟨u, rfl, hu⟩, fun j y hy => ?_⟩
    rw [cell_of_row _ _ _ _ _ _ hrow]
    match j with
    | 0 => cases hy; rfl
    | 1 => cases hy; rfl
    | 2 => cases hy; rfl
    | j + 3 => cases hy
  | 1 =>
    cases hx
    refine ⟨[.int .i64 0, .int .i64 0, v], ⟨v, rfl, hv⟩, fun j y hy => ?_⟩
    rw [cell_of_row _ _ _ _ _ _ hrow]
    match j with
    | 0 => cases hy; rfl
    | 1 => cases hy; rfl
    | 2 => cases hy; rfl
    | j + 3 => cases hy
  | i + 2 => cases hx
end
/-- At most 30 calls with at most 6 lines of at most 8 cells each. -/
def Few31 (xs : List Act31) : Prop := xs.length ≤ 30 ∧ ∀ x ∈ xs, x.ls.length ≤ 6 ∧ ∀ l ∈ x.ls, l.cells.length ≤ 8
def Few31R (xs : List Act31) (e : Ending) : Prop := ∃ b, e = .returned (.bool b) ∧ (b = true → Few31 xs)
set_option maxHeartbeats 2000000 in
theorem few31_any (F : Nat → Prop) (v : Value) (xs : List Act31) (w : World) (ha : act31El.Rd F w v xs) :
    Calls Tryd.prog 14 #[v] w fun e w' => Few31R xs e ∧ Sees w w' := by
  obtain ⟨ao, ca, rfl, hca⟩ := ha.slice'
  have hw := Sees.refl w
  obtain ⟨n, hna⟩ : ∃ n, n = xs.length := ⟨_, rfl⟩
  rw [← hna] at ha
  rw [← hna]
  have Hna := Lib.hid hna
  have Ha := Lib.hid ha
  clear hna ha hca
  go_enter Tryd.func14, Tryd.ntmps14
  go_wp2
  go_loop [3] (fun i => ∃ k : Nat, k ≤ n ∧ k ≤ 31 ∧ i = .int .i64 k ∧ (∀ (j : Nat) x, j < k → xs[j]? = some x → x.ls.length ≤ 6 ∧ ∀ l ∈ x.ls, l.cells.length ≤ 8)) (fun i => n - (intOf i).toNat)
  case atStart => exact ⟨0, by omega, by omega, rfl, fun j x h => by omega⟩
  case round =>
    obtain ⟨k, hk, hk2, rfl, hm⟩ := hrel
    have Hm := Lib.hid hm; clear hm
    by_cases hlt : k < n
    · by_cases h31 : k < 31
      · obtain ⟨b1, o1, x, a1, m1, rfl, _, hx, _, ⟨x0, x4, x1⟩, x3⟩ := Ha.out.act31 hlt
        have Hx := Lib.hid hx
        have HW := Lib.hid hw
        have Hr := Lib.hid x3
        generalize hl1 : x.ls.length = n1 at *
        have H1 := Lib.hid hl1
        clear hx x3 x0 x4 Ha hl1 hw
        by_cases h6 : n1 ≤ 6
        · have e1 : decide ((n1 : Int) > 6) = false := decide_eq_false (by omega)
          have e2 : decide ((6 : Int) < n1) = false := decide_eq_false (by omega)
          go_wp2
          go_loop [4] (fun i => ∃ q : Nat, q ≤ n1 ∧ i = .int .i64 q ∧ (∀ (j : Nat) y, j < q → x.ls[j]? = some y → y.cells.length ≤ 8)) (fun i => n1 - (intOf i).toNat)
          case atStart => exact ⟨0, by omega, rfl, fun j x h => by omega⟩
          case round =>
            obtain ⟨q, hq, rfl, hm⟩ := hrel
            have Hq := Lib.hid hm; clear hm
            by_cases hlq : q < n1
            · obtain ⟨b2, o2, l, a2, m2, rfl, _, hl, _, y0, y1, y2⟩ := Hr.out.line hlq
              have Hl := Lib.hid hl
              generalize hl2 : l.cells.length = n2 at *
              have H2 := Lib.hid hl2
              clear hl y1 y2 hl2
              by_cases h8 : n2 ≤ 8
              · have e3 : decide ((n2 : Int) > 8) = false := decide_eq_false (by omega)
                have e4 : decide ((8 : Int) < n2) = false := decide_eq_false (by omega)
                go_wp2
                go_round
                case rel => exact ⟨q + 1, by omega, by go_num, fun j y hj hy => by
                  rcases Nat.lt_or_ge j q with h | h
                  · exact Hq.out j y h hy
                  · obtain rfl : j = q := by omega
                    rw [Hl.out] at hy; cases hy; rw [H2.out]; exact h8⟩
                case measure => simp [intOf]; omega
              · have e3 : decide ((n2 : Int) > 8) = true := decide_eq_true (by omega)
                have e4 : decide ((8 : Int) < n2) = true := decide_eq_true (by omega)
                go_wp2
                go_ret
                exact ⟨⟨false, rfl, fun h => by cases h⟩, HW.out⟩
            · obtain rfl : q = n1 := by omega
              go_wp2
              go_round
              case rel => exact ⟨k + 1, by omega, by omega, by go_num, fun j y hj hy => by
                rcases Nat.lt_or_ge j k with h | h
                · exact Hm.out j y h hy
                · obtain rfl : j = k := by omega
                  rw [Hx.out] at hy; cases hy
                  refine ⟨by rw [H1.out]; exact h6, fun l hl => ?_⟩
                  obtain ⟨p, hp⟩ := List.mem_iff_getElem?.1 hl
                  exact Hq.out p l (by have := (List.getElem?_eq_some_iff.1 hp).1; have := H1.out; omega) hp⟩
              case measure => simp [intOf]; omega
        · have e1 : decide ((n1 : Int) > 6) = true := decide_eq_true (by omega)
          have e2 : decide ((6 : Int) < n1) = true := decide_eq_true (by omega)
          go_wp2
          go_ret
          exact ⟨⟨false, rfl, fun h => by cases h⟩, HW.out⟩
      · have e1 : decide (n ≤ 30) = false := decide_eq_false (by omega)
        have e2 : decide ((n : Int) ≤ 30) = false := decide_eq_false (by omega)
        go_wp2
        go_ret
        exact ⟨⟨false, by first | rfl | (simp; omega), fun h => by cases h⟩, hw⟩
    · obtain rfl : k = n := by omega
      go_wp2
      go_ret
      refine ⟨⟨_, rfl, fun h => ⟨?_, fun x hx => ?_⟩⟩, hw⟩
      · have := Hna.out
        simp at h
        omega
      · obtain ⟨j, hj⟩ := List.mem_iff_getElem?.1 hx
        exact Hm.out j x (by have := Hna.out; have := (List.getElem?_eq_some_iff.1 hj).1; omega) hj

theorem RgF.rebase {w0 w1 W : World} {F : Nat → Prop} {r : Nat} {most page first : Int} {ls : List Ln} {g : List (Int × Nat)} (hs : Sees w0 w1) (h : RgF w1 F W r most page first ls g) : RgF w0 F W r most page first ls g := by
  obtain ⟨d, h1, h2, h3⟩ := h
  exact ⟨d, ⟨hs.trans h1.see, h1.fr, fun b hb => Nat.le_trans hs.size (h1.low b hb), h1.mem⟩, h2, h3⟩
theorem HiF.rebase {w0 w1 W : World} {F : Nat → Prop} {b : Nat} {most first : Int} {ls : List Ln} (hs : Sees w0 w1) (h : HiF w1 F W b most first ls) : HiF w0 F W b most first ls := by
  obtain ⟨h1, h2, r, g, h3, h4⟩ := h
  exact ⟨h1, Nat.le_trans hs.size h2, r, g, h3, h4.rebase hs⟩
theorem HiF.gets {w1 W : World} {F : Nat → Prop} {b : Nat} {most first : Int} {ls : List Ln} (h : HiF w1 F W b most first ls) (n : Int) (i : Nat) (l : Ln) (hn : n = first + i) (hl : ls[i]? = some l) (u : Value) (hu : RdCells W u l.cells) :
    Calls Tryd.prog 27 #[.pointer (some ⟨b, 0, none⟩), .int .i64 n, .agg #[u, .bool l.soft], .int .i64 0] W fun e w' => e = .returned (.bool true) ∧ Sees W w' := by
  refine hgets_true _ n 0 u l W hu (h.lenc l (List.mem_iff_getElem?.2 ⟨i, hl⟩)) fun W' hs => ((h.sees hs).get n i l hn hl).mono ?_
  rintro e w' ⟨v', rfl, ho, hs⟩
  exact ⟨v', rfl, ho.rd, hs⟩

/-- Two histories beside each other. -/
def Hi2 (w W : World) (hb gb : Nat) (m fa : Int) (la : List Ln) (fb : Int) (lb : List Ln) : Prop :=
  ∃ FA FB : Nat → Prop, HiF w FA W hb m fa la ∧ HiF w FB W gb m fb lb ∧ (∀ c, FA c → ¬ FB c) ∧ (∀ c, FA c → c < W.heap.size) ∧ (∀ c, FB c → c < W.heap.size)
namespace Hi2
variable {w W X : World} {hb gb : Nat} {m fa fb : Int} {la lb : List Ln}
theorem sees (h : Hi2 w W hb gb m fa la fb lb) (hs : Sees W X) : Hi2 w X hb gb m fa la fb lb := by
  obtain ⟨FA, FB, h1, h2, h3, h4, h5⟩ := h
  exact ⟨FA, FB, h1.sees hs, h2.sees hs, h3, fun c hc => Nat.lt_of_lt_of_le (h4 c hc) hs.size, fun c hc => Nat.lt_of_lt_of_le (h5 c hc) hs.size⟩
theorem swap (h : Hi2 w W hb gb m fa la fb lb) : Hi2 w W gb hb m fb lb fa la := by
  obtain ⟨FA, FB, h1, h2, h3, h4, h5⟩ := h
  exact ⟨FB, FA, h2, h1, fun c hb ha => h3 c ha hb, h5, h4⟩
theorem a (h : Hi2 w W hb gb m fa la fb lb) : ∃ F, HiF w F W hb m fa la := by obtain ⟨FA, FB, h1, h2, h3, h4, h5⟩ := h; exact ⟨FA, h1⟩
theorem b (h : Hi2 w W hb gb m fa la fb lb) : ∃ F, HiF w F W gb m fb lb := by obtain ⟨FA, FB, h1, h2, h3, h4, h5⟩ := h; exact ⟨FB, h2⟩
theorem see (h : Hi2 w W hb gb m fa la fb lb) : Sees w W := by obtain ⟨F, h⟩ := h.a; exact h.see
theorem push (h : Hi2 w W hb gb m fa la fb lb) (ht : Tabs w) (hX : Sees W X) (G : Nat → Prop) (v : Value) (xs : List Ln) (hv : lnEl.Rd G X v xs) (hG : ∀ c, G c → c < w.heap.size ∨ W.heap.size ≤ c) (hok : ∀ l ∈ xs, lnOk l.cells = true) (hn : fa + la.length + xs.length ≤ 1000000000) (k : Nat) (hk : k = la.length + xs.length - m.toNat) (f2 : Int) (l2 : List Ln) (hf : fa + k = f2) (hl : (la ++ xs).drop k = l2) :
    Calls Tryd.prog 18 #[.pointer (some ⟨hb, 0, none⟩), v] X fun e w' => e = .returned (.int .i64 0) ∧ Hi2 w w' hb gb m f2 l2 fb lb := by
  subst hf hl
  obtain ⟨FA, FB, h1, h2, h3, h4, h5⟩ := h
  refine ((h1.sees hX).push ht v xs hv (fun c hc hF => ?_) hok hn k hk).mono ?_
  · have := hG c hc
    have := h1.low c hF
    have := h4 c hF
    omega
  rintro e w' ⟨rfl, hp, hk⟩
  have hz := hk.size
  have hz2 := hX.size
  exact ⟨rfl, _, FB, hp.cut, (h2.sees hX).keeps hk (fun c hb ha => h3 c ha hb) (fun c hc => h1.low c hc), fun c hc hb => by
    have := h5 c hb
    rcases hc.1 with h | h
    · exact h3 c h hb
    · omega, fun c hc => hc.2, fun c hc => by have := h5 c hc; omega⟩
theorem pulls (h : Hi2 w W hb gb m fa la fb lb) (n : Nat) (hn : n ≤ la.length) (hn2 : n ≤ 1000000) (ws : List Ln) (hws : la.drop (la.length - n) = ws) (u : Value) (hu : RdL (fun b => b < w.heap.size) W u ws) :
    Calls Tryd.prog 28 #[.pointer (some ⟨hb, 0, none⟩), .int .i64 n, .int .i64 0, u] W fun e w' => e = .returned (.bool true) ∧ Sees w w' := by
  subst hws
  obtain ⟨FA, FB, h1, h2, h3, h4, h5⟩ := h
  refine (hpulls_true FA (fun w' => Sees w w') (fun b => b < w.heap.size) _ n 0 u (la.drop (la.length - n)) W (by rw [List.length_drop]; omega) (fun l hl => h1.lenc l (List.mem_of_mem_drop hl)) (by obtain ⟨a, c, e, _⟩ := hu; exact ⟨a, _, c, e⟩) (fun W W' h hs => h.trans hs) ((h1.pull n hn hn2).mono ?_)).mono ?_
  · rintro e w' ⟨v, F', rfl, k1, k2, k3, k4⟩
    exact ⟨v, rfl, k1.mono (fun _ _ _ => trivial), hu.keeps k3 (fun c hc e => by have := h1.low c e; omega), k3, k2.see⟩
  · rintro e w' ⟨rfl, k1, _⟩
    exact ⟨rfl, k1⟩
end Hi2
end Go.Proofs.YtpicffaghoggdaaDoor
