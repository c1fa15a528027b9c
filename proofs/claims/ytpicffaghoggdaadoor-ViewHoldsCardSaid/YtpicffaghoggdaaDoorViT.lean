/- The theorem of stage 32: ViewHolds. No condition. -/
import Derived.Test.YtpicffaghoggdaaDoorViR
namespace Go.Proofs.YtpicffaghoggdaaDoor
set_option linter.unusedVariables false
set_option linter.unusedSimpArgs false
open Go.RowKit

/-- What is seen before and behind a push: the same lines. -/
theorem seen_same (ls xs ss : List Ln) (q r k i : Nat) (hq : q ≤ ls.length) (hk : k ≤ ls.length - q) (hi : i < r) (hiq : i < q) :
    ((ls.drop (ls.length - q) ++ ss).take r)[i]? = ((((ls ++ xs).drop k).drop (((ls ++ xs).drop k).length - (q + xs.length)) ++ ss).take r)[i]? := by
  rw [List.getElem?_take, if_pos hi, List.getElem?_take, if_pos hi, List.getElem?_append_left (by rw [List.length_drop]; omega), List.getElem?_append_left (by simp only [List.length_drop, List.length_append]; omega)]
  rw [List.getElem?_drop, List.drop_drop, List.getElem?_drop, List.length_drop, List.length_append, show k + (ls.length + xs.length - k - (q + xs.length)) + i = ls.length - q + i by omega, List.getElem?_append_left (by omega)]
/-- A view, a history, a screen, and lines that are read besides. -/
def ViSx (w1 W : World) (vb hb rows back : Nat) (most first : Int) (ls : List Ln) (sv : Value) (ss : List Ln) (xv : Value) (xs : List Ln) : Prop :=
  ∃ F S : Nat → Prop, HiF w1 F W hb most first ls ∧ VwAt W vb rows back ∧ lnEl.Rd S W sv ss ∧ lnEl.Rd S W xv xs ∧ (∀ c, F c → c ≠ vb ∧ c < W.heap.size ∧ ¬ S c) ∧ (∀ c, S c → c ≠ vb ∧ c < W.heap.size) ∧ w1.heap.size ≤ vb ∧ 1 ≤ rows ∧ rows ≤ 1000 ∧ back ≤ 1048576
section
variable {w1 W W' : World} {vb hb rows back : Nat} {most first : Int} {ls ss xs : List Ln} {sv xv : Value}
namespace ViSx
theorem st (h : ViSx w1 W vb hb rows back most first ls sv ss xv xs) : ViSt w1 W vb hb rows back most first ls sv ss := by
  obtain ⟨F, S, h1, h2, h3, h4, h5⟩ := h
  exact ⟨F, S, h1, h2, h3, h5⟩
theorem rd (h : ViSx w1 W vb hb rows back most first ls sv ss xv xs) : lnEl.Rd (fun _ => True) W xv xs := by
  obtain ⟨F, S, h1, h2, h3, h4, h5⟩ := h
  exact h4.mono (fun _ _ _ => trivial)
theorem of (h : ViSt w1 W vb hb rows back most first ls sv ss) (hs : Sees W W') (hx : lnEl.Rd (fun c => W.heap.size ≤ c) W' xv xs) : ViSx w1 W' vb hb rows back most first ls sv ss xv xs := by
  obtain ⟨F, S, h1, h2, h3, h4, h5, h6⟩ := h
  have hz := hs.size
  refine ⟨F, fun c => (S c ∨ W.heap.size ≤ c) ∧ c < W'.heap.size, h1.sees hs, h2.sees hs, (h3.sees hs).mono (fun c hc h => ⟨.inl h, hc⟩), hx.mono (fun c hc h => ⟨.inr h, hc⟩), fun c hc => ⟨(h4 c hc).1, by have := (h4 c hc).2.1; omega, fun e => ?_⟩, fun c hc => ⟨?_, hc.2⟩, h6⟩
  · rcases e.1 with e | e
    · exact (h4 c hc).2.2 e
    · have := (h4 c hc).2.1; omega
  · rcases hc.1 with e | e
    · exact (h5 c e).1
    · intro q; have := h2.lt; omega
theorem sees (h : ViSx w1 W vb hb rows back most first ls sv ss xv xs) (hs : Sees W W') : ViSx w1 W' vb hb rows back most first ls sv ss xv xs := by
  obtain ⟨F, S, h1, h2, h3, hx, h4, h5, h6⟩ := h
  exact ⟨F, S, h1.sees hs, h2.sees hs, h3.sees hs, hx.sees hs, fun c hc => ⟨(h4 c hc).1, Nat.lt_of_lt_of_le (h4 c hc).2.1 hs.size, (h4 c hc).2.2⟩, fun c hc => ⟨(h5 c hc).1, Nat.lt_of_lt_of_le (h5 c hc).2 hs.size⟩, h6⟩
theorem push (h : ViSx w1 W vb hb rows back most first ls sv ss xv xs) (hs : Sees W W') (ht : Tabs w1) (u : Value) (ys : List Ln) (hu : lnEl.Rd (fun c => W.heap.size ≤ c) W' u ys) (hok : ∀ l ∈ ys, lnOk l.cells = true) (hn : first + ls.length + ys.length ≤ 1000000000) (k : Nat) (hk : k = ls.length + ys.length - most.toNat) :
    Calls Tryd.prog 18 #[.pointer (some ⟨hb, 0, none⟩), u] W' fun e w' => e = .returned (.int .i64 0) ∧ ViSx w1 w' vb hb rows back most (first + k) ((ls ++ ys).drop k) sv ss xv xs := by
  obtain ⟨F, S, g1, g2, g3, gx, g4, g5, g6⟩ := h
  refine ((g1.sees hs).push ht u ys hu (fun c hc e => by have := (g4 c e).2.1; omega) hok hn k hk).mono ?_
  rintro e w' ⟨rfl, hp, hkk⟩
  refine ⟨rfl, _, S, hp.cut, (g2.sees hs).keeps hkk (fun e => (g4 _ e).1 rfl), (g3.sees hs).keeps hkk (fun c hc e => (g4 c e).2.2 hc), (gx.sees hs).keeps hkk (fun c hc e => (g4 c e).2.2 hc), fun c hc => ?_, fun c hc => ⟨(g5 c hc).1, Nat.lt_of_lt_of_le (g5 c hc).2 (Nat.le_trans hs.size hkk.size)⟩, g6⟩
  have hz := hs.size
  rcases hc.1 with e | e
  · exact ⟨(g4 c e).1, hc.2, (g4 c e).2.2⟩
  · exact ⟨fun q => by have := g2.lt; omega, hc.2, fun q => by have := (g5 c q).2; omega⟩
theorem pushed (h : ViSx w1 W vb hb rows back most first ls sv ss xv xs) (n : Int) (hn : 0 ≤ n) (k : Nat) (hk : clampV (if 0 < back then back + min n 1048576 else 0) ls.length = k) :
    Calls Tryd.prog 44 #[.pointer (some ⟨vb, 0, none⟩), .int .i64 n, .pointer (some ⟨hb, 0, none⟩)] W fun e w' => e = .returned (.int .i64 0) ∧ ViSx w1 w' vb hb rows k most first ls sv ss xv xs := by
  have fa := h.st.facts
  obtain ⟨F, S, g1, g2, g3, gx, g4, g5, g6, g7, g8, g9⟩ := h
  have hk9 : k ≤ 1048576 := by unfold clampV at hk; omega
  have go : ∀ w', VwAt w' vb rows k → Keeps (fun c => c = vb) W w' → ViSx w1 w' vb hb rows k most first ls sv ss xv xs := fun w' hv hk => ⟨F, S, g1.keeps hk (fun c hc => (g4 c hc).1) (fun c e => by have e : c = vb := e; rw [e]; exact g6), hv, g3.keeps hk (fun c hc => (g5 c hc).1), gx.keeps hk (fun c hc => (g5 c hc).1), fun c hc => ⟨(g4 c hc).1, Nat.lt_of_lt_of_le (g4 c hc).2.1 hk.size, (g4 c hc).2.2⟩, fun c hc => ⟨(g5 c hc).1, Nat.lt_of_lt_of_le (g5 c hc).2 hk.size⟩, g6, g7, g8, hk9⟩
  by_cases hb0 : 0 < back
  · rw [if_pos hb0] at hk
    refine (vpushed_pos g1 vb rows back n k g2 (by omega) (fun c hc => (g4 c hc).1) g6 hn (by omega) (by omega) _ rfl hk).mono ?_
    rintro e w' ⟨rfl, hv, hk'⟩
    exact ⟨rfl, go _ hv hk'⟩
  · rw [if_neg hb0] at hk
    refine (vpushed_zero g1 vb rows back n k g2 (by omega) (fun c hc => (g4 c hc).1) g6 hn (by omega) (by omega) (by rw [show (back : Int) = 0 by omega]; exact hk)).mono ?_
    rintro e w' ⟨rfl, hv, hk'⟩
    exact ⟨rfl, go _ hv hk'⟩
end ViSx
end
set_option maxRecDepth 1000000 in
set_option maxHeartbeats 8000000 in
theorem viewHolds_A (m q p r : Nat) (w : World) (ht : Tabs w) (hm : m ≤ 20) (hq : q ≤ m) (hp : p ≤ 6) (hr1 : 1 ≤ r) (hr : r ≤ 9) (k b2 : Nat) (hk : k = m + p - 20) (h0 : 0 < q) (h1 : k ≤ m - q) (hb2 : b2 ≤ q + p) (hb3 : q + p ≤ b2) :
    Calls Tryd.prog 9 #[.int .u8 m, .int .u8 q, .int .u8 p, .int .u8 r] w fun e w' => e = .returned (.bool true) ∧ Sees w w' := by
  have Ht := Lib.hid ht
  have Hkk := Lib.hid hk
  have hkm : k ≤ 6 := by omega
  have hkp : k ≤ m + p := by omega
  have hb2n : b2 ≤ m + p - k := by first | omega | exact clampV_le hb2
  have c2 : decide ((q : Int) > 0) = true := decide_eq_true (by omega)
  have Hb2 : Hid (b2 = q + p) := Lib.hid (by omega)
  clear ht
  have d1 : decide ((m : Int) > 20) = false := decide_eq_false (by omega)
  have d2 : decide ((q : Int) > (m : Int)) = false := decide_eq_false (by omega)
  have d3 : decide ((p : Int) > 6) = false := decide_eq_false (by omega)
  have d4 : decide ((r : Int) < 1) = false := decide_eq_false (by omega)
  have d5 : decide ((r : Int) > 9) = false := decide_eq_false (by omega)
  have gr : IntKind.i64.wrap (r : Int) = (r : Int) := IntWalk.i64_in _ (by omega)
  have gq : IntKind.i64.wrap (q : Int) = (q : Int) := IntWalk.i64_in _ (by omega)
  have gm : IntKind.i64.wrap (m : Int) = (m : Int) := IntWalk.i64_in _ (by omega)
  have gp : IntKind.i64.wrap (p : Int) = (p : Int) := IntWalk.i64_in _ (by omega)
  have gz : IntKind.i64.wrap (-(m : Int)) = -(m : Int) := IntWalk.i64_in _ (by omega)
  have gz2 : IntKind.i64.wrap (-(m : Int) - 10) = -(m : Int) - 10 := IntWalk.i64_in _ (by omega)
  obtain ⟨s, hs⟩ : ∃ s, s = (ByteArray.mk #[97, 98, 99, 100, 101, 102, 103, 104, 105, 106, 107, 108, 109, 110, 111, 112, 113, 114, 115, 116]).extract 0 m := ⟨_, rfl⟩
  obtain ⟨t, ht⟩ : ∃ t, t = (ByteArray.mk #[49, 50, 51, 52, 53, 54, 55, 56, 57]).extract 0 r := ⟨_, rfl⟩
  obtain ⟨u, hu⟩ : ∃ u, u = (ByteArray.mk #[117, 118, 119, 120, 121, 122]).extract 0 p := ⟨_, rfl⟩
  have Hsl : Hid ((rowsOf s).length = m) := Lib.hid (by rw [hs]; exact rows32_size _ _ hm)
  have Htl : Hid ((rowsOf t).length = r) := Lib.hid (by rw [ht]; exact rows32_size _ _ hr)
  have Hul : Hid ((rowsOf u).length = p) := Lib.hid (by rw [hu]; exact rows32_size _ _ hp)
  have Hss : Hid (s.size ≤ 1000) := Lib.hid (by rw [hs, extract_size _ _ hm]; omega)
  have Hts : Hid (t.size ≤ 1000) := Lib.hid (by rw [ht, extract_size _ _ hr]; omega)
  have Hus : Hid (u.size ≤ 1000) := Lib.hid (by rw [hu, extract_size _ _ hp]; omega)
  have Hok : Hid (∀ l ∈ rowsOf s, lnOk l.cells = true) := Lib.hid (by rw [hs]; exact rows32_take _ _ (by kernel_rfl))
  have Hoku : Hid (∀ l ∈ rowsOf u, lnOk l.cells = true) := Lib.hid (by rw [hu]; exact rows32_take _ _ (by kernel_rfl))
  have hX1 : ∀ W, (Instr.sliceAt 9 (.string ⟨#[97, 98, 99, 100, 101, 102, 103, 104, 105, 106, 107, 108, 109, 110, 111, 112, 113, 114, 115, 116]⟩) none (some (.int .u8 m)) none).run Tryd.prog W = .ok (.string s) W := by rw [hs]; exact cut_const _ m hm
  have hX2 : ∀ W, (Instr.sliceAt 9 (.string ⟨#[49, 50, 51, 52, 53, 54, 55, 56, 57]⟩) none (some (.int .u8 r)) none).run Tryd.prog W = .ok (.string t) W := by rw [ht]; exact cut_const _ r hr
  have hX3 : ∀ W, (Instr.sliceAt 9 (.string ⟨#[117, 118, 119, 120, 121, 122]⟩) none (some (.int .u8 p)) none).run Tryd.prog W = .ok (.string u) W := by rw [hu]; exact cut_const _ p hp
  clear hs ht hu hk
  go_enter Tryd.func9, Tryd.ntmps9
  go_wp2_with fail
  refine (list32_any s w Hss.out).mono ?_
  rintro e wa ⟨v0, rfl, o0, s0⟩
  obtain ⟨a0, c0, rfl, _⟩ := o0.slice
  rw [Hsl.out] at o0 ⊢
  have O0 := Lib.hid o0
  have S0 := Lib.hid s0
  clear o0 s0
  go_wp2_with fail
  refine (made32_any 20 _ (rowsOf s) (fun _ => True) wa (Ht.out.sees S0.out) (by decide) (by decide) (O0.out.rd.mono (fun _ _ _ => trivial)) Hok.out (by rw [Hsl.out]; omega) 0 (by rw [Hsl.out]; simp; omega)).mono ?_
  rintro e wb ⟨hb, rfl, P⟩
  have P0 : Hid (HiF wa (fun c => wa.heap.size ≤ c) wb hb 20 0 (rowsOf s)) := Lib.hid P
  clear P
  go_wp2_with fail
  refine (vnew_ok r wb (by omega) (by omega)).mono ?_
  rintro e wc ⟨rfl, hv, hs⟩
  have Q0 : Hid (ViSt wa wc wb.heap.size hb r 0 20 0 (rowsOf s) (.slice none 0 0) []) := Lib.hid (ViSt.start P0.out hv hs hr1 (by omega))
  have HT : Hid (Tabs wa) := Lib.hid (Ht.out.sees S0.out)
  generalize wb.heap.size = vb at *
  clear hv hs P0 O0 Ht
  go_wp2_with fail
  refine (list32_any t wc Hts.out).mono ?_
  rintro e W0 ⟨v1, rfl, o1, s1⟩
  obtain ⟨a1, c1, rfl, _⟩ := o1.slice
  rw [Htl.out] at o1 ⊢
  have H0 : Hid (ViSt wa W0 vb hb r 0 20 0 (rowsOf s) (.slice a1 r c1) (rowsOf t)) := Lib.hid (Q0.out.screen s1 o1.rd)
  clear o1 s1 Q0
  go_wp2_with fail
  refine (H0.out.seen 0 (by rw [Hsl.out]; unfold clampV; omega) Htl.out (rows32_cells _) (m : Int) (by rw [Hsl.out]; omega) _ _ (rowsOf t) H0.out.scr (by rw [Nat.sub_zero, List.drop_length, List.nil_append, List.take_of_length_le (by rw [Htl.out]; exact Nat.le_refl _)])).mono ?_
  rintro e W1 ⟨rfl, hs⟩
  have H1 := Lib.hid (H0.out.sees hs)
  clear hs H0
  go_wp2_with fail
  refine (H1.out.scroll (q : Int) q (by rw [Hsl.out]; unfold clampV; omega)).mono ?_
  rintro e W2 ⟨rfl, hs⟩
  have H2 := Lib.hid hs
  clear hs H1
  obtain ⟨n1, hn1⟩ : ∃ n1 : Int, n1 = (m : Int) - q := ⟨_, rfl⟩
  have Hn1 := Lib.hid hn1
  clear hn1
  go_wp2_with fail
  refine (H2.out.lines q (by rw [Hsl.out]; unfold clampV; omega) Htl.out (rows32_cells _) n1 (by rw [Hsl.out, Hn1.out]; omega)).mono ?_
  rintro e W3 ⟨vl, rfl, ho, hs⟩
  obtain ⟨L, hL⟩ : ∃ L, L = ((rowsOf s).drop ((rowsOf s).length - q) ++ rowsOf t).take r := ⟨_, rfl⟩
  rw [← hL] at ho
  have hLn : L.length = r := by rw [hL, List.length_take, List.length_append, List.length_drop, Htl.out]; omega
  obtain ⟨al, cl, rfl, _⟩ := ho.slice
  rw [hLn]
  rw [hLn] at ho
  have HLn := Lib.hid hLn
  have HL := Lib.hid hL
  have H3 : Hid (ViSx wa W3 vb hb r q 20 0 (rowsOf s) (.slice a1 r c1) (rowsOf t) (.slice al r cl) L) := Lib.hid (ViSx.of H2.out hs ho.rd)
  clear ho hs hL hLn H2
  go_wp2_with fail
  refine (list32_any u W3 Hus.out).mono ?_
  rintro e W4 ⟨v3, rfl, o3, s3⟩
  obtain ⟨a3, c3, rfl, _⟩ := o3.slice
  rw [Hul.out] at o3 ⊢
  have O3 := Lib.hid o3
  have S3 := Lib.hid s3
  clear o3 s3
  go_wp2_with fail
  refine (H3.out.push S3.out HT.out _ (rowsOf u) O3.out.rd Hoku.out (by rw [Hsl.out, Hul.out]; omega) k (by rw [Hsl.out, Hul.out]; exact Hkk.out)).mono ?_
  rintro e W5 ⟨rfl, hs⟩
  obtain ⟨ls, hls⟩ : ∃ ls, ls = ((rowsOf s ++ rowsOf u).drop k) := ⟨_, rfl⟩
  have Hll : Hid (ls.length = m + p - k) := Lib.hid (by rw [hls, List.length_drop, List.length_append, Hsl.out, Hul.out])
  rw [← hls, Int.zero_add] at hs
  have H5 : Hid (ViSx wa W5 vb hb r q 20 k ls (.slice a1 r c1) (rowsOf t) (.slice al r cl) L) := Lib.hid hs
  have Hls := Lib.hid hls
  clear hs hls O3
  go_wp2_with fail
  refine (H5.out.pushed (p : Int) (by omega) b2 (by rw [Hll.out]; rw [if_pos h0]; unfold clampV; omega)).mono ?_
  rintro e W6 ⟨rfl, hs⟩
  have H6 := Lib.hid hs
  clear hs
  obtain ⟨n2, hn2⟩ : ∃ n2 : Int, n2 = (m : Int) + p - b2 := ⟨_, rfl⟩
  have Hn2 := Lib.hid hn2
  clear hn2
  go_wp2_with fail
  refine (H6.out.st.lines b2 (by rw [Hll.out]; unfold clampV; omega) Htl.out (rows32_cells _) n1 (by rw [Hll.out, Hn1.out]; omega)).mono ?_
  rintro e W7 ⟨vx, rfl, ho2, hs⟩
  obtain ⟨X, hX⟩ : ∃ X, X = (ls.drop (ls.length - b2) ++ rowsOf t).take r := ⟨_, rfl⟩
  rw [← hX] at ho2
  have hXn : X.length = r := by rw [hX, List.length_take, List.length_append, List.length_drop, Htl.out]; omega
  obtain ⟨ax, cx, rfl, _⟩ := ho2.slice
  rw [hXn]
  rw [hXn] at ho2
  have HXn := Lib.hid hXn
  have HXX := Lib.hid hX
  have HO2 := Lib.hid ho2.rd
  have H7 := Lib.hid (H6.out.sees hs)
  clear ho2 hs hX hXn
  go_wp2_with fail
  refine (H7.out.st.first_is).mono ?_
  rintro e W8 ⟨rfl, hs⟩
  have H8 := Lib.hid (H7.out.st.sees hs)
  have Y1 := Lib.hid ((H7.out.sees hs).rd)
  have Y2 := Lib.hid (HO2.out.sees hs)
  clear hs H7
  have e1 : decide (n1 ≥ (k : Int)) = true := decide_eq_true (by rw [Hn1.out]; omega)
  go_wp2_with fail
  go_loopw [17] (fun i W => ∃ j : Nat, j ≤ r ∧ j ≤ q ∧ i = .int .i64 j ∧ Sees W8 W) (fun i _ => r - (intOf i).toNat)
  case atStart => exact ⟨0, by omega, by omega, rfl, Sees.refl _⟩
  case round =>
    obtain ⟨j, hj, hjq, rfl, hS⟩ := hrel
    have S9 := Lib.hid hS
    clear hS
    by_cases hlt : j < r
    · by_cases hlq : j < q
      · obtain ⟨g1, o1, l, a4, c4, rfl, _, hl, _, x1, x2, x3⟩ := (Y1.out.sees S9.out).line hlt
        obtain ⟨g2, o2, l2, a5, c5, rfl, _, hl2, _, z1, z2, z3⟩ := (Y2.out.sees S9.out).line hlt
        have hll : L[j]? = X[j]? := by
          rw [HL.out, HXX.out, Hls.out, Hb2.out]
          have := seen_same (rowsOf s) (rowsOf u) (rowsOf t) q r k j (by rw [Hsl.out]; exact hq) (by rw [Hsl.out]; exact h1) hlt hlq
          rw [Hul.out] at this
          exact this
        rw [hl, hl2] at hll
        obtain rfl : l = l2 := by simpa using hll
        have hlc : l.cells.length ≤ 1000000 := by
          have hm := List.mem_iff_getElem?.2 ⟨_, hl⟩
          rw [HL.out] at hm
          rcases List.mem_append.1 (List.mem_of_mem_take hm) with hm | hm
          · exact rows32_cells _ l (List.mem_of_mem_drop hm)
          · exact rows32_cells _ l hm
        have Hsm : Hid (decide (l = l) = true) := Lib.hid (decide_eq_true rfl)
        generalize hn4 : l.cells.length = n4 at *
        have X1 := Lib.hid x1
        have X2 := Lib.hid x2
        have X3 := Lib.hid x3
        have Z1 := Lib.hid z1
        have Z2 := Lib.hid z2
        have Z3 := Lib.hid z3
        have Hsame : Hid (∀ W, Sees wr W → Calls Tryd.prog 45 #[.agg #[.slice a4 n4 c4, .bool l.soft], .agg #[.slice a5 n4 c5, .bool l.soft]] W fun e w' => e = .returned (.bool true) ∧ Sees W w') := Lib.hid (fun W hs => by
          have := sameLine_any _ _ l l W (X3.out.sees hs).rdCells (Z3.out.sees hs).rdCells (by omega)
          rw [Hsm.out] at this
          exact this)
        clear x1 x2 x3 z1 z2 z3 hl hl2 hll hn4 hlc
        go_wp2_with fail
        refine wpFrom_go (by kernel_rfl) (by kernel_rfl) (fun hB W9 hs9 => ?_)
        have Hsame : Hid (∀ W, Sees W9 W → Calls Tryd.prog 45 #[.agg #[.slice a4 n4 c4, .bool l.soft], .agg #[.slice a5 n4 c5, .bool l.soft]] W fun e w' => e = .returned (.bool true) ∧ Sees W w') := Lib.hid (fun W hs => Hsame.out W (hs9.trans hs))
        have X1 := Lib.hid (hs9.cell X1.out)
        have X2 := Lib.hid (hs9.cell X2.out)
        have Z1 := Lib.hid (hs9.cell Z1.out)
        have Z2 := Lib.hid (hs9.cell Z2.out)
        have S9 := Lib.hid (S9.out.trans hs9)
        clear hs9
        have hval : ∀ x v, (Spec.is x).val v = x := fun _ _ => rfl
        have hval2 : ∀ V v, (Spec.so V).val v = v := fun _ _ => rfl
        have hst : segStay (Sees W9) [.is (.slice (some ⟨g1, o1, none⟩) r cl),
              .is (.int .i64 j),
              .is (.pointer (some ⟨g1, o1 + j * 2, none⟩)),
              .is (.agg #[.slice a4 n4 c4, .bool l.soft]),
              .is (.slice (some ⟨g2, o2, none⟩) r cx),
              .is (.int .i64 j),
              .is (.pointer (some ⟨g2, o2 + j * 2, none⟩)),
              .is (.agg #[.slice a5 n4 c5, .bool l.soft]),
              .is (.bool true),
              .is (.bool false)] :=
            trivial
        refine wpFrom_any 10 _ hB (by kernel_rfl) rfl hst (by simp only [List.cons_append, List.nil_append, List.drop_succ_cons, List.drop_zero, List.take_succ_cons, List.take_zero, Nat.reduceSub]; rfl) ?_
        refine ⟨fun vs W hI hV => .inl ⟨by clear hI hV hst; go_simp, .inl (by clear hI hV hst; (try simp only [Act.put, hval, hval2, List.setIfInBounds_toArray, List.set_cons_zero, List.set_cons_succ]); go_simp)⟩, ?_⟩
        refine ⟨fun vs W hI hV => .inl ⟨by clear hI hV hst; go_simp, .inl (by clear hI hV hst; (try simp only [Act.put, hval, hval2, List.setIfInBounds_toArray, List.set_cons_zero, List.set_cons_succ]); go_simp)⟩, ?_⟩
        refine ⟨fun vs W hI hV => .inl ⟨by clear hI hV hst; go_simp, .inl (by clear hI hV hst; (try simp only [Act.put, hval, hval2, List.setIfInBounds_toArray, List.set_cons_zero, List.set_cons_succ]); go_simp)⟩, ?_⟩
        refine ⟨fun vs W hI hV => .inl ⟨by clear hI hV hst; go_simp, .inl (by have q1 := hI.cell X1.out; have q2 := hI.cell X2.out; clear hI hV hst; (try simp only [Act.put, hval, hval2, List.setIfInBounds_toArray, List.set_cons_zero, List.set_cons_succ]); go_simp)⟩, ?_⟩
        refine ⟨fun vs W hI hV => .inl ⟨by clear hI hV hst; go_simp, .inl (by clear hI hV hst; (try simp only [Act.put, hval, hval2, List.setIfInBounds_toArray, List.set_cons_zero, List.set_cons_succ]); go_simp)⟩, ?_⟩
        refine ⟨fun vs W hI hV => .inl ⟨by clear hI hV hst; go_simp, .inl (by clear hI hV hst; (try simp only [Act.put, hval, hval2, List.setIfInBounds_toArray, List.set_cons_zero, List.set_cons_succ]); go_simp)⟩, ?_⟩
        refine ⟨fun vs W hI hV => .inl ⟨by clear hI hV hst; go_simp, .inl (by clear hI hV hst; (try simp only [Act.put, hval, hval2, List.setIfInBounds_toArray, List.set_cons_zero, List.set_cons_succ]); go_simp)⟩, ?_⟩
        refine ⟨fun vs W hI hV => .inl ⟨by clear hI hV hst; go_simp, .inl (by have q1 := hI.cell Z1.out; have q2 := hI.cell Z2.out; clear hI hV hst; (try simp only [Act.put, hval, hval2, List.setIfInBounds_toArray, List.set_cons_zero, List.set_cons_succ]); go_simp)⟩, ?_⟩
        refine ⟨fun vs W hI hV => .inl ⟨by clear hI hV hst; (try simp only [Act.put, hval, hval2, List.setIfInBounds_toArray, List.set_cons_zero, List.set_cons_succ]); go_simp, .inr (.inr ⟨45, #[.agg #[.slice a4 n4 c4, .bool l.soft], .agg #[.slice a5 n4 c5, .bool l.soft]], by clear hI hV hst; (try simp only [Act.put, hval, hval2, List.setIfInBounds_toArray, List.set_cons_zero, List.set_cons_succ]); go_simp, (Hsame.out W hI)⟩)⟩, ?_⟩
        refine ⟨fun vs W hI hV => .inl ⟨by clear hI hV hst; go_simp, .inl (by clear hI hV hst; (try simp only [Act.put, hval, hval2, List.setIfInBounds_toArray, List.set_cons_zero, List.set_cons_succ]); go_simp)⟩, ?_⟩
        intro vs W10 hI hV
        have S10 := Lib.hid (S9.out.trans hI)
        clear hI hV hst
        (try simp only [Act.put, hval, hval2, List.setIfInBounds_toArray, List.set_cons_zero, List.set_cons_succ])
        go_simp
        refine wpFrom_end rfl ?_
        clear hB
        go_wp2_with fail
        go_roundw
        case rel => exact ⟨j + 1, by omega, by omega, by go_num, S10.out⟩
        case measure => simp [intOf] <;> omega
      · have H9 := Lib.hid (H8.out.sees S9.out)
        clear H8 S9
        go_wp2_with fail
        refine (H9.out.scroll (-(m : Int) - 10) 0 (by rw [Hll.out]; unfold clampV; omega)).mono ?_
        rintro e X1 ⟨rfl, hs⟩
        have I1 := Lib.hid hs
        clear hs H9
        go_wp2_with fail
        refine (I1.out.back_is).mono ?_
        rintro e X2 ⟨rfl, hs⟩
        have I2 := Lib.hid (I1.out.sees hs)
        clear hs I1
        obtain ⟨k3, hk3, hk3m⟩ := clampV_nat (0 + max (min 3 1048576) (-1048576)) (m + p - k)
        have Hk3 := Lib.hid hk3
        have hk3n : k3 ≤ 3 := by unfold clampV at hk3; omega
        clear hk3
        go_wp2_with fail
        refine (I2.out.scroll 3 k3 (by rw [Hll.out]; exact Hk3.out)).mono ?_
        rintro e X3 ⟨rfl, hs⟩
        have I3 := Lib.hid hs
        clear hs I2
        go_wp2_with fail
        refine (I3.out.scroll (-3) 0 (by rw [Hll.out]; unfold clampV; omega)).mono ?_
        rintro e X4 ⟨rfl, hs⟩
        have I4 := Lib.hid hs
        clear hs I3
        obtain ⟨nx, hnx⟩ : ∃ nx : Int, nx = (k : Int) + ((m + p - k : Nat) : Int) := ⟨_, rfl⟩
        have Hnx := Lib.hid hnx
        clear hnx
        go_wp2_with fail
        refine (I4.out.next_is nx (by rw [Hll.out, Hnx.out])).mono ?_
        rintro e X5 ⟨rfl, hs⟩
        have I5 := Lib.hid (I4.out.sees hs)
        clear hs I4
        go_wp2_with fail
        refine (I5.out.seen 0 (by rw [Hll.out]; unfold clampV; omega) Htl.out (rows32_cells _) nx (by rw [Hll.out, Hnx.out]; omega) _ _ (rowsOf t) I5.out.scr (by rw [Nat.sub_zero, List.drop_length, List.nil_append, List.take_of_length_le (by rw [Htl.out]; exact Nat.le_refl _)])).mono ?_
        rintro e X6 ⟨rfl, hs⟩
        have I6 := Lib.hid (I5.out.sees hs)
        clear hs I5
        go_wp2_with fail
        refine (known32 _ (HT.out.sees I6.out.see)).mono ?_
        rintro e X7 ⟨rfl, hs⟩
        go_wp2
        go_ret
        exact ⟨by simp, S0.out.trans (I6.out.see.trans hs)⟩
    · have H9 := Lib.hid (H8.out.sees S9.out)
      clear H8 S9
      go_wp2_with fail
      refine (H9.out.scroll (-(m : Int) - 10) 0 (by rw [Hll.out]; unfold clampV; omega)).mono ?_
      rintro e X1 ⟨rfl, hs⟩
      have I1 := Lib.hid hs
      clear hs H9
      go_wp2_with fail
      refine (I1.out.back_is).mono ?_
      rintro e X2 ⟨rfl, hs⟩
      have I2 := Lib.hid (I1.out.sees hs)
      clear hs I1
      obtain ⟨k3, hk3, hk3m⟩ := clampV_nat (0 + max (min 3 1048576) (-1048576)) (m + p - k)
      have Hk3 := Lib.hid hk3
      have hk3n : k3 ≤ 3 := by unfold clampV at hk3; omega
      clear hk3
      go_wp2_with fail
      refine (I2.out.scroll 3 k3 (by rw [Hll.out]; exact Hk3.out)).mono ?_
      rintro e X3 ⟨rfl, hs⟩
      have I3 := Lib.hid hs
      clear hs I2
      go_wp2_with fail
      refine (I3.out.scroll (-3) 0 (by rw [Hll.out]; unfold clampV; omega)).mono ?_
      rintro e X4 ⟨rfl, hs⟩
      have I4 := Lib.hid hs
      clear hs I3
      obtain ⟨nx, hnx⟩ : ∃ nx : Int, nx = (k : Int) + ((m + p - k : Nat) : Int) := ⟨_, rfl⟩
      have Hnx := Lib.hid hnx
      clear hnx
      go_wp2_with fail
      refine (I4.out.next_is nx (by rw [Hll.out, Hnx.out])).mono ?_
      rintro e X5 ⟨rfl, hs⟩
      have I5 := Lib.hid (I4.out.sees hs)
      clear hs I4
      go_wp2_with fail
      refine (I5.out.seen 0 (by rw [Hll.out]; unfold clampV; omega) Htl.out (rows32_cells _) nx (by rw [Hll.out, Hnx.out]; omega) _ _ (rowsOf t) I5.out.scr (by rw [Nat.sub_zero, List.drop_length, List.nil_append, List.take_of_length_le (by rw [Htl.out]; exact Nat.le_refl _)])).mono ?_
      rintro e X6 ⟨rfl, hs⟩
      have I6 := Lib.hid (I5.out.sees hs)
      clear hs I5
      go_wp2_with fail
      refine (known32 _ (HT.out.sees I6.out.see)).mono ?_
      rintro e X7 ⟨rfl, hs⟩
      go_wp2
      go_ret
      exact ⟨by simp, S0.out.trans (I6.out.see.trans hs)⟩
set_option maxRecDepth 1000000 in
set_option maxHeartbeats 8000000 in
theorem viewHolds_B (m q p r : Nat) (w : World) (ht : Tabs w) (hm : m ≤ 20) (hq : q ≤ m) (hp : p ≤ 6) (hr1 : 1 ≤ r) (hr : r ≤ 9) (k b2 : Nat) (hk : k = m + p - 20) (hb2 : clampV (if 0 < q then (q : Int) + min (p : Int) 1048576 else 0) (m + p - k : Nat) = b2) (h1 : m - q < k) :
    Calls Tryd.prog 9 #[.int .u8 m, .int .u8 q, .int .u8 p, .int .u8 r] w fun e w' => e = .returned (.bool true) ∧ Sees w w' := by
  have Ht := Lib.hid ht
  have Hkk := Lib.hid hk
  have hkm : k ≤ 6 := by omega
  have hkp : k ≤ m + p := by omega
  have hb2n : b2 ≤ m + p - k := by first | omega | exact clampV_le hb2
  have Hb2 := Lib.hid hb2
  clear hb2
  clear ht
  have d1 : decide ((m : Int) > 20) = false := decide_eq_false (by omega)
  have d2 : decide ((q : Int) > (m : Int)) = false := decide_eq_false (by omega)
  have d3 : decide ((p : Int) > 6) = false := decide_eq_false (by omega)
  have d4 : decide ((r : Int) < 1) = false := decide_eq_false (by omega)
  have d5 : decide ((r : Int) > 9) = false := decide_eq_false (by omega)
  have gr : IntKind.i64.wrap (r : Int) = (r : Int) := IntWalk.i64_in _ (by omega)
  have gq : IntKind.i64.wrap (q : Int) = (q : Int) := IntWalk.i64_in _ (by omega)
  have gm : IntKind.i64.wrap (m : Int) = (m : Int) := IntWalk.i64_in _ (by omega)
  have gp : IntKind.i64.wrap (p : Int) = (p : Int) := IntWalk.i64_in _ (by omega)
  have gz : IntKind.i64.wrap (-(m : Int)) = -(m : Int) := IntWalk.i64_in _ (by omega)
  have gz2 : IntKind.i64.wrap (-(m : Int) - 10) = -(m : Int) - 10 := IntWalk.i64_in _ (by omega)
  obtain ⟨s, hs⟩ : ∃ s, s = (ByteArray.mk #[97, 98, 99, 100, 101, 102, 103, 104, 105, 106, 107, 108, 109, 110, 111, 112, 113, 114, 115, 116]).extract 0 m := ⟨_, rfl⟩
  obtain ⟨t, ht⟩ : ∃ t, t = (ByteArray.mk #[49, 50, 51, 52, 53, 54, 55, 56, 57]).extract 0 r := ⟨_, rfl⟩
  obtain ⟨u, hu⟩ : ∃ u, u = (ByteArray.mk #[117, 118, 119, 120, 121, 122]).extract 0 p := ⟨_, rfl⟩
  have Hsl : Hid ((rowsOf s).length = m) := Lib.hid (by rw [hs]; exact rows32_size _ _ hm)
  have Htl : Hid ((rowsOf t).length = r) := Lib.hid (by rw [ht]; exact rows32_size _ _ hr)
  have Hul : Hid ((rowsOf u).length = p) := Lib.hid (by rw [hu]; exact rows32_size _ _ hp)
  have Hss : Hid (s.size ≤ 1000) := Lib.hid (by rw [hs, extract_size _ _ hm]; omega)
  have Hts : Hid (t.size ≤ 1000) := Lib.hid (by rw [ht, extract_size _ _ hr]; omega)
  have Hus : Hid (u.size ≤ 1000) := Lib.hid (by rw [hu, extract_size _ _ hp]; omega)
  have Hok : Hid (∀ l ∈ rowsOf s, lnOk l.cells = true) := Lib.hid (by rw [hs]; exact rows32_take _ _ (by kernel_rfl))
  have Hoku : Hid (∀ l ∈ rowsOf u, lnOk l.cells = true) := Lib.hid (by rw [hu]; exact rows32_take _ _ (by kernel_rfl))
  have hX1 : ∀ W, (Instr.sliceAt 9 (.string ⟨#[97, 98, 99, 100, 101, 102, 103, 104, 105, 106, 107, 108, 109, 110, 111, 112, 113, 114, 115, 116]⟩) none (some (.int .u8 m)) none).run Tryd.prog W = .ok (.string s) W := by rw [hs]; exact cut_const _ m hm
  have hX2 : ∀ W, (Instr.sliceAt 9 (.string ⟨#[49, 50, 51, 52, 53, 54, 55, 56, 57]⟩) none (some (.int .u8 r)) none).run Tryd.prog W = .ok (.string t) W := by rw [ht]; exact cut_const _ r hr
  have hX3 : ∀ W, (Instr.sliceAt 9 (.string ⟨#[117, 118, 119, 120, 121, 122]⟩) none (some (.int .u8 p)) none).run Tryd.prog W = .ok (.string u) W := by rw [hu]; exact cut_const _ p hp
  clear hs ht hu hk
  go_enter Tryd.func9, Tryd.ntmps9
  go_wp2_with fail
  refine (list32_any s w Hss.out).mono ?_
  rintro e wa ⟨v0, rfl, o0, s0⟩
  obtain ⟨a0, c0, rfl, _⟩ := o0.slice
  rw [Hsl.out] at o0 ⊢
  have O0 := Lib.hid o0
  have S0 := Lib.hid s0
  clear o0 s0
  go_wp2_with fail
  refine (made32_any 20 _ (rowsOf s) (fun _ => True) wa (Ht.out.sees S0.out) (by decide) (by decide) (O0.out.rd.mono (fun _ _ _ => trivial)) Hok.out (by rw [Hsl.out]; omega) 0 (by rw [Hsl.out]; simp; omega)).mono ?_
  rintro e wb ⟨hb, rfl, P⟩
  have P0 : Hid (HiF wa (fun c => wa.heap.size ≤ c) wb hb 20 0 (rowsOf s)) := Lib.hid P
  clear P
  go_wp2_with fail
  refine (vnew_ok r wb (by omega) (by omega)).mono ?_
  rintro e wc ⟨rfl, hv, hs⟩
  have Q0 : Hid (ViSt wa wc wb.heap.size hb r 0 20 0 (rowsOf s) (.slice none 0 0) []) := Lib.hid (ViSt.start P0.out hv hs hr1 (by omega))
  have HT : Hid (Tabs wa) := Lib.hid (Ht.out.sees S0.out)
  generalize wb.heap.size = vb at *
  clear hv hs P0 O0 Ht
  go_wp2_with fail
  refine (list32_any t wc Hts.out).mono ?_
  rintro e W0 ⟨v1, rfl, o1, s1⟩
  obtain ⟨a1, c1, rfl, _⟩ := o1.slice
  rw [Htl.out] at o1 ⊢
  have H0 : Hid (ViSt wa W0 vb hb r 0 20 0 (rowsOf s) (.slice a1 r c1) (rowsOf t)) := Lib.hid (Q0.out.screen s1 o1.rd)
  clear o1 s1 Q0
  go_wp2_with fail
  refine (H0.out.seen 0 (by rw [Hsl.out]; unfold clampV; omega) Htl.out (rows32_cells _) (m : Int) (by rw [Hsl.out]; omega) _ _ (rowsOf t) H0.out.scr (by rw [Nat.sub_zero, List.drop_length, List.nil_append, List.take_of_length_le (by rw [Htl.out]; exact Nat.le_refl _)])).mono ?_
  rintro e W1 ⟨rfl, hs⟩
  have H1 := Lib.hid (H0.out.sees hs)
  clear hs H0
  go_wp2_with fail
  refine (H1.out.scroll (q : Int) q (by rw [Hsl.out]; unfold clampV; omega)).mono ?_
  rintro e W2 ⟨rfl, hs⟩
  have H2 := Lib.hid hs
  clear hs H1
  obtain ⟨n1, hn1⟩ : ∃ n1 : Int, n1 = (m : Int) - q := ⟨_, rfl⟩
  have Hn1 := Lib.hid hn1
  clear hn1
  go_wp2_with fail
  refine (H2.out.lines q (by rw [Hsl.out]; unfold clampV; omega) Htl.out (rows32_cells _) n1 (by rw [Hsl.out, Hn1.out]; omega)).mono ?_
  rintro e W3 ⟨vl, rfl, ho, hs⟩
  obtain ⟨L, hL⟩ : ∃ L, L = ((rowsOf s).drop ((rowsOf s).length - q) ++ rowsOf t).take r := ⟨_, rfl⟩
  rw [← hL] at ho
  have hLn : L.length = r := by rw [hL, List.length_take, List.length_append, List.length_drop, Htl.out]; omega
  obtain ⟨al, cl, rfl, _⟩ := ho.slice
  rw [hLn]
  rw [hLn] at ho
  have HLn := Lib.hid hLn
  have HL := Lib.hid hL
  have H3 : Hid (ViSx wa W3 vb hb r q 20 0 (rowsOf s) (.slice a1 r c1) (rowsOf t) (.slice al r cl) L) := Lib.hid (ViSx.of H2.out hs ho.rd)
  clear ho hs hL hLn H2
  go_wp2_with fail
  refine (list32_any u W3 Hus.out).mono ?_
  rintro e W4 ⟨v3, rfl, o3, s3⟩
  obtain ⟨a3, c3, rfl, _⟩ := o3.slice
  rw [Hul.out] at o3 ⊢
  have O3 := Lib.hid o3
  have S3 := Lib.hid s3
  clear o3 s3
  go_wp2_with fail
  refine (H3.out.push S3.out HT.out _ (rowsOf u) O3.out.rd Hoku.out (by rw [Hsl.out, Hul.out]; omega) k (by rw [Hsl.out, Hul.out]; exact Hkk.out)).mono ?_
  rintro e W5 ⟨rfl, hs⟩
  obtain ⟨ls, hls⟩ : ∃ ls, ls = ((rowsOf s ++ rowsOf u).drop k) := ⟨_, rfl⟩
  have Hll : Hid (ls.length = m + p - k) := Lib.hid (by rw [hls, List.length_drop, List.length_append, Hsl.out, Hul.out])
  rw [← hls, Int.zero_add] at hs
  have H5 : Hid (ViSx wa W5 vb hb r q 20 k ls (.slice a1 r c1) (rowsOf t) (.slice al r cl) L) := Lib.hid hs
  have Hls := Lib.hid hls
  clear hs hls O3
  go_wp2_with fail
  refine (H5.out.pushed (p : Int) (by omega) b2 (by rw [Hll.out]; exact Hb2.out)).mono ?_
  rintro e W6 ⟨rfl, hs⟩
  have H6 := Lib.hid hs
  clear hs
  obtain ⟨n2, hn2⟩ : ∃ n2 : Int, n2 = (m : Int) + p - b2 := ⟨_, rfl⟩
  have Hn2 := Lib.hid hn2
  clear hn2
  go_wp2_with fail
  refine (H6.out.st.lines b2 (by rw [Hll.out]; unfold clampV; omega) Htl.out (rows32_cells _) n2 (by rw [Hll.out, Hn2.out]; omega)).mono ?_
  rintro e W7 ⟨vx, rfl, ho2, hs⟩
  obtain ⟨X, hX⟩ : ∃ X, X = (ls.drop (ls.length - b2) ++ rowsOf t).take r := ⟨_, rfl⟩
  rw [← hX] at ho2
  have hXn : X.length = r := by rw [hX, List.length_take, List.length_append, List.length_drop, Htl.out]; omega
  obtain ⟨ax, cx, rfl, _⟩ := ho2.slice
  rw [hXn]
  rw [hXn] at ho2
  have HXn := Lib.hid hXn
  have HXX := Lib.hid hX
  have HO2 := Lib.hid ho2.rd
  have H7 := Lib.hid (H6.out.sees hs)
  clear ho2 hs hX hXn
  go_wp2_with fail
  refine (H7.out.st.first_is).mono ?_
  rintro e W8 ⟨rfl, hs⟩
  have H8 := Lib.hid (H7.out.st.sees hs)
  have Y1 := Lib.hid ((H7.out.sees hs).rd)
  clear hs H7
  have e1 : decide (n1 ≥ (k : Int)) = false := decide_eq_false (by rw [Hn1.out]; omega)
  go_wp2_with fail
  refine (H8.out.scroll (-(m : Int) - 10) 0 (by rw [Hll.out]; unfold clampV; omega)).mono ?_
  rintro e X1 ⟨rfl, hs⟩
  have I1 := Lib.hid hs
  clear hs H8
  go_wp2_with fail
  refine (I1.out.back_is).mono ?_
  rintro e X2 ⟨rfl, hs⟩
  have I2 := Lib.hid (I1.out.sees hs)
  clear hs I1
  obtain ⟨k3, hk3, hk3m⟩ := clampV_nat (0 + max (min 3 1048576) (-1048576)) (m + p - k)
  have Hk3 := Lib.hid hk3
  have hk3n : k3 ≤ 3 := by unfold clampV at hk3; omega
  clear hk3
  go_wp2_with fail
  refine (I2.out.scroll 3 k3 (by rw [Hll.out]; exact Hk3.out)).mono ?_
  rintro e X3 ⟨rfl, hs⟩
  have I3 := Lib.hid hs
  clear hs I2
  go_wp2_with fail
  refine (I3.out.scroll (-3) 0 (by rw [Hll.out]; unfold clampV; omega)).mono ?_
  rintro e X4 ⟨rfl, hs⟩
  have I4 := Lib.hid hs
  clear hs I3
  obtain ⟨nx, hnx⟩ : ∃ nx : Int, nx = (k : Int) + ((m + p - k : Nat) : Int) := ⟨_, rfl⟩
  have Hnx := Lib.hid hnx
  clear hnx
  go_wp2_with fail
  refine (I4.out.next_is nx (by rw [Hll.out, Hnx.out])).mono ?_
  rintro e X5 ⟨rfl, hs⟩
  have I5 := Lib.hid (I4.out.sees hs)
  clear hs I4
  go_wp2_with fail
  refine (I5.out.seen 0 (by rw [Hll.out]; unfold clampV; omega) Htl.out (rows32_cells _) nx (by rw [Hll.out, Hnx.out]; omega) _ _ (rowsOf t) I5.out.scr (by rw [Nat.sub_zero, List.drop_length, List.nil_append, List.take_of_length_le (by rw [Htl.out]; exact Nat.le_refl _)])).mono ?_
  rintro e X6 ⟨rfl, hs⟩
  have I6 := Lib.hid (I5.out.sees hs)
  clear hs I5
  go_wp2_with fail
  refine (known32 _ (HT.out.sees I6.out.see)).mono ?_
  rintro e X7 ⟨rfl, hs⟩
  go_wp2
  go_ret
  exact ⟨by simp, S0.out.trans (I6.out.see.trans hs)⟩
set_option maxRecDepth 1000000 in
set_option maxHeartbeats 8000000 in
theorem viewHolds_C (m q p r : Nat) (w : World) (ht : Tabs w) (hm : m ≤ 20) (hq : q ≤ m) (hp : p ≤ 6) (hr1 : 1 ≤ r) (hr : r ≤ 9) (k b2 : Nat) (hk : k = m + p - 20) (hb2 : clampV (if 0 < q then (q : Int) + min (p : Int) 1048576 else 0) (m + p - k : Nat) = b2) (h0 : q = 0) (h1 : k ≤ m - q) :
    Calls Tryd.prog 9 #[.int .u8 m, .int .u8 q, .int .u8 p, .int .u8 r] w fun e w' => e = .returned (.bool true) ∧ Sees w w' := by
  have Ht := Lib.hid ht
  have Hkk := Lib.hid hk
  have hkm : k ≤ 6 := by omega
  have hkp : k ≤ m + p := by omega
  have hb2n : b2 ≤ m + p - k := by first | omega | exact clampV_le hb2
  have Hb2 := Lib.hid hb2
  have c2 : decide ((q : Int) > 0) = false := decide_eq_false (by omega)
  have c3 : ¬ (0 < q) := by omega
  have c4 : decide (0 < q) = false := decide_eq_false c3
  clear hb2 h0
  clear ht
  have d1 : decide ((m : Int) > 20) = false := decide_eq_false (by omega)
  have d2 : decide ((q : Int) > (m : Int)) = false := decide_eq_false (by omega)
  have d3 : decide ((p : Int) > 6) = false := decide_eq_false (by omega)
  have d4 : decide ((r : Int) < 1) = false := decide_eq_false (by omega)
  have d5 : decide ((r : Int) > 9) = false := decide_eq_false (by omega)
  have gr : IntKind.i64.wrap (r : Int) = (r : Int) := IntWalk.i64_in _ (by omega)
  have gq : IntKind.i64.wrap (q : Int) = (q : Int) := IntWalk.i64_in _ (by omega)
  have gm : IntKind.i64.wrap (m : Int) = (m : Int) := IntWalk.i64_in _ (by omega)
  have gp : IntKind.i64.wrap (p : Int) = (p : Int) := IntWalk.i64_in _ (by omega)
  have gz : IntKind.i64.wrap (-(m : Int)) = -(m : Int) := IntWalk.i64_in _ (by omega)
  have gz2 : IntKind.i64.wrap (-(m : Int) - 10) = -(m : Int) - 10 := IntWalk.i64_in _ (by omega)
  obtain ⟨s, hs⟩ : ∃ s, s = (ByteArray.mk #[97, 98, 99, 100, 101, 102, 103, 104, 105, 106, 107, 108, 109, 110, 111, 112, 113, 114, 115, 116]).extract 0 m := ⟨_, rfl⟩
  obtain ⟨t, ht⟩ : ∃ t, t = (ByteArray.mk #[49, 50, 51, 52, 53, 54, 55, 56, 57]).extract 0 r := ⟨_, rfl⟩
  obtain ⟨u, hu⟩ : ∃ u, u = (ByteArray.mk #[117, 118, 119, 120, 121, 122]).extract 0 p := ⟨_, rfl⟩
  have Hsl : Hid ((rowsOf s).length = m) := Lib.hid (by rw [hs]; exact rows32_size _ _ hm)
  have Htl : Hid ((rowsOf t).length = r) := Lib.hid (by rw [ht]; exact rows32_size _ _ hr)
  have Hul : Hid ((rowsOf u).length = p) := Lib.hid (by rw [hu]; exact rows32_size _ _ hp)
  have Hss : Hid (s.size ≤ 1000) := Lib.hid (by rw [hs, extract_size _ _ hm]; omega)
  have Hts : Hid (t.size ≤ 1000) := Lib.hid (by rw [ht, extract_size _ _ hr]; omega)
  have Hus : Hid (u.size ≤ 1000) := Lib.hid (by rw [hu, extract_size _ _ hp]; omega)
  have Hok : Hid (∀ l ∈ rowsOf s, lnOk l.cells = true) := Lib.hid (by rw [hs]; exact rows32_take _ _ (by kernel_rfl))
  have Hoku : Hid (∀ l ∈ rowsOf u, lnOk l.cells = true) := Lib.hid (by rw [hu]; exact rows32_take _ _ (by kernel_rfl))
  have hX1 : ∀ W, (Instr.sliceAt 9 (.string ⟨#[97, 98, 99, 100, 101, 102, 103, 104, 105, 106, 107, 108, 109, 110, 111, 112, 113, 114, 115, 116]⟩) none (some (.int .u8 m)) none).run Tryd.prog W = .ok (.string s) W := by rw [hs]; exact cut_const _ m hm
  have hX2 : ∀ W, (Instr.sliceAt 9 (.string ⟨#[49, 50, 51, 52, 53, 54, 55, 56, 57]⟩) none (some (.int .u8 r)) none).run Tryd.prog W = .ok (.string t) W := by rw [ht]; exact cut_const _ r hr
  have hX3 : ∀ W, (Instr.sliceAt 9 (.string ⟨#[117, 118, 119, 120, 121, 122]⟩) none (some (.int .u8 p)) none).run Tryd.prog W = .ok (.string u) W := by rw [hu]; exact cut_const _ p hp
  clear hs ht hu hk
  go_enter Tryd.func9, Tryd.ntmps9
  go_wp2_with fail
  refine (list32_any s w Hss.out).mono ?_
  rintro e wa ⟨v0, rfl, o0, s0⟩
  obtain ⟨a0, c0, rfl, _⟩ := o0.slice
  rw [Hsl.out] at o0 ⊢
  have O0 := Lib.hid o0
  have S0 := Lib.hid s0
  clear o0 s0
  go_wp2_with fail
  refine (made32_any 20 _ (rowsOf s) (fun _ => True) wa (Ht.out.sees S0.out) (by decide) (by decide) (O0.out.rd.mono (fun _ _ _ => trivial)) Hok.out (by rw [Hsl.out]; omega) 0 (by rw [Hsl.out]; simp; omega)).mono ?_
  rintro e wb ⟨hb, rfl, P⟩
  have P0 : Hid (HiF wa (fun c => wa.heap.size ≤ c) wb hb 20 0 (rowsOf s)) := Lib.hid P
  clear P
  go_wp2_with fail
  refine (vnew_ok r wb (by omega) (by omega)).mono ?_
  rintro e wc ⟨rfl, hv, hs⟩
  have Q0 : Hid (ViSt wa wc wb.heap.size hb r 0 20 0 (rowsOf s) (.slice none 0 0) []) := Lib.hid (ViSt.start P0.out hv hs hr1 (by omega))
  have HT : Hid (Tabs wa) := Lib.hid (Ht.out.sees S0.out)
  generalize wb.heap.size = vb at *
  clear hv hs P0 O0 Ht
  go_wp2_with fail
  refine (list32_any t wc Hts.out).mono ?_
  rintro e W0 ⟨v1, rfl, o1, s1⟩
  obtain ⟨a1, c1, rfl, _⟩ := o1.slice
  rw [Htl.out] at o1 ⊢
  have H0 : Hid (ViSt wa W0 vb hb r 0 20 0 (rowsOf s) (.slice a1 r c1) (rowsOf t)) := Lib.hid (Q0.out.screen s1 o1.rd)
  clear o1 s1 Q0
  go_wp2_with fail
  refine (H0.out.seen 0 (by rw [Hsl.out]; unfold clampV; omega) Htl.out (rows32_cells _) (m : Int) (by rw [Hsl.out]; omega) _ _ (rowsOf t) H0.out.scr (by rw [Nat.sub_zero, List.drop_length, List.nil_append, List.take_of_length_le (by rw [Htl.out]; exact Nat.le_refl _)])).mono ?_
  rintro e W1 ⟨rfl, hs⟩
  have H1 := Lib.hid (H0.out.sees hs)
  clear hs H0
  go_wp2_with fail
  refine (H1.out.scroll (q : Int) q (by rw [Hsl.out]; unfold clampV; omega)).mono ?_
  rintro e W2 ⟨rfl, hs⟩
  have H2 := Lib.hid hs
  clear hs H1
  obtain ⟨n1, hn1⟩ : ∃ n1 : Int, n1 = (m : Int) - q := ⟨_, rfl⟩
  have Hn1 := Lib.hid hn1
  clear hn1
  go_wp2_with fail
  refine (H2.out.lines q (by rw [Hsl.out]; unfold clampV; omega) Htl.out (rows32_cells _) n1 (by rw [Hsl.out, Hn1.out]; omega)).mono ?_
  rintro e W3 ⟨vl, rfl, ho, hs⟩
  obtain ⟨L, hL⟩ : ∃ L, L = ((rowsOf s).drop ((rowsOf s).length - q) ++ rowsOf t).take r := ⟨_, rfl⟩
  rw [← hL] at ho
  have hLn : L.length = r := by rw [hL, List.length_take, List.length_append, List.length_drop, Htl.out]; omega
  obtain ⟨al, cl, rfl, _⟩ := ho.slice
  rw [hLn]
  rw [hLn] at ho
  have HLn := Lib.hid hLn
  have HL := Lib.hid hL
  have H3 : Hid (ViSx wa W3 vb hb r q 20 0 (rowsOf s) (.slice a1 r c1) (rowsOf t) (.slice al r cl) L) := Lib.hid (ViSx.of H2.out hs ho.rd)
  clear ho hs hL hLn H2
  go_wp2_with fail
  refine (list32_any u W3 Hus.out).mono ?_
  rintro e W4 ⟨v3, rfl, o3, s3⟩
  obtain ⟨a3, c3, rfl, _⟩ := o3.slice
  rw [Hul.out] at o3 ⊢
  have O3 := Lib.hid o3
  have S3 := Lib.hid s3
  clear o3 s3
  go_wp2_with fail
  refine (H3.out.push S3.out HT.out _ (rowsOf u) O3.out.rd Hoku.out (by rw [Hsl.out, Hul.out]; omega) k (by rw [Hsl.out, Hul.out]; exact Hkk.out)).mono ?_
  rintro e W5 ⟨rfl, hs⟩
  obtain ⟨ls, hls⟩ : ∃ ls, ls = ((rowsOf s ++ rowsOf u).drop k) := ⟨_, rfl⟩
  have Hll : Hid (ls.length = m + p - k) := Lib.hid (by rw [hls, List.length_drop, List.length_append, Hsl.out, Hul.out])
  rw [← hls, Int.zero_add] at hs
  have H5 : Hid (ViSx wa W5 vb hb r q 20 k ls (.slice a1 r c1) (rowsOf t) (.slice al r cl) L) := Lib.hid hs
  have Hls := Lib.hid hls
  clear hs hls O3
  go_wp2_with fail
  refine (H5.out.pushed (p : Int) (by omega) b2 (by rw [Hll.out]; exact Hb2.out)).mono ?_
  rintro e W6 ⟨rfl, hs⟩
  have H6 := Lib.hid hs
  clear hs
  obtain ⟨n2, hn2⟩ : ∃ n2 : Int, n2 = (m : Int) + p - b2 := ⟨_, rfl⟩
  have Hn2 := Lib.hid hn2
  clear hn2
  go_wp2_with fail
  refine (H6.out.st.lines b2 (by rw [Hll.out]; unfold clampV; omega) Htl.out (rows32_cells _) n2 (by rw [Hll.out, Hn2.out]; omega)).mono ?_
  rintro e W7 ⟨vx, rfl, ho2, hs⟩
  obtain ⟨X, hX⟩ : ∃ X, X = (ls.drop (ls.length - b2) ++ rowsOf t).take r := ⟨_, rfl⟩
  rw [← hX] at ho2
  have hXn : X.length = r := by rw [hX, List.length_take, List.length_append, List.length_drop, Htl.out]; omega
  obtain ⟨ax, cx, rfl, _⟩ := ho2.slice
  rw [hXn]
  rw [hXn] at ho2
  have HXn := Lib.hid hXn
  have HXX := Lib.hid hX
  have HO2 := Lib.hid ho2.rd
  have H7 := Lib.hid (H6.out.sees hs)
  clear ho2 hs hX hXn
  go_wp2_with fail
  refine (H7.out.st.first_is).mono ?_
  rintro e W8 ⟨rfl, hs⟩
  have H8 := Lib.hid (H7.out.st.sees hs)
  have Y1 := Lib.hid ((H7.out.sees hs).rd)
  clear hs H7
  have e1 : decide (n1 ≥ (k : Int)) = true := decide_eq_true (by rw [Hn1.out]; omega)
  go_wp2_with fail
  refine (H8.out.scroll (-(m : Int) - 10) 0 (by rw [Hll.out]; unfold clampV; omega)).mono ?_
  rintro e X1 ⟨rfl, hs⟩
  have I1 := Lib.hid hs
  clear hs H8
  go_wp2_with fail
  refine (I1.out.back_is).mono ?_
  rintro e X2 ⟨rfl, hs⟩
  have I2 := Lib.hid (I1.out.sees hs)
  clear hs I1
  obtain ⟨k3, hk3, hk3m⟩ := clampV_nat (0 + max (min 3 1048576) (-1048576)) (m + p - k)
  have Hk3 := Lib.hid hk3
  have hk3n : k3 ≤ 3 := by unfold clampV at hk3; omega
  clear hk3
  go_wp2_with fail
  refine (I2.out.scroll 3 k3 (by rw [Hll.out]; exact Hk3.out)).mono ?_
  rintro e X3 ⟨rfl, hs⟩
  have I3 := Lib.hid hs
  clear hs I2
  go_wp2_with fail
  refine (I3.out.scroll (-3) 0 (by rw [Hll.out]; unfold clampV; omega)).mono ?_
  rintro e X4 ⟨rfl, hs⟩
  have I4 := Lib.hid hs
  clear hs I3
  obtain ⟨nx, hnx⟩ : ∃ nx : Int, nx = (k : Int) + ((m + p - k : Nat) : Int) := ⟨_, rfl⟩
  have Hnx := Lib.hid hnx
  clear hnx
  go_wp2_with fail
  refine (I4.out.next_is nx (by rw [Hll.out, Hnx.out])).mono ?_
  rintro e X5 ⟨rfl, hs⟩
  have I5 := Lib.hid (I4.out.sees hs)
  clear hs I4
  go_wp2_with fail
  refine (I5.out.seen 0 (by rw [Hll.out]; unfold clampV; omega) Htl.out (rows32_cells _) nx (by rw [Hll.out, Hnx.out]; omega) _ _ (rowsOf t) I5.out.scr (by rw [Nat.sub_zero, List.drop_length, List.nil_append, List.take_of_length_le (by rw [Htl.out]; exact Nat.le_refl _)])).mono ?_
  rintro e X6 ⟨rfl, hs⟩
  have I6 := Lib.hid (I5.out.sees hs)
  clear hs I5
  go_wp2_with fail
  refine (known32 _ (HT.out.sees I6.out.see)).mono ?_
  rintro e X7 ⟨rfl, hs⟩
  go_wp2
  go_ret
  exact ⟨by simp, S0.out.trans (I6.out.see.trans hs)⟩
set_option maxRecDepth 1000000 in
set_option maxHeartbeats 4000000 in
theorem viewHolds_o1 (m q p r : Nat) (w : World) (ht : Tabs w) (h : 20 < m) :
    Calls Tryd.prog 9 #[.int .u8 m, .int .u8 q, .int .u8 p, .int .u8 r] w fun e w' => e = .returned (.bool true) ∧ Sees w w' := by
  have Ht := Lib.hid ht
  clear ht
  have d1 : decide ((m : Int) > 20) = true := decide_eq_true (by omega)
  go_enter Tryd.func9, Tryd.ntmps9
  go_wp2_with fail
  refine (known32 _ Ht.out).mono ?_
  rintro e w5 ⟨rfl, hs5⟩
  go_wp2
  go_ret
  exact ⟨by simp, hs5⟩
set_option maxRecDepth 1000000 in
set_option maxHeartbeats 4000000 in
theorem viewHolds_o2 (m q p r : Nat) (w : World) (ht : Tabs w) (h1 : m ≤ 20) (h : m < q) :
    Calls Tryd.prog 9 #[.int .u8 m, .int .u8 q, .int .u8 p, .int .u8 r] w fun e w' => e = .returned (.bool true) ∧ Sees w w' := by
  have Ht := Lib.hid ht
  clear ht
  have d1 : decide ((m : Int) > 20) = false := decide_eq_false (by omega)
  have d2 : decide ((q : Int) > (m : Int)) = true := decide_eq_true (by omega)
  go_enter Tryd.func9, Tryd.ntmps9
  go_wp2_with fail
  refine (known32 _ Ht.out).mono ?_
  rintro e w5 ⟨rfl, hs5⟩
  go_wp2
  go_ret
  exact ⟨by simp, hs5⟩
set_option maxRecDepth 1000000 in
set_option maxHeartbeats 4000000 in
theorem viewHolds_o3 (m q p r : Nat) (w : World) (ht : Tabs w) (h1 : m ≤ 20) (h2 : q ≤ m) (h : 6 < p) :
    Calls Tryd.prog 9 #[.int .u8 m, .int .u8 q, .int .u8 p, .int .u8 r] w fun e w' => e = .returned (.bool true) ∧ Sees w w' := by
  have Ht := Lib.hid ht
  clear ht
  have d1 : decide ((m : Int) > 20) = false := decide_eq_false (by omega)
  have d2 : decide ((q : Int) > (m : Int)) = false := decide_eq_false (by omega)
  have d3 : decide ((p : Int) > 6) = true := decide_eq_true (by omega)
  go_enter Tryd.func9, Tryd.ntmps9
  go_wp2_with fail
  refine (known32 _ Ht.out).mono ?_
  rintro e w5 ⟨rfl, hs5⟩
  go_wp2
  go_ret
  exact ⟨by simp, hs5⟩
set_option maxRecDepth 1000000 in
set_option maxHeartbeats 4000000 in
theorem viewHolds_o4 (m q p r : Nat) (w : World) (ht : Tabs w) (h1 : m ≤ 20) (h2 : q ≤ m) (h3 : p ≤ 6) (h : r < 1) :
    Calls Tryd.prog 9 #[.int .u8 m, .int .u8 q, .int .u8 p, .int .u8 r] w fun e w' => e = .returned (.bool true) ∧ Sees w w' := by
  have Ht := Lib.hid ht
  clear ht
  have d1 : decide ((m : Int) > 20) = false := decide_eq_false (by omega)
  have d2 : decide ((q : Int) > (m : Int)) = false := decide_eq_false (by omega)
  have d3 : decide ((p : Int) > 6) = false := decide_eq_false (by omega)
  have d4 : decide ((r : Int) < 1) = true := decide_eq_true (by omega)
  go_enter Tryd.func9, Tryd.ntmps9
  go_wp2_with fail
  refine (known32 _ Ht.out).mono ?_
  rintro e w5 ⟨rfl, hs5⟩
  go_wp2
  go_ret
  exact ⟨by simp, hs5⟩
set_option maxRecDepth 1000000 in
set_option maxHeartbeats 4000000 in
theorem viewHolds_o5 (m q p r : Nat) (w : World) (ht : Tabs w) (h1 : m ≤ 20) (h2 : q ≤ m) (h3 : p ≤ 6) (h4 : 1 ≤ r) (h : 9 < r) :
    Calls Tryd.prog 9 #[.int .u8 m, .int .u8 q, .int .u8 p, .int .u8 r] w fun e w' => e = .returned (.bool true) ∧ Sees w w' := by
  have Ht := Lib.hid ht
  clear ht
  have d1 : decide ((m : Int) > 20) = false := decide_eq_false (by omega)
  have d2 : decide ((q : Int) > (m : Int)) = false := decide_eq_false (by omega)
  have d3 : decide ((p : Int) > 6) = false := decide_eq_false (by omega)
  have d4 : decide ((r : Int) < 1) = false := decide_eq_false (by omega)
  have d5 : decide ((r : Int) > 9) = true := decide_eq_true (by omega)
  go_enter Tryd.func9, Tryd.ntmps9
  go_wp2_with fail
  refine (known32 _ Ht.out).mono ?_
  rintro e w5 ⟨rfl, hs5⟩
  go_wp2
  go_ret
  exact ⟨by simp, hs5⟩
theorem viewHolds_any (m q p r : Nat) (w : World) (ht : Tabs w) :
    Calls Tryd.prog 9 #[.int .u8 m, .int .u8 q, .int .u8 p, .int .u8 r] w fun e w' => e = .returned (.bool true) ∧ Sees w w' := by
  by_cases h1 : m ≤ 20
  · by_cases h2 : q ≤ m
    · by_cases h3 : p ≤ 6
      · by_cases h4 : 1 ≤ r
        · by_cases h5 : r ≤ 9
          · obtain ⟨b2, hb2, _⟩ := clampV_nat (if 0 < q then (q : Int) + min (p : Int) 1048576 else 0) (m + p - (m + p - 20))
            by_cases h6 : m + p - 20 ≤ m - q
            · by_cases h7 : 0 < q
              · exact viewHolds_A m q p r w ht h1 h2 h3 h4 h5 _ _ rfl h7 h6 (Nat.le_refl _) (Nat.le_refl _)
              · exact viewHolds_C m q p r w ht h1 h2 h3 h4 h5 _ _ rfl hb2 (by omega) h6
            · exact viewHolds_B m q p r w ht h1 h2 h3 h4 h5 _ _ rfl hb2 (by omega)
          · exact viewHolds_o5 m q p r w ht h1 h2 h3 h4 (by omega)
        · exact viewHolds_o4 m q p r w ht h1 h2 h3 (by omega)
      · exact viewHolds_o3 m q p r w ht h1 h2 (by omega)
    · exact viewHolds_o2 m q p r w ht h1 (by omega)
  · exact viewHolds_o1 m q p r w ht (by omega)
end Go.Proofs.YtpicffaghoggdaaDoor
