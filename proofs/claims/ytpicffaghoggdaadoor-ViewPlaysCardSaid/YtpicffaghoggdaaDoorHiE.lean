/- Histories: what one is in memory, its getters, nil and zero ones, New, Clear, Copy. Histories: lines are pushed, pulled, replaced, looked at. Histories: what is taken away at the end, replaced, looked at. Histories: Replace and Pull. A history that a statement's own run made: each call as one step on it; what the statements of layer 31 ask of it. No condition. -/
import Derived.Test.YtpicffaghoggdaaDoorRiU
import Derived.Test.YtpicffaghoggdaaDoorThere
import Derived.Test.YtpicffaghoggdaaDoorElO
namespace Go.Proofs.YtpicffaghoggdaaDoor
set_option linter.unusedVariables false
set_option linter.unusedSimpArgs false
open Go.RowKit

theorem RgF.rgmost' {w1 W : World} {F : Nat → Prop} {r : Nat} {most page first : Int} {ls : List Ln} {g : List (Int × Nat)} (h : RgF w1 F W r most page first ls g) : Calls Tryd.prog 79 #[.pointer (some ⟨r, 0, none⟩)] W fun e w' => e = .returned (.int .i64 most) ∧ Sees W w' := h.rgmost
/-- No history: nil or zero. -/
def NoHi (w : World) (v : Value) : Prop := v = .pointer none ∨ ∃ h, v = .pointer (some ⟨h, 0, none⟩) ∧ Bx w h 77 (.pointer none)
theorem NoHi.sees {w W : World} {v : Value} (h : NoHi w v) (hs : Sees w W) : NoHi W v := by
  rcases h with h | ⟨b, h, hp⟩
  · exact .inl h
  · exact .inr ⟨b, h, hp.sees hs⟩
theorem hnone_no (w : World) (v : Value) (h : NoHi w v) : Calls Tryd.prog 58 #[v] w fun e w' => e = .returned (.bool true) ∧ Sees w w' := by
  have hw := Sees.refl w
  rcases h with rfl | ⟨b, rfl, hp⟩
  · go_enter Tryd.func58, Tryd.ntmps58
    go_wp2
    go_ret
    exact ⟨rfl, hw⟩
  · have c0 := hp.c
    clear hp
    go_enter Tryd.func58, Tryd.ntmps58
    go_wp2
    go_ret
    exact ⟨rfl, hw⟩
theorem hnone_at (w : World) (b r : Nat) (h : Bx w b 77 (.pointer (some ⟨r, 0, none⟩))) : Calls Tryd.prog 58 #[.pointer (some ⟨b, 0, none⟩)] w fun e w' => e = .returned (.bool false) ∧ Sees w w' := by
  have hw := Sees.refl w
  have c0 := h.c
  clear h
  go_enter Tryd.func58, Tryd.ntmps58
  go_wp2
  go_ret
  exact ⟨rfl, hw⟩

/-- A history, as it is seen; its memory is F. -/
def HiF (w1 : World) (F : Nat → Prop) (W : World) (b : Nat) (most first : Int) (ls : List Ln) : Prop :=
  F b ∧ w1.heap.size ≤ b ∧ ∃ r g, Bx W b 77 (.pointer (some ⟨r, 0, none⟩)) ∧ RgF w1 (fun c => F c ∧ c ≠ b) W r most 64 first ls g
namespace HiF
variable {w1 W W' : World} {F G : Nat → Prop} {b : Nat} {most first : Int} {ls : List Ln}
theorem sees (h : HiF w1 F W b most first ls) (hs : Sees W W') : HiF w1 F W' b most first ls := by
  obtain ⟨h1, h2, r, g, h3, h4⟩ := h
  exact ⟨h1, h2, r, g, h3.sees hs, h4.sees hs⟩
theorem see (h : HiF w1 F W b most first ls) : Sees w1 W := by obtain ⟨h1, h2, r, g, h3, h4⟩ := h; exact h4.see
theorem lt (h : HiF w1 F W b most first ls) : b < W.heap.size := by obtain ⟨h1, h2, r, g, h3, h4⟩ := h; exact h3.lt
theorem low (h : HiF w1 F W b most first ls) : ∀ c, F c → w1.heap.size ≤ c := by
  obtain ⟨h1, h2, r, g, h3, h4⟩ := h
  intro c hc
  by_cases e : c = b
  · omega
  · exact h4.low c ⟨hc, e⟩
theorem mono (h : HiF w1 F W b most first ls) (hF : ∀ c, c < W.heap.size → F c → G c) (hl : ∀ c, G c → w1.heap.size ≤ c) : HiF w1 G W b most first ls := by
  obtain ⟨h1, h2, r, g, h3, h4⟩ := h
  exact ⟨hF b h3.lt h1, h2, r, g, h3, h4.mono (fun c hc hf => ⟨hF c hc hf.1, hf.2⟩) (fun c hc => hl c hc.1)⟩
theorem cut (h : HiF w1 F W b most first ls) : HiF w1 (fun c => F c ∧ c < W.heap.size) W b most first ls := h.mono (fun c hc hf => ⟨hf, hc⟩) (fun c hc => h.low c hc.1)
theorem keeps {X : Nat → Prop} (h : HiF w1 F W b most first ls) (hk : Keeps X W W') (hd : ∀ c, F c → ¬ X c) (hx : ∀ c, X c → w1.heap.size ≤ c) : HiF w1 F W' b most first ls := by
  obtain ⟨h1, h2, r, g, h3, h4⟩ := h
  exact ⟨h1, h2, r, g, h3.keeps hk (hd b h1), h4.keeps hk (fun c hc => hd c hc.1) hx⟩
theorem facts (h : HiF w1 F W b most first ls) : 0 ≤ most ∧ most ≤ 1048576 ∧ 0 ≤ first ∧ first + ls.length ≤ 1000000000 ∧ (ls.length : Int) ≤ most := by
  obtain ⟨h1, h2, r, g, h3, h4⟩ := h
  have := h4.facts
  exact ⟨this.1, this.2.1, this.2.2.2.2.1, this.2.2.2.2.2.1, this.2.2.2.2.2.2.1⟩
theorem lenc (h : HiF w1 F W b most first ls) : ∀ l ∈ ls, l.cells.length ≤ 1000000 := by obtain ⟨h1, h2, r, g, h3, h4⟩ := h; exact h4.lenc
theorem lnok (h : HiF w1 F W b most first ls) : ∀ l ∈ ls, lnOk l.cells = true := by obtain ⟨h1, h2, r, g, h3, h4⟩ := h; exact h4.lnok
theorem hiLen (h : HiF w1 F W b most first ls) (n : Int) (hn : (ls.length : Int) = n) : Calls Tryd.prog 24 #[.pointer (some ⟨b, 0, none⟩)] W fun e w' => e = .returned (.int .i64 n) ∧ Sees W w' := by
  obtain ⟨_, _, r, g, hb, hr⟩ := h
  have HB := Lib.hid hb
  have HR := Lib.hid hr
  clear hb hr
  go_enter Tryd.func24, Tryd.ntmps24
  go_wp2_with fail
  refine (hnone_at _ b r HB.out).mono ?_
  rintro e w2 ⟨rfl, hs⟩
  have c0 := (HB.out.sees hs).c
  have HS := Lib.hid hs
  clear hs
  go_wp2_with fail
  refine ((HR.out.sees HS.out).rglen n hn).mono ?_
  rintro e w3 ⟨rfl, hs⟩
  have HS3 := Lib.hid (HS.out.trans hs)
  clear hs
  go_wp2
  go_ret
  exact ⟨rfl, HS3.out⟩
theorem hiMost (h : HiF w1 F W b most first ls) : Calls Tryd.prog 53 #[.pointer (some ⟨b, 0, none⟩)] W fun e w' => e = .returned (.int .i64 most) ∧ Sees W w' := by
  obtain ⟨_, _, r, g, hb, hr⟩ := h
  have HB := Lib.hid hb
  have HR := Lib.hid hr
  clear hb hr
  go_enter Tryd.func53, Tryd.ntmps53
  go_wp2_with fail
  refine (hnone_at _ b r HB.out).mono ?_
  rintro e w2 ⟨rfl, hs⟩
  have c0 := (HB.out.sees hs).c
  have HS := Lib.hid hs
  clear hs
  go_wp2_with fail
  refine ((HR.out.sees HS.out).rgmost).mono ?_
  rintro e w3 ⟨rfl, hs⟩
  have HS3 := Lib.hid (HS.out.trans hs)
  clear hs
  go_wp2
  go_ret
  exact ⟨rfl, HS3.out⟩
theorem hiFirst (h : HiF w1 F W b most first ls) : Calls Tryd.prog 26 #[.pointer (some ⟨b, 0, none⟩)] W fun e w' => e = .returned (.int .i64 first) ∧ Sees W w' := by
  obtain ⟨_, _, r, g, hb, hr⟩ := h
  have HB := Lib.hid hb
  have HR := Lib.hid hr
  clear hb hr
  go_enter Tryd.func26, Tryd.ntmps26
  go_wp2_with fail
  refine (hnone_at _ b r HB.out).mono ?_
  rintro e w2 ⟨rfl, hs⟩
  have c0 := (HB.out.sees hs).c
  have HS := Lib.hid hs
  clear hs
  go_wp2_with fail
  refine ((HR.out.sees HS.out).rgfirst).mono ?_
  rintro e w3 ⟨rfl, hs⟩
  have HS3 := Lib.hid (HS.out.trans hs)
  clear hs
  go_wp2
  go_ret
  exact ⟨rfl, HS3.out⟩
theorem hiNext (h : HiF w1 F W b most first ls) (n : Int) (hn : first + ls.length = n) : Calls Tryd.prog 25 #[.pointer (some ⟨b, 0, none⟩)] W fun e w' => e = .returned (.int .i64 n) ∧ Sees W w' := by
  obtain ⟨_, _, r, g, hb, hr⟩ := h
  have HB := Lib.hid hb
  have HR := Lib.hid hr
  clear hb hr
  go_enter Tryd.func25, Tryd.ntmps25
  go_wp2_with fail
  refine (hnone_at _ b r HB.out).mono ?_
  rintro e w2 ⟨rfl, hs⟩
  have c0 := (HB.out.sees hs).c
  have HS := Lib.hid hs
  clear hs
  go_wp2_with fail
  refine ((HR.out.sees HS.out).rgnext n hn).mono ?_
  rintro e w3 ⟨rfl, hs⟩
  have HS3 := Lib.hid (HS.out.trans hs)
  clear hs
  go_wp2
  go_ret
  exact ⟨rfl, HS3.out⟩
theorem hiClear (h : HiF w1 F W b most first ls) (n : Int) (hn : first + ls.length = n) : Calls Tryd.prog 50 #[.pointer (some ⟨b, 0, none⟩)] W fun e w' => e = .returned (.tuple #[]) ∧ HiF w1 F w' b most n [] ∧ Keeps F W w' := by
  obtain ⟨h1, h2, r, g, hb, hr⟩ := h
  have HB := Lib.hid hb
  have HR := Lib.hid hr
  clear hb hr
  go_enter Tryd.func50, Tryd.ntmps50
  go_wp2_with fail
  refine (hnone_at _ b r HB.out).mono ?_
  rintro e w2 ⟨rfl, hs⟩
  have c0 := (HB.out.sees hs).c
  have HS := Lib.hid hs
  clear hs
  go_wp2_with fail
  refine ((HR.out.sees HS.out).clear n hn).mono ?_
  rintro e w3 ⟨rfl, hr3, hk⟩
  have HR3 := Lib.hid hr3
  have HK := Lib.hid hk
  clear hr3 hk
  go_wp2
  go_end0
  exact ⟨rfl, ⟨h1, h2, r, [], (HB.out.sees HS.out).keeps HK.out (fun e => e.2 rfl), HR3.out⟩, ((Keeps.of_sees HS.out).trans HK.out).mono (fun c _ e => e.1)⟩
theorem hiCopy (h : HiF w1 F W b most first ls) : Calls Tryd.prog 49 #[.pointer (some ⟨b, 0, none⟩)] W fun e w' => ∃ q, e = .returned (.pointer (some ⟨q, 0, none⟩)) ∧ HiF W (fun c => W.heap.size ≤ c) w' q most first ls ∧ Sees W w' := by
  obtain ⟨h1, h2, r, g, hb, hr⟩ := h
  have HB := Lib.hid hb
  have HR := Lib.hid hr
  clear hb hr
  go_enter Tryd.func49, Tryd.ntmps49
  go_wp2_with fail
  refine (hnone_at _ b r HB.out).mono ?_
  rintro e w2 ⟨rfl, hs⟩
  have c0 := (HB.out.sees hs).c
  have HS := Lib.hid hs
  clear hs
  go_wp2_with fail
  obtain ⟨d, hd1, hd2, hd3⟩ := HR.out.sees HS.out
  refine (rcopy_ok hd1 hd2.ok).mono ?_
  rintro e w3 ⟨q, rfl, hq, hs⟩
  have HQ := Lib.hid (show RgF w2 (fun c => w2.heap.size ≤ c) w3 q most 64 first ls g from ⟨d, hq, hd2, hd3⟩)
  have HS3 := Lib.hid hs
  clear hs hq hd1 hd2 hd3
  go_wp2_with fail
  have hA : Sees w3 (w3.alloc (.cells #[.pointer (some ⟨q, 0, none⟩)] 77)) := (Sees.refl _).alloc _
  have hz := HS.out.size
  have hz3 := HS3.out.size
  refine bodyPost_ret_by (v := .pointer (some ⟨w3.heap.size, 0, none⟩)) (by simp [results, Tryd.results49, go_sem]) rfl ⟨w3.heap.size, rfl, ⟨by show W.heap.size ≤ w3.heap.size; omega, by omega, q, g, Bx.new rfl, ?_⟩, HS.out.trans (HS3.out.trans hA)⟩
  have h9 := ((HQ.out.mono (G := fun c => w2.heap.size ≤ c ∧ c < w3.heap.size) (fun c hc h => ⟨h, hc⟩) (fun c hc => hc.1)).sees hA)
  obtain ⟨d, e1, e2, e3⟩ := h9
  refine ⟨d, ⟨HS.out.trans (HS3.out.trans hA), ?_, fun c hc => hc.1, ?_⟩, e2, e3⟩
  · have := e1.fr; exact ⟨by have := this.1; omega, by have := this.2; omega⟩
  · obtain ⟨v, k1, k2⟩ := e1.mem
    exact ⟨v, k1, k2.mono (fun c hc h => ⟨⟨by have := h.1.1; omega, by have := h.1.2; omega⟩, h.2⟩)⟩
end HiF
theorem hnew_bad (most : Int) (w : World) (h : decide (most < 0) = true ∨ (decide (most < 0) = false ∧ decide (most > 1048576) = true)) : Calls Tryd.prog 17 #[.int .i64 most] w fun e w' => e = .returned (.tuple #[.pointer none, .int .i64 2]) ∧ Sees w w' := by
  have H := Lib.hid h
  clear h
  go_enter Tryd.func17, Tryd.ntmps17
  go_wp2_with fail
  refine (rnew_bad most 64 w (by rcases H.out with h | ⟨h, h2⟩; exact .inl h; exact .inr (.inl ⟨h, h2⟩))).mono ?_
  rintro e w1 ⟨rfl, hs⟩
  go_wp2
  go_ret2
  exact ⟨rfl, hs⟩
theorem hnew_ok (most : Int) (w : World) (h0 : 0 ≤ most) (h1 : most ≤ 1048576) : Calls Tryd.prog 17 #[.int .i64 most] w fun e w' => ∃ b, e = .returned (.tuple #[.pointer (some ⟨b, 0, none⟩), .int .i64 0]) ∧ HiF w (fun c => w.heap.size ≤ c) w' b most 0 [] := by
  go_enter Tryd.func17, Tryd.ntmps17
  go_wp2_with fail
  refine (new_rg most 64 w h0 h1 (by decide) (by decide)).mono ?_
  rintro e w1 ⟨rfl, hr⟩
  have HR := Lib.hid hr
  have hz : w.heap.size < w1.heap.size := by obtain ⟨_, _, h⟩ := hr.words; exact h.lt
  clear hr
  go_wp2
  refine bodyPost_ret_by (v := .tuple #[.pointer (some ⟨w1.heap.size, 0, none⟩), .int .i64 0]) (by simp [results, Tryd.results17, go_sem]) rfl ⟨w1.heap.size, rfl, by show w.heap.size ≤ w1.heap.size; omega, by omega, _, _, Bx.new rfl, (HR.out.sees ((Sees.refl w1).alloc _)).mono (fun c _ e => ⟨by omega, by omega⟩) (fun c hc => hc.1)⟩
theorem hlen_no (w : World) (v : Value) (h : NoHi w v) : Calls Tryd.prog 24 #[v] w fun e w' => e = .returned (.int .i64 0) ∧ Sees w w' := by
  have H := Lib.hid h; clear h
  go_enter Tryd.func24, Tryd.ntmps24
  go_wp2_with fail
  refine (hnone_no _ _ H.out).mono ?_
  rintro e w1 ⟨rfl, hs⟩
  go_wp2
  go_ret
  exact ⟨rfl, hs⟩
theorem hmost_no (w : World) (v : Value) (h : NoHi w v) : Calls Tryd.prog 53 #[v] w fun e w' => e = .returned (.int .i64 0) ∧ Sees w w' := by
  have H := Lib.hid h; clear h
  go_enter Tryd.func53, Tryd.ntmps53
  go_wp2_with fail
  refine (hnone_no _ _ H.out).mono ?_
  rintro e w1 ⟨rfl, hs⟩
  go_wp2
  go_ret
  exact ⟨rfl, hs⟩
theorem hfirst_no (w : World) (v : Value) (h : NoHi w v) : Calls Tryd.prog 26 #[v] w fun e w' => e = .returned (.int .i64 0) ∧ Sees w w' := by
  have H := Lib.hid h; clear h
  go_enter Tryd.func26, Tryd.ntmps26
  go_wp2_with fail
  refine (hnone_no _ _ H.out).mono ?_
  rintro e w1 ⟨rfl, hs⟩
  go_wp2
  go_ret
  exact ⟨rfl, hs⟩
theorem hnext_no (w : World) (v : Value) (h : NoHi w v) : Calls Tryd.prog 25 #[v] w fun e w' => e = .returned (.int .i64 0) ∧ Sees w w' := by
  have H := Lib.hid h; clear h
  go_enter Tryd.func25, Tryd.ntmps25
  go_wp2_with fail
  refine (hnone_no _ _ H.out).mono ?_
  rintro e w1 ⟨rfl, hs⟩
  go_wp2
  go_ret
  exact ⟨rfl, hs⟩
theorem hclear_no (w : World) (v : Value) (h : NoHi w v) : Calls Tryd.prog 50 #[v] w fun e w' => e = .returned (.tuple #[]) ∧ Sees w w' := by
  have H := Lib.hid h; clear h
  go_enter Tryd.func50, Tryd.ntmps50
  go_wp2_with fail
  refine (hnone_no _ _ H.out).mono ?_
  rintro e w1 ⟨rfl, hs⟩
  go_wp2
  go_end0
  exact ⟨rfl, hs⟩
theorem hcopy_no (w : World) (v : Value) (h : NoHi w v) : Calls Tryd.prog 49 #[v] w fun e w' => e = .returned (.pointer none) ∧ Sees w w' := by
  have H := Lib.hid h; clear h
  go_enter Tryd.func49, Tryd.ntmps49
  go_wp2_with fail
  refine (hnone_no _ _ H.out).mono ?_
  rintro e w1 ⟨rfl, hs⟩
  go_wp2
  go_ret
  exact ⟨rfl, hs⟩
theorem hpush_no (w : World) (v : Value) (u : Value) (h : NoHi w v) : Calls Tryd.prog 18 #[v, u] w fun e w' => e = .returned (.int .i64 1) ∧ Sees w w' := by
  have H := Lib.hid h; clear h
  go_enter Tryd.func18, Tryd.ntmps18
  go_wp2_with fail
  refine (hnone_no _ _ H.out).mono ?_
  rintro e w1 ⟨rfl, hs⟩
  go_wp2
  go_ret
  exact ⟨rfl, hs⟩
theorem hreplace_no (w : World) (v : Value) (u : Value) (h : NoHi w v) : Calls Tryd.prog 52 #[v, u] w fun e w' => e = .returned (.int .i64 1) ∧ Sees w w' := by
  have H := Lib.hid h; clear h
  go_enter Tryd.func52, Tryd.ntmps52
  go_wp2_with fail
  refine (hnone_no _ _ H.out).mono ?_
  rintro e w1 ⟨rfl, hs⟩
  go_wp2
  go_ret
  exact ⟨rfl, hs⟩
theorem hpull_no (w : World) (v : Value) (n : Int) (h : NoHi w v) : Calls Tryd.prog 66 #[v, .int .i64 n] w fun e w' => e = .returned (.tuple #[.slice none 0 0, .int .i64 1]) ∧ Sees w w' := by
  have H := Lib.hid h; clear h
  go_enter Tryd.func66, Tryd.ntmps66
  go_wp2_with fail
  refine (hnone_no _ _ H.out).mono ?_
  rintro e w1 ⟨rfl, hs⟩
  go_wp2
  go_ret2
  exact ⟨rfl, hs⟩
theorem hlast_no (w : World) (v : Value) (n : Int) (h : NoHi w v) : Calls Tryd.prog 20 #[v, .int .i64 n] w fun e w' => e = .returned (.slice none 0 0) ∧ Sees w w' := by
  have H := Lib.hid h; clear h
  go_enter Tryd.func20, Tryd.ntmps20
  go_wp2_with fail
  refine (hnone_no _ _ H.out).mono ?_
  rintro e w1 ⟨rfl, hs⟩
  go_wp2
  go_ret
  exact ⟨rfl, hs⟩
theorem hall_no (w : World) (v : Value) (h : NoHi w v) : Calls Tryd.prog 19 #[v] w fun e w' => e = .returned (.slice none 0 0) ∧ Sees w w' := by
  have H := Lib.hid h; clear h
  go_enter Tryd.func19, Tryd.ntmps19
  go_wp2_with fail
  refine (hlast_no _ _ _ H.out).mono ?_
  rintro e w1 ⟨rfl, hs⟩
  go_wp2
  go_ret
  exact ⟨rfl, hs⟩
theorem hget_no (w : World) (v : Value) (n : Int) (h : NoHi w v) : Calls Tryd.prog 22 #[v, .int .i64 n] w fun e w' => e = .returned (.tuple #[.agg #[.slice none 0 0, .bool false], .int .i64 1]) ∧ Sees w w' := by
  have H := Lib.hid h; clear h
  go_enter Tryd.func22, Tryd.ntmps22
  go_wp2_with fail
  refine (hnone_no _ _ (H.out.sees ((Sees.refl w).alloc _))).mono ?_
  rintro e w1 ⟨rfl, hs⟩
  have c0 : w1.cell? ⟨w.heap.size, 0, none⟩ = some (.slice none 0 0) := by rw [hs.cells _ _ (by simp)]; simp
  have c1 : w1.cell? ⟨w.heap.size, 1, none⟩ = some (.bool false) := by rw [hs.cells _ _ (by simp)]; simp
  have f1 : ∀ i, w1.frozen? ⟨w.heap.size, i, none⟩ = false := fun i => by rw [hs.frozens _ _ (by simp)]; simp
  have Hs := Lib.hid (((Sees.refl w).alloc _).trans hs); clear hs
  go_wp2
  refine bodyPost_ret_by (v := .tuple #[.agg #[.slice none 0 0, .bool false], .int .i64 1]) (by simp [results, Tryd.results22, go_sem, c0, c1]) rfl ⟨rfl, ?_⟩
  exact (Hs.out.setCell (p := ⟨w.heap.size, 0, none⟩) (Nat.le_refl _) _).setCell (p := ⟨w.heap.size, 1, none⟩) (Nat.le_refl _) _
end Go.Proofs.YtpicffaghoggdaaDoor

namespace Go.Proofs.YtpicffaghoggdaaDoor
set_option linter.unusedVariables false
set_option linter.unusedSimpArgs false
open Go.RowKit

theorem hvalid_any (G : Nat → Prop) (v : Value) (xs : List Ln) (w : World) (ht : Tabs w) (hv : lnEl.Rd G w v xs) (hl : ∀ l ∈ xs, l.cells.length ≤ 1000000) (hn0 : xs.length ≤ 1000000000) :
    Calls Tryd.prog 59 #[v] w fun e w' => e = .returned (.bool (xs.all fun l => lnOk l.cells)) ∧ Sees w w' := by
  have Ht := Lib.hid ht
  have Hv := Lib.hid hv
  have Hl := Lib.hid hl
  obtain ⟨ao, c, rfl, _⟩ := hv.slice'
  obtain ⟨n, hn⟩ : ∃ n, n = xs.length := ⟨_, rfl⟩
  rw [← hn] at Hv hn0 ⊢
  have Hn := Lib.hid hn
  clear ht hv hl hn
  go_enter Tryd.func59, Tryd.ntmps59
  go_wp2_with fail
  go_loopw [7] (fun i W => ∃ k : Nat, k ≤ n ∧ i = .int .i64 k ∧ (∀ (j : Nat) x, j < k → xs[j]? = some x → lnOk x.cells = true) ∧ Sees w W) (fun i _ => n - (intOf i).toNat)
  case atStart => exact ⟨0, Nat.zero_le _, rfl, fun j x h => by omega, Sees.refl _⟩
  case round =>
    obtain ⟨k, hk, rfl, hm, hS⟩ := hrel
    have HS := Lib.hid hS
    have HM := Lib.hid hm
    clear hS hm
    by_cases hlt : k < n
    · obtain ⟨b1, o1, l, a1, m1, rfl, _, hl, _, y0, y1, y2⟩ := Hv.out.line (k := k) hlt
      have x0 := HS.out.cell y0
      have x1 := HS.out.cell y1
      have Y2 := Lib.hid (y2.rdCells)
      have Hll := Lib.hid (Hl.out l (List.mem_iff_getElem?.2 ⟨k, hl⟩))
      have Hlk := Lib.hid hl
      obtain ⟨n1, hn1⟩ : ∃ n1, n1 = l.cells.length := ⟨_, rfl⟩
      rw [← hn1] at x0 Y2
      clear hl y0 y1 y2 hn1
      go_wp2_with fail
      refine (lineValid_any (.slice a1 n1 m1) l.cells l.soft _ (Ht.out.sees (HS.out.trans ((Sees.refl wr).alloc _))) (Y2.out.sees (HS.out.trans ((Sees.refl wr).alloc _))) Hll.out).mono ?_
      rintro e W2 ⟨rfl, hs⟩
      have HS2 := Lib.hid (HS.out.trans (((Sees.refl wr).alloc _).trans hs))
      clear hs x0 x1
      by_cases hok : lnOk l.cells = true
      · go_wp2
        refine ⟨⟨k + 1, by omega, by go_num, fun j y hj hy => ?_, HS2.out⟩, by simp [intOf] <;> omega⟩
        rcases Nat.lt_or_ge j k with h | h
        · exact HM.out j y h hy
        · obtain rfl : j = k := by omega
          rw [Hlk.out] at hy; cases hy; exact hok
      · have hok : lnOk l.cells = false := by simpa using hok
        have Hf : Hid ((xs.all fun l => lnOk l.cells) = false) := Lib.hid (by
          rw [List.all_eq_false]
          exact ⟨l, List.mem_iff_getElem?.2 ⟨k, Hlk.out⟩, by simp [hok]⟩)
        go_wp2
        go_ret
        exact ⟨ret_bool Hf.out.symm, HS2.out⟩
    · obtain rfl : k = n := by omega
      have Hf : Hid ((xs.all fun l => lnOk l.cells) = true) := Lib.hid (by
        rw [List.all_eq_true]
        intro x hx
        obtain ⟨j, hj⟩ := List.mem_iff_getElem?.1 hx
        exact HM.out j x (by have := Hn.out; have := (List.getElem?_eq_some_iff.1 hj).1; omega) hj)
      go_wp2
      go_ret
      exact ⟨ret_bool Hf.out.symm, HS.out⟩

theorem keep_step (ls xs : List Ln) (m i : Nat) (x : Ln) (hx : xs[i]? = some x) (hm : ls.length ≤ m) :
    ((ls ++ xs.take i).drop (ls.length + i - m) ++ [x]).drop (((ls ++ xs.take i).drop (ls.length + i - m)).length + 1 - m) = (ls ++ xs.take (i + 1)).drop (ls.length + (i + 1) - m) := by
  have hi := (List.getElem?_eq_some_iff.1 hx).1
  have hl : (ls ++ xs.take i).length = ls.length + i := by rw [List.length_append, List.length_take]; omega
  rw [List.take_add_one, hx, Option.toList_some, ← List.append_assoc, List.length_drop, hl, ← List.drop_append_of_le_length (by rw [hl]; omega), List.drop_drop]
  congr 1
  omega

namespace HiF
variable {w1 W W' : World} {F G : Nat → Prop} {b : Nat} {most first : Int} {ls : List Ln}
set_option maxRecDepth 100000 in
set_option maxHeartbeats 4000000 in
theorem push_in (h : HiF w1 F W b most first ls) (ht : Tabs w1) (v : Value) (xs : List Ln) (hv : lnEl.Rd G W v xs) (hG : ∀ c, G c → ¬ F c) (hok : ∀ l ∈ xs, lnOk l.cells = true) (hn : first + ls.length + xs.length ≤ 1000000000) (k : Nat) (hk : k = ls.length + xs.length - most.toNat) :
    Calls Tryd.prog 60 #[.pointer (some ⟨b, 0, none⟩), v] W fun e w' => e = .returned (.tuple #[]) ∧ HiF w1 (fun c => F c ∨ W.heap.size ≤ c) w' b most (first + k) ((ls ++ xs).drop k) ∧ Keeps F W w' := by
  have fa := h.facts
  have hlow := h.low
  have hsz := h.see.size
  obtain ⟨mo, hmo⟩ : ∃ mo : Nat, most = mo := Int.eq_ofNat_of_zero_le fa.1
  subst hmo
  have Ht := Lib.hid ht
  have H0 := Lib.hid (h.mono (G := fun c => F c ∨ W.heap.size ≤ c) (fun c _ hc => .inl hc) (fun c hc => by rcases hc with hc | hc; exact hlow c hc; omega))
  have HV := Lib.hid (hv.mono (G := fun c => ¬ F c ∧ c < W.heap.size) (fun c hc hg => ⟨hG c hg, hc⟩))
  have HOK := Lib.hid hok
  have HLow := Lib.hid hlow
  have HK := Lib.hid hk
  have hbs := h.lt
  obtain ⟨ao, cp, rfl, _⟩ := hv.slice'
  obtain ⟨n, hxn⟩ : ∃ n, n = xs.length := ⟨_, rfl⟩
  obtain ⟨m0, hm0⟩ : ∃ m0, m0 = ls.length := ⟨_, rfl⟩
  have hm1 : m0 ≤ mo := by rw [hm0]; exact Int.ofNat_le.1 fa.2.2.2.2
  have hf0 := fa.2.2.1
  rw [← hxn, ← hm0] at hn
  rw [← hxn] at HV ⊢
  have Hxn := Lib.hid hxn
  have Hm0 := Lib.hid hm0
  clear h ht hv hG hok fa hlow hk hxn hm0
  go_enter Tryd.func60, Tryd.ntmps60
  go_wp2_with fail
  go_loopw [8] (fun i wr => ∃ j : Nat, j ≤ n ∧ i = .int .i64 j ∧ HiF w1 (fun c => F c ∨ W.heap.size ≤ c) wr b mo (first + ((m0 + j - mo : Nat) : Int)) ((ls ++ xs.take j).drop (m0 + j - mo)) ∧ Keeps F W wr) (fun i _ => n - (intOf i).toNat)
  case atStart => exact ⟨0, Nat.zero_le _, rfl, by rw [Nat.add_zero, show m0 - mo = 0 by omega]; simpa using H0.out, Keeps.refl _ _⟩
  case round =>
    obtain ⟨j, hj, rfl, hh, hkr⟩ := hrel
    have HKr := Lib.hid hkr
    have HH := Lib.hid hh
    clear hh
    have hzr := hkr.size
    clear hkr
    by_cases hlt : j < n
    · obtain ⟨_, _, r, g, hB, hR⟩ := HH.out.cut
      have HVr := Lib.hid (HV.out.keeps HKr.out (fun c hc => hc.1))
      obtain ⟨b1, o1, l, a1, m1, rfl, hb1, hl, _, x0, x1, y2⟩ := HVr.out.line (k := j) hlt
      have hok := HOK.out l (List.mem_iff_getElem?.2 ⟨j, hl⟩)
      have Hlk := Lib.hid hl
      have Y2 := Lib.hid y2.rdc
      have HB := Lib.hid hB
      have HR := Lib.hid hR
      have Hok := Lib.hid hok
      obtain ⟨n1, hn1⟩ : ∃ n1, n1 = l.cells.length := ⟨_, rfl⟩
      rw [← hn1] at x0 Y2
      clear hl y2 hB hR hn1 hok
      go_wp2_with fail
      refine wp_world (fun w4 hw4 => ?_)
      have A4 := Lib.hid (show LnAt w4 wr.heap.size (.slice a1 n1 m1) l.soft by subst hw4; exact LnAt.new rfl)
      have S4 := Lib.hid (show Sees wr w4 by subst hw4; exact (Sees.refl wr).alloc _)
      clear hw4 x0 x1
      refine wpH_go (fun c => ((F c ∨ W.heap.size ≤ c) ∧ c < wr.heap.size) ∧ c ≠ b) 6 (by kernel_rfl) (by kernel_rfl) (by rfl) (fun hB w5 hs5 => ?_)
      have S5 := Lib.hid (S4.out.trans hs5)
      have D0 := Lib.hid (HB.out.sees S5.out)
      have D1 := Lib.hid (A4.out.sees hs5)
      have HR5 := Lib.hid (HR.out.sees S5.out)
      have Y5 := Lib.hid ((Y2.out.mono (G := fun c => (¬ F c ∧ c < W.heap.size)) (fun c _ h => h)).sees S5.out)
      clear hs5
      have hS0 : Keeps (fun c => ((F c ∨ W.heap.size ≤ c) ∧ c < wr.heap.size) ∧ c ≠ b) w5 w5 := Keeps.refl _ w5
      refine wpH_take (i := 0) (v := .pointer (some ⟨b, 0, none⟩)) hB (by rfl) (by kernel_rfl) (fun _ _ _ _ _ h => h) (by rfl) hS0 (fun W hI => by clear hI; go_simp) ?_; (try simp only [Act.put, List.setIfInBounds_toArray, List.set_cons_zero, List.set_cons_succ])
      refine wpH_take (i := 1) (v := .pointer (some ⟨b, 0, none⟩)) hB (by rfl) (by kernel_rfl) (fun _ _ _ _ _ h => h) (by rfl) hS0 (fun W hI => by clear hI; go_simp) ?_; (try simp only [Act.put, List.setIfInBounds_toArray, List.set_cons_zero, List.set_cons_succ])
      refine wpH_take (i := 2) (v := .pointer (some ⟨b, 0, none⟩)) hB (by rfl) (by kernel_rfl) (fun _ _ _ _ _ h => h) (by rfl) hS0 (fun W hI => by clear hI; go_simp) ?_; (try simp only [Act.put, List.setIfInBounds_toArray, List.set_cons_zero, List.set_cons_succ])
      refine wpH_take (i := 3) (v := .pointer (some ⟨r, 0, none⟩)) hB (by rfl) (by kernel_rfl) (fun _ _ _ _ _ h => h) (by rfl) hS0 (fun W hI => by have q := (D0.out.keeps hI (fun e => e.2 rfl)).c; go_simp) ?_; (try simp only [Act.put, List.setIfInBounds_toArray, List.set_cons_zero, List.set_cons_succ])
      refine wpH_take (i := 4) (v := .agg #[.slice a1 n1 m1, .bool l.soft]) hB (by rfl) (by kernel_rfl) (fun _ _ _ _ _ h => h) (by rfl) hS0 (fun W hI => by have q := (D1.out.keeps hI (fun e => by omega)).c; obtain ⟨q0, q1⟩ := q; go_simp) ?_; (try simp only [Act.put, List.setIfInBounds_toArray, List.set_cons_zero, List.set_cons_succ])
      obtain ⟨q, hq⟩ : ∃ q : Nat, first + ((m0 + j - mo : Nat) : Int) + (((ls ++ xs.take j).drop (m0 + j - mo)).length : Int) = q := Int.eq_ofNat_of_zero_le (by omega)
      have hll : ((ls ++ xs.take j).drop (m0 + j - mo)).length = m0 + j - (m0 + j - mo) := by rw [List.length_drop, List.length_append, List.length_take, ← Hm0.out, ← Hxn.out]; omega
      refine wpH_one (i := 5) (by kernel_rfl) (wpOp_enter (fn := 87) (args := #[.pointer (some ⟨r, 0, none⟩), .agg #[.slice a1 n1 m1, .bool l.soft]]) (by rfl) (by rfl) (by go_simp) ((HR5.out.push Ht.out (by rw [hll]; omega) (.slice a1 n1 m1) l.cells l.soft Y5.out (fun c hc e => by rcases e.1.1 with h | h; exact hc.1 h; omega) Hok.out _ rfl (q : Int) hq).mono ?_))
      rintro e w6 ⟨rfl, hr6, hk6⟩
      refine ⟨_, rfl, hk6, ?_⟩
      (try simp only [Act.put, List.setIfInBounds_toArray, List.set_cons_zero, List.set_cons_succ])
      rw [Int.toNat_natCast, show (⟨l.cells, l.soft⟩ : Ln) = l from rfl, Hm0.out, keep_step ls xs mo j l Hlk.out (by rw [← Hm0.out]; exact hm1), ← Hm0.out, hll, Int.add_assoc, ← Int.natCast_add, show m0 + j - mo + (m0 + j - (m0 + j - mo) + 1 - mo) = m0 + (j + 1) - mo by omega] at hr6
      have HR6 := Lib.hid hr6
      have HK6 := Lib.hid hk6
      clear hr6 hk6 hll hq
      refine wpH_end (by kernel_rfl) ?_
      go_wp2
      have hz5 := S5.out.size
      refine ⟨⟨j + 1, by omega, by go_num, ⟨HH.out.1, HH.out.2.1, r, _, (HB.out.sees S5.out).keeps HK6.out (fun e => e.2 rfl), HR6.out.mono (fun c hc e => ?_) (fun c hc => ?_)⟩, ?_⟩, by simp [intOf] <;> omega⟩
      · rcases e with e | e
        · exact ⟨e.1.1, e.2⟩
        · exact ⟨.inr (by omega), by omega⟩
      · rcases hc.1 with h | h
        · exact HLow.out c h
        · omega
      · exact (HKr.out.trans (Keeps.of_sees S5.out)).trans' HK6.out (fun c hc e => by rcases e.1.1 with h | h; exact h; omega)
    · obtain rfl : j = n := by omega
      go_wp2
      go_end0
      have h9 := HH.out
      rw [Hxn.out, List.take_length, Hm0.out, show ls.length + xs.length - mo = k by have := HK.out; rw [Int.toNat_natCast] at this; omega] at h9
      exact ⟨rfl, h9, HKr.out⟩
theorem push (h : HiF w1 F W b most first ls) (ht : Tabs w1) (v : Value) (xs : List Ln) (hv : lnEl.Rd G W v xs) (hG : ∀ c, G c → ¬ F c) (hok : ∀ l ∈ xs, lnOk l.cells = true) (hn : first + ls.length + xs.length ≤ 1000000000) (k : Nat) (hk : k = ls.length + xs.length - most.toNat) :
    Calls Tryd.prog 18 #[.pointer (some ⟨b, 0, none⟩), v] W fun e w' => e = .returned (.int .i64 0) ∧ HiF w1 (fun c => F c ∨ W.heap.size ≤ c) w' b most (first + k) ((ls ++ xs).drop k) ∧ Keeps F W w' := by
  have Ht := Lib.hid ht
  have H := Lib.hid h
  have HV := Lib.hid hv
  have HG := Lib.hid hG
  have HOK := Lib.hid hok
  have HN := Lib.hid hn
  have HK := Lib.hid hk
  obtain ⟨ao, cp, rfl, _⟩ := hv.slice'
  obtain ⟨_, _, r, g, hb, _⟩ := h
  have HB := Lib.hid hb
  have hall : (xs.all fun l => lnOk l.cells) = true := by rw [List.all_eq_true]; exact hok
  have Hall := Lib.hid hall
  clear ht hv hG hok hn hk hb hall
  go_enter Tryd.func18, Tryd.ntmps18
  go_wp2_with fail
  refine (hnone_at _ b r HB.out).mono ?_
  rintro e w2 ⟨rfl, hs⟩
  have HS := Lib.hid hs
  clear hs
  go_wp2_with fail
  refine (hvalid_any G _ xs _ (Ht.out.sees (H.out.see.trans HS.out)) (HV.out.sees HS.out) (fun l hl => by have := lnOk_len (HOK.out l hl); omega) (by have := HN.out; have := H.out.facts.2.2.1; omega)).mono ?_
  rintro e w3 ⟨rfl, hs⟩
  have HS3 := Lib.hid (HS.out.trans hs)
  rw [Hall.out]
  clear hs
  go_wp2_with fail
  refine ((H.out.sees HS3.out).push_in Ht.out _ xs (HV.out.sees HS3.out) HG.out HOK.out HN.out k HK.out).mono ?_
  rintro e w4 ⟨rfl, h4, hk4⟩
  have H4 := Lib.hid h4
  have HK4 := Lib.hid hk4
  clear h4 hk4
  have hz := HS3.out.size
  have hsz := H.out.see.size
  go_wp2
  go_ret
  exact ⟨rfl, H4.out.mono (fun c hc e => by rcases e with e | e; exact .inl e; exact .inr (by omega)) (fun c hc => by rcases hc with hc | hc; exact H.out.low c hc; omega), (Keeps.of_sees HS3.out).trans HK4.out⟩
theorem push_arg (h : HiF w1 F W b most first ls) (ht : Tabs w1) (v : Value) (xs : List Ln) (hv : lnEl.Rd G W v xs) (hl : ∀ l ∈ xs, l.cells.length ≤ 1000000) (hn0 : xs.length ≤ 1000000000) (hbad : (xs.all fun l => lnOk l.cells) = false) :
    Calls Tryd.prog 18 #[.pointer (some ⟨b, 0, none⟩), v] W fun e w' => e = .returned (.int .i64 2) ∧ Sees W w' := by
  have Ht := Lib.hid ht
  have H := Lib.hid h
  have HV := Lib.hid hv
  have Hl := Lib.hid hl
  obtain ⟨ao, cp, rfl, _⟩ := hv.slice'
  obtain ⟨_, _, r, g, hb, _⟩ := h
  have HB := Lib.hid hb
  have Hall := Lib.hid hbad
  clear ht hv hl hb hbad
  go_enter Tryd.func18, Tryd.ntmps18
  go_wp2_with fail
  refine (hnone_at _ b r HB.out).mono ?_
  rintro e w2 ⟨rfl, hs⟩
  have HS := Lib.hid hs
  clear hs
  go_wp2_with fail
  refine (hvalid_any G _ xs _ (Ht.out.sees (H.out.see.trans HS.out)) (HV.out.sees HS.out) Hl.out hn0).mono ?_
  rintro e w3 ⟨rfl, hs⟩
  have HS3 := Lib.hid (HS.out.trans hs)
  rw [Hall.out]
  clear hs
  go_wp2
  go_ret
  exact ⟨rfl, HS3.out⟩
end HiF
end Go.Proofs.YtpicffaghoggdaaDoor

namespace Go.Proofs.YtpicffaghoggdaaDoor
set_option linter.unusedVariables false
set_option linter.unusedSimpArgs false
open Go.RowKit

def ringNext (W : World) (r : Nat) : Int := match W.cell? ⟨r, 3, none⟩ with | some v => intOf v | none => 0
theorem RgF.len {w1 W : World} {F : Nat → Prop} {r : Nat} {most page first : Int} {ls : List Ln} {g : List (Int × Nat)} (h : RgF w1 F W r most page first ls g) : (ringNext W r - ringFirst W r).toNat = ls.length := by
  obtain ⟨a, c, h1⟩ := h.words
  rw [h1.ringFirst]
  unfold ringNext
  rw [h1.c.2.2.2.1]
  simp [intOf]
  omega
theorem OwnCells.rdcOwn {w : World} {base : Nat} {v : Value} {cs : List Cell} (h : OwnCells w base v cs) : RdC (fun c => v.ownBlock = some c) w v cs := by
  obtain ⟨ao, cap, h1, h2⟩ := h.rd
  refine ⟨ao, cap, h1, fun hne => ?_⟩
  obtain ⟨b, o, h3, h4⟩ := h2 hne
  refine ⟨b, o, h3, ?_, h4⟩
  subst h1; subst h3
  rcases h.2 with ⟨h, _⟩ | ⟨g, cap', cur, h, hb, _⟩
  · cases h
  · cases h; rfl
/-- What has been pulled so far. -/
def OutL (F : Nat → Prop) (W : World) (ob n i : Nat) (xs : List Ln) : Prop :=
  ∃ cs : Array Value, W.heap[ob]? = some (.cells cs 40 (0, 0)) ∧ cs.size = n * 2 ∧ i + xs.length = n ∧ ∀ (j : Nat) l, xs[j]? = some l → ∃ a c, cs[(i + j) * 2]? = some (.slice a l.cells.length c) ∧ cs[(i + j) * 2 + 1]? = some (.bool l.soft) ∧ RdC (fun c => ¬ F c ∧ c ≠ ob) W (.slice a l.cells.length c) l.cells
namespace OutL
variable {F G : Nat → Prop} {W W' : World} {ob n i : Nat} {xs : List Ln}
theorem lt (h : OutL F W ob n i xs) : ob < W.heap.size := by obtain ⟨cs, h1, _⟩ := h; exact (Array.getElem?_eq_some_iff.1 h1).1
theorem keeps (h : OutL F W ob n i xs) (hk : Keeps G W W') (hG : ∀ c, c < W.heap.size → G c → F c) (ho : ¬ G ob) : OutL F W' ob n i xs := by
  obtain ⟨cs, h1, h2, h3, h4⟩ := h
  refine ⟨cs, by rw [hk.block _ (Array.getElem?_eq_some_iff.1 h1).1 ho]; exact h1, h2, h3, fun j l hl => ?_⟩
  obtain ⟨a, c, e1, e2, e3⟩ := h4 j l hl
  exact ⟨a, c, e1, e2, ((e3.mono (G := fun c => (¬ F c ∧ c ≠ ob) ∧ c < W.heap.size) (fun c hc h => ⟨h, hc⟩)).keeps hk (fun c hc hg => hc.1.1 (hG c hc.2 hg))).mono (fun c _ h => h.1)⟩
theorem sees (h : OutL F W ob n i xs) (hs : Sees W W') : OutL F W' ob n i xs := h.keeps (Keeps.of_sees (F := fun _ => False) hs) (fun _ _ h => h.elim) (fun h => h)
theorem mono (h : OutL F W ob n i xs) (hFG : ∀ c, c < W.heap.size → G c → F c) : OutL G W ob n i xs := by
  obtain ⟨cs, h1, h2, h3, h4⟩ := h
  refine ⟨cs, h1, h2, h3, fun j l hl => ?_⟩
  obtain ⟨a, c, e1, e2, e3⟩ := h4 j l hl
  exact ⟨a, c, e1, e2, e3.mono (fun c hc h => ⟨fun hg => h.1 (hFG c hc hg), h.2⟩)⟩
theorem cells (h : OutL F W ob n (i + 1) xs) : (∃ u, W.cell? ⟨ob, i * 2, none⟩ = some u) ∧ (∃ u, W.cell? ⟨ob, i * 2 + 1, none⟩ = some u) ∧ ∀ k, W.frozen? ⟨ob, k, none⟩ = false := by
  obtain ⟨cs, h1, h2, h3, _⟩ := h
  refine ⟨⟨cs[i * 2]'(by omega), ?_⟩, ⟨cs[i * 2 + 1]'(by omega), ?_⟩, fun k => frozen_of_row _ _ _ _ _ h1⟩
  · rw [cell_of_row _ _ _ _ _ _ h1, Array.getElem?_eq_getElem]
  · rw [cell_of_row _ _ _ _ _ _ h1, Array.getElem?_eq_getElem]
/-- One line more. -/
theorem put (h : OutL F W ob n (i + 1) xs) (l : Ln) (a : Option Addr) (c : Nat) (hv : RdC (fun c => ¬ F c ∧ c ≠ ob) W (.slice a l.cells.length c) l.cells) :
    OutL F ((W.setCell ⟨ob, i * 2, none⟩ (.slice a l.cells.length c)).setCell ⟨ob, i * 2 + 1, none⟩ (.bool l.soft)) ob n i (l :: xs) := by
  obtain ⟨cs, h1, h2, h3, h4⟩ := h
  have hk : Keeps (fun c => c = ob) W ((W.setCell ⟨ob, i * 2, none⟩ (.slice a l.cells.length c)).setCell ⟨ob, i * 2 + 1, none⟩ (.bool l.soft)) :=
    Keeps.setCell (F := fun c => c = ob) (Keeps.setCell (F := fun c => c = ob) (Keeps.refl _ W) (p := ⟨ob, i * 2, none⟩) (fun _ => rfl) _) (p := ⟨ob, i * 2 + 1, none⟩) (fun _ => rfl) _
  have e1 := heap_setCell_same W ob (i * 2) _ _ (.slice a l.cells.length c) h1
  have e2 := heap_setCell_same _ ob (i * 2 + 1) _ _ (.bool l.soft) e1
  refine ⟨_, e2, by simpa using h2, by rw [List.length_cons]; omega, fun j x hx => ?_⟩
  cases j with
  | zero =>
    cases hx
    exact ⟨a, c, by rw [show (i + 0) * 2 = i * 2 from rfl, Array.getElem?_setIfInBounds_ne (by omega), Array.getElem?_setIfInBounds_self_of_lt (by omega)], by rw [show (i + 0) * 2 + 1 = i * 2 + 1 from rfl, Array.getElem?_setIfInBounds_self_of_lt (by simp; omega)], hv.keeps hk (fun c hc e => hc.2 e)⟩
  | succ j =>
    obtain ⟨a', c', k1, k2, k3⟩ := h4 j x (by simpa using hx)
    refine ⟨a', c', ?_, ?_, k3.keeps hk (fun c hc e => hc.2 e)⟩
    · rw [show i + (j + 1) = i + 1 + j by omega, Array.getElem?_setIfInBounds_ne (by omega), Array.getElem?_setIfInBounds_ne (by omega)]; exact k1
    · rw [show i + (j + 1) = i + 1 + j by omega, Array.getElem?_setIfInBounds_ne (by omega), Array.getElem?_setIfInBounds_ne (by omega)]; exact k2
theorem rdl (h : OutL F W ob n 0 xs) (c : Nat) : RdL (fun c => ¬ F c) W (.slice (some ⟨ob, 0, none⟩) n c) xs ∨ F ob := by
  by_cases hF : F ob
  · exact .inr hF
  obtain ⟨cs, h1, h2, h3, h4⟩ := h
  refine .inl ⟨some ⟨ob, 0, none⟩, c, by rw [show xs.length = n by omega], fun _ => ⟨ob, 0, rfl, hF, fun i l hl => ?_⟩⟩
  obtain ⟨a, c', k1, k2, k3⟩ := h4 i l hl
  rw [Nat.zero_add] at k1 k2
  exact ⟨_, by rw [cell_of_row _ _ _ _ _ _ h1, Nat.zero_add]; exact k1, by rw [cell_of_row _ _ _ _ _ _ h1, Nat.zero_add]; exact k2, k3.mono (fun c _ h => h.1)⟩
end OutL

namespace HiF
variable {w1 W W' : World} {F G : Nat → Prop} {b : Nat} {most first : Int} {ls : List Ln}
set_option maxRecDepth 100000 in
set_option maxHeartbeats 2000000 in
theorem get (h : HiF w1 F W b most first ls) (n : Int) (i : Nat) (l : Ln) (hn : n = first + i) (hl : ls[i]? = some l) :
    Calls Tryd.prog 22 #[.pointer (some ⟨b, 0, none⟩), .int .i64 n] W fun e w' => ∃ v', e = .returned (.tuple #[.agg #[v', .bool l.soft], .int .i64 0]) ∧ OwnCells w' W.heap.size v' l.cells ∧ Sees W w' := by
  obtain ⟨_, _, r, g, hb, hr⟩ := h
  have HB := Lib.hid hb
  have HR := Lib.hid hr
  have HA := Lib.hid ((Sees.refl W).alloc (.cells #[.slice none 0 0, .bool false] 40))
  have Hn := Lib.hid hn
  have Hl := Lib.hid hl
  clear hb hr hn hl
  go_enter Tryd.func22, Tryd.ntmps22
  go_wp2_with fail
  refine (hnone_at _ b r (HB.out.sees HA.out)).mono ?_
  rintro e w2 ⟨rfl, hs⟩
  have HS := Lib.hid (HA.out.trans hs)
  have c0 := (HB.out.sees HS.out).c
  have x0 : w2.cell? ⟨W.heap.size, 0, none⟩ = some (.slice none 0 0) := by rw [hs.cells _ _ (by simp)]; simp
  have x1 : w2.cell? ⟨W.heap.size, 1, none⟩ = some (.bool false) := by rw [hs.cells _ _ (by simp)]; simp
  have f1 : ∀ i, w2.frozen? ⟨W.heap.size, i, none⟩ = false := fun i => by rw [hs.frozens _ _ (by simp)]; simp
  have X0 := Lib.hid x0
  have X1 := Lib.hid x1
  have F1 := Lib.hid f1
  have hz : W.heap.size < w2.heap.size := by have := hs.size; simp at this; omega
  have HZ := Lib.hid hz
  clear hs x0 x1 f1 hz
  go_wp2_with fail
  refine ((HR.out.sees HS.out).get n i l Hn.out Hl.out).mono ?_
  rintro e w3 ⟨v', rfl, ho, hs⟩
  have y0 := hs.cell X0.out
  have y1 := hs.cell X1.out
  have f1 : ∀ i, w3.frozen? ⟨W.heap.size, i, none⟩ = false := fun i => by rw [hs.frozens _ _ HZ.out]; exact F1.out i
  obtain ⟨a', c', rfl⟩ := ho.slice
  have hz := HS.out.size
  have HO := Lib.hid (ho.mono (base' := W.heap.size) hz)
  have HO2 := Lib.hid ho
  have HS3 := Lib.hid (HS.out.trans hs)
  obtain ⟨n1, hn1⟩ : ∃ n1, n1 = l.cells.length := ⟨_, rfl⟩
  rw [← hn1] at HO HO2 ⊢
  clear hs ho hn1 c0
  go_wp2
  refine bodyPost_ret_by (v := .tuple #[.agg #[.slice a' n1 c', .bool l.soft], .int .i64 0]) (by simp [results, Tryd.results22, go_sem, y0, y1]) rfl ⟨_, rfl, ?_, ?_⟩
  · have hk : Keeps (fun c => c = W.heap.size) w3 ((w3.setCell ⟨W.heap.size, 0, none⟩ (.slice a' n1 c')).setCell ⟨W.heap.size, 1, none⟩ (.bool l.soft)) :=
      Keeps.setCell (F := fun c => c = W.heap.size) (Keeps.setCell (F := fun c => c = W.heap.size) (Keeps.refl _ w3) (p := ⟨W.heap.size, 0, none⟩) (fun _ => rfl) _) (p := ⟨W.heap.size, 1, none⟩) (fun _ => rfl) _
    exact El.rowKeeps HO.out hk (fun c hc e => by have := (El.rowLt HO2.out hc).1; have := HZ.out; omega)
  · exact (HS3.out.setCell (p := ⟨W.heap.size, 0, none⟩) (Nat.le_refl _) _).setCell (p := ⟨W.heap.size, 1, none⟩) (Nat.le_refl _) _
set_option maxRecDepth 100000 in
set_option maxHeartbeats 2000000 in
theorem get_err (h : HiF w1 F W b most first ls) (n er : Int) (hn : ((n < 0 ∨ first + ls.length ≤ n) ∧ er = 3) ∨ (0 ≤ n ∧ n < first ∧ er = 14)) :
    Calls Tryd.prog 22 #[.pointer (some ⟨b, 0, none⟩), .int .i64 n] W fun e w' => e = .returned (.tuple #[.agg #[.slice none 0 0, .bool false], .int .i64 er]) ∧ Sees W w' := by
  obtain ⟨_, _, r, g, hb, hr⟩ := h
  have HB := Lib.hid hb
  have HR := Lib.hid hr
  have HA := Lib.hid ((Sees.refl W).alloc (.cells #[.slice none 0 0, .bool false] 40))
  have Hn := Lib.hid hn
  clear hb hr hn
  go_enter Tryd.func22, Tryd.ntmps22
  go_wp2_with fail
  refine (hnone_at _ b r (HB.out.sees HA.out)).mono ?_
  rintro e w2 ⟨rfl, hs⟩
  have HS := Lib.hid (HA.out.trans hs)
  have c0 := (HB.out.sees HS.out).c
  have X0 := Lib.hid (show w2.cell? ⟨W.heap.size, 0, none⟩ = some (.slice none 0 0) by rw [hs.cells _ _ (by simp)]; simp)
  have X1 := Lib.hid (show w2.cell? ⟨W.heap.size, 1, none⟩ = some (.bool false) by rw [hs.cells _ _ (by simp)]; simp)
  have F1 := Lib.hid (show ∀ i, w2.frozen? ⟨W.heap.size, i, none⟩ = false from fun i => by rw [hs.frozens _ _ (by simp)]; simp)
  have HZ := Lib.hid (show W.heap.size < w2.heap.size by have := hs.size; simp at this; omega)
  clear hs
  go_wp2_with fail
  refine ((HR.out.sees HS.out).get_err n er Hn.out).mono ?_
  rintro e w3 ⟨rfl, hs⟩
  have y0 := hs.cell X0.out
  have y1 := hs.cell X1.out
  have f1 : ∀ i, w3.frozen? ⟨W.heap.size, i, none⟩ = false := fun i => by rw [hs.frozens _ _ HZ.out]; exact F1.out i
  have HS3 := Lib.hid (HS.out.trans hs)
  clear hs c0
  go_wp2
  refine bodyPost_ret_by (v := .tuple #[.agg #[.slice none 0 0, .bool false], .int .i64 er]) (by simp [results, Tryd.results22, go_sem, y0, y1]) rfl ⟨rfl, ?_⟩
  exact (HS3.out.setCell (p := ⟨W.heap.size, 0, none⟩) (Nat.le_refl _) _).setCell (p := ⟨W.heap.size, 1, none⟩) (Nat.le_refl _) _

theorem last_none (h : HiF w1 F W b most first ls) (n : Int) (hn : n < 1) :
    Calls Tryd.prog 20 #[.pointer (some ⟨b, 0, none⟩), .int .i64 n] W fun e w' => e = .returned (.slice none 0 0) ∧ Sees W w' := by
  obtain ⟨_, _, r, g, hb, hr⟩ := h
  have HB := Lib.hid hb
  have d1 : decide (n < 1) = true := decide_eq_true hn
  clear hb hr hn
  go_enter Tryd.func20, Tryd.ntmps20
  go_wp2_with fail
  refine (hnone_at _ b r HB.out).mono ?_
  rintro e w2 ⟨rfl, hs⟩
  go_wp2
  go_ret
  exact ⟨rfl, hs⟩
set_option maxRecDepth 100000 in
set_option maxHeartbeats 4000000 in
theorem last (h : HiF w1 F W b most first ls) (n : Int) (hn : 1 ≤ n) :
    Calls Tryd.prog 20 #[.pointer (some ⟨b, 0, none⟩), .int .i64 n] W fun e w' => ∃ v, e = .returned v ∧ lnEl.Own (fun c => W.heap.size ≤ c) w' v (ls.drop (ls.length - n.toNat)) ∧ Sees W w' := by
  have fa := h.facts
  obtain ⟨_, _, r, g, hb, hr⟩ := h
  have HB := Lib.hid hb
  have HR := Lib.hid hr
  have d1 : decide (n < 1) = false := decide_eq_false (by omega)
  obtain ⟨f, hf⟩ : ∃ f : Nat, first = f := Int.eq_ofNat_of_zero_le fa.2.2.1
  subst hf
  obtain ⟨L, hL⟩ : ∃ L, L = ls.length := ⟨_, rfl⟩
  rw [← hL] at fa ⊢
  obtain ⟨m, hm⟩ : ∃ m : Nat, m = min n.toNat L := ⟨_, rfl⟩
  have hL1 : L ≤ 1048576 := by have := fa.1; have := fa.2.1; have := fa.2.2.2.2; omega
  have hf1 : (f : Int) + L ≤ 1000000000 := fa.2.2.2.1
  have hmL : m ≤ L := by omega
  have hm1 : (if (L : Int) < n then (L : Int) else n) = (m : Int) := by split <;> omega
  have hw1 : IntKind.i64.wrap (((f + L : Nat) : Int) - m) = ((f + L - m : Nat) : Int) := by rw [IntWalk.i64_in _ (by omega)]; omega
  obtain ⟨N, hN⟩ : ∃ N, N = f + L := ⟨_, rfl⟩
  obtain ⟨M, hM⟩ : ∃ M, M = N - m := ⟨_, rfl⟩
  rw [← hN, ← hM] at hw1
  have Hm := Lib.hid hm
  have HL := Lib.hid hL
  have HN := Lib.hid hN
  have HM := Lib.hid hM
  clear hb hr fa hm hL hN hM
  go_enter Tryd.func20, Tryd.ntmps20
  go_wp2_with fail
  refine (hnone_at _ b r HB.out).mono ?_
  rintro e w2 ⟨rfl, hs⟩
  have HS := Lib.hid hs
  clear hs
  go_wp2_with fail
  refine wpFrom_go (by kernel_rfl) (by kernel_rfl) (fun hB w3 hs3 => ?_)
  have HS3 := Lib.hid (HS.out.trans hs3)
  have HB3 := Lib.hid (HB.out.sees HS3.out)
  have HR3 := Lib.hid (HR.out.sees HS3.out)
  clear hs3
  have hval : ∀ x v, (Spec.is x).val v = x := fun _ _ => rfl
  have hst : segStay (Sees w3) [.is (.pointer (some ⟨b, 0, none⟩)), .is (.pointer (some ⟨b, 0, none⟩)), .is (.pointer (some ⟨b, 0, none⟩)), .is (.pointer (some ⟨r, 0, none⟩)),
      .is (.pointer (some ⟨b, 0, none⟩)), .is (.pointer (some ⟨b, 0, none⟩)), .is (.pointer (some ⟨b, 0, none⟩)), .is (.pointer (some ⟨r, 0, none⟩)), .is (.int .i64 (N : Int)), .is (.int .i64 n),
      .is (.pointer (some ⟨b, 0, none⟩)), .is (.pointer (some ⟨b, 0, none⟩)), .is (.pointer (some ⟨b, 0, none⟩)), .is (.pointer (some ⟨r, 0, none⟩)), .is (.int .i64 (L : Int)), .is (.int .i64 (m : Int)), .is (.int .i64 (M : Int)),
      .is (.pointer (some ⟨b, 0, none⟩)), .is (.pointer (some ⟨b, 0, none⟩)), .is (.pointer (some ⟨b, 0, none⟩)), .is (.pointer (some ⟨r, 0, none⟩)), .is (.int .i64 (N : Int))] := trivial
  refine wpFrom_any 22 _ hB (by kernel_rfl) rfl hst (by simp only [List.cons_append, List.nil_append, List.drop_succ_cons, List.drop_zero, List.take_succ_cons, List.take_zero, Nat.reduceSub]; rfl) ?_
  refine ⟨fun vs W hI hV => .inl ⟨by clear hI hV hst; go_simp, .inl (by clear hI hV hst; (try simp only [Act.put, hval, hval2, List.setIfInBounds_toArray, List.set_cons_zero, List.set_cons_succ]); go_simp)⟩, ?_⟩
  refine ⟨fun vs W hI hV => .inl ⟨by clear hI hV hst; go_simp, .inl (by clear hI hV hst; (try simp only [Act.put, hval, hval2, List.setIfInBounds_toArray, List.set_cons_zero, List.set_cons_succ]); go_simp)⟩, ?_⟩
  refine ⟨fun vs W hI hV => .inl ⟨by clear hI hV hst; go_simp, .inl (by clear hI hV hst; (try simp only [Act.put, hval, hval2, List.setIfInBounds_toArray, List.set_cons_zero, List.set_cons_succ]); go_simp)⟩, ?_⟩
  refine ⟨fun vs W hI hV => .inl ⟨by clear hI hV hst; go_simp, .inl (by have q := (HB3.out.sees hI).c; clear hI hV hst; (try simp only [Act.put, hval, hval2, List.setIfInBounds_toArray, List.set_cons_zero, List.set_cons_succ]); go_simp)⟩, ?_⟩
  refine ⟨fun vs W hI hV => .inl ⟨by clear hI hV hst; go_simp, .inl (by clear hI hV hst; (try simp only [Act.put, hval, hval2, List.setIfInBounds_toArray, List.set_cons_zero, List.set_cons_succ]); go_simp)⟩, ?_⟩
  refine ⟨fun vs W hI hV => .inl ⟨by clear hI hV hst; go_simp, .inl (by clear hI hV hst; (try simp only [Act.put, hval, hval2, List.setIfInBounds_toArray, List.set_cons_zero, List.set_cons_succ]); go_simp)⟩, ?_⟩
  refine ⟨fun vs W hI hV => .inl ⟨by clear hI hV hst; go_simp, .inl (by clear hI hV hst; (try simp only [Act.put, hval, hval2, List.setIfInBounds_toArray, List.set_cons_zero, List.set_cons_succ]); go_simp)⟩, ?_⟩
  refine ⟨fun vs W hI hV => .inl ⟨by clear hI hV hst; go_simp, .inl (by have q := (HB3.out.sees hI).c; clear hI hV hst; (try simp only [Act.put, hval, hval2, List.setIfInBounds_toArray, List.set_cons_zero, List.set_cons_succ]); go_simp)⟩, ?_⟩
  refine ⟨fun vs W hI hV => .inl ⟨by clear hI hV hst; go_simp, .inr (.inr ⟨62, #[.pointer (some ⟨r, 0, none⟩)], by clear hI hV hst; (try simp only [Act.put, hval, hval2, List.setIfInBounds_toArray, List.set_cons_zero, List.set_cons_succ]); go_simp, ?_⟩)⟩, ?_⟩
  · refine ((HR3.out.sees hI).rgnext (N : Int) (by rw [HN.out, ← HL.out]; omega)).mono ?_
    rintro e w' ⟨rfl, hs⟩
    exact ⟨by simp, hs⟩
  refine ⟨fun vs W hI hV => .inl ⟨by clear hI hV hst; go_simp, .inl (by clear hI hV hst; (try simp only [Act.put, hval, hval2, List.setIfInBounds_toArray, List.set_cons_zero, List.set_cons_succ]); go_simp)⟩, ?_⟩
  refine ⟨fun vs W hI hV => .inl ⟨by clear hI hV hst; go_simp, .inl (by clear hI hV hst; (try simp only [Act.put, hval, hval2, List.setIfInBounds_toArray, List.set_cons_zero, List.set_cons_succ]); go_simp)⟩, ?_⟩
  refine ⟨fun vs W hI hV => .inl ⟨by clear hI hV hst; go_simp, .inl (by clear hI hV hst; (try simp only [Act.put, hval, hval2, List.setIfInBounds_toArray, List.set_cons_zero, List.set_cons_succ]); go_simp)⟩, ?_⟩
  refine ⟨fun vs W hI hV => .inl ⟨by clear hI hV hst; go_simp, .inl (by clear hI hV hst; (try simp only [Act.put, hval, hval2, List.setIfInBounds_toArray, List.set_cons_zero, List.set_cons_succ]); go_simp)⟩, ?_⟩
  refine ⟨fun vs W hI hV => .inl ⟨by clear hI hV hst; go_simp, .inl (by have q := (HB3.out.sees hI).c; clear hI hV hst; (try simp only [Act.put, hval, hval2, List.setIfInBounds_toArray, List.set_cons_zero, List.set_cons_succ]); go_simp)⟩, ?_⟩
  refine ⟨fun vs W hI hV => .inl ⟨by clear hI hV hst; go_simp, .inr (.inr ⟨63, #[.pointer (some ⟨r, 0, none⟩)], by clear hI hV hst; (try simp only [Act.put, hval, hval2, List.setIfInBounds_toArray, List.set_cons_zero, List.set_cons_succ]); go_simp, ?_⟩)⟩, ?_⟩
  · refine ((HR3.out.sees hI).rglen (L : Int) (by rw [HL.out])).mono ?_
    rintro e w' ⟨rfl, hs⟩
    exact ⟨by simp, hs⟩
  refine ⟨fun vs W hI hV => .inl ⟨by clear hI hV hst; go_simp, .inl (by clear hI hV hst; (try simp only [Act.put, hval, hval2, List.setIfInBounds_toArray, List.set_cons_zero, List.set_cons_succ]); go_simp)⟩, ?_⟩
  refine ⟨fun vs W hI hV => .inl ⟨by clear hI hV hst; go_simp, .inl (by clear hI hV hst; (try simp only [Act.put, hval, hval2, List.setIfInBounds_toArray, List.set_cons_zero, List.set_cons_succ]); go_simp)⟩, ?_⟩
  refine ⟨fun vs W hI hV => .inl ⟨by clear hI hV hst; go_simp, .inl (by clear hI hV hst; (try simp only [Act.put, hval, hval2, List.setIfInBounds_toArray, List.set_cons_zero, List.set_cons_succ]); go_simp)⟩, ?_⟩
  refine ⟨fun vs W hI hV => .inl ⟨by clear hI hV hst; go_simp, .inl (by clear hI hV hst; (try simp only [Act.put, hval, hval2, List.setIfInBounds_toArray, List.set_cons_zero, List.set_cons_succ]); go_simp)⟩, ?_⟩
  refine ⟨fun vs W hI hV => .inl ⟨by clear hI hV hst; go_simp, .inl (by clear hI hV hst; (try simp only [Act.put, hval, hval2, List.setIfInBounds_toArray, List.set_cons_zero, List.set_cons_succ]); go_simp)⟩, ?_⟩
  refine ⟨fun vs W hI hV => .inl ⟨by clear hI hV hst; go_simp, .inl (by have q := (HB3.out.sees hI).c; clear hI hV hst; (try simp only [Act.put, hval, hval2, List.setIfInBounds_toArray, List.set_cons_zero, List.set_cons_succ]); go_simp)⟩, ?_⟩
  refine ⟨fun vs W hI hV => .inl ⟨by clear hI hV hst; go_simp, .inr (.inr ⟨62, #[.pointer (some ⟨r, 0, none⟩)], by clear hI hV hst; (try simp only [Act.put, hval, hval2, List.setIfInBounds_toArray, List.set_cons_zero, List.set_cons_succ]); go_simp, ?_⟩)⟩, ?_⟩
  · refine ((HR3.out.sees hI).rgnext (N : Int) (by rw [HN.out, ← HL.out]; omega)).mono ?_
    rintro e w' ⟨rfl, hs⟩
    exact ⟨by simp, hs⟩
  intro vs w4 hI hV
  have HS4 := Lib.hid (HS3.out.trans hI)
  clear hI hV hst
  (try simp only [Act.put, hval, hval2, List.setIfInBounds_toArray, List.set_cons_zero, List.set_cons_succ])
  go_simp
  refine wpFrom_to 24 hB (fun _ _ _ _ _ h => h) (by kernel_rfl) (by simp only [List.cons_append, List.nil_append, List.drop_succ_cons, List.drop_zero, List.take_succ_cons, List.take_zero, Nat.reduceSub]; rfl) ?_
  go_wp2_with fail
  refine ((HR.out.sees HS4.out).range (M : Int) (N : Int) (L - m) L (by rw [HM.out, HN.out]; omega) (by rw [HN.out]; omega) (by omega) (by rw [HL.out]; exact Nat.le_refl _)).mono ?_
  rintro e w5 ⟨v, rfl, ho, hs⟩
  have hsg : seg (L - m) L ls = ls.drop (L - n.toNat) := by
    unfold seg
    rw [List.take_of_length_le (by rw [HL.out]; exact Nat.le_refl _), Hm.out]
    congr 1
    omega
  rw [hsg] at ho
  have hz4 := HS4.out.size
  obtain ⟨av, ac, rfl, _⟩ := ho.slice
  have HO := Lib.hid (ho.mono (G := fun c => W.heap.size ≤ c) (fun c _ h => by omega))
  have HS5 := Lib.hid (HS4.out.trans hs)
  obtain ⟨q, hq⟩ : ∃ q, q = (ls.drop (L - n.toNat)).length := ⟨_, rfl⟩
  rw [← hq] at HO ⊢
  clear ho hs hsg hq
  go_wp2_with fail
  have hst : segStay (Sees w5) [.is (.slice av q ac), .is (.int .i64 0), .is (.slice av q ac), .is (.int .i64 0)] := trivial
  refine wpFrom_any 28 _ hB (by kernel_rfl) rfl hst (by simp only [List.cons_append, List.nil_append, List.drop_succ_cons, List.drop_zero, List.take_succ_cons, List.take_zero, Nat.reduceSub]; rfl) ?_
  refine ⟨fun vs W hI hV => .inl ⟨by clear hI hV hst; go_simp, .inl (by clear hI hV hst; (try simp only [Act.put, hval, hval2, List.setIfInBounds_toArray, List.set_cons_zero, List.set_cons_succ]); go_simp)⟩, ?_⟩
  refine ⟨fun vs W hI hV => .inl ⟨by clear hI hV hst; go_simp, .inl (by clear hI hV hst; (try simp only [Act.put, hval, hval2, List.setIfInBounds_toArray, List.set_cons_zero, List.set_cons_succ]); go_simp)⟩, ?_⟩
  refine ⟨fun vs W hI hV => .inl ⟨by clear hI hV hst; go_simp, .inl (by clear hI hV hst; (try simp only [Act.put, hval, hval2, List.setIfInBounds_toArray, List.set_cons_zero, List.set_cons_succ]); go_simp)⟩, ?_⟩
  refine ⟨fun vs W hI hV => .inl ⟨by clear hI hV hst; go_simp, .inl (by clear hI hV hst; (try simp only [Act.put, hval, hval2, List.setIfInBounds_toArray, List.set_cons_zero, List.set_cons_succ]); go_simp)⟩, ?_⟩
  intro vs w6 hI hV
  have HO6 := Lib.hid (HO.out.sees hI)
  have HS6 := Lib.hid (HS5.out.trans hI)
  clear hI hV hst
  (try simp only [Act.put, hval, hval2, List.setIfInBounds_toArray, List.set_cons_zero, List.set_cons_succ])
  go_simp
  refine wpFrom_end rfl ?_
  go_wp2
  go_ret
  exact ⟨_, rfl, HO6.out, HS6.out⟩
theorem all (h : HiF w1 F W b most first ls) :
    Calls Tryd.prog 19 #[.pointer (some ⟨b, 0, none⟩)] W fun e w' => ∃ v, e = .returned v ∧ lnEl.Own (fun c => W.heap.size ≤ c) w' v ls ∧ Sees W w' := by
  have H := Lib.hid h
  have fa := h.facts
  have hd : ls.drop (ls.length - (1048576 : Int).toNat) = ls := by
    rw [show ls.length - (1048576 : Int).toNat = 0 by have := fa.2.1; have := fa.2.2.2.2; omega]; rfl
  have Hd := Lib.hid hd
  clear h fa hd
  go_enter Tryd.func19, Tryd.ntmps19
  go_wp2_with fail
  refine (H.out.last 1048576 (by decide)).mono ?_
  rintro e w2 ⟨v, rfl, ho, hs⟩
  rw [Hd.out] at ho
  have HO := Lib.hid ho
  have HS := Lib.hid hs
  clear ho hs
  go_wp2
  go_ret
  exact ⟨_, rfl, HO.out, HS.out⟩
end HiF
end Go.Proofs.YtpicffaghoggdaaDoor

namespace Go.Proofs.YtpicffaghoggdaaDoor
set_option linter.unusedVariables false
set_option linter.unusedSimpArgs false
open Go.RowKit

theorem take_snoc_at {ls : List Ln} {j : Nat} (h : j < ls.length) : ∃ l, ls[j]? = some l ∧ ls.take (j + 1) = ls.take j ++ [l] ∧ ls.drop j = l :: ls.drop (j + 1) :=
  ⟨ls[j], List.getElem?_eq_getElem h, by rw [List.take_add_one, List.getElem?_eq_getElem h]; rfl, List.drop_eq_getElem_cons h⟩
namespace HiF
variable {w1 W W' : World} {F G : Nat → Prop} {b : Nat} {most first : Int} {ls : List Ln}
set_option maxRecDepth 100000 in
set_option maxHeartbeats 4000000 in
theorem replace (h : HiF w1 F W b most first ls) (ht : Tabs w1) (v : Value) (xs : List Ln) (hv : lnEl.Rd G W v xs) (hG : ∀ c, G c → ¬ F c) (hok : ∀ l ∈ xs, lnOk l.cells = true) (hn : first + xs.length ≤ 1000000000) (k : Nat) (hk : k = xs.length - most.toNat) :
    Calls Tryd.prog 52 #[.pointer (some ⟨b, 0, none⟩), v] W fun e w' => e = .returned (.int .i64 0) ∧ HiF w1 (fun c => F c ∨ W.heap.size ≤ c) w' b most (first + k) (xs.drop k) ∧ Keeps F W w' := by
  have Ht := Lib.hid ht
  have H := Lib.hid h
  have HV := Lib.hid (hv.mono (G := fun c => ¬ F c ∧ c < W.heap.size) (fun c hc hg => ⟨hG c hg, hc⟩))
  have HOK := Lib.hid hok
  have HN := Lib.hid hn
  have HK := Lib.hid hk
  obtain ⟨ao, cp, rfl, _⟩ := hv.slice'
  obtain ⟨hb1, hb2, r, g, hb, hr⟩ := h
  have HB := Lib.hid hb
  have HR := Lib.hid hr
  have Hall := Lib.hid (show (xs.all fun l => lnOk l.cells) = true by rw [List.all_eq_true]; exact hok)
  clear ht hv hG hok hn hk hb hr
  go_enter Tryd.func52, Tryd.ntmps52
  go_wp2_with fail
  refine (hnone_at _ b r HB.out).mono ?_
  rintro e w2 ⟨rfl, hs⟩
  have HS := Lib.hid hs
  clear hs
  go_wp2_with fail
  refine (hvalid_any _ _ xs _ (Ht.out.sees (H.out.see.trans HS.out)) (HV.out.sees HS.out) (fun l hl => by have := lnOk_len (HOK.out l hl); omega) (by have := HN.out; have := H.out.facts.2.2.1; omega)).mono ?_
  rintro e w3 ⟨rfl, hs⟩
  have HS3 := Lib.hid (HS.out.trans hs)
  rw [Hall.out]
  clear hs
  go_wp2_with fail
  go_loopw [] (fun wr => ∃ (j : Nat) (gj : List (Int × Nat)), j ≤ ls.length ∧ RgF w1 (fun c => F c ∧ c ≠ b) wr r most 64 first (ls.take j) gj ∧ Bx wr b 77 (.pointer (some ⟨r, 0, none⟩)) ∧ Keeps F W wr) (fun wr => (ringNext wr r - ringFirst wr r).toNat)
  case atStart => exact ⟨ls.length, g, Nat.le_refl _, by rw [List.take_length]; exact HR.out.sees HS3.out, HB.out.sees HS3.out, Keeps.of_sees HS3.out⟩
  case round =>
    obtain ⟨j, gj, hj, hR, hB, hkr⟩ := hrel
    have HKr := Lib.hid hkr
    have HRj := Lib.hid hR
    have HBj := Lib.hid hB
    have Hmeas := Lib.hid hR.len
    have hlen : (ls.take j).length = j := by rw [List.length_take]; omega
    have Hlen := Lib.hid hlen
    have c0 := hB.c
    clear hkr hR hB hlen
    go_wp2_with fail
    refine (HRj.out.rglen (j : Int) (by rw [Hlen.out])).mono ?_
    rintro e w4 ⟨rfl, hs⟩
    have HR4 := Lib.hid (HRj.out.sees hs)
    have HB4 := Lib.hid (HBj.out.sees hs)
    have HK4 := Lib.hid (HKr.out.trans (Keeps.of_sees hs))
    clear hs c0
    cases j with
    | zero =>
      go_wp2_with fail
      have HH := Lib.hid (show HiF w1 F w4 b most first [] from ⟨hb1, hb2, r, gj, HB4.out, HR4.out⟩)
      refine (HH.out.push_in Ht.out _ xs (HV.out.keeps HK4.out (fun c hc => hc.1)) (fun c hc => hc.1) HOK.out (by simpa using HN.out) k (by rw [HK.out]; simp)).mono ?_
      rintro e w5 ⟨rfl, h5, hk5⟩
      rw [List.nil_append] at h5
      have H5 := Lib.hid h5
      have HK5 := Lib.hid hk5
      clear h5 hk5
      have hz := HK4.out.size
      have hsz := H.out.see.size
      go_wp2
      go_ret
      exact ⟨rfl, H5.out.mono (fun c hc e => by rcases e with e | e; exact .inl e; exact .inr (by omega)) (fun c hc => by rcases hc with hc | hc; exact H.out.low c hc; omega), HK4.out.trans HK5.out⟩
    | succ j =>
      obtain ⟨l, hl, ht2, _⟩ := take_snoc_at (ls := ls) (j := j) (by omega)
      rw [ht2] at HR4
      have t0 : decide (((j + 1 : Nat) : Int) > 0) = true := decide_eq_true (by omega)
      have t1 : decide (0 < j + 1) = true := decide_eq_true (by omega)
      have c0 := HB4.out.c
      clear hl ht2
      go_wp2_with fail
      refine (RgF.pop l HR4.out).mono ?_
      rintro e w5 ⟨v', rfl, _, _, hr5, hk5⟩
      have HR5 := Lib.hid (hr5.mono (G := fun c => F c ∧ c ≠ b) (fun c _ e => e.1) (fun c hc => H.out.low c hc.1))
      have HK5 := Lib.hid hk5
      clear hr5 hk5 c0
      go_wp2
      refine ⟨⟨j, _, by omega, HR5.out, HB4.out.keeps HK5.out (fun e => e.2 rfl), HK4.out.trans (HK5.out.mono (fun c _ e => e.1))⟩, ?_⟩
      rw [HR5.out.len, Hmeas.out, Hlen.out, List.length_take]
      omega
theorem replace_arg (h : HiF w1 F W b most first ls) (ht : Tabs w1) (v : Value) (xs : List Ln) (hv : lnEl.Rd G W v xs) (hl : ∀ l ∈ xs, l.cells.length ≤ 1000000) (hn0 : xs.length ≤ 1000000000) (hbad : (xs.all fun l => lnOk l.cells) = false) :
    Calls Tryd.prog 52 #[.pointer (some ⟨b, 0, none⟩), v] W fun e w' => e = .returned (.int .i64 2) ∧ Sees W w' := by
  have Ht := Lib.hid ht
  have H := Lib.hid h
  have HV := Lib.hid hv
  have Hl := Lib.hid hl
  obtain ⟨ao, cp, rfl, _⟩ := hv.slice'
  obtain ⟨_, _, r, g, hb, _⟩ := h
  have HB := Lib.hid hb
  have Hall := Lib.hid hbad
  clear ht hv hl hb hbad
  go_enter Tryd.func52, Tryd.ntmps52
  go_wp2_with fail
  refine (hnone_at _ b r HB.out).mono ?_
  rintro e w2 ⟨rfl, hs⟩
  have HS := Lib.hid hs
  clear hs
  go_wp2_with fail
  refine (hvalid_any G _ xs _ (Ht.out.sees (H.out.see.trans HS.out)) (HV.out.sees HS.out) Hl.out hn0).mono ?_
  rintro e w3 ⟨rfl, hs⟩
  have HS3 := Lib.hid (HS.out.trans hs)
  rw [Hall.out]
  clear hs
  go_wp2
  go_ret
  exact ⟨rfl, HS3.out⟩

theorem pull_arg (h : HiF w1 F W b most first ls) (n : Int) (hn : n < 0) :
    Calls Tryd.prog 66 #[.pointer (some ⟨b, 0, none⟩), .int .i64 n] W fun e w' => e = .returned (.tuple #[.slice none 0 0, .int .i64 2]) ∧ Sees W w' := by
  obtain ⟨_, _, r, g, hb, _⟩ := h
  have HB := Lib.hid hb
  have d1 : decide (n < 0) = true := decide_eq_true hn
  clear hb hn
  go_enter Tryd.func66, Tryd.ntmps66
  go_wp2_with fail
  refine (hnone_at _ b r HB.out).mono ?_
  rintro e w2 ⟨rfl, hs⟩
  go_wp2
  go_ret2
  exact ⟨rfl, hs⟩
theorem pull_range (h : HiF w1 F W b most first ls) (n : Int) (hn : (ls.length : Int) < n) :
    Calls Tryd.prog 66 #[.pointer (some ⟨b, 0, none⟩), .int .i64 n] W fun e w' => e = .returned (.tuple #[.slice none 0 0, .int .i64 3]) ∧ Sees W w' := by
  obtain ⟨_, _, r, g, hb, hr⟩ := h
  have HB := Lib.hid hb
  have HR := Lib.hid hr
  obtain ⟨L, hL⟩ : ∃ L, L = ls.length := ⟨_, rfl⟩
  rw [← hL] at hn
  have HL := Lib.hid hL
  have d1 : decide (n < 0) = false := decide_eq_false (by omega)
  have d2 : decide (n > (L : Int)) = true := decide_eq_true hn
  have d2' : decide ((L : Int) < n) = true := decide_eq_true hn
  clear hb hn hr hL
  go_enter Tryd.func66, Tryd.ntmps66
  go_wp2_with fail
  refine (hnone_at _ b r HB.out).mono ?_
  rintro e w2 ⟨rfl, hs⟩
  have HS := Lib.hid hs
  have c0 := (HB.out.sees hs).c
  clear hs
  go_wp2_with fail
  refine ((HR.out.sees HS.out).rglen (L : Int) (by rw [HL.out])).mono ?_
  rintro e w3 ⟨rfl, hs⟩
  have HS3 := Lib.hid (HS.out.trans hs)
  clear hs
  go_wp2
  go_ret2
  exact ⟨rfl, HS3.out⟩
set_option maxRecDepth 100000 in
set_option maxHeartbeats 4000000 in
theorem pull (h : HiF w1 F W b most first ls) (n : Nat) (hn : n ≤ ls.length) (hn2 : n ≤ 1000000) :
    Calls Tryd.prog 66 #[.pointer (some ⟨b, 0, none⟩), .int .i64 n] W fun e w' => ∃ v F', e = .returned (.tuple #[v, .int .i64 0]) ∧ RdL (fun c => ¬ F' c) w' v (ls.drop (ls.length - n)) ∧ HiF w1 F' w' b most first (ls.take (ls.length - n)) ∧ Keeps F W w' ∧ ∀ c, F' c → F c := by
  have H := Lib.hid h.cut
  have hlow := h.see.size
  obtain ⟨_, _, r, g, hb, hr⟩ := h
  have HB := Lib.hid hb
  have HR := Lib.hid hr
  obtain ⟨L, hL⟩ : ∃ L, L = ls.length := ⟨_, rfl⟩
  rw [← hL] at hn ⊢
  have HL := Lib.hid hL
  have d1 : decide ((n : Int) < 0) = false := decide_eq_false (by omega)
  have d2 : decide ((n : Int) > (L : Int)) = false := decide_eq_false (by omega)
  have d2' : decide (L < n) = false := decide_eq_false (by omega)
  have hmk := Lib.hid (fun W => El.run_make_own (E := lnEl) (P := Tryd.prog) (st := 22) [.slice none 0 0, .bool false] ⟨[], false⟩ Tryd.underlying22 (by kernel_rfl) (fun i hi => by
    have hinfo : (Tryd.prog.info? 40).map (fun i => i.bytes) = some 32 := by kernel_rfl
    rw [show lnEl.ty = 40 from rfl] at hi
    rw [hi] at hinfo
    simp at hinfo; omega) rfl rfl (fun F w => ⟨_, rfl, El.Own.nil _ _⟩) n hn2 W)
  clear hb hr hL
  go_enter Tryd.func66, Tryd.ntmps66
  go_wp2_with fail
  refine (hnone_at _ b r HB.out).mono ?_
  rintro e w2 ⟨rfl, hs⟩
  have HS := Lib.hid hs
  have c0 := (HB.out.sees hs).c
  clear hs
  go_wp2_with fail
  refine ((HR.out.sees HS.out).rglen (L : Int) (by rw [HL.out])).mono ?_
  rintro e w3 ⟨rfl, hs⟩
  have HS3 := Lib.hid (HS.out.trans hs)
  obtain ⟨hmk1, _⟩ := hmk.out w3
  clear hs c0
  go_wp2_with fail
  clear hmk1
  refine wp_world (fun w4 hw4 => ?_)
  have hz3 := HS3.out.size
  have S4 := Lib.hid (HS3.out.trans (show Sees w3 w4 by subst hw4; exact (Sees.refl w3).alloc _))
  have O4 := Lib.hid (show OutL (fun c => F c ∧ c < W.heap.size) w4 w3.heap.size n n [] by
    subst hw4
    exact ⟨_, heap_alloc_new w3 _, by simp, by simp, fun j l hl => by cases hl⟩)
  clear hw4 hmk
  obtain ⟨ob, hob⟩ : ∃ ob, ob = w3.heap.size := ⟨_, rfl⟩
  rw [← hob] at O4 hz3 ⊢
  clear hob
  go_loopw [7] (fun s7 wr => ∃ i : Nat, i ≤ n ∧ s7 = .int .i64 ((i : Int) - 1) ∧ ∃ Fi : Nat → Prop, (∀ c, Fi c → F c ∧ c < W.heap.size) ∧ HiF w1 Fi wr b most first (ls.take (L - n + i)) ∧ OutL Fi wr ob n i (ls.drop (L - n + i)) ∧ Keeps F W wr) (fun s7 _ => (intOf s7 + 1).toNat)
  case atStart => exact ⟨n, Nat.le_refl _, rfl, _, fun c hc => hc, by rw [show L - n + n = ls.length by rw [← HL.out]; omega, List.take_length]; exact H.out.sees S4.out, by rw [show L - n + n = ls.length by rw [← HL.out]; omega, List.drop_length]; exact O4.out, Keeps.of_sees S4.out⟩
  case round =>
    obtain ⟨i, hi, rfl, Fi, hFi, hh, ho, hkr⟩ := hrel
    have HFi := Lib.hid hFi
    have HH := Lib.hid hh
    have HO := Lib.hid ho
    have HKr := Lib.hid hkr
    clear hFi hh ho hkr
    cases i with
    | zero =>
      have t0 : decide (((0 : Nat) : Int) - 1 ≥ 0) = false := by decide
      go_wp2
      go_ret2
      refine ⟨_, Fi, rfl, ?_, HH.out, HKr.out, fun c hc => (HFi.out c hc).1⟩
      have h9 := HO.out.rdl n
      rcases h9 with h9 | h9
      · exact h9
      · have := (HFi.out _ h9).2; omega
    | succ i =>
      rw [show ((i + 1 : Nat) : Int) - 1 = (i : Int) by omega]
      have t0 : decide ((i : Int) ≥ 0) = true := decide_eq_true (by omega)
      have t0' : decide ((0 : Int) ≥ (i : Int)) = decide ((0 : Int) ≥ (i : Int)) := rfl
      have hlt : L - n + i < ls.length := by rw [← HL.out]; omega
      obtain ⟨l, hl, ht2, hd2⟩ := take_snoc_at hlt
      obtain ⟨hf1, hf2, r2, g2, hB, hR⟩ := HH.out
      rw [show L - n + (i + 1) = L - n + i + 1 by omega] at HO hR
      rw [ht2] at hR
      have HB2 := Lib.hid hB
      have HR2 := Lib.hid hR
      have Hd2 := Lib.hid hd2
      have c0 := hB.c
      clear hl ht2 hd2 hB hR t0' hlt
      go_wp2_with fail
      refine (RgF.pop l HR2.out).mono ?_
      rintro e w5 ⟨v', rfl, ho5, hob5, hr5, hk5⟩
      obtain ⟨pa, pc, rfl⟩ := ho5.slice
      have hne : Hid (ob ≠ b ∧ ¬ Fi ob) := Lib.hid ⟨fun e => by have := (HFi.out b hf1).2; omega, fun e => by have := (HFi.out _ e).2; omega⟩
      have HR5 := Lib.hid (show HiF w1 (fun c => Fi c ∧ (Value.slice pa l.cells.length pc).ownBlock ≠ some c) w5 b most first (ls.take (L - n + i)) from ⟨⟨hf1, fun e => (hob5 b e).1.2 rfl⟩, hf2, r2, _, HB2.out.keeps hk5 (fun e => e.2 rfl), hr5.mono (fun c _ e => ⟨⟨e.1.1, e.2⟩, e.1.2⟩) (fun c hc => HH.out.low c hc.1.1)⟩)
      have HO5 := Lib.hid ((HO.out.keeps hk5 (fun c _ e => e.1) (fun e => hne.out.2 e.1)).mono (G := fun c => Fi c ∧ (Value.slice pa l.cells.length pc).ownBlock ≠ some c) (fun c _ e => e.1))
      have HP5 := Lib.hid (ho5.rdcOwn.mono (G := fun c => ¬ (Fi c ∧ (Value.slice pa l.cells.length pc).ownBlock ≠ some c) ∧ c ≠ ob) (fun c _ e => ⟨fun h => h.2 e, fun e2 => hne.out.2 (by subst e2; exact (hob5 _ e).1.1)⟩))
      have HK5 := Lib.hid (HKr.out.trans (hk5.mono (fun c _ e => (HFi.out c e.1).1)))
      obtain ⟨⟨u0, hu0⟩, ⟨u1, hu1⟩, hfz⟩ := HO5.out.cells
      have HFn := Lib.hid (show ∀ c, (Fi c ∧ (Value.slice pa l.cells.length pc).ownBlock ≠ some c) → F c ∧ c < W.heap.size from fun c hc => HFi.out c hc.1)
      clear ho5 hob5 hr5 hk5 c0
      go_wp2
      have hput := HO5.out.put l pa pc HP5.out
      have hkC : Keeps (fun c => c = ob) w5 ((w5.setCell ⟨ob, i * 2, none⟩ (.slice pa l.cells.length pc)).setCell ⟨ob, i * 2 + 1, none⟩ (.bool l.soft)) :=
        Keeps.setCell (F := fun c => c = ob) (Keeps.setCell (F := fun c => c = ob) (Keeps.refl _ w5) (p := ⟨ob, i * 2, none⟩) (fun _ => rfl) _) (p := ⟨ob, i * 2 + 1, none⟩) (fun _ => rfl) _
      refine ⟨⟨i, by omega, by go_num, _, HFn.out, HR5.out.keeps hkC (fun c hc e => ?_) (fun c e => by omega), by rw [Hd2.out]; exact hput, HK5.out.trans' hkC (fun c hc e => by omega)⟩, by simp [intOf] <;> omega⟩
      subst e
      exact hne.out.2 hc.1
end HiF
end Go.Proofs.YtpicffaghoggdaaDoor

namespace Go.Proofs.YtpicffaghoggdaaDoor
set_option linter.unusedVariables false
set_option linter.unusedSimpArgs false
open Go.RowKit

/-- Lines that stand in a block, as data. -/
theorem lnrd_row {W : World} {F : Nat → Prop} {b cap : Nat} {t : TypeId} (rows : List (Value × Ln)) (hrow : W.heap[b]? = some (.cells (rows.flatMap fun r => [r.1, .bool r.2.soft]).toArray t (0, 0))) (hF : F b) (hcap : rows.length ≤ cap) (hc : ∀ r ∈ rows, cellEl.Rd F W r.1 r.2.cells) :
    lnEl.Rd F W (.slice (some ⟨b, 0, none⟩) rows.length cap) (rows.map (·.2)) := by
  refine ⟨some ⟨b, 0, none⟩, cap, by simp, by simpa using hcap, fun _ => ⟨b, 0, rfl, hF, fun i l hl => ?_⟩⟩
  have key : ∀ (rows : List (Value × Ln)) (i : Nat) (r : Value × Ln), rows[i]? = some r → (rows.flatMap fun r => [r.1, .bool r.2.soft])[i * 2]? = some r.1 ∧ (rows.flatMap fun r => [r.1, .bool r.2.soft])[i * 2 + 1]? = some (.bool r.2.soft) := by
    intro rows
    induction rows with
    | nil => intro i r h; cases h
    | cons x xs ih =>
      intro i r h
      cases i with
      | zero => cases h; exact ⟨rfl, rfl⟩
      | succ i =>
        have := ih i r (by simpa using h)
        rw [List.flatMap_cons, show (i + 1) * 2 = i * 2 + 2 by omega]
        exact this
  rw [List.getElem?_map] at hl
  cases hr : rows[i]? with
  | none => rw [hr] at hl; cases hl
  | some r =>
    rw [hr] at hl
    cases hl
    obtain ⟨k1, k2⟩ := key rows i r hr
    refine ⟨[r.1, .bool r.2.soft], ⟨r.1, rfl, hc r (List.mem_iff_getElem?.2 ⟨i, hr⟩)⟩, fun j u hu => ?_⟩
    rw [cell_of_row _ _ _ _ _ _ hrow, Nat.zero_add, List.getElem?_toArray]
    rcases j with _ | _ | j
    · cases hu; exact k1
    · cases hu; exact k2
    · cases hu
theorem row31_any (r : Int) (w : World) :
    Calls Tryd.prog 37 #[.int .i32 r] w fun e w' => ∃ v', e = .returned (.agg #[v', .bool false]) ∧ OwnCells w' w.heap.size v' [one r] ∧ Sees w w' := by
  have hw := Sees.refl w
  go_enter Tryd.func37, Tryd.ntmps37
  go_wp2
  refine bodyPost_ret (v := .agg #[.slice (some ⟨w.heap.size + 1, 0, none⟩) 1 1, .bool false]) (by simp [results, Tryd.results37, go_sem]) rfl ⟨_, rfl, ⟨rfl, .inr ⟨w.heap.size + 1, 1, (one r).vals.toArray, rfl, Nat.le_succ _, heap_alloc2_new _ _ _, Nat.le_refl _, by unfold maxLen; omega, rfl, rfl⟩⟩, (hw.alloc _).alloc _⟩
theorem list31_any (v : Value) (w : World) : Calls Tryd.prog 39 #[v] w fun e w' => e = .returned v ∧ Sees w w' := by
  have hw := Sees.refl w
  go_enter Tryd.func39, Tryd.ntmps39
  go_wp2
  go_ret
  exact ⟨rfl, hw⟩
set_option maxHeartbeats 1000000 in
theorem hgets_true (s : Value) (i e0 : Int) (u : Value) (l : Ln) (w : World) (hu : RdCells w u l.cells) (hn : l.cells.length ≤ 1000000)
    (hG : ∀ W, Sees w W → Calls Tryd.prog 22 #[s, .int .i64 i] W fun e w' => ∃ v', e = .returned (.tuple #[.agg #[v', .bool l.soft], .int .i64 e0]) ∧ RdCells w' v' l.cells ∧ Sees W w') :
    Calls Tryd.prog 27 #[s, .int .i64 i, .agg #[u, .bool l.soft], .int .i64 e0] w fun e w' => e = .returned (.bool true) ∧ Sees w w' := by
  have Hu := Lib.hid hu
  obtain ⟨ao, ca, rfl, _⟩ := hu
  have Hn := Lib.hid hn
  have HG := Lib.hid hG
  clear hn hG
  obtain ⟨n, hnc⟩ : ∃ n, n = l.cells.length := ⟨_, rfl⟩
  rw [← hnc] at Hu ⊢
  have Hnc := Lib.hid hnc
  clear hnc
  go_enter Tryd.func27, Tryd.ntmps27
  go_wp2_with fail
  refine (HG.out _ ((Sees.refl w).alloc _)).mono ?_
  rintro e w1 ⟨v', rfl, hv, hs⟩
  have Hv := Lib.hid hv
  obtain ⟨a', c', rfl, _⟩ := hv
  have c0 : w1.cell? ⟨w.heap.size, 0, none⟩ = some (.slice ao n ca) := by rw [hs.cells _ _ (by simp)]; simp
  have c1 : w1.cell? ⟨w.heap.size, 1, none⟩ = some (.bool l.soft) := by rw [hs.cells _ _ (by simp)]; simp
  have hz := hs.size
  have hz1 : w.heap.size < w1.heap.size := by simp at hz; omega
  clear hz
  have Hs := Lib.hid (((Sees.refl w).alloc _).trans hs); clear hs
  rw [← Hnc.out] at Hv ⊢
  go_wp2_with fail
  refine (sameLine_any _ _ l l _ ?_ ?_ Hn.out).mono ?_
  · exact Hv.out.sees ((Sees.refl w1).alloc _)
  · exact Hu.out.sees (Hs.out.trans ((Sees.refl w1).alloc _))
  rintro e w2 ⟨rfl, hs2⟩
  have h1 : decide (l = l) = true := by simp
  have h2 : (e0 == e0) = true := by simp
  have Hs2 := Lib.hid hs2; clear hs2
  go_wp2
  go_ret
  exact ⟨by simp, Hs.out.trans (((Sees.refl w1).alloc _).trans Hs2.out)⟩
set_option maxHeartbeats 1000000 in
theorem hpulls_true (F : Nat → Prop) (K : World → Prop) (G : Nat → Prop) (s : Value) (i e0 : Int) (u : Value) (ls : List Ln) (w : World) (hn : ls.length ≤ 1000000) (hnc : ∀ l ∈ ls, l.cells.length ≤ 1000000) (hu0 : ∃ a m c, u = .slice a m c) (hK : ∀ W W', K W → Sees W W' → K W')
    (hG : Calls Tryd.prog 66 #[s, .int .i64 i] w fun e w' => ∃ v, e = .returned (.tuple #[v, .int .i64 e0]) ∧ RdL (fun _ => True) w' v ls ∧ RdL G w' u ls ∧ Keeps F w w' ∧ K w') :
    Calls Tryd.prog 28 #[s, .int .i64 i, .int .i64 e0, u] w fun e w' => e = .returned (.bool true) ∧ K w' ∧ Keeps F w w' := by
  obtain ⟨ao, m, c, rfl⟩ := hu0
  have Hn := Lib.hid hn
  have Hnc := Lib.hid hnc
  have HK := Lib.hid hK
  have HG := Lib.hid hG
  clear hn hnc hK hG
  go_enter Tryd.func28, Tryd.ntmps28
  go_wp2_with fail
  refine HG.out.mono ?_
  rintro e w1 ⟨v, rfl, hv, hu, hk, hKw⟩
  have Hv := Lib.hid hv
  have Hu := Lib.hid hu
  obtain ⟨a', c', rfl, _⟩ := hv
  have Hk := Lib.hid hk
  have HKw := Lib.hid hKw
  obtain ⟨q, hq⟩ : ∃ q, q = ls.length := ⟨_, rfl⟩
  rw [← hq] at Hv ⊢
  clear hu hk hKw hq
  go_wp2_with fail
  refine (all_true _ _ _ _ ls ls _ Hv.out Hu.out Hn.out Hnc.out rfl).mono ?_
  rintro e w2 ⟨rfl, hs⟩
  have h2 : (e0 == e0) = true := by simp
  have HS := Lib.hid hs
  clear hs
  go_wp2
  go_ret
  exact ⟨by simp, HK.out _ _ HKw.out HS.out, Hk.out.trans (Keeps.of_sees HS.out)⟩

/-- A history whose memory lies between what 'w1' had and M. -/
structure HiS (w1 : World) (M : Nat) (W : World) (b : Nat) (most first : Int) (ls : List Ln) : Prop where
  hi : HiF w1 (fun c => w1.heap.size ≤ c ∧ c < M) W b most first ls
  le : M ≤ W.heap.size
theorem rnil31 (w : World) : RdCells w (.slice none 0 0) [] := ⟨none, 0, rfl, fun h => absurd rfl h⟩
namespace HiS
variable {w1 W W' : World} {M b : Nat} {most first : Int} {ls : List Ln}
theorem see (h : HiS w1 M W b most first ls) : Sees w1 W := h.hi.see
theorem sees (h : HiS w1 M W b most first ls) (hs : Sees W W') : HiS w1 M W' b most first ls := ⟨h.hi.sees hs, Nat.le_trans h.le hs.size⟩
theorem of {F : Nat → Prop} (h : HiF w1 F W b most first ls) : HiS w1 W.heap.size W b most first ls :=
  ⟨h.mono (fun c hc hF => ⟨h.low c hF, hc⟩) (fun c hc => hc.1), Nat.le_refl _⟩
theorem top (h : HiS w1 M W b most first ls) : HiS w1 W.heap.size W b most first ls := of h.hi
theorem keep (h : HiS w1 M W b most first ls) (hk : Keeps (fun c => w1.heap.size ≤ c ∧ c < M) W W') : Sees w1 W' :=
  ((Keeps.of_sees (F := fun c => w1.heap.size ≤ c ∧ c < M) h.see).trans hk).sees_end (fun c hc hF => by omega)
theorem push (h : HiS w1 M W b most first ls) (ht : Tabs w1) (G : Nat → Prop) (v : Value) (xs : List Ln) (hv : lnEl.Rd G W v xs) (hG : ∀ c, G c → c < w1.heap.size ∨ M ≤ c) (hok : ∀ l ∈ xs, lnOk l.cells = true) (hn : first + ls.length + xs.length ≤ 1000000000) (k : Nat) (hk : k = ls.length + xs.length - most.toNat) :
    Calls Tryd.prog 18 #[.pointer (some ⟨b, 0, none⟩), v] W fun e w' => e = .returned (.int .i64 0) ∧ HiS w1 w'.heap.size w' b most (first + k) ((ls ++ xs).drop k) ∧ Keeps (fun c => w1.heap.size ≤ c ∧ c < M) W w' := by
  refine (h.hi.push ht v xs hv (fun c hc e => by have := hG c hc; omega) hok hn k hk).mono ?_
  rintro e w' ⟨rfl, h1, h2⟩
  exact ⟨rfl, of h1, h2⟩
theorem replace (h : HiS w1 M W b most first ls) (ht : Tabs w1) (G : Nat → Prop) (v : Value) (xs : List Ln) (hv : lnEl.Rd G W v xs) (hG : ∀ c, G c → c < w1.heap.size ∨ M ≤ c) (hok : ∀ l ∈ xs, lnOk l.cells = true) (hn : first + xs.length ≤ 1000000000) (k : Nat) (hk : k = xs.length - most.toNat) :
    Calls Tryd.prog 52 #[.pointer (some ⟨b, 0, none⟩), v] W fun e w' => e = .returned (.int .i64 0) ∧ HiS w1 w'.heap.size w' b most (first + k) (xs.drop k) ∧ Keeps (fun c => w1.heap.size ≤ c ∧ c < M) W w' := by
  refine (h.hi.replace ht v xs hv (fun c hc e => by have := hG c hc; omega) hok hn k hk).mono ?_
  rintro e w' ⟨rfl, h1, h2⟩
  exact ⟨rfl, of h1, h2⟩
theorem clear (h : HiS w1 M W b most first ls) (n : Int) (hn : first + ls.length = n) :
    Calls Tryd.prog 50 #[.pointer (some ⟨b, 0, none⟩)] W fun e w' => e = .returned (.tuple #[]) ∧ HiS w1 w'.heap.size w' b most n [] ∧ Keeps (fun c => w1.heap.size ≤ c ∧ c < M) W w' := by
  refine (h.hi.hiClear n hn).mono ?_
  rintro e w' ⟨rfl, h1, h2⟩
  exact ⟨rfl, of h1, h2⟩
/-- A line is there. -/
theorem gets (h : HiS w1 M W b most first ls) (n : Int) (i : Nat) (l : Ln) (hn : n = first + i) (hl : ls[i]? = some l) (u : Value) (hu : RdCells W u l.cells) :
    Calls Tryd.prog 27 #[.pointer (some ⟨b, 0, none⟩), .int .i64 n, .agg #[u, .bool l.soft], .int .i64 0] W fun e w' => e = .returned (.bool true) ∧ Sees W w' := by
  refine hgets_true _ n 0 u l W hu (h.hi.lenc l (List.mem_iff_getElem?.2 ⟨i, hl⟩)) fun W' hs => ((h.sees hs).hi.get n i l hn hl).mono ?_
  rintro e w' ⟨v', rfl, ho, hs⟩
  exact ⟨v', rfl, ho.rd, hs⟩
theorem gets_err (h : HiS w1 M W b most first ls) (n er : Int) (hn : ((n < 0 ∨ first + ls.length ≤ n) ∧ er = 3) ∨ (0 ≤ n ∧ n < first ∧ er = 14)) :
    Calls Tryd.prog 27 #[.pointer (some ⟨b, 0, none⟩), .int .i64 n, .agg #[.slice none 0 0, .bool false], .int .i64 er] W fun e w' => e = .returned (.bool true) ∧ Sees W w' := by
  refine hgets_true _ n er _ ⟨[], false⟩ W (rnil31 W) (by simp) fun W' hs => ((h.sees hs).hi.get_err n er hn).mono ?_
  rintro e w' ⟨rfl, hs⟩
  exact ⟨_, rfl, rnil31 _, hs⟩
/-- Lines are pulled. -/
theorem pulls (h : HiS w1 M W b most first ls) (n : Nat) (hn : n ≤ ls.length) (hn2 : n ≤ 1000000) (ws : List Ln) (hws : ls.drop (ls.length - n) = ws) (G : Nat → Prop) (u : Value) (hu : RdL G W u ws) (hG : ∀ c, G c → c < w1.heap.size ∨ M ≤ c) :
    Calls Tryd.prog 28 #[.pointer (some ⟨b, 0, none⟩), .int .i64 n, .int .i64 0, u] W fun e w' => e = .returned (.bool true) ∧ HiS w1 w'.heap.size w' b most first (ls.take (ls.length - n)) ∧ Keeps (fun c => w1.heap.size ≤ c ∧ c < M) W w' := by
  subst hws
  refine hpulls_true (fun c => w1.heap.size ≤ c ∧ c < M) (fun w' => HiS w1 w'.heap.size w' b most first (ls.take (ls.length - n))) G _ n 0 u (ls.drop (ls.length - n)) W (by rw [List.length_drop]; omega) (fun l hl => h.hi.lenc l (List.mem_of_mem_drop hl)) (by obtain ⟨a, c, e, _⟩ := hu; exact ⟨a, _, c, e⟩) (fun W W' h hs => (h.sees hs).top) ((h.hi.pull n hn hn2).mono ?_)
  rintro e w' ⟨v, F', rfl, h1, h2, h3, h4⟩
  exact ⟨v, rfl, h1.mono (fun _ _ _ => trivial), hu.keeps h3 (fun c hc e => by have := hG c hc; omega), h3, of h2⟩
theorem pulls_range (h : HiS w1 M W b most first ls) (n : Int) (hn : (ls.length : Int) < n) :
    Calls Tryd.prog 28 #[.pointer (some ⟨b, 0, none⟩), .int .i64 n, .int .i64 3, .slice none 0 0] W fun e w' => e = .returned (.bool true) ∧ Sees W w' := by
  refine (hpulls_true (fun _ => False) (fun _ => True) (fun _ => True) _ n 3 _ [] W (by simp) (fun l hl => by cases hl) ⟨_, _, _, rfl⟩ (fun _ _ _ _ => trivial) ((h.hi.pull_range n hn).mono ?_)).mono ?_
  · rintro e w' ⟨rfl, hs⟩
    exact ⟨_, rfl, RdL.nil _ _, RdL.nil _ _, Keeps.of_sees hs, trivial⟩
  · rintro e w' ⟨rfl, _, hk⟩
    exact ⟨rfl, hk.sees_end (fun _ _ h => h)⟩
theorem pulls_arg (h : HiS w1 M W b most first ls) (n : Int) (hn : n < 0) :
    Calls Tryd.prog 28 #[.pointer (some ⟨b, 0, none⟩), .int .i64 n, .int .i64 2, .slice none 0 0] W fun e w' => e = .returned (.bool true) ∧ Sees W w' := by
  refine (hpulls_true (fun _ => False) (fun _ => True) (fun _ => True) _ n 2 _ [] W (by simp) (fun l hl => by cases hl) ⟨_, _, _, rfl⟩ (fun _ _ _ _ => trivial) ((h.hi.pull_arg n hn).mono ?_)).mono ?_
  · rintro e w' ⟨rfl, hs⟩
    exact ⟨_, rfl, RdL.nil _ _, RdL.nil _ _, Keeps.of_sees hs, trivial⟩
  · rintro e w' ⟨rfl, _, hk⟩
    exact ⟨rfl, hk.sees_end (fun _ _ h => h)⟩
end HiS
theorem hnew_s (most : Int) (w : World) (h0 : 0 ≤ most) (h1 : most ≤ 1048576) :
    Calls Tryd.prog 17 #[.int .i64 most] w fun e w' => ∃ b, e = .returned (.tuple #[.pointer (some ⟨b, 0, none⟩), .int .i64 0]) ∧ HiS w w'.heap.size w' b most 0 [] := by
  refine (hnew_ok most w h0 h1).mono ?_
  rintro e w' ⟨b, rfl, h⟩
  exact ⟨b, rfl, HiS.of h⟩
theorem hgets_no (s : Value) (i : Int) (w : World) (h : NoHi w s) :
    Calls Tryd.prog 27 #[s, .int .i64 i, .agg #[.slice none 0 0, .bool false], .int .i64 1] w fun e w' => e = .returned (.bool true) ∧ Sees w w' := by
  refine hgets_true _ i 1 _ ⟨[], false⟩ w (rnil31 w) (by simp) fun W' hs => (hget_no W' s i (h.sees hs)).mono ?_
  rintro e w' ⟨rfl, hs⟩
  exact ⟨_, rfl, rnil31 _, hs⟩
theorem hpulls_no (s : Value) (i : Int) (w : World) (h : NoHi w s) :
    Calls Tryd.prog 28 #[s, .int .i64 i, .int .i64 1, .slice none 0 0] w fun e w' => e = .returned (.bool true) ∧ Sees w w' := by
  refine (hpulls_true (fun _ => False) (fun _ => True) (fun _ => True) s i 1 _ [] w (by simp) (fun l hl => by cases hl) ⟨_, _, _, rfl⟩ (fun _ _ _ _ => trivial) ((hpull_no w s i h).mono ?_)).mono ?_
  · rintro e w' ⟨rfl, hs⟩
    exact ⟨_, rfl, RdL.nil _ _, RdL.nil _ _, Keeps.of_sees hs, trivial⟩
  · rintro e w' ⟨rfl, _, hk⟩
    exact ⟨rfl, hk.sees_end (fun _ _ h => h)⟩
end Go.Proofs.YtpicffaghoggdaaDoor
