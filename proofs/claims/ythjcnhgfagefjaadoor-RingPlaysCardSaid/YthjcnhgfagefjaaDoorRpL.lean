/- Any calls of a ring: RingPlays. No condition. -/
import Derived.Test.YthjcnhgfagefjaaDoorRpK
namespace Go.Proofs.YthjcnhgfagefjaaDoor
set_option linter.unusedVariables false
set_option linter.unusedSimpArgs false
open Go.RowKit

/-- A ring and the reference's ring in its variable, side by side. -/
def Ps8 (w1 W : World) (R q : Nat) (mo pg fi : Int) (ls : List Ln) (g : List (Int × Nat)) : Prop :=
  ∃ (F G : Nat → Prop) (vl vp : Value), RgF w1 F W q mo pg fi ls g ∧ RrAt W R mo pg fi vl vp ∧ RrRd G W vl vp ls g ∧ (∀ b, G b → ¬ F b) ∧ ¬ F R ∧ ¬ G R ∧ (∀ b, F b → b < W.heap.size) ∧ (∀ b, G b → b < W.heap.size)
theorem Ps8.sees {w1 W W' : World} {R q : Nat} {mo pg fi : Int} {ls : List Ln} {g : List (Int × Nat)} (h : Ps8 w1 W R q mo pg fi ls g) (hs : Sees W W') : Ps8 w1 W' R q mo pg fi ls g := by
  obtain ⟨F, G, vl, vp, h1, h2, h3, h4, h5, h6, h7, h8⟩ := h
  exact ⟨F, G, vl, vp, h1.sees hs, h2.sees hs, h3.sees hs, h4, h5, h6, fun b hb => by have := h7 b hb; have := hs.size; omega, fun b hb => by have := h8 b hb; have := hs.size; omega⟩
theorem Ps8.see {w1 W : World} {R q : Nat} {mo pg fi : Int} {ls : List Ln} {g : List (Int × Nat)} (h : Ps8 w1 W R q mo pg fi ls g) : Sees w1 W := by
  obtain ⟨F, G, vl, vp, h1, _⟩ := h; exact h1.see

set_option maxRecDepth 1000000 in
set_option maxHeartbeats 4000000 in
theorem ringPlays_out (most page : Int) (v : Value) (acts : List Act8) (w : World) (ht : Tabs w) (ha : act8El.Rd (fun b => b < w.heap.size) w v acts) (h : decide (most < 0) = true ∨ (decide (most < 0) = false ∧ decide (most > 1048576) = true) ∨ (decide (most < 0) = false ∧ decide (most > 1048576) = false ∧ decide (page < 1) = true) ∨ (decide (most < 0) = false ∧ decide (most > 1048576) = false ∧ decide (page < 1) = false ∧ decide (page > 1024) = true)) :
    Calls Tryd.prog 3 #[.int .i64 most, .int .i64 page, v] w fun e w' => e = .returned (.bool true) ∧ Sees w w' := by
  have Ht := Lib.hid ht
  have HH := Lib.hid h
  obtain ⟨ao, ca, rfl, -⟩ := ha.slice'
  clear ht ha
  rcases h with d1 | ⟨d1, d2⟩ | ⟨d1, d2, d3⟩ | ⟨d1, d2, d3, d4⟩
  all_goals
    (try have d2' : decide (1048576 < most) = _ := d2)
    (try have d4' : decide (1024 < page) = _ := d4)
    go_enter Tryd.func3, Tryd.ntmps3
    go_wp2_with fail
    refine (rnone_true most page _ HH.out).mono ?_
    rintro e w2 ⟨rfl, hs2⟩
    go_wp2_with fail
    refine (known08 _ (Ht.out.sees hs2)).mono ?_
    rintro e w5 ⟨rfl, hs5⟩
    go_wp2
    go_ret
    exact ⟨by simp, hs2.trans hs5⟩
set_option maxRecDepth 1000000 in
set_option maxHeartbeats 8000000 in
theorem ringPlays_in (most page : Int) (v : Value) (acts : List Act8) (w : World) (ht : Tabs w) (ha : act8El.Rd (fun b => b < w.heap.size) w v acts) (hfit : ∀ p ∈ acts, -9223372036854775808 ≤ p.num ∧ p.num ≤ 9223372036854775807) (h0 : 0 ≤ most) (h1 : most ≤ 1048576) (h2 : 1 ≤ page) (h3 : page ≤ 1024) :
    Calls Tryd.prog 3 #[.int .i64 most, .int .i64 page, v] w fun e w' => e = .returned (.bool true) ∧ Sees w w' := by
  have Ht := Lib.hid ht
  have Hfit := Lib.hid hfit
  obtain ⟨ao, ca, rfl, -⟩ := ha.slice'
  obtain ⟨t, ht2⟩ : ∃ t, t = acts.length := ⟨_, rfl⟩
  rw [← ht2] at ha ⊢
  have Htl := Lib.hid ht2
  have Ha := Lib.hid ha
  have HB := Lib.hid (And.intro h0 (And.intro h1 (And.intro h2 h3)))
  have d1 : decide (most < 0) = false := decide_eq_false (by omega)
  have d2 : decide (most > 1048576) = false := decide_eq_false (by omega)
  have d2' : decide (1048576 < most) = false := d2
  have d3 : decide (page < 1) = false := decide_eq_false (by omega)
  have d4 : decide (page > 1024) = false := decide_eq_false (by omega)
  have d4' : decide (1024 < page) = false := d4
  clear ht ha hfit ht2 h0 h1 h2 h3
  go_enter Tryd.func3, Tryd.ntmps3
  go_wp2_with fail
  refine (new_rg most page w HB.out.1 HB.out.2.1 HB.out.2.2.1 HB.out.2.2.2).mono ?_
  rintro e w1 ⟨rfl, hR⟩
  have HR := Lib.hid hR
  have Ha1 := Lib.hid (Ha.out.sees hR.see)
  clear hR d1 d2 d2' d3 d4 d4'
  go_wp2_with fail
  refine (few8_any _ _ acts w1 Ha1.out).mono ?_
  rintro e w2 ⟨rfl, hs2⟩
  have S2 := Lib.hid hs2
  clear hs2
  obtain ⟨fw, hfw⟩ : ∃ fw, fw = few8B acts := ⟨_, rfl⟩
  rw [← hfw]
  have Hfw := Lib.hid hfw
  clear hfw
  rcases Bool.eq_false_or_eq_true fw with hf | hf
  case inr =>
    rw [hf]
    clear hf
    go_wp2_with fail
    refine (known08 _ (Ht.out.sees (HR.out.see.trans S2.out))).mono ?_
    rintro e w5 ⟨rfl, hs5⟩
    go_wp2
    go_ret
    exact ⟨by simp, (HR.out.see.trans S2.out).trans hs5⟩
  case inl =>
    have Hf := Lib.hid (few8B_ok (Hfw.out.symm.trans hf))
    rw [hf]
    clear hf Hfw
    have ht40 : t ≤ 40 := by have := Hf.out.1; have := Htl.out; omega
    go_wp2_with fail
    refine wp_world (fun w3 hw3 => ?_)
    have hr3 : RrAt w3 w2.heap.size most page 0 (.slice none 0 0) (.slice none 0 0) := by subst hw3; exact RrAt.new rfl
    have s3 : Sees w2 w3 := by subst hw3; exact (Sees.refl w2).alloc _
    have hq3 := (HR.out.sees S2.out).sees s3
    have hlt : w.heap.size < w2.heap.size := by have := (HR.out.sees S2.out).words; obtain ⟨a, c, hh⟩ := this; exact hh.lt
    have I0 : Hid (Ps8 w w3 w2.heap.size w.heap.size most page 0 [] []) := Lib.hid ⟨fun b => b = w.heap.size, fun _ => False, _, _, hq3, hr3, ⟨El.Rd.nil _ _, El.Rd.nil _ _⟩, fun b h => h.elim, fun h => by omega, fun h => h, fun b h => by have := s3.size; omega, fun b h => h.elim⟩
    have Hz1 := Lib.hid (show w.heap.size < w2.heap.size from hlt)
    clear hw3 hr3 s3 hq3 hlt HR S2 Ha1
    generalize w2.heap.size = R at *
    go_loopw [7, 70] (fun rv i W => ∃ k : Nat, k ≤ t ∧ i = .int .i64 k ∧ ∃ (q : Nat) (mo pg fi : Int) (ls : List Ln) (g : List (Int × Nat)), rv = .pointer (some ⟨q, 0, none⟩) ∧ fi + (ls.length : Int) ≤ k ∧ ls.length ≤ k ∧ Ps8 w W R q mo pg fi ls g) (fun _ i _ => t - (intOf i).toNat)
    case atStart => exact ⟨0, by omega, rfl, _, _, _, 0, [], [], rfl, by simp, Nat.zero_le _, I0.out⟩
    case round =>
      obtain ⟨k, hk, rfl, q, mo, pg, fi, ls, g, rfl, hfk, hlk, hI⟩ := hrel
      have HI := Lib.hid hI
      clear hI I0
      by_cases hlt : k < t
      · obtain ⟨b1, o1, ac, au, um, rfl, hb1, hac, hum, ⟨y0, y1, y2, y3, y4⟩, hxs⟩ := (Ha.out.sees HI.out.see).act8 hlt
        have hb1 : b1 < w.heap.size := hb1
        have hmem := List.mem_iff_getElem?.2 ⟨_, hac⟩
        have hc20 := Hf.out.2 ac hmem
        have hnum := Hfit.out ac hmem
        have Hxs := Lib.hid hxs
        clear hac hmem hxs
        obtain ⟨what, num, upto, cs, soft⟩ := ac
        simp only [] at *
        obtain ⟨un, hun⟩ : ∃ un, un = cs.length := ⟨_, rfl⟩
        rw [← hun] at y3 hc20 hum Hxs
        have Hun := Lib.hid hun
        have Hnum := Lib.hid hnum
        clear hun hnum
        go_upto_region 10 with fail
        refine wp_world (fun w4 hw4 => ?_)
        have A4 : Ac8 w4 wr.heap.size what num upto (.slice au un um) soft := by subst hw4; exact Ac8.new rfl
        have s4 : Sees wr w4 := by subst hw4; exact (Sees.refl wr).alloc _
        have hz4 : w4.heap.size = wr.heap.size + 1 := by subst hw4; simp
        obtain ⟨F, G, vl, vp, p1, p2, p3, p4, p5, p6, p7, p8⟩ := HI.out
        obtain ⟨al, cl, rfl, -⟩ := p3.l.slice'
        obtain ⟨ap, cp, rfl, -⟩ := p3.p.slice'
        have hRlt := p2.lt
        have P4 := Lib.hid (p1.sees s4)
        have B4 := Lib.hid (p2.sees s4)
        have R4 := Lib.hid (p3.sees s4)
        have HF := Lib.hid (And.intro p4 (And.intro p5 (And.intro p6 (And.intro p7 p8))))
        have X4 := Lib.hid (Hxs.out.sees s4)
        have HA4 := Lib.hid A4
        have Hz4 := Lib.hid hz4
        have Hlow := Lib.hid p1.low
        have Hsee := Lib.hid HI.out.see.size
        have HRl := Lib.hid hRlt
        clear hw4 A4 s4 p1 p2 p3 p4 p5 p6 p7 p8 y0 y1 y2 y3 y4 HI Hxs hz4 hRlt
        obtain ⟨n, hn⟩ : ∃ n, n = ls.length := ⟨_, rfl⟩
        obtain ⟨np, hnp⟩ : ∃ n, n = g.length := ⟨_, rfl⟩
        rw [← hn, ← hnp] at B4 R4
        have Hn := Lib.hid hn
        rw [← hn] at hfk hlk
        clear hn hnp
        obtain ⟨x0, x1, x2, x3, x4⟩ := B4.out.c
        obtain ⟨y0, y1, y2, y3, y4⟩ := HA4.out.c
        go_wp2_with fail
        refine (does8_any (G := G) (upto := upto) (soft := soft) what Ht.out P4.out (fun b hb => by have := HF.out.2.2.2.1 b hb; have := Hz4.out; omega) (fun b hb => ⟨by have := HF.out.2.2.2.2 b hb; have := Hz4.out; omega, HF.out.1 b hb⟩) R4.out X4.out.rdCells Hun.out (by omega) (by rw [← Hn.out]; omega) Hnum.out).mono ?_
        rintro e w5 ⟨q2, mo2, pg2, fi2, ls2, g2, vl2, vp2, F2, G2, rfl, r1, r2, r3, r4, r5, r6, r7, r8⟩
        obtain ⟨a2, c2, rfl, -⟩ := r2.l.slice'
        obtain ⟨ap2, cp2, rfl, -⟩ := r2.p.slice'
        rw [← Hn.out] at r7 r8
        obtain ⟨n2, hn2⟩ : ∃ n, n = ls2.length := ⟨_, rfl⟩
        obtain ⟨np2, hnp2⟩ : ∃ n, n = g2.length := ⟨_, rfl⟩
        rw [← hn2, ← hnp2] at r2
        rw [← hn2, ← hnp2]
        rw [← hn2] at r7 r8
        have Hn2 := Lib.hid hn2
        have Hb2 := Lib.hid (show fi2 + (n2 : Int) ≤ k + 1 ∧ n2 ≤ k + 1 from ⟨by omega, by omega⟩)
        have C5 := Lib.hid (B4.out.keeps r4 HF.out.2.1)
        have HA5 := Lib.hid (HA4.out.keeps r4 (fun h => by have := HF.out.2.2.2.1 _ h; omega))
        have P5 := Lib.hid (r1.cut8)
        have R5 := Lib.hid (r2.mono (F := fun b => G2 b ∧ b < w5.heap.size) (fun b hb h => ⟨h, hb⟩))
        have Hz5 := Lib.hid r4.size
        have HF5 := Lib.hid (show (∀ b, G2 b → ¬ F2 b) ∧ ¬ F2 R ∧ ¬ G2 R ∧ ¬ F2 wr.heap.size ∧ ¬ G2 wr.heap.size from ⟨r3, fun h => by rcases r5 R h with h | h; exact HF.out.2.1 h; (have := HRl.out; have := Hz4.out; omega), fun h => by rcases r6 R h with h | h; exact HF.out.2.2.1 h; (have := HRl.out; have := Hz4.out; omega), fun h => by rcases r5 _ h with h | h; (have := HF.out.2.2.2.1 _ h; omega); (have := Hz4.out; omega), fun h => by rcases r6 _ h with h | h; (have := HF.out.2.2.2.2 _ h; omega); (have := Hz4.out; omega)⟩)
        clear hn2 hnp2 r1 r2 r3 r4 r5 r6 r7 r8 x0 x1 x2 x3 x4 y0 y1 y2 y3 y4 B4 R4 P4 HA4 X4
        go_upto_region 11 with fail
        refine wp_world (fun w6 hw6 => ?_)
        have N6 : RrAt w6 w5.heap.size mo2 pg2 fi2 (.slice a2 n2 c2) (.slice ap2 np2 cp2) := by subst hw6; exact RrAt.new rfl
        have s6 : Sees w5 w6 := by subst hw6; exact (Sees.refl w5).alloc _
        have P6 := Lib.hid (P5.out.sees s6)
        have R6 := Lib.hid (R5.out.sees s6)
        have C6 := Lib.hid (C5.out.sees s6)
        have HA6 := Lib.hid (HA5.out.sees s6)
        have HN6 := Lib.hid N6
        obtain ⟨x0, x1, x2, x3, x4⟩ := N6.c
        clear hw6 N6 s6 P5 R5 C5 HA5
        go_wp2_with fail
        refine (looks8_any P6.out (by have := Hb2.out.2; rw [← Hn2.out]; omega) R6.out).mono ?_
        rintro e w7 ⟨rfl, hs7⟩
        have P7 := Lib.hid (P6.out.sees hs7)
        have R7 := Lib.hid (R6.out.sees hs7)
        have C7 := Lib.hid (C6.out.sees hs7)
        have HA7 := Lib.hid (HA6.out.sees hs7)
        have HN7 := Lib.hid (HN6.out.sees hs7)
        have Hz7 := Lib.hid hs7.size
        have Hz6 := Lib.hid HN6.out.lt
        clear hs7 P6 R6 C6 HA6 HN6 x0 x1 x2 x3 x4
        go_wp2_with fail
        refine wpH_go (fun b => b = R) 4 (by kernel_rfl) (by kernel_rfl) (by rfl) (fun hB w8 hs8 => ?_)
        have P8 := Lib.hid (P7.out.sees hs8)
        have R8 := Lib.hid (R7.out.sees hs8)
        have C8 := Lib.hid (C7.out.sees hs8)
        have HA8 := Lib.hid (HA7.out.sees hs8)
        have HN8 := Lib.hid (HN7.out.sees hs8)
        have Hz8 := Lib.hid hs8.size
        have HRw5 := Lib.hid (show R < w5.heap.size by have := HRl.out; have := Hz4.out; have := Hz5.out; omega)
        clear hs8 P7 R7 C7 HA7 HN7
        have hS0 : Keeps (fun b => b = R) w8 w8 := Keeps.refl _ w8
        refine wpH_take (i := 0) (v := .pointer (some ⟨q2, 0, none⟩)) hB (by rfl) (by kernel_rfl) (fun _ _ _ _ _ h => h) (by rfl) hS0 (fun W hI => by clear hI; go_simp) ?_; (try simp only [Act.put, List.setIfInBounds_toArray, List.set_cons_zero, List.set_cons_succ])
        refine wpH_take (i := 1) (v := rrV mo2 pg2 fi2 (.slice a2 n2 c2) (.slice ap2 np2 cp2)) hB (by rfl) (by kernel_rfl) (fun _ _ _ _ _ h => h) (by rfl) hS0 (fun W hI => by have q := (HN8.out.keeps hI (by have := HRw5.out; omega)).c; obtain ⟨q0, q1, q2, q3, q4⟩ := q; go_simp) ?_; (try simp only [Act.put, List.setIfInBounds_toArray, List.set_cons_zero, List.set_cons_succ])
        refine wpH_one (i := 2) (by kernel_rfl) (wpOp_val (v := .pointer (some ⟨q2, 0, none⟩)) (w' := w8) (by rfl) (wanted_none (by rfl) _) (by go_simp) ⟨hS0, ?_⟩)
        (try simp only [Act.put, List.setIfInBounds_toArray, List.set_cons_zero, List.set_cons_succ])
        obtain ⟨w9, hst9, hk9, D9⟩ := C8.out.store mo2 pg2 fi2 a2 n2 c2 ap2 np2 cp2
        have HST9 := Lib.hid hst9
        refine wpH_one (i := 3) (by kernel_rfl) (wpOp_skip (w' := w9) (by rfl) (wanted_none (by rfl) _) (exec_store (a := .pointer (some ⟨R, 0, none⟩)) (v := rrV mo2 pg2 fi2 (.slice a2 n2 c2) (.slice ap2 np2 cp2)) rfl (by go_simp) (by go_simp) HST9.out) ⟨hk9, ?_⟩)
        (try simp only [Act.put, List.setIfInBounds_toArray, List.set_cons_zero, List.set_cons_succ])
        refine wpH_end (by kernel_rfl) ?_
        have P9 := Lib.hid (P8.out.keeps hk9 (fun b hb e => by have e : b = R := e; subst e; exact HF5.out.2.1 hb.1) (fun b e => by have e : b = R := e; have := Hz1.out; omega))
        have R9 := Lib.hid (R8.out.keeps hk9 (fun b hb e => by have e : b = R := e; subst e; exact HF5.out.2.2.1 hb.1))
        have HA9 := Lib.hid (HA8.out.keeps hk9 (by have := HRl.out; omega))
        have HD9 := Lib.hid D9
        have Hz9 := Lib.hid (show w5.heap.size ≤ w9.heap.size by have := hk9.size; have := Hz8.out; have := Hz7.out; have := Hz6.out; omega)
        clear hst9 hk9 D9 HST9 hS0 hB P8 R8 C8 HA8 HN8
        obtain ⟨x0, x1, x2, x3, x4⟩ := HD9.out.c
        obtain ⟨y0, y1, y2, y3, y4⟩ := HA9.out.c
        have HB9 := Lib.hid P9.out.b8
        go_wp2_with fail
        refine (refGet08 _ mo2 pg2 fi2 num _ _ ls2 g2 w9 HB9.out.fi0 (by have := HB9.out.fi1; omega) (by have := HB9.out.len; omega) Hnum.out R9.out).mono ?_
        rintro e w10 ⟨v10, rfl, hg10, hs10⟩
        obtain ⟨a10, c10, rfl, -⟩ := hg10.slice'
        obtain ⟨l10, hl10⟩ : ∃ l, l = getD8 fi2 ls2 num := ⟨_, rfl⟩
        obtain ⟨e10, he10⟩ : ∃ l, l = errA fi2 ls2.length num := ⟨_, rfl⟩
        rw [← hl10] at hg10 ⊢
        rw [← he10]
        obtain ⟨n10, hn10⟩ : ∃ l, l = l10.cells.length := ⟨_, rfl⟩
        obtain ⟨f10, hf10⟩ : ∃ l, l = l10.soft := ⟨_, rfl⟩
        rw [← hn10] at hg10 ⊢
        rw [← hf10]
        have HG10 := Lib.hid hg10
        have HL10 := Lib.hid (And.intro hl10 (And.intro he10 (And.intro hn10 hf10)))
        have P10 := Lib.hid (P9.out.sees hs10)
        have R10 := Lib.hid (R9.out.sees hs10)
        have HD10 := Lib.hid (HD9.out.sees hs10)
        have HA10 := Lib.hid (HA9.out.sees hs10)
        have Hz10 := Lib.hid hs10.size
        clear hl10 he10 hn10 hf10 hg10 hs10 P9 R9 HD9 HA9 x0 x1 x2 x3 x4 y0 y1 y2 y3 y4
        go_upto_region 15 with fail
        refine wp_world (fun w11 hw11 => ?_)
        have L11 : LnAt w11 w10.heap.size (.slice a10 n10 c10) f10 := by subst hw11; exact LnAt.new rfl
        have s11 : Sees w10 w11 := by subst hw11; exact (Sees.refl w10).alloc _
        have P11 := Lib.hid (P10.out.sees s11)
        have R11 := Lib.hid (R10.out.sees s11)
        have HD11 := Lib.hid (HD10.out.sees s11)
        have HA11 := Lib.hid (HA10.out.sees s11)
        have HG11 := Lib.hid (HG10.out.sees s11)
        have HL11 := Lib.hid L11
        have Hz11 := Lib.hid s11.size
        clear hw11 L11 s11 P10 R10 HD10 HA10 HG10
        obtain ⟨x0, x1, x2, x3, x4⟩ := HD11.out.c
        obtain ⟨y0, y1, y2, y3, y4⟩ := HA11.out.c
        go_wp2_with fail
        refine (refBetween08 _ mo2 pg2 fi2 num upto _ _ ls2 g2 w11 HB9.out.fi0 (by have := HB9.out.fi1; omega) (by have := HB9.out.len; omega) R11.out).mono ?_
        rintro e w12 ⟨v12, rfl, hg12, hs12⟩
        obtain ⟨a12, c12, rfl, -⟩ := hg12.slice'
        obtain ⟨e12, he12⟩ : ∃ l, l = errB fi2 ls2.length num upto := ⟨_, rfl⟩
        rw [← he12]
        obtain ⟨l12, hl12⟩ : ∃ l, l = segD8 fi2 ls2 num upto := ⟨_, rfl⟩
        rw [← hl12] at hg12 ⊢
        obtain ⟨n12, hn12⟩ : ∃ l, l = l12.length := ⟨_, rfl⟩
        rw [← hn12] at hg12 ⊢
        have HG12 := Lib.hid hg12
        have HL12 := Lib.hid (And.intro hl12 (And.intro he12 hn12))
        have P12 := Lib.hid (P11.out.sees hs12)
        have R12 := Lib.hid (R11.out.sees hs12)
        have HD12 := Lib.hid (HD11.out.sees hs12)
        have HA12 := Lib.hid (HA11.out.sees hs12)
        have HB12 := Lib.hid (HL11.out.sees hs12)
        have HGe := Lib.hid (HG11.out.sees hs12)
        have Hz12 := Lib.hid hs12.size
        clear hl12 he12 hn12 hg12 hs12 P11 R11 HD11 HA11 HL11 HG11 x0 x1 x2 x3 x4 y0 y1 y2 y3 y4
        obtain ⟨y0, y1, y2, y3, y4⟩ := HA12.out.c
        obtain ⟨u0, u1⟩ := HB12.out.c
        go_wp2_with fail
        have KG := P12.out.getsF num (.slice a10 n10 c10) (by rw [← HL10.out.1]; exact HGe.out.rdCells)
        rw [← HL10.out.1, ← HL10.out.2.1, ← HL10.out.2.2.2] at KG
        refine KG.mono ?_
        rintro e w13 ⟨rfl, hs13⟩
        have P13 := Lib.hid (P12.out.sees hs13)
        have R13 := Lib.hid (R12.out.sees hs13)
        have HD13 := Lib.hid (HD12.out.sees hs13)
        have HA13 := Lib.hid (HA12.out.sees hs13)
        have HG13 := Lib.hid (HG12.out.sees hs13)
        have Hz13 := Lib.hid hs13.size
        clear KG hs13 P12 R12 HD12 HA12 HG12 HB12 HGe y0 y1 y2 y3 y4 u0 u1
        obtain ⟨y0, y1, y2, y3, y4⟩ := HA13.out.c
        go_wp2_with fail
        have KR := P13.out.rangesF (fun b => G2 b ∧ b < w5.heap.size) num upto (by have := Hb2.out.2; rw [← Hn2.out]; omega) (.slice a12 n12 c12) (by rw [← HL12.out.1]; exact HG13.out)
        rw [← HL12.out.2.1] at KR
        refine KR.mono ?_
        rintro e w14 ⟨rfl, hs14⟩
        have HI2 : Hid (Ps8 w w14 R q2 mo2 pg2 fi2 ls2 g2) := Lib.hid ⟨_, _, _, _, P13.out.sees hs14, HD13.out.sees hs14, R13.out.sees hs14, fun b hb hf => HF5.out.1 b hb.1 hf.1, fun h => HF5.out.2.1 h.1, fun h => HF5.out.2.2.1 h.1, fun b hb => by have := hb.2; have := Hz9.out; have := Hz10.out; have := Hz11.out; have := Hz12.out; have := Hz13.out; have := hs14.size; omega, fun b hb => by have := hb.2; have := Hz9.out; have := Hz10.out; have := Hz11.out; have := Hz12.out; have := Hz13.out; have := hs14.size; omega⟩
        have hf2 := Hb2.out.1
        have hl2 := Hb2.out.2
        have Hn2' := Hn2
        clear KR hs14 P13 R13 HD13 HA13 HG13 y0 y1 y2 y3 y4
        go_wp2_with fail
        go_roundw
        case rel => exact ⟨k + 1, by omega, by go_num, q2, mo2, pg2, fi2, ls2, g2, rfl, by rw [← Hn2.out]; omega, by rw [← Hn2.out]; exact hl2, HI2.out⟩
        case measure => simp [intOf] <;> omega
      · obtain rfl : k = t := by omega
        have S4 := Lib.hid HI.out.see
        go_wp2_with fail
        refine (known08 _ (Ht.out.sees S4.out)).mono ?_
        rintro e w5 ⟨rfl, hs5⟩
        go_wp2
        go_ret
        exact ⟨by simp, S4.out.trans hs5⟩
theorem ringPlays_any (most page : Int) (v : Value) (acts : List Act8) (w : World) (ht : Tabs w) (ha : act8El.Rd (fun b => b < w.heap.size) w v acts) (hfit : ∀ p ∈ acts, -9223372036854775808 ≤ p.num ∧ p.num ≤ 9223372036854775807) :
    Calls Tryd.prog 3 #[.int .i64 most, .int .i64 page, v] w fun e w' => e = .returned (.bool true) ∧ Sees w w' := by
  by_cases h0 : most < 0
  · exact ringPlays_out most page v acts w ht ha (.inl (decide_eq_true h0))
  by_cases h1 : most > 1048576
  · exact ringPlays_out most page v acts w ht ha (.inr (.inl ⟨decide_eq_false h0, decide_eq_true h1⟩))
  by_cases h2 : page < 1
  · exact ringPlays_out most page v acts w ht ha (.inr (.inr (.inl ⟨decide_eq_false h0, decide_eq_false h1, decide_eq_true h2⟩)))
  by_cases h3 : page > 1024
  · exact ringPlays_out most page v acts w ht ha (.inr (.inr (.inr ⟨decide_eq_false h0, decide_eq_false h1, decide_eq_false h2, decide_eq_true h3⟩)))
  exact ringPlays_in most page v acts w ht ha hfit (by omega) (by omega) (by omega) (by omega)
end Go.Proofs.YthjcnhgfagefjaaDoor
