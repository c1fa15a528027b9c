/- The calls of a ring, and the reference beside it: does (08). The calls of a ring, and the reference beside it: does (08), the other calls. No condition. -/
import Derived.Test.YthjcnhgfagefjaaDoorRpI
namespace Go.Proofs.YthjcnhgfagefjaaDoor
set_option linter.unusedVariables false
set_option linter.unusedSimpArgs false
open Go.RowKit

section
variable {w1 W : World} {F G : Nat → Prop} {r un : Nat} {mo pg fi num upto : Int} {ls : List Ln} {g : List (Int × Nat)} {vl vp : Value} {ua : Option Addr} {uc : Nat} {cs : List Cell} {soft : Bool}
set_option maxRecDepth 100000 in
set_option maxHeartbeats 4000000 in
theorem does8_push (ht : Tabs w1) (h : RgF w1 F W r mo pg fi ls g) (hF : ∀ b, F b → b < W.heap.size) (hG : ∀ b, G b → b < W.heap.size ∧ ¬ F b) (hv : RrRd G W vl vp ls g) (hu : RdCells W (.slice ua un uc) cs) (hun : un = cs.length) (hlen : un ≤ 1000000) (hfb : fi + (ls.length : Int) ≤ 1000000) (hnum : -9223372036854775808 ≤ num ∧ num ≤ 9223372036854775807) :
    Calls Tryd.prog 8 #[.pointer (some ⟨r, 0, none⟩), rrV mo pg fi vl vp, .agg #[.int .i64 0, .int .i64 num, .int .i64 upto, .slice ua un uc, .bool soft]] W fun e w' => DoesP8 w1 W F G (fi + (ls.length : Int)) (ls.length : Int) e w' := by
  obtain ⟨a, c, rfl, -⟩ := hv.l.slice'
  obtain ⟨ap, cp, rfl, -⟩ := hv.p.slice'
  have HB := Lib.hid h.b8
  obtain ⟨n, hn⟩ : ∃ n, n = ls.length := ⟨_, rfl⟩
  obtain ⟨np, hnp⟩ : ∃ n, n = g.length := ⟨_, rfl⟩
  rw [← hn] at hv hfb ⊢
  rw [← hnp] at hv ⊢
  have Hn := Lib.hid hn
  have HP := Lib.hid h
  have HV := Lib.hid hv
  have HU := Lib.hid hu
  have Hun := Lib.hid hun
  have HF := Lib.hid hF
  have HG := Lib.hid hG
  have Ht := Lib.hid ht
  have Hlen := Lib.hid hlen
  have Hfb := Lib.hid hfb
  have Hnum := Lib.hid hnum
  have HX0 := Lib.hid h.b8.fi0
  clear h hv hu hun hF hG ht hn hnp hlen hfb hnum
  go_enter Tryd.func8, Tryd.ntmps8
  go_wp2_with fail
  refine calls_world (fun w2 hw2 => ?_)
  have A4 : RrAt w2 W.heap.size mo pg fi (.slice a n c) (.slice ap np cp) := by subst hw2; exact ((RrAt.new rfl).alloc _).alloc _
  have A5 : Ac8 w2 (W.heap.size + 1) 0 num upto (.slice ua un uc) soft := by subst hw2; exact (Ac8.new (by simp)).alloc _
  have A7 : RrAt w2 (W.heap.size + 1 + 1) 0 0 0 (.slice none 0 0) (.slice none 0 0) := by subst hw2; exact RrAt.new (by simp)
  have S2 : Sees W w2 := by subst hw2; exact (((Sees.refl W).alloc _).alloc _).alloc _
  have hz2 : w2.heap.size = W.heap.size + 3 := by subst hw2; simp
  clear hw2
  refine (refCopy_any _ cs soft w2 (HU.out.sees S2) (by rw [← Hun.out]; exact Hlen.out)).mono ?_
  rintro e w3 ⟨v3, rfl, ho, hs⟩
  obtain ⟨a3, c3, rfl⟩ := ho.slice
  rw [← Hun.out] at ho ⊢
  go_upto_region 2 with fail
  refine wp_world (fun w4 hw4 => ?_)
  have A9 : LnAt w4 w3.heap.size (.slice a3 un c3) soft := by subst hw4; exact LnAt.new rfl
  have S4 : Sees w3 w4 := by subst hw4; exact (Sees.refl w3).alloc _
  have hz4 : w4.heap.size = w3.heap.size + 1 := by subst hw4; simp
  clear hw4
  have hz3 := hs.size
  have HS4 : Hid (St8 w1 W F G r mo pg fi ls g (.slice a n c) (.slice ap np cp) 0 num upto (.slice ua un uc) soft cs w3.heap.size (.slice a3 un c3) w4) := Lib.hid
    ⟨HP.out.sees (S2.trans (hs.trans S4)), HV.out.sees (S2.trans (hs.trans S4)), HU.out.sees (S2.trans (hs.trans S4)), A4.sees (hs.trans S4), A5.sees (hs.trans S4), A7.sees (hs.trans S4), OwnCells.sees (ho.mono (by omega)) S4, fun b hb => (El.rowLt ho hb).2, A9, by omega, S2.trans (hs.trans S4)⟩
  have Hz4 := Lib.hid hz4
  clear A4 A5 A7 S2 hz2 ho hs A9 S4 hz3 HP HV HU hz4
  obtain ⟨x0, x1, x2, x3, x4⟩ := HS4.out.b0.c
  obtain ⟨y0, y1, y2, y3, y4⟩ := HS4.out.b1.c
  go_wp2_with fail
  refine (refPush8_any (u := .slice ua un uc) (soft := soft) HB.out (by have := Hfb.out; rw [← Hn.out]; omega) HS4.out.rr HS4.out.us (by rw [← Hun.out]; exact Hlen.out)).mono ?_
  rintro e w5 ⟨fi2, ls2, g2, er, vl2, vp2, rfl, hp, hr2, hs5⟩
  have Hp := Lib.hid hp
  clear hp
  obtain ⟨a5, c5, rfl, -⟩ := hr2.l.slice'
  obtain ⟨ap5, cp5, rfl, -⟩ := hr2.p.slice'
  obtain ⟨n5, hn5⟩ : ∃ n, n = ls2.length := ⟨_, rfl⟩
  obtain ⟨np5, hnp5⟩ : ∃ n, n = g2.length := ⟨_, rfl⟩
  rw [← hn5, ← hnp5] at hr2
  rw [← hn5, ← hnp5]
  have Hn5 := Lib.hid hn5
  have HR2 := Lib.hid hr2
  have hS5 := HS4.out.sees hs5
  clear hn5 hnp5 hr2 x0 x1 x2 x3 x4 y0 y1 y2 y3 y4
  go_upto_region 6 with fail
  refine wp_world (fun w6 hw6 => ?_)
  have BN : RrAt w6 w5.heap.size mo pg fi2 (.slice a5 n5 c5) (.slice ap5 np5 cp5) := by subst hw6; exact RrAt.new rfl
  have s6 : Sees w5 w6 := by subst hw6; exact (Sees.refl w5).alloc _
  have HS6 := Lib.hid (hS5.sees s6)
  have HR6 := Lib.hid (HR2.out.sees s6)
  have HBN := Lib.hid BN
  have Hz5 := Lib.hid hs5.size
  have Hz6 := Lib.hid BN.lt
  clear hw6 BN s6 hS5 HR2 hs5
  have HS4o := Lib.hid (show W.heap.size + 3 ≤ w4.heap.size by have := HS4.out.oz; have := Hz4.out; omega)
  by_cases her : er = 0
  · subst her
    obtain ⟨x0, x1, x2, x3, x4⟩ := HS6.out.b0.c
    go_wp2_with fail
    refine (refNext08 mo pg fi (fi + n) a ap n c np cp w6 HX0.out (by have := Hfb.out; omega) (by have := HB.out.len; rw [Hn.out]; omega) rfl).mono ?_
    rintro e w7 ⟨rfl, hs7⟩
    have HS7 := Lib.hid (HS6.out.sees hs7)
    have HR7 := Lib.hid (HR6.out.sees hs7)
    have HBN7 := Lib.hid (HBN.out.sees hs7)
    have Hz67 := Lib.hid hs7.size
    clear hs7 x0 x1 x2 x3 x4 HS6 HR6 HBN
    obtain ⟨u0, u1⟩ := HS7.out.bo.c
    go_wp2_with fail
    refine (pushes8_any (u := .slice a3 un c3) (soft := soft) HS7.out.ring Ht.out (by have := Hfb.out; rw [← Hn.out]; omega) HS7.out.own.el.rd.rdc (fun b hb hf => by have := hb.2; have := HF.out b hf; omega) (by rw [← Hun.out]; exact Hlen.out) Hp.out _ (by rw [if_pos rfl, Hn.out])).mono ?_
    rintro e w8 ⟨rfl, hrg, hk8⟩
    obtain ⟨ED, OW, BO⟩ := HS7.out.ed HF.out HG.out HR7.out (fun b hb => by have := HS4.out.oz; have := Hz4.out; rcases hb with h | h; exact .inl h.1; exact .inr (by omega)) hrg hk8
    have hnf : ¬ F w5.heap.size := fun hf => by have := HF.out _ hf; have := HS4.out.oz; have := Hz4.out; have := Hz5.out; omega
    have BN8 := HBN7.out.keeps hk8 hnf
    have hz7 := Hz67.out
    clear hrg hk8 u0 u1
    obtain ⟨u0, u1⟩ := BO.c
    have HED := Lib.hid ED
    have HOW := Lib.hid OW
    have HBN8 := Lib.hid BN8
    have HLT := Lib.hid HS7.out.ownlt
    clear ED OW BO BN8 HS7 HR7 HBN7 hnf
    go_wp2_with fail
    refine (stain_own _ _ cs _ HOW.out (by rw [← Hun.out]; exact Hlen.out)).mono ?_
    rintro e w9 ⟨rfl, hk9⟩
    have hob : ∀ b, Value.ownBlock (.slice a3 un c3) = some b → W.heap.size + 3 ≤ b ∧ b < w3.heap.size := fun b hb => ⟨(El.rowLt HOW.out hb).1, HLT.out b hb⟩
    have h4 := Hz4.out
    have h5 := Hz5.out
    have h6 := Hz6.out
    have HE := Lib.hid (HED.out.keeps hk9 (fun b hb => by have := hob b hb; omega) (fun b hb e => by have h1 := hob b e; rcases hb.1 with h | h; (have := HF.out b h; omega); omega) (fun b hb e => by have h1 := hob b e; rcases hb.1 with h | h; (have := h.2; have := (HG.out b h.1).1; omega); omega) (fun e => by have := hob _ e; omega))
    have HN := Lib.hid (HBN8.out.keeps hk9 (fun e => by have := hob _ e; omega))
    clear hk9 hob HED HBN8 HOW HLT u0 u1 h4 h5 h6 hz7
    go_wp2_with fail
    refine wpH_go (fun b => b = W.heap.size + 1 + 1) 6 (by kernel_rfl) (by kernel_rfl) (by rfl) (fun hB w10 hs10 => ?_)
    have E10 := Lib.hid (HE.out.sees hs10)
    have BN10 := Lib.hid (HN.out.sees hs10)
    clear hs10 HE HN
    have hS0 : Keeps (fun b => b = W.heap.size + 1 + 1) w10 w10 := Keeps.refl _ w10
    refine wpH_take (i := 0) (v := .pointer (some ⟨r, 0, none⟩)) hB (by rfl) (by kernel_rfl) (fun _ _ _ _ _ h => h) (by rfl) hS0 (fun W hI => by clear hI; go_simp) ?_; (try simp only [Act.put, List.setIfInBounds_toArray, List.set_cons_zero, List.set_cons_succ])
    refine wpH_take (i := 1) (v := rrV mo pg fi2 (.slice a5 n5 c5) (.slice ap5 np5 cp5)) hB (by rfl) (by kernel_rfl) (fun _ _ _ _ _ h => h) (by rfl) hS0 (fun W hI => by have q := (BN10.out.keeps hI (by have := Hz5.out; have := HS4o.out; omega)).c; obtain ⟨q0, q1, q2, q3, q4⟩ := q; go_simp) ?_; (try simp only [Act.put, List.setIfInBounds_toArray, List.set_cons_zero, List.set_cons_succ])
    refine wpH_take (i := 2) (v := .bool true) hB (by rfl) (by kernel_rfl) (fun _ _ _ _ _ h => h) (by rfl) hS0 (fun W hI => by clear hI; go_simp) ?_; (try simp only [Act.put, List.setIfInBounds_toArray, List.set_cons_zero, List.set_cons_succ])
    refine wpH_one (i := 3) (by kernel_rfl) (wpOp_val (v := .pointer (some ⟨r, 0, none⟩)) (w' := w10) (by rfl) (wanted_none (by rfl) _) (by go_simp) ⟨hS0, ?_⟩)
    (try simp only [Act.put, List.setIfInBounds_toArray, List.set_cons_zero, List.set_cons_succ])
    obtain ⟨w11, hst11, hk11, D11⟩ := E10.out.b2.store mo pg fi2 a5 n5 c5 ap5 np5 cp5
    have HST11 := Lib.hid hst11
    refine wpH_one (i := 4) (by kernel_rfl) (wpOp_skip (w' := w11) (by rfl) (wanted_none (by rfl) _) (exec_store (a := .pointer (some ⟨W.heap.size + 1 + 1, 0, none⟩)) (v := rrV mo pg fi2 (.slice a5 n5 c5) (.slice ap5 np5 cp5)) rfl (by go_simp) (by go_simp) HST11.out) ⟨hk11, ?_⟩)
    (try simp only [Act.put, List.setIfInBounds_toArray, List.set_cons_zero, List.set_cons_succ])
    refine wpH_one (i := 5) (by kernel_rfl) (wpOp_val (v := .bool true) (w' := w11) (by rfl) (wanted_none (by rfl) _) (by go_simp) ⟨hk11, ?_⟩)
    (try simp only [Act.put, List.setIfInBounds_toArray, List.set_cons_zero, List.set_cons_succ])
    refine wpH_end (by kernel_rfl) ?_
    obtain ⟨z0, z1, z2, z3, z4⟩ := D11.c
    have HK11 := Lib.hid hk11
    clear hst11 hk11 D11 HST11 hS0 hB
    go_wp2
    refine bodyPost_ret_by (v := .tuple #[.pointer (some ⟨r, 0, none⟩), rrV mo pg fi2 (.slice a5 n5 c5) (.slice ap5 np5 cp5), .bool true]) (by simp [results, Tryd.results8, go_sem, z0, z1, z2, z3, z4]) rfl (E10.out.fin HK11.out ?_ ?_)
    · rcases Bool.eq_false_or_eq_true (lnOk cs) with hok | hok
      · obtain ⟨k, hk, e1, e2, -, -⟩ := Hp.out.ok hok
        rw [e1, e2, Hn.out, List.length_drop]; simp only [List.length_append, List.length_cons, List.length_nil]; have h1 := HB.out.lim; have h2 := HB.out.mo0; omega
      · obtain ⟨e1, e2, -, -⟩ := Hp.out.no hok
        rw [e1, e2, Hn.out]; omega
    · rcases Bool.eq_false_or_eq_true (lnOk cs) with hok | hok
      · obtain ⟨k, hk, e1, e2, -, -⟩ := Hp.out.ok hok
        rw [e2, Hn.out, List.length_drop]; simp only [List.length_append, List.length_cons, List.length_nil]; omega
      · obtain ⟨e1, e2, -, -⟩ := Hp.out.no hok
        rw [e2, Hn.out]; omega
  · have her0 : (er == 0) = false := beq_eq_false_iff_ne.2 her
    have HS7 := HS6
    have HR7 := HR6
    have HBN7 := HBN
    have Hz67 := Lib.hid (Nat.le_refl w6.heap.size)
    have Her := Lib.hid her
    clear HS6 HR6 HBN her
    obtain ⟨u0, u1⟩ := HS7.out.bo.c
    go_wp2_with fail
    refine (pushes8_any (u := .slice a3 un c3) (soft := soft) HS7.out.ring Ht.out (by have := Hfb.out; rw [← Hn.out]; omega) HS7.out.own.el.rd.rdc (fun b hb hf => by have := hb.2; have := HF.out b hf; omega) (by rw [← Hun.out]; exact Hlen.out) Hp.out _ (by rw [if_neg Her.out])).mono ?_
    rintro e w8 ⟨rfl, hrg, hk8⟩
    obtain ⟨ED, OW, BO⟩ := HS7.out.ed HF.out HG.out HR7.out (fun b hb => by have := HS4.out.oz; have := Hz4.out; rcases hb with h | h; exact .inl h.1; exact .inr (by omega)) hrg hk8
    have hnf : ¬ F w5.heap.size := fun hf => by have := HF.out _ hf; have := HS4.out.oz; have := Hz4.out; have := Hz5.out; omega
    have BN8 := HBN7.out.keeps hk8 hnf
    have hz7 := Hz67.out
    clear hrg hk8 u0 u1
    obtain ⟨u0, u1⟩ := BO.c
    have HED := Lib.hid ED
    have HOW := Lib.hid OW
    have HBN8 := Lib.hid BN8
    have HLT := Lib.hid HS7.out.ownlt
    clear ED OW BO BN8 HS7 HR7 HBN7 hnf
    go_wp2_with fail
    refine (stain_own _ _ cs _ HOW.out (by rw [← Hun.out]; exact Hlen.out)).mono ?_
    rintro e w9 ⟨rfl, hk9⟩
    have hob : ∀ b, Value.ownBlock (.slice a3 un c3) = some b → W.heap.size + 3 ≤ b ∧ b < w3.heap.size := fun b hb => ⟨(El.rowLt HOW.out hb).1, HLT.out b hb⟩
    have h4 := Hz4.out
    have h5 := Hz5.out
    have h6 := Hz6.out
    have HE := Lib.hid (HED.out.keeps hk9 (fun b hb => by have := hob b hb; omega) (fun b hb e => by have h1 := hob b e; rcases hb.1 with h | h; (have := HF.out b h; omega); omega) (fun b hb e => by have h1 := hob b e; rcases hb.1 with h | h; (have := h.2; have := (HG.out b h.1).1; omega); omega) (fun e => by have := hob _ e; omega))
    have HN := Lib.hid (HBN8.out.keeps hk9 (fun e => by have := hob _ e; omega))
    clear hk9 hob HED HBN8 HOW HLT u0 u1 h4 h5 h6 hz7
    go_wp2_with fail
    refine wpH_go (fun b => b = W.heap.size + 1 + 1) 6 (by kernel_rfl) (by kernel_rfl) (by rfl) (fun hB w10 hs10 => ?_)
    have E10 := Lib.hid (HE.out.sees hs10)
    have BN10 := Lib.hid (HN.out.sees hs10)
    clear hs10 HE HN
    have hS0 : Keeps (fun b => b = W.heap.size + 1 + 1) w10 w10 := Keeps.refl _ w10
    refine wpH_take (i := 0) (v := .pointer (some ⟨r, 0, none⟩)) hB (by rfl) (by kernel_rfl) (fun _ _ _ _ _ h => h) (by rfl) hS0 (fun W hI => by clear hI; go_simp) ?_; (try simp only [Act.put, List.setIfInBounds_toArray, List.set_cons_zero, List.set_cons_succ])
    refine wpH_take (i := 1) (v := rrV mo pg fi2 (.slice a5 n5 c5) (.slice ap5 np5 cp5)) hB (by rfl) (by kernel_rfl) (fun _ _ _ _ _ h => h) (by rfl) hS0 (fun W hI => by have q := (BN10.out.keeps hI (by have := Hz5.out; have := HS4o.out; omega)).c; obtain ⟨q0, q1, q2, q3, q4⟩ := q; go_simp) ?_; (try simp only [Act.put, List.setIfInBounds_toArray, List.set_cons_zero, List.set_cons_succ])
    refine wpH_take (i := 2) (v := .bool true) hB (by rfl) (by kernel_rfl) (fun _ _ _ _ _ h => h) (by rfl) hS0 (fun W hI => by clear hI; go_simp) ?_; (try simp only [Act.put, List.setIfInBounds_toArray, List.set_cons_zero, List.set_cons_succ])
    refine wpH_one (i := 3) (by kernel_rfl) (wpOp_val (v := .pointer (some ⟨r, 0, none⟩)) (w' := w10) (by rfl) (wanted_none (by rfl) _) (by go_simp) ⟨hS0, ?_⟩)
    (try simp only [Act.put, List.setIfInBounds_toArray, List.set_cons_zero, List.set_cons_succ])
    obtain ⟨w11, hst11, hk11, D11⟩ := E10.out.b2.store mo pg fi2 a5 n5 c5 ap5 np5 cp5
    have HST11 := Lib.hid hst11
    refine wpH_one (i := 4) (by kernel_rfl) (wpOp_skip (w' := w11) (by rfl) (wanted_none (by rfl) _) (exec_store (a := .pointer (some ⟨W.heap.size + 1 + 1, 0, none⟩)) (v := rrV mo pg fi2 (.slice a5 n5 c5) (.slice ap5 np5 cp5)) rfl (by go_simp) (by go_simp) HST11.out) ⟨hk11, ?_⟩)
    (try simp only [Act.put, List.setIfInBounds_toArray, List.set_cons_zero, List.set_cons_succ])
    refine wpH_one (i := 5) (by kernel_rfl) (wpOp_val (v := .bool true) (w' := w11) (by rfl) (wanted_none (by rfl) _) (by go_simp) ⟨hk11, ?_⟩)
    (try simp only [Act.put, List.setIfInBounds_toArray, List.set_cons_zero, List.set_cons_succ])
    refine wpH_end (by kernel_rfl) ?_
    obtain ⟨z0, z1, z2, z3, z4⟩ := D11.c
    have HK11 := Lib.hid hk11
    clear hst11 hk11 D11 HST11 hS0 hB
    go_wp2
    refine bodyPost_ret_by (v := .tuple #[.pointer (some ⟨r, 0, none⟩), rrV mo pg fi2 (.slice a5 n5 c5) (.slice ap5 np5 cp5), .bool true]) (by simp [results, Tryd.results8, go_sem, z0, z1, z2, z3, z4]) rfl (E10.out.fin HK11.out ?_ ?_)
    · rcases Bool.eq_false_or_eq_true (lnOk cs) with hok | hok
      · obtain ⟨k, hk, e1, e2, -, -⟩ := Hp.out.ok hok
        rw [e1, e2, Hn.out, List.length_drop]; simp only [List.length_append, List.length_cons, List.length_nil]; have h1 := HB.out.lim; have h2 := HB.out.mo0; omega
      · obtain ⟨e1, e2, -, -⟩ := Hp.out.no hok
        rw [e1, e2, Hn.out]; omega
    · rcases Bool.eq_false_or_eq_true (lnOk cs) with hok | hok
      · obtain ⟨k, hk, e1, e2, -, -⟩ := Hp.out.ok hok
        rw [e2, Hn.out, List.length_drop]; simp only [List.length_append, List.length_cons, List.length_nil]; omega
      · obtain ⟨e1, e2, -, -⟩ := Hp.out.no hok
        rw [e2, Hn.out]; omega
set_option maxRecDepth 100000 in
set_option maxHeartbeats 4000000 in
theorem does8_set (ht : Tabs w1) (h : RgF w1 F W r mo pg fi ls g) (hF : ∀ b, F b → b < W.heap.size) (hG : ∀ b, G b → b < W.heap.size ∧ ¬ F b) (hv : RrRd G W vl vp ls g) (hu : RdCells W (.slice ua un uc) cs) (hun : un = cs.length) (hlen : un ≤ 1000000) (hfb : fi + (ls.length : Int) ≤ 1000000) (hnum : -9223372036854775808 ≤ num ∧ num ≤ 9223372036854775807) :
    Calls Tryd.prog 8 #[.pointer (some ⟨r, 0, none⟩), rrV mo pg fi vl vp, .agg #[.int .i64 2, .int .i64 num, .int .i64 upto, .slice ua un uc, .bool soft]] W fun e w' => DoesP8 w1 W F G (fi + (ls.length : Int)) (ls.length : Int) e w' := by
  obtain ⟨a, c, rfl, -⟩ := hv.l.slice'
  obtain ⟨ap, cp, rfl, -⟩ := hv.p.slice'
  have HB := Lib.hid h.b8
  obtain ⟨n, hn⟩ : ∃ n, n = ls.length := ⟨_, rfl⟩
  obtain ⟨np, hnp⟩ : ∃ n, n = g.length := ⟨_, rfl⟩
  rw [← hn] at hv hfb ⊢
  rw [← hnp] at hv ⊢
  have Hn := Lib.hid hn
  have HP := Lib.hid h
  have HV := Lib.hid hv
  have HU := Lib.hid hu
  have Hun := Lib.hid hun
  have HF := Lib.hid hF
  have HG := Lib.hid hG
  have Ht := Lib.hid ht
  have Hlen := Lib.hid hlen
  have Hfb := Lib.hid hfb
  have Hnum := Lib.hid hnum
  have HX0 := Lib.hid h.b8.fi0
  clear h hv hu hun hF hG ht hn hnp hlen hfb hnum
  go_enter Tryd.func8, Tryd.ntmps8
  go_wp2_with fail
  refine calls_world (fun w2 hw2 => ?_)
  have A4 : RrAt w2 W.heap.size mo pg fi (.slice a n c) (.slice ap np cp) := by subst hw2; exact ((RrAt.new rfl).alloc _).alloc _
  have A5 : Ac8 w2 (W.heap.size + 1) 2 num upto (.slice ua un uc) soft := by subst hw2; exact (Ac8.new (by simp)).alloc _
  have A7 : RrAt w2 (W.heap.size + 1 + 1) 0 0 0 (.slice none 0 0) (.slice none 0 0) := by subst hw2; exact RrAt.new (by simp)
  have S2 : Sees W w2 := by subst hw2; exact (((Sees.refl W).alloc _).alloc _).alloc _
  have hz2 : w2.heap.size = W.heap.size + 3 := by subst hw2; simp
  clear hw2
  refine (refCopy_any _ cs soft w2 (HU.out.sees S2) (by rw [← Hun.out]; exact Hlen.out)).mono ?_
  rintro e w3 ⟨v3, rfl, ho, hs⟩
  obtain ⟨a3, c3, rfl⟩ := ho.slice
  rw [← Hun.out] at ho ⊢
  go_upto_region 2 with fail
  refine wp_world (fun w4 hw4 => ?_)
  have A9 : LnAt w4 w3.heap.size (.slice a3 un c3) soft := by subst hw4; exact LnAt.new rfl
  have S4 : Sees w3 w4 := by subst hw4; exact (Sees.refl w3).alloc _
  have hz4 : w4.heap.size = w3.heap.size + 1 := by subst hw4; simp
  clear hw4
  have hz3 := hs.size
  have HS4 : Hid (St8 w1 W F G r mo pg fi ls g (.slice a n c) (.slice ap np cp) 2 num upto (.slice ua un uc) soft cs w3.heap.size (.slice a3 un c3) w4) := Lib.hid
    ⟨HP.out.sees (S2.trans (hs.trans S4)), HV.out.sees (S2.trans (hs.trans S4)), HU.out.sees (S2.trans (hs.trans S4)), A4.sees (hs.trans S4), A5.sees (hs.trans S4), A7.sees (hs.trans S4), OwnCells.sees (ho.mono (by omega)) S4, fun b hb => (El.rowLt ho hb).2, A9, by omega, S2.trans (hs.trans S4)⟩
  have Hz4 := Lib.hid hz4
  clear A4 A5 A7 S2 hz2 ho hs A9 S4 hz3 HP HV HU hz4
  obtain ⟨x0, x1, x2, x3, x4⟩ := HS4.out.b0.c
  obtain ⟨y0, y1, y2, y3, y4⟩ := HS4.out.b1.c
  go_wp2_with fail
  refine (refSet8_any (u := .slice ua un uc) (soft := soft) HB.out num Hnum.out HS4.out.rr HS4.out.us (by rw [← Hun.out]; exact Hlen.out)).mono ?_
  rintro e w5 ⟨vl2, vp2, rfl, hr2, hs5⟩
  obtain ⟨ls2, hls2⟩ : ∃ l, l = setD cs soft fi ls num := ⟨_, rfl⟩
  obtain ⟨er, her⟩ : ∃ l, l = errS cs fi ls.length num := ⟨_, rfl⟩
  rw [← hls2] at hr2
  rw [← her]
  have Hls2 := Lib.hid hls2
  have Her := Lib.hid her
  have hl2 : ls2.length = ls.length := by rw [hls2]; exact setD_len ..
  have Hl2 := Lib.hid hl2
  clear hls2 her hl2
  obtain ⟨a5, c5, rfl, -⟩ := hr2.l.slice'
  obtain ⟨ap5, cp5, rfl, -⟩ := hr2.p.slice'
  obtain ⟨n5, hn5⟩ : ∃ n, n = ls2.length := ⟨_, rfl⟩
  obtain ⟨np5, hnp5⟩ : ∃ n, n = g.length := ⟨_, rfl⟩
  rw [← hn5, ← hnp5] at hr2
  rw [← hn5, ← hnp5]
  have Hn5 := Lib.hid hn5
  have HR2 := Lib.hid hr2
  have hS5 := HS4.out.sees hs5
  clear hn5 hnp5 hr2 x0 x1 x2 x3 x4 y0 y1 y2 y3 y4
  go_upto_region 16 with fail
  refine wp_world (fun w6 hw6 => ?_)
  have BN : RrAt w6 w5.heap.size mo pg fi (.slice a5 n5 c5) (.slice ap5 np5 cp5) := by subst hw6; exact RrAt.new rfl
  have s6 : Sees w5 w6 := by subst hw6; exact (Sees.refl w5).alloc _
  have HS6 := Lib.hid (hS5.sees s6)
  have HR6 := Lib.hid (HR2.out.sees s6)
  have HBN := Lib.hid BN
  have Hz5 := Lib.hid hs5.size
  have Hz6 := Lib.hid BN.lt
  clear hw6 BN s6 hS5 HR2 hs5
  have HS4o := Lib.hid (show W.heap.size + 3 ≤ w4.heap.size by have := HS4.out.oz; have := Hz4.out; omega)
  have HS7 := HS6
  have HR7 := HR6
  have HBN7 := HBN
  have Hz67 := Lib.hid (Nat.le_refl w6.heap.size)
  clear HS6 HR6 HBN
  obtain ⟨y0, y1, y2, y3, y4⟩ := HS7.out.b1.c
  obtain ⟨u0, u1⟩ := HS7.out.bo.c
  go_wp2_with fail
  refine (set8_any (u := .slice a3 un c3) (soft := soft) HS7.out.ring Ht.out num HS7.out.own.el.rd.rdc (fun b hb hf => by have := hb.2; have := HF.out b hf; omega) (by rw [← Hun.out]; exact Hlen.out)).mono ?_
  rintro e w8 ⟨rfl, hrg, hk8⟩
  rw [← Her.out]
  rw [← Hls2.out] at hrg
  clear y0 y1 y2 y3 y4
  obtain ⟨ED, OW, BO⟩ := HS7.out.ed HF.out HG.out HR7.out (fun b hb => by have := HS4.out.oz; have := Hz4.out; rcases hb with h | h; exact .inl h.1; exact .inr (by omega)) hrg hk8
  have hnf : ¬ F w5.heap.size := fun hf => by have := HF.out _ hf; have := HS4.out.oz; have := Hz4.out; have := Hz5.out; omega
  have BN8 := HBN7.out.keeps hk8 hnf
  have hz7 := Hz67.out
  clear hrg hk8 u0 u1
  obtain ⟨u0, u1⟩ := BO.c
  have HED := Lib.hid ED
  have HOW := Lib.hid OW
  have HBN8 := Lib.hid BN8
  have HLT := Lib.hid HS7.out.ownlt
  clear ED OW BO BN8 HS7 HR7 HBN7 hnf
  go_wp2_with fail
  refine (stain_own _ _ cs _ HOW.out (by rw [← Hun.out]; exact Hlen.out)).mono ?_
  rintro e w9 ⟨rfl, hk9⟩
  have hob : ∀ b, Value.ownBlock (.slice a3 un c3) = some b → W.heap.size + 3 ≤ b ∧ b < w3.heap.size := fun b hb => ⟨(El.rowLt HOW.out hb).1, HLT.out b hb⟩
  have h4 := Hz4.out
  have h5 := Hz5.out
  have h6 := Hz6.out
  have HE := Lib.hid (HED.out.keeps hk9 (fun b hb => by have := hob b hb; omega) (fun b hb e => by have h1 := hob b e; rcases hb.1 with h | h; (have := HF.out b h; omega); omega) (fun b hb e => by have h1 := hob b e; rcases hb.1 with h | h; (have := h.2; have := (HG.out b h.1).1; omega); omega) (fun e => by have := hob _ e; omega))
  have HN := Lib.hid (HBN8.out.keeps hk9 (fun e => by have := hob _ e; omega))
  clear hk9 hob HED HBN8 HOW HLT u0 u1 h4 h5 h6 hz7
  go_wp2_with fail
  refine wpH_go (fun b => b = W.heap.size + 1 + 1) 8 (by kernel_rfl) (by kernel_rfl) (by rfl) (fun hB w10 hs10 => ?_)
  have E10 := Lib.hid (HE.out.sees hs10)
  have BN10 := Lib.hid (HN.out.sees hs10)
  clear hs10 HE HN
  have hS0 : Keeps (fun b => b = W.heap.size + 1 + 1) w10 w10 := Keeps.refl _ w10
  refine wpH_take (i := 0) (v := .pointer (some ⟨r, 0, none⟩)) hB (by rfl) (by kernel_rfl) (fun _ _ _ _ _ h => h) (by rfl) hS0 (fun W hI => by clear hI; go_simp) ?_; (try simp only [Act.put, List.setIfInBounds_toArray, List.set_cons_zero, List.set_cons_succ])
  refine wpH_take (i := 1) (v := rrV mo pg fi (.slice a5 n5 c5) (.slice ap5 np5 cp5)) hB (by rfl) (by kernel_rfl) (fun _ _ _ _ _ h => h) (by rfl) hS0 (fun W hI => by have q := (BN10.out.keeps hI (by have := Hz5.out; have := HS4o.out; omega)).c; obtain ⟨q0, q1, q2, q3, q4⟩ := q; go_simp) ?_; (try simp only [Act.put, List.setIfInBounds_toArray, List.set_cons_zero, List.set_cons_succ])
  refine wpH_take (i := 2) (v := .int .i64 er) hB (by rfl) (by kernel_rfl) (fun _ _ _ _ _ h => h) (by rfl) hS0 (fun W hI => by clear hI; go_simp) ?_; (try simp only [Act.put, List.setIfInBounds_toArray, List.set_cons_zero, List.set_cons_succ])
  refine wpH_take (i := 3) (v := .int .i64 er) hB (by rfl) (by kernel_rfl) (fun _ _ _ _ _ h => h) (by rfl) hS0 (fun W hI => by clear hI; go_simp) ?_; (try simp only [Act.put, List.setIfInBounds_toArray, List.set_cons_zero, List.set_cons_succ])
  refine wpH_take (i := 4) (v := .bool true) hB (by rfl) (by kernel_rfl) (fun _ _ _ _ _ h => h) (by rfl) hS0 (fun W hI => by clear hI; go_simp) ?_; (try simp only [Act.put, List.setIfInBounds_toArray, List.set_cons_zero, List.set_cons_succ])
  refine wpH_one (i := 5) (by kernel_rfl) (wpOp_val (v := .pointer (some ⟨r, 0, none⟩)) (w' := w10) (by rfl) (wanted_none (by rfl) _) (by go_simp) ⟨hS0, ?_⟩)
  (try simp only [Act.put, List.setIfInBounds_toArray, List.set_cons_zero, List.set_cons_succ])
  obtain ⟨w11, hst11, hk11, D11⟩ := E10.out.b2.store mo pg fi a5 n5 c5 ap5 np5 cp5
  have HST11 := Lib.hid hst11
  refine wpH_one (i := 6) (by kernel_rfl) (wpOp_skip (w' := w11) (by rfl) (wanted_none (by rfl) _) (exec_store (a := .pointer (some ⟨W.heap.size + 1 + 1, 0, none⟩)) (v := rrV mo pg fi (.slice a5 n5 c5) (.slice ap5 np5 cp5)) rfl (by go_simp) (by go_simp) HST11.out) ⟨hk11, ?_⟩)
  (try simp only [Act.put, List.setIfInBounds_toArray, List.set_cons_zero, List.set_cons_succ])
  refine wpH_one (i := 7) (by kernel_rfl) (wpOp_val (v := .bool true) (w' := w11) (by rfl) (wanted_none (by rfl) _) (by go_simp) ⟨hk11, ?_⟩)
  (try simp only [Act.put, List.setIfInBounds_toArray, List.set_cons_zero, List.set_cons_succ])
  refine wpH_end (by kernel_rfl) ?_
  obtain ⟨z0, z1, z2, z3, z4⟩ := D11.c
  have HK11 := Lib.hid hk11
  clear hst11 hk11 D11 HST11 hS0 hB
  go_wp2
  refine bodyPost_ret_by (v := .tuple #[.pointer (some ⟨r, 0, none⟩), rrV mo pg fi (.slice a5 n5 c5) (.slice ap5 np5 cp5), .bool true]) (by simp [results, Tryd.results8, go_sem, z0, z1, z2, z3, z4]) rfl (E10.out.fin HK11.out ?_ ?_)
  · rw [Hl2.out, Hn.out]; omega
  · rw [Hl2.out, Hn.out]; omega
end
end Go.Proofs.YthjcnhgfagefjaaDoor

namespace Go.Proofs.YthjcnhgfagefjaaDoor
set_option linter.unusedVariables false
set_option linter.unusedSimpArgs false
open Go.RowKit

theorem RgF.cut8 {w1 W : World} {F : Nat → Prop} {r : Nat} {mo pg fi : Int} {ls : List Ln} {g : List (Int × Nat)} (h : RgF w1 F W r mo pg fi ls g) : RgF w1 (fun b => F b ∧ b < W.heap.size) W r mo pg fi ls g := h.mono (fun b hb h => ⟨h, hb⟩) (fun b hb => h.low b hb.1)
section
variable {w1 W : World} {F G : Nat → Prop} {r un : Nat} {mo pg fi num upto : Int} {ls : List Ln} {g : List (Int × Nat)} {vl vp : Value} {ua : Option Addr} {uc : Nat} {cs : List Cell} {soft : Bool}
set_option maxRecDepth 100000 in
set_option maxHeartbeats 4000000 in
theorem does8_limit (ht : Tabs w1) (h : RgF w1 F W r mo pg fi ls g) (hF : ∀ b, F b → b < W.heap.size) (hG : ∀ b, G b → b < W.heap.size ∧ ¬ F b) (hv : RrRd G W vl vp ls g) (hu : RdCells W (.slice ua un uc) cs) (hun : un = cs.length) (hlen : un ≤ 1000000) (hfb : fi + (ls.length : Int) ≤ 1000000) (hnum : -9223372036854775808 ≤ num ∧ num ≤ 9223372036854775807) :
    Calls Tryd.prog 8 #[.pointer (some ⟨r, 0, none⟩), rrV mo pg fi vl vp, .agg #[.int .i64 3, .int .i64 num, .int .i64 upto, .slice ua un uc, .bool soft]] W fun e w' => DoesP8 w1 W F G (fi + (ls.length : Int)) (ls.length : Int) e w' := by
  obtain ⟨a, c, rfl, -⟩ := hv.l.slice'
  obtain ⟨ap, cp, rfl, -⟩ := hv.p.slice'
  have HB := Lib.hid h.b8
  obtain ⟨n, hn⟩ : ∃ n, n = ls.length := ⟨_, rfl⟩
  obtain ⟨np, hnp⟩ : ∃ n, n = g.length := ⟨_, rfl⟩
  rw [← hn] at hv hfb ⊢
  rw [← hnp] at hv ⊢
  have Hn := Lib.hid hn
  have HP := Lib.hid h
  have HV := Lib.hid hv
  have HU := Lib.hid hu
  have Hun := Lib.hid hun
  have HF := Lib.hid hF
  have HG := Lib.hid hG
  have Ht := Lib.hid ht
  have Hlen := Lib.hid hlen
  have Hfb := Lib.hid hfb
  have Hnum := Lib.hid hnum
  have HX0 := Lib.hid h.b8.fi0
  clear h hv hu hun hF hG ht hn hnp hlen hfb hnum
  go_enter Tryd.func8, Tryd.ntmps8
  go_wp2_with fail
  refine calls_world (fun w2 hw2 => ?_)
  have A4 : RrAt w2 W.heap.size mo pg fi (.slice a n c) (.slice ap np cp) := by subst hw2; exact ((RrAt.new rfl).alloc _).alloc _
  have A5 : Ac8 w2 (W.heap.size + 1) 3 num upto (.slice ua un uc) soft := by subst hw2; exact (Ac8.new (by simp)).alloc _
  have A7 : RrAt w2 (W.heap.size + 1 + 1) 0 0 0 (.slice none 0 0) (.slice none 0 0) := by subst hw2; exact RrAt.new (by simp)
  have S2 : Sees W w2 := by subst hw2; exact (((Sees.refl W).alloc _).alloc _).alloc _
  have hz2 : w2.heap.size = W.heap.size + 3 := by subst hw2; simp
  clear hw2
  refine (refCopy_any _ cs soft w2 (HU.out.sees S2) (by rw [← Hun.out]; exact Hlen.out)).mono ?_
  rintro e w3 ⟨v3, rfl, ho, hs⟩
  obtain ⟨a3, c3, rfl⟩ := ho.slice
  rw [← Hun.out] at ho ⊢
  go_upto_region 2 with fail
  refine wp_world (fun w4 hw4 => ?_)
  have A9 : LnAt w4 w3.heap.size (.slice a3 un c3) soft := by subst hw4; exact LnAt.new rfl
  have S4 : Sees w3 w4 := by subst hw4; exact (Sees.refl w3).alloc _
  have hz4 : w4.heap.size = w3.heap.size + 1 := by subst hw4; simp
  clear hw4
  have hz3 := hs.size
  have HS4 : Hid (St8 w1 W F G r mo pg fi ls g (.slice a n c) (.slice ap np cp) 3 num upto (.slice ua un uc) soft cs w3.heap.size (.slice a3 un c3) w4) := Lib.hid
    ⟨HP.out.sees (S2.trans (hs.trans S4)), HV.out.sees (S2.trans (hs.trans S4)), HU.out.sees (S2.trans (hs.trans S4)), A4.sees (hs.trans S4), A5.sees (hs.trans S4), A7.sees (hs.trans S4), OwnCells.sees (ho.mono (by omega)) S4, fun b hb => (El.rowLt ho hb).2, A9, by omega, S2.trans (hs.trans S4)⟩
  have Hz4 := Lib.hid hz4
  clear A4 A5 A7 S2 hz2 ho hs A9 S4 hz3 HP HV HU hz4
  obtain ⟨x0, x1, x2, x3, x4⟩ := HS4.out.b0.c
  obtain ⟨y0, y1, y2, y3, y4⟩ := HS4.out.b1.c
  go_wp2_with fail
  refine (refLimit8_any HB.out num HS4.out.rr).mono ?_
  rintro e w5 ⟨mo2, fi2, ls2, g2, er, vl2, vp2, rfl, hp, hr2, hs5⟩
  have Hp := Lib.hid hp
  clear hp
  obtain ⟨a5, c5, rfl, -⟩ := hr2.l.slice'
  obtain ⟨ap5, cp5, rfl, -⟩ := hr2.p.slice'
  obtain ⟨n5, hn5⟩ : ∃ n, n = ls2.length := ⟨_, rfl⟩
  obtain ⟨np5, hnp5⟩ : ∃ n, n = g2.length := ⟨_, rfl⟩
  rw [← hn5, ← hnp5] at hr2
  rw [← hn5, ← hnp5]
  have Hn5 := Lib.hid hn5
  have HR2 := Lib.hid hr2
  have hS5 := HS4.out.sees hs5
  clear hn5 hnp5 hr2 x0 x1 x2 x3 x4 y0 y1 y2 y3 y4
  go_upto_region 21 with fail
  refine wp_world (fun w6 hw6 => ?_)
  have BN : RrAt w6 w5.heap.size mo2 pg fi2 (.slice a5 n5 c5) (.slice ap5 np5 cp5) := by subst hw6; exact RrAt.new rfl
  have s6 : Sees w5 w6 := by subst hw6; exact (Sees.refl w5).alloc _
  have HS6 := Lib.hid (hS5.sees s6)
  have HR6 := Lib.hid (HR2.out.sees s6)
  have HBN := Lib.hid BN
  have Hz5 := Lib.hid hs5.size
  have Hz6 := Lib.hid BN.lt
  clear hw6 BN s6 hS5 HR2 hs5
  have HS4o := Lib.hid (show W.heap.size + 3 ≤ w4.heap.size by have := HS4.out.oz; have := Hz4.out; omega)
  obtain ⟨FF, hFF⟩ : ∃ FF : Nat → Prop, FF = fun b => F b ∨ b = W.heap.size + 1 + 1 := ⟨_, rfl⟩
  have nF1 : Hid (∀ b, W.heap.size ≤ b → b ≠ W.heap.size + 1 + 1 → ¬ FF b) := Lib.hid (fun b h1 h2 hf => by rw [hFF] at hf; rcases hf with h | h; (have := HF.out b h; omega); exact h2 h)
  have FF1 : Hid (∀ b, F b → FF b) := Lib.hid (by rw [hFF]; exact fun b h => .inl h)
  have FF2 : Hid (FF (W.heap.size + 1 + 1)) := Lib.hid (by rw [hFF]; exact .inr rfl)
  clear hFF
  refine wpH_go FF 11 (by kernel_rfl) (by kernel_rfl) (by rfl) (fun hB w10 hs10 => ?_)
  have HS10 := Lib.hid (HS6.out.sees hs10)
  have BN10 := Lib.hid (HBN.out.sees hs10)
  have HR10 := Lib.hid (HR6.out.sees hs10)
  have Hz10 := Lib.hid hs10.size
  clear hs10 HS6 HR6 HBN
  have hS0 : Keeps FF w10 w10 := Keeps.refl _ w10
  refine wpH_take (i := 0) (v := .pointer (some ⟨r, 0, none⟩)) hB (by rfl) (by kernel_rfl) (fun _ _ _ _ _ h => h) (by rfl) hS0 (fun W hI => by clear hI; go_simp) ?_; (try simp only [Act.put, List.setIfInBounds_toArray, List.set_cons_zero, List.set_cons_succ])
  refine wpH_take (i := 1) (v := rrV mo2 pg fi2 (.slice a5 n5 c5) (.slice ap5 np5 cp5)) hB (by rfl) (by kernel_rfl) (fun _ _ _ _ _ h => h) (by rfl) hS0 (fun W hI => by have q := (BN10.out.keeps hI (nF1.out _ (by have := Hz5.out; have := HS4o.out; omega) (by have := Hz5.out; have := HS4o.out; omega))).c; obtain ⟨q0, q1, q2, q3, q4⟩ := q; go_simp) ?_; (try simp only [Act.put, List.setIfInBounds_toArray, List.set_cons_zero, List.set_cons_succ])
  refine wpH_take (i := 2) (v := .pointer (some ⟨r, 0, none⟩)) hB (by rfl) (by kernel_rfl) (fun _ _ _ _ _ h => h) (by rfl) hS0 (fun W hI => by clear hI; go_simp) ?_; (try simp only [Act.put, List.setIfInBounds_toArray, List.set_cons_zero, List.set_cons_succ])
  refine wpH_take (i := 3) (v := .pointer (some ⟨W.heap.size + 1, 1, none⟩)) hB (by rfl) (by kernel_rfl) (fun _ _ _ _ _ h => h) (by rfl) hS0 (fun W hI => by clear hI; go_simp) ?_; (try simp only [Act.put, List.setIfInBounds_toArray, List.set_cons_zero, List.set_cons_succ])
  refine wpH_take (i := 4) (v := .int .i64 num) hB (by rfl) (by kernel_rfl) (fun _ _ _ _ _ h => h) (by rfl) hS0 (fun W hI => by have q := (HS10.out.b1.keeps hI (nF1.out _ (by omega) (by omega))).c; obtain ⟨q0, q1, q2, q3, q4⟩ := q; go_simp) ?_; (try simp only [Act.put, List.setIfInBounds_toArray, List.set_cons_zero, List.set_cons_succ])
  refine wpH_take (i := 6) (v := .int .i64 er) hB (by rfl) (by kernel_rfl) (fun _ _ _ _ _ h => h) (by rfl) hS0 (fun W hI => by clear hI; go_simp) ?_; (try simp only [Act.put, List.setIfInBounds_toArray, List.set_cons_zero, List.set_cons_succ])
  refine wpH_one (i := 5) (by kernel_rfl) (wpOp_enter (fn := 20) (args := #[.pointer (some ⟨r, 0, none⟩), .int .i64 num]) (by rfl) (by rfl) (by go_simp) ((limit8_any HS10.out.ring num Hp.out).mono ?_))
  rintro e w12 ⟨rfl, hrg, hk12⟩
  refine ⟨_, rfl, hk12.mono (fun b _ h => FF1.out b h), ?_⟩
  obtain ⟨ED, -, -⟩ := HS10.out.ed HF.out HG.out HR10.out (fun b hb => by have := HS4o.out; rcases hb with h | h; exact .inl h.1; exact .inr (by omega)) hrg hk12
  have HE := Lib.hid ED
  have hS0 : Keeps FF w10 w12 := hk12.mono (fun b _ h => FF1.out b h)
  clear hrg hk12 ED
  (try simp only [Act.put, List.setIfInBounds_toArray, List.set_cons_zero, List.set_cons_succ])
  refine wpH_take (i := 7) (v := .bool true) hB (by rfl) (by kernel_rfl) (fun _ _ _ _ _ h => h) (by rfl) hS0 (fun W hI => by clear hI; go_simp) ?_; (try simp only [Act.put, List.setIfInBounds_toArray, List.set_cons_zero, List.set_cons_succ])
  refine wpH_one (i := 8) (by kernel_rfl) (wpOp_val (v := .pointer (some ⟨r, 0, none⟩)) (w' := w12) (by rfl) (wanted_none (by rfl) _) (by go_simp) ⟨hS0, ?_⟩)
  (try simp only [Act.put, List.setIfInBounds_toArray, List.set_cons_zero, List.set_cons_succ])
  obtain ⟨w11, hst11, hk11, D11⟩ := HE.out.b2.store mo2 pg fi2 a5 n5 c5 ap5 np5 cp5
  have HST11 := Lib.hid hst11
  have hS1 : Keeps FF w10 w11 := hS0.trans (hk11.mono (fun b _ h => by subst h; exact FF2.out))
  refine wpH_one (i := 9) (by kernel_rfl) (wpOp_skip (w' := w11) (by rfl) (wanted_none (by rfl) _) (exec_store (a := .pointer (some ⟨W.heap.size + 1 + 1, 0, none⟩)) (v := rrV mo2 pg fi2 (.slice a5 n5 c5) (.slice ap5 np5 cp5)) rfl (by go_simp) (by go_simp) HST11.out) ⟨hS1, ?_⟩)
  (try simp only [Act.put, List.setIfInBounds_toArray, List.set_cons_zero, List.set_cons_succ])
  refine wpH_one (i := 10) (by kernel_rfl) (wpOp_val (v := .bool true) (w' := w11) (by rfl) (wanted_none (by rfl) _) (by go_simp) ⟨hS1, ?_⟩)
  (try simp only [Act.put, List.setIfInBounds_toArray, List.set_cons_zero, List.set_cons_succ])
  refine wpH_end (by kernel_rfl) ?_
  obtain ⟨z0, z1, z2, z3, z4⟩ := D11.c
  have HK11 := Lib.hid hk11
  clear hst11 hk11 D11 HST11 hS0 hS1 hB
  go_wp2
  refine bodyPost_ret_by (v := .tuple #[.pointer (some ⟨r, 0, none⟩), rrV mo2 pg fi2 (.slice a5 n5 c5) (.slice ap5 np5 cp5), .bool true]) (by simp [results, Tryd.results8, go_sem, z0, z1, z2, z3, z4]) rfl (HE.out.fin HK11.out ?_ ?_)
  · by_cases hx : 0 ≤ num ∧ num ≤ 1048576
    · obtain ⟨k, hk, -, e1, e2, -, -⟩ := Hp.out.ok hx.1 hx.2
      rw [e1, e2, Hn.out, List.length_drop]; omega
    · obtain ⟨-, e1, e2, -, -⟩ := Hp.out.no (by omega)
      rw [e1, e2, Hn.out]; omega
  · by_cases hx : 0 ≤ num ∧ num ≤ 1048576
    · obtain ⟨k, hk, -, e1, e2, -, -⟩ := Hp.out.ok hx.1 hx.2
      rw [e2, Hn.out, List.length_drop]; omega
    · obtain ⟨-, e1, e2, -, -⟩ := Hp.out.no (by omega)
      rw [e2, Hn.out]; omega
set_option maxRecDepth 100000 in
set_option maxHeartbeats 4000000 in
theorem does8_pop (ht : Tabs w1) (h : RgF w1 F W r mo pg fi ls g) (hF : ∀ b, F b → b < W.heap.size) (hG : ∀ b, G b → b < W.heap.size ∧ ¬ F b) (hv : RrRd G W vl vp ls g) (hu : RdCells W (.slice ua un uc) cs) (hun : un = cs.length) (hlen : un ≤ 1000000) (hfb : fi + (ls.length : Int) ≤ 1000000) (hnum : -9223372036854775808 ≤ num ∧ num ≤ 9223372036854775807) :
    Calls Tryd.prog 8 #[.pointer (some ⟨r, 0, none⟩), rrV mo pg fi vl vp, .agg #[.int .i64 1, .int .i64 num, .int .i64 upto, .slice ua un uc, .bool soft]] W fun e w' => DoesP8 w1 W F G (fi + (ls.length : Int)) (ls.length : Int) e w' := by
  obtain ⟨a, c, rfl, -⟩ := hv.l.slice'
  obtain ⟨ap, cp, rfl, -⟩ := hv.p.slice'
  have HB := Lib.hid h.b8
  obtain ⟨n, hn⟩ : ∃ n, n = ls.length := ⟨_, rfl⟩
  obtain ⟨np, hnp⟩ : ∃ n, n = g.length := ⟨_, rfl⟩
  rw [← hn] at hv hfb ⊢
  rw [← hnp] at hv ⊢
  have Hn := Lib.hid hn
  have HP := Lib.hid h
  have HV := Lib.hid hv
  have HU := Lib.hid hu
  have Hun := Lib.hid hun
  have HF := Lib.hid hF
  have HG := Lib.hid hG
  have Ht := Lib.hid ht
  have Hlen := Lib.hid hlen
  have Hfb := Lib.hid hfb
  have Hnum := Lib.hid hnum
  have HX0 := Lib.hid h.b8.fi0
  clear h hv hu hun hF hG ht hn hnp hlen hfb hnum
  go_enter Tryd.func8, Tryd.ntmps8
  go_wp2_with fail
  refine calls_world (fun w2 hw2 => ?_)
  have A4 : RrAt w2 W.heap.size mo pg fi (.slice a n c) (.slice ap np cp) := by subst hw2; exact ((RrAt.new rfl).alloc _).alloc _
  have A5 : Ac8 w2 (W.heap.size + 1) 1 num upto (.slice ua un uc) soft := by subst hw2; exact (Ac8.new (by simp)).alloc _
  have A7 : RrAt w2 (W.heap.size + 1 + 1) 0 0 0 (.slice none 0 0) (.slice none 0 0) := by subst hw2; exact RrAt.new (by simp)
  have S2 : Sees W w2 := by subst hw2; exact (((Sees.refl W).alloc _).alloc _).alloc _
  have hz2 : w2.heap.size = W.heap.size + 3 := by subst hw2; simp
  clear hw2
  refine (refCopy_any _ cs soft w2 (HU.out.sees S2) (by rw [← Hun.out]; exact Hlen.out)).mono ?_
  rintro e w3 ⟨v3, rfl, ho, hs⟩
  obtain ⟨a3, c3, rfl⟩ := ho.slice
  rw [← Hun.out] at ho ⊢
  go_upto_region 2 with fail
  refine wp_world (fun w4 hw4 => ?_)
  have A9 : LnAt w4 w3.heap.size (.slice a3 un c3) soft := by subst hw4; exact LnAt.new rfl
  have S4 : Sees w3 w4 := by subst hw4; exact (Sees.refl w3).alloc _
  have hz4 : w4.heap.size = w3.heap.size + 1 := by subst hw4; simp
  clear hw4
  have hz3 := hs.size
  have HS4 : Hid (St8 w1 W F G r mo pg fi ls g (.slice a n c) (.slice ap np cp) 1 num upto (.slice ua un uc) soft cs w3.heap.size (.slice a3 un c3) w4) := Lib.hid
    ⟨HP.out.sees (S2.trans (hs.trans S4)), HV.out.sees (S2.trans (hs.trans S4)), HU.out.sees (S2.trans (hs.trans S4)), A4.sees (hs.trans S4), A5.sees (hs.trans S4), A7.sees (hs.trans S4), OwnCells.sees (ho.mono (by omega)) S4, fun b hb => (El.rowLt ho hb).2, A9, by omega, S2.trans (hs.trans S4)⟩
  have Hz4 := Lib.hid hz4
  clear A4 A5 A7 S2 hz2 ho hs A9 S4 hz3 HP HV HU hz4
  obtain ⟨x0, x1, x2, x3, x4⟩ := HS4.out.b0.c
  obtain ⟨y0, y1, y2, y3, y4⟩ := HS4.out.b1.c
  go_wp2_with fail
  refine (refPop8_any HB.out HS4.out.rr).mono ?_
  rintro e w5 ⟨vl2, vp2, vx, rfl, hr2, hx2, hs5⟩
  obtain ⟨ls2, hls2⟩ : ∃ l, l = ls.dropLast := ⟨_, rfl⟩
  obtain ⟨g2, hg2⟩ : ∃ l, l = popG g := ⟨_, rfl⟩
  obtain ⟨l, hl⟩ : ∃ l, l = popL8 ls := ⟨_, rfl⟩
  obtain ⟨er, her⟩ : ∃ l, l = popE8 ls := ⟨_, rfl⟩
  rw [← hls2, ← hg2] at hr2
  rw [← hl] at hx2 ⊢
  rw [← her]
  have Hls2 := Lib.hid hls2
  have Hg2 := Lib.hid hg2
  have Hl := Lib.hid hl
  have Her := Lib.hid her
  clear hls2 hg2 hl her
  obtain ⟨ax, cx, rfl, -⟩ := hx2.slice'
  obtain ⟨nx, hnx⟩ : ∃ n, n = l.cells.length := ⟨_, rfl⟩
  obtain ⟨sx, hsx⟩ : ∃ n, n = l.soft := ⟨_, rfl⟩
  rw [← hnx] at hx2 ⊢
  rw [← hsx]
  have HX2 := Lib.hid hx2
  have Hsx := Lib.hid hsx
  have Hnx := Lib.hid hnx
  clear hx2 hnx hsx
  obtain ⟨a5, c5, rfl, -⟩ := hr2.l.slice'
  obtain ⟨ap5, cp5, rfl, -⟩ := hr2.p.slice'
  obtain ⟨n5, hn5⟩ : ∃ n, n = ls2.length := ⟨_, rfl⟩
  obtain ⟨np5, hnp5⟩ : ∃ n, n = g2.length := ⟨_, rfl⟩
  rw [← hn5, ← hnp5] at hr2
  rw [← hn5, ← hnp5]
  have Hn5 := Lib.hid hn5
  have HR2 := Lib.hid hr2
  have hS5 := HS4.out.sees hs5
  clear hn5 hnp5 hr2 x0 x1 x2 x3 x4 y0 y1 y2 y3 y4
  go_upto_region 13 with fail
  refine wp_world (fun w6 hw6 => ?_)
  have BN : RrAt w6 w5.heap.size mo pg fi (.slice a5 n5 c5) (.slice ap5 np5 cp5) := by subst hw6; exact (RrAt.new rfl).alloc _
  have BX : LnAt w6 (w5.heap.size + 1) (.slice ax nx cx) sx := by subst hw6; exact LnAt.new (by simp)
  have s6 : Sees w5 w6 := by subst hw6; exact ((Sees.refl w5).alloc _).alloc _
  have HS6 := Lib.hid (hS5.sees s6)
  have HR6 := Lib.hid (HR2.out.sees s6)
  have HBN := Lib.hid BN
  have HBX := Lib.hid BX
  have HX6 := Lib.hid (HX2.out.sees s6)
  have Hz5 := Lib.hid hs5.size
  have Hz6 := Lib.hid BN.lt
  clear hw6 BN BX s6 hS5 HR2 HX2 hs5
  have HS4o := Lib.hid (show W.heap.size + 3 ≤ w4.heap.size by have := HS4.out.oz; have := Hz4.out; omega)
  obtain ⟨FF, hFF⟩ : ∃ FF : Nat → Prop, FF = fun b => F b ∨ b = W.heap.size + 1 + 1 := ⟨_, rfl⟩
  have nF1 : Hid (∀ b, W.heap.size ≤ b → b ≠ W.heap.size + 1 + 1 → ¬ FF b) := Lib.hid (fun b h1 h2 hf => by rw [hFF] at hf; rcases hf with h | h; (have := HF.out b h; omega); exact h2 h)
  have FF1 : Hid (∀ b, F b → FF b) := Lib.hid (by rw [hFF]; exact fun b h => .inl h)
  have FF2 : Hid (FF (W.heap.size + 1 + 1)) := Lib.hid (by rw [hFF]; exact .inr rfl)
  clear hFF
  refine wpH_go FF 9 (by kernel_rfl) (by kernel_rfl) (by rfl) (fun hB w10 hs10 => ?_)
  have HS10 := Lib.hid (HS6.out.sees hs10)
  have BN10 := Lib.hid (HBN.out.sees hs10)
  have BX10 := Lib.hid (HBX.out.sees hs10)
  have HR10 := Lib.hid (HR6.out.sees hs10)
  have HX10 := Lib.hid (HX6.out.sees hs10)
  have Hz10 := Lib.hid hs10.size
  clear hs10 HS6 HR6 HBN HBX HX6
  have hS0 : Keeps FF w10 w10 := Keeps.refl _ w10
  refine wpH_take (i := 0) (v := .pointer (some ⟨r, 0, none⟩)) hB (by rfl) (by kernel_rfl) (fun _ _ _ _ _ h => h) (by rfl) hS0 (fun W hI => by clear hI; go_simp) ?_; (try simp only [Act.put, List.setIfInBounds_toArray, List.set_cons_zero, List.set_cons_succ])
  refine wpH_take (i := 1) (v := rrV mo pg fi (.slice a5 n5 c5) (.slice ap5 np5 cp5)) hB (by rfl) (by kernel_rfl) (fun _ _ _ _ _ h => h) (by rfl) hS0 (fun W hI => by have q := (BN10.out.keeps hI (nF1.out _ (by have := Hz5.out; have := HS4o.out; omega) (by have := Hz5.out; have := HS4o.out; omega))).c; obtain ⟨q0, q1, q2, q3, q4⟩ := q; go_simp) ?_; (try simp only [Act.put, List.setIfInBounds_toArray, List.set_cons_zero, List.set_cons_succ])
  refine wpH_take (i := 2) (v := .pointer (some ⟨r, 0, none⟩)) hB (by rfl) (by kernel_rfl) (fun _ _ _ _ _ h => h) (by rfl) hS0 (fun W hI => by clear hI; go_simp) ?_; (try simp only [Act.put, List.setIfInBounds_toArray, List.set_cons_zero, List.set_cons_succ])
  refine wpH_take (i := 3) (v := .agg #[.slice ax nx cx, .bool sx]) hB (by rfl) (by kernel_rfl) (fun _ _ _ _ _ h => h) (by rfl) hS0 (fun W hI => by have q := (BX10.out.keeps hI (nF1.out _ (by have := Hz5.out; have := HS4o.out; omega) (by have := Hz5.out; have := HS4o.out; omega))).c; obtain ⟨q0, q1⟩ := q; go_simp) ?_; (try simp only [Act.put, List.setIfInBounds_toArray, List.set_cons_zero, List.set_cons_succ])
  refine wpH_take (i := 4) (v := .int .i64 er) hB (by rfl) (by kernel_rfl) (fun _ _ _ _ _ h => h) (by rfl) hS0 (fun W hI => by clear hI; go_simp) ?_; (try simp only [Act.put, List.setIfInBounds_toArray, List.set_cons_zero, List.set_cons_succ])
  have KP := pops8_any (u := .slice ax nx cx) HS10.out.ring (by rw [← Hl.out]; exact HX10.out) (fun b hb hf => by have := HS4o.out; rcases hb with h | h; exact (HG.out b h.1).2 hf; (have := HF.out b hf; omega)) (fun b hb => by have := HF.out b hb; have := HS10.out.s.size; omega)
  rw [← Hl.out, ← Hsx.out, ← Her.out, ← Hls2.out, ← Hg2.out] at KP
  have HKP := Lib.hid KP
  clear KP
  refine wpH_one (i := 5) (by kernel_rfl) (wpOp_enter (fn := 19) (args := #[.pointer (some ⟨r, 0, none⟩), .agg #[.slice ax nx cx, .bool sx], .int .i64 er]) (by rfl) (by rfl) (by go_simp) (HKP.out.mono ?_))
  rintro e w12 ⟨rfl, hrg, hk12⟩
  refine ⟨_, rfl, hk12.mono (fun b _ h => FF1.out b h), ?_⟩
  obtain ⟨ED, -, -⟩ := HS10.out.ed HF.out HG.out HR10.out (fun b hb => by have := HS4o.out; rcases hb with h | h; exact .inl h.1; exact .inr (by omega)) (hrg.mono (fun b _ h => .inl h) (fun b hb => by rcases hb with h | h; exact hrg.low b h; (have := HS10.out.ring.see.size; omega))) hk12
  have HE := Lib.hid ED
  have hS0 : Keeps FF w10 w12 := hk12.mono (fun b _ h => FF1.out b h)
  clear hrg hk12 ED
  (try simp only [Act.put, List.setIfInBounds_toArray, List.set_cons_zero, List.set_cons_succ])
  refine wpH_one (i := 6) (by kernel_rfl) (wpOp_val (v := .pointer (some ⟨r, 0, none⟩)) (w' := w12) (by rfl) (wanted_none (by rfl) _) (by go_simp) ⟨hS0, ?_⟩)
  (try simp only [Act.put, List.setIfInBounds_toArray, List.set_cons_zero, List.set_cons_succ])
  obtain ⟨w11, hst11, hk11, D11⟩ := HE.out.b2.store mo pg fi a5 n5 c5 ap5 np5 cp5
  have HST11 := Lib.hid hst11
  have hS1 : Keeps FF w10 w11 := hS0.trans (hk11.mono (fun b _ h => by subst h; exact FF2.out))
  refine wpH_one (i := 7) (by kernel_rfl) (wpOp_skip (w' := w11) (by rfl) (wanted_none (by rfl) _) (exec_store (a := .pointer (some ⟨W.heap.size + 1 + 1, 0, none⟩)) (v := rrV mo pg fi (.slice a5 n5 c5) (.slice ap5 np5 cp5)) rfl (by go_simp) (by go_simp) HST11.out) ⟨hS1, ?_⟩)
  (try simp only [Act.put, List.setIfInBounds_toArray, List.set_cons_zero, List.set_cons_succ])
  refine wpH_one (i := 8) (by kernel_rfl) (wpOp_val (v := .bool true) (w' := w11) (by rfl) (wanted_none (by rfl) _) (by go_simp) ⟨hS1, ?_⟩)
  (try simp only [Act.put, List.setIfInBounds_toArray, List.set_cons_zero, List.set_cons_succ])
  refine wpH_end (by kernel_rfl) ?_
  obtain ⟨z0, z1, z2, z3, z4⟩ := D11.c
  have HK11 := Lib.hid hk11
  clear hst11 hk11 D11 HST11 hS0 hS1 hB
  go_wp2
  refine bodyPost_ret_by (v := .tuple #[.pointer (some ⟨r, 0, none⟩), rrV mo pg fi (.slice a5 n5 c5) (.slice ap5 np5 cp5), .bool true]) (by simp [results, Tryd.results8, go_sem, z0, z1, z2, z3, z4]) rfl (HE.out.fin HK11.out ?_ ?_)
  · rw [Hls2.out, Hn.out, List.length_dropLast]; omega
  · rw [Hls2.out, Hn.out, List.length_dropLast]; omega
set_option maxRecDepth 100000 in
set_option maxHeartbeats 4000000 in
theorem does8_clear (ht : Tabs w1) (h : RgF w1 F W r mo pg fi ls g) (hF : ∀ b, F b → b < W.heap.size) (hG : ∀ b, G b → b < W.heap.size ∧ ¬ F b) (hv : RrRd G W vl vp ls g) (hu : RdCells W (.slice ua un uc) cs) (hun : un = cs.length) (hlen : un ≤ 1000000) (hfb : fi + (ls.length : Int) ≤ 1000000) (hnum : -9223372036854775808 ≤ num ∧ num ≤ 9223372036854775807) :
    Calls Tryd.prog 8 #[.pointer (some ⟨r, 0, none⟩), rrV mo pg fi vl vp, .agg #[.int .i64 4, .int .i64 num, .int .i64 upto, .slice ua un uc, .bool soft]] W fun e w' => DoesP8 w1 W F G (fi + (ls.length : Int)) (ls.length : Int) e w' := by
  obtain ⟨a, c, rfl, -⟩ := hv.l.slice'
  obtain ⟨ap, cp, rfl, -⟩ := hv.p.slice'
  have HB := Lib.hid h.b8
  obtain ⟨n, hn⟩ : ∃ n, n = ls.length := ⟨_, rfl⟩
  obtain ⟨np, hnp⟩ : ∃ n, n = g.length := ⟨_, rfl⟩
  rw [← hn] at hv hfb ⊢
  rw [← hnp] at hv ⊢
  have Hn := Lib.hid hn
  have HP := Lib.hid h
  have HV := Lib.hid hv
  have HU := Lib.hid hu
  have Hun := Lib.hid hun
  have HF := Lib.hid hF
  have HG := Lib.hid hG
  have Ht := Lib.hid ht
  have Hlen := Lib.hid hlen
  have Hfb := Lib.hid hfb
  have Hnum := Lib.hid hnum
  have HX0 := Lib.hid h.b8.fi0
  clear h hv hu hun hF hG ht hn hnp hlen hfb hnum
  go_enter Tryd.func8, Tryd.ntmps8
  go_wp2_with fail
  refine calls_world (fun w2 hw2 => ?_)
  have A4 : RrAt w2 W.heap.size mo pg fi (.slice a n c) (.slice ap np cp) := by subst hw2; exact ((RrAt.new rfl).alloc _).alloc _
  have A5 : Ac8 w2 (W.heap.size + 1) 4 num upto (.slice ua un uc) soft := by subst hw2; exact (Ac8.new (by simp)).alloc _
  have A7 : RrAt w2 (W.heap.size + 1 + 1) 0 0 0 (.slice none 0 0) (.slice none 0 0) := by subst hw2; exact RrAt.new (by simp)
  have S2 : Sees W w2 := by subst hw2; exact (((Sees.refl W).alloc _).alloc _).alloc _
  have hz2 : w2.heap.size = W.heap.size + 3 := by subst hw2; simp
  clear hw2
  refine (refCopy_any _ cs soft w2 (HU.out.sees S2) (by rw [← Hun.out]; exact Hlen.out)).mono ?_
  rintro e w3 ⟨v3, rfl, ho, hs⟩
  obtain ⟨a3, c3, rfl⟩ := ho.slice
  rw [← Hun.out] at ho ⊢
  go_upto_region 2 with fail
  refine wp_world (fun w4 hw4 => ?_)
  have A9 : LnAt w4 w3.heap.size (.slice a3 un c3) soft := by subst hw4; exact LnAt.new rfl
  have S4 : Sees w3 w4 := by subst hw4; exact (Sees.refl w3).alloc _
  have hz4 : w4.heap.size = w3.heap.size + 1 := by subst hw4; simp
  clear hw4
  have hz3 := hs.size
  have HS4 : Hid (St8 w1 W F G r mo pg fi ls g (.slice a n c) (.slice ap np cp) 4 num upto (.slice ua un uc) soft cs w3.heap.size (.slice a3 un c3) w4) := Lib.hid
    ⟨HP.out.sees (S2.trans (hs.trans S4)), HV.out.sees (S2.trans (hs.trans S4)), HU.out.sees (S2.trans (hs.trans S4)), A4.sees (hs.trans S4), A5.sees (hs.trans S4), A7.sees (hs.trans S4), OwnCells.sees (ho.mono (by omega)) S4, fun b hb => (El.rowLt ho hb).2, A9, by omega, S2.trans (hs.trans S4)⟩
  have Hz4 := Lib.hid hz4
  clear A4 A5 A7 S2 hz2 ho hs A9 S4 hz3 HP HV HU hz4
  obtain ⟨x0, x1, x2, x3, x4⟩ := HS4.out.b0.c
  obtain ⟨y0, y1, y2, y3, y4⟩ := HS4.out.b1.c
  go_wp2_with fail
  refine (HS4.out.ring.clear (fi + n) (by rw [Hn.out])).mono ?_
  rintro e w5 ⟨rfl, hrg, hk5⟩
  have HS4o := Lib.hid (show W.heap.size + 3 ≤ w4.heap.size by have := HS4.out.oz; have := Hz4.out; omega)
  obtain ⟨ED, -, -⟩ := HS4.out.ed HF.out HG.out (G2 := fun _ => False) (vl' := .slice none 0 0) (vp' := .slice none 0 0) ⟨El.Rd.nil _ _, El.Rd.nil _ _⟩ (fun b hb => hb.elim) (hrg.mono (fun b _ h => .inl h) (fun b hb => by rcases hb with h | h; exact hrg.low b h; (have := HS4.out.ring.see.size; omega))) hk5
  have B5 := HS4.out.b0.keeps hk5 (fun hf => by have := HF.out _ hf; omega)
  have HE5 := Lib.hid ED
  clear hrg hk5 ED x0 x1 x2 x3 x4 y0 y1 y2 y3 y4
  obtain ⟨x0, x1, x2, x3, x4⟩ := B5.c
  go_wp2_with fail
  refine (refClear08 mo pg fi (fi + n) a ap n c np cp w5 HX0.out (by have := Hfb.out; omega) (by have := HB.out.len; rw [Hn.out]; omega) rfl).mono ?_
  rintro e w6 ⟨rfl, hs6⟩
  have HE := Lib.hid (HE5.out.sees hs6)
  obtain ⟨y0, y1, y2, y3, y4⟩ := HE.out.b2.c
  have fy := HE.out.b2.fr
  clear x0 x1 x2 x3 x4 B5 hs6 HE5
  go_wp2
  have E := HE.out.b2.set5 mo pg (fi + n) (.slice none 0 0) (.slice none 0 0)
  have KE := keeps5 w6 (W.heap.size + 1 + 1) (.int .i64 mo) (.int .i64 pg) (.int .i64 (fi + n)) (.slice none 0 0) (.slice none 0 0)
  obtain ⟨z0, z1, z2, z3, z4⟩ := E.c
  refine bodyPost_ret_by (v := .tuple #[.pointer (some ⟨r, 0, none⟩), rrV mo pg (fi + n) (.slice none 0 0) (.slice none 0 0), .bool true]) (by simp [results, Tryd.results8, go_sem, z0, z1, z2, z3, z4]) rfl (HE.out.fin KE ?_ ?_)
  · simp; omega
  · simp; omega
set_option maxRecDepth 100000 in
set_option maxHeartbeats 4000000 in
theorem does8_copy (what : Int) (d0 : (what == 0) = false) (d1 : (what == 1) = false) (d2 : (what == 2) = false) (d3 : (what == 3) = false) (d4 : (what == 4) = false) (ht : Tabs w1) (h : RgF w1 F W r mo pg fi ls g) (hF : ∀ b, F b → b < W.heap.size) (hG : ∀ b, G b → b < W.heap.size ∧ ¬ F b) (hv : RrRd G W vl vp ls g) (hu : RdCells W (.slice ua un uc) cs) (hun : un = cs.length) (hlen : un ≤ 1000000) (hfb : fi + (ls.length : Int) ≤ 1000000) (hnum : -9223372036854775808 ≤ num ∧ num ≤ 9223372036854775807) :
    Calls Tryd.prog 8 #[.pointer (some ⟨r, 0, none⟩), rrV mo pg fi vl vp, .agg #[.int .i64 what, .int .i64 num, .int .i64 upto, .slice ua un uc, .bool soft]] W fun e w' => DoesP8 w1 W F G (fi + (ls.length : Int)) (ls.length : Int) e w' := by
  obtain ⟨a, c, rfl, -⟩ := hv.l.slice'
  obtain ⟨ap, cp, rfl, -⟩ := hv.p.slice'
  have HB := Lib.hid h.b8
  obtain ⟨n, hn⟩ : ∃ n, n = ls.length := ⟨_, rfl⟩
  obtain ⟨np, hnp⟩ : ∃ n, n = g.length := ⟨_, rfl⟩
  rw [← hn] at hv hfb ⊢
  rw [← hnp] at hv ⊢
  have Hn := Lib.hid hn
  have HP := Lib.hid h
  have HV := Lib.hid hv
  have HU := Lib.hid hu
  have Hun := Lib.hid hun
  have HF := Lib.hid hF
  have HG := Lib.hid hG
  have Ht := Lib.hid ht
  have Hlen := Lib.hid hlen
  have Hfb := Lib.hid hfb
  have Hnum := Lib.hid hnum
  have HX0 := Lib.hid h.b8.fi0
  clear h hv hu hun hF hG ht hn hnp hlen hfb hnum
  go_enter Tryd.func8, Tryd.ntmps8
  go_wp2_with fail
  refine calls_world (fun w2 hw2 => ?_)
  have A4 : RrAt w2 W.heap.size mo pg fi (.slice a n c) (.slice ap np cp) := by subst hw2; exact ((RrAt.new rfl).alloc _).alloc _
  have A5 : Ac8 w2 (W.heap.size + 1) what num upto (.slice ua un uc) soft := by subst hw2; exact (Ac8.new (by simp)).alloc _
  have A7 : RrAt w2 (W.heap.size + 1 + 1) 0 0 0 (.slice none 0 0) (.slice none 0 0) := by subst hw2; exact RrAt.new (by simp)
  have S2 : Sees W w2 := by subst hw2; exact (((Sees.refl W).alloc _).alloc _).alloc _
  have hz2 : w2.heap.size = W.heap.size + 3 := by subst hw2; simp
  clear hw2
  refine (refCopy_any _ cs soft w2 (HU.out.sees S2) (by rw [← Hun.out]; exact Hlen.out)).mono ?_
  rintro e w3 ⟨v3, rfl, ho, hs⟩
  obtain ⟨a3, c3, rfl⟩ := ho.slice
  rw [← Hun.out] at ho ⊢
  go_upto_region 2 with fail
  refine wp_world (fun w4 hw4 => ?_)
  have A9 : LnAt w4 w3.heap.size (.slice a3 un c3) soft := by subst hw4; exact LnAt.new rfl
  have S4 : Sees w3 w4 := by subst hw4; exact (Sees.refl w3).alloc _
  have hz4 : w4.heap.size = w3.heap.size + 1 := by subst hw4; simp
  clear hw4
  have hz3 := hs.size
  have HS4 : Hid (St8 w1 W F G r mo pg fi ls g (.slice a n c) (.slice ap np cp) what num upto (.slice ua un uc) soft cs w3.heap.size (.slice a3 un c3) w4) := Lib.hid
    ⟨HP.out.sees (S2.trans (hs.trans S4)), HV.out.sees (S2.trans (hs.trans S4)), HU.out.sees (S2.trans (hs.trans S4)), A4.sees (hs.trans S4), A5.sees (hs.trans S4), A7.sees (hs.trans S4), OwnCells.sees (ho.mono (by omega)) S4, fun b hb => (El.rowLt ho hb).2, A9, by omega, S2.trans (hs.trans S4)⟩
  have Hz4 := Lib.hid hz4
  clear A4 A5 A7 S2 hz2 ho hs A9 S4 hz3 HP HV HU hz4
  obtain ⟨x0, x1, x2, x3, x4⟩ := HS4.out.b0.c
  obtain ⟨y0, y1, y2, y3, y4⟩ := HS4.out.b1.c
  go_wp2_with fail
  clear d0 d1 d2 d3 d4
  have HS4o := Lib.hid (show W.heap.size + 3 ≤ w4.heap.size by have := HS4.out.oz; have := Hz4.out; omega)
  refine (HS4.out.ring.copy8).mono ?_
  rintro e w5 ⟨q, rfl, hq, hs5⟩
  have HQ5 := Lib.hid (hq.mono (G := fun b => w4.heap.size ≤ b ∧ b < w5.heap.size) (fun b hb h => ⟨h, hb⟩) (fun b hb => by have := hq.low b hb.1; omega))
  have HS5 := Lib.hid (HS4.out.sees hs5)
  have Hz45 := Lib.hid hs5.size
  have S45 := Lib.hid hs5
  clear hq hs5 x0 x1 x2 x3 x4 y0 y1 y2 y3 y4
  go_wp2_with fail
  refine (rtext_any 113 w5).mono ?_
  rintro e w6 ⟨v6, rfl, ho6, hs6⟩
  have HS6 := Lib.hid (HS5.out.sees hs6)
  have Ho6 := Lib.hid ho6
  have Hz6 := Lib.hid hs6.size
  have HK6 : Hid (Keeps (fun b => F b ∨ w5.heap.size ≤ b) w5 w6) := Lib.hid (Keeps.of_sees hs6)
  clear ho6 hs6
  go_wp2_with fail
  refine (HS6.out.ring.push Ht.out (by have := Hfb.out; rw [← Hn.out]; omega) v6 [one 113] false Ho6.out.el.rd.rdc (fun b hb hf => by have := hb.2; have := HF.out b hf; have := HS5.out.s.size; omega) (by kernel_rfl) _ rfl _ rfl).mono ?_
  rintro e w7 ⟨rfl, hr7, hk7⟩
  have HR7 := Lib.hid (hr7.cut8)
  have HK7 := Lib.hid (HK6.out.trans (hk7.mono (fun b _ h => .inl h)))
  have Hz7 := Lib.hid hk7.size
  clear hr7 hk7 Ho6 HK6
  obtain ⟨k7, hk7e⟩ : ∃ k, k = ls.length + 1 - mo.toNat := ⟨_, rfl⟩
  rw [← hk7e] at HR7
  obtain ⟨fi7, hfi7⟩ : ∃ x, x = fi + (k7 : Int) := ⟨_, rfl⟩
  rw [← hfi7] at HR7
  obtain ⟨ls7, hls7⟩ : ∃ x, x = List.drop k7 (ls ++ [(⟨[one 113], false⟩ : Ln)]) := ⟨_, rfl⟩
  rw [← hls7] at HR7
  obtain ⟨g7, hg7⟩ : ∃ x, x = dropG k7 (pushG pg g) := ⟨_, rfl⟩
  rw [← hg7] at HR7
  clear hk7e hfi7 hls7 hg7
  go_wp2_with fail
  refine (HR7.out.rgfirst).mono ?_
  rintro e w8 ⟨rfl, hs8⟩
  have HR8 := Lib.hid (HR7.out.sees hs8)
  have HK8 := Lib.hid (HK7.out.trans (Keeps.of_sees hs8))
  have Hz8 := Lib.hid hs8.size
  clear hs8 HR7 HK7
  go_wp2_with fail
  refine (rtext_any 112 w8).mono ?_
  rintro e w9 ⟨v9, rfl, ho9, hs9⟩
  have HR9 := Lib.hid (HR8.out.sees hs9)
  have HK9 := Lib.hid (HK8.out.trans (Keeps.of_sees hs9))
  have Ho9 := Lib.hid ho9
  have Hz9 := Lib.hid hs9.size
  clear ho9 hs9 HR8 HK8
  go_wp2_with fail
  refine (set8_any (u := v9) (soft := false) (cs := [one 112]) HR9.out Ht.out fi7 Ho9.out.el.rd.rdc (fun b hb hf => by have := hb.2; have h7 := Hz7.out; have h8 := Hz8.out; have := hf.2; omega) (by simp)).mono ?_
  rintro e w10 ⟨rfl, hr10, hk10⟩
  have HR10 := Lib.hid hr10.cut8
  have HK10 := Lib.hid (HK9.out.trans (hk10.mono (fun b _ h => by have := Hz6.out; rcases h.1 with h | h; exact .inl h; exact .inr (by omega))))
  have Hz10 := Lib.hid hk10.size
  clear hr10 hk10 HR9 HK9 Ho9
  go_wp2_with fail
  refine (limit8_any (x := 1) HR10.out (mo' := 1) (er := 0) ⟨fun _ _ => ⟨_, rfl, rfl, rfl, rfl, rfl, rfl⟩, fun h => (by omega)⟩).mono ?_
  rintro e w11 ⟨rfl, -, hk11⟩
  have HK11 := Lib.hid (HK10.out.trans (hk11.mono (fun b _ h => by have := Hz6.out; have := Hz7.out; have := Hz8.out; have := Hz9.out; rcases h.1 with h | h; (rcases h.1 with h | h; exact .inl h; exact .inr (by omega)); exact .inr (by omega))))
  clear hk11 HR10 HK10
  have h45 := Hz45.out
  have hK4 : Keeps F w4 w11 := (Keeps.of_sees (F := F) (show Sees w4 w5 from S45.out)).trans' HK11.out (fun b hb e => by rcases e with e | e; exact e; omega)
  have hq11 := HQ5.out.keeps HK11.out (fun b hb e => by have := hb.1; have := hb.2; rcases e with e | e; (have := HF.out b e; have := HS4o.out; omega); omega) (fun b hb => by rcases hb with e | e; exact HS4.out.ring.low b e; (have := HS4.out.ring.see.size; omega))
  obtain ⟨ED, -, -⟩ := HS4.out.ed HF.out HG.out HS4.out.rr (fun b hb => .inl hb) (hq11.mono (fun b _ h => .inr h.1) (fun b hb => by rcases hb with h | h; exact HS4.out.ring.low b h; (have := HS4.out.ring.see.size; omega))) hK4
  have B11 := HS4.out.b0.keeps hK4 (fun hf => by have := HF.out _ hf; omega)
  have HE := Lib.hid ED
  have HN := Lib.hid B11
  clear ED B11 hq11 hK4 h45 HK11 HQ5 HS5 HS6
  go_wp2_with fail
  obtain ⟨a5, ha5⟩ : ∃ x, x = a := ⟨_, rfl⟩
  obtain ⟨c5, hc5⟩ : ∃ x, x = c := ⟨_, rfl⟩
  obtain ⟨n5, hn5⟩ : ∃ x, x = n := ⟨_, rfl⟩
  obtain ⟨ap5, hap5⟩ : ∃ x, x = ap := ⟨_, rfl⟩
  obtain ⟨cp5, hcp5⟩ : ∃ x, x = cp := ⟨_, rfl⟩
  obtain ⟨np5, hnp5⟩ : ∃ x, x = np := ⟨_, rfl⟩
  rw [← ha5, ← hc5, ← hn5, ← hap5, ← hcp5, ← hnp5] at HE HN
  clear ha5 hc5 hap5 hcp5 hnp5
  have Hn5 := Lib.hid hn5
  clear hn5
  refine wpH_go (fun b => b = W.heap.size + 1 + 1) 5 (by kernel_rfl) (by kernel_rfl) (by rfl) (fun hB w10 hs10 => ?_)
  have E10 := Lib.hid (HE.out.sees hs10)
  have BN10 := Lib.hid (HN.out.sees hs10)
  clear hs10 HE HN
  have hS0 : Keeps (fun b => b = W.heap.size + 1 + 1) w10 w10 := Keeps.refl _ w10
  refine wpH_take (i := 0) (v := .pointer (some ⟨q, 0, none⟩)) hB (by rfl) (by kernel_rfl) (fun _ _ _ _ _ h => h) (by rfl) hS0 (fun W hI => by clear hI; go_simp) ?_; (try simp only [Act.put, List.setIfInBounds_toArray, List.set_cons_zero, List.set_cons_succ])
  refine wpH_take (i := 1) (v := rrV mo pg fi (.slice a5 n5 c5) (.slice ap5 np5 cp5)) hB (by rfl) (by kernel_rfl) (fun _ _ _ _ _ h => h) (by rfl) hS0 (fun W hI => by have q := (BN10.out.keeps hI (by omega)).c; obtain ⟨q0, q1, q2, q3, q4⟩ := q; go_simp) ?_; (try simp only [Act.put, List.setIfInBounds_toArray, List.set_cons_zero, List.set_cons_succ])
  refine wpH_one (i := 2) (by kernel_rfl) (wpOp_val (v := .pointer (some ⟨q, 0, none⟩)) (w' := w10) (by rfl) (wanted_none (by rfl) _) (by go_simp) ⟨hS0, ?_⟩)
  (try simp only [Act.put, List.setIfInBounds_toArray, List.set_cons_zero, List.set_cons_succ])
  obtain ⟨w11, hst11, hk11, D11⟩ := E10.out.b2.store mo pg fi a5 n5 c5 ap5 np5 cp5
  have HST11 := Lib.hid hst11
  refine wpH_one (i := 3) (by kernel_rfl) (wpOp_skip (w' := w11) (by rfl) (wanted_none (by rfl) _) (exec_store (a := .pointer (some ⟨W.heap.size + 1 + 1, 0, none⟩)) (v := rrV mo pg fi (.slice a5 n5 c5) (.slice ap5 np5 cp5)) rfl (by go_simp) (by go_simp) HST11.out) ⟨hk11, ?_⟩)
  (try simp only [Act.put, List.setIfInBounds_toArray, List.set_cons_zero, List.set_cons_succ])
  refine wpH_one (i := 4) (by kernel_rfl) (wpOp_val (v := .bool true) (w' := w11) (by rfl) (wanted_none (by rfl) _) (by go_simp) ⟨hk11, ?_⟩)
  (try simp only [Act.put, List.setIfInBounds_toArray, List.set_cons_zero, List.set_cons_succ])
  refine wpH_end (by kernel_rfl) ?_
  obtain ⟨z0, z1, z2, z3, z4⟩ := D11.c
  have HK11 := Lib.hid hk11
  clear hst11 hk11 D11 HST11 hS0 hB
  go_wp2
  refine bodyPost_ret_by (v := .tuple #[.pointer (some ⟨q, 0, none⟩), rrV mo pg fi (.slice a5 n5 c5) (.slice ap5 np5 cp5), .bool true]) (by simp [results, Tryd.results8, go_sem, z0, z1, z2, z3, z4]) rfl (E10.out.fin HK11.out ?_ ?_)
  · rw [Hn.out]; omega
  · rw [Hn.out]; omega
/-- Whatever the call is. -/
theorem does8_any (what : Int) (ht : Tabs w1) (h : RgF w1 F W r mo pg fi ls g) (hF : ∀ b, F b → b < W.heap.size) (hG : ∀ b, G b → b < W.heap.size ∧ ¬ F b) (hv : RrRd G W vl vp ls g) (hu : RdCells W (.slice ua un uc) cs) (hun : un = cs.length) (hlen : un ≤ 1000000) (hfb : fi + (ls.length : Int) ≤ 1000000) (hnum : -9223372036854775808 ≤ num ∧ num ≤ 9223372036854775807) :
    Calls Tryd.prog 8 #[.pointer (some ⟨r, 0, none⟩), rrV mo pg fi vl vp, .agg #[.int .i64 what, .int .i64 num, .int .i64 upto, .slice ua un uc, .bool soft]] W fun e w' => DoesP8 w1 W F G (fi + (ls.length : Int)) (ls.length : Int) e w' := by
  rcases Bool.eq_false_or_eq_true (what == 0) with d0 | d0
  · obtain rfl : what = 0 := beq_iff_eq.1 d0
    exact does8_push ht h hF hG hv hu hun hlen hfb hnum
  rcases Bool.eq_false_or_eq_true (what == 1) with d1 | d1
  · obtain rfl : what = 1 := beq_iff_eq.1 d1
    exact does8_pop ht h hF hG hv hu hun hlen hfb hnum
  rcases Bool.eq_false_or_eq_true (what == 2) with d2 | d2
  · obtain rfl : what = 2 := beq_iff_eq.1 d2
    exact does8_set ht h hF hG hv hu hun hlen hfb hnum
  rcases Bool.eq_false_or_eq_true (what == 3) with d3 | d3
  · obtain rfl : what = 3 := beq_iff_eq.1 d3
    exact does8_limit ht h hF hG hv hu hun hlen hfb hnum
  rcases Bool.eq_false_or_eq_true (what == 4) with d4 | d4
  · obtain rfl : what = 4 := beq_iff_eq.1 d4
    exact does8_clear ht h hF hG hv hu hun hlen hfb hnum
  exact does8_copy what d0 d1 d2 d3 d4 ht h hF hG hv hu hun hlen hfb hnum
end
end Go.Proofs.YthjcnhgfagefjaaDoor
