/- The calls of a history, and the reference beside it: does (31). Any calls of a history: HistoryPlays. No condition. -/
import Derived.Test.YtpicffaghoggdaaDoorHtA
import Derived.Test.YtpicffaghoggdaaDoorHrD
import Derived.Test.YtpicffaghoggdaaDoorHuA
import Derived.Test.YtpicffaghoggdaaDoorHsA
import Derived.Test.YtpicffaghoggdaaDoorHiK
namespace Go.Proofs.YtpicffaghoggdaaDoor
set_option linter.unusedVariables false
set_option linter.unusedSimpArgs false
open Go.RowKit

/-- A call of a history in memory. -/
def AcAt31 (W : World) (b : Nat) (what num : Int) (v : Value) : Prop := W.heap[b]? = some (.cells #[.int .i64 what, .int .i64 num, v] 25 (0, 0))
namespace AcAt31
variable {W W' : World} {b : Nat} {p g : Int} {v : Value}
theorem sees (h : AcAt31 W b p g v) (hs : Sees W W') : AcAt31 W' b p g v := by
  unfold AcAt31; rw [hs.block _ (Array.getElem?_eq_some_iff.1 h).1]; exact h
theorem keeps {F : Nat → Prop} (h : AcAt31 W b p g v) (hk : Keeps F W W') (hF : ¬ F b) : AcAt31 W' b p g v := by
  unfold AcAt31; rw [hk.block _ (Array.getElem?_eq_some_iff.1 h).1 hF]; exact h
theorem new {n : Nat} (hn : n = W.heap.size) : AcAt31 (W.alloc (.cells #[.int .i64 p, .int .i64 g, v] 25)) n p g v := by subst hn; exact heap_alloc_new W _
theorem alloc (h : AcAt31 W b p g v) (o : Obj) : AcAt31 (W.alloc o) b p g v := h.sees ((Sees.refl W).alloc o)
theorem c (h : AcAt31 W b p g v) : W.cell? ⟨b, 0, none⟩ = some (.int .i64 p) ∧ W.cell? ⟨b, 1, none⟩ = some (.int .i64 g) ∧ W.cell? ⟨b, 2, none⟩ = some v := by
  rw [cell_of_row _ _ _ _ _ _ h, cell_of_row _ _ _ _ _ _ h, cell_of_row _ _ _ _ _ _ h]; exact ⟨rfl, rfl, rfl⟩
end AcAt31
/-- The boxes of 'does'. -/
def BX31 (W : World) (B : Nat) (most first : Int) (v : Value) (what num : Int) (u : Value) : Prop := HrAt W B most first v ∧ AcAt31 W (B + 1) what num u ∧ HrAt W (B + 1 + 1) 0 0 (.slice none 0 0)
namespace BX31
variable {W W' : World} {B : Nat} {most first what num : Int} {v u : Value}
theorem sees (h : BX31 W B most first v what num u) (hs : Sees W W') : BX31 W' B most first v what num u := ⟨h.1.sees hs, h.2.1.sees hs, h.2.2.sees hs⟩
theorem keeps {F : Nat → Prop} (h : BX31 W B most first v what num u) (hk : Keeps F W W') (hF : ∀ b, F b → b < B ∨ B + 3 ≤ b) : BX31 W' B most first v what num u :=
  ⟨h.1.keeps hk (fun e => by have := hF _ e; omega), h.2.1.keeps hk (fun e => by have := hF _ e; omega), h.2.2.keeps hk (fun e => by have := hF _ e; omega)⟩
theorem c (h : BX31 W B most first v what num u) : W.cell? ⟨B, 0, none⟩ = some (.int .i64 most) ∧ W.cell? ⟨B, 1, none⟩ = some (.int .i64 first) ∧ W.cell? ⟨B, 2, none⟩ = some v ∧
    W.cell? ⟨B + 1, 0, none⟩ = some (.int .i64 what) ∧ W.cell? ⟨B + 1, 1, none⟩ = some (.int .i64 num) ∧ W.cell? ⟨B + 1, 2, none⟩ = some u :=
  ⟨h.1.c.1, h.1.c.2.1, h.1.c.2.2, h.2.1.c.1, h.2.1.c.2.1, h.2.1.c.2.2⟩
end BX31
/-- What 'does' gives: the reference's history is the history, and the answer is yes. -/
def DoesP31 (w1 W : World) (F G : Nat → Prop) (hb : Nat) (most top : Int) (e : Ending) (w' : World) : Prop :=
  ∃ first' ls' v' F' G', e = .returned (.tuple #[.agg #[.int .i64 most, .int .i64 first', v'], .bool true]) ∧ HiF w1 F' w' hb most first' ls' ∧ lnEl.Rd G' w' v' ls' ∧ (∀ b, G' b → ¬ F' b) ∧ Keeps F W w' ∧ (∀ b, F' b → F b ∨ W.heap.size ≤ b) ∧ (∀ b, G' b → G b ∨ W.heap.size ≤ b) ∧ first' + ls'.length ≤ top + 6

theorem HiF.pulls_arg {w1 W : World} {F : Nat → Prop} {b : Nat} {most first : Int} {ls : List Ln} (h : HiF w1 F W b most first ls) (n : Int) (hn : n < 0) :
    Calls Tryd.prog 28 #[.pointer (some ⟨b, 0, none⟩), .int .i64 n, .int .i64 2, .slice none 0 0] W fun e w' => e = .returned (.bool true) ∧ Sees W w' := by
  refine (hpulls_true (fun _ => False) (fun w' => Sees W w') (fun _ => True) _ n 2 _ [] W (by simp) (fun l hl => by cases hl) ⟨_, _, _, rfl⟩ (fun _ _ h hs => h.trans hs) ((h.pull_arg n hn).mono ?_)).mono ?_
  · rintro e w' ⟨rfl, hs⟩
    exact ⟨_, rfl, (El.Rd.nil _ _).rdl, (El.Rd.nil _ _).rdl, Keeps.of_sees hs, hs⟩
  · rintro e w' ⟨rfl, hs, _⟩
    exact ⟨rfl, hs⟩

section
variable {w1 W : World} {F G : Nat → Prop} {hb n m : Nat} {most first num : Int} {ls xs : List Ln} {a ua : Option Addr} {c uc : Nat}
theorem does31_fin {W8 : World} {F' G' : Nat → Prop} {f' : Int} {v' : Value} {ls' : List Ln} {B : Nat} {top : Int} (hP : HiF w1 F' W8 hb most f' ls') (hR : lnEl.Rd G' W8 v' ls') (hd : ∀ b, G' b → ¬ F' b) (hk : Keeps F W W8) (hF' : ∀ b, F' b → F b ∨ W.heap.size ≤ b) (hG' : ∀ b, G' b → G b ∨ W.heap.size ≤ b)
    (hBF : ¬ F' B) (hBG : ¬ G' B) (hW : W.heap.size ≤ B) (hw : w1.heap.size ≤ W.heap.size) (ht : f' + ls'.length ≤ top + 6) :
    DoesP31 w1 W F G hb most top (.returned (.tuple #[.agg #[.int .i64 most, .int .i64 f', v'], .bool true])) (((W8.setCell ⟨B, 0, none⟩ (.int .i64 most)).setCell ⟨B, 1, none⟩ (.int .i64 f')).setCell ⟨B, 2, none⟩ v') := by
  have hk9 : Keeps (fun b => b = B) W8 (((W8.setCell ⟨B, 0, none⟩ (.int .i64 most)).setCell ⟨B, 1, none⟩ (.int .i64 f')).setCell ⟨B, 2, none⟩ v') :=
    (((Keeps.refl (fun b => b = B) W8).setCell (p := ⟨B, 0, none⟩) (fun _ => rfl) _).setCell (p := ⟨B, 1, none⟩) (fun _ => rfl) _).setCell (p := ⟨B, 2, none⟩) (fun _ => rfl) _
  exact ⟨f', ls', v', F', G', rfl, hP.keeps hk9 (fun b hb e => by have e : b = B := e; exact hBF (e ▸ hb)) (fun b e => by have e : b = B := e; omega), hR.keeps hk9 (fun b hb e => by have e : b = B := e; exact hBG (e ▸ hb)), hd, hk.trans' hk9 (fun b hb e => by have e : b = B := e; omega), hF', hG', ht⟩
set_option maxRecDepth 100000 in
set_option maxHeartbeats 4000000 in
theorem does31_push (ht : Tabs w1) (h : HiF w1 F W hb most first ls) (hF : ∀ b, F b → b < W.heap.size) (hv : lnEl.Rd G W (.slice a n c) ls) (hn : n = ls.length) (hnm : n ≤ 1000) (hG : ∀ b, G b → b < W.heap.size ∧ ¬ F b) (hu : lnEl.Rd G W (.slice ua m uc) xs) (hm : m = xs.length) (hm6 : m ≤ 6) (hc : ∀ l ∈ xs, l.cells.length ≤ 1000000) (hfb : first + n ≤ 1000000) (hok : ∀ l ∈ xs, lnOk l.cells = true) (k : Nat) (hk : k = n + m - most.toNat) :
    Calls Tryd.prog 51 #[.pointer (some ⟨hb, 0, none⟩), .agg #[.int .i64 most, .int .i64 first, .slice a n c], .agg #[.int .i64 0, .int .i64 num, .slice ua m uc]] W fun e w' => DoesP31 w1 W F G hb most (first + n) e w' := by
  have fa := h.facts
  have hW1 := h.see.size
  rw [← hn] at fa
  have Hok : Hid ((xs.all fun l => lnOk l.cells) = true) := Lib.hid (List.all_eq_true.2 hok)
  have Hokk := Lib.hid hok
  have Hk := Lib.hid hk
  have hkb : k ≤ n + m := by omega
  clear hok hk
  have HP := Lib.hid h
  have HV := Lib.hid hv
  have HU := Lib.hid hu
  have Hn := Lib.hid hn
  have Hm := Lib.hid hm
  have HF := Lib.hid hF
  have HG := Lib.hid hG
  have Hc := Lib.hid hc
  have Ht := Lib.hid ht
  clear h hv hu hn hm hF hG hc ht
  go_enter Tryd.func51, Tryd.ntmps51
  go_wp2_with fail
  refine calls_world (fun w2 hw2 => ?_)
  have A4 : BX31 w2 W.heap.size most first (.slice a n c) 0 num (.slice ua m uc) := by subst hw2; exact ⟨((HrAt.new rfl).alloc _).alloc _, (AcAt31.new (by simp)).alloc _, HrAt.new (by simp)⟩
  have S2 : Sees W w2 := by subst hw2; exact (((Sees.refl W).alloc _).alloc _).alloc _
  have hz2 : w2.heap.size = W.heap.size + 3 := by subst hw2; simp
  clear hw2
  refine (ref28Copy_any _ _ xs w2 (HU.out.sees S2) (by rw [← Hm.out]; omega) Hc.out).mono ?_
  rintro e w3 ⟨v3, rfl, ho, hs⟩
  obtain ⟨a3, c3, rfl, _⟩ := ho.slice
  rw [← Hm.out] at ho ⊢
  have B3 := Lib.hid (A4.sees hs)
  have S3 := Lib.hid (S2.trans hs)
  have HO := Lib.hid ho.cut
  have Hz := Lib.hid (And.intro hz2 hs.size)
  clear A4 S2 ho hs hz2
  obtain ⟨x0, x1, x2, x3, x4, x5⟩ := B3.out.c
  go_wp2_with fail
  refine (refValid31_any _ _ xs w3 (HU.out.sees S3.out) Hc.out (by rw [← Hm.out]; omega)).mono ?_
  rintro e w4 ⟨rfl, hs⟩
  rw [Hok.out]
  have B4 := Lib.hid (B3.out.sees hs)
  have S4 := Lib.hid (S3.out.trans hs)
  have HO4 := Lib.hid (HO.out.sees hs)
  have Hz4 := Lib.hid hs.size
  clear hs B3 HO S3
  clear x0 x1 x2 x3 x4 x5
  obtain ⟨x0, x1, x2, x3, x4, x5⟩ := B4.out.c
  go_wp2_with fail
  refine ((HP.out.sees S4.out).push Ht.out _ xs HO4.out.rd (fun b hb hf => by have := HF.out b hf; have := hb.1; have := Hz.out.1; omega) Hokk.out (by rw [← Hm.out]; (try rw [← Hn.out]); omega) k (by rw [← Hm.out]; (try rw [← Hn.out]); exact Hk.out)).mono ?_
  rintro e w5 ⟨rfl, hp, hk5⟩
  have hlw : w4.heap.size ≤ w5.heap.size := hk5.size
  have HFz : Hid (∀ b, F b → b < W.heap.size) := Lib.hid HF.out
  have P5 : Hid (HiF w1 (fun b => (F b ∨ w4.heap.size ≤ b) ∧ b < w5.heap.size) w5 hb most (first + k) ((ls ++ xs).drop k)) := Lib.hid hp.cut
  have B5 := Lib.hid (B4.out.keeps hk5 (fun b hf => .inl (HF.out b hf)))
  have K5 := Lib.hid ((Keeps.of_sees (F := F) S4.out).trans hk5)
  have V5 := Lib.hid ((HV.out.sees S4.out).keeps hk5 (fun b hb => (HG.out b hb).2))
  have U5 := Lib.hid ((HU.out.sees S4.out).keeps hk5 (fun b hb => (HG.out b hb).2))
  have HO5 := Lib.hid (HO4.out.keeps hk5 (fun b hb hf => by have := HF.out b hf; have := hb.1; have := Hz.out.1; omega))
  clear hp hk5 HFz
  have HT0 := Lib.hid (fun h0 : xs ≠ [] => StF.of (own_ownl HO5.out) h0)
  have hz3 : W.heap.size + 3 ≤ w2.heap.size ∧ w2.heap.size ≤ w3.heap.size ∧ w3.heap.size ≤ w4.heap.size := by have := Hz.out; have := Hz4.out; omega
  clear B4 S4 HO4 HO5 HP HV HU Hz Hz4
  clear x0 x1 x2 x3 x4 x5
  go_wp2_with fail
  go_loopw [11] (fun i X => ∃ j : Nat, j ≤ m ∧ i = .int .i64 j ∧ Keeps (fun b => w2.heap.size ≤ b ∧ b < w3.heap.size) w5 X ∧ (xs ≠ [] → ∃ g, a3 = some ⟨g, 0, none⟩ ∧ StF (fun b => w2.heap.size ≤ b ∧ b < w3.heap.size) X g xs j)) (fun i _ => m - (intOf i).toNat)
  case atStart => exact ⟨0, by omega, rfl, Keeps.refl _ _, HT0.out⟩
  case round =>
    obtain ⟨j, hj, rfl, hW, hT⟩ := hrel
    have HW := Lib.hid hW
    have HT := Lib.hid hT
    clear hW hT HT0
    by_cases hlk : j < m
    · have hkl : j < xs.length := by have := Hm.out; omega
      obtain ⟨g, rfl, hst⟩ := HT.out (fun e => by rw [e] at hkl; exact absurd hkl (Nat.not_lt_zero _))
      obtain ⟨a6, c6, x0, x1, ho, hbb, hkeep⟩ := hst.step (List.getElem?_eq_getElem hkl)
      have Hl6 := Lib.hid (Hc.out _ (List.getElem_mem hkl))
      generalize xs[j] = l at *
      have Hkp2 := Lib.hid hkeep
      have Hb := Lib.hid hbb
      have Ho := Lib.hid ho
      clear hkl hst hkeep ho hbb HT
      go_wp2_with fail
      refine (stain_own 0 _ l.cells _ Ho.out (by have := Hl6.out; omega)).mono ?_
      rintro e w7 ⟨rfl, hk7⟩
      have HS7 := Lib.hid (HW.out.trans (hk7.mono (fun b _ e => Hb.out b e)))
      have HT7 := Lib.hid (Hkp2.out _ hk7)
      clear hk7 x0 x1
      go_wp2
      go_roundw
      case rel => exact ⟨j + 1, by omega, by go_num, HS7.out, fun _ => ⟨_, rfl, HT7.out⟩⟩
      case measure => simp [intOf] <;> omega
    · obtain rfl : m = j := by omega
      have hlx : w5.heap.size ≤ wr.heap.size := HW.out.size
      obtain ⟨F5, hF5⟩ : ∃ F5 : Nat → Prop, F5 = fun b => (F b ∨ w4.heap.size ≤ b) ∧ b < w5.heap.size := ⟨_, rfl⟩
      have HF5 : Hid (∀ b, F5 b → (F b ∧ b < W.heap.size) ∨ (w4.heap.size ≤ b ∧ b < w5.heap.size)) := Lib.hid (by subst hF5; intro b hb; rcases hb.1 with h | h; exact .inl ⟨h, HF.out b h⟩; exact .inr ⟨h, hb.2⟩)
      rw [← hF5] at P5
      clear hF5
      have P6 := Lib.hid (P5.out.keeps HW.out (fun b hb e => by rcases HF5.out b hb with h | h <;> omega) (fun b e => by omega))
      have B6 := Lib.hid (B5.out.keeps HW.out (fun b e => .inr (by omega)))
      have K6 := Lib.hid (K5.out.trans' HW.out (fun b hb e => by omega))
      have V6 := Lib.hid (V5.out.keeps HW.out (fun b hb e => by have := (HG.out b hb).1; omega))
      have U6 := Lib.hid (U5.out.keeps HW.out (fun b hb e => by have := (HG.out b hb).1; omega))
      have hdx : ∀ b, G b → ¬ F5 b := fun b hb hf => by rcases HF5.out b hf with h | h; exact (HG.out b hb).2 h.1; have := (HG.out b hb).1; omega
      have HDX := Lib.hid hdx
      clear P5 B5 K5 V5 U5 HW HT hdx
      obtain ⟨x0, x1, x2, x3, x4, x5⟩ := B6.out.c
      go_wp2_with fail
      refine (refPush31 G most first _ _ ls xs k wr (by omega) (by omega) (by omega) (by rw [← Hm.out, ← Hn.out]; omega) (by rw [← Hn.out]; omega) (by rw [← Hm.out]; omega) V6.out U6.out (by rw [← Hm.out, ← Hn.out]; exact Hk.out)).mono ?_
      rintro e w7 ⟨⟨v7, rfl, hv7⟩, hs7⟩
      obtain ⟨a7, c7, rfl, _⟩ := hv7.slice'
      obtain ⟨L, hL⟩ : ∃ L, L = ((ls ++ xs).drop k) := ⟨_, rfl⟩
      have HLl : Hid (L.length = n + m - k) := Lib.hid (by rw [hL]; rw [List.length_drop, List.length_append, ← Hm.out, ← Hn.out])
      rw [← hL] at P6 hv7 ⊢
      obtain ⟨n7, hn7⟩ : ∃ n7, n7 = L.length := ⟨_, rfl⟩
      rw [← hn7] at hv7 ⊢
      have Hn7 := Lib.hid hn7
      have BX := Lib.hid (B6.out.sees hs7)
      have R7 := Lib.hid hv7
      have P7 := Lib.hid (P6.out.sees hs7)
      have K7 := Lib.hid (K6.out.trans (Keeps.of_sees hs7))
      clear hv7 hs7 hL hn7 B6 P6 K6 V6 U6
      clear x0 x1 x2 x3 x4 x5
      obtain ⟨y0, y1, y2⟩ := BX.out.2.2.c
      have fy := BX.out.2.2.fr
      obtain ⟨x0, x1, x2, x3, x4, x5⟩ := BX.out.c
      go_wp2
      have hE := BX.out.2.2.set3 most (first + (k : Int)) (.slice a7 n7 c7)
      obtain ⟨z0, z1, z2⟩ := hE.c
      refine bodyPost_ret_by (v := .tuple #[.agg #[.int .i64 most, .int .i64 (first + (k : Int)), .slice a7 n7 c7], .bool true]) (by simp [results, Tryd.results51, go_sem, z0, z1, z2]) rfl ?_
      exact does31_fin P7.out R7.out (fun b hb hf => by rcases hb with h | h; exact HDX.out b h.1 hf; rcases HF5.out b hf with h' | h' <;> omega) K7.out (fun b hb => by rcases HF5.out b hb with h | h; exact .inl h.1; exact .inr (by omega)) (fun b hb => by rcases hb with h | h; exact .inl h.1; exact .inr (by omega)) (fun hf => by rcases HF5.out _ hf with h | h <;> omega) (fun hg => by rcases hg with h | h; have := (HG.out _ h.1).1; omega; omega) (by omega) hW1 (by rw [HLl.out]; omega)
set_option maxRecDepth 100000 in
set_option maxHeartbeats 4000000 in
theorem does31_push_bad (ht : Tabs w1) (h : HiF w1 F W hb most first ls) (hF : ∀ b, F b → b < W.heap.size) (hv : lnEl.Rd G W (.slice a n c) ls) (hn : n = ls.length) (hnm : n ≤ 1000) (hG : ∀ b, G b → b < W.heap.size ∧ ¬ F b) (hu : lnEl.Rd G W (.slice ua m uc) xs) (hm : m = xs.length) (hm6 : m ≤ 6) (hc : ∀ l ∈ xs, l.cells.length ≤ 1000000) (hfb : first + n ≤ 1000000) (hbad : (xs.all fun l => lnOk l.cells) = false) :
    Calls Tryd.prog 51 #[.pointer (some ⟨hb, 0, none⟩), .agg #[.int .i64 most, .int .i64 first, .slice a n c], .agg #[.int .i64 0, .int .i64 num, .slice ua m uc]] W fun e w' => DoesP31 w1 W F G hb most (first + n) e w' := by
  have fa := h.facts
  have hW1 := h.see.size
  rw [← hn] at fa
  have Hok := Lib.hid hbad
  clear hbad
  have HP := Lib.hid h
  have HV := Lib.hid hv
  have HU := Lib.hid hu
  have Hn := Lib.hid hn
  have Hm := Lib.hid hm
  have HF := Lib.hid hF
  have HG := Lib.hid hG
  have Hc := Lib.hid hc
  have Ht := Lib.hid ht
  clear h hv hu hn hm hF hG hc ht
  go_enter Tryd.func51, Tryd.ntmps51
  go_wp2_with fail
  refine calls_world (fun w2 hw2 => ?_)
  have A4 : BX31 w2 W.heap.size most first (.slice a n c) 0 num (.slice ua m uc) := by subst hw2; exact ⟨((HrAt.new rfl).alloc _).alloc _, (AcAt31.new (by simp)).alloc _, HrAt.new (by simp)⟩
  have S2 : Sees W w2 := by subst hw2; exact (((Sees.refl W).alloc _).alloc _).alloc _
  have hz2 : w2.heap.size = W.heap.size + 3 := by subst hw2; simp
  clear hw2
  refine (ref28Copy_any _ _ xs w2 (HU.out.sees S2) (by rw [← Hm.out]; omega) Hc.out).mono ?_
  rintro e w3 ⟨v3, rfl, ho, hs⟩
  obtain ⟨a3, c3, rfl, _⟩ := ho.slice
  rw [← Hm.out] at ho ⊢
  have B3 := Lib.hid (A4.sees hs)
  have S3 := Lib.hid (S2.trans hs)
  have HO := Lib.hid ho.cut
  have Hz := Lib.hid (And.intro hz2 hs.size)
  clear A4 S2 ho hs hz2
  obtain ⟨x0, x1, x2, x3, x4, x5⟩ := B3.out.c
  go_wp2_with fail
  refine (refValid31_any _ _ xs w3 (HU.out.sees S3.out) Hc.out (by rw [← Hm.out]; omega)).mono ?_
  rintro e w4 ⟨rfl, hs⟩
  rw [Hok.out]
  have B4 := Lib.hid (B3.out.sees hs)
  have S4 := Lib.hid (S3.out.trans hs)
  have HO4 := Lib.hid (HO.out.sees hs)
  have Hz4 := Lib.hid hs.size
  clear hs B3 HO S3
  clear x0 x1 x2 x3 x4 x5
  obtain ⟨x0, x1, x2, x3, x4, x5⟩ := B4.out.c
  go_wp2_with fail
  refine ((HP.out.sees S4.out).push_arg Ht.out _ xs HO4.out.rd Hc.out (by rw [← Hm.out]; omega) Hok.out).mono ?_
  rintro e w5 ⟨rfl, hs5⟩
  have hlw : w4.heap.size ≤ w5.heap.size := hs5.size
  have P5 : Hid (HiF w1 F w5 hb most first ls) := Lib.hid (HP.out.sees (S4.out.trans hs5))
  have B5 := Lib.hid (B4.out.sees hs5)
  have K5 := Lib.hid (Keeps.of_sees (F := F) (S4.out.trans hs5))
  have V5 := Lib.hid (HV.out.sees (S4.out.trans hs5))
  have U5 := Lib.hid (HU.out.sees (S4.out.trans hs5))
  have HO5 := Lib.hid (HO4.out.sees hs5)
  clear hs5
  have HT0 := Lib.hid (fun h0 : xs ≠ [] => StF.of (own_ownl HO5.out) h0)
  have hz3 : W.heap.size + 3 ≤ w2.heap.size ∧ w2.heap.size ≤ w3.heap.size ∧ w3.heap.size ≤ w4.heap.size := by have := Hz.out; have := Hz4.out; omega
  clear B4 S4 HO4 HO5 HP HV HU Hz Hz4
  clear x0 x1 x2 x3 x4 x5
  go_wp2_with fail
  go_loopw [11] (fun i X => ∃ j : Nat, j ≤ m ∧ i = .int .i64 j ∧ Keeps (fun b => w2.heap.size ≤ b ∧ b < w3.heap.size) w5 X ∧ (xs ≠ [] → ∃ g, a3 = some ⟨g, 0, none⟩ ∧ StF (fun b => w2.heap.size ≤ b ∧ b < w3.heap.size) X g xs j)) (fun i _ => m - (intOf i).toNat)
  case atStart => exact ⟨0, by omega, rfl, Keeps.refl _ _, HT0.out⟩
  case round =>
    obtain ⟨j, hj, rfl, hW, hT⟩ := hrel
    have HW := Lib.hid hW
    have HT := Lib.hid hT
    clear hW hT HT0
    by_cases hlk : j < m
    · have hkl : j < xs.length := by have := Hm.out; omega
      obtain ⟨g, rfl, hst⟩ := HT.out (fun e => by rw [e] at hkl; exact absurd hkl (Nat.not_lt_zero _))
      obtain ⟨a6, c6, x0, x1, ho, hbb, hkeep⟩ := hst.step (List.getElem?_eq_getElem hkl)
      have Hl6 := Lib.hid (Hc.out _ (List.getElem_mem hkl))
      generalize xs[j] = l at *
      have Hkp2 := Lib.hid hkeep
      have Hb := Lib.hid hbb
      have Ho := Lib.hid ho
      clear hkl hst hkeep ho hbb HT
      go_wp2_with fail
      refine (stain_own 0 _ l.cells _ Ho.out (by have := Hl6.out; omega)).mono ?_
      rintro e w7 ⟨rfl, hk7⟩
      have HS7 := Lib.hid (HW.out.trans (hk7.mono (fun b _ e => Hb.out b e)))
      have HT7 := Lib.hid (Hkp2.out _ hk7)
      clear hk7 x0 x1
      go_wp2
      go_roundw
      case rel => exact ⟨j + 1, by omega, by go_num, HS7.out, fun _ => ⟨_, rfl, HT7.out⟩⟩
      case measure => simp [intOf] <;> omega
    · obtain rfl : m = j := by omega
      have hlx : w5.heap.size ≤ wr.heap.size := HW.out.size
      obtain ⟨F5, hF5⟩ : ∃ F5 : Nat → Prop, F5 = F := ⟨_, rfl⟩
      have HF5 : Hid (∀ b, F5 b → (F b ∧ b < W.heap.size) ∨ (w4.heap.size ≤ b ∧ b < w5.heap.size)) := Lib.hid (by subst hF5; intro b hb; exact .inl ⟨hb, HF.out b hb⟩)
      rw [← hF5] at P5
      clear hF5
      have P6 := Lib.hid (P5.out.keeps HW.out (fun b hb e => by rcases HF5.out b hb with h | h <;> omega) (fun b e => by omega))
      have B6 := Lib.hid (B5.out.keeps HW.out (fun b e => .inr (by omega)))
      have K6 := Lib.hid (K5.out.trans' HW.out (fun b hb e => by omega))
      have V6 := Lib.hid (V5.out.keeps HW.out (fun b hb e => by have := (HG.out b hb).1; omega))
      have U6 := Lib.hid (U5.out.keeps HW.out (fun b hb e => by have := (HG.out b hb).1; omega))
      have hdx : ∀ b, G b → ¬ F5 b := fun b hb hf => by rcases HF5.out b hf with h | h; exact (HG.out b hb).2 h.1; have := (HG.out b hb).1; omega
      have HDX := Lib.hid hdx
      clear P5 B5 K5 V5 U5 HW HT hdx
      obtain ⟨x0, x1, x2, x3, x4, x5⟩ := B6.out.c
      have BX := Lib.hid B6.out
      clear x0 x1 x2 x3 x4 x5
      clear B6
      obtain ⟨y0, y1, y2⟩ := BX.out.2.2.c
      have fy := BX.out.2.2.fr
      obtain ⟨x0, x1, x2, x3, x4, x5⟩ := BX.out.c
      go_wp2
      have hE := BX.out.2.2.set3 most first (.slice a n c)
      obtain ⟨z0, z1, z2⟩ := hE.c
      refine bodyPost_ret_by (v := .tuple #[.agg #[.int .i64 most, .int .i64 first, .slice a n c], .bool true]) (by simp [results, Tryd.results51, go_sem, z0, z1, z2]) rfl ?_
      exact does31_fin P6.out V6.out HDX.out K6.out (fun b hb => by rcases HF5.out b hb with h | h; exact .inl h.1; exact .inr (by omega)) (fun b hb => .inl hb) (fun hf => by rcases HF5.out _ hf with h | h <;> omega) (fun hg => by have := (HG.out _ hg).1; omega) (by omega) hW1 (by rw [← Hn.out]; omega)
set_option maxRecDepth 100000 in
set_option maxHeartbeats 4000000 in
theorem does31_replace (ht : Tabs w1) (h : HiF w1 F W hb most first ls) (hF : ∀ b, F b → b < W.heap.size) (hv : lnEl.Rd G W (.slice a n c) ls) (hn : n = ls.length) (hnm : n ≤ 1000) (hG : ∀ b, G b → b < W.heap.size ∧ ¬ F b) (hu : lnEl.Rd G W (.slice ua m uc) xs) (hm : m = xs.length) (hm6 : m ≤ 6) (hc : ∀ l ∈ xs, l.cells.length ≤ 1000000) (hfb : first + n ≤ 1000000) (hok : ∀ l ∈ xs, lnOk l.cells = true) (k : Nat) (hk : k = m - most.toNat) :
    Calls Tryd.prog 51 #[.pointer (some ⟨hb, 0, none⟩), .agg #[.int .i64 most, .int .i64 first, .slice a n c], .agg #[.int .i64 2, .int .i64 num, .slice ua m uc]] W fun e w' => DoesP31 w1 W F G hb most (first + n) e w' := by
  have fa := h.facts
  have hW1 := h.see.size
  rw [← hn] at fa
  have Hok : Hid ((xs.all fun l => lnOk l.cells) = true) := Lib.hid (List.all_eq_true.2 hok)
  have Hokk := Lib.hid hok
  have Hk := Lib.hid hk
  have hkb : k ≤ m := by omega
  clear hok hk
  have HP := Lib.hid h
  have HV := Lib.hid hv
  have HU := Lib.hid hu
  have Hn := Lib.hid hn
  have Hm := Lib.hid hm
  have HF := Lib.hid hF
  have HG := Lib.hid hG
  have Hc := Lib.hid hc
  have Ht := Lib.hid ht
  clear h hv hu hn hm hF hG hc ht
  go_enter Tryd.func51, Tryd.ntmps51
  go_wp2_with fail
  refine calls_world (fun w2 hw2 => ?_)
  have A4 : BX31 w2 W.heap.size most first (.slice a n c) 2 num (.slice ua m uc) := by subst hw2; exact ⟨((HrAt.new rfl).alloc _).alloc _, (AcAt31.new (by simp)).alloc _, HrAt.new (by simp)⟩
  have S2 : Sees W w2 := by subst hw2; exact (((Sees.refl W).alloc _).alloc _).alloc _
  have hz2 : w2.heap.size = W.heap.size + 3 := by subst hw2; simp
  clear hw2
  refine (ref28Copy_any _ _ xs w2 (HU.out.sees S2) (by rw [← Hm.out]; omega) Hc.out).mono ?_
  rintro e w3 ⟨v3, rfl, ho, hs⟩
  obtain ⟨a3, c3, rfl, _⟩ := ho.slice
  rw [← Hm.out] at ho ⊢
  have B3 := Lib.hid (A4.sees hs)
  have S3 := Lib.hid (S2.trans hs)
  have HO := Lib.hid ho.cut
  have Hz := Lib.hid (And.intro hz2 hs.size)
  clear A4 S2 ho hs hz2
  obtain ⟨x0, x1, x2, x3, x4, x5⟩ := B3.out.c
  go_wp2_with fail
  refine (refValid31_any _ _ xs w3 (HU.out.sees S3.out) Hc.out (by rw [← Hm.out]; omega)).mono ?_
  rintro e w4 ⟨rfl, hs⟩
  rw [Hok.out]
  have B4 := Lib.hid (B3.out.sees hs)
  have S4 := Lib.hid (S3.out.trans hs)
  have HO4 := Lib.hid (HO.out.sees hs)
  have Hz4 := Lib.hid hs.size
  clear hs B3 HO S3
  clear x0 x1 x2 x3 x4 x5
  obtain ⟨x0, x1, x2, x3, x4, x5⟩ := B4.out.c
  go_wp2_with fail
  refine ((HP.out.sees S4.out).replace Ht.out _ xs HO4.out.rd (fun b hb hf => by have := HF.out b hf; have := hb.1; have := Hz.out.1; omega) Hokk.out (by rw [← Hm.out]; (try rw [← Hn.out]); omega) k (by rw [← Hm.out]; (try rw [← Hn.out]); exact Hk.out)).mono ?_
  rintro e w5 ⟨rfl, hp, hk5⟩
  have hlw : w4.heap.size ≤ w5.heap.size := hk5.size
  have HFz : Hid (∀ b, F b → b < W.heap.size) := Lib.hid HF.out
  have P5 : Hid (HiF w1 (fun b => (F b ∨ w4.heap.size ≤ b) ∧ b < w5.heap.size) w5 hb most (first + k) (xs.drop k)) := Lib.hid hp.cut
  have B5 := Lib.hid (B4.out.keeps hk5 (fun b hf => .inl (HF.out b hf)))
  have K5 := Lib.hid ((Keeps.of_sees (F := F) S4.out).trans hk5)
  have V5 := Lib.hid ((HV.out.sees S4.out).keeps hk5 (fun b hb => (HG.out b hb).2))
  have U5 := Lib.hid ((HU.out.sees S4.out).keeps hk5 (fun b hb => (HG.out b hb).2))
  have HO5 := Lib.hid (HO4.out.keeps hk5 (fun b hb hf => by have := HF.out b hf; have := hb.1; have := Hz.out.1; omega))
  clear hp hk5 HFz
  have HT0 := Lib.hid (fun h0 : xs ≠ [] => StF.of (own_ownl HO5.out) h0)
  have hz3 : W.heap.size + 3 ≤ w2.heap.size ∧ w2.heap.size ≤ w3.heap.size ∧ w3.heap.size ≤ w4.heap.size := by have := Hz.out; have := Hz4.out; omega
  clear B4 S4 HO4 HO5 HP HV HU Hz Hz4
  clear x0 x1 x2 x3 x4 x5
  go_wp2_with fail
  go_loopw [11] (fun i X => ∃ j : Nat, j ≤ m ∧ i = .int .i64 j ∧ Keeps (fun b => w2.heap.size ≤ b ∧ b < w3.heap.size) w5 X ∧ (xs ≠ [] → ∃ g, a3 = some ⟨g, 0, none⟩ ∧ StF (fun b => w2.heap.size ≤ b ∧ b < w3.heap.size) X g xs j)) (fun i _ => m - (intOf i).toNat)
  case atStart => exact ⟨0, by omega, rfl, Keeps.refl _ _, HT0.out⟩
  case round =>
    obtain ⟨j, hj, rfl, hW, hT⟩ := hrel
    have HW := Lib.hid hW
    have HT := Lib.hid hT
    clear hW hT HT0
    by_cases hlk : j < m
    · have hkl : j < xs.length := by have := Hm.out; omega
      obtain ⟨g, rfl, hst⟩ := HT.out (fun e => by rw [e] at hkl; exact absurd hkl (Nat.not_lt_zero _))
      obtain ⟨a6, c6, x0, x1, ho, hbb, hkeep⟩ := hst.step (List.getElem?_eq_getElem hkl)
      have Hl6 := Lib.hid (Hc.out _ (List.getElem_mem hkl))
      generalize xs[j] = l at *
      have Hkp2 := Lib.hid hkeep
      have Hb := Lib.hid hbb
      have Ho := Lib.hid ho
      clear hkl hst hkeep ho hbb HT
      go_wp2_with fail
      refine (stain_own 0 _ l.cells _ Ho.out (by have := Hl6.out; omega)).mono ?_
      rintro e w7 ⟨rfl, hk7⟩
      have HS7 := Lib.hid (HW.out.trans (hk7.mono (fun b _ e => Hb.out b e)))
      have HT7 := Lib.hid (Hkp2.out _ hk7)
      clear hk7 x0 x1
      go_wp2
      go_roundw
      case rel => exact ⟨j + 1, by omega, by go_num, HS7.out, fun _ => ⟨_, rfl, HT7.out⟩⟩
      case measure => simp [intOf] <;> omega
    · obtain rfl : m = j := by omega
      have hlx : w5.heap.size ≤ wr.heap.size := HW.out.size
      obtain ⟨F5, hF5⟩ : ∃ F5 : Nat → Prop, F5 = fun b => (F b ∨ w4.heap.size ≤ b) ∧ b < w5.heap.size := ⟨_, rfl⟩
      have HF5 : Hid (∀ b, F5 b → (F b ∧ b < W.heap.size) ∨ (w4.heap.size ≤ b ∧ b < w5.heap.size)) := Lib.hid (by subst hF5; intro b hb; rcases hb.1 with h | h; exact .inl ⟨h, HF.out b h⟩; exact .inr ⟨h, hb.2⟩)
      rw [← hF5] at P5
      clear hF5
      have P6 := Lib.hid (P5.out.keeps HW.out (fun b hb e => by rcases HF5.out b hb with h | h <;> omega) (fun b e => by omega))
      have B6 := Lib.hid (B5.out.keeps HW.out (fun b e => .inr (by omega)))
      have K6 := Lib.hid (K5.out.trans' HW.out (fun b hb e => by omega))
      have V6 := Lib.hid (V5.out.keeps HW.out (fun b hb e => by have := (HG.out b hb).1; omega))
      have U6 := Lib.hid (U5.out.keeps HW.out (fun b hb e => by have := (HG.out b hb).1; omega))
      have hdx : ∀ b, G b → ¬ F5 b := fun b hb hf => by rcases HF5.out b hf with h | h; exact (HG.out b hb).2 h.1; have := (HG.out b hb).1; omega
      have HDX := Lib.hid hdx
      clear P5 B5 K5 V5 U5 HW HT hdx
      obtain ⟨x0, x1, x2, x3, x4, x5⟩ := B6.out.c
      go_wp2_with fail
      refine (refReplace31 G most first _ _ a n c rfl xs k wr (by omega) (by omega) (by omega) (by rw [← Hm.out]; omega) (by rw [← Hm.out]; omega) U6.out (by rw [← Hm.out]; exact Hk.out)).mono ?_
      rintro e w7 ⟨⟨v7, rfl, hv7⟩, hs7⟩
      obtain ⟨a7, c7, rfl, _⟩ := hv7.slice'
      obtain ⟨L, hL⟩ : ∃ L, L = (xs.drop k) := ⟨_, rfl⟩
      have HLl : Hid (L.length = m - k) := Lib.hid (by rw [hL]; rw [List.length_drop, ← Hm.out])
      rw [← hL] at P6 hv7 ⊢
      obtain ⟨n7, hn7⟩ : ∃ n7, n7 = L.length := ⟨_, rfl⟩
      rw [← hn7] at hv7 ⊢
      have Hn7 := Lib.hid hn7
      have BX := Lib.hid (B6.out.sees hs7)
      have R7 := Lib.hid hv7
      have P7 := Lib.hid (P6.out.sees hs7)
      have K7 := Lib.hid (K6.out.trans (Keeps.of_sees hs7))
      clear hv7 hs7 hL hn7 B6 P6 K6 V6 U6
      clear x0 x1 x2 x3 x4 x5
      obtain ⟨y0, y1, y2⟩ := BX.out.2.2.c
      have fy := BX.out.2.2.fr
      obtain ⟨x0, x1, x2, x3, x4, x5⟩ := BX.out.c
      go_wp2
      have hE := BX.out.2.2.set3 most (first + (k : Int)) (.slice a7 n7 c7)
      obtain ⟨z0, z1, z2⟩ := hE.c
      refine bodyPost_ret_by (v := .tuple #[.agg #[.int .i64 most, .int .i64 (first + (k : Int)), .slice a7 n7 c7], .bool true]) (by simp [results, Tryd.results51, go_sem, z0, z1, z2]) rfl ?_
      exact does31_fin P7.out R7.out (fun b hb hf => by rcases hb with h | h; exact HDX.out b h.1 hf; rcases HF5.out b hf with h' | h' <;> omega) K7.out (fun b hb => by rcases HF5.out b hb with h | h; exact .inl h.1; exact .inr (by omega)) (fun b hb => by rcases hb with h | h; exact .inl h.1; exact .inr (by omega)) (fun hf => by rcases HF5.out _ hf with h | h <;> omega) (fun hg => by rcases hg with h | h; have := (HG.out _ h.1).1; omega; omega) (by omega) hW1 (by rw [HLl.out]; omega)
set_option maxRecDepth 100000 in
set_option maxHeartbeats 4000000 in
theorem does31_replace_bad (ht : Tabs w1) (h : HiF w1 F W hb most first ls) (hF : ∀ b, F b → b < W.heap.size) (hv : lnEl.Rd G W (.slice a n c) ls) (hn : n = ls.length) (hnm : n ≤ 1000) (hG : ∀ b, G b → b < W.heap.size ∧ ¬ F b) (hu : lnEl.Rd G W (.slice ua m uc) xs) (hm : m = xs.length) (hm6 : m ≤ 6) (hc : ∀ l ∈ xs, l.cells.length ≤ 1000000) (hfb : first + n ≤ 1000000) (hbad : (xs.all fun l => lnOk l.cells) = false) :
    Calls Tryd.prog 51 #[.pointer (some ⟨hb, 0, none⟩), .agg #[.int .i64 most, .int .i64 first, .slice a n c], .agg #[.int .i64 2, .int .i64 num, .slice ua m uc]] W fun e w' => DoesP31 w1 W F G hb most (first + n) e w' := by
  have fa := h.facts
  have hW1 := h.see.size
  rw [← hn] at fa
  have Hok := Lib.hid hbad
  clear hbad
  have HP := Lib.hid h
  have HV := Lib.hid hv
  have HU := Lib.hid hu
  have Hn := Lib.hid hn
  have Hm := Lib.hid hm
  have HF := Lib.hid hF
  have HG := Lib.hid hG
  have Hc := Lib.hid hc
  have Ht := Lib.hid ht
  clear h hv hu hn hm hF hG hc ht
  go_enter Tryd.func51, Tryd.ntmps51
  go_wp2_with fail
  refine calls_world (fun w2 hw2 => ?_)
  have A4 : BX31 w2 W.heap.size most first (.slice a n c) 2 num (.slice ua m uc) := by subst hw2; exact ⟨((HrAt.new rfl).alloc _).alloc _, (AcAt31.new (by simp)).alloc _, HrAt.new (by simp)⟩
  have S2 : Sees W w2 := by subst hw2; exact (((Sees.refl W).alloc _).alloc _).alloc _
  have hz2 : w2.heap.size = W.heap.size + 3 := by subst hw2; simp
  clear hw2
  refine (ref28Copy_any _ _ xs w2 (HU.out.sees S2) (by rw [← Hm.out]; omega) Hc.out).mono ?_
  rintro e w3 ⟨v3, rfl, ho, hs⟩
  obtain ⟨a3, c3, rfl, _⟩ := ho.slice
  rw [← Hm.out] at ho ⊢
  have B3 := Lib.hid (A4.sees hs)
  have S3 := Lib.hid (S2.trans hs)
  have HO := Lib.hid ho.cut
  have Hz := Lib.hid (And.intro hz2 hs.size)
  clear A4 S2 ho hs hz2
  obtain ⟨x0, x1, x2, x3, x4, x5⟩ := B3.out.c
  go_wp2_with fail
  refine (refValid31_any _ _ xs w3 (HU.out.sees S3.out) Hc.out (by rw [← Hm.out]; omega)).mono ?_
  rintro e w4 ⟨rfl, hs⟩
  rw [Hok.out]
  have B4 := Lib.hid (B3.out.sees hs)
  have S4 := Lib.hid (S3.out.trans hs)
  have HO4 := Lib.hid (HO.out.sees hs)
  have Hz4 := Lib.hid hs.size
  clear hs B3 HO S3
  clear x0 x1 x2 x3 x4 x5
  obtain ⟨x0, x1, x2, x3, x4, x5⟩ := B4.out.c
  go_wp2_with fail
  refine ((HP.out.sees S4.out).replace_arg Ht.out _ xs HO4.out.rd Hc.out (by rw [← Hm.out]; omega) Hok.out).mono ?_
  rintro e w5 ⟨rfl, hs5⟩
  have hlw : w4.heap.size ≤ w5.heap.size := hs5.size
  have P5 : Hid (HiF w1 F w5 hb most first ls) := Lib.hid (HP.out.sees (S4.out.trans hs5))
  have B5 := Lib.hid (B4.out.sees hs5)
  have K5 := Lib.hid (Keeps.of_sees (F := F) (S4.out.trans hs5))
  have V5 := Lib.hid (HV.out.sees (S4.out.trans hs5))
  have U5 := Lib.hid (HU.out.sees (S4.out.trans hs5))
  have HO5 := Lib.hid (HO4.out.sees hs5)
  clear hs5
  have HT0 := Lib.hid (fun h0 : xs ≠ [] => StF.of (own_ownl HO5.out) h0)
  have hz3 : W.heap.size + 3 ≤ w2.heap.size ∧ w2.heap.size ≤ w3.heap.size ∧ w3.heap.size ≤ w4.heap.size := by have := Hz.out; have := Hz4.out; omega
  clear B4 S4 HO4 HO5 HP HV HU Hz Hz4
  clear x0 x1 x2 x3 x4 x5
  go_wp2_with fail
  go_loopw [11] (fun i X => ∃ j : Nat, j ≤ m ∧ i = .int .i64 j ∧ Keeps (fun b => w2.heap.size ≤ b ∧ b < w3.heap.size) w5 X ∧ (xs ≠ [] → ∃ g, a3 = some ⟨g, 0, none⟩ ∧ StF (fun b => w2.heap.size ≤ b ∧ b < w3.heap.size) X g xs j)) (fun i _ => m - (intOf i).toNat)
  case atStart => exact ⟨0, by omega, rfl, Keeps.refl _ _, HT0.out⟩
  case round =>
    obtain ⟨j, hj, rfl, hW, hT⟩ := hrel
    have HW := Lib.hid hW
    have HT := Lib.hid hT
    clear hW hT HT0
    by_cases hlk : j < m
    · have hkl : j < xs.length := by have := Hm.out; omega
      obtain ⟨g, rfl, hst⟩ := HT.out (fun e => by rw [e] at hkl; exact absurd hkl (Nat.not_lt_zero _))
      obtain ⟨a6, c6, x0, x1, ho, hbb, hkeep⟩ := hst.step (List.getElem?_eq_getElem hkl)
      have Hl6 := Lib.hid (Hc.out _ (List.getElem_mem hkl))
      generalize xs[j] = l at *
      have Hkp2 := Lib.hid hkeep
      have Hb := Lib.hid hbb
      have Ho := Lib.hid ho
      clear hkl hst hkeep ho hbb HT
      go_wp2_with fail
      refine (stain_own 0 _ l.cells _ Ho.out (by have := Hl6.out; omega)).mono ?_
      rintro e w7 ⟨rfl, hk7⟩
      have HS7 := Lib.hid (HW.out.trans (hk7.mono (fun b _ e => Hb.out b e)))
      have HT7 := Lib.hid (Hkp2.out _ hk7)
      clear hk7 x0 x1
      go_wp2
      go_roundw
      case rel => exact ⟨j + 1, by omega, by go_num, HS7.out, fun _ => ⟨_, rfl, HT7.out⟩⟩
      case measure => simp [intOf] <;> omega
    · obtain rfl : m = j := by omega
      have hlx : w5.heap.size ≤ wr.heap.size := HW.out.size
      obtain ⟨F5, hF5⟩ : ∃ F5 : Nat → Prop, F5 = F := ⟨_, rfl⟩
      have HF5 : Hid (∀ b, F5 b → (F b ∧ b < W.heap.size) ∨ (w4.heap.size ≤ b ∧ b < w5.heap.size)) := Lib.hid (by subst hF5; intro b hb; exact .inl ⟨hb, HF.out b hb⟩)
      rw [← hF5] at P5
      clear hF5
      have P6 := Lib.hid (P5.out.keeps HW.out (fun b hb e => by rcases HF5.out b hb with h | h <;> omega) (fun b e => by omega))
      have B6 := Lib.hid (B5.out.keeps HW.out (fun b e => .inr (by omega)))
      have K6 := Lib.hid (K5.out.trans' HW.out (fun b hb e => by omega))
      have V6 := Lib.hid (V5.out.keeps HW.out (fun b hb e => by have := (HG.out b hb).1; omega))
      have U6 := Lib.hid (U5.out.keeps HW.out (fun b hb e => by have := (HG.out b hb).1; omega))
      have hdx : ∀ b, G b → ¬ F5 b := fun b hb hf => by rcases HF5.out b hf with h | h; exact (HG.out b hb).2 h.1; have := (HG.out b hb).1; omega
      have HDX := Lib.hid hdx
      clear P5 B5 K5 V5 U5 HW HT hdx
      obtain ⟨x0, x1, x2, x3, x4, x5⟩ := B6.out.c
      have BX := Lib.hid B6.out
      clear x0 x1 x2 x3 x4 x5
      clear B6
      obtain ⟨y0, y1, y2⟩ := BX.out.2.2.c
      have fy := BX.out.2.2.fr
      obtain ⟨x0, x1, x2, x3, x4, x5⟩ := BX.out.c
      go_wp2
      have hE := BX.out.2.2.set3 most first (.slice a n c)
      obtain ⟨z0, z1, z2⟩ := hE.c
      refine bodyPost_ret_by (v := .tuple #[.agg #[.int .i64 most, .int .i64 first, .slice a n c], .bool true]) (by simp [results, Tryd.results51, go_sem, z0, z1, z2]) rfl ?_
      exact does31_fin P6.out V6.out HDX.out K6.out (fun b hb => by rcases HF5.out b hb with h | h; exact .inl h.1; exact .inr (by omega)) (fun b hb => .inl hb) (fun hf => by rcases HF5.out _ hf with h | h <;> omega) (fun hg => by have := (HG.out _ hg).1; omega) (by omega) hW1 (by rw [← Hn.out]; omega)
set_option maxRecDepth 100000 in
set_option maxHeartbeats 4000000 in
theorem does31_neg (ht : Tabs w1) (h : HiF w1 F W hb most first ls) (hF : ∀ b, F b → b < W.heap.size) (hv : lnEl.Rd G W (.slice a n c) ls) (hn : n = ls.length) (hnm : n ≤ 1000) (hG : ∀ b, G b → b < W.heap.size ∧ ¬ F b) (hu : lnEl.Rd G W (.slice ua m uc) xs) (hm : m = xs.length) (hm6 : m ≤ 6) (hc : ∀ l ∈ xs, l.cells.length ≤ 1000000) (hfb : first + n ≤ 1000000) (hx : num < 0) :
    Calls Tryd.prog 51 #[.pointer (some ⟨hb, 0, none⟩), .agg #[.int .i64 most, .int .i64 first, .slice a n c], .agg #[.int .i64 1, .int .i64 num, .slice ua m uc]] W fun e w' => DoesP31 w1 W F G hb most (first + n) e w' := by
  have fa := h.facts
  have hW1 := h.see.size
  rw [← hn] at fa
  have d1 : decide (num < 0) = true := decide_eq_true hx
  have HP := Lib.hid h
  have HV := Lib.hid hv
  have HU := Lib.hid hu
  have Hn := Lib.hid hn
  have Hm := Lib.hid hm
  have HF := Lib.hid hF
  have HG := Lib.hid hG
  have Hc := Lib.hid hc
  have Ht := Lib.hid ht
  clear h hv hu hn hm hF hG hc ht
  go_enter Tryd.func51, Tryd.ntmps51
  go_wp2_with fail
  refine calls_world (fun w2 hw2 => ?_)
  have A4 : BX31 w2 W.heap.size most first (.slice a n c) 1 num (.slice ua m uc) := by subst hw2; exact ⟨((HrAt.new rfl).alloc _).alloc _, (AcAt31.new (by simp)).alloc _, HrAt.new (by simp)⟩
  have S2 : Sees W w2 := by subst hw2; exact (((Sees.refl W).alloc _).alloc _).alloc _
  have hz2 : w2.heap.size = W.heap.size + 3 := by subst hw2; simp
  clear hw2
  refine (ref28Copy_any _ _ xs w2 (HU.out.sees S2) (by rw [← Hm.out]; omega) Hc.out).mono ?_
  rintro e w3 ⟨v3, rfl, ho, hs⟩
  obtain ⟨a3, c3, rfl, _⟩ := ho.slice
  rw [← Hm.out] at ho ⊢
  have B3 := Lib.hid (A4.sees hs)
  have S3 := Lib.hid (S2.trans hs)
  have HO := Lib.hid ho.cut
  have Hz := Lib.hid (And.intro hz2 hs.size)
  clear A4 S2 ho hs hz2
  obtain ⟨x0, x1, x2, x3, x4, x5⟩ := B3.out.c
  go_wp2_with fail
  refine wpFrom_go (by kernel_rfl) (by kernel_rfl) (fun hB w4 hs4 => ?_)
  have B4 := Lib.hid (B3.out.sees hs4)
  have S4 := Lib.hid (S3.out.trans hs4)
  have hzz := Hz.out
  clear hs4 B3 HO S3
  clear x0 x1 x2 x3 x4 x5
  have hval : ∀ x v, (Spec.is x).val v = x := fun _ _ => rfl
  have hval2 : ∀ V v, (Spec.so V).val v = v := fun _ _ => rfl
  have hst : segStay (Sees w4) [.is (.agg #[.int .i64 most, .int .i64 first, .slice a n c]),
        .is (.pointer (some ⟨hb, 0, none⟩)),
        .is (.pointer (some ⟨W.heap.size + 1, 1, none⟩)),
        .is (.int .i64 num),
        .is (.bool true)] :=
      trivial
  refine wpFrom_any 5 _ hB (by kernel_rfl) rfl hst (by simp only [List.cons_append, List.nil_append, List.drop_succ_cons, List.drop_zero, List.take_succ_cons, List.take_zero, Nat.reduceSub]; rfl) ?_
  refine ⟨fun vs W hI hV => .inl ⟨by clear hI hV hst; go_simp, .inl (by have q := (B4.out.sees hI).c; obtain ⟨q0, q1, q2, q3, q4, q5⟩ := q; clear hI hV hst; (try simp only [Act.put, hval, hval2, List.setIfInBounds_toArray, List.set_cons_zero, List.set_cons_succ]); go_simp)⟩, ?_⟩
  refine ⟨fun vs W hI hV => .inl ⟨by clear hI hV hst; go_simp, .inl (by clear hI hV hst; (try simp only [Act.put, hval, hval2, List.setIfInBounds_toArray, List.set_cons_zero, List.set_cons_succ]); go_simp)⟩, ?_⟩
  refine ⟨fun vs W hI hV => .inl ⟨by clear hI hV hst; go_simp, .inl (by clear hI hV hst; (try simp only [Act.put, hval, hval2, List.setIfInBounds_toArray, List.set_cons_zero, List.set_cons_succ]); go_simp)⟩, ?_⟩
  refine ⟨fun vs W hI hV => .inl ⟨by clear hI hV hst; go_simp, .inl (by have q := (B4.out.sees hI).c; obtain ⟨q0, q1, q2, q3, q4, q5⟩ := q; clear hI hV hst; (try simp only [Act.put, hval, hval2, List.setIfInBounds_toArray, List.set_cons_zero, List.set_cons_succ]); go_simp)⟩, ?_⟩
  refine ⟨fun vs W hI hV => .inl ⟨by clear hI hV hst; (try simp only [Act.put, hval, hval2, List.setIfInBounds_toArray, List.set_cons_zero, List.set_cons_succ]); go_simp, .inr (.inr ⟨28, #[.pointer (some ⟨hb, 0, none⟩), .int .i64 num, .int .i64 2, .slice none 0 0], by clear hI hV hst; (try simp only [Act.put, hval, hval2, List.setIfInBounds_toArray, List.set_cons_zero, List.set_cons_succ]); go_simp, ((HP.out.sees (S4.out.trans hI)).pulls_arg num hx)⟩)⟩, ?_⟩
  intro vs w5 hI hV
  have BX := Lib.hid (B4.out.sees hI)
  have P6 := Lib.hid (HP.out.sees (S4.out.trans hI))
  have V6 := Lib.hid (HV.out.sees (S4.out.trans hI))
  have K6 := Lib.hid (Keeps.of_sees (F := F) (S4.out.trans hI))
  clear hI hV hst B4 S4
  (try simp only [Act.put, hval, hval2, List.setIfInBounds_toArray, List.set_cons_zero, List.set_cons_succ])
  go_simp
  refine wpFrom_to 7 hB (fun _ _ _ _ _ h => h) (by kernel_rfl) (by simp only [List.cons_append, List.nil_append, List.drop_succ_cons, List.drop_zero, List.take_succ_cons, List.take_zero, Nat.reduceSub]; rfl) ?_
  obtain ⟨y0, y1, y2⟩ := BX.out.2.2.c
  have fy := BX.out.2.2.fr
  obtain ⟨x0, x1, x2, x3, x4, x5⟩ := BX.out.c
  go_wp2_with fail
  refine wpFrom_end rfl ?_
  clear hB
  go_wp2
  have hE := BX.out.2.2.set3 most first (.slice a n c)
  obtain ⟨z0, z1, z2⟩ := hE.c
  refine bodyPost_ret_by (v := .tuple #[.agg #[.int .i64 most, .int .i64 first, .slice a n c], .bool true]) (by simp [results, Tryd.results51, go_sem, z0, z1, z2]) rfl ?_
  exact does31_fin P6.out V6.out (fun b hb => (HG.out b hb).2) K6.out (fun b hb => .inl hb) (fun b hb => .inl hb) (fun hf => by have := HF.out _ hf; omega) (fun hg => by have := (HG.out _ hg).1; omega) (by omega) hW1 (by rw [← Hn.out]; omega)
set_option maxRecDepth 100000 in
set_option maxHeartbeats 4000000 in
theorem does31_range (ht : Tabs w1) (h : HiF w1 F W hb most first ls) (hF : ∀ b, F b → b < W.heap.size) (hv : lnEl.Rd G W (.slice a n c) ls) (hn : n = ls.length) (hnm : n ≤ 1000) (hG : ∀ b, G b → b < W.heap.size ∧ ¬ F b) (hu : lnEl.Rd G W (.slice ua m uc) xs) (hm : m = xs.length) (hm6 : m ≤ 6) (hc : ∀ l ∈ xs, l.cells.length ≤ 1000000) (hfb : first + n ≤ 1000000) (hx0 : 0 ≤ num) (hx : (n : Int) < num) :
    Calls Tryd.prog 51 #[.pointer (some ⟨hb, 0, none⟩), .agg #[.int .i64 most, .int .i64 first, .slice a n c], .agg #[.int .i64 1, .int .i64 num, .slice ua m uc]] W fun e w' => DoesP31 w1 W F G hb most (first + n) e w' := by
  have fa := h.facts
  have hW1 := h.see.size
  rw [← hn] at fa
  have d1 : decide (num < 0) = false := decide_eq_false (by omega)
  have d2 : decide (num > (n : Int)) = true := decide_eq_true hx
  have HP := Lib.hid h
  have HV := Lib.hid hv
  have HU := Lib.hid hu
  have Hn := Lib.hid hn
  have Hm := Lib.hid hm
  have HF := Lib.hid hF
  have HG := Lib.hid hG
  have Hc := Lib.hid hc
  have Ht := Lib.hid ht
  clear h hv hu hn hm hF hG hc ht
  go_enter Tryd.func51, Tryd.ntmps51
  go_wp2_with fail
  refine calls_world (fun w2 hw2 => ?_)
  have A4 : BX31 w2 W.heap.size most first (.slice a n c) 1 num (.slice ua m uc) := by subst hw2; exact ⟨((HrAt.new rfl).alloc _).alloc _, (AcAt31.new (by simp)).alloc _, HrAt.new (by simp)⟩
  have S2 : Sees W w2 := by subst hw2; exact (((Sees.refl W).alloc _).alloc _).alloc _
  have hz2 : w2.heap.size = W.heap.size + 3 := by subst hw2; simp
  clear hw2
  refine (ref28Copy_any _ _ xs w2 (HU.out.sees S2) (by rw [← Hm.out]; omega) Hc.out).mono ?_
  rintro e w3 ⟨v3, rfl, ho, hs⟩
  obtain ⟨a3, c3, rfl, _⟩ := ho.slice
  rw [← Hm.out] at ho ⊢
  have B3 := Lib.hid (A4.sees hs)
  have S3 := Lib.hid (S2.trans hs)
  have HO := Lib.hid ho.cut
  have Hz := Lib.hid (And.intro hz2 hs.size)
  clear A4 S2 ho hs hz2
  obtain ⟨x0, x1, x2, x3, x4, x5⟩ := B3.out.c
  go_wp2_with fail
  refine wpFrom_go (by kernel_rfl) (by kernel_rfl) (fun hB w4 hs4 => ?_)
  have B4 := Lib.hid (B3.out.sees hs4)
  have S4 := Lib.hid (S3.out.trans hs4)
  have hzz := Hz.out
  clear hs4 B3 HO S3
  clear x0 x1 x2 x3 x4 x5
  have hval : ∀ x v, (Spec.is x).val v = x := fun _ _ => rfl
  have hval2 : ∀ V v, (Spec.so V).val v = v := fun _ _ => rfl
  have hst : segStay (Sees w4) [.is (.agg #[.int .i64 most, .int .i64 first, .slice a n c]),
        .is (.pointer (some ⟨hb, 0, none⟩)),
        .is (.pointer (some ⟨W.heap.size + 1, 1, none⟩)),
        .is (.int .i64 num),
        .is (.bool true)] :=
      trivial
  refine wpFrom_any 5 _ hB (by kernel_rfl) rfl hst (by simp only [List.cons_append, List.nil_append, List.drop_succ_cons, List.drop_zero, List.take_succ_cons, List.take_zero, Nat.reduceSub]; rfl) ?_
  refine ⟨fun vs W hI hV => .inl ⟨by clear hI hV hst; go_simp, .inl (by have q := (B4.out.sees hI).c; obtain ⟨q0, q1, q2, q3, q4, q5⟩ := q; clear hI hV hst; (try simp only [Act.put, hval, hval2, List.setIfInBounds_toArray, List.set_cons_zero, List.set_cons_succ]); go_simp)⟩, ?_⟩
  refine ⟨fun vs W hI hV => .inl ⟨by clear hI hV hst; go_simp, .inl (by clear hI hV hst; (try simp only [Act.put, hval, hval2, List.setIfInBounds_toArray, List.set_cons_zero, List.set_cons_succ]); go_simp)⟩, ?_⟩
  refine ⟨fun vs W hI hV => .inl ⟨by clear hI hV hst; go_simp, .inl (by clear hI hV hst; (try simp only [Act.put, hval, hval2, List.setIfInBounds_toArray, List.set_cons_zero, List.set_cons_succ]); go_simp)⟩, ?_⟩
  refine ⟨fun vs W hI hV => .inl ⟨by clear hI hV hst; go_simp, .inl (by have q := (B4.out.sees hI).c; obtain ⟨q0, q1, q2, q3, q4, q5⟩ := q; clear hI hV hst; (try simp only [Act.put, hval, hval2, List.setIfInBounds_toArray, List.set_cons_zero, List.set_cons_succ]); go_simp)⟩, ?_⟩
  refine ⟨fun vs W hI hV => .inl ⟨by clear hI hV hst; (try simp only [Act.put, hval, hval2, List.setIfInBounds_toArray, List.set_cons_zero, List.set_cons_succ]); go_simp, .inr (.inr ⟨28, #[.pointer (some ⟨hb, 0, none⟩), .int .i64 num, .int .i64 3, .slice none 0 0], by clear hI hV hst; (try simp only [Act.put, hval, hval2, List.setIfInBounds_toArray, List.set_cons_zero, List.set_cons_succ]); go_simp, ((HP.out.sees (S4.out.trans hI)).pulls_range num (by rw [← Hn.out]; exact hx))⟩)⟩, ?_⟩
  intro vs w5 hI hV
  have BX := Lib.hid (B4.out.sees hI)
  have P6 := Lib.hid (HP.out.sees (S4.out.trans hI))
  have V6 := Lib.hid (HV.out.sees (S4.out.trans hI))
  have K6 := Lib.hid (Keeps.of_sees (F := F) (S4.out.trans hI))
  clear hI hV hst B4 S4
  (try simp only [Act.put, hval, hval2, List.setIfInBounds_toArray, List.set_cons_zero, List.set_cons_succ])
  go_simp
  refine wpFrom_to 7 hB (fun _ _ _ _ _ h => h) (by kernel_rfl) (by simp only [List.cons_append, List.nil_append, List.drop_succ_cons, List.drop_zero, List.take_succ_cons, List.take_zero, Nat.reduceSub]; rfl) ?_
  obtain ⟨y0, y1, y2⟩ := BX.out.2.2.c
  have fy := BX.out.2.2.fr
  obtain ⟨x0, x1, x2, x3, x4, x5⟩ := BX.out.c
  go_wp2_with fail
  refine wpFrom_end rfl ?_
  clear hB
  go_wp2
  have hE := BX.out.2.2.set3 most first (.slice a n c)
  obtain ⟨z0, z1, z2⟩ := hE.c
  refine bodyPost_ret_by (v := .tuple #[.agg #[.int .i64 most, .int .i64 first, .slice a n c], .bool true]) (by simp [results, Tryd.results51, go_sem, z0, z1, z2]) rfl ?_
  exact does31_fin P6.out V6.out (fun b hb => (HG.out b hb).2) K6.out (fun b hb => .inl hb) (fun b hb => .inl hb) (fun hf => by have := HF.out _ hf; omega) (fun hg => by have := (HG.out _ hg).1; omega) (by omega) hW1 (by rw [← Hn.out]; omega)
set_option maxRecDepth 100000 in
set_option maxHeartbeats 4000000 in
theorem does31_pull (ht : Tabs w1) (h : HiF w1 F W hb most first ls) (hF : ∀ b, F b → b < W.heap.size) (hv : lnEl.Rd G W (.slice a n c) ls) (hn : n = ls.length) (hnm : n ≤ 1000) (hG : ∀ b, G b → b < W.heap.size ∧ ¬ F b) (hu : lnEl.Rd G W (.slice ua m uc) xs) (hm : m = xs.length) (hm6 : m ≤ 6) (hc : ∀ l ∈ xs, l.cells.length ≤ 1000000) (hfb : first + n ≤ 1000000) (t : Nat) (hx : t ≤ n) :
    Calls Tryd.prog 51 #[.pointer (some ⟨hb, 0, none⟩), .agg #[.int .i64 most, .int .i64 first, .slice a n c], .agg #[.int .i64 1, .int .i64 (t : Int), .slice ua m uc]] W fun e w' => DoesP31 w1 W F G hb most (first + n) e w' := by
  have fa := h.facts
  have hW1 := h.see.size
  rw [← hn] at fa
  have d1 : decide ((t : Int) < 0) = false := decide_eq_false (by omega)
  have d2 : decide ((t : Int) > (n : Int)) = false := decide_eq_false (by omega)
  have d3 : decide ((n : Int) < (t : Int)) = false := decide_eq_false (by omega)
  have g1 : IntKind.i64.wrap ((n : Int) - (t : Int)) = ((n - t : Nat) : Int) := by rw [IntWalk.i64_in _ (by omega)]; omega
  obtain ⟨a9, c9, h9, h9r⟩ := cut_from hv (n - t) (Nat.sub_le _ _)
  have H9 := Lib.hid h9
  have H9r := Lib.hid h9r
  clear h9 h9r
  have HP := Lib.hid h
  have HV := Lib.hid hv
  have HU := Lib.hid hu
  have Hn := Lib.hid hn
  have Hm := Lib.hid hm
  have HF := Lib.hid hF
  have HG := Lib.hid hG
  have Hc := Lib.hid hc
  have Ht := Lib.hid ht
  clear h hv hu hn hm hF hG hc ht
  go_enter Tryd.func51, Tryd.ntmps51
  go_wp2_with fail
  refine calls_world (fun w2 hw2 => ?_)
  have A4 : BX31 w2 W.heap.size most first (.slice a n c) 1 (t : Int) (.slice ua m uc) := by subst hw2; exact ⟨((HrAt.new rfl).alloc _).alloc _, (AcAt31.new (by simp)).alloc _, HrAt.new (by simp)⟩
  have S2 : Sees W w2 := by subst hw2; exact (((Sees.refl W).alloc _).alloc _).alloc _
  have hz2 : w2.heap.size = W.heap.size + 3 := by subst hw2; simp
  clear hw2
  refine (ref28Copy_any _ _ xs w2 (HU.out.sees S2) (by rw [← Hm.out]; omega) Hc.out).mono ?_
  rintro e w3 ⟨v3, rfl, ho, hs⟩
  obtain ⟨a3, c3, rfl, _⟩ := ho.slice
  rw [← Hm.out] at ho ⊢
  have B3 := Lib.hid (A4.sees hs)
  have S3 := Lib.hid (S2.trans hs)
  have HO := Lib.hid ho.cut
  have Hz := Lib.hid (And.intro hz2 hs.size)
  clear A4 S2 ho hs hz2
  obtain ⟨x0, x1, x2, x3, x4, x5⟩ := B3.out.c
  go_wp2_with fail
  refine wpFrom_go (by kernel_rfl) (by kernel_rfl) (fun hB w4 hs4 => ?_)
  have B4 := Lib.hid (B3.out.sees hs4)
  have S4 := Lib.hid (S3.out.trans hs4)
  have hzz := Hz.out
  have hz4 := hs4.size
  clear hs4 B3 HO S3
  clear x0 x1 x2 x3 x4 x5
  have hval : ∀ x v, (Spec.is x).val v = x := fun _ _ => rfl
  have hval2 : ∀ V v, (Spec.so V).val v = v := fun _ _ => rfl
  have hst : segStay (Sees w4) [.is (.agg #[.int .i64 most, .int .i64 first, .slice a n c]),
        .is (.pointer (some ⟨W.heap.size + 1, 1, none⟩)),
        .is (.int .i64 (t : Int)),
        .so (fun x W' => ∃ v', x = .agg #[.int .i64 most, .int .i64 first, v'] ∧ lnEl.Rd (fun b => (G b ∧ b < w4.heap.size) ∨ w4.heap.size ≤ b) W' v' (ls.take (ls.length - t))),
        .is (.pointer (some ⟨hb, 0, none⟩)),
        .is (.pointer (some ⟨W.heap.size + 1, 1, none⟩)),
        .is (.int .i64 (t : Int)),
        .is (.pointer (some ⟨W.heap.size, 2, none⟩)),
        .is (.slice a n c),
        .is (.pointer (some ⟨W.heap.size, 2, none⟩)),
        .is (.slice a n c),
        .is (.int .i64 n),
        .is (.pointer (some ⟨W.heap.size + 1, 1, none⟩)),
        .is (.int .i64 (t : Int)),
        .is (.int .i64 (n - t : Nat)),
        .is (.slice a9 (n - (n - t)) c9)] :=
      ⟨fun u W W' _ ⟨v', h1, h2⟩ hs => ⟨v', h1, h2.sees hs⟩, trivial⟩
  refine wpFrom_any 16 _ hB (by kernel_rfl) rfl hst (by simp only [List.cons_append, List.nil_append, List.drop_succ_cons, List.drop_zero, List.take_succ_cons, List.take_zero, Nat.reduceSub]; rfl) ?_
  refine ⟨fun vs W hI hV => .inl ⟨by clear hI hV hst; go_simp, .inl (by have q := (B4.out.sees hI).c; obtain ⟨q0, q1, q2, q3, q4, q5⟩ := q; clear hI hV hst; (try simp only [Act.put, hval, hval2, List.setIfInBounds_toArray, List.set_cons_zero, List.set_cons_succ]); go_simp)⟩, ?_⟩
  refine ⟨fun vs W hI hV => .inl ⟨by clear hI hV hst; go_simp, .inl (by clear hI hV hst; (try simp only [Act.put, hval, hval2, List.setIfInBounds_toArray, List.set_cons_zero, List.set_cons_succ]); go_simp)⟩, ?_⟩
  refine ⟨fun vs W hI hV => .inl ⟨by clear hI hV hst; go_simp, .inl (by have q := (B4.out.sees hI).c; obtain ⟨q0, q1, q2, q3, q4, q5⟩ := q; clear hI hV hst; (try simp only [Act.put, hval, hval2, List.setIfInBounds_toArray, List.set_cons_zero, List.set_cons_succ]); go_simp)⟩, ?_⟩
  refine ⟨fun vs W hI hV => .inl ⟨by clear hI hV hst; (try simp only [Act.put, hval, hval2, List.setIfInBounds_toArray, List.set_cons_zero, List.set_cons_succ]); go_simp, .inr (.inr ⟨40, #[.agg #[.int .i64 most, .int .i64 first, .slice a n c], .int .i64 (t : Int)], by clear hI hV hst; (try simp only [Act.put, hval, hval2, List.setIfInBounds_toArray, List.set_cons_zero, List.set_cons_succ]); go_simp, ?_⟩)⟩, ?_⟩
  · refine (refPull31 G most first _ ls t W (by rw [← Hn.out]; exact hx) (by rw [← Hn.out]; omega) (HV.out.sees (S4.out.trans hI))).mono ?_
    rintro e w' ⟨⟨v', rfl, hv'⟩, hs⟩
    exact ⟨_, rfl, rgGood_mk hst hI (⟨v', rfl, hv'.mono (fun b hb h => by have := hI.size; rcases h with h | h; (by_cases h2 : b < w4.heap.size; exact .inl ⟨h.1, h2⟩; exact .inr (by omega)); exact .inr (by omega))⟩) hs⟩
  refine ⟨fun vs W hI hV => .inl ⟨by clear hI hV hst; go_simp, .inl (by clear hI hV hst; (try simp only [Act.put, hval, hval2, List.setIfInBounds_toArray, List.set_cons_zero, List.set_cons_succ]); go_simp)⟩, ?_⟩
  refine ⟨fun vs W hI hV => .inl ⟨by clear hI hV hst; go_simp, .inl (by clear hI hV hst; (try simp only [Act.put, hval, hval2, List.setIfInBounds_toArray, List.set_cons_zero, List.set_cons_succ]); go_simp)⟩, ?_⟩
  refine ⟨fun vs W hI hV => .inl ⟨by clear hI hV hst; go_simp, .inl (by have q := (B4.out.sees hI).c; obtain ⟨q0, q1, q2, q3, q4, q5⟩ := q; clear hI hV hst; (try simp only [Act.put, hval, hval2, List.setIfInBounds_toArray, List.set_cons_zero, List.set_cons_succ]); go_simp)⟩, ?_⟩
  refine ⟨fun vs W hI hV => .inl ⟨by clear hI hV hst; go_simp, .inl (by clear hI hV hst; (try simp only [Act.put, hval, hval2, List.setIfInBounds_toArray, List.set_cons_zero, List.set_cons_succ]); go_simp)⟩, ?_⟩
  refine ⟨fun vs W hI hV => .inl ⟨by clear hI hV hst; go_simp, .inl (by have q := (B4.out.sees hI).c; obtain ⟨q0, q1, q2, q3, q4, q5⟩ := q; clear hI hV hst; (try simp only [Act.put, hval, hval2, List.setIfInBounds_toArray, List.set_cons_zero, List.set_cons_succ]); go_simp)⟩, ?_⟩
  refine ⟨fun vs W hI hV => .inl ⟨by clear hI hV hst; go_simp, .inl (by clear hI hV hst; (try simp only [Act.put, hval, hval2, List.setIfInBounds_toArray, List.set_cons_zero, List.set_cons_succ]); go_simp)⟩, ?_⟩
  refine ⟨fun vs W hI hV => .inl ⟨by clear hI hV hst; go_simp, .inl (by have q := (B4.out.sees hI).c; obtain ⟨q0, q1, q2, q3, q4, q5⟩ := q; clear hI hV hst; (try simp only [Act.put, hval, hval2, List.setIfInBounds_toArray, List.set_cons_zero, List.set_cons_succ]); go_simp)⟩, ?_⟩
  refine ⟨fun vs W hI hV => .inl ⟨by clear hI hV hst; go_simp, .inl (by clear hI hV hst; (try simp only [Act.put, hval, hval2, List.setIfInBounds_toArray, List.set_cons_zero, List.set_cons_succ]); go_simp)⟩, ?_⟩
  refine ⟨fun vs W hI hV => .inl ⟨by clear hI hV hst; go_simp, .inl (by clear hI hV hst; (try simp only [Act.put, hval, hval2, List.setIfInBounds_toArray, List.set_cons_zero, List.set_cons_succ]); go_simp)⟩, ?_⟩
  refine ⟨fun vs W hI hV => .inl ⟨by clear hI hV hst; go_simp, .inl (by have q := (B4.out.sees hI).c; obtain ⟨q0, q1, q2, q3, q4, q5⟩ := q; clear hI hV hst; (try simp only [Act.put, hval, hval2, List.setIfInBounds_toArray, List.set_cons_zero, List.set_cons_succ]); go_simp)⟩, ?_⟩
  refine ⟨fun vs W hI hV => .inl ⟨by clear hI hV hst; go_simp, .inl (by clear hI hV hst; (try simp only [Act.put, hval, hval2, List.setIfInBounds_toArray, List.set_cons_zero, List.set_cons_succ]); go_simp)⟩, ?_⟩
  refine ⟨fun vs W hI hV => .inl ⟨by clear hI hV hst; go_simp, .inl (by clear hI hV hst; exact exec_fromL (a := .slice a n c) (b := .int .i64 (n - t : Nat)) rfl (by (try simp only [Act.put, hval, hval2, List.setIfInBounds_toArray, List.set_cons_zero, List.set_cons_succ]); go_simp) (by (try simp only [Act.put, hval, hval2, List.setIfInBounds_toArray, List.set_cons_zero, List.set_cons_succ]); go_simp) (H9.out W))⟩, ?_⟩
  intro vs w5 hI hV
  obtain ⟨v5, e5, hR5⟩ := hV 3 _ rfl
  obtain ⟨a5, c5, rfl, _⟩ := hR5.slice'
  obtain ⟨L, hL⟩ : ∃ L, L = ls.take (ls.length - t) := ⟨_, rfl⟩
  rw [← hL] at e5 hR5
  have hLl : L.length = n - t := by rw [hL, List.length_take, ← Hn.out]; omega
  have HL := Lib.hid hL
  rw [hLl] at e5 hR5
  have HLl := Lib.hid hLl
  have HR5 := Lib.hid (hR5.mono (G := fun b => (G b ∨ w4.heap.size ≤ b) ∧ b < w5.heap.size) (fun b hb h => ⟨h.imp And.left id, hb⟩))
  have B5 := Lib.hid (B4.out.sees hI)
  have P5 := Lib.hid (HP.out.sees (S4.out.trans hI))
  have V5 := Lib.hid (HV.out.sees (S4.out.trans hI))
  have S5 := Lib.hid (S4.out.trans hI)
  clear hI hV hst B4 S4 hR5 hL hLl
  (try simp only [Act.put, hval, hval2, List.setIfInBounds_toArray, List.set_cons_zero, List.set_cons_succ])
  go_simp
  try rw [e5]
  refine wpFrom_to 19 hB (fun _ _ _ _ _ h => h) (by kernel_rfl) (by simp only [List.cons_append, List.nil_append, List.drop_succ_cons, List.drop_zero, List.take_succ_cons, List.take_zero, Nat.reduceSub]; rfl) ?_
  obtain ⟨x0, x1, x2, x3, x4, x5⟩ := B5.out.c
  go_wp2_with fail
  refine (P5.out.pulls (G := G) t (by rw [← Hn.out]; exact hx) (by omega) _ (by rw [← Hn.out]; exact (H9r.out _ _ V5.out).rdl) (fun c hG hF => (HG.out c hG).2 hF)).mono ?_
  rintro e w6 ⟨rfl, ⟨F2, hp, hF2⟩, hk6⟩
  have BX := Lib.hid (B5.out.keeps hk6 (fun b hf => .inl (HF.out b hf)))
  have P6 : Hid (HiF w1 F2 w6 hb most first L) := Lib.hid (by rw [HL.out]; exact hp)
  have HF2 := Lib.hid hF2
  have R6 := Lib.hid (HR5.out.keeps hk6 (fun b hb hf => by rcases hb.1 with h | h; exact (HG.out b h).2 hf; have := HF.out b hf; omega))
  have K6 := Lib.hid ((Keeps.of_sees (F := F) S5.out).trans hk6)
  clear hp hk6 hF2 B5 P5 V5 S5 HR5 e5
  clear x0 x1 x2 x3 x4 x5
  obtain ⟨y0, y1, y2⟩ := BX.out.2.2.c
  have fy := BX.out.2.2.fr
  obtain ⟨x0, x1, x2, x3, x4, x5⟩ := BX.out.c
  go_wp2_with fail
  refine wpFrom_end rfl ?_
  clear hB
  go_wp2
  have hE := BX.out.2.2.set3 most first (.slice a5 (n - t) c5)
  obtain ⟨z0, z1, z2⟩ := hE.c
  refine bodyPost_ret_by (v := .tuple #[.agg #[.int .i64 most, .int .i64 first, .slice a5 (n - t) c5], .bool true]) (by simp [results, Tryd.results51, go_sem, z0, z1, z2]) rfl ?_
  exact does31_fin P6.out R6.out (fun b hb hf => by rcases hb.1 with h | h; exact (HG.out b h).2 (HF2.out b hf); have := HF.out b (HF2.out b hf); omega) K6.out (fun b hb => .inl (HF2.out b hb)) (fun b hb => by rcases hb.1 with h | h; exact .inl h; exact .inr (by omega)) (fun hf => by have := HF.out _ (HF2.out _ hf); omega) (fun hg => by rcases hg.1 with h | h; have := (HG.out _ h).1; omega; omega) (by omega) hW1 (by rw [HLl.out]; omega)
set_option maxRecDepth 100000 in
set_option maxHeartbeats 4000000 in
theorem does31_clear (ht : Tabs w1) (h : HiF w1 F W hb most first ls) (hF : ∀ b, F b → b < W.heap.size) (hv : lnEl.Rd G W (.slice a n c) ls) (hn : n = ls.length) (hnm : n ≤ 1000) (hG : ∀ b, G b → b < W.heap.size ∧ ¬ F b) (hu : lnEl.Rd G W (.slice ua m uc) xs) (hm : m = xs.length) (hm6 : m ≤ 6) (hc : ∀ l ∈ xs, l.cells.length ≤ 1000000) (hfb : first + n ≤ 1000000)  :
    Calls Tryd.prog 51 #[.pointer (some ⟨hb, 0, none⟩), .agg #[.int .i64 most, .int .i64 first, .slice a n c], .agg #[.int .i64 3, .int .i64 num, .slice ua m uc]] W fun e w' => DoesP31 w1 W F G hb most (first + n) e w' := by
  have fa := h.facts
  have hW1 := h.see.size
  rw [← hn] at fa
  obtain ⟨f2, hf2⟩ : ∃ f2 : Int, f2 = first + n := ⟨_, rfl⟩
  have Hf2 := Lib.hid hf2
  clear hf2
  have HP := Lib.hid h
  have HV := Lib.hid hv
  have HU := Lib.hid hu
  have Hn := Lib.hid hn
  have Hm := Lib.hid hm
  have HF := Lib.hid hF
  have HG := Lib.hid hG
  have Hc := Lib.hid hc
  have Ht := Lib.hid ht
  clear h hv hu hn hm hF hG hc ht
  go_enter Tryd.func51, Tryd.ntmps51
  go_wp2_with fail
  refine calls_world (fun w2 hw2 => ?_)
  have A4 : BX31 w2 W.heap.size most first (.slice a n c) 3 num (.slice ua m uc) := by subst hw2; exact ⟨((HrAt.new rfl).alloc _).alloc _, (AcAt31.new (by simp)).alloc _, HrAt.new (by simp)⟩
  have S2 : Sees W w2 := by subst hw2; exact (((Sees.refl W).alloc _).alloc _).alloc _
  have hz2 : w2.heap.size = W.heap.size + 3 := by subst hw2; simp
  clear hw2
  refine (ref28Copy_any _ _ xs w2 (HU.out.sees S2) (by rw [← Hm.out]; omega) Hc.out).mono ?_
  rintro e w3 ⟨v3, rfl, ho, hs⟩
  obtain ⟨a3, c3, rfl, _⟩ := ho.slice
  rw [← Hm.out] at ho ⊢
  have B3 := Lib.hid (A4.sees hs)
  have S3 := Lib.hid (S2.trans hs)
  have HO := Lib.hid ho.cut
  have Hz := Lib.hid (And.intro hz2 hs.size)
  clear A4 S2 ho hs hz2
  obtain ⟨x0, x1, x2, x3, x4, x5⟩ := B3.out.c
  go_wp2_with fail
  refine ((HP.out.sees S3.out).hiClear f2 (by rw [Hf2.out, Hn.out])).mono ?_
  rintro e w4 ⟨rfl, hp, hk4⟩
  have hzz := Hz.out
  have hz4 := hk4.size
  have B4 := Lib.hid (B3.out.keeps hk4 (fun b hf => .inl (HF.out b hf)))
  have P4 := Lib.hid hp
  have K4 := Lib.hid ((Keeps.of_sees (F := F) S3.out).trans hk4)
  clear hp hk4 B3 HO S3
  clear x0 x1 x2 x3 x4 x5
  obtain ⟨x0, x1, x2, x3, x4, x5⟩ := B4.out.c
  go_wp2_with fail
  refine (refClear31 most first a n c w4 (by omega) (by omega)).mono ?_
  rintro e w5 ⟨rfl, hs5⟩
  have BX := Lib.hid (B4.out.sees hs5)
  have P6 := Lib.hid (P4.out.sees hs5)
  have K6 := Lib.hid (K4.out.trans (Keeps.of_sees hs5))
  clear hs5 B4 P4 K4
  clear x0 x1 x2 x3 x4 x5
  obtain ⟨y0, y1, y2⟩ := BX.out.2.2.c
  have fy := BX.out.2.2.fr
  obtain ⟨x0, x1, x2, x3, x4, x5⟩ := BX.out.c
  go_wp2
  have hE := BX.out.2.2.set3 most (first + (n : Int)) (.slice none 0 0)
  obtain ⟨z0, z1, z2⟩ := hE.c
  refine bodyPost_ret_by (v := .tuple #[.agg #[.int .i64 most, .int .i64 (first + (n : Int)), .slice none 0 0], .bool true]) (by simp [results, Tryd.results51, go_sem, z0, z1, z2]) rfl ?_
  rw [← Hf2.out]
  exact does31_fin P6.out (El.Rd.nil (fun _ => False) _) (fun b hb => hb.elim) K6.out (fun b hb => .inl hb) (fun b hb => hb.elim) (fun hf => by have := HF.out _ hf; omega) (fun hg => hg.elim) (by omega) hW1 (by rw [Hf2.out]; simp; omega)
set_option maxRecDepth 100000 in
set_option maxHeartbeats 4000000 in
theorem does31_none (what : Int) (ht : Tabs w1) (h : HiF w1 F W hb most first ls) (hF : ∀ b, F b → b < W.heap.size) (hv : lnEl.Rd G W (.slice a n c) ls) (hn : n = ls.length) (hnm : n ≤ 1000) (hG : ∀ b, G b → b < W.heap.size ∧ ¬ F b) (hu : lnEl.Rd G W (.slice ua m uc) xs) (hm : m = xs.length) (hm6 : m ≤ 6) (hc : ∀ l ∈ xs, l.cells.length ≤ 1000000) (hfb : first + n ≤ 1000000) (e0 : (what == 0) = false) (e1 : (what == 1) = false) (e2 : (what == 2) = false) (e3 : (what == 3) = false) :
    Calls Tryd.prog 51 #[.pointer (some ⟨hb, 0, none⟩), .agg #[.int .i64 most, .int .i64 first, .slice a n c], .agg #[.int .i64 what, .int .i64 num, .slice ua m uc]] W fun e w' => DoesP31 w1 W F G hb most (first + n) e w' := by
  have fa := h.facts
  have hW1 := h.see.size
  rw [← hn] at fa
  have HP := Lib.hid h
  have HV := Lib.hid hv
  have HU := Lib.hid hu
  have Hn := Lib.hid hn
  have Hm := Lib.hid hm
  have HF := Lib.hid hF
  have HG := Lib.hid hG
  have Hc := Lib.hid hc
  have Ht := Lib.hid ht
  clear h hv hu hn hm hF hG hc ht
  go_enter Tryd.func51, Tryd.ntmps51
  go_wp2_with fail
  refine calls_world (fun w2 hw2 => ?_)
  have A4 : BX31 w2 W.heap.size most first (.slice a n c) what num (.slice ua m uc) := by subst hw2; exact ⟨((HrAt.new rfl).alloc _).alloc _, (AcAt31.new (by simp)).alloc _, HrAt.new (by simp)⟩
  have S2 : Sees W w2 := by subst hw2; exact (((Sees.refl W).alloc _).alloc _).alloc _
  have hz2 : w2.heap.size = W.heap.size + 3 := by subst hw2; simp
  clear hw2
  refine (ref28Copy_any _ _ xs w2 (HU.out.sees S2) (by rw [← Hm.out]; omega) Hc.out).mono ?_
  rintro e w3 ⟨v3, rfl, ho, hs⟩
  obtain ⟨a3, c3, rfl, _⟩ := ho.slice
  rw [← Hm.out] at ho ⊢
  have B3 := Lib.hid (A4.sees hs)
  have S3 := Lib.hid (S2.trans hs)
  have HO := Lib.hid ho.cut
  have Hz := Lib.hid (And.intro hz2 hs.size)
  clear A4 S2 ho hs hz2
  obtain ⟨x0, x1, x2, x3, x4, x5⟩ := B3.out.c
  have BX := Lib.hid B3.out
  have P6 := Lib.hid (HP.out.sees S3.out)
  have V6 := Lib.hid (HV.out.sees S3.out)
  have K6 := Lib.hid (Keeps.of_sees (F := F) S3.out)
  have hzz := Hz.out
  clear B3
  clear x0 x1 x2 x3 x4 x5
  obtain ⟨y0, y1, y2⟩ := BX.out.2.2.c
  have fy := BX.out.2.2.fr
  obtain ⟨x0, x1, x2, x3, x4, x5⟩ := BX.out.c
  go_wp2
  have hE := BX.out.2.2.set3 most first (.slice a n c)
  obtain ⟨z0, z1, z2⟩ := hE.c
  refine bodyPost_ret_by (v := .tuple #[.agg #[.int .i64 most, .int .i64 first, .slice a n c], .bool true]) (by simp [results, Tryd.results51, go_sem, z0, z1, z2]) rfl ?_
  exact does31_fin P6.out V6.out (fun b hb => (HG.out b hb).2) K6.out (fun b hb => .inl hb) (fun b hb => .inl hb) (fun hf => by have := HF.out _ hf; omega) (fun hg => by have := (HG.out _ hg).1; omega) (by omega) hW1 (by rw [← Hn.out]; omega)
/-- Whatever the call is. -/
theorem does31_any (what : Int) (ht : Tabs w1) (h : HiF w1 F W hb most first ls) (hF : ∀ b, F b → b < W.heap.size) (hv : lnEl.Rd G W (.slice a n c) ls) (hn : n = ls.length) (hnm : n ≤ 1000) (hG : ∀ b, G b → b < W.heap.size ∧ ¬ F b) (hu : lnEl.Rd G W (.slice ua m uc) xs) (hm : m = xs.length) (hm6 : m ≤ 6) (hc : ∀ l ∈ xs, l.cells.length ≤ 1000000) (hfb : first + n ≤ 1000000) :
    Calls Tryd.prog 51 #[.pointer (some ⟨hb, 0, none⟩), .agg #[.int .i64 most, .int .i64 first, .slice a n c], .agg #[.int .i64 what, .int .i64 num, .slice ua m uc]] W fun e w' => DoesP31 w1 W F G hb most (first + n) e w' := by
  by_cases h0 : what = 0
  · subst h0
    cases hok : (xs.all fun l => lnOk l.cells)
    · exact does31_push_bad ht h hF hv hn hnm hG hu hm hm6 hc hfb hok
    · exact does31_push ht h hF hv hn hnm hG hu hm hm6 hc hfb (fun l hl => List.all_eq_true.1 hok l hl) _ rfl
  by_cases h2 : what = 2
  · subst h2
    cases hok : (xs.all fun l => lnOk l.cells)
    · exact does31_replace_bad ht h hF hv hn hnm hG hu hm hm6 hc hfb hok
    · exact does31_replace ht h hF hv hn hnm hG hu hm hm6 hc hfb (fun l hl => List.all_eq_true.1 hok l hl) _ rfl
  by_cases h1 : what = 1
  · subst h1
    by_cases hx : num < 0
    · exact does31_neg ht h hF hv hn hnm hG hu hm hm6 hc hfb hx
    · by_cases hy : (n : Int) < num
      · exact does31_range ht h hF hv hn hnm hG hu hm hm6 hc hfb (by omega) hy
      · obtain ⟨t, rfl⟩ := Int.eq_ofNat_of_zero_le (show 0 ≤ num by omega)
        exact does31_pull ht h hF hv hn hnm hG hu hm hm6 hc hfb t (by omega)
  by_cases h3 : what = 3
  · subst h3
    exact does31_clear ht h hF hv hn hnm hG hu hm hm6 hc hfb
  · exact does31_none what ht h hF hv hn hnm hG hu hm hm6 hc hfb (by simpa using h0) (by simpa using h1) (by simpa using h2) (by simpa using h3)
end
end Go.Proofs.YtpicffaghoggdaaDoor

namespace Go.Proofs.YtpicffaghoggdaaDoor
set_option linter.unusedVariables false
set_option linter.unusedSimpArgs false
open Go.RowKit

/-- The call's number is one of Go's. -/
def Act31.num31 (p : Act31) : Prop := -9223372036854775808 ≤ p.num ∧ p.num ≤ 9223372036854775807
set_option maxRecDepth 1000000 in
set_option maxHeartbeats 4000000 in
theorem historyPlays_out (m : Nat) (v : Value) (acts : List Act31) (w : World) (ht : Tabs w) (ha : act31El.Rd (fun b => b < w.heap.size) w v acts) (hm : 20 < m) :
    Calls Tryd.prog 11 #[.int .u8 m, v] w fun e w' => e = .returned (.bool true) ∧ Sees w w' := by
  have Ht := Lib.hid ht
  obtain ⟨ao, ca, rfl, _⟩ := ha.slice'
  clear ht ha
  have d1 : decide ((m : Int) > 20) = true := decide_eq_true (by omega)
  go_enter Tryd.func11, Tryd.ntmps11
  go_wp2_with fail
  refine (known31 _ Ht.out).mono ?_
  rintro e w5 ⟨rfl, hs5⟩
  go_wp2
  go_ret
  exact ⟨by simp, hs5⟩
set_option maxRecDepth 1000000 in
set_option maxHeartbeats 8000000 in
theorem historyPlays_in (m : Nat) (v : Value) (acts : List Act31) (w : World) (ht : Tabs w) (ha : act31El.Rd (fun b => b < w.heap.size) w v acts) (hfit : ∀ p ∈ acts, p.num31) (hm : m ≤ 20) :
    Calls Tryd.prog 11 #[.int .u8 m, v] w fun e w' => e = .returned (.bool true) ∧ Sees w w' := by
  have Ht := Lib.hid ht
  have Hfit := Lib.hid hfit
  obtain ⟨ao, ca, rfl, _⟩ := ha.slice'
  obtain ⟨t, ht2⟩ : ∃ t, t = acts.length := ⟨_, rfl⟩
  rw [← ht2] at ha ⊢
  have Htl := Lib.hid ht2
  have Ha := Lib.hid ha
  clear ht ha hfit ht2
  have d1 : decide ((m : Int) > 20) = false := decide_eq_false (by omega)
  have gm : IntKind.i64.wrap (m : Int) = (m : Int) := IntWalk.i64_in _ (by omega)
  go_enter Tryd.func11, Tryd.ntmps11
  go_wp2_with fail
  refine (few31_any _ _ acts w Ha.out).mono ?_
  rintro e w1 ⟨⟨b, rfl, hb⟩, hs⟩
  have Hb := Lib.hid hb
  have S1 := Lib.hid hs
  clear hb hs
  cases hcb : b
  · go_wp2_with fail
    refine (known31 _ (Ht.out.sees S1.out)).mono ?_
    rintro e w5 ⟨rfl, hs5⟩
    go_wp2
    go_ret
    exact ⟨by simp, S1.out.trans hs5⟩
  · have Hf : Hid (Few31 acts) := Lib.hid (Hb.out hcb)
    clear hcb Hb
    have ht30 : t ≤ 30 := by have := Hf.out.1; have := Htl.out; omega
    go_wp2_with fail
    refine (hnew_ok (m : Int) w1 (by omega) (by omega)).mono ?_
    rintro e w2 ⟨h0, rfl, P⟩
    have P2 := Lib.hid P.cut
    clear P
    go_wp2_with fail
    refine wp_world (fun w3 hw3 => ?_)
    have hs3 : Sees w2 w3 := by subst hw3; exact (Sees.refl w2).alloc _
    have hr3 : HrAt w3 w2.heap.size m 0 (.slice none 0 0) := by subst hw3; exact HrAt.new rfl
    have I0 : Hid (HiRef w1 w3 h0 w2.heap.size m 0 []) := Lib.hid ⟨_, fun _ => False, _, P2.out.sees hs3, hr3, El.Rd.nil _ _, fun c _ h => h, fun h => by have := h.2; omega, fun h => h, fun c h => Nat.lt_of_lt_of_le h.2 hs3.size, fun c h => h.elim, P2.out.see.size⟩
    have Ha1 := Lib.hid (Ha.out.sees S1.out)
    have Hz1 := Lib.hid S1.out.size
    clear hs3 hr3 hw3 P2 Ha
    generalize w2.heap.size = R at *
    go_loopw [5, 8] (fun hv i W => ∃ k : Nat, k ≤ t ∧ i = .int .i64 k ∧ ∃ (hb first : Nat) (ls : List Ln), hv = .pointer (some ⟨hb, 0, none⟩) ∧ first + ls.length ≤ 6 * k ∧ ls.length ≤ m ∧ HiRef w1 W hb R m first ls) (fun _ i _ => t - (intOf i).toNat)
    case atStart => exact ⟨0, by omega, rfl, h0, 0, [], rfl, by simp, Nat.zero_le _, I0.out⟩
    case round =>
      obtain ⟨k, hk, rfl, hb, first, ls, rfl, hfk, hlm, hI⟩ := hrel
      have HI := Lib.hid hI
      clear hI I0
      by_cases hlt : k < t
      · obtain ⟨b1, o1, ac, au, um, rfl, hb1, hac, hum, ⟨y0, y1, y2⟩, hxs⟩ := (Ha1.out.sees HI.out.see).act31 hlt
        have hb1 : b1 < w.heap.size := hb1
        have hmem := List.mem_iff_getElem?.2 ⟨_, hac⟩
        have hf6 := (Hf.out.2 ac hmem).1
        have Hc8 : Hid (∀ l ∈ ac.ls, l.cells.length ≤ 1000000) := Lib.hid (fun l hl => by have := (Hf.out.2 ac hmem).2 l hl; omega)
        have hnum := Hfit.out ac hmem
        unfold Act31.num31 at hnum
        have Hxs := Lib.hid hxs
        clear hac hmem hxs
        obtain ⟨what, num, xs⟩ := ac
        simp only [] at *
        obtain ⟨un, hun⟩ : ∃ un, un = xs.length := ⟨_, rfl⟩
        rw [← hun] at y2 hf6 hum Hxs
        have Hun := Lib.hid hun
        clear hun
        by_cases hcopy : what < 0 ∨ 4 < what
        · have hcop : Hid (what < 0 ∨ 4 < what) := Lib.hid hcopy
          obtain ⟨F, G, v0, h1, h2, h3, h4, h5, h6, h7, h8, h9⟩ := HI.out
          have HP := Lib.hid h1
          have HR := Lib.hid h2
          have HL := Lib.hid h3
          have HF := Lib.hid (And.intro h4 (And.intro h5 (And.intro h6 (And.intro h7 (And.intro h8 h9)))))
          have Y1 := Lib.hid y1
          clear h1 h2 h3 h4 h5 h6 h7 h8 h9
          have hways : (decide (what < 0) = true) ∨ (decide (what < 0) = false ∧ decide (what > 4) = true) := by
            by_cases h : what < 0
            · exact .inl (decide_eq_true h)
            · exact .inr ⟨decide_eq_false h, decide_eq_true (by omega)⟩
          clear hcopy
          rcases hways with e1 | ⟨e1, e2⟩
          all_goals
            go_wp2_with fail
            refine (HP.out.hiCopy).mono ?_
            rintro e W2 ⟨q, rfl, hq, hs2⟩
            have HQ2 := Lib.hid hq.cut
            have HP2 := Lib.hid (HP.out.sees hs2)
            have HR2 := Lib.hid (HR.out.sees hs2)
            have HL2 := Lib.hid (HL.out.sees hs2)
            have Y12 := Lib.hid (hs2.cell Y1.out)
            have hz2 := hs2.size
            have HSw := Lib.hid (HP.out.see.trans hs2)
            clear hq hs2 y0 y1 y2
            go_wp2_with fail
            refine (row31_any 120 _).mono ?_
            rintro e W3 ⟨v3, rfl, ho3, hs3⟩
            obtain ⟨a3, c3, rfl⟩ := ho3.slice
            rw [show [one 120].length = 1 from rfl] at ho3 ⊢
            have HO3 := Lib.hid ho3
            have S3 := Lib.hid hs3
            clear ho3 hs3
            go_wp2_with fail
            refine calls_world (fun X hX => ?_)
            have hsx : Sees W3 X := by subst hX; exact (Sees.refl W3).alloc _
            have hrow : X.heap[W3.heap.size]? = some (.cells #[.slice a3 1 c3, .bool false] 40 (0, 0)) := by subst hX; exact heap_alloc_new _ _
            clear hX
            have hz3 := S3.out.size
            have hown : ∀ c, Value.ownBlock (.slice a3 1 c3) = some c → W2.heap.size ≤ c ∧ c < W3.heap.size := fun c hc => El.rowLt HO3.out hc
            have hR1 := lnrd_row (F := fun c => W2.heap.size ≤ c) (cap := 1) [(.slice a3 1 c3, (⟨[one 120], false⟩ : Ln))] hrow hz3 (Nat.le_refl 1) (by
              intro y hy
              simp only [List.mem_cons, List.not_mem_nil, or_false] at hy
              subst hy
              exact (OwnCells.sees HO3.out hsx).el.rd.mono (fun b _ h => h.2))
            have hSX := S3.out.trans hsx
            refine ((HP2.out.sees hSX).push (Ht.out.sees S1.out) _ [⟨[one 120], false⟩] hR1 (fun c hc hF => by have := HF.out.2.2.2.1 c hF; omega) (by intro y hy; simp only [List.mem_cons, List.not_mem_nil, or_false] at hy; subst hy; exact abc31_ok 120 (by decide)) (by simp; omega) _ rfl).mono ?_
            rintro e W4 ⟨rfl, hp4, hk4⟩
            have HK4 := Lib.hid ((Keeps.of_sees (F := F) hSX).trans hk4)
            have HP4 := Lib.hid hp4.cut
            have hz4 : X.heap.size ≤ W4.heap.size := hk4.size
            have hz5 : W2.heap.size ≤ X.heap.size := hSX.size
            clear hp4 hk4 hrow hown hR1 hsx hSX HO3 S3 HP2
            go_wp2_with fail
            refine (HP4.out.hiClear _ rfl).mono ?_
            rintro e W5 ⟨rfl, -, hk5⟩
            have HK5 := Lib.hid (HK4.out.trans' (G := fun c => (F c ∨ X.heap.size ≤ c) ∧ c < W4.heap.size) hk5 (fun b hb e => by rcases e.1 with e | e; exact e; omega))
            have HI2 : Hid (HiRef w1 W5 q R m first ls) := Lib.hid (by
              obtain ⟨k4, k5, k6, k7, k8, k9⟩ := HF.out
              refine ⟨_, fun c => G c ∧ c < wr.heap.size, v0, (HQ2.out.rebase HP.out.see).keeps HK5.out (fun c hc hF => by have := k7 c hF; have e : wr.heap.size ≤ c := hc.1; omega) (fun c hF => HP.out.low c hF), HR2.out.keeps HK5.out k5, (HL2.out.mono (fun c _ h => ⟨h, k8 c h⟩)).keeps HK5.out (fun c hc hF => k4 c hF hc.1), fun c hc hG => by have e : wr.heap.size ≤ c := hc.1; have := hG.2; omega, fun h => by have e : wr.heap.size ≤ R := h.1; have := HR.out.lt; omega, fun h => k6 h.1, fun c hc => by have := hc.2; have := HK5.out.size; omega, fun c hc => by have := hc.2; have := HK5.out.size; omega, k9⟩)
            have Y1 := Lib.hid (HK5.out.cell (a := ⟨b1, o1 + k * 3 + 1, none⟩) (fun hF => by have := HP.out.low b1 hF; have := Hz1.out; omega) Y12.out)
            clear hk5 HK4 HP4 HK5 HQ2 HR2 HL2 Y12 HP HR HL HF
            obtain ⟨f2, hf2e⟩ : ∃ f2, f2 = first := ⟨_, rfl⟩
            obtain ⟨L2, hl2e⟩ : ∃ L2, L2 = ls := ⟨_, rfl⟩
            rw [← hf2e, ← hl2e] at HI2
            have hf2 : f2 + L2.length ≤ 6 * (k + 1) := by rw [hf2e, hl2e]; omega
            have hl2 : L2.length ≤ 1000 := by rw [hl2e]; omega
            have HM2 : Hid (L2.length ≤ m) := Lib.hid (by rw [hl2e]; exact hlm)
            clear hf2e hl2e
            go_wp2_with fail
            have HL2 := Lib.hid hl2
            clear hl2
            obtain ⟨F2, G2, v2, p1, p2, p3, p4, p5, p6, p7, p8, p9⟩ := HI2.out
            obtain ⟨a2, c2, rfl, _⟩ := p3.slice'
            obtain ⟨n2, hn2⟩ : ∃ n2, n2 = L2.length := ⟨_, rfl⟩
            rw [← hn2] at p2 p3
            have hn2b : n2 ≤ 1000 := by rw [hn2]; exact HL2.out
            have Hn2 := Lib.hid hn2
            have HP3 := Lib.hid p1
            have HR3 := Lib.hid p2
            have HL3 := Lib.hid p3
            clear p1 p2 p3 p4 p5 p6 p7 p8 p9 hn2
            go_wp2_with fail
            refine wpFrom_go (by kernel_rfl) (by kernel_rfl) (fun hB W6 hs6 => ?_)
            have HI2 := Lib.hid (HI2.out.sees hs6)
            have HP3 := Lib.hid (HP3.out.sees hs6)
            have HR3 := Lib.hid (HR3.out.sees hs6)
            have HL3 := Lib.hid (HL3.out.sees hs6)
            have Y1 := Lib.hid (hs6.cell Y1.out)
            clear hs6
            have hval : ∀ x v, (Spec.is x).val v = x := fun _ _ => rfl
            have hval2 : ∀ V v, (Spec.so V).val v = v := fun _ _ => rfl
            have hst : segStay (Sees W6) [.is (.pointer (some ⟨q, 0, none⟩)),
                  .is (.agg #[.int .i64 m, .int .i64 f2, .slice a2 n2 c2]),
                  .is (.slice (some ⟨b1, o1, none⟩) t ca),
                  .is (.int .i64 k),
                  .is (.pointer (some ⟨b1, o1 + k * 3, none⟩)),
                  .is (.pointer (some ⟨b1, o1 + k * 3 + 1, none⟩)),
                  .is (.int .i64 num),
                  .is (.bool true),
                  .is (.bool false)] :=
                trivial
            refine wpFrom_any 9 _ hB (by kernel_rfl) rfl hst (by simp only [List.cons_append, List.nil_append, List.drop_succ_cons, List.drop_zero, List.take_succ_cons, List.take_zero, Nat.reduceSub]; rfl) ?_
            refine ⟨fun vs W hI hV => .inl ⟨by clear hI hV hst; go_simp, .inl (by clear hI hV hst; (try simp only [Act.put, hval, hval2, List.setIfInBounds_toArray, List.set_cons_zero, List.set_cons_succ]); go_simp)⟩, ?_⟩
            refine ⟨fun vs W hI hV => .inl ⟨by clear hI hV hst; go_simp, .inl (by have q := (HR3.out.sees hI).c; obtain ⟨q0, q1, q2⟩ := q; clear hI hV hst; (try simp only [Act.put, hval, hval2, List.setIfInBounds_toArray, List.set_cons_zero, List.set_cons_succ]); go_simp)⟩, ?_⟩
            refine ⟨fun vs W hI hV => .inl ⟨by clear hI hV hst; go_simp, .inl (by clear hI hV hst; (try simp only [Act.put, hval, hval2, List.setIfInBounds_toArray, List.set_cons_zero, List.set_cons_succ]); go_simp)⟩, ?_⟩
            refine ⟨fun vs W hI hV => .inl ⟨by clear hI hV hst; go_simp, .inl (by clear hI hV hst; (try simp only [Act.put, hval, hval2, List.setIfInBounds_toArray, List.set_cons_zero, List.set_cons_succ]); go_simp)⟩, ?_⟩
            refine ⟨fun vs W hI hV => .inl ⟨by clear hI hV hst; go_simp, .inl (by clear hI hV hst; (try simp only [Act.put, hval, hval2, List.setIfInBounds_toArray, List.set_cons_zero, List.set_cons_succ]); go_simp)⟩, ?_⟩
            refine ⟨fun vs W hI hV => .inl ⟨by clear hI hV hst; go_simp, .inl (by clear hI hV hst; (try simp only [Act.put, hval, hval2, List.setIfInBounds_toArray, List.set_cons_zero, List.set_cons_succ]); go_simp)⟩, ?_⟩
            refine ⟨fun vs W hI hV => .inl ⟨by clear hI hV hst; go_simp, .inl (by have q := hI.cell Y1.out; clear hI hV hst; (try simp only [Act.put, hval, hval2, List.setIfInBounds_toArray, List.set_cons_zero, List.set_cons_succ]); go_simp)⟩, ?_⟩
            refine ⟨fun vs W hI hV => .inl ⟨by clear hI hV hst; (try simp only [Act.put, hval, hval2, List.setIfInBounds_toArray, List.set_cons_zero, List.set_cons_succ]); go_simp, .inr (.inr ⟨36, #[.pointer (some ⟨q, 0, none⟩), .agg #[.int .i64 m, .int .i64 f2, .slice a2 n2 c2], .int .i64 num], by clear hI hV hst; (try simp only [Act.put, hval, hval2, List.setIfInBounds_toArray, List.set_cons_zero, List.set_cons_succ]); go_simp, looks31_any (HP3.out.sees hI) _ (HL3.out.sees hI) num hnum (by rw [← Hn2.out]; omega)⟩)⟩, ?_⟩
            refine ⟨fun vs W hI hV => .inl ⟨by clear hI hV hst; go_simp, .inl (by clear hI hV hst; (try simp only [Act.put, hval, hval2, List.setIfInBounds_toArray, List.set_cons_zero, List.set_cons_succ]); go_simp)⟩, ?_⟩
            intro vs W7 hI hV
            have HI3 := Lib.hid (HI2.out.sees hI)
            clear hI hV hst HI2 HP3 HR3 HL3
            (try simp only [Act.put, hval, hval2, List.setIfInBounds_toArray, List.set_cons_zero, List.set_cons_succ])
            go_simp
            refine wpFrom_end rfl ?_
            clear hB
            go_wp2_with fail
            go_roundw
            case rel => exact ⟨k + 1, by omega, by go_num, q, f2, L2, rfl, hf2, HM2.out, HI3.out⟩
            case measure => simp [intOf] <;> omega
        · have e1 : decide (what < 0) = false := decide_eq_false (by omega)
          have e2 : decide (what > 4) = false := decide_eq_false (by omega)
          clear hcopy
          go_wp2_with fail
          have Y0 := Lib.hid y0
          have Y1 := Lib.hid y1
          have Y2 := Lib.hid y2
          clear y0 y1 y2
          have HI0 := HI
          obtain ⟨F, G, v0, h1, h2, h3, h4, h5, h6, h7, h8, h9⟩ := HI.out
          obtain ⟨av, cv, rfl, _⟩ := h3.slice'
          obtain ⟨n, hn⟩ : ∃ n, n = ls.length := ⟨_, rfl⟩
          rw [← hn] at h2 h3
          have hnb : n ≤ 20 := by rw [hn]; omega
          have hfn : first + n ≤ 6 * k := by rw [hn]; exact hfk
          have Hn := Lib.hid hn
          have hb1F : ¬ F b1 := fun hF => by have := h1.low _ hF; have := Hz1.out; omega
          refine wpH_go F 13 (by kernel_rfl) (by kernel_rfl) (by rfl) (fun hB w10 hs10 => ?_)
          have EP := Lib.hid (h1.sees hs10)
          have ER := Lib.hid (h2.sees hs10)
          have EL := Lib.hid (h3.sees hs10)
          have EX := Lib.hid (Hxs.out.sees hs10)
          have Y0 := Lib.hid (hs10.cell Y0.out)
          have Y1 := Lib.hid (hs10.cell Y1.out)
          have Y2 := Lib.hid (hs10.cell Y2.out)
          have hz10 := hs10.size
          have hRw : R < wr.heap.size := h2.lt
          have hlow : ∀ c, F c → w1.heap.size ≤ c := h1.low
          have hww : w1.heap.size ≤ wr.heap.size := h1.see.size
          have hz1 := Hz1.out
          have HF := Lib.hid (And.intro h4 (And.intro h5 (And.intro h6 (And.intro h7 (And.intro h8 h9)))))
          have HB1 := Lib.hid (And.intro hb1F hlow)
          clear h1 h2 h3 h4 h5 h6 h7 h8 h9 hs10 hn hb1F hlow HI HI0 Hxs
          have hS0 : Keeps F w10 w10 := Keeps.refl _ w10
          refine wpH_take (i := 0) (v := .pointer (some ⟨hb, 0, none⟩)) hB (by rfl) (by kernel_rfl) (fun _ _ _ _ _ h => h) (by rfl) hS0 (fun W hI => by clear hI; go_simp) ?_; (try simp only [Act.put, List.setIfInBounds_toArray, List.set_cons_zero, List.set_cons_succ])
          refine wpH_take (i := 1) (v := .agg #[.int .i64 m, .int .i64 first, .slice av n cv]) hB (by rfl) (by kernel_rfl) (fun _ _ _ _ _ h => h) (by rfl) hS0 (fun W hI => by have q := (ER.out.keeps hI HF.out.2.1).c; obtain ⟨q0, q1, q2⟩ := q; go_simp) ?_; (try simp only [Act.put, List.setIfInBounds_toArray, List.set_cons_zero, List.set_cons_succ])
          refine wpH_take (i := 2) (v := .slice (some ⟨b1, o1, none⟩) t ca) hB (by rfl) (by kernel_rfl) (fun _ _ _ _ _ h => h) (by rfl) hS0 (fun W hI => by clear hI; go_simp) ?_; (try simp only [Act.put, List.setIfInBounds_toArray, List.set_cons_zero, List.set_cons_succ])
          refine wpH_take (i := 3) (v := .int .i64 k) hB (by rfl) (by kernel_rfl) (fun _ _ _ _ _ h => h) (by rfl) hS0 (fun W hI => by clear hI; go_simp) ?_; (try simp only [Act.put, List.setIfInBounds_toArray, List.set_cons_zero, List.set_cons_succ])
          refine wpH_take (i := 4) (v := .pointer (some ⟨b1, o1 + k * 3, none⟩)) hB (by rfl) (by kernel_rfl) (fun _ _ _ _ _ h => h) (by rfl) hS0 (fun W hI => by clear hI; go_simp) ?_; (try simp only [Act.put, List.setIfInBounds_toArray, List.set_cons_zero, List.set_cons_succ])
          refine wpH_take (i := 5) (v := .agg #[.int .i64 what, .int .i64 num, .slice au un um]) hB (by rfl) (by kernel_rfl) (fun _ _ _ _ _ h => h) (by rfl) hS0 (fun W hI => by have q0 := hI.cell HB1.out.1 Y0.out; have q1 := hI.cell HB1.out.1 Y1.out; have q2 := hI.cell HB1.out.1 Y2.out; clear hI; go_simp) ?_; (try simp only [Act.put, List.setIfInBounds_toArray, List.set_cons_zero, List.set_cons_succ])
          refine wpH_two (i := 6) (j := 10) (by kernel_rfl) ?_ ?_
          · have w10_sz : wr.heap.size ≤ w10.heap.size := hz10
            refine wpOp_enter (fn := 51) (args := #[.pointer (some ⟨hb, 0, none⟩), .agg #[.int .i64 m, .int .i64 first, .slice av n cv], .agg #[.int .i64 what, .int .i64 num, .slice au un um]]) (by rfl) (by rfl) (by go_simp) ((does31_any (G := fun b => G b ∨ b < w.heap.size) what (Ht.out.sees S1.out) EP.out (fun b hb => by have := HF.out.2.2.2.1 b hb; have := w10_sz; omega) (EL.out.mono (fun _ _ h => .inl h)) Hn.out (by omega) (fun b hb => ⟨by have := w10_sz; rcases hb with h | h; (have := HF.out.2.2.2.2.1 b h; omega); omega, fun hf => by rcases hb with h | h; exact HF.out.1 b hf h; have := HB1.out.2 b hf; omega⟩) (EX.out.mono (fun _ _ h => .inr h)) Hun.out hf6 Hc8.out (by omega)).mono ?_)
            rintro e W1 ⟨f3, L2, v2, F2, G2, rfl, p1, p2, p3, p4, p5, p6, p7⟩
            obtain ⟨a2, c2, rfl, _⟩ := p2.slice'
            obtain ⟨n2, hn2⟩ : ∃ n2, n2 = L2.length := ⟨_, rfl⟩
            rw [← hn2] at p2 p7 ⊢
            have Hn2 := Lib.hid hn2
            have fa2 := p1.facts
            rw [← hn2] at fa2
            obtain ⟨f2, rfl⟩ : ∃ f2 : Nat, f3 = f2 := ⟨f3.toNat, by omega⟩
            have hz1' := p4.size
            clear hn2
            have HRF : Hid (¬ F2 R) := Lib.hid (fun h => by rcases p5 R h with h | h; exact HF.out.2.1 h; have := w10_sz; omega)
            have HRG : Hid (¬ G2 R) := Lib.hid (fun h => by rcases p6 R h with h | h; (rcases h with h | h; exact HF.out.2.2.1 h; have := HF.out.2.2.2.2.2; omega); have := w10_sz; omega)
            have HFG := Lib.hid p3
            refine ⟨_, rfl, p4, ?_⟩
            have P1 := Lib.hid p1
            have ER1 := Lib.hid (ER.out.keeps p4 HF.out.2.1)
            have L1 := Lib.hid p2
            clear hS0
            have hS0 := p4
            clear p1 p2 p3 p5 p6 p4
            (try simp only [Act.put, List.setIfInBounds_toArray, List.set_cons_zero, List.set_cons_succ])
            refine wpH_take (i := 7) (v := .tuple #[.agg #[.int .i64 m, .int .i64 f2, .slice a2 n2 c2], .bool true]) hB (by rfl) (by kernel_rfl) (fun _ _ _ _ _ h => h) (by rfl) hS0 (fun W hI => by clear hI; go_simp) ?_; (try simp only [Act.put, List.setIfInBounds_toArray, List.set_cons_zero, List.set_cons_succ])
            refine wpH_take (i := 8) (v := .agg #[.int .i64 m, .int .i64 f2, .slice a2 n2 c2]) hB (by rfl) (by kernel_rfl) (fun _ _ _ _ _ h => h) (by rfl) hS0 (fun W hI => by clear hI; go_simp) ?_; (try simp only [Act.put, List.setIfInBounds_toArray, List.set_cons_zero, List.set_cons_succ])
            refine wpH_take (i := 9) (v := .bool true) hB (by rfl) (by kernel_rfl) (fun _ _ _ _ _ h => h) (by rfl) hS0 (fun W hI => by clear hI; go_simp) ?_; (try simp only [Act.put, List.setIfInBounds_toArray, List.set_cons_zero, List.set_cons_succ])
            have HBF : Hid (¬ (F2 W1.heap.size ∧ W1.heap.size < W1.heap.size)) := Lib.hid (fun h => Nat.lt_irrefl _ h.2)
            have HBG : Hid (¬ (G2 W1.heap.size ∧ W1.heap.size < W1.heap.size)) := Lib.hid (fun h => Nat.lt_irrefl _ h.2)
            have hsA : Sees W1 (W1.alloc (.cells #[.int .i64 0, .int .i64 0, .slice none 0 0] 60)) := (Sees.refl W1).alloc _
            have hKA := hS0.trans (Keeps.of_sees (F := F) hsA)
            refine wpH_one (i := 10) (by kernel_rfl) (wpOp_val (v := .pointer (some ⟨W1.heap.size, 0, none⟩)) (w' := W1.alloc (.cells #[.int .i64 0, .int .i64 0, .slice none 0 0] 60)) (by rfl) (wanted_none (by rfl) _) (by go_simp) ⟨hKA, ?_⟩)
            (try simp only [Act.put, List.setIfInBounds_toArray, List.set_cons_zero, List.set_cons_succ])
            have EZ := Lib.hid (HrAt.new (W := W1) (p := 0) (g := 0) (v := .slice none 0 0) rfl)
            have P1 := Lib.hid (P1.out.cut.sees hsA)
            have ER1 := Lib.hid (ER1.out.sees hsA)
            have L1 := Lib.hid ((L1.out.mono (G := fun c => G2 c ∧ c < W1.heap.size) (fun c hc h => ⟨h, hc⟩)).sees hsA)
            have hszA : (W1.alloc (.cells #[.int .i64 0, .int .i64 0, .slice none 0 0] 60)).heap.size = W1.heap.size + 1 := by simp
            obtain ⟨F3, hF3⟩ : ∃ F3 : Nat → Prop, F3 = fun c => F2 c ∧ c < W1.heap.size := ⟨_, rfl⟩
            obtain ⟨G3, hG3⟩ : ∃ G3 : Nat → Prop, G3 = fun c => G2 c ∧ c < W1.heap.size := ⟨_, rfl⟩
            have HRF : Hid (¬ F3 R) := Lib.hid (by subst hF3; exact fun h => HRF.out h.1)
            have HRG : Hid (¬ G3 R) := Lib.hid (by subst hG3; exact fun h => HRG.out h.1)
            have HFG : Hid (∀ b, G3 b → ¬ F3 b) := Lib.hid (by subst hF3 hG3; exact fun b hg hf => HFG.out b hg.1 hf.1)
            have HBF : Hid (¬ F3 W1.heap.size) := Lib.hid (by subst hF3; exact HBF.out)
            have HBG : Hid (¬ G3 W1.heap.size) := Lib.hid (by subst hG3; exact HBG.out)
            rw [← hF3] at P1
            rw [← hG3] at L1
            clear hF3 hG3
            clear hS0
            have hS0 := hKA
            clear hKA hsA
            obtain ⟨W9, hw9⟩ : ∃ w9, w9 = (W1.alloc (.cells #[.int .i64 0, .int .i64 0, .slice none 0 0] 60)).setRow (W1.heap.size) #[.int .i64 m, .int .i64 f2, .slice a2 n2 c2] := ⟨_, rfl⟩
            have Hst := Lib.hid (show (Instr.storeAt 60 (.pointer (some ⟨W1.heap.size, 0, none⟩)) (.agg #[.int .i64 m, .int .i64 f2, .slice a2 n2 c2])).run Tryd.prog (W1.alloc (.cells #[.int .i64 0, .int .i64 0, .slice none 0 0] 60)) = .ok () W9 by rw [hw9]; exact run_storeAt_row (P := Tryd.prog) (W := W1.alloc (.cells #[.int .i64 0, .int .i64 0, .slice none 0 0] 60)) 60 (W1.heap.size) _ 60 [.int .i64 m, .int .i64 f2, .slice a2 n2 c2] (fun _ => by kernel_rfl) EZ.out rfl (by intro v hv; simp only [List.mem_cons, List.not_mem_nil, or_false] at hv; rcases hv with rfl | rfl | rfl <;> rfl))
            have Hk9 := Lib.hid (show Keeps (fun b => b = W1.heap.size) (W1.alloc (.cells #[.int .i64 0, .int .i64 0, .slice none 0 0] 60)) W9 by rw [hw9]; exact ⟨rfl, rfl, rfl, by simp [World.setRow], fun b hb hne => setRow_other (W1.alloc (.cells #[.int .i64 0, .int .i64 0, .slice none 0 0] 60)) _ b _ (fun e => hne e)⟩)
            have D9 := Lib.hid (show HrAt W9 (W1.heap.size) m f2 (.slice a2 n2 c2) by rw [hw9]; exact setRow_heap _ _ _ _ _ (0, 0) EZ.out)
            have hKF : Keeps F w10 W9 := hS0.trans' Hk9.out (fun b hb e => by have e : b = W1.heap.size := e; omega)
            have P9 := Lib.hid (P1.out.keeps Hk9.out (fun b hb e => by have e : b = W1.heap.size := e; exact HBF.out (e ▸ hb)) (fun b e => by have e : b = W1.heap.size := e; omega))
            have R9 := Lib.hid (ER1.out.keeps Hk9.out (fun e => by have e : R = W1.heap.size := e; omega))
            have L9 := Lib.hid (L1.out.keeps Hk9.out (fun b hb e => by have e : b = W1.heap.size := e; exact HBG.out (e ▸ hb)))
            have Y1 := Lib.hid (hKF.cell HB1.out.1 Y1.out)
            clear hw9 P1 ER1 L1
            refine wpH_one (i := 11) (by kernel_rfl) (wpOp_skip (w' := W9) (by rfl) (wanted_none (by rfl) _) (exec_store (a := .pointer (some ⟨W1.heap.size, 0, none⟩)) (v := .agg #[.int .i64 m, .int .i64 f2, .slice a2 n2 c2]) rfl (by go_simp) (by go_simp) Hst.out) ⟨hKF, ?_⟩)
            (try simp only [Act.put, List.setIfInBounds_toArray, List.set_cons_zero, List.set_cons_succ])
            clear hS0
            have hS0 := hKF
            refine wpH_take (i := 12) (v := .bool true) hB (by rfl) (by kernel_rfl) (fun _ _ _ _ _ h => h) (by rfl) hS0 (fun W hI => by clear hI; go_simp) ?_; (try simp only [Act.put, List.setIfInBounds_toArray, List.set_cons_zero, List.set_cons_succ])
            refine wpH_end (by kernel_rfl) ?_
            obtain ⟨y0, y1, y2⟩ := R9.out.c
            have fy := R9.out.fr
            obtain ⟨z0, z1, z2⟩ := D9.out.c
            clear hB hKF hS0 Hst Hk9
            go_wp2_with fail
            refine wp_world (fun W5 hW5 => ?_)
            have hk5 : Keeps (fun b => b = R) W9 W5 := by
              subst hW5
              exact (((Keeps.refl (fun b => b = R) W9).setCell (p := ⟨R, 0, none⟩) (fun _ => rfl) _).setCell (p := ⟨R, 1, none⟩) (fun _ => rfl) _).setCell (p := ⟨R, 2, none⟩) (fun _ => rfl) _
            have hr5 : HrAt W5 R m f2 (.slice a2 n2 c2) := by subst hW5; exact R9.out.set3 _ _ _
            have hz5 := hk5.size
            have HI2 : Hid (HiRef w1 W5 hb R m f2 L2) := Lib.hid ⟨fun c => F3 c ∧ c < W9.heap.size, fun c => G3 c ∧ c < W9.heap.size, _, P9.out.cut.keeps hk5 (fun c hc e => by have e : c = R := e; exact HRF.out (e ▸ hc.1)) (fun c e => by have e : c = R := e; have := HF.out.2.2.2.2.2; omega), hr5, (L9.out.mono (fun c hc h => ⟨h, hc⟩)).keeps hk5 (fun c hc e => by have e : c = R := e; exact HRG.out (e ▸ hc.1)), fun c hc hG => HFG.out c hG.1 hc.1, fun h => HRF.out h.1, fun h => HRG.out h.1, fun c hc => by have := hc.2; omega, fun c hc => by have := hc.2; omega, HF.out.2.2.2.2.2⟩
            have Y1 := Lib.hid (hk5.cell (a := ⟨b1, o1 + k * 3 + 1, none⟩) (fun e => by have e : b1 = R := e; have := HF.out.2.2.2.2.2; omega) Y1.out)
            have hf2 : f2 + L2.length ≤ 6 * (k + 1) := by rw [← Hn2.out]; omega
            have HM2 : Hid (L2.length ≤ m) := Lib.hid (by rw [← Hn2.out]; omega)
            have hl2 : L2.length ≤ 1000 := by rw [← Hn2.out]; omega
            clear y0 y1 y2 fy z0 z1 z2 hW5 hk5 hr5 P9 R9 L9 D9 Hn2 p7 fa2
            have HL2 := Lib.hid hl2
            clear hl2
            obtain ⟨F2, G2, v2, p1, p2, p3, p4, p5, p6, p7, p8, p9⟩ := HI2.out
            obtain ⟨a2, c2, rfl, _⟩ := p3.slice'
            obtain ⟨n2, hn2⟩ : ∃ n2, n2 = L2.length := ⟨_, rfl⟩
            rw [← hn2] at p2 p3
            have hn2b : n2 ≤ 1000 := by rw [hn2]; exact HL2.out
            have Hn2 := Lib.hid hn2
            have HP3 := Lib.hid p1
            have HR3 := Lib.hid p2
            have HL3 := Lib.hid p3
            clear p1 p2 p3 p4 p5 p6 p7 p8 p9 hn2
            refine wpFrom_go (by kernel_rfl) (by kernel_rfl) (fun hB W6 hs6 => ?_)
            have HI2 := Lib.hid (HI2.out.sees hs6)
            have HP3 := Lib.hid (HP3.out.sees hs6)
            have HR3 := Lib.hid (HR3.out.sees hs6)
            have HL3 := Lib.hid (HL3.out.sees hs6)
            have Y1 := Lib.hid (hs6.cell Y1.out)
            clear hs6
            have hval : ∀ x v, (Spec.is x).val v = x := fun _ _ => rfl
            have hval2 : ∀ V v, (Spec.so V).val v = v := fun _ _ => rfl
            have hst : segStay (Sees W6) [.is (.pointer (some ⟨hb, 0, none⟩)),
                  .is (.agg #[.int .i64 m, .int .i64 f2, .slice a2 n2 c2]),
                  .is (.slice (some ⟨b1, o1, none⟩) t ca),
                  .is (.int .i64 k),
                  .is (.pointer (some ⟨b1, o1 + k * 3, none⟩)),
                  .is (.pointer (some ⟨b1, o1 + k * 3 + 1, none⟩)),
                  .is (.int .i64 num),
                  .is (.bool true),
                  .is (.bool false)] :=
                trivial
            refine wpFrom_any 9 _ hB (by kernel_rfl) rfl hst (by simp only [List.cons_append, List.nil_append, List.drop_succ_cons, List.drop_zero, List.take_succ_cons, List.take_zero, Nat.reduceSub]; rfl) ?_
            refine ⟨fun vs W hI hV => .inl ⟨by clear hI hV hst; go_simp, .inl (by clear hI hV hst; (try simp only [Act.put, hval, hval2, List.setIfInBounds_toArray, List.set_cons_zero, List.set_cons_succ]); go_simp)⟩, ?_⟩
            refine ⟨fun vs W hI hV => .inl ⟨by clear hI hV hst; go_simp, .inl (by have q := (HR3.out.sees hI).c; obtain ⟨q0, q1, q2⟩ := q; clear hI hV hst; (try simp only [Act.put, hval, hval2, List.setIfInBounds_toArray, List.set_cons_zero, List.set_cons_succ]); go_simp)⟩, ?_⟩
            refine ⟨fun vs W hI hV => .inl ⟨by clear hI hV hst; go_simp, .inl (by clear hI hV hst; (try simp only [Act.put, hval, hval2, List.setIfInBounds_toArray, List.set_cons_zero, List.set_cons_succ]); go_simp)⟩, ?_⟩
            refine ⟨fun vs W hI hV => .inl ⟨by clear hI hV hst; go_simp, .inl (by clear hI hV hst; (try simp only [Act.put, hval, hval2, List.setIfInBounds_toArray, List.set_cons_zero, List.set_cons_succ]); go_simp)⟩, ?_⟩
            refine ⟨fun vs W hI hV => .inl ⟨by clear hI hV hst; go_simp, .inl (by clear hI hV hst; (try simp only [Act.put, hval, hval2, List.setIfInBounds_toArray, List.set_cons_zero, List.set_cons_succ]); go_simp)⟩, ?_⟩
            refine ⟨fun vs W hI hV => .inl ⟨by clear hI hV hst; go_simp, .inl (by clear hI hV hst; (try simp only [Act.put, hval, hval2, List.setIfInBounds_toArray, List.set_cons_zero, List.set_cons_succ]); go_simp)⟩, ?_⟩
            refine ⟨fun vs W hI hV => .inl ⟨by clear hI hV hst; go_simp, .inl (by have q := hI.cell Y1.out; clear hI hV hst; (try simp only [Act.put, hval, hval2, List.setIfInBounds_toArray, List.set_cons_zero, List.set_cons_succ]); go_simp)⟩, ?_⟩
            refine ⟨fun vs W hI hV => .inl ⟨by clear hI hV hst; (try simp only [Act.put, hval, hval2, List.setIfInBounds_toArray, List.set_cons_zero, List.set_cons_succ]); go_simp, .inr (.inr ⟨36, #[.pointer (some ⟨hb, 0, none⟩), .agg #[.int .i64 m, .int .i64 f2, .slice a2 n2 c2], .int .i64 num], by clear hI hV hst; (try simp only [Act.put, hval, hval2, List.setIfInBounds_toArray, List.set_cons_zero, List.set_cons_succ]); go_simp, looks31_any (HP3.out.sees hI) _ (HL3.out.sees hI) num hnum (by rw [← Hn2.out]; omega)⟩)⟩, ?_⟩
            refine ⟨fun vs W hI hV => .inl ⟨by clear hI hV hst; go_simp, .inl (by clear hI hV hst; (try simp only [Act.put, hval, hval2, List.setIfInBounds_toArray, List.set_cons_zero, List.set_cons_succ]); go_simp)⟩, ?_⟩
            intro vs W7 hI hV
            have HI3 := Lib.hid (HI2.out.sees hI)
            clear hI hV hst HI2 HP3 HR3 HL3
            (try simp only [Act.put, hval, hval2, List.setIfInBounds_toArray, List.set_cons_zero, List.set_cons_succ])
            go_simp
            refine wpFrom_end rfl ?_
            clear hB
            go_wp2_with fail
            go_roundw
            case rel => exact ⟨k + 1, by omega, by go_num, hb, f2, L2, rfl, hf2, HM2.out, HI3.out⟩
            case measure => simp [intOf] <;> omega
          · skip
            have hsA : Sees w10 (w10.alloc (.cells #[.int .i64 0, .int .i64 0, .slice none 0 0] 60)) := (Sees.refl w10).alloc _
            have hKA := hS0.trans (Keeps.of_sees (F := F) hsA)
            refine wpOp_val (v := .pointer (some ⟨w10.heap.size, 0, none⟩)) (w' := w10.alloc (.cells #[.int .i64 0, .int .i64 0, .slice none 0 0] 60)) (by rfl) (wanted_none (by rfl) _) (by go_simp) ⟨hKA, ?_⟩
            (try simp only [Act.put, List.setIfInBounds_toArray, List.set_cons_zero, List.set_cons_succ])
            obtain ⟨w11, hw11⟩ : ∃ w11, w11 = w10.alloc (.cells #[.int .i64 0, .int .i64 0, .slice none 0 0] 60) := ⟨_, rfl⟩
            have EZ0 := Lib.hid (show HrAt w11 w10.heap.size 0 0 (.slice none 0 0) from by rw [hw11]; exact HrAt.new rfl)
            rw [← hw11] at hKA hsA ⊢
            have w11_sz : w11.heap.size = w10.heap.size + 1 := by rw [hw11]; simp
            clear hw11 hS0
            have hS0 := hKA
            have EP := Lib.hid (EP.out.sees hsA)
            have ER := Lib.hid (ER.out.sees hsA)
            have EL := Lib.hid (EL.out.sees hsA)
            have EX := Lib.hid (EX.out.sees hsA)
            clear hKA hsA
            refine wpH_one (i := 6) (by kernel_rfl) ?_
            refine wpOp_enter (fn := 51) (args := #[.pointer (some ⟨hb, 0, none⟩), .agg #[.int .i64 m, .int .i64 first, .slice av n cv], .agg #[.int .i64 what, .int .i64 num, .slice au un um]]) (by rfl) (by rfl) (by go_simp) ((does31_any (G := fun b => G b ∨ b < w.heap.size) what (Ht.out.sees S1.out) EP.out (fun b hb => by have := HF.out.2.2.2.1 b hb; have := w11_sz; omega) (EL.out.mono (fun _ _ h => .inl h)) Hn.out (by omega) (fun b hb => ⟨by have := w11_sz; rcases hb with h | h; (have := HF.out.2.2.2.2.1 b h; omega); omega, fun hf => by rcases hb with h | h; exact HF.out.1 b hf h; have := HB1.out.2 b hf; omega⟩) (EX.out.mono (fun _ _ h => .inr h)) Hun.out hf6 Hc8.out (by omega)).mono ?_)
            rintro e W1 ⟨f3, L2, v2, F2, G2, rfl, p1, p2, p3, p4, p5, p6, p7⟩
            obtain ⟨a2, c2, rfl, _⟩ := p2.slice'
            obtain ⟨n2, hn2⟩ : ∃ n2, n2 = L2.length := ⟨_, rfl⟩
            rw [← hn2] at p2 p7 ⊢
            have Hn2 := Lib.hid hn2
            have fa2 := p1.facts
            rw [← hn2] at fa2
            obtain ⟨f2, rfl⟩ : ∃ f2 : Nat, f3 = f2 := ⟨f3.toNat, by omega⟩
            have hz1' := p4.size
            clear hn2
            have HRF : Hid (¬ F2 R) := Lib.hid (fun h => by rcases p5 R h with h | h; exact HF.out.2.1 h; have := w11_sz; omega)
            have HRG : Hid (¬ G2 R) := Lib.hid (fun h => by rcases p6 R h with h | h; (rcases h with h | h; exact HF.out.2.2.1 h; have := HF.out.2.2.2.2.2; omega); have := w11_sz; omega)
            have HFG := Lib.hid p3
            have hKA := hS0.trans p4
            have HBF : Hid (¬ F2 w10.heap.size) := Lib.hid (fun h => by rcases p5 _ h with h | h; (have := HF.out.2.2.2.1 _ h; omega); omega)
            have HBG : Hid (¬ G2 w10.heap.size) := Lib.hid (fun h => by rcases p6 _ h with h | h; (rcases h with h | h; (have := HF.out.2.2.2.2.1 _ h; omega); omega); omega)
            have EZ := Lib.hid (EZ0.out.keeps p4 (fun h => by have := HF.out.2.2.2.1 _ h; omega))
            refine ⟨_, rfl, hKA, ?_⟩
            have P1 := Lib.hid p1
            have ER1 := Lib.hid (ER.out.keeps p4 HF.out.2.1)
            have L1 := Lib.hid p2
            clear hS0
            have hS0 := hKA
            clear p1 p2 p3 p5 p6 p4 hKA EZ0
            (try simp only [Act.put, List.setIfInBounds_toArray, List.set_cons_zero, List.set_cons_succ])
            refine wpH_take (i := 7) (v := .tuple #[.agg #[.int .i64 m, .int .i64 f2, .slice a2 n2 c2], .bool true]) hB (by rfl) (by kernel_rfl) (fun _ _ _ _ _ h => h) (by rfl) hS0 (fun W hI => by clear hI; go_simp) ?_; (try simp only [Act.put, List.setIfInBounds_toArray, List.set_cons_zero, List.set_cons_succ])
            refine wpH_take (i := 8) (v := .agg #[.int .i64 m, .int .i64 f2, .slice a2 n2 c2]) hB (by rfl) (by kernel_rfl) (fun _ _ _ _ _ h => h) (by rfl) hS0 (fun W hI => by clear hI; go_simp) ?_; (try simp only [Act.put, List.setIfInBounds_toArray, List.set_cons_zero, List.set_cons_succ])
            refine wpH_take (i := 9) (v := .bool true) hB (by rfl) (by kernel_rfl) (fun _ _ _ _ _ h => h) (by rfl) hS0 (fun W hI => by clear hI; go_simp) ?_; (try simp only [Act.put, List.setIfInBounds_toArray, List.set_cons_zero, List.set_cons_succ])
            obtain ⟨W9, hw9⟩ : ∃ w9, w9 = (W1).setRow (w10.heap.size) #[.int .i64 m, .int .i64 f2, .slice a2 n2 c2] := ⟨_, rfl⟩
            have Hst := Lib.hid (show (Instr.storeAt 60 (.pointer (some ⟨w10.heap.size, 0, none⟩)) (.agg #[.int .i64 m, .int .i64 f2, .slice a2 n2 c2])).run Tryd.prog (W1) = .ok () W9 by rw [hw9]; exact run_storeAt_row (P := Tryd.prog) (W := W1) 60 (w10.heap.size) _ 60 [.int .i64 m, .int .i64 f2, .slice a2 n2 c2] (fun _ => by kernel_rfl) EZ.out rfl (by intro v hv; simp only [List.mem_cons, List.not_mem_nil, or_false] at hv; rcases hv with rfl | rfl | rfl <;> rfl))
            have Hk9 := Lib.hid (show Keeps (fun b => b = w10.heap.size) (W1) W9 by rw [hw9]; exact ⟨rfl, rfl, rfl, by simp [World.setRow], fun b hb hne => setRow_other (W1) _ b _ (fun e => hne e)⟩)
            have D9 := Lib.hid (show HrAt W9 (w10.heap.size) m f2 (.slice a2 n2 c2) by rw [hw9]; exact setRow_heap _ _ _ _ _ (0, 0) EZ.out)
            have hKF : Keeps F w10 W9 := hS0.trans' Hk9.out (fun b hb e => by have e : b = w10.heap.size := e; omega)
            have P9 := Lib.hid (P1.out.keeps Hk9.out (fun b hb e => by have e : b = w10.heap.size := e; exact HBF.out (e ▸ hb)) (fun b e => by have e : b = w10.heap.size := e; omega))
            have R9 := Lib.hid (ER1.out.keeps Hk9.out (fun e => by have e : R = w10.heap.size := e; omega))
            have L9 := Lib.hid (L1.out.keeps Hk9.out (fun b hb e => by have e : b = w10.heap.size := e; exact HBG.out (e ▸ hb)))
            have Y1 := Lib.hid (hKF.cell HB1.out.1 Y1.out)
            clear hw9 P1 ER1 L1
            refine wpH_one (i := 11) (by kernel_rfl) (wpOp_skip (w' := W9) (by rfl) (wanted_none (by rfl) _) (exec_store (a := .pointer (some ⟨w10.heap.size, 0, none⟩)) (v := .agg #[.int .i64 m, .int .i64 f2, .slice a2 n2 c2]) rfl (by go_simp) (by go_simp) Hst.out) ⟨hKF, ?_⟩)
            (try simp only [Act.put, List.setIfInBounds_toArray, List.set_cons_zero, List.set_cons_succ])
            clear hS0
            have hS0 := hKF
            refine wpH_take (i := 12) (v := .bool true) hB (by rfl) (by kernel_rfl) (fun _ _ _ _ _ h => h) (by rfl) hS0 (fun W hI => by clear hI; go_simp) ?_; (try simp only [Act.put, List.setIfInBounds_toArray, List.set_cons_zero, List.set_cons_succ])
            refine wpH_end (by kernel_rfl) ?_
            obtain ⟨y0, y1, y2⟩ := R9.out.c
            have fy := R9.out.fr
            obtain ⟨z0, z1, z2⟩ := D9.out.c
            clear hB hKF hS0 Hst Hk9
            go_wp2_with fail
            refine wp_world (fun W5 hW5 => ?_)
            have hk5 : Keeps (fun b => b = R) W9 W5 := by
              subst hW5
              exact (((Keeps.refl (fun b => b = R) W9).setCell (p := ⟨R, 0, none⟩) (fun _ => rfl) _).setCell (p := ⟨R, 1, none⟩) (fun _ => rfl) _).setCell (p := ⟨R, 2, none⟩) (fun _ => rfl) _
            have hr5 : HrAt W5 R m f2 (.slice a2 n2 c2) := by subst hW5; exact R9.out.set3 _ _ _
            have hz5 := hk5.size
            have HI2 : Hid (HiRef w1 W5 hb R m f2 L2) := Lib.hid ⟨fun c => F2 c ∧ c < W9.heap.size, fun c => G2 c ∧ c < W9.heap.size, _, P9.out.cut.keeps hk5 (fun c hc e => by have e : c = R := e; exact HRF.out (e ▸ hc.1)) (fun c e => by have e : c = R := e; have := HF.out.2.2.2.2.2; omega), hr5, (L9.out.mono (fun c hc h => ⟨h, hc⟩)).keeps hk5 (fun c hc e => by have e : c = R := e; exact HRG.out (e ▸ hc.1)), fun c hc hG => HFG.out c hG.1 hc.1, fun h => HRF.out h.1, fun h => HRG.out h.1, fun c hc => by have := hc.2; omega, fun c hc => by have := hc.2; omega, HF.out.2.2.2.2.2⟩
            have Y1 := Lib.hid (hk5.cell (a := ⟨b1, o1 + k * 3 + 1, none⟩) (fun e => by have e : b1 = R := e; have := HF.out.2.2.2.2.2; omega) Y1.out)
            have hf2 : f2 + L2.length ≤ 6 * (k + 1) := by rw [← Hn2.out]; omega
            have HM2 : Hid (L2.length ≤ m) := Lib.hid (by rw [← Hn2.out]; omega)
            have hl2 : L2.length ≤ 1000 := by rw [← Hn2.out]; omega
            clear y0 y1 y2 fy z0 z1 z2 hW5 hk5 hr5 P9 R9 L9 D9 Hn2 p7 fa2
            have HL2 := Lib.hid hl2
            clear hl2
            obtain ⟨F2, G2, v2, p1, p2, p3, p4, p5, p6, p7, p8, p9⟩ := HI2.out
            obtain ⟨a2, c2, rfl, _⟩ := p3.slice'
            obtain ⟨n2, hn2⟩ : ∃ n2, n2 = L2.length := ⟨_, rfl⟩
            rw [← hn2] at p2 p3
            have hn2b : n2 ≤ 1000 := by rw [hn2]; exact HL2.out
            have Hn2 := Lib.hid hn2
            have HP3 := Lib.hid p1
            have HR3 := Lib.hid p2
            have HL3 := Lib.hid p3
            clear p1 p2 p3 p4 p5 p6 p7 p8 p9 hn2
            refine wpFrom_go (by kernel_rfl) (by kernel_rfl) (fun hB W6 hs6 => ?_)
            have HI2 := Lib.hid (HI2.out.sees hs6)
            have HP3 := Lib.hid (HP3.out.sees hs6)
            have HR3 := Lib.hid (HR3.out.sees hs6)
            have HL3 := Lib.hid (HL3.out.sees hs6)
            have Y1 := Lib.hid (hs6.cell Y1.out)
            clear hs6
            have hval : ∀ x v, (Spec.is x).val v = x := fun _ _ => rfl
            have hval2 : ∀ V v, (Spec.so V).val v = v := fun _ _ => rfl
            have hst : segStay (Sees W6) [.is (.pointer (some ⟨hb, 0, none⟩)),
                  .is (.agg #[.int .i64 m, .int .i64 f2, .slice a2 n2 c2]),
                  .is (.slice (some ⟨b1, o1, none⟩) t ca),
                  .is (.int .i64 k),
                  .is (.pointer (some ⟨b1, o1 + k * 3, none⟩)),
                  .is (.pointer (some ⟨b1, o1 + k * 3 + 1, none⟩)),
                  .is (.int .i64 num),
                  .is (.bool true),
                  .is (.bool false)] :=
                trivial
            refine wpFrom_any 9 _ hB (by kernel_rfl) rfl hst (by simp only [List.cons_append, List.nil_append, List.drop_succ_cons, List.drop_zero, List.take_succ_cons, List.take_zero, Nat.reduceSub]; rfl) ?_
            refine ⟨fun vs W hI hV => .inl ⟨by clear hI hV hst; go_simp, .inl (by clear hI hV hst; (try simp only [Act.put, hval, hval2, List.setIfInBounds_toArray, List.set_cons_zero, List.set_cons_succ]); go_simp)⟩, ?_⟩
            refine ⟨fun vs W hI hV => .inl ⟨by clear hI hV hst; go_simp, .inl (by have q := (HR3.out.sees hI).c; obtain ⟨q0, q1, q2⟩ := q; clear hI hV hst; (try simp only [Act.put, hval, hval2, List.setIfInBounds_toArray, List.set_cons_zero, List.set_cons_succ]); go_simp)⟩, ?_⟩
            refine ⟨fun vs W hI hV => .inl ⟨by clear hI hV hst; go_simp, .inl (by clear hI hV hst; (try simp only [Act.put, hval, hval2, List.setIfInBounds_toArray, List.set_cons_zero, List.set_cons_succ]); go_simp)⟩, ?_⟩
            refine ⟨fun vs W hI hV => .inl ⟨by clear hI hV hst; go_simp, .inl (by clear hI hV hst; (try simp only [Act.put, hval, hval2, List.setIfInBounds_toArray, List.set_cons_zero, List.set_cons_succ]); go_simp)⟩, ?_⟩
            refine ⟨fun vs W hI hV => .inl ⟨by clear hI hV hst; go_simp, .inl (by clear hI hV hst; (try simp only [Act.put, hval, hval2, List.setIfInBounds_toArray, List.set_cons_zero, List.set_cons_succ]); go_simp)⟩, ?_⟩
            refine ⟨fun vs W hI hV => .inl ⟨by clear hI hV hst; go_simp, .inl (by clear hI hV hst; (try simp only [Act.put, hval, hval2, List.setIfInBounds_toArray, List.set_cons_zero, List.set_cons_succ]); go_simp)⟩, ?_⟩
            refine ⟨fun vs W hI hV => .inl ⟨by clear hI hV hst; go_simp, .inl (by have q := hI.cell Y1.out; clear hI hV hst; (try simp only [Act.put, hval, hval2, List.setIfInBounds_toArray, List.set_cons_zero, List.set_cons_succ]); go_simp)⟩, ?_⟩
            refine ⟨fun vs W hI hV => .inl ⟨by clear hI hV hst; (try simp only [Act.put, hval, hval2, List.setIfInBounds_toArray, List.set_cons_zero, List.set_cons_succ]); go_simp, .inr (.inr ⟨36, #[.pointer (some ⟨hb, 0, none⟩), .agg #[.int .i64 m, .int .i64 f2, .slice a2 n2 c2], .int .i64 num], by clear hI hV hst; (try simp only [Act.put, hval, hval2, List.setIfInBounds_toArray, List.set_cons_zero, List.set_cons_succ]); go_simp, looks31_any (HP3.out.sees hI) _ (HL3.out.sees hI) num hnum (by rw [← Hn2.out]; omega)⟩)⟩, ?_⟩
            refine ⟨fun vs W hI hV => .inl ⟨by clear hI hV hst; go_simp, .inl (by clear hI hV hst; (try simp only [Act.put, hval, hval2, List.setIfInBounds_toArray, List.set_cons_zero, List.set_cons_succ]); go_simp)⟩, ?_⟩
            intro vs W7 hI hV
            have HI3 := Lib.hid (HI2.out.sees hI)
            clear hI hV hst HI2 HP3 HR3 HL3
            (try simp only [Act.put, hval, hval2, List.setIfInBounds_toArray, List.set_cons_zero, List.set_cons_succ])
            go_simp
            refine wpFrom_end rfl ?_
            clear hB
            go_wp2_with fail
            go_roundw
            case rel => exact ⟨k + 1, by omega, by go_num, hb, f2, L2, rfl, hf2, HM2.out, HI3.out⟩
            case measure => simp [intOf] <;> omega
      · obtain rfl : k = t := by omega
        have S4 := Lib.hid (S1.out.trans HI.out.see)
        go_wp2_with fail
        refine (known31 _ (Ht.out.sees S4.out)).mono ?_
        rintro e w5 ⟨rfl, hs5⟩
        go_wp2
        go_ret
        exact ⟨by simp, S4.out.trans hs5⟩
theorem historyPlays_any (m : Nat) (v : Value) (acts : List Act31) (w : World) (ht : Tabs w) (ha : act31El.Rd (fun b => b < w.heap.size) w v acts) (hfit : ∀ p ∈ acts, p.num31) :
    Calls Tryd.prog 11 #[.int .u8 m, v] w fun e w' => e = .returned (.bool true) ∧ Sees w w' := by
  by_cases h : m ≤ 20
  · exact historyPlays_in m v acts w ht ha hfit h
  · exact historyPlays_out m v acts w ht ha (by omega)
end Go.Proofs.YtpicffaghoggdaaDoor
