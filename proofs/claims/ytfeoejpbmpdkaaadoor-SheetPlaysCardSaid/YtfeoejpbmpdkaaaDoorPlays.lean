/- A call of a page and of the reference: both do the same. SheetPlays: any calls of a page. No condition. -/
import Derived.Test.YtfeoejpbmpdkaaaDoorBoth
namespace Go.Proofs.YtfeoejpbmpdkaaaDoor
set_option linter.unusedVariables false
set_option linter.unusedSimpArgs false
open Go.RowKit

/-- A call's place in memory. -/
def AcAt (W : World) (b : Nat) (what num : Int) (u : Value) (soft : Bool) : Prop := W.heap[b]? = some (.cells #[.int .i64 what, .int .i64 num, u, .bool soft] 52 (0, 0))
namespace AcAt
variable {W W' : World} {b : Nat} {what num : Int} {u : Value} {soft : Bool}
theorem lt (h : AcAt W b what num u soft) : b < W.heap.size := (Array.getElem?_eq_some_iff.1 h).1
theorem sees (h : AcAt W b what num u soft) (hs : Sees W W') : AcAt W' b what num u soft := by
  unfold AcAt at *; rw [hs.block _ (Array.getElem?_eq_some_iff.1 h).1]; exact h
theorem keeps {F : Nat → Prop} (h : AcAt W b what num u soft) (hk : Keeps F W W') (hF : ¬ F b) : AcAt W' b what num u soft := by
  unfold AcAt at *; rw [hk.block _ (Array.getElem?_eq_some_iff.1 h).1 hF]; exact h
theorem new {n : Nat} (hn : n = W.heap.size) : AcAt (W.alloc (.cells #[.int .i64 what, .int .i64 num, u, .bool soft] 52)) n what num u soft := by subst hn; exact heap_alloc_new W _
theorem alloc (h : AcAt W b what num u soft) (o : Obj) : AcAt (W.alloc o) b what num u soft := h.sees ((Sees.refl W).alloc o)
theorem c (h : AcAt W b what num u soft) : W.cell? ⟨b, 0, none⟩ = some (.int .i64 what) ∧ W.cell? ⟨b, 1, none⟩ = some (.int .i64 num) ∧ W.cell? ⟨b, 2, none⟩ = some u ∧ W.cell? ⟨b, 3, none⟩ = some (.bool soft) := by
  rw [cell_of_row _ _ _ _ _ _ h, cell_of_row _ _ _ _ _ _ h, cell_of_row _ _ _ _ _ _ h, cell_of_row _ _ _ _ _ _ h]; exact ⟨rfl, rfl, rfl, rfl⟩
end AcAt
theorem PgF.keeps {w1 W W' : World} {F X : Nat → Prop} {p : Nat} {most gone : Int} {ls : List Ln} (h : PgF w1 F W p most gone ls) (hk : Keeps X W W') (hd : ∀ b, F b → ¬ X b) (hx : ∀ b, X b → w1.heap.size ≤ b) : PgF w1 F W' p most gone ls :=
  ⟨((Keeps.of_sees (F := fun _ => False) h.see).trans' hk (fun b hb e => by have := hx b e; omega)).sees_end (fun _ _ h => h), h.page.keeps hk hd, h.low, h.most0, h.most1, h.gone0, h.room, h.ok⟩
/-- What a call gives: the page that is used then, and the reference's, with the same lines. -/
def DoesP (w1 W : World) (F G : Nat → Prop) (most : Int) (e : Ending) (w' : World) : Prop :=
  ∃ q gone' ls' v' F' G', e = .returned (.tuple #[.pointer (some ⟨q, 0, none⟩), .agg #[.int .i64 most, .int .i64 gone', v'], .bool true]) ∧ PgF w1 F' w' q most gone' ls' ∧ lnEl.Rd G' w' v' ls' ∧ (∀ b, G' b → ¬ F' b) ∧ Keeps F W w' ∧ (∀ b, F' b → F b ∨ W.heap.size ≤ b) ∧ ∀ b, G' b → G b ∨ W.heap.size ≤ b

section
variable {w1 W : World} {F G : Nat → Prop} {p n m : Nat} {most gone : Int} {ls : List Ln} {a ua : Option Addr} {c uc : Nat} {cs : List Cell} {soft : Bool} {num : Int}

set_option maxRecDepth 100000 in
set_option maxHeartbeats 4000000 in
theorem doesPush (ht : Tabs w1) (h : PgF w1 F W p most gone ls) (hF : ∀ b, F b → b < W.heap.size) (hv : lnEl.Rd G W (.slice a n c) ls) (hn : n = ls.length) (hG : ∀ b, G b → b < W.heap.size ∧ ¬ F b) (hu : RdCells W (.slice ua m uc) cs) (hm : m = cs.length) (hlen : m ≤ 1000000) :
    Calls Tryd.prog 28 #[.pointer (some ⟨p, 0, none⟩), .agg #[.int .i64 most, .int .i64 gone, .slice a n c], .agg #[.int .i64 0, .int .i64 num, .slice ua m uc, .bool soft]] W fun e w' => DoesP w1 W F G most e w' := by
  have HP := Lib.hid h
  have HV := Lib.hid hv
  have HU := Lib.hid hu
  have Hn := Lib.hid hn
  have Hm := Lib.hid hm
  have HF := Lib.hid hF
  have HG := Lib.hid hG
  clear h hv hu hn hm hF hG
  have hw := Sees.refl W
  go_enter Tryd.func28, Tryd.ntmps28
  go_wp2_with fail
  refine calls_world (fun w2 hw2 => ?_)
  have A4 : RsAt w2 W.heap.size most gone (.slice a n c) := by subst hw2; exact ((RsAt.new rfl).alloc _).alloc _
  have A5 : AcAt w2 (W.heap.size + 1) 0 num (.slice ua m uc) soft := by subst hw2; exact (AcAt.new (by simp)).alloc _
  have A7 : RsAt w2 (W.heap.size + 1 + 1) 0 0 (.slice none 0 0) := by subst hw2; exact RsAt.new (by simp)
  have S2 : Sees W w2 := by subst hw2; exact (((Sees.refl W).alloc _).alloc _).alloc _
  clear hw2 hw
  refine (refCopy_any _ cs soft w2 (HU.out.sees S2) (by rw [← Hm.out]; exact hlen)).mono ?_
  rintro e w3 ⟨v3, rfl, ho, hs⟩
  obtain ⟨a3, c3, rfl⟩ := ho.slice
  rw [← Hm.out] at ho ⊢
  have H4 := Lib.hid (A4.sees hs)
  have H5 := Lib.hid (A5.sees hs)
  have H7 := Lib.hid (A7.sees hs)
  have HS3 := Lib.hid (S2.trans hs)
  have Ho3 := Lib.hid ho
  have Hl2 := Lib.hid A7.lt
  have Hlo := Lib.hid (fun g (hg : (Value.slice a3 m c3).ownBlock = some g) => (ho.base hg).2)
  obtain ⟨x0, x1, x2⟩ := H4.out.c
  obtain ⟨y0, y1, y2, y3⟩ := H5.out.c
  have g0 := fun o => ((Sees.refl w3).alloc o).cell x0
  have g1 := fun o => ((Sees.refl w3).alloc o).cell x1
  have g2 := fun o => ((Sees.refl w3).alloc o).cell x2
  have g3 := fun o => ((Sees.refl w3).alloc o).cell y0
  have g4 := fun o => ((Sees.refl w3).alloc o).cell y1
  have g5 := fun o => ((Sees.refl w3).alloc o).cell y2
  have g6 := fun o => ((Sees.refl w3).alloc o).cell y3
  clear A4 A5 A7 S2 hs ho x0 x1 x2 y0 y1 y2 y3
  go_wp2_with fail
  clear g0 g1 g2 g3 g4 g5 g6
  refine calls_world (fun w4 hw4 => ?_)
  have A9 : LnAt w4 w3.heap.size (.slice a3 m c3) soft := by subst hw4; exact LnAt.new rfl
  have S4 : Sees w3 w4 := by subst hw4; exact (Sees.refl w3).alloc _
  clear hw4
  have J4 := Lib.hid (H4.out.sees S4)
  have J5 := Lib.hid (H5.out.sees S4)
  have J7 := Lib.hid (H7.out.sees S4)
  have J9 := Lib.hid A9
  have HS4 := Lib.hid (HS3.out.trans S4)
  have Hz3 := Lib.hid HS3.out.size
  have Hl3 := Lib.hid H7.out.lt
  have Ho4 := Lib.hid (Ho3.out.sees S4)
  clear H4 H5 H7 A9 S4 Ho3 HS3
  refine (refPush_any w4 (HP.out.sees HS4.out) (HV.out.sees HS4.out) (soft := soft) (HU.out.sees HS4.out) (by rw [← Hm.out]; exact hlen)).mono ?_
  rintro e w5 ⟨v5, rfl, hr5, hs⟩
  obtain ⟨a5, c5, rfl, -⟩ := hr5.slice'
  obtain ⟨ls2, hls2⟩ : ∃ x, x = (pushR most gone ls cs soft).1 := ⟨_, rfl⟩
  obtain ⟨no, hno⟩ : ∃ x, x = (pushR most gone ls cs soft).2 := ⟨_, rfl⟩
  rw [← hls2] at hr5 ⊢
  rw [← hno]
  obtain ⟨n2, hn2⟩ : ∃ x, x = ls2.length := ⟨_, rfl⟩
  rw [← hn2] at hr5 ⊢
  have Hls := Lib.hid hls2
  have Hno := Lib.hid hno
  have Hn2 := Lib.hid hn2
  have HR5 := Lib.hid hr5
  have HS5 := Lib.hid (HS4.out.trans hs)
  have K7 := Lib.hid (J7.out.sees hs)
  have K9 := Lib.hid (J9.out.sees hs)
  have K5 := Lib.hid (J5.out.sees hs)
  have Ho5 := Lib.hid (Ho4.out.sees hs)
  have Hl5 := Lib.hid (show W.heap.size + 1 + 1 < w5.heap.size by have := J7.out.lt; have := hs.size; omega)
  have Hl45 := Lib.hid (show w3.heap.size < w4.heap.size ∧ w4.heap.size ≤ w5.heap.size from ⟨J9.out.lt, hs.size⟩)
  clear hls2 hno hn2 hr5 hs J7 J9 J5 J4 Ho4
  obtain ⟨x0, x1⟩ := K9.out.c
  obtain ⟨y0, y1, y2, y3⟩ := K5.out.c
  have g0 := fun o => ((Sees.refl w5).alloc o).cell x0
  have g1 := fun o => ((Sees.refl w5).alloc o).cell x1
  have g2 := fun o => ((Sees.refl w5).alloc o).cell y1
  clear x0 x1 y0 y1 y2 y3
  go_wp2_with fail
  refine calls_world (fun w6 hw6 => ?_)
  have A10 : RsAt w6 w5.heap.size most gone (.slice a5 n2 c5) := by subst hw6; exact RsAt.new rfl
  have S6 : Sees w5 w6 := by subst hw6; exact (Sees.refl w5).alloc _
  clear hw6 g0 g1 g2
  have HR6 := Lib.hid ((HR5.out.sees S6).mono (G := fun b => (G b ∨ w4.heap.size ≤ b) ∧ b < w6.heap.size) (fun b hb h => ⟨h.imp And.left id, hb⟩))
  have HS6 := Lib.hid (HS5.out.trans S6)
  have J7 := Lib.hid (K7.out.sees S6)
  have J9 := Lib.hid (K9.out.sees S6)
  have J5 := Lib.hid (K5.out.sees S6)
  have Ho6 := Lib.hid (Ho5.out.sees S6)
  have HN6 := Lib.hid A10
  have Hl6 := Lib.hid (show w5.heap.size < w6.heap.size from A10.lt)
  clear S6 A10 K5 K7 K9 HR5 Ho5 HS5
  refine (pgPush_any (H := fun b => W.heap.size ≤ b) (soft := soft) (ht.sees (HP.out.see.trans HS6.out)) (HP.out.sees HS6.out) (Ho6.out.rdc.mono (G := fun b => W.heap.size ≤ b) (fun b _ hb => by have := Hl2.out; omega)) (fun b hb hf => by have := HF.out b hf; omega) (by rw [← Hm.out]; exact hlen)).mono ?_
  rintro e w7 ⟨rfl, hp, hk⟩
  rw [← Hls.out] at hp
  rw [← Hno.out]
  have HnF : Hid (∀ b, W.heap.size ≤ b → ¬ F b) := Lib.hid (fun b hb hf => by have := HF.out b hf; omega)
  have HP7 := Lib.hid hp
  have HK7 := Lib.hid ((Keeps.of_sees (F := F) HS6.out).trans hk)
  have K7 := Lib.hid (J7.out.keeps hk (HnF.out _ (by omega)))
  have K9 := Lib.hid (J9.out.keeps hk (HnF.out _ Hz3.out))
  have KN := Lib.hid (HN6.out.keeps hk (HnF.out _ (by have := Hl5.out; omega)))
  have KR := Lib.hid (HR6.out.keeps hk (fun b hb => by
    rcases hb.1 with h | h
    · exact (HG.out b h).2
    · exact HnF.out b (by have := Hl45.out; have := Hz3.out; omega)))
  have Ho7 := Lib.hid (Ho6.out.keeps hk (fun b hb => HnF.out b (by have := (Ho6.out.base hb).1; have := Hl2.out; omega)))
  have HO := Lib.hid (fun g (hg : (Value.slice a3 m c3).ownBlock = some g) => (show W.heap.size + 1 + 1 < g ∧ g < w3.heap.size from ⟨by have := (Ho7.out.base hg).1; have := Hl2.out; omega, Hlo.out g hg⟩))
  clear hp hk J7 J9 HN6 HR6 Ho6
  obtain ⟨x0, x1⟩ := K9.out.c
  go_wp2_with fail
  refine (stain_own _ _ cs _ Ho7.out (by rw [← Hm.out]; exact hlen)).mono ?_
  rintro e w8 ⟨rfl, hk8⟩
  obtain ⟨F2, hF2⟩ : ∃ F2 : Nat → Prop, F2 = fun b => F b ∨ w6.heap.size ≤ b := ⟨_, rfl⟩
  obtain ⟨G2, hG2⟩ : ∃ G2 : Nat → Prop, G2 = fun b => (G b ∨ w4.heap.size ≤ b) ∧ b < w6.heap.size := ⟨_, rfl⟩
  have HP8 := Lib.hid (HP7.out.keeps hk8 (fun b hb e => by have := HO.out b e; have := Hl45.out; have := Hl6.out; rcases hb with h | h; exact HnF.out b (by omega) h; omega) (fun b e => by have := HO.out b e; have := HP.out.see.size; omega))
  have HK8 := Lib.hid (HK7.out.trans' hk8 (fun b hb e => by have := HO.out b e; omega))
  have D7 := Lib.hid (K7.out.keeps hk8 (fun e => by have := HO.out _ e; omega))
  have DN := Lib.hid (KN.out.keeps hk8 (fun e => by have := HO.out _ e; have := Hl45.out; omega))
  have HR8 := Lib.hid (KR.out.keeps hk8 (fun b hb e => by
    have := HO.out b e
    have := Hl45.out
    rcases hb.1 with h | h
    · have := (HG.out b h).1; omega
    · omega))
  rw [← hF2] at HP8
  rw [← hG2] at HR8
  have HFG : Hid (∀ b, G2 b → ¬ F2 b) := Lib.hid (by subst hF2 hG2; intro b hb hf; rcases hf with hf | hf; (rcases hb.1 with h | h; exact (HG.out b h).2 hf; have := HF.out b hf; have := Hl45.out; have := Hz3.out; omega); have := hb.2; omega)
  have HFN : Hid (∀ b, F2 b → F b ∨ W.heap.size ≤ b) := Lib.hid (by subst hF2; intro b hb; rcases hb with h | h; exact .inl h; have := Hl6.out; have := Hl5.out; exact .inr (by omega))
  have HGN : Hid (∀ b, G2 b → G b ∨ W.heap.size ≤ b) := Lib.hid (by subst hG2; intro b hb; rcases hb.1 with h | h; exact .inl h; have := HS4.out.size; exact .inr (by omega))
  have HF7 : Hid (¬ F2 (W.heap.size + 1 + 1)) := Lib.hid (by subst hF2; intro hb; rcases hb with h | h; exact HnF.out _ (by omega) h; have := Hl6.out; have := Hl5.out; omega)
  have HG7 : Hid (¬ G2 (W.heap.size + 1 + 1)) := Lib.hid (by subst hG2; intro hb; rcases hb.1 with h | h; have := (HG.out _ h).1; omega; have := Hl3.out; have := Hl45.out; omega)
  clear hk8 hF2 hG2 HP7 HK7 K7 K9 KN KR Ho7 x0 x1
  go_wp2_with fail
  have HW1 := Lib.hid (HP.out.see.size)
  refine wpH_go (fun b => b = W.heap.size + 1 + 1) 8 (by kernel_rfl) (by kernel_rfl) (by rfl) (fun hB w10 hs10 => ?_)
  have E7 := Lib.hid (D7.out.sees hs10)
  have EN := Lib.hid (DN.out.sees hs10)
  have EP := Lib.hid (HP8.out.sees hs10)
  have ER := Lib.hid (HR8.out.sees hs10)
  have EK := Lib.hid (HK8.out.trans (Keeps.of_sees hs10))
  clear hs10
  have hS0 : Keeps (fun b => b = W.heap.size + 1 + 1) w10 w10 := Keeps.refl _ w10
  refine wpH_take (i := 0) (v := .pointer (some ⟨p, 0, none⟩)) hB (by rfl) (by kernel_rfl) (fun _ _ _ _ _ h => h) (by rfl) hS0 (fun W hI => by clear hI; go_simp) ?_; (try simp only [Act.put, List.setIfInBounds_toArray, List.set_cons_zero, List.set_cons_succ])
  refine wpH_take (i := 1) (v := .agg #[.int .i64 most, .int .i64 gone, .slice a5 n2 c5]) hB (by rfl) (by kernel_rfl) (fun _ _ _ _ _ h => h) (by rfl) hS0 (fun W hI => by have q := (EN.out.keeps hI (by have := Hl5.out; omega)).c; obtain ⟨q0, q1, q2⟩ := q; go_simp) ?_; (try simp only [Act.put, List.setIfInBounds_toArray, List.set_cons_zero, List.set_cons_succ])
  refine wpH_take (i := 2) (v := .int .i64 no) hB (by rfl) (by kernel_rfl) (fun _ _ _ _ _ h => h) (by rfl) hS0 (fun W hI => by clear hI; go_simp) ?_; (try simp only [Act.put, List.setIfInBounds_toArray, List.set_cons_zero, List.set_cons_succ])
  refine wpH_take (i := 3) (v := .int .i64 no) hB (by rfl) (by kernel_rfl) (fun _ _ _ _ _ h => h) (by rfl) hS0 (fun W hI => by clear hI; go_simp) ?_; (try simp only [Act.put, List.setIfInBounds_toArray, List.set_cons_zero, List.set_cons_succ])
  refine wpH_take (i := 4) (v := .bool true) hB (by rfl) (by kernel_rfl) (fun _ _ _ _ _ h => h) (by rfl) hS0 (fun W hI => by clear hI; go_simp) ?_; (try simp only [Act.put, List.setIfInBounds_toArray, List.set_cons_zero, List.set_cons_succ])
  refine wpH_one (i := 5) (by kernel_rfl) (wpOp_val (v := .pointer (some ⟨p, 0, none⟩)) (w' := w10) (by rfl) (wanted_none (by rfl) _) (by go_simp) ⟨hS0, ?_⟩)
  (try simp only [Act.put, List.setIfInBounds_toArray, List.set_cons_zero, List.set_cons_succ])
  obtain ⟨w11, hw11⟩ : ∃ w11, w11 = w10.setRow (W.heap.size + 1 + 1) #[.int .i64 most, .int .i64 gone, .slice a5 n2 c5] := ⟨_, rfl⟩
  have Hst := Lib.hid (show (Instr.storeAt 50 (.pointer (some ⟨W.heap.size + 1 + 1, 0, none⟩)) (.agg #[.int .i64 most, .int .i64 gone, .slice a5 n2 c5])).run Tryd.prog w10 = .ok () w11 by rw [hw11]; exact run_storeAt_row (P := Tryd.prog) (W := w10) 50 (W.heap.size + 1 + 1) _ 50 [.int .i64 most, .int .i64 gone, .slice a5 n2 c5] (fun _ => by kernel_rfl) E7.out rfl (by intro v hv; simp only [List.mem_cons, List.not_mem_nil, or_false] at hv; rcases hv with rfl | rfl | rfl <;> rfl))
  have Hk11 := Lib.hid (show Keeps (fun b => b = W.heap.size + 1 + 1) w10 w11 by rw [hw11]; exact ⟨rfl, rfl, rfl, by simp [World.setRow], fun b hb hne => setRow_other w10 _ b _ (fun e => hne e)⟩)
  have D11 := Lib.hid (show RsAt w11 (W.heap.size + 1 + 1) most gone (.slice a5 n2 c5) by rw [hw11]; exact setRow_heap _ _ _ _ _ (0, 0) E7.out)
  clear hw11
  refine wpH_one (i := 6) (by kernel_rfl) (wpOp_skip (w' := w11) (by rfl) (wanted_none (by rfl) _) (exec_store (a := .pointer (some ⟨W.heap.size + 1 + 1, 0, none⟩)) (v := .agg #[.int .i64 most, .int .i64 gone, .slice a5 n2 c5]) rfl (by go_simp) (by go_simp) Hst.out) ⟨Hk11.out, ?_⟩)
  (try simp only [Act.put, List.setIfInBounds_toArray, List.set_cons_zero, List.set_cons_succ])
  refine wpH_one (i := 7) (by kernel_rfl) (wpOp_val (v := .bool true) (w' := w11) (by rfl) (wanted_none (by rfl) _) (by go_simp) ⟨Hk11.out, ?_⟩)
  (try simp only [Act.put, List.setIfInBounds_toArray, List.set_cons_zero, List.set_cons_succ])
  refine wpH_end (by kernel_rfl) ?_
  obtain ⟨z0, z1, z2⟩ := D11.out.c
  go_wp2
  refine bodyPost_ret_by (v := .tuple #[.pointer (some ⟨p, 0, none⟩), .agg #[.int .i64 most, .int .i64 gone, .slice a5 n2 c5], .bool true]) (by simp [results, Tryd.results28, go_sem, z0, z1, z2]) rfl ⟨_, _, ls2, _, F2, G2, rfl, ?_, ?_, HFG.out, ?_, HFN.out, HGN.out⟩
  · exact EP.out.keeps Hk11.out (fun b hb e => HF7.out (e ▸ hb)) (fun b e => by have := HW1.out; omega)
  · exact ER.out.keeps Hk11.out (fun b hb e => HG7.out (e ▸ hb))
  · exact EK.out.trans' Hk11.out (fun b hb e => by omega)
set_option maxRecDepth 100000 in
set_option maxHeartbeats 4000000 in
theorem doesSet (ht : Tabs w1) (h : PgF w1 F W p most gone ls) (hF : ∀ b, F b → b < W.heap.size) (hv : lnEl.Rd G W (.slice a n c) ls) (hn : n = ls.length) (hG : ∀ b, G b → b < W.heap.size ∧ ¬ F b) (hu : RdCells W (.slice ua m uc) cs) (hm : m = cs.length) (hlen : m ≤ 1000000) :
    Calls Tryd.prog 28 #[.pointer (some ⟨p, 0, none⟩), .agg #[.int .i64 most, .int .i64 gone, .slice a n c], .agg #[.int .i64 1, .int .i64 num, .slice ua m uc, .bool soft]] W fun e w' => DoesP w1 W F G most e w' := by
  have HP := Lib.hid h
  have HV := Lib.hid hv
  have HU := Lib.hid hu
  have Hn := Lib.hid hn
  have Hm := Lib.hid hm
  have HF := Lib.hid hF
  have HG := Lib.hid hG
  clear h hv hu hn hm hF hG
  have hw := Sees.refl W
  go_enter Tryd.func28, Tryd.ntmps28
  go_wp2_with fail
  refine calls_world (fun w2 hw2 => ?_)
  have A4 : RsAt w2 W.heap.size most gone (.slice a n c) := by subst hw2; exact ((RsAt.new rfl).alloc _).alloc _
  have A5 : AcAt w2 (W.heap.size + 1) 1 num (.slice ua m uc) soft := by subst hw2; exact (AcAt.new (by simp)).alloc _
  have A7 : RsAt w2 (W.heap.size + 1 + 1) 0 0 (.slice none 0 0) := by subst hw2; exact RsAt.new (by simp)
  have S2 : Sees W w2 := by subst hw2; exact (((Sees.refl W).alloc _).alloc _).alloc _
  clear hw2 hw
  refine (refCopy_any _ cs soft w2 (HU.out.sees S2) (by rw [← Hm.out]; exact hlen)).mono ?_
  rintro e w3 ⟨v3, rfl, ho, hs⟩
  obtain ⟨a3, c3, rfl⟩ := ho.slice
  rw [← Hm.out] at ho ⊢
  have H4 := Lib.hid (A4.sees hs)
  have H5 := Lib.hid (A5.sees hs)
  have H7 := Lib.hid (A7.sees hs)
  have HS3 := Lib.hid (S2.trans hs)
  have Ho3 := Lib.hid ho
  have Hl2 := Lib.hid A7.lt
  have Hlo := Lib.hid (fun g (hg : (Value.slice a3 m c3).ownBlock = some g) => (ho.base hg).2)
  obtain ⟨x0, x1, x2⟩ := H4.out.c
  obtain ⟨y0, y1, y2, y3⟩ := H5.out.c
  have g0 := fun o => ((Sees.refl w3).alloc o).cell x0
  have g1 := fun o => ((Sees.refl w3).alloc o).cell x1
  have g2 := fun o => ((Sees.refl w3).alloc o).cell x2
  have g3 := fun o => ((Sees.refl w3).alloc o).cell y0
  have g4 := fun o => ((Sees.refl w3).alloc o).cell y1
  have g5 := fun o => ((Sees.refl w3).alloc o).cell y2
  have g6 := fun o => ((Sees.refl w3).alloc o).cell y3
  clear A4 A5 A7 S2 hs ho x0 x1 x2 y0 y1 y2 y3
  go_wp2_with fail
  clear g0 g1 g2 g3 g4 g5 g6
  refine calls_world (fun w4 hw4 => ?_)
  have A9 : LnAt w4 w3.heap.size (.slice a3 m c3) soft := by subst hw4; exact LnAt.new rfl
  have S4 : Sees w3 w4 := by subst hw4; exact (Sees.refl w3).alloc _
  clear hw4
  have J4 := Lib.hid (H4.out.sees S4)
  have J5 := Lib.hid (H5.out.sees S4)
  have J7 := Lib.hid (H7.out.sees S4)
  have J9 := Lib.hid A9
  have HS4 := Lib.hid (HS3.out.trans S4)
  have Hz3 := Lib.hid HS3.out.size
  have Hl3 := Lib.hid H7.out.lt
  have Ho4 := Lib.hid (Ho3.out.sees S4)
  clear H4 H5 H7 A9 S4 Ho3 HS3
  refine (refSet_any w4 (HP.out.sees HS4.out) num (HV.out.sees HS4.out) (soft := soft) (HU.out.sees HS4.out) (by rw [← Hm.out]; exact hlen)).mono ?_
  rintro e w5 ⟨v5, rfl, hr5, hs⟩
  obtain ⟨a5, c5, rfl, -⟩ := hr5.slice'
  obtain ⟨ls2, hls2⟩ : ∃ x, x = (setR ls num cs soft).1 := ⟨_, rfl⟩
  obtain ⟨no, hno⟩ : ∃ x, x = (setR ls num cs soft).2 := ⟨_, rfl⟩
  rw [← hls2] at hr5 ⊢
  rw [← hno]
  obtain ⟨n2, hn2⟩ : ∃ x, x = ls2.length := ⟨_, rfl⟩
  rw [← hn2] at hr5 ⊢
  have Hls := Lib.hid hls2
  have Hno := Lib.hid hno
  have Hn2 := Lib.hid hn2
  have HR5 := Lib.hid hr5
  have HS5 := Lib.hid (HS4.out.trans hs)
  have K7 := Lib.hid (J7.out.sees hs)
  have K9 := Lib.hid (J9.out.sees hs)
  have K5 := Lib.hid (J5.out.sees hs)
  have Ho5 := Lib.hid (Ho4.out.sees hs)
  have Hl5 := Lib.hid (show W.heap.size + 1 + 1 < w5.heap.size by have := J7.out.lt; have := hs.size; omega)
  have Hl45 := Lib.hid (show w3.heap.size < w4.heap.size ∧ w4.heap.size ≤ w5.heap.size from ⟨J9.out.lt, hs.size⟩)
  clear hls2 hno hn2 hr5 hs J7 J9 J5 J4 Ho4
  obtain ⟨x0, x1⟩ := K9.out.c
  obtain ⟨y0, y1, y2, y3⟩ := K5.out.c
  have g0 := fun o => ((Sees.refl w5).alloc o).cell x0
  have g1 := fun o => ((Sees.refl w5).alloc o).cell x1
  have g2 := fun o => ((Sees.refl w5).alloc o).cell y1
  clear x0 x1 y0 y1 y2 y3
  go_wp2_with fail
  refine calls_world (fun w6 hw6 => ?_)
  have A10 : RsAt w6 w5.heap.size most gone (.slice a5 n2 c5) := by subst hw6; exact RsAt.new rfl
  have S6 : Sees w5 w6 := by subst hw6; exact (Sees.refl w5).alloc _
  clear hw6 g0 g1 g2
  have HR6 := Lib.hid ((HR5.out.sees S6).mono (G := fun b => (G b ∨ w4.heap.size ≤ b) ∧ b < w6.heap.size) (fun b hb h => ⟨h.imp And.left id, hb⟩))
  have HS6 := Lib.hid (HS5.out.trans S6)
  have J7 := Lib.hid (K7.out.sees S6)
  have J9 := Lib.hid (K9.out.sees S6)
  have J5 := Lib.hid (K5.out.sees S6)
  have Ho6 := Lib.hid (Ho5.out.sees S6)
  have HN6 := Lib.hid A10
  have Hl6 := Lib.hid (show w5.heap.size < w6.heap.size from A10.lt)
  clear S6 A10 K5 K7 K9 HR5 Ho5 HS5
  refine (pgSet_any (i := num) (H := fun b => W.heap.size ≤ b) (soft := soft) (ht.sees (HP.out.see.trans HS6.out)) (HP.out.sees HS6.out) (Ho6.out.rdc.mono (G := fun b => W.heap.size ≤ b) (fun b _ hb => by have := Hl2.out; omega)) (fun b hb hf => by have := HF.out b hf; omega) (by rw [← Hm.out]; exact hlen)).mono ?_
  rintro e w7 ⟨rfl, hp, hk⟩
  rw [← Hls.out] at hp
  rw [← Hno.out]
  have HnF : Hid (∀ b, W.heap.size ≤ b → ¬ F b) := Lib.hid (fun b hb hf => by have := HF.out b hf; omega)
  have HP7 := Lib.hid hp
  have HK7 := Lib.hid ((Keeps.of_sees (F := F) HS6.out).trans hk)
  have K7 := Lib.hid (J7.out.keeps hk (HnF.out _ (by omega)))
  have K9 := Lib.hid (J9.out.keeps hk (HnF.out _ Hz3.out))
  have KN := Lib.hid (HN6.out.keeps hk (HnF.out _ (by have := Hl5.out; omega)))
  have KR := Lib.hid (HR6.out.keeps hk (fun b hb => by
    rcases hb.1 with h | h
    · exact (HG.out b h).2
    · exact HnF.out b (by have := Hl45.out; have := Hz3.out; omega)))
  have Ho7 := Lib.hid (Ho6.out.keeps hk (fun b hb => HnF.out b (by have := (Ho6.out.base hb).1; have := Hl2.out; omega)))
  have HO := Lib.hid (fun g (hg : (Value.slice a3 m c3).ownBlock = some g) => (show W.heap.size + 1 + 1 < g ∧ g < w3.heap.size from ⟨by have := (Ho7.out.base hg).1; have := Hl2.out; omega, Hlo.out g hg⟩))
  clear hp hk J7 J9 HN6 HR6 Ho6
  obtain ⟨x0, x1⟩ := K9.out.c
  go_wp2_with fail
  refine (stain_own _ _ cs _ Ho7.out (by rw [← Hm.out]; exact hlen)).mono ?_
  rintro e w8 ⟨rfl, hk8⟩
  obtain ⟨F2, hF2⟩ : ∃ F2 : Nat → Prop, F2 = fun b => F b ∨ w6.heap.size ≤ b := ⟨_, rfl⟩
  obtain ⟨G2, hG2⟩ : ∃ G2 : Nat → Prop, G2 = fun b => (G b ∨ w4.heap.size ≤ b) ∧ b < w6.heap.size := ⟨_, rfl⟩
  have HP8 := Lib.hid (HP7.out.keeps hk8 (fun b hb e => by have := HO.out b e; have := Hl45.out; have := Hl6.out; rcases hb with h | h; exact HnF.out b (by omega) h; omega) (fun b e => by have := HO.out b e; have := HP.out.see.size; omega))
  have HK8 := Lib.hid (HK7.out.trans' hk8 (fun b hb e => by have := HO.out b e; omega))
  have D7 := Lib.hid (K7.out.keeps hk8 (fun e => by have := HO.out _ e; omega))
  have DN := Lib.hid (KN.out.keeps hk8 (fun e => by have := HO.out _ e; have := Hl45.out; omega))
  have HR8 := Lib.hid (KR.out.keeps hk8 (fun b hb e => by
    have := HO.out b e
    have := Hl45.out
    rcases hb.1 with h | h
    · have := (HG.out b h).1; omega
    · omega))
  rw [← hF2] at HP8
  rw [← hG2] at HR8
  have HFG : Hid (∀ b, G2 b → ¬ F2 b) := Lib.hid (by subst hF2 hG2; intro b hb hf; rcases hf with hf | hf; (rcases hb.1 with h | h; exact (HG.out b h).2 hf; have := HF.out b hf; have := Hl45.out; have := Hz3.out; omega); have := hb.2; omega)
  have HFN : Hid (∀ b, F2 b → F b ∨ W.heap.size ≤ b) := Lib.hid (by subst hF2; intro b hb; rcases hb with h | h; exact .inl h; have := Hl6.out; have := Hl5.out; exact .inr (by omega))
  have HGN : Hid (∀ b, G2 b → G b ∨ W.heap.size ≤ b) := Lib.hid (by subst hG2; intro b hb; rcases hb.1 with h | h; exact .inl h; have := HS4.out.size; exact .inr (by omega))
  have HF7 : Hid (¬ F2 (W.heap.size + 1 + 1)) := Lib.hid (by subst hF2; intro hb; rcases hb with h | h; exact HnF.out _ (by omega) h; have := Hl6.out; have := Hl5.out; omega)
  have HG7 : Hid (¬ G2 (W.heap.size + 1 + 1)) := Lib.hid (by subst hG2; intro hb; rcases hb.1 with h | h; have := (HG.out _ h).1; omega; have := Hl3.out; have := Hl45.out; omega)
  clear hk8 hF2 hG2 HP7 HK7 K7 K9 KN KR Ho7 x0 x1
  go_wp2_with fail
  have HW1 := Lib.hid (HP.out.see.size)
  refine wpH_go (fun b => b = W.heap.size + 1 + 1) 8 (by kernel_rfl) (by kernel_rfl) (by rfl) (fun hB w10 hs10 => ?_)
  have E7 := Lib.hid (D7.out.sees hs10)
  have EN := Lib.hid (DN.out.sees hs10)
  have EP := Lib.hid (HP8.out.sees hs10)
  have ER := Lib.hid (HR8.out.sees hs10)
  have EK := Lib.hid (HK8.out.trans (Keeps.of_sees hs10))
  clear hs10
  have hS0 : Keeps (fun b => b = W.heap.size + 1 + 1) w10 w10 := Keeps.refl _ w10
  refine wpH_take (i := 0) (v := .pointer (some ⟨p, 0, none⟩)) hB (by rfl) (by kernel_rfl) (fun _ _ _ _ _ h => h) (by rfl) hS0 (fun W hI => by clear hI; go_simp) ?_; (try simp only [Act.put, List.setIfInBounds_toArray, List.set_cons_zero, List.set_cons_succ])
  refine wpH_take (i := 1) (v := .agg #[.int .i64 most, .int .i64 gone, .slice a5 n2 c5]) hB (by rfl) (by kernel_rfl) (fun _ _ _ _ _ h => h) (by rfl) hS0 (fun W hI => by have q := (EN.out.keeps hI (by have := Hl5.out; omega)).c; obtain ⟨q0, q1, q2⟩ := q; go_simp) ?_; (try simp only [Act.put, List.setIfInBounds_toArray, List.set_cons_zero, List.set_cons_succ])
  refine wpH_take (i := 2) (v := .int .i64 no) hB (by rfl) (by kernel_rfl) (fun _ _ _ _ _ h => h) (by rfl) hS0 (fun W hI => by clear hI; go_simp) ?_; (try simp only [Act.put, List.setIfInBounds_toArray, List.set_cons_zero, List.set_cons_succ])
  refine wpH_take (i := 3) (v := .int .i64 no) hB (by rfl) (by kernel_rfl) (fun _ _ _ _ _ h => h) (by rfl) hS0 (fun W hI => by clear hI; go_simp) ?_; (try simp only [Act.put, List.setIfInBounds_toArray, List.set_cons_zero, List.set_cons_succ])
  refine wpH_take (i := 4) (v := .bool true) hB (by rfl) (by kernel_rfl) (fun _ _ _ _ _ h => h) (by rfl) hS0 (fun W hI => by clear hI; go_simp) ?_; (try simp only [Act.put, List.setIfInBounds_toArray, List.set_cons_zero, List.set_cons_succ])
  refine wpH_one (i := 5) (by kernel_rfl) (wpOp_val (v := .pointer (some ⟨p, 0, none⟩)) (w' := w10) (by rfl) (wanted_none (by rfl) _) (by go_simp) ⟨hS0, ?_⟩)
  (try simp only [Act.put, List.setIfInBounds_toArray, List.set_cons_zero, List.set_cons_succ])
  obtain ⟨w11, hw11⟩ : ∃ w11, w11 = w10.setRow (W.heap.size + 1 + 1) #[.int .i64 most, .int .i64 gone, .slice a5 n2 c5] := ⟨_, rfl⟩
  have Hst := Lib.hid (show (Instr.storeAt 50 (.pointer (some ⟨W.heap.size + 1 + 1, 0, none⟩)) (.agg #[.int .i64 most, .int .i64 gone, .slice a5 n2 c5])).run Tryd.prog w10 = .ok () w11 by rw [hw11]; exact run_storeAt_row (P := Tryd.prog) (W := w10) 50 (W.heap.size + 1 + 1) _ 50 [.int .i64 most, .int .i64 gone, .slice a5 n2 c5] (fun _ => by kernel_rfl) E7.out rfl (by intro v hv; simp only [List.mem_cons, List.not_mem_nil, or_false] at hv; rcases hv with rfl | rfl | rfl <;> rfl))
  have Hk11 := Lib.hid (show Keeps (fun b => b = W.heap.size + 1 + 1) w10 w11 by rw [hw11]; exact ⟨rfl, rfl, rfl, by simp [World.setRow], fun b hb hne => setRow_other w10 _ b _ (fun e => hne e)⟩)
  have D11 := Lib.hid (show RsAt w11 (W.heap.size + 1 + 1) most gone (.slice a5 n2 c5) by rw [hw11]; exact setRow_heap _ _ _ _ _ (0, 0) E7.out)
  clear hw11
  refine wpH_one (i := 6) (by kernel_rfl) (wpOp_skip (w' := w11) (by rfl) (wanted_none (by rfl) _) (exec_store (a := .pointer (some ⟨W.heap.size + 1 + 1, 0, none⟩)) (v := .agg #[.int .i64 most, .int .i64 gone, .slice a5 n2 c5]) rfl (by go_simp) (by go_simp) Hst.out) ⟨Hk11.out, ?_⟩)
  (try simp only [Act.put, List.setIfInBounds_toArray, List.set_cons_zero, List.set_cons_succ])
  refine wpH_one (i := 7) (by kernel_rfl) (wpOp_val (v := .bool true) (w' := w11) (by rfl) (wanted_none (by rfl) _) (by go_simp) ⟨Hk11.out, ?_⟩)
  (try simp only [Act.put, List.setIfInBounds_toArray, List.set_cons_zero, List.set_cons_succ])
  refine wpH_end (by kernel_rfl) ?_
  obtain ⟨z0, z1, z2⟩ := D11.out.c
  go_wp2
  refine bodyPost_ret_by (v := .tuple #[.pointer (some ⟨p, 0, none⟩), .agg #[.int .i64 most, .int .i64 gone, .slice a5 n2 c5], .bool true]) (by simp [results, Tryd.results28, go_sem, z0, z1, z2]) rfl ⟨_, _, ls2, _, F2, G2, rfl, ?_, ?_, HFG.out, ?_, HFN.out, HGN.out⟩
  · exact EP.out.keeps Hk11.out (fun b hb e => HF7.out (e ▸ hb)) (fun b e => by have := HW1.out; omega)
  · exact ER.out.keeps Hk11.out (fun b hb e => HG7.out (e ▸ hb))
  · exact EK.out.trans' Hk11.out (fun b hb e => by omega)
set_option maxRecDepth 100000 in
set_option maxHeartbeats 4000000 in
theorem doesDrop (ht : Tabs w1) (h : PgF w1 F W p most gone ls) (hF : ∀ b, F b → b < W.heap.size) (hv : lnEl.Rd G W (.slice a n c) ls) (hn : n = ls.length) (hG : ∀ b, G b → b < W.heap.size ∧ ¬ F b) (hu : RdCells W (.slice ua m uc) cs) (hm : m = cs.length) (hlen : m ≤ 1000000) :
    Calls Tryd.prog 28 #[.pointer (some ⟨p, 0, none⟩), .agg #[.int .i64 most, .int .i64 gone, .slice a n c], .agg #[.int .i64 2, .int .i64 num, .slice ua m uc, .bool soft]] W fun e w' => DoesP w1 W F G most e w' := by
  have HP := Lib.hid h
  have HV := Lib.hid hv
  have HU := Lib.hid hu
  have Hn := Lib.hid hn
  have Hm := Lib.hid hm
  have HF := Lib.hid hF
  have HG := Lib.hid hG
  clear h hv hu hn hm hF hG
  have hw := Sees.refl W
  go_enter Tryd.func28, Tryd.ntmps28
  go_wp2_with fail
  refine calls_world (fun w2 hw2 => ?_)
  have A4 : RsAt w2 W.heap.size most gone (.slice a n c) := by subst hw2; exact ((RsAt.new rfl).alloc _).alloc _
  have A5 : AcAt w2 (W.heap.size + 1) 2 num (.slice ua m uc) soft := by subst hw2; exact (AcAt.new (by simp)).alloc _
  have A7 : RsAt w2 (W.heap.size + 1 + 1) 0 0 (.slice none 0 0) := by subst hw2; exact RsAt.new (by simp)
  have S2 : Sees W w2 := by subst hw2; exact (((Sees.refl W).alloc _).alloc _).alloc _
  clear hw2 hw
  refine (refCopy_any _ cs soft w2 (HU.out.sees S2) (by rw [← Hm.out]; exact hlen)).mono ?_
  rintro e w3 ⟨v3, rfl, ho, hs⟩
  obtain ⟨a3, c3, rfl⟩ := ho.slice
  rw [← Hm.out] at ho ⊢
  have H4 := Lib.hid (A4.sees hs)
  have H5 := Lib.hid (A5.sees hs)
  have H7 := Lib.hid (A7.sees hs)
  have HS3 := Lib.hid (S2.trans hs)
  have Ho3 := Lib.hid ho
  have Hl2 := Lib.hid A7.lt
  have Hlo := Lib.hid (fun g (hg : (Value.slice a3 m c3).ownBlock = some g) => (ho.base hg).2)
  obtain ⟨x0, x1, x2⟩ := H4.out.c
  obtain ⟨y0, y1, y2, y3⟩ := H5.out.c
  have g0 := fun o => ((Sees.refl w3).alloc o).cell x0
  have g1 := fun o => ((Sees.refl w3).alloc o).cell x1
  have g2 := fun o => ((Sees.refl w3).alloc o).cell x2
  have g3 := fun o => ((Sees.refl w3).alloc o).cell y0
  have g4 := fun o => ((Sees.refl w3).alloc o).cell y1
  have g5 := fun o => ((Sees.refl w3).alloc o).cell y2
  have g6 := fun o => ((Sees.refl w3).alloc o).cell y3
  clear A4 A5 A7 S2 hs ho x0 x1 x2 y0 y1 y2 y3
  go_wp2_with fail
  clear g0 g1 g2 g3 g4 g5 g6
  refine calls_world (fun w4 hw4 => ?_)
  have A9 : LnAt w4 w3.heap.size (.slice a3 m c3) soft := by subst hw4; exact LnAt.new rfl
  have S4 : Sees w3 w4 := by subst hw4; exact (Sees.refl w3).alloc _
  clear hw4
  have J4 := Lib.hid (H4.out.sees S4)
  have J5 := Lib.hid (H5.out.sees S4)
  have J7 := Lib.hid (H7.out.sees S4)
  have J9 := Lib.hid A9
  have HS4 := Lib.hid (HS3.out.trans S4)
  have Hz3 := Lib.hid HS3.out.size
  have Hl3 := Lib.hid H7.out.lt
  have Ho4 := Lib.hid (Ho3.out.sees S4)
  clear H4 H5 H7 A9 S4 Ho3 HS3
  refine (refDrop_any w4 (HP.out.sees HS4.out) num (HV.out.sees HS4.out)).mono ?_
  rintro e w5 ⟨v5, rfl, hr5, hs⟩
  obtain ⟨a5, c5, rfl, -⟩ := hr5.slice'
  obtain ⟨ls2, hls2⟩ : ∃ x, x = (dropR gone ls num).1 := ⟨_, rfl⟩
  obtain ⟨gn, hgn⟩ : ∃ x, x = (dropR gone ls num).2.1 := ⟨_, rfl⟩
  obtain ⟨no, hno⟩ : ∃ x, x = (dropR gone ls num).2.2 := ⟨_, rfl⟩
  rw [← hls2] at hr5 ⊢
  rw [← hno, ← hgn]
  obtain ⟨n2, hn2⟩ : ∃ x, x = ls2.length := ⟨_, rfl⟩
  rw [← hn2] at hr5 ⊢
  have Hgn := Lib.hid hgn
  clear hgn
  have Hls := Lib.hid hls2
  have Hno := Lib.hid hno
  have Hn2 := Lib.hid hn2
  have HR5 := Lib.hid hr5
  have HS5 := Lib.hid (HS4.out.trans hs)
  have K7 := Lib.hid (J7.out.sees hs)
  have K9 := Lib.hid (J9.out.sees hs)
  have K5 := Lib.hid (J5.out.sees hs)
  have Ho5 := Lib.hid (Ho4.out.sees hs)
  have Hl5 := Lib.hid (show W.heap.size + 1 + 1 < w5.heap.size by have := J7.out.lt; have := hs.size; omega)
  have Hl45 := Lib.hid (show w3.heap.size < w4.heap.size ∧ w4.heap.size ≤ w5.heap.size from ⟨J9.out.lt, hs.size⟩)
  clear hls2 hno hn2 hr5 hs J7 J9 J5 J4 Ho4
  obtain ⟨x0, x1⟩ := K9.out.c
  obtain ⟨y0, y1, y2, y3⟩ := K5.out.c
  have g0 := fun o => ((Sees.refl w5).alloc o).cell x0
  have g1 := fun o => ((Sees.refl w5).alloc o).cell x1
  have g2 := fun o => ((Sees.refl w5).alloc o).cell y1
  clear x0 x1 y0 y1 y2 y3
  go_wp2_with fail
  refine wp_world (fun w6 hw6 => ?_)
  have A10 : RsAt w6 w5.heap.size most gn (.slice a5 n2 c5) := by subst hw6; exact RsAt.new rfl
  have S6 : Sees w5 w6 := by subst hw6; exact (Sees.refl w5).alloc _
  clear hw6 g0 g1 g2
  have HR6 := Lib.hid ((HR5.out.sees S6).mono (G := fun b => (G b ∨ w4.heap.size ≤ b) ∧ b < w6.heap.size) (fun b hb h => ⟨h.imp And.left id, hb⟩))
  have HS6 := Lib.hid (HS5.out.trans S6)
  have J7 := Lib.hid (K7.out.sees S6)
  have J9 := Lib.hid (K9.out.sees S6)
  have J5 := Lib.hid (K5.out.sees S6)
  have Ho6 := Lib.hid (Ho5.out.sees S6)
  have HN6 := Lib.hid A10
  have Hl6 := Lib.hid (show w5.heap.size < w6.heap.size from A10.lt)
  clear S6 A10 K5 K7 K9 HR5 Ho5 HS5
  have HnF : Hid (∀ b, W.heap.size ≤ b → ¬ F b) := Lib.hid (fun b hb hf => by have := HF.out b hf; omega)
  have HW1 := Lib.hid (HP.out.see.size)
  obtain ⟨FF, hFF⟩ : ∃ FF : Nat → Prop, FF = fun b => F b ∨ b = W.heap.size + 1 + 1 := ⟨_, rfl⟩
  refine wpH_go FF 11 (by kernel_rfl) (by kernel_rfl) (by rfl) (fun hB w10 hs10 => ?_)
  have E7 := Lib.hid (J7.out.sees hs10)
  have EN := Lib.hid (HN6.out.sees hs10)
  have E5 := Lib.hid (J5.out.sees hs10)
  have HS10 := Lib.hid (HS6.out.trans hs10)
  have Hl10 := Lib.hid hs10.size
  have ER := Lib.hid (HR6.out.sees hs10)
  have HnN : Hid (¬ FF w5.heap.size) := Lib.hid (by rw [hFF]; rintro (h | h); exact HnF.out _ (by have := Hl5.out; omega) h; have := Hl5.out; omega)
  have Hn5 : Hid (¬ FF (W.heap.size + 1)) := Lib.hid (by rw [hFF]; rintro (h | h); exact HnF.out _ (by omega) h; omega)
  have HFF : Hid (∀ b, F b → FF b) := Lib.hid (by rw [hFF]; exact fun b h => .inl h)
  have HF2 : Hid (FF (W.heap.size + 1 + 1)) := Lib.hid (by rw [hFF]; exact .inr rfl)
  clear hs10 J7 J5 J9 HN6 HS6 HR6 Ho6 hFF
  have hS0 : Keeps FF w10 w10 := Keeps.refl _ w10
  refine wpH_take (i := 0) (v := .pointer (some ⟨p, 0, none⟩)) hB (by rfl) (by kernel_rfl) (fun _ _ _ _ _ h => h) (by rfl) hS0 (fun W hI => by clear hI; go_simp) ?_; (try simp only [Act.put, List.setIfInBounds_toArray, List.set_cons_zero, List.set_cons_succ])
  refine wpH_take (i := 1) (v := .agg #[.int .i64 most, .int .i64 gn, .slice a5 n2 c5]) hB (by rfl) (by kernel_rfl) (fun _ _ _ _ _ h => h) (by rfl) hS0 (fun W hI => by have q := (EN.out.keeps hI HnN.out).c; obtain ⟨q0, q1, q2⟩ := q; go_simp) ?_; (try simp only [Act.put, List.setIfInBounds_toArray, List.set_cons_zero, List.set_cons_succ])
  refine wpH_take (i := 2) (v := .pointer (some ⟨p, 0, none⟩)) hB (by rfl) (by kernel_rfl) (fun _ _ _ _ _ h => h) (by rfl) hS0 (fun W hI => by clear hI; go_simp) ?_; (try simp only [Act.put, List.setIfInBounds_toArray, List.set_cons_zero, List.set_cons_succ])
  refine wpH_take (i := 3) (v := .pointer (some ⟨W.heap.size + 1, 1, none⟩)) hB (by rfl) (by kernel_rfl) (fun _ _ _ _ _ h => h) (by rfl) hS0 (fun W hI => by clear hI; go_simp) ?_; (try simp only [Act.put, List.setIfInBounds_toArray, List.set_cons_zero, List.set_cons_succ])
  refine wpH_take (i := 4) (v := .int .i64 num) hB (by rfl) (by kernel_rfl) (fun _ _ _ _ _ h => h) (by rfl) hS0 (fun W hI => by have q := (E5.out.keeps hI Hn5.out).c; obtain ⟨q0, q1, q2, q3⟩ := q; go_simp) ?_; (try simp only [Act.put, List.setIfInBounds_toArray, List.set_cons_zero, List.set_cons_succ])
  refine wpH_take (i := 6) (v := .int .i64 no) hB (by rfl) (by kernel_rfl) (fun _ _ _ _ _ h => h) (by rfl) hS0 (fun W hI => by clear hI; go_simp) ?_; (try simp only [Act.put, List.setIfInBounds_toArray, List.set_cons_zero, List.set_cons_succ])
  refine wpH_one (i := 5) (by kernel_rfl) (wpOp_enter (fn := 16) (args := #[.pointer (some ⟨p, 0, none⟩), .int .i64 num]) (by rfl) (by rfl) (by go_simp) ((pgDrop_any (HP.out.sees HS10.out) num).mono ?_))
  rintro e w12 ⟨rfl, hp, hk⟩
  rw [← Hls.out, ← Hgn.out] at hp
  rw [← Hno.out]
  refine ⟨_, rfl, hk.mono (fun b _ h => HFF.out b h), ?_⟩
  (try simp only [Act.put, List.setIfInBounds_toArray, List.set_cons_zero, List.set_cons_succ])
  have HP12 := Lib.hid hp
  have HK12 := Lib.hid hk
  have D7 := Lib.hid (E7.out.keeps hk (HnF.out _ (by omega)))
  have KR := Lib.hid (ER.out.keeps hk (fun b hb => by
    rcases hb.1 with h | h
    · exact (HG.out b h).2
    · exact HnF.out b (by have := Hl45.out; have := Hz3.out; omega)))
  clear hp hk E7 ER
  have hS0 : Keeps FF w10 w12 := HK12.out.mono (fun b _ h => HFF.out b h)
  refine wpH_take (i := 7) (v := .bool true) hB (by rfl) (by kernel_rfl) (fun _ _ _ _ _ h => h) (by rfl) hS0 (fun W hI => by clear hI; go_simp) ?_; (try simp only [Act.put, List.setIfInBounds_toArray, List.set_cons_zero, List.set_cons_succ])
  refine wpH_one (i := 8) (by kernel_rfl) (wpOp_val (v := .pointer (some ⟨p, 0, none⟩)) (w' := w12) (by rfl) (wanted_none (by rfl) _) (by go_simp) ⟨HK12.out.mono (fun b _ h => HFF.out b h), ?_⟩)
  (try simp only [Act.put, List.setIfInBounds_toArray, List.set_cons_zero, List.set_cons_succ])
  obtain ⟨w11, hw11⟩ : ∃ w11, w11 = w12.setRow (W.heap.size + 1 + 1) #[.int .i64 most, .int .i64 gn, .slice a5 n2 c5] := ⟨_, rfl⟩
  have Hst := Lib.hid (show (Instr.storeAt 50 (.pointer (some ⟨W.heap.size + 1 + 1, 0, none⟩)) (.agg #[.int .i64 most, .int .i64 gn, .slice a5 n2 c5])).run Tryd.prog w12 = .ok () w11 by rw [hw11]; exact run_storeAt_row (P := Tryd.prog) (W := w12) 50 (W.heap.size + 1 + 1) _ 50 [.int .i64 most, .int .i64 gn, .slice a5 n2 c5] (fun _ => by kernel_rfl) D7.out rfl (by intro v hv; simp only [List.mem_cons, List.not_mem_nil, or_false] at hv; rcases hv with rfl | rfl | rfl <;> rfl))
  have Hk11 := Lib.hid (show Keeps (fun b => b = W.heap.size + 1 + 1) w12 w11 by rw [hw11]; exact ⟨rfl, rfl, rfl, by simp [World.setRow], fun b hb hne => setRow_other w12 _ b _ (fun e => hne e)⟩)
  have D11 := Lib.hid (show RsAt w11 (W.heap.size + 1 + 1) most gn (.slice a5 n2 c5) by rw [hw11]; exact setRow_heap _ _ _ _ _ (0, 0) D7.out)
  clear hw11
  have hk10 : Keeps FF w10 w11 := (HK12.out.mono (fun b _ h => HFF.out b h)).trans (Hk11.out.mono (fun b _ h => by subst h; exact HF2.out))
  refine wpH_one (i := 9) (by kernel_rfl) (wpOp_skip (w' := w11) (by rfl) (wanted_none (by rfl) _) (exec_store (a := .pointer (some ⟨W.heap.size + 1 + 1, 0, none⟩)) (v := .agg #[.int .i64 most, .int .i64 gn, .slice a5 n2 c5]) rfl (by go_simp) (by go_simp) Hst.out) ⟨hk10, ?_⟩)
  (try simp only [Act.put, List.setIfInBounds_toArray, List.set_cons_zero, List.set_cons_succ])
  refine wpH_one (i := 10) (by kernel_rfl) (wpOp_val (v := .bool true) (w' := w11) (by rfl) (wanted_none (by rfl) _) (by go_simp) ⟨hk10, ?_⟩)
  (try simp only [Act.put, List.setIfInBounds_toArray, List.set_cons_zero, List.set_cons_succ])
  refine wpH_end (by kernel_rfl) ?_
  obtain ⟨z0, z1, z2⟩ := D11.out.c
  go_wp2
  refine bodyPost_ret_by (v := .tuple #[.pointer (some ⟨p, 0, none⟩), .agg #[.int .i64 most, .int .i64 gn, .slice a5 n2 c5], .bool true]) (by simp [results, Tryd.results28, go_sem, z0, z1, z2]) rfl ⟨_, _, ls2, _, _, _, rfl, HP12.out.keeps Hk11.out (fun b hb e => ?_) (fun b e => by have := HW1.out; omega), KR.out.keeps Hk11.out (fun b hb e => ?_), fun b hb hf => ?_, ((Keeps.of_sees (F := F) HS10.out).trans HK12.out).trans' Hk11.out (fun b hb e => by omega), fun b hb => ?_, fun b hb => ?_⟩
  · rcases hb with h | h
    · exact HnF.out b (by omega) h
    · have := Hl5.out; have := Hl6.out; have := Hl10.out; omega
  · rcases hb.1 with h | h
    · have := (HG.out b h).1; omega
    · have := Hl3.out; have := Hl45.out; omega
  · rcases hf with hf | hf
    · rcases hb.1 with h | h
      · exact (HG.out b h).2 hf
      · exact HnF.out b (by have := Hl45.out; have := Hz3.out; omega) hf
    · have := hb.2; have := Hl10.out; omega
  · rcases hb with h | h
    · exact .inl h
    · exact .inr (by have := HS10.out.size; omega)
  · rcases hb.1 with h | h
    · exact .inl h
    · exact .inr (by have := HS4.out.size; omega)
def popL (ls : List Ln) : Ln := (ls[ls.length - 1]?).getD ⟨[], false⟩
def popE (ls : List Ln) : Int := if ls = [] then 9 else 0
theorem popL_snoc (ls : List Ln) (l : Ln) : popL (ls ++ [l]) = l := by simp [popL]
theorem popE_snoc (ls : List Ln) (l : Ln) : popE (ls ++ [l]) = 0 := by simp [popE]
theorem popL_len (h : PgF w1 F W p most gone ls) : (popL ls).cells.length ≤ 1000000 := by
  unfold popL
  cases e : ls[ls.length - 1]? with
  | none => simp
  | some l => exact h.toS.lenc l (List.mem_iff_getElem?.2 ⟨_, e⟩)
theorem refPop_any (w : World) {v : Value} (h : PgF w1 F W p most gone ls) (hv : lnEl.Rd G w v ls) :
    Calls Tryd.prog 67 #[.agg #[.int .i64 most, .int .i64 gone, v]] w fun e w' => ∃ v' u, e = .returned (.tuple #[.agg #[.int .i64 most, .int .i64 gone, v'], .agg #[u, .bool (popL ls).soft], .int .i64 (popE ls)]) ∧ lnEl.Rd (fun b => (G b ∧ b < w.heap.size) ∨ w.heap.size ≤ b) w' v' ls.dropLast ∧ cellEl.Rd (fun b => G b ∧ b < w.heap.size) w' u (popL ls).cells ∧ Sees w w' := by
  by_cases h0 : ls = []
  · subst h0
    obtain ⟨a, c, rfl, hvx⟩ := hv.slice'
    refine (refPop_none most gone a c w).mono ?_
    rintro e w' ⟨rfl, hs⟩
    exact ⟨_, _, rfl, rd_more hv hs, El.Rd.nil _ _, hs⟩
  · refine (refPop_ok G most gone v ls w h0 h.toS.len hv).mono ?_
    rintro e w' ⟨v', u, l, rfl, hl, h1, h2, hs⟩
    have e1 : popL ls = l := by unfold popL; rw [hl]; rfl
    have e2 : popE ls = 0 := if_neg h0
    rw [e1, e2]
    exact ⟨v', u, rfl, h1, h2, hs⟩
theorem pgPop_any (h : PgF w1 F W p most gone ls) :
    Calls Tryd.prog 21 #[.pointer (some ⟨p, 0, none⟩)] W fun e w' => ∃ v', e = .returned (.tuple #[.agg #[v', .bool (popL ls).soft], .int .i64 (popE ls)]) ∧ OwnCells w' 0 v' (popL ls).cells ∧ (∀ g, v'.ownBlock = some g → F g ∧ g < W.heap.size) ∧
      PgF w1 (fun b => F b ∧ v'.ownBlock ≠ some b) w' p most gone ls.dropLast ∧ Keeps F W w' := by
  by_cases h0 : ls = []
  · subst h0
    refine (h.toS.pop_none).mono ?_
    rintro e w' ⟨rfl, hs⟩
    exact ⟨_, rfl, ⟨rfl, .inl ⟨rfl, rfl⟩⟩, (fun g hg => by cases hg), (h.sees hs).mono (fun b _ hb => ⟨hb, by simp [Value.ownBlock]⟩) (fun b hb => h.low b hb.1), Keeps.of_sees hs⟩
  · obtain ⟨ls0, l, rfl⟩ : ∃ ls0 l, ls = ls0 ++ [l] := ⟨ls.dropLast, ls.getLast h0, (List.dropLast_concat_getLast h0).symm⟩
    rw [popL_snoc, popE_snoc, List.dropLast_concat]
    refine (h.pop l).mono ?_
    rintro e w' ⟨v', rfl, h1, h2, h3, h4⟩
    have hp : F p := h.page.1
    exact ⟨v', rfl, h1, h2, h3, h4.mono (fun b _ e => by subst e; exact hp)⟩

set_option maxRecDepth 100000 in
set_option maxHeartbeats 4000000 in
theorem doesPop (ht : Tabs w1) (h : PgF w1 F W p most gone ls) (hF : ∀ b, F b → b < W.heap.size) (hv : lnEl.Rd G W (.slice a n c) ls) (hn : n = ls.length) (hG : ∀ b, G b → b < W.heap.size ∧ ¬ F b) (hu : RdCells W (.slice ua m uc) cs) (hm : m = cs.length) (hlen : m ≤ 1000000) :
    Calls Tryd.prog 28 #[.pointer (some ⟨p, 0, none⟩), .agg #[.int .i64 most, .int .i64 gone, .slice a n c], .agg #[.int .i64 3, .int .i64 num, .slice ua m uc, .bool soft]] W fun e w' => DoesP w1 W F G most e w' := by
  have HP := Lib.hid h
  have HV := Lib.hid hv
  have HU := Lib.hid hu
  have Hn := Lib.hid hn
  have Hm := Lib.hid hm
  have HF := Lib.hid hF
  have HG := Lib.hid hG
  clear h hv hu hn hm hF hG
  have hw := Sees.refl W
  go_enter Tryd.func28, Tryd.ntmps28
  go_wp2_with fail
  refine calls_world (fun w2 hw2 => ?_)
  have A4 : RsAt w2 W.heap.size most gone (.slice a n c) := by subst hw2; exact ((RsAt.new rfl).alloc _).alloc _
  have A5 : AcAt w2 (W.heap.size + 1) 3 num (.slice ua m uc) soft := by subst hw2; exact (AcAt.new (by simp)).alloc _
  have A7 : RsAt w2 (W.heap.size + 1 + 1) 0 0 (.slice none 0 0) := by subst hw2; exact RsAt.new (by simp)
  have S2 : Sees W w2 := by subst hw2; exact (((Sees.refl W).alloc _).alloc _).alloc _
  clear hw2 hw
  refine (refCopy_any _ cs soft w2 (HU.out.sees S2) (by rw [← Hm.out]; exact hlen)).mono ?_
  rintro e w3 ⟨v3, rfl, ho, hs⟩
  obtain ⟨a3, c3, rfl⟩ := ho.slice
  rw [← Hm.out] at ho ⊢
  have H4 := Lib.hid (A4.sees hs)
  have H5 := Lib.hid (A5.sees hs)
  have H7 := Lib.hid (A7.sees hs)
  have HS3 := Lib.hid (S2.trans hs)
  have Ho3 := Lib.hid ho
  have Hl2 := Lib.hid A7.lt
  have Hlo := Lib.hid (fun g (hg : (Value.slice a3 m c3).ownBlock = some g) => (ho.base hg).2)
  obtain ⟨x0, x1, x2⟩ := H4.out.c
  obtain ⟨y0, y1, y2, y3⟩ := H5.out.c
  have g0 := fun o => ((Sees.refl w3).alloc o).cell x0
  have g1 := fun o => ((Sees.refl w3).alloc o).cell x1
  have g2 := fun o => ((Sees.refl w3).alloc o).cell x2
  have g3 := fun o => ((Sees.refl w3).alloc o).cell y0
  have g4 := fun o => ((Sees.refl w3).alloc o).cell y1
  have g5 := fun o => ((Sees.refl w3).alloc o).cell y2
  have g6 := fun o => ((Sees.refl w3).alloc o).cell y3
  clear A4 A5 A7 S2 hs ho x0 x1 x2 y0 y1 y2 y3
  go_wp2_with fail
  clear g0 g1 g2 g3 g4 g5 g6
  refine calls_world (fun w4 hw4 => ?_)
  have A9 : LnAt w4 w3.heap.size (.slice a3 m c3) soft := by subst hw4; exact LnAt.new rfl
  have S4 : Sees w3 w4 := by subst hw4; exact (Sees.refl w3).alloc _
  clear hw4
  have J4 := Lib.hid (H4.out.sees S4)
  have J5 := Lib.hid (H5.out.sees S4)
  have J7 := Lib.hid (H7.out.sees S4)
  have J9 := Lib.hid A9
  have HS4 := Lib.hid (HS3.out.trans S4)
  have Hz3 := Lib.hid HS3.out.size
  have Hl3 := Lib.hid H7.out.lt
  have Ho4 := Lib.hid (Ho3.out.sees S4)
  clear H4 H5 H7 A9 S4 Ho3 HS3
  refine (refPop_any w4 (HP.out.sees HS4.out) (HV.out.sees HS4.out)).mono ?_
  rintro e w5 ⟨v5, u5, rfl, hr5, hu5, hs⟩
  obtain ⟨a5, c5, rfl, -⟩ := hr5.slice'
  obtain ⟨b5, d5, rfl, -⟩ := hu5.slice'
  obtain ⟨ls2, hls2⟩ : ∃ x, x = ls.dropLast := ⟨_, rfl⟩
  obtain ⟨l, hl⟩ : ∃ x, x = popL ls := ⟨_, rfl⟩
  obtain ⟨no, hno⟩ : ∃ x, x = popE ls := ⟨_, rfl⟩
  rw [← hls2] at hr5 ⊢
  rw [← hl] at hu5 ⊢
  rw [← hno]
  have hll := popL_len HP.out
  rw [← hl] at hll
  obtain ⟨n2, hn2⟩ : ∃ x, x = ls2.length := ⟨_, rfl⟩
  obtain ⟨m2, hm2⟩ : ∃ x, x = l.cells.length := ⟨_, rfl⟩
  rw [← hn2] at hr5 ⊢
  rw [← hm2] at hu5 hll ⊢
  have Hls := Lib.hid hls2
  have Hl := Lib.hid hl
  have Hll := Lib.hid hll
  have Hno := Lib.hid hno
  have Hn2 := Lib.hid hn2
  have Hm2 := Lib.hid hm2
  have HR5 := Lib.hid hr5
  have HU5 := Lib.hid hu5
  have HS5 := Lib.hid (HS4.out.trans hs)
  have K7 := Lib.hid (J7.out.sees hs)
  have Hl5 := Lib.hid (show W.heap.size + 1 + 1 < w5.heap.size by have := J7.out.lt; have := hs.size; omega)
  have Hl45 := Lib.hid (show w3.heap.size < w4.heap.size ∧ w4.heap.size ≤ w5.heap.size from ⟨J9.out.lt, hs.size⟩)
  clear hls2 hl hll hno hn2 hm2 hr5 hu5 hs J7 J9 J5 J4 Ho4
  go_wp2_with fail
  refine calls_world (fun w6 hw6 => ?_)
  have A10 : RsAt w6 w5.heap.size most gone (.slice a5 n2 c5) := by subst hw6; exact (RsAt.new rfl).alloc _
  have A11 : LnAt w6 (w5.heap.size + 1) (.slice b5 m2 d5) l.soft := by subst hw6; exact LnAt.new (by simp)
  have S6 : Sees w5 w6 := by subst hw6; exact ((Sees.refl w5).alloc _).alloc _
  clear hw6
  have HR6 := Lib.hid ((HR5.out.sees S6).mono (G := fun b => (G b ∨ w4.heap.size ≤ b) ∧ b < w6.heap.size) (fun b hb h => ⟨h.imp And.left id, hb⟩))
  have HU6 := Lib.hid (HU5.out.sees S6)
  have HS6 := Lib.hid (HS5.out.trans S6)
  have J7 := Lib.hid (K7.out.sees S6)
  have J10 := Lib.hid A10
  have J11 := Lib.hid A11
  clear S6 A10 A11 K7 HR5 HU5 HS5
  have HnF : Hid (∀ b, W.heap.size ≤ b → ¬ F b) := Lib.hid (fun b hb hf => by have := HF.out b hf; omega)
  refine (pgPop_any (HP.out.sees HS6.out)).mono ?_
  rintro e w7 ⟨v7, rfl, ho7, hob, hp, hk⟩
  rw [← Hls.out] at hp
  rw [← Hl.out] at ho7 ⊢
  rw [← Hno.out]
  obtain ⟨a7, c7, rfl⟩ := ho7.slice
  rw [← Hm2.out] at ho7 hob hp ⊢
  have HP7 := Lib.hid hp
  have HOb := Lib.hid hob
  have HK7 := Lib.hid ((Keeps.of_sees (F := F) HS6.out).trans hk)
  have K7 := Lib.hid (J7.out.keeps hk (HnF.out _ (by omega)))
  have KN := Lib.hid (J10.out.keeps hk (HnF.out _ (by have := Hl5.out; omega)))
  have KL := Lib.hid (J11.out.keeps hk (HnF.out _ (by have := Hl5.out; omega)))
  have KR := Lib.hid (HR6.out.keeps hk (fun b hb => by
    rcases hb.1 with h | h
    · exact (HG.out b h).2
    · exact HnF.out b (by have := Hl45.out; have := Hz3.out; omega)))
  have KU := Lib.hid (HU6.out.keeps hk (fun b hb => (HG.out b hb.1).2))
  have Ho7 := Lib.hid ho7
  have Hl7 := Lib.hid (show w5.heap.size + 1 < w7.heap.size by have := J11.out.lt; have := hk.size; omega)
  obtain ⟨x0, x1⟩ := KL.out.c
  have g0 := fun o => ((Sees.refl w7).alloc o).cell x0
  have g1 := fun o => ((Sees.refl w7).alloc o).cell x1
  clear hp hob hk ho7 J7 J10 J11 HR6 HU6 x0 x1
  go_wp2_with fail
  refine calls_world (fun w8 hw8 => ?_)
  have A12 : LnAt w8 w7.heap.size (.slice a7 m2 c7) l.soft := by subst hw8; exact LnAt.new rfl
  have S8 : Sees w7 w8 := by subst hw8; exact (Sees.refl w7).alloc _
  clear hw8 g0 g1
  have he : decide (l = l) = true := decide_eq_true rfl
  refine (sameLine_any (.slice a7 m2 c7) (.slice b5 m2 d5) l l _ (Ho7.out.rd.sees S8) (KU.out.sees S8).rdCells (by rw [← Hm2.out]; exact Hll.out)).mono ?_
  rintro e w9 ⟨rfl, hs9⟩
  rw [he]
  have S9 := Lib.hid (S8.trans hs9)
  have Y12 := Lib.hid (A12.sees hs9)
  clear he A12 S8 hs9 KU
  obtain ⟨x0, x1⟩ := Y12.out.c
  go_wp2_with fail
  have Ho9 := Lib.hid (Ho7.out.sees S9.out)
  refine (stain_own _ _ l.cells _ Ho9.out (by rw [← Hm2.out]; exact Hll.out)).mono ?_
  rintro e w10 ⟨rfl, hk10⟩
  obtain ⟨F2, hF2⟩ : ∃ F2 : Nat → Prop, F2 = fun b => F b ∧ (Value.slice a7 m2 c7).ownBlock ≠ some b := ⟨_, rfl⟩
  obtain ⟨G2, hG2⟩ : ∃ G2 : Nat → Prop, G2 = fun b => (G b ∨ w4.heap.size ≤ b) ∧ b < w6.heap.size := ⟨_, rfl⟩
  have HK9 := Lib.hid (HK7.out.trans (Keeps.of_sees S9.out))
  have HP8 := Lib.hid ((HP7.out.sees S9.out).keeps hk10 (fun b hb e => hb.2 e) (fun b e => HP.out.low b (HOb.out b e).1))
  have HK8 := Lib.hid (HK9.out.trans' hk10 (fun b hb e => (HOb.out b e).1))
  have D7 := Lib.hid ((K7.out.sees S9.out).keeps hk10 (fun e => HnF.out _ (by omega) (HOb.out _ e).1))
  have DN := Lib.hid ((KN.out.sees S9.out).keeps hk10 (fun e => HnF.out _ (by have := Hl5.out; omega) (HOb.out _ e).1))
  have HR8 := Lib.hid ((KR.out.sees S9.out).keeps hk10 (fun b hb e => by
    rcases hb.1 with h | h
    · exact (HG.out b h).2 (HOb.out _ e).1
    · exact HnF.out b (by have := Hl45.out; have := Hz3.out; omega) (HOb.out _ e).1))
  rw [← hF2] at HP8
  rw [← hG2] at HR8
  have HFG : Hid (∀ b, G2 b → ¬ F2 b) := Lib.hid (by
    subst hF2 hG2
    intro b hb hf
    rcases hb.1 with h | h
    · exact (HG.out b h).2 hf.1
    · exact HnF.out b (by have := Hl45.out; have := Hz3.out; omega) hf.1)
  have HFN : Hid (∀ b, F2 b → F b ∨ W.heap.size ≤ b) := Lib.hid (by subst hF2; exact fun b hb => .inl hb.1)
  have HGN : Hid (∀ b, G2 b → G b ∨ W.heap.size ≤ b) := Lib.hid (by subst hG2; intro b hb; rcases hb.1 with h | h; exact .inl h; have := HS4.out.size; exact .inr (by omega))
  have HF7 : Hid (¬ F2 (W.heap.size + 1 + 1)) := Lib.hid (by subst hF2; exact fun hb => HnF.out _ (by omega) hb.1)
  have HG7 : Hid (¬ G2 (W.heap.size + 1 + 1)) := Lib.hid (by subst hG2; intro hb; rcases hb.1 with h | h; have := (HG.out _ h).1; omega; have := Hl3.out; have := Hl45.out; omega)
  clear hk10 hF2 hG2 HP7 HK7 HK9 K7 KN KL KR Ho7 Ho9 x0 x1 Y12
  go_wp2_with fail
  have HW1 := Lib.hid (HP.out.see.size)
  refine wpH_go (fun b => b = W.heap.size + 1 + 1) 6 (by kernel_rfl) (by kernel_rfl) (by rfl) (fun hB w10 hs10 => ?_)
  have E7 := Lib.hid (D7.out.sees hs10)
  have EN := Lib.hid (DN.out.sees hs10)
  have EP := Lib.hid (HP8.out.sees hs10)
  have ER := Lib.hid (HR8.out.sees hs10)
  have EK := Lib.hid (HK8.out.trans (Keeps.of_sees hs10))
  clear hs10
  have hS0 : Keeps (fun b => b = W.heap.size + 1 + 1) w10 w10 := Keeps.refl _ w10
  refine wpH_take (i := 0) (v := .pointer (some ⟨p, 0, none⟩)) hB (by rfl) (by kernel_rfl) (fun _ _ _ _ _ h => h) (by rfl) hS0 (fun W hI => by clear hI; go_simp) ?_; (try simp only [Act.put, List.setIfInBounds_toArray, List.set_cons_zero, List.set_cons_succ])
  refine wpH_take (i := 1) (v := .agg #[.int .i64 most, .int .i64 gone, .slice a5 n2 c5]) hB (by rfl) (by kernel_rfl) (fun _ _ _ _ _ h => h) (by rfl) hS0 (fun W hI => by have q := (EN.out.keeps hI (by have := Hl5.out; omega)).c; obtain ⟨q0, q1, q2⟩ := q; go_simp) ?_; (try simp only [Act.put, List.setIfInBounds_toArray, List.set_cons_zero, List.set_cons_succ])
  refine wpH_take (i := 2) (v := .bool true) hB (by rfl) (by kernel_rfl) (fun _ _ _ _ _ h => h) (by rfl) hS0 (fun W hI => by clear hI; go_simp) ?_; (try simp only [Act.put, List.setIfInBounds_toArray, List.set_cons_zero, List.set_cons_succ])
  refine wpH_one (i := 3) (by kernel_rfl) (wpOp_val (v := .pointer (some ⟨p, 0, none⟩)) (w' := w10) (by rfl) (wanted_none (by rfl) _) (by go_simp) ⟨hS0, ?_⟩)
  (try simp only [Act.put, List.setIfInBounds_toArray, List.set_cons_zero, List.set_cons_succ])
  obtain ⟨w11, hw11⟩ : ∃ w11, w11 = w10.setRow (W.heap.size + 1 + 1) #[.int .i64 most, .int .i64 gone, .slice a5 n2 c5] := ⟨_, rfl⟩
  have Hst := Lib.hid (show (Instr.storeAt 50 (.pointer (some ⟨W.heap.size + 1 + 1, 0, none⟩)) (.agg #[.int .i64 most, .int .i64 gone, .slice a5 n2 c5])).run Tryd.prog w10 = .ok () w11 by rw [hw11]; exact run_storeAt_row (P := Tryd.prog) (W := w10) 50 (W.heap.size + 1 + 1) _ 50 [.int .i64 most, .int .i64 gone, .slice a5 n2 c5] (fun _ => by kernel_rfl) E7.out rfl (by intro v hv; simp only [List.mem_cons, List.not_mem_nil, or_false] at hv; rcases hv with rfl | rfl | rfl <;> rfl))
  have Hk11 := Lib.hid (show Keeps (fun b => b = W.heap.size + 1 + 1) w10 w11 by rw [hw11]; exact ⟨rfl, rfl, rfl, by simp [World.setRow], fun b hb hne => setRow_other w10 _ b _ (fun e => hne e)⟩)
  have D11 := Lib.hid (show RsAt w11 (W.heap.size + 1 + 1) most gone (.slice a5 n2 c5) by rw [hw11]; exact setRow_heap _ _ _ _ _ (0, 0) E7.out)
  clear hw11
  refine wpH_one (i := 4) (by kernel_rfl) (wpOp_skip (w' := w11) (by rfl) (wanted_none (by rfl) _) (exec_store (a := .pointer (some ⟨W.heap.size + 1 + 1, 0, none⟩)) (v := .agg #[.int .i64 most, .int .i64 gone, .slice a5 n2 c5]) rfl (by go_simp) (by go_simp) Hst.out) ⟨Hk11.out, ?_⟩)
  (try simp only [Act.put, List.setIfInBounds_toArray, List.set_cons_zero, List.set_cons_succ])
  refine wpH_one (i := 5) (by kernel_rfl) (wpOp_val (v := .bool true) (w' := w11) (by rfl) (wanted_none (by rfl) _) (by go_simp) ⟨Hk11.out, ?_⟩)
  (try simp only [Act.put, List.setIfInBounds_toArray, List.set_cons_zero, List.set_cons_succ])
  refine wpH_end (by kernel_rfl) ?_
  obtain ⟨z0, z1, z2⟩ := D11.out.c
  go_wp2
  refine bodyPost_ret_by (v := .tuple #[.pointer (some ⟨p, 0, none⟩), .agg #[.int .i64 most, .int .i64 gone, .slice a5 n2 c5], .bool true]) (by simp [results, Tryd.results28, go_sem, z0, z1, z2]) rfl ⟨_, _, ls2, _, F2, G2, rfl, ?_, ?_, HFG.out, ?_, HFN.out, HGN.out⟩
  · exact EP.out.keeps Hk11.out (fun b hb e => HF7.out (e ▸ hb)) (fun b e => by have := HW1.out; omega)
  · exact ER.out.keeps Hk11.out (fun b hb e => HG7.out (e ▸ hb))
  · exact EK.out.trans' Hk11.out (fun b hb e => by omega)

set_option maxRecDepth 100000 in
set_option maxHeartbeats 4000000 in
theorem doesCopy (what : Int) (d0 : (what == 0) = false) (d1 : (what == 1) = false) (d2 : (what == 2) = false) (d3 : (what == 3) = false) (ht : Tabs w1) (h : PgF w1 F W p most gone ls) (hF : ∀ b, F b → b < W.heap.size) (hv : lnEl.Rd G W (.slice a n c) ls) (hn : n = ls.length) (hG : ∀ b, G b → b < W.heap.size ∧ ¬ F b) (hu : RdCells W (.slice ua m uc) cs) (hm : m = cs.length) (hlen : m ≤ 1000000) :
    Calls Tryd.prog 28 #[.pointer (some ⟨p, 0, none⟩), .agg #[.int .i64 most, .int .i64 gone, .slice a n c], .agg #[.int .i64 what, .int .i64 num, .slice ua m uc, .bool soft]] W fun e w' => DoesP w1 W F G most e w' := by
  have HP := Lib.hid h
  have HV := Lib.hid hv
  have HU := Lib.hid hu
  have Hn := Lib.hid hn
  have Hm := Lib.hid hm
  have HF := Lib.hid hF
  have HG := Lib.hid hG
  clear h hv hu hn hm hF hG
  have hw := Sees.refl W
  go_enter Tryd.func28, Tryd.ntmps28
  go_wp2_with fail
  refine calls_world (fun w2 hw2 => ?_)
  have A4 : RsAt w2 W.heap.size most gone (.slice a n c) := by subst hw2; exact ((RsAt.new rfl).alloc _).alloc _
  have A5 : AcAt w2 (W.heap.size + 1) what num (.slice ua m uc) soft := by subst hw2; exact (AcAt.new (by simp)).alloc _
  have A7 : RsAt w2 (W.heap.size + 1 + 1) 0 0 (.slice none 0 0) := by subst hw2; exact RsAt.new (by simp)
  have S2 : Sees W w2 := by subst hw2; exact (((Sees.refl W).alloc _).alloc _).alloc _
  clear hw2 hw
  refine (refCopy_any _ cs soft w2 (HU.out.sees S2) (by rw [← Hm.out]; exact hlen)).mono ?_
  rintro e w3 ⟨v3, rfl, ho, hs⟩
  obtain ⟨a3, c3, rfl⟩ := ho.slice
  rw [← Hm.out] at ho ⊢
  have H4 := Lib.hid (A4.sees hs)
  have H5 := Lib.hid (A5.sees hs)
  have H7 := Lib.hid (A7.sees hs)
  have HS3 := Lib.hid (S2.trans hs)
  have Ho3 := Lib.hid ho
  have Hl2 := Lib.hid A7.lt
  have Hlo := Lib.hid (fun g (hg : (Value.slice a3 m c3).ownBlock = some g) => (ho.base hg).2)
  obtain ⟨x0, x1, x2⟩ := H4.out.c
  obtain ⟨y0, y1, y2, y3⟩ := H5.out.c
  have g0 := fun o => ((Sees.refl w3).alloc o).cell x0
  have g1 := fun o => ((Sees.refl w3).alloc o).cell x1
  have g2 := fun o => ((Sees.refl w3).alloc o).cell x2
  have g3 := fun o => ((Sees.refl w3).alloc o).cell y0
  have g4 := fun o => ((Sees.refl w3).alloc o).cell y1
  have g5 := fun o => ((Sees.refl w3).alloc o).cell y2
  have g6 := fun o => ((Sees.refl w3).alloc o).cell y3
  clear A4 A5 A7 S2 hs ho x0 x1 x2 y0 y1 y2 y3
  go_wp2_with fail
  clear g0 g1 g2 g3 g4 g5 g6
  refine calls_world (fun w4 hw4 => ?_)
  have A9 : LnAt w4 w3.heap.size (.slice a3 m c3) soft := by subst hw4; exact LnAt.new rfl
  have S4 : Sees w3 w4 := by subst hw4; exact (Sees.refl w3).alloc _
  clear hw4
  have J4 := Lib.hid (H4.out.sees S4)
  have J5 := Lib.hid (H5.out.sees S4)
  have J7 := Lib.hid (H7.out.sees S4)
  have J9 := Lib.hid A9
  have HS4 := Lib.hid (HS3.out.trans S4)
  have Hz3 := Lib.hid HS3.out.size
  have Hl3 := Lib.hid H7.out.lt
  have Ho4 := Lib.hid (Ho3.out.sees S4)
  clear H4 H5 H7 A9 S4 Ho3 HS3
  refine (pgCopy_ok (HP.out.sees HS4.out).toS).mono ?_
  rintro e w5 ⟨q, rfl, hq, hs⟩
  have HnF : Hid (∀ b, W.heap.size ≤ b → ¬ F b) := Lib.hid (fun b hb hf => by have := HF.out b hf; omega)
  have HQ5 := Lib.hid (show PgF w1 (fun b => w4.heap.size ≤ b ∧ b < w5.heap.size) w5 q most gone ls from ⟨HP.out.see.trans (HS4.out.trans hs), hq.page, fun b hb => by have := HP.out.see.size; have := HS4.out.size; have := hb.1; omega, hq.most0, hq.most1, hq.gone0, hq.room, hq.ok⟩)
  have HS5 := Lib.hid (HS4.out.trans hs)
  have K7 := Lib.hid (J7.out.sees hs)
  have K4 := Lib.hid (J4.out.sees hs)
  have Hl5 := Lib.hid (show W.heap.size + 1 + 1 < w4.heap.size ∧ w4.heap.size ≤ w5.heap.size from ⟨J7.out.lt, hs.size⟩)
  clear d0 d1 d2 d3 hq hs J4 J5 J7 J9 Ho4
  go_wp2_with fail
  refine (text_any 113 w5).mono ?_
  rintro e w6 ⟨v6, rfl, ho6, hs6⟩
  obtain ⟨a6, c6, rfl⟩ := ho6.slice
  rw [show [one 113].length = 1 from rfl] at ho6 ⊢
  have HQ6 := Lib.hid (HQ5.out.sees hs6)
  have HS6 := Lib.hid (HS5.out.trans hs6)
  have Ho6 := Lib.hid ho6
  have L7 := Lib.hid (K7.out.sees hs6)
  have L4 := Lib.hid (K4.out.sees hs6)
  have Hl6 := Lib.hid hs6.size
  clear ho6 hs6 K7 K4 HQ5
  go_wp2_with fail
  refine (pgPush_any (H := fun b => W.heap.size ≤ b) (soft := false) (cs := [one 113]) (ht.sees (HP.out.see.trans HS6.out)) (HP.out.sees HS6.out) (Ho6.out.rdc.mono (G := fun b => W.heap.size ≤ b) (fun b _ hb => by have := HS5.out.size; omega)) HnF.out (by decide)).mono ?_
  rintro e w7 ⟨rfl, hp7, hk7⟩
  obtain ⟨ls7, hls7⟩ : ∃ x, x = (pushR most gone ls [one 113] false).1 := ⟨_, rfl⟩
  generalize (pushR most gone ls [one 113] false).2 = no7 at *
  rw [← hls7] at hp7
  clear hls7
  have HP7 := Lib.hid hp7.cut
  have HQ7 := Lib.hid (HQ6.out.keeps hk7 (fun b hb => HnF.out b (by have := HS4.out.size; have := hb.1; omega)) HP.out.low)
  have HK7 := Lib.hid ((Keeps.of_sees (F := F) HS6.out).trans hk7)
  have M7 := Lib.hid (L7.out.keeps hk7 (HnF.out _ (by omega)))
  have M4 := Lib.hid (L4.out.keeps hk7 (HnF.out _ (by omega)))
  have Hl7 := Lib.hid hk7.size
  clear hp7 hk7 L7 L4 HQ6 Ho6
  go_wp2_with fail
  refine (text_any 112 w7).mono ?_
  rintro e w8 ⟨v8, rfl, ho8, hs8⟩
  obtain ⟨a8, c8, rfl⟩ := ho8.slice
  rw [show [one 112].length = 1 from rfl] at ho8 ⊢
  have Ho8 := Lib.hid ho8
  have HP8a := Lib.hid (HP7.out.sees hs8)
  have HQ8 := Lib.hid (HQ7.out.sees hs8)
  have HK8a := Lib.hid (HK7.out.trans (Keeps.of_sees hs8))
  have N7 := Lib.hid (M7.out.sees hs8)
  have N4 := Lib.hid (M4.out.sees hs8)
  have Hl8 := Lib.hid hs8.size
  clear ho8 hs8 M7 M4 HQ7 HP7 HK7
  go_wp2_with fail
  refine (pgSet_any (H := fun b => w7.heap.size ≤ b) (soft := false) (cs := [one 112]) (ht.sees HP8a.out.see) HP8a.out 0 Ho8.out.rdc (fun b hb hf => by have := hf.2; omega) (by decide)).mono ?_
  rintro e w9 ⟨rfl, hp9, hk9⟩
  obtain ⟨ls9, hls9⟩ : ∃ x, x = (setR ls7 0 [one 112] false).1 := ⟨_, rfl⟩
  generalize (setR ls7 0 [one 112] false).2 = no9 at *
  rw [← hls9] at hp9
  clear hls9
  have HB : Hid (∀ b, ((F b ∨ w6.heap.size ≤ b) ∧ b < w7.heap.size) → F b ∨ w6.heap.size ≤ b) := Lib.hid (fun b hb => hb.1)
  have HP9 := Lib.hid hp9
  have HQ9 := Lib.hid (HQ8.out.keeps hk9 (fun b hb hf => by rcases hf.1 with h | h; exact HnF.out b (by have := HS4.out.size; have := hb.1; omega) h; have := hb.2; have := Hl6.out; omega) HP8a.out.low)
  have HK9 := Lib.hid (HK8a.out.trans' hk9 (fun b hb hf => by rcases hf.1 with h | h; exact h; have := HS6.out.size; omega))
  have M7 := Lib.hid (N7.out.keeps hk9 (fun hf => by rcases hf.1 with h | h; exact HnF.out _ (by omega) h; have := Hl5.out; have := Hl6.out; omega))
  have M4 := Lib.hid (N4.out.keeps hk9 (fun hf => by rcases hf.1 with h | h; exact HnF.out _ (by omega) h; have := Hl5.out; have := Hl6.out; omega))
  have Hl9 := Lib.hid hk9.size
  clear hp9 hk9 N7 N4 HQ8 HP8a HK8a Ho8
  go_wp2_with fail
  refine (pgDrop_any HP9.out 1).mono ?_
  rintro e w10 ⟨rfl, -, hk10⟩
  generalize (dropR gone ls9 1).2.2 = no10 at *
  obtain ⟨F2, hF2⟩ : ∃ F2 : Nat → Prop, F2 = fun b => w4.heap.size ≤ b ∧ b < w5.heap.size := ⟨_, rfl⟩
  obtain ⟨G2, hG2⟩ : ∃ G2 : Nat → Prop, G2 = G := ⟨_, rfl⟩
  have HX : Hid (∀ b, (((F b ∨ w6.heap.size ≤ b) ∧ b < w7.heap.size) ∨ w8.heap.size ≤ b) → F b ∨ w6.heap.size ≤ b) := Lib.hid (fun b hb => by rcases hb with h | h; exact h.1; have := Hl7.out; have := Hl8.out; exact .inr (by omega))
  have HP8 := Lib.hid (HQ9.out.keeps hk10 (fun b hb hf => by rcases HX.out b hf with h | h; exact HnF.out b (by have := HS4.out.size; have := hb.1; omega) h; have := hb.2; have := Hl6.out; omega) HP9.out.low)
  have HK8 := Lib.hid (HK9.out.trans' hk10 (fun b hb hf => by rcases HX.out b hf with h | h; exact h; have := HS6.out.size; omega))
  have D7 := Lib.hid (M7.out.keeps hk10 (fun hf => by rcases HX.out _ hf with h | h; exact HnF.out _ (by omega) h; have := Hl5.out; have := Hl6.out; omega))
  have DN := Lib.hid (M4.out.keeps hk10 (fun hf => by rcases HX.out _ hf with h | h; exact HnF.out _ (by omega) h; have := Hl5.out; have := Hl6.out; omega))
  have HR8 := Lib.hid (HV.out.keeps HK8.out (fun b hb => (HG.out b hb).2))
  rw [← hF2] at HP8
  rw [← hG2] at HR8
  have HFG : Hid (∀ b, G2 b → ¬ F2 b) := Lib.hid (by subst hF2 hG2; intro b hb hf; have := (HG.out b hb).1; have := Hl5.out; have := hf.1; omega)
  have HFN : Hid (∀ b, F2 b → F b ∨ W.heap.size ≤ b) := Lib.hid (by subst hF2; intro b hb; have := HS4.out.size; exact .inr (by have := hb.1; omega))
  have HGN : Hid (∀ b, G2 b → G b ∨ W.heap.size ≤ b) := Lib.hid (by subst hG2; exact fun b hb => .inl hb)
  have HF7 : Hid (¬ F2 (W.heap.size + 1 + 1)) := Lib.hid (by subst hF2; intro hb; have := hb.1; have := Hl5.out; omega)
  have HG7 : Hid (¬ G2 (W.heap.size + 1 + 1)) := Lib.hid (by subst hG2; intro hb; have := (HG.out _ hb).1; omega)
  clear hk10 hF2 hG2 HQ9 HK9 HP9 M7 M4
  go_wp2_with fail
  have HW1 := Lib.hid (HP.out.see.size)
  refine wpH_go (fun b => b = W.heap.size + 1 + 1) 5 (by kernel_rfl) (by kernel_rfl) (by rfl) (fun hB w10 hs10 => ?_)
  have E7 := Lib.hid (D7.out.sees hs10)
  have EN := Lib.hid (DN.out.sees hs10)
  have EP := Lib.hid (HP8.out.sees hs10)
  have ER := Lib.hid (HR8.out.sees hs10)
  have EK := Lib.hid (HK8.out.trans (Keeps.of_sees hs10))
  clear hs10
  have hS0 : Keeps (fun b => b = W.heap.size + 1 + 1) w10 w10 := Keeps.refl _ w10
  refine wpH_take (i := 0) (v := .pointer (some ⟨q, 0, none⟩)) hB (by rfl) (by kernel_rfl) (fun _ _ _ _ _ h => h) (by rfl) hS0 (fun W hI => by clear hI; go_simp) ?_; (try simp only [Act.put, List.setIfInBounds_toArray, List.set_cons_zero, List.set_cons_succ])
  refine wpH_take (i := 1) (v := .agg #[.int .i64 most, .int .i64 gone, .slice a n c]) hB (by rfl) (by kernel_rfl) (fun _ _ _ _ _ h => h) (by rfl) hS0 (fun W hI => by have q := (EN.out.keeps hI (by omega)).c; obtain ⟨q0, q1, q2⟩ := q; go_simp) ?_; (try simp only [Act.put, List.setIfInBounds_toArray, List.set_cons_zero, List.set_cons_succ])
  refine wpH_one (i := 2) (by kernel_rfl) (wpOp_val (v := .pointer (some ⟨q, 0, none⟩)) (w' := w10) (by rfl) (wanted_none (by rfl) _) (by go_simp) ⟨hS0, ?_⟩)
  (try simp only [Act.put, List.setIfInBounds_toArray, List.set_cons_zero, List.set_cons_succ])
  obtain ⟨w11, hw11⟩ : ∃ w11, w11 = w10.setRow (W.heap.size + 1 + 1) #[.int .i64 most, .int .i64 gone, .slice a n c] := ⟨_, rfl⟩
  have Hst := Lib.hid (show (Instr.storeAt 50 (.pointer (some ⟨W.heap.size + 1 + 1, 0, none⟩)) (.agg #[.int .i64 most, .int .i64 gone, .slice a n c])).run Tryd.prog w10 = .ok () w11 by rw [hw11]; exact run_storeAt_row (P := Tryd.prog) (W := w10) 50 (W.heap.size + 1 + 1) _ 50 [.int .i64 most, .int .i64 gone, .slice a n c] (fun _ => by kernel_rfl) E7.out rfl (by intro v hv; simp only [List.mem_cons, List.not_mem_nil, or_false] at hv; rcases hv with rfl | rfl | rfl <;> rfl))
  have Hk11 := Lib.hid (show Keeps (fun b => b = W.heap.size + 1 + 1) w10 w11 by rw [hw11]; exact ⟨rfl, rfl, rfl, by simp [World.setRow], fun b hb hne => setRow_other w10 _ b _ (fun e => hne e)⟩)
  have D11 := Lib.hid (show RsAt w11 (W.heap.size + 1 + 1) most gone (.slice a n c) by rw [hw11]; exact setRow_heap _ _ _ _ _ (0, 0) E7.out)
  clear hw11
  refine wpH_one (i := 3) (by kernel_rfl) (wpOp_skip (w' := w11) (by rfl) (wanted_none (by rfl) _) (exec_store (a := .pointer (some ⟨W.heap.size + 1 + 1, 0, none⟩)) (v := .agg #[.int .i64 most, .int .i64 gone, .slice a n c]) rfl (by go_simp) (by go_simp) Hst.out) ⟨Hk11.out, ?_⟩)
  (try simp only [Act.put, List.setIfInBounds_toArray, List.set_cons_zero, List.set_cons_succ])
  refine wpH_one (i := 4) (by kernel_rfl) (wpOp_val (v := .bool true) (w' := w11) (by rfl) (wanted_none (by rfl) _) (by go_simp) ⟨Hk11.out, ?_⟩)
  (try simp only [Act.put, List.setIfInBounds_toArray, List.set_cons_zero, List.set_cons_succ])
  refine wpH_end (by kernel_rfl) ?_
  obtain ⟨z0, z1, z2⟩ := D11.out.c
  go_wp2
  refine bodyPost_ret_by (v := .tuple #[.pointer (some ⟨q, 0, none⟩), .agg #[.int .i64 most, .int .i64 gone, .slice a n c], .bool true]) (by simp [results, Tryd.results28, go_sem, z0, z1, z2]) rfl ⟨_, _, ls, _, F2, G2, rfl, ?_, ?_, HFG.out, ?_, HFN.out, HGN.out⟩
  · exact EP.out.keeps Hk11.out (fun b hb e => HF7.out (e ▸ hb)) (fun b e => by have := HW1.out; omega)
  · exact ER.out.keeps Hk11.out (fun b hb e => HG7.out (e ▸ hb))
  · exact EK.out.trans' Hk11.out (fun b hb e => by omega)
/-- Whatever the call is. -/
theorem does_any (ht : Tabs w1) (h : PgF w1 F W p most gone ls) (hv : lnEl.Rd G W (.slice a n c) ls) (hG : ∀ b, G b → ¬ F b) (hu : RdCells W (.slice ua m uc) cs) (hlen : m ≤ 1000000) (what : Int) :
    Calls Tryd.prog 28 #[.pointer (some ⟨p, 0, none⟩), .agg #[.int .i64 most, .int .i64 gone, .slice a n c], .agg #[.int .i64 what, .int .i64 num, .slice ua m uc, .bool soft]] W fun e w' => DoesP w1 W (fun b => F b ∧ b < W.heap.size) (fun b => G b ∧ b < W.heap.size) most e w' := by
  have h' := h.cut
  have hv' := hv.mono (G := fun b => G b ∧ b < W.heap.size) (fun b hb h => ⟨h, hb⟩)
  have hn := hv.len
  have hm := hu.slice
  have hG' : ∀ b, (G b ∧ b < W.heap.size) → b < W.heap.size ∧ ¬ (F b ∧ b < W.heap.size) := fun b hb => ⟨hb.2, fun hf => hG b hb.1 hf.1⟩
  by_cases h0 : what = 0
  · subst h0; exact doesPush ht h' (fun b hb => hb.2) hv' hn hG' hu hm hlen
  by_cases h1 : what = 1
  · subst h1; exact doesSet ht h' (fun b hb => hb.2) hv' hn hG' hu hm hlen
  by_cases h2 : what = 2
  · subst h2; exact doesDrop ht h' (fun b hb => hb.2) hv' hn hG' hu hm hlen
  by_cases h3 : what = 3
  · subst h3; exact doesPop ht h' (fun b hb => hb.2) hv' hn hG' hu hm hlen
  exact doesCopy what (beq_eq_false_iff_ne.2 h0) (beq_eq_false_iff_ne.2 h1) (beq_eq_false_iff_ne.2 h2) (beq_eq_false_iff_ne.2 h3) ht h' (fun b hb => hb.2) hv' hn hG' hu hm hlen
end
end Go.Proofs.YtfeoejpbmpdkaaaDoor

namespace Go.Proofs.YtfeoejpbmpdkaaaDoor
set_option linter.unusedVariables false
set_option linter.unusedSimpArgs false
open Go.RowKit

set_option maxRecDepth 100000 in
set_option maxHeartbeats 1000000 in
theorem plays_out (n : Int) (v : Value) (acts : List Act7) (w : World) (ht : Tabs w) (ha : actEl.Rd (fun b => b < w.heap.size) w v acts) (h : decide (n < 1) = true ∨ (decide (n < 1) = false ∧ decide (n > 1024) = true)) :
    Calls Tryd.prog 5 #[.int .i64 n, v] w fun e w' => e = .returned (.bool true) ∧ Sees w w' := by
  have Ht := Lib.hid ht
  have Hn := Lib.hid h
  obtain ⟨ao, cap, rfl, _⟩ := ha.slice'
  clear ht ha
  rcases h with h1 | ⟨h1, h2⟩
  all_goals
    go_enter Tryd.func5, Tryd.ntmps5
    go_wp2_with fail
    refine (none_true n w Hn.out).mono ?_
    rintro e w1 ⟨rfl, hs⟩
    go_wp2_with fail
    refine (known07 w1 (Ht.out.sees hs)).mono ?_
    rintro e w2 ⟨rfl, hs2⟩
    go_wp2
    go_ret
    exact ⟨rfl, hs.trans hs2⟩

set_option maxRecDepth 100000 in
set_option maxHeartbeats 8000000 in
theorem plays_in (n : Int) (v : Value) (acts : List Act7) (w : World) (ht : Tabs w) (ha : actEl.Rd (fun b => b < w.heap.size) w v acts) (h1 : 1 ≤ n) (h2 : n ≤ 1024) :
    Calls Tryd.prog 5 #[.int .i64 n, v] w fun e w' => e = .returned (.bool true) ∧ Sees w w' := by
  have Ht := Lib.hid ht
  obtain ⟨ao, cap, rfl, hcap⟩ := ha.slice'
  obtain ⟨m, hm⟩ : ∃ m, m = acts.length := ⟨_, rfl⟩
  rw [← hm] at ha hcap ⊢
  have Hm := Lib.hid hm
  have Ha := Lib.hid ha
  clear ht hm ha hcap
  have d1 : decide (n < 1) = false := decide_eq_false (by omega)
  have d2 : decide (n > 1024) = false := decide_eq_false (by omega)
  go_enter Tryd.func5, Tryd.ntmps5
  go_wp2_with fail
  refine (new_pg n w h1 h2).mono ?_
  rintro e w1 ⟨rfl, P⟩
  have P1 := Lib.hid (PgF.of_new n P)
  have HS1 := Lib.hid P.see
  clear P
  go_wp2_with fail
  have hfew := few_any _ _ acts w1 (Ha.out.sees HS1.out)
  refine hfew.mono ?_
  rintro e w2 ⟨rfl, hs2⟩
  have P2 := Lib.hid (P1.out.sees hs2)
  have HS2 := Lib.hid (HS1.out.trans hs2)
  have hsz := Lib.hid hs2.size
  clear hs2 P1 hfew
  by_cases hf : fewB acts = true
  · rw [hf]
    have Hf := Lib.hid (fewB_ok hf)
    have hm40 : m ≤ 40 := by have := Hf.out.1; have := Hm.out; omega
    clear hf
    go_wp2_with fail
    refine wp_world (fun w3 hw3 => ?_)
    have A3 : RsAt w3 w2.heap.size n 0 (.slice none 0 0) := by subst hw3; exact RsAt.new rfl
    have S3 : Sees w2 w3 := by subst hw3; exact (Sees.refl w2).alloc _
    have P3 := Lib.hid (P2.out.sees S3)
    have HA3 := Lib.hid A3
    have HS3 := Lib.hid (HS2.out.trans S3)
    obtain ⟨B, hB⟩ : ∃ B, B = w2.heap.size := ⟨_, rfl⟩
    rw [← hB] at HA3 ⊢
    have HB0 : Hid (w.heap.size ≤ B) := Lib.hid (by rw [hB]; exact HS2.out.size)
    have HB1 : Hid (¬ (w.heap.size ≤ B ∧ B < w1.heap.size)) := Lib.hid (by rw [hB]; have := hsz.out; omega)
    clear hw3 A3 S3 hB P2
    have hat0 : ∃ (q : Nat) (gone : Int) (ls : List Ln) (F G : Nat → Prop) (a : Option Addr) (c : Nat), Value.pointer (some ⟨w.heap.size, 0, none⟩) = .pointer (some ⟨q, 0, none⟩) ∧ PgF w F w3 q n gone ls ∧ RsAt w3 B n gone (.slice a ls.length c) ∧ lnEl.Rd G w3 (.slice a ls.length c) ls ∧ (∀ b, G b → ¬ F b) ∧ ¬ F B ∧ ¬ G B ∧ Sees w w3 :=
      ⟨_, 0, [], _, fun _ => False, none, 0, rfl, P3.out, HA3.out, El.Rd.nil _ _, fun b h => h.elim, HB1.out, fun h => h, HS3.out⟩
    have Hat0 := Lib.hid hat0
    clear hat0 P3 HA3 HS2 HB1 HS1
    go_loopw [5, 53] (fun v i W => ∃ k : Nat, k ≤ m ∧ i = .int .i64 k ∧ ∃ (q : Nat) (gone : Int) (ls : List Ln) (F G : Nat → Prop) (a : Option Addr) (c : Nat), v = .pointer (some ⟨q, 0, none⟩) ∧ PgF w F W q n gone ls ∧ RsAt W B n gone (.slice a ls.length c) ∧ lnEl.Rd G W (.slice a ls.length c) ls ∧ (∀ b, G b → ¬ F b) ∧ ¬ F B ∧ ¬ G B ∧ Sees w W) (fun _ i _ => m - (intOf i).toNat)
    case atStart => exact ⟨0, by omega, rfl, Hat0.out⟩
    case round =>
      obtain ⟨k, hk, rfl, q, gone, ls, F, G, a, c, rfl, hP, hA, hR, hGF, hFB, hGB, hS⟩ := hrel
      clear Hat0
      obtain ⟨ln, hln⟩ : ∃ x, x = ls.length := ⟨_, rfl⟩
      rw [← hln] at hA hR
      have HP := Lib.hid hP
      have HR := Lib.hid hR
      have HGF := Lib.hid hGF
      have HFB := Lib.hid hFB
      have HGB := Lib.hid hGB
      have HA := Lib.hid hA
      have HS := Lib.hid hS
      have Hln := Lib.hid hln
      clear hP hR hGF hFB hGB hA hS hln
      by_cases hlt : k < m
      · obtain ⟨bb, bo, ac, ua, um, rfl, -, hac, -, ⟨y0, y1, y2, y3⟩, hcs⟩ := Ha.out.act hlt
        have y0 := HS.out.cell y0
        have y1 := HS.out.cell y1
        have y2 := HS.out.cell y2
        have y3 := HS.out.cell y3
        have Hcs := Lib.hid (hcs.sees HS.out).rdCells
        have Hac := Lib.hid (Hf.out.2 ac (List.mem_iff_getElem?.2 ⟨_, hac⟩))
        obtain ⟨x0, x1, x2⟩ := HA.out.c
        have g0 := fun o => ((Sees.refl wr).alloc o).cell x0
        have g1 := fun o => ((Sees.refl wr).alloc o).cell x1
        have g2 := fun o => ((Sees.refl wr).alloc o).cell x2
        clear hcs hac x0 x1 x2
        obtain ⟨what, num, cs, soft⟩ := ac
        simp only [] at *
        generalize hcm : cs.length = cm at *
        have Hcm := Lib.hid hcm
        clear hcm
        go_wp2_with fail
        refine calls_world (fun W1 hW1 => ?_)
        have S1 : Sees wr W1 := by subst hW1; exact (Sees.refl wr).alloc _
        clear hW1 g0 g1 g2 y0 y1 y2 y3
        have HA1 := Lib.hid (HA.out.sees S1)
        have HlB := Lib.hid HA1.out.lt
        have HlW := Lib.hid (show B < W1.heap.size from HA1.out.lt)
        refine (does_any (Ht.out) (HP.out.sees S1) (HR.out.sees S1) HGF.out (Hcs.out.sees S1) (by have := Hac.out; have := Hcm.out; omega) what).mono ?_
        rintro e W2 ⟨q2, gone2, ls2, v2, F2, G2, rfl, hp2, hr2, hfg2, hk2, hfn2, hgn2⟩
        obtain ⟨a2, c2, rfl, -⟩ := hr2.slice'
        have HP2 := Lib.hid hp2
        have HFG2 := Lib.hid hfg2
        have HA2 := Lib.hid (HA1.out.keeps hk2 (fun h => HFB.out h.1))
        have HFB2 : Hid (¬ F2 B) := Lib.hid (fun h => by rcases hfn2 B h with h | h; exact HFB.out h.1; have := HlW.out; omega)
        have HGB2 : Hid (¬ G2 B) := Lib.hid (fun h => by rcases hgn2 B h with h | h; exact HGB.out h.1; have := HlW.out; omega)
        obtain ⟨n2, hn2⟩ : ∃ x, x = ls2.length := ⟨_, rfl⟩
        rw [← hn2] at hr2 ⊢
        have Hn2 := Lib.hid hn2
        have HR2 := Lib.hid hr2
        clear hp2 hr2 hfg2 hk2 hfn2 hgn2 hn2 HP HR HGF HFB HGB HA HA1 S1 Hcs Hac Hcm HlB HlW Hln
        go_wp2_with fail
        refine calls_world (fun W3 hW3 => ?_)
        have A3 : RsAt W3 W2.heap.size n gone2 (.slice a2 n2 c2) := by subst hW3; exact RsAt.new rfl
        have S3 : Sees W2 W3 := by subst hW3; exact (Sees.refl W2).alloc _
        clear hW3
        refine (looks_any (HP2.out.sees S3).toS G2 _ (HR2.out.sees S3)).mono ?_
        rintro e W4 ⟨rfl, hs4⟩
        have HN4 := Lib.hid (A3.sees hs4)
        have HBn : Hid (B ≠ W2.heap.size) := Lib.hid (by have := HA2.out.lt; omega)
        have S4 := S3.trans hs4
        have HA4 := Lib.hid (HA2.out.sees S4)
        have HP4 := Lib.hid (HP2.out.sees S4)
        have HR4 := Lib.hid (HR2.out.sees S4)
        clear A3 S3 S4 hs4 HA2 HP2 HR2
        go_wp2_with fail
        refine wpH_go (fun b => b = B) 4 (by kernel_rfl) (by kernel_rfl) (by rfl) (fun hB w10 hs10 => ?_)
        have EB := Lib.hid (HA4.out.sees hs10)
        have EN := Lib.hid (HN4.out.sees hs10)
        have EP := Lib.hid (HP4.out.sees hs10)
        have ER := Lib.hid (HR4.out.sees hs10)
        clear hs10 HA4 HN4 HP4 HR4
        have hS0 : Keeps (fun b => b = B) w10 w10 := Keeps.refl _ w10
        refine wpH_take (i := 0) (v := .pointer (some ⟨q2, 0, none⟩)) hB (by rfl) (by kernel_rfl) (fun _ _ _ _ _ h => h) (by rfl) hS0 (fun W hI => by clear hI; go_simp) ?_; (try simp only [Act.put, List.setIfInBounds_toArray, List.set_cons_zero, List.set_cons_succ])
        refine wpH_take (i := 1) (v := .agg #[.int .i64 n, .int .i64 gone2, .slice a2 n2 c2]) hB (by rfl) (by kernel_rfl) (fun _ _ _ _ _ h => h) (by rfl) hS0 (fun W hI => by have q := (EN.out.keeps hI (fun e => HBn.out e.symm)).c; obtain ⟨q0, q1, q2⟩ := q; go_simp) ?_; (try simp only [Act.put, List.setIfInBounds_toArray, List.set_cons_zero, List.set_cons_succ])
        refine wpH_one (i := 2) (by kernel_rfl) (wpOp_val (v := .pointer (some ⟨q2, 0, none⟩)) (w' := w10) (by rfl) (wanted_none (by rfl) _) (by go_simp) ⟨hS0, ?_⟩)
        (try simp only [Act.put, List.setIfInBounds_toArray, List.set_cons_zero, List.set_cons_succ])
        obtain ⟨w11, hw11⟩ : ∃ w11, w11 = w10.setRow B #[.int .i64 n, .int .i64 gone2, .slice a2 n2 c2] := ⟨_, rfl⟩
        have Hst := Lib.hid (show (Instr.storeAt 50 (.pointer (some ⟨B, 0, none⟩)) (.agg #[.int .i64 n, .int .i64 gone2, .slice a2 n2 c2])).run Tryd.prog w10 = .ok () w11 by rw [hw11]; exact run_storeAt_row (P := Tryd.prog) (W := w10) 50 B _ 50 [.int .i64 n, .int .i64 gone2, .slice a2 n2 c2] (fun _ => by kernel_rfl) EB.out rfl (by intro v hv; simp only [List.mem_cons, List.not_mem_nil, or_false] at hv; rcases hv with rfl | rfl | rfl <;> rfl))
        have Hk11 := Lib.hid (show Keeps (fun b => b = B) w10 w11 by rw [hw11]; exact ⟨rfl, rfl, rfl, by simp [World.setRow], fun b hb hne => setRow_other w10 _ b _ (fun e => hne e)⟩)
        have D11 := Lib.hid (show RsAt w11 B n gone2 (.slice a2 n2 c2) by rw [hw11]; exact setRow_heap _ _ _ _ _ (0, 0) EB.out)
        clear hw11
        refine wpH_one (i := 3) (by kernel_rfl) (wpOp_skip (w' := w11) (by rfl) (wanted_none (by rfl) _) (exec_store (a := .pointer (some ⟨B, 0, none⟩)) (v := .agg #[.int .i64 n, .int .i64 gone2, .slice a2 n2 c2]) rfl (by go_simp) (by go_simp) Hst.out) ⟨Hk11.out, ?_⟩)
        (try simp only [Act.put, List.setIfInBounds_toArray, List.set_cons_zero, List.set_cons_succ])
        refine wpH_end (by kernel_rfl) ?_
        have HP11 := Lib.hid (EP.out.keeps Hk11.out (fun b hb e => HFB2.out (e ▸ hb)) (fun b e => by have := HB0.out; omega))
        have HR11 := Lib.hid (ER.out.keeps Hk11.out (fun b hb e => HGB2.out (e ▸ hb)))
        clear EB EN EP ER Hst Hk11
        go_wp2
        refine ⟨⟨k + 1, by omega, by go_num, q2, gone2, ls2, F2, G2, a2, c2, rfl, HP11.out, ?_, ?_, HFG2.out, HFB2.out, HGB2.out, HP11.out.see⟩, by simp [intOf] <;> omega⟩
        · rw [← Hn2.out]; exact D11.out
        · rw [← Hn2.out]; exact HR11.out
      · obtain rfl : k = m := by omega
        go_wp2_with fail
        refine (known07 wr (Ht.out.sees HS.out)).mono ?_
        rintro e w3 ⟨rfl, hs3⟩
        go_wp2
        go_ret
        exact ⟨rfl, HS.out.trans hs3⟩
  · have hf0 : fewB acts = false := by simpa using hf
    rw [hf0]
    clear hf hf0
    go_wp2_with fail
    refine (known07 w2 (Ht.out.sees HS2.out)).mono ?_
    rintro e w3 ⟨rfl, hs3⟩
    go_wp2
    go_ret
    exact ⟨rfl, HS2.out.trans hs3⟩
theorem sheetPlays_any (n : Int) (v : Value) (acts : List Act7) (w : World) (ht : Tabs w) (ha : actEl.Rd (fun b => b < w.heap.size) w v acts) :
    Calls Tryd.prog 5 #[.int .i64 n, v] w fun e w' => e = .returned (.bool true) ∧ Sees w w' := by
  by_cases h1 : n < 1
  · exact plays_out n v acts w ht ha (.inl (decide_eq_true h1))
  · by_cases h2 : n > 1024
    · exact plays_out n v acts w ht ha (.inr ⟨decide_eq_false h1, decide_eq_true h2⟩)
    · exact plays_in n v acts w ht ha (by omega) (by omega)
end Go.Proofs.YtfeoejpbmpdkaaaDoor
