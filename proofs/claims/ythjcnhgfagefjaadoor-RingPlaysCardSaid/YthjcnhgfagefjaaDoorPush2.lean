/- Adding a line to a page. Adding a line to a page that has room. No condition. -/
import Derived.Test.YthjcnhgfagefjaaDoorPage
namespace Go.Proofs.YthjcnhgfagefjaaDoor
set_option linter.unusedVariables false
set_option linter.unusedSimpArgs false
open Go.RowKit

theorem infoLine : (Tryd.prog.info? 36).map (fun i => (i.zero, i.size, i.bytes)) = some (some (.agg #[.slice none 0 0, .bool false]), 2, 32) := by kernel_rfl
/-- A line of its own is appended to lines of their own. -/
theorem run_append_line {F : Nat → Prop} {W : World} (ty : TypeId) (N : Nat) (v : Value) (ls : List Ln) (h : OwnL (fun b => F b ∧ b < N) W v ls) (b : Nat) (c : Nat) (a : Value) (l : Ln) (x1 : W.cell? ⟨b, 0, none⟩ = some a) (x2 : W.cell? ⟨b, 1, none⟩ = some (.bool l.soft))
    (hown : OwnCells W N a l.cells) (hN : ∀ b, N ≤ b → F b) (hz : N ≤ W.heap.size) (hn : ls.length ≤ 1000000) :
    ∃ v' W', (Builtin.append_ #[30, 30] ty #[v, .slice (some ⟨b, 0, none⟩) 1 c]).run Tryd.prog W = .ok v' W' ∧ OwnL F W' v' (ls ++ [l]) ∧ Keeps (fun b => v.ownBlock = some b) W W' := by
  obtain ⟨i0, hi, hz0, hz1, hz2⟩ := info_parts infoLine
  obtain ⟨xs, hr, hvF, hin⟩ := h
  have hlen := hin.length
  obtain ⟨v', W', h1, h2, h3, h4, h5⟩ := run_append_own_at (P := Tryd.prog) (w := W) 0 30 ty 36 i0 _ 2 32 Tryd.underlying30 hi hz0 hz1 hz2 rfl (by decide) v ls.length xs hr ⟨b, 0, none⟩ 1 c [a, .bool l.soft] rfl
    (by
      intro j u hu
      rcases j with _ | _ | j
      · cases hu; exact x1
      · cases hu; exact x2
      · cases hu) (by
      intro u hu
      simp at hu
      rcases hu with rfl | rfl
      · obtain ⟨_, _, rfl⟩ := hown.slice; rfl
      · rfl) (by unfold maxLen; omega) (by omega) (Nat.zero_le _)
  have hk : Keeps (fun b => v.ownBlock = some b) W W' := ⟨h3.os, h3.tape, h3.output, h3.size, fun b hb hne => h3.block b hb (fun e => hne e.symm)⟩
  refine ⟨v', W', h1, ⟨xs ++ [a, .bool l.soft], by rw [List.length_append]; exact h2, ?_, ?_⟩, hk⟩
  · intro g hg
    rcases h5 with h5 | h5
    · exact (hvF g (by rw [← h5]; exact hg)).1
    · rw [h5] at hg; cases hg; exact hN _ hz
  · have hb := hin.blocks
    have hin' : linesIn (fun b => F b ∧ v'.ownBlock ≠ some b) W' xs ls := by
      have hm : linesIn (fun b => (F b ∧ v'.ownBlock ≠ some b) ∧ v.ownBlock ≠ some b) W xs ls := by
        refine hin.mono fun b hb h => ⟨⟨h.1.1, fun e => ?_⟩, h.2⟩
        rcases h5 with h5 | h5
        · exact h.2 (h5 ▸ e)
        · rw [h5] at e; cases e; omega
      exact (hm.keeps hk (fun b hb h => hb.2 h)).mono (fun b _ h => h.1)
    refine linesIn.append ((hown.keeps hk ?_).mono (Nat.zero_le _)) ?_ hin' ?_
    · intro g hg he
      have := (hvF g he).2; have := (hown.base hg).1; omega
    · intro g hg
      have hb1 := hown.base hg
      refine ⟨hN g hb1.1, fun e => ?_⟩
      rcases h5 with h5 | h5
      · have := (hvF g (by rw [← h5]; exact e)).2; omega
      · rw [h5] at e; cases e; omega
    · intro g hg x hx he
      have := (hb x hx g he).1.1.2; have := (hown.base hg).1; omega

theorem push_no (s v : Value) (cs : List Cell) (soft : Bool) (w : World) (h : NoPg w s) (ha : RdCells w v cs) :
    Calls Tryd.prog 53 #[s, .agg #[v, .bool soft]] w fun e w' => e = .returned (.int .i64 1) ∧ Sees w w' := by
  obtain ⟨ao, ca, rfl, hh⟩ := ha
  clear hh
  have H := Lib.hid h; clear h
  go_enter Tryd.func53, Tryd.ntmps53
  go_wp2_with fail
  refine (zero_no _ _ (H.out.sees ((Sees.refl w).alloc _))).mono ?_
  rintro e w1 ⟨rfl, hs⟩
  go_wp2
  go_ret
  exact ⟨rfl, ((Sees.refl w).alloc _).trans hs⟩


set_option maxHeartbeats 1000000 in
theorem push_bad (p : Nat) (most gone : Int) (sv v : Value) (cs : List Cell) (soft : Bool) (w : World) (ht : Tabs w) (h : PgAt w p most gone sv) (hm : 0 < most) (ha : RdCells w v cs) (hn : cs.length ≤ 1000000) (hl : lnOk cs = false) :
    Calls Tryd.prog 53 #[.pointer (some ⟨p, 0, none⟩), .agg #[v, .bool soft]] w fun e w' => e = .returned (.int .i64 2) ∧ Sees w w' := by
  have Ha := Lib.hid ha
  obtain ⟨ao, ca, rfl, hh⟩ := ha
  have H := Lib.hid h
  have Hm := Lib.hid hm
  have Hn := Lib.hid hn
  have Ht := Lib.hid ht
  clear h hm hn hh ht
  obtain ⟨n, hnc⟩ : ∃ n, n = cs.length := ⟨_, rfl⟩
  rw [← hnc] at Ha Hn ⊢
  have Hnc := Lib.hid hnc
  clear hnc
  go_enter Tryd.func53, Tryd.ntmps53
  go_wp2_with fail
  refine (zero_at _ p _ _ _ (H.out.sees ((Sees.refl w).alloc _)) Hm.out).mono ?_
  rintro e w1 ⟨rfl, hs⟩
  have c0 : w1.cell? ⟨w.heap.size, 0, none⟩ = some (.slice ao n ca) := by rw [hs.cells _ _ (by simp)]; simp
  have c1 : w1.cell? ⟨w.heap.size, 1, none⟩ = some (.bool soft) := by rw [hs.cells _ _ (by simp)]; simp
  have Hs := Lib.hid (((Sees.refl w).alloc _).trans hs); clear hs
  go_wp2_with fail
  refine (lineValid_any _ cs soft _ (Ht.out.sees Hs.out) (Ha.out.sees Hs.out) (by rw [← Hnc.out]; exact Hn.out)).mono ?_
  rintro e w2 ⟨rfl, hs2⟩
  go_wp2
  go_ret
  exact ⟨rfl, Hs.out.trans hs2⟩

set_option maxHeartbeats 1000000 in
theorem push_full (p : Nat) (most gone : Int) (a : Option Addr) (k c : Nat) (v : Value) (cs : List Cell) (soft : Bool) (w : World) (ht : Tabs w) (h : PgAt w p most gone (.slice a k c)) (hm : 0 < most ∧ most ≤ 1024 ∧ 0 ≤ gone ∧ most = gone + k) (ha : RdCells w v cs) (hn : cs.length ≤ 1000000) (hl : lnOk cs = true) :
    Calls Tryd.prog 53 #[.pointer (some ⟨p, 0, none⟩), .agg #[v, .bool soft]] w fun e w' => e = .returned (.int .i64 7) ∧ Sees w w' := by
  have Ha := Lib.hid ha
  obtain ⟨ao, ca, rfl, hh⟩ := ha
  have H := Lib.hid h
  have Hm := Lib.hid hm
  have Hn := Lib.hid hn
  have Ht := Lib.hid ht
  clear h hm hn hh ht
  obtain ⟨n, hnc⟩ : ∃ n, n = cs.length := ⟨_, rfl⟩
  rw [← hnc] at Ha Hn ⊢
  have Hnc := Lib.hid hnc
  clear hnc
  go_enter Tryd.func53, Tryd.ntmps53
  go_wp2_with fail
  refine (zero_at _ p _ _ _ (H.out.sees ((Sees.refl w).alloc _)) Hm.out.1).mono ?_
  rintro e w1 ⟨rfl, hs⟩
  have c0 : w1.cell? ⟨w.heap.size, 0, none⟩ = some (.slice ao n ca) := by rw [hs.cells _ _ (by simp)]; simp
  have c1 : w1.cell? ⟨w.heap.size, 1, none⟩ = some (.bool soft) := by rw [hs.cells _ _ (by simp)]; simp
  have Hs := Lib.hid (((Sees.refl w).alloc _).trans hs); clear hs
  go_wp2_with fail
  refine (lineValid_any _ cs soft _ (Ht.out.sees Hs.out) (Ha.out.sees Hs.out) (by rw [← Hnc.out]; exact Hn.out)).mono ?_
  rintro e w2 ⟨rfl, hs2⟩
  have Hs2 := Lib.hid (Hs.out.trans hs2); clear hs2
  go_wp2_with fail
  refine (room_at _ p most gone a k c (H.out.sees Hs2.out) Hm.out.1 Hm.out.2.1 Hm.out.2.2.1 (by have := Hm.out; omega) (by have := Hm.out; omega)).mono ?_
  rintro e w3 ⟨rfl, hs3⟩
  have hd : (most - gone - (k : Int) == 0) = true := by rw [beq_iff_eq]; have := Hm.out; omega
  go_wp2
  go_ret
  exact ⟨rfl, Hs2.out.trans hs3⟩
end Go.Proofs.YthjcnhgfagefjaaDoor

namespace Go.Proofs.YthjcnhgfagefjaaDoor
set_option linter.unusedVariables false
set_option linter.unusedSimpArgs false
open Go.RowKit

theorem PgAt.set {w : World} {p : Nat} {most gone : Int} {sv : Value} (h : PgAt w p most gone sv) (a : Option Addr) (n c : Nat) : PgAt (w.setCell ⟨p, 2, none⟩ (.slice a n c)) p most gone (.slice a n c) := by
  unfold PgAt at *; rw [heap_setCell_same _ _ _ _ _ _ h]; rfl
/-- What the writing region of 'Push' leans on. -/
def PushInv (F : Nat → Prop) (w : World) (p : Nat) (most gone : Int) (sv : Value) (ls : List Ln) (sl : Value) (soft : Bool) (d : Nat → Bool) (W : World) : Prop :=
  Keeps F w W ∧ W.heap[w.heap.size]? = some (.cells #[sl, .bool soft] 36 (0, 0)) ∧ (d 11 = false → PgAt W p most gone sv) ∧ (d 8 = false → OwnL (fun b => (F b ∧ b ≠ p) ∧ b < w.heap.size) W sv ls)
theorem PushInv.sees {F : Nat → Prop} {w : World} {p : Nat} {most gone : Int} {sv : Value} {ls : List Ln} {sl : Value} {soft : Bool} {d d' : Nat → Bool} {W W' : World} (h : PushInv F w p most gone sv ls sl soft d W) (hd : ∀ x, d x = true → d' x = true) (hs : Sees W W') : PushInv F w p most gone sv ls sl soft d' W' := by
  obtain ⟨h1, h2, h3, h4⟩ := h
  have hf : ∀ x, d' x = false → d x = false := fun x hx => by
    cases e : d x
    · rfl
    · rw [hd x e] at hx; cases hx
  exact ⟨h1.trans (Keeps.of_sees hs), by rw [hs.block _ (Array.getElem?_eq_some_iff.1 h2).1]; exact h2, fun h => (h3 (hf _ h)).sees hs, fun h => (h4 (hf _ h)).sees hs⟩

set_option maxHeartbeats 1000000 in
theorem push_ok (F G : Nat → Prop) (p : Nat) (most gone : Int) (ls : List Ln) (v : Value) (cs : List Cell) (soft : Bool) (w : World) (ht : Tabs w) (h : Page F w p most gone ls) (hm : most ≤ 1024 ∧ 0 ≤ gone ∧ gone + ls.length < most) (ha : RdC G w v cs) (hFG : ∀ b, G b → ¬ F b) (hn : cs.length ≤ 1000000) (hl : lnOk cs = true) :
    Calls Tryd.prog 53 #[.pointer (some ⟨p, 0, none⟩), .agg #[v, .bool soft]] w fun e w' => e = .returned (.int .i64 0) ∧ Page (fun b => F b ∨ w.heap.size ≤ b) w' p most gone (ls ++ [⟨cs, soft⟩]) ∧ Keeps F w w' := by
  have Ha := Lib.hid ha
  obtain ⟨ao, ca, rfl, hh⟩ := ha
  obtain ⟨Fp, sv, hp, hown⟩ := h
  obtain ⟨a, c, hsv⟩ := hown.slice
  have H := Lib.hid hp
  have Hp := Lib.hid hp.lt
  have HL := Lib.hid (hown.mono (G := fun b => (F b ∧ b ≠ p) ∧ b < w.heap.size) (fun b hb h => ⟨h, hb⟩))
  have Hm := Lib.hid hm
  have Hn := Lib.hid hn
  have Ht := Lib.hid ht
  have HF := Lib.hid Fp
  have HFG := Lib.hid hFG
  clear hm hn hh ht hp hown Fp hFG
  subst hsv
  obtain ⟨n, hnc⟩ : ∃ n, n = cs.length := ⟨_, rfl⟩
  rw [← hnc] at Ha Hn ⊢
  have Hnc := Lib.hid hnc
  clear hnc
  obtain ⟨k, hkc⟩ : ∃ k, k = ls.length := ⟨_, rfl⟩
  rw [← hkc] at H HL Hm
  have Hkc := Lib.hid hkc
  clear hkc
  go_enter Tryd.func53, Tryd.ntmps53
  go_wp2_with fail
  refine (zero_at _ p _ _ _ (H.out.sees ((Sees.refl w).alloc _)) (by have := Hm.out; omega)).mono ?_
  rintro e w1 ⟨rfl, hs⟩
  have c0 : w1.cell? ⟨w.heap.size, 0, none⟩ = some (.slice ao n ca) := by rw [hs.cells _ _ (by simp)]; simp
  have c1 : w1.cell? ⟨w.heap.size, 1, none⟩ = some (.bool soft) := by rw [hs.cells _ _ (by simp)]; simp
  have Hb : Hid (w1.heap[w.heap.size]? = some (.cells #[.slice ao n ca, .bool soft] 36 (0, 0))) := by
    unfold Hid; rw [hs.block _ (by simp)]; exact heap_alloc_new _ _
  have Hs := Lib.hid (((Sees.refl w).alloc _).trans hs); clear hs
  go_wp2_with fail
  refine (lineValid_any _ cs soft _ (Ht.out.sees Hs.out) (Ha.out.rd.sees Hs.out) (by rw [← Hnc.out]; exact Hn.out)).mono ?_
  rintro e w2 ⟨rfl, hs2⟩
  have Hb2 : Hid (w2.heap[w.heap.size]? = some (.cells #[.slice ao n ca, .bool soft] 36 (0, 0))) := by
    unfold Hid; rw [hs2.block _ (Array.getElem?_eq_some_iff.1 Hb.out).1]; exact Hb.out
  have Hs2 := Lib.hid (Hs.out.trans hs2); clear hs2 c0 c1
  go_wp2_with fail
  refine (room_at _ p most gone a k c (H.out.sees Hs2.out) (by have := Hm.out; omega) Hm.out.1 Hm.out.2.1 (by have := Hm.out; omega) (by have := Hm.out; omega)).mono ?_
  rintro e w3 ⟨rfl, hs3⟩
  have Hb3 : Hid (w3.heap[w.heap.size]? = some (.cells #[.slice ao n ca, .bool soft] 36 (0, 0))) := by
    unfold Hid; rw [hs3.block _ (Array.getElem?_eq_some_iff.1 Hb2.out).1]; exact Hb2.out
  have hd : (most - gone - (k : Int) == 0) = false := by rw [beq_eq_false_iff_ne]; have := Hm.out; omega
  have Hs3 := Lib.hid (Hs2.out.trans hs3); clear hs3 Hb Hb2 Hs Hs2
  go_wp2
  have hi0 : ∀ d, PushInv F w p most gone (.slice a k c) ls (.slice ao n ca) soft d w3 := fun d => ⟨Keeps.of_sees Hs3.out, Hb3.out, fun _ => H.out.sees Hs3.out, fun _ => HL.out.sees Hs3.out⟩
  have hst : allStay (fun _ => True) [.is (.pointer (some ⟨p, 0, none⟩)), .is (.pointer (some ⟨p, 0, none⟩)), .is (.pointer (some ⟨p, 0, none⟩)), .is (.pointer (some ⟨p, 2, none⟩)), .is (.slice a k c), .is (.agg #[.slice ao n ca, .bool soft]),
      .so (fun x W => ∃ v', x = .agg #[v', .bool soft] ∧ OwnCells W w.heap.size v' cs),
      .so (fun x W => ∃ b v', x = .slice (some ⟨b, 0, none⟩) 1 1 ∧ w.heap.size ≤ b ∧ W.heap[b]? = some (.cells #[v', .bool soft] 36 (0, 0)) ∧ OwnCells W w.heap.size v' cs),
      .so (fun x W => OwnL (fun b => (F b ∨ w.heap.size ≤ b) ∧ b ≠ p) W x (ls ++ [⟨cs, soft⟩])), .is (.pointer (some ⟨p, 0, none⟩)), .is (.pointer (some ⟨p, 2, none⟩)),
      .so (fun _ W => ∃ sv', PgAt W p most gone sv' ∧ OwnL (fun b => (F b ∨ w.heap.size ≤ b) ∧ b ≠ p) W sv' (ls ++ [⟨cs, soft⟩]))] :=
    ⟨fun u W W' _ ⟨v', h1, h2⟩ hs => ⟨v', h1, h2.sees hs⟩, fun u W W' _ ⟨b, v', h1, h2, h3, h4⟩ hs => ⟨b, v', h1, h2, by rw [hs.block _ (Array.getElem?_eq_some_iff.1 h3).1]; exact h3, h4.sees hs⟩, fun u W W' _ h hs => h.sees hs, fun u W W' _ ⟨sv', h1, h2⟩ hs => ⟨sv', h1.sees hs, h2.sees hs⟩, trivial⟩
  have hval : ∀ x v, (Spec.is x).val v = x := fun _ _ => rfl
  have hval2 : ∀ V v, (Spec.so V).val v = v := fun _ _ => rfl
  refine wp_rgD _ (PushInv F w p most gone (.slice a k c) ls (.slice ao n ca) soft) (by kernel_rfl) (by kernel_rfl) (fun d => (hi0 d).sees (fun _ h => h) (Sees.refl w3).drew) (fun d d' W W' h hd hs => h.sees hd hs) hst ?_
  have go0 := fun (d : Nat → Bool) (W : World) (h : PushInv F w p most gone (.slice a k c) ls (.slice ao n ca) soft d W) => h
  refine ⟨fun d vs W hI hr hV => .inl ⟨by go_simp, .inl (by go_simp)⟩, ?_⟩
  refine ⟨fun d vs W hI hr hV => .inl ⟨by go_simp, .inl (by go_simp)⟩, ?_⟩
  refine ⟨fun d vs W hI hr hV => .inl ⟨by go_simp, .inl (by go_simp)⟩, ?_⟩
  refine ⟨fun d vs W hI hr hV => .inl ⟨by go_simp, .inl (by go_simp)⟩, ?_⟩
  refine ⟨fun d vs W hI hr hV => .inl ⟨by go_simp, .inl (by have q := (hI.2.2.1 (hr 11 (by kernel_rfl))).c2; clear hI hV; go_simp)⟩, ?_⟩
  refine ⟨fun d vs W hI hr hV => .inl ⟨by go_simp, .inl (by have q := cell_row2 hI.2.1; obtain ⟨q0, q1⟩ := q; clear hI hV; go_simp)⟩, ?_⟩
  refine ⟨fun d vs W hI hr hV => ?_, ?_⟩
  · have hrd : RdCells W (.slice ao n ca) cs := (Ha.out.keeps hI.1 HFG.out).rd
    have hz := hI.1.size
    refine .inl ⟨by go_simp, .inr (.inr ⟨61, #[.agg #[.slice ao n ca, .bool soft]], by go_simp, ?_⟩)⟩
    refine (copy_any _ cs soft W hrd (by rw [← Hnc.out]; exact Hn.out)).mono ?_
    rintro e W' ⟨v', rfl, ho, hs⟩
    exact ⟨_, rfl, rgGoodD_sees hst (hI.sees (fun x hx => by simp only [hx, Bool.true_or]) hs) ⟨v', rfl, ho.mono (by omega)⟩ hs⟩
  refine ⟨fun d vs W hI hr hV => ?_, ?_⟩
  · obtain ⟨v', e, ho⟩ : ∃ v', vs 6 = .agg #[v', .bool soft] ∧ OwnCells W w.heap.size v' cs := hV 6 _ (by kernel_rfl) rfl
    obtain ⟨a', c', rfl⟩ := ho.slice
    have hz := hI.1.size
    have hs : Sees W (W.alloc (.cells #[.slice a' cs.length c', .bool soft] 36)) := (Sees.refl W).alloc _
    exact .inl ⟨by go_simp, .inl ⟨.slice (some ⟨W.heap.size, 0, none⟩) 1 1, W.alloc (.cells #[.slice a' cs.length c', .bool soft] 36), by clear hI hV; go_simp, rgGoodD_sees hst (hI.sees (fun x hx => by simp only [hx, Bool.true_or]) hs) ⟨_, _, rfl, hz, heap_alloc_new _ _, ho.sees hs⟩ hs⟩⟩
  refine ⟨fun d vs W hI hr hV => ?_, ?_⟩
  · obtain ⟨b, v', e, hb, hrow, ho⟩ : ∃ b v', vs 7 = .slice (some ⟨b, 0, none⟩) 1 1 ∧ w.heap.size ≤ b ∧ W.heap[b]? = some (.cells #[v', .bool soft] 36 (0, 0)) ∧ OwnCells W w.heap.size v' cs := hV 7 _ (by kernel_rfl) rfl
    obtain ⟨q0, q1⟩ := cell_row2 hrow
    obtain ⟨k1, k2, k3, k4⟩ := hI
    have k3 := k3 (hr 11 (by kernel_rfl))
    have k4 := k4 (hr 8 (by kernel_rfl))
    have hsvF : ∀ g, (Value.slice a k c).ownBlock = some g → (F g ∧ g ≠ p) ∧ g < w.heap.size := by obtain ⟨_, _, h, _⟩ := k4; exact h
    have hpl := Hp.out
    obtain ⟨v2, W', h1, h2, h3⟩ := run_append_line (F := fun b => (F b ∨ w.heap.size ≤ b) ∧ b ≠ p) 30 w.heap.size _ ls (k4.mono (fun b _ h => ⟨⟨.inl h.1.1, h.1.2⟩, h.2⟩)) b 1 v' ⟨cs, soft⟩ q0 q1 ho (fun b hb => ⟨.inr hb, by omega⟩) k1.size (by rw [← Hkc.out]; have := Hm.out; omega)
    refine .inl ⟨by go_simp, .inl ⟨v2, W', exec_append (s := .tmp 20) (x := .tmp 23) (v := .slice a k c) (u := .slice (some ⟨b, 0, none⟩) 1 1) rfl (by go_simp) (by clear h1 h2 h3 k1 k2 k3 k4 hV; go_simp) h1, rgGoodD_turn ⟨k1.trans' h3 (fun b _ e => (hsvF b e).1.1), ?_, fun _ => ?_, fun h => by simp at h⟩ h2 ?_⟩⟩
    · rw [h3.block _ (Array.getElem?_eq_some_iff.1 k2).1 (fun e => by have := (hsvF _ e).2; omega)]; exact k2
    · unfold PgAt; rw [h3.block _ k3.lt (fun e => (hsvF _ e).1.2 rfl)]; exact k3
    · exact ⟨.inr (.inr fun u ⟨v', h1, h2⟩ => ⟨v', h1, h2.keeps h3 (fun g hg e => by have := (hsvF _ e).2; have := (h2.base hg).1; omega)⟩),
        .inr (.inr fun u ⟨b, v', h1, hb, hr, h2⟩ => ⟨b, v', h1, hb, by rw [h3.block _ (Array.getElem?_eq_some_iff.1 hr).1 (fun e => by have := (hsvF _ e).2; omega)]; exact hr, h2.keeps h3 (fun g hg e => by have := (hsvF _ e).2; have := (h2.base hg).1; omega)⟩),
        .inl rfl, .inr (.inl (hr 11 (by kernel_rfl))), trivial⟩
  refine ⟨fun d vs W hI hr hV => .inl ⟨by go_simp, .inl (by go_simp)⟩, ?_⟩
  refine ⟨fun d vs W hI hr hV => .inl ⟨by go_simp, .inl (by go_simp)⟩, ?_⟩
  refine ⟨fun d vs W hI hr hV => ?_, ?_⟩
  · have h2 : OwnL (fun b => (F b ∨ w.heap.size ≤ b) ∧ b ≠ p) W (vs 8) (ls ++ [⟨cs, soft⟩]) := hV 8 _ (by kernel_rfl) rfl
    obtain ⟨a', c', e⟩ := h2.slice
    rw [e] at h2
    generalize hlen : (ls ++ [(⟨cs, soft⟩ : Ln)]).length = m at *
    obtain ⟨k1, k2, k3, k4⟩ := hI
    have k3 := k3 (hr 11 (by kernel_rfl))
    have hpl := Hp.out
    have q0 := k3.c2
    have f0 := k3.fr 2
    have hk : Keeps (fun b => b = p) W (W.setCell ⟨p, 2, none⟩ (.slice a' m c')) := Keeps.setCell (F := fun b => b = p) (Keeps.refl _ W) (p := ⟨p, 2, none⟩) (fun _ => rfl) _
    refine .inl ⟨by go_simp, .inr (.inl ⟨W.setCell ⟨p, 2, none⟩ (.slice a' m c'), by clear hV k4 h2; go_simp, rgGoodD_turn ⟨k1.setCell (p := ⟨p, 2, none⟩) (fun _ => HF.out) _, ?_, fun h => by simp at h, fun h => (k4 (by revert h; simp)).keeps hk (fun b hb => hb.1.2)⟩ ⟨_, k3.set _ _ _, h2.keeps hk (fun b hb => hb.2)⟩ ?_⟩)⟩
    · rw [heap_setCell_other _ _ _ _ (by simp; omega)]; exact k2
    · exact ⟨.inr (.inr fun u ⟨v', h1, h2⟩ => ⟨v', h1, h2.setCell (p := ⟨p, 2, none⟩) hpl _⟩),
        .inr (.inr fun u ⟨b, v', h1, hb, hr, h2⟩ => ⟨b, v', h1, hb, by rw [heap_setCell_other _ _ _ _ (by simp; omega)]; exact hr, h2.setCell (p := ⟨p, 2, none⟩) hpl _⟩),
        .inr (.inr fun u h => h.keeps hk (fun b hb => hb.2)), .inl rfl, trivial⟩
  intro d vs W hI hdn hV
  have HP : Hid (Page (fun b => F b ∨ w.heap.size ≤ b) W p most gone (ls ++ [⟨cs, soft⟩])) := ⟨.inl HF.out, hV 11 _ rfl⟩
  have Hk := Lib.hid hI.1
  clear hI hV hdn hst
  go_simp
  go_wp2
  go_ret
  exact ⟨rfl, HP.out, Hk.out⟩
end Go.Proofs.YthjcnhgfagefjaaDoor
