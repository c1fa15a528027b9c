/- A history looks like the reference's: looks. No condition. -/
import Derived.Test.YtpicffaghoggdaaDoorHlA
import Derived.Test.YtpicffaghoggdaaDoorHrA
namespace Go.Proofs.YtpicffaghoggdaaDoor
set_option linter.unusedVariables false
set_option linter.unusedSimpArgs false
open Go.RowKit

theorem HiF.last_any {w1 W : World} {F : Nat → Prop} {b : Nat} {most first : Int} {ls : List Ln} (h : HiF w1 F W b most first ls) (n : Int) :
    Calls Tryd.prog 20 #[.pointer (some ⟨b, 0, none⟩), .int .i64 n] W fun e w' => (∃ v, e = .returned v ∧ lnEl.Rd (fun _ => True) w' v (ls.drop (ls.length - n.toNat))) ∧ Sees W w' := by
  by_cases hn : n < 1
  · refine (h.last_none n hn).mono ?_
    rintro e w' ⟨rfl, hs⟩
    refine ⟨⟨_, rfl, ?_⟩, hs⟩
    rw [List.drop_of_length_le (by omega)]
    exact El.Rd.nil _ _
  · refine (h.last n (by omega)).mono ?_
    rintro e w' ⟨v, rfl, ho, hs⟩
    exact ⟨⟨v, rfl, ho.rd.mono (fun _ _ _ => trivial)⟩, hs⟩
theorem refLast_any (most first n : Int) (v : Value) (ls : List Ln) (G : Nat → Prop) (w : World) (hn2 : n ≤ 9223372036854775807) (hl : ls.length ≤ 1000000000) (hv : lnEl.Rd G w v ls) :
    Calls Tryd.prog 71 #[.agg #[.int .i64 most, .int .i64 first, v], .int .i64 n] w fun e w' => (∃ v', e = .returned v' ∧ lnEl.Rd (fun _ => True) w' v' (ls.drop (ls.length - n.toNat))) ∧ Sees w w' := by
  by_cases hn : n < 1
  · refine (refLast_none most first n v w hn).mono ?_
    rintro e w' ⟨rfl, hs⟩
    refine ⟨⟨_, rfl, ?_⟩, hs⟩
    rw [List.drop_of_length_le (by omega)]
    exact El.Rd.nil _ _
  · refine (refLast_some most first n v ls G w (by omega) hn2 hl hv).mono ?_
    rintro e w' ⟨⟨v', rfl, h⟩, hs⟩
    exact ⟨⟨v', rfl, h _ _ ((hv.mono (fun _ _ _ => trivial)).sees hs)⟩, hs⟩
theorem HiF.gets_err {w1 W : World} {F : Nat → Prop} {b : Nat} {most first : Int} {ls : List Ln} (h : HiF w1 F W b most first ls) (n er : Int) (hn : ((n < 0 ∨ first + ls.length ≤ n) ∧ er = 3) ∨ (0 ≤ n ∧ n < first ∧ er = 14)) :
    Calls Tryd.prog 27 #[.pointer (some ⟨b, 0, none⟩), .int .i64 n, .agg #[.slice none 0 0, .bool false], .int .i64 er] W fun e w' => e = .returned (.bool true) ∧ Sees W w' := by
  refine hgets_true _ n er _ ⟨[], false⟩ W (rnil31 W) (by simp) fun W' hs => ((h.sees hs).get_err n er hn).mono ?_
  rintro e w' ⟨rfl, hs⟩
  exact ⟨_, rfl, rnil31 _, hs⟩

set_option maxRecDepth 1000000 in
set_option maxHeartbeats 8000000 in
theorem looks31_any {w1 W0 : World} {F G : Nat → Prop} {b : Nat} {most first : Int} {ls : List Ln} (h : HiF w1 F W0 b most first ls) (v : Value) (hv : lnEl.Rd G W0 v ls) (n : Int) (hn : -9223372036854775808 ≤ n ∧ n ≤ 9223372036854775807) (hlen : ls.length ≤ 1000000) :
    Calls Tryd.prog 36 #[.pointer (some ⟨b, 0, none⟩), .agg #[.int .i64 most, .int .i64 first, v], .int .i64 n] W0 fun e w' => e = .returned (.bool true) ∧ Sees W0 w' := by
  have H := Lib.hid h
  have fa := h.facts
  have Hl := Lib.hid (show ls.length ≤ 1000000 ∧ ∀ l ∈ ls, l.cells.length ≤ 1000000 from ⟨hlen, h.lenc⟩)
  have Hv := Lib.hid hv
  obtain ⟨a, c, rfl, hc⟩ := hv.slice'
  obtain ⟨m, hm⟩ : ∃ m, m = ls.length := ⟨_, rfl⟩
  rw [← hm] at Hv fa hc ⊢
  have Hm := Lib.hid hm
  have Hn2 := Lib.hid hn.2
  have Hfa := Lib.hid fa
  have g0 : IntKind.i64.wrap (first + (m : Int)) = first + (m : Int) := IntWalk.i64_in _ (by omega)
  have Hn1 := Lib.hid hn.1
  clear h hv hm fa hn hlen
  go_enter Tryd.func36, Tryd.ntmps36
  go_wp2_with fail
  refine wp_world (fun X0 hX0 => ?_)
  have hb0 : HrAt X0 W0.heap.size most first (.slice a m c) := by subst hX0; exact HrAt.new rfl
  have hs0 : Sees W0 X0 := by subst hX0; exact (Sees.refl W0).alloc _
  clear hX0
  obtain ⟨R, hR⟩ : ∃ R, R = W0.heap.size := ⟨_, rfl⟩
  rw [← hR] at hb0 ⊢
  clear hR
  refine wpFrom_go (by kernel_rfl) (by kernel_rfl) (fun hB X hsX => ?_)
  have HB := Lib.hid (hb0.sees hsX)
  have HS := Lib.hid (hs0.trans hsX)
  clear hb0 hs0 hsX
  have hval : ∀ x v, (Spec.is x).val v = x := fun _ _ => rfl
  have hval2 : ∀ V v, (Spec.so V).val v = v := fun _ _ => rfl
  have hst : segStay (Sees X) [.is (.pointer (some ⟨b, 0, none⟩)),
      .is (.int .i64 m),
      .is (.pointer (some ⟨R, 2, none⟩)),
      .is (.slice a m c),
      .is (.int .i64 m),
      .is (.bool false),
      .is (.bool false),
      .is (.pointer (some ⟨b, 0, none⟩)),
      .is (.int .i64 most),
      .is (.pointer (some ⟨R, 0, none⟩)),
      .is (.int .i64 most),
      .is (.bool false),
      .is (.bool false),
      .is (.bool false),
      .is (.pointer (some ⟨b, 0, none⟩)),
      .is (.int .i64 first),
      .is (.pointer (some ⟨R, 1, none⟩)),
      .is (.int .i64 first),
      .is (.bool false),
      .is (.bool false),
      .is (.bool false),
      .is (.pointer (some ⟨b, 0, none⟩)),
      .is (.int .i64 (first + m)),
      .is (.pointer (some ⟨R, 1, none⟩)),
      .is (.int .i64 first),
      .is (.pointer (some ⟨R, 2, none⟩)),
      .is (.slice a m c),
      .is (.int .i64 m),
      .is (.int .i64 (first + m)),
      .is (.bool false),
      .is (.bool false),
      .is (.bool false),
      .is (.pointer (some ⟨b, 0, none⟩)),
      .so (fun x W => lnEl.Rd (fun _ => True) W x ls),
      .is (.pointer (some ⟨R, 2, none⟩)),
      .is (.slice a m c),
      .is (.bool true),
      .is (.bool false),
      .is (.bool false),
      .is (.bool false),
      .is (.pointer (some ⟨b, 0, none⟩)),
      .is (.int .i64 n),
      .so (fun x W => lnEl.Rd (fun _ => True) W x (ls.drop (ls.length - n.toNat))),
      .is (.agg #[.int .i64 most, .int .i64 first, .slice a m c]),
      .is (.int .i64 n),
      .so (fun x W => lnEl.Rd (fun _ => True) W x (ls.drop (ls.length - n.toNat))),
      .is (.bool true),
      .is (.bool false),
      .is (.bool false)] :=
    ⟨fun u W W' _ h hs => h.sees hs, fun u W W' _ h hs => h.sees hs, fun u W W' _ h hs => h.sees hs, trivial⟩
  refine wpFrom_any 49 _ hB (by kernel_rfl) rfl hst (by simp only [List.cons_append, List.nil_append, List.drop_succ_cons, List.drop_zero, List.take_succ_cons, List.take_zero, Nat.reduceSub]; rfl) ?_
  refine ⟨fun vs W hI hV => .inl ⟨by clear hI hV hst; go_simp, .inl (by clear hI hV hst; (try simp only [Act.put, hval, hval2, List.setIfInBounds_toArray, List.set_cons_zero, List.set_cons_succ]); go_simp)⟩, ?_⟩
  refine ⟨fun vs W hI hV => .inl ⟨by clear hI hV hst; (try simp only [Act.put, hval, hval2, List.setIfInBounds_toArray, List.set_cons_zero, List.set_cons_succ]); go_simp, .inr (.inr ⟨24, #[.pointer (some ⟨b, 0, none⟩)], by clear hI hV hst; (try simp only [Act.put, hval, hval2, List.setIfInBounds_toArray, List.set_cons_zero, List.set_cons_succ]); go_simp, (H.out.sees (HS.out.trans hI)).hiLen (m : Int) (by rw [← Hm.out])⟩)⟩, ?_⟩
  refine ⟨fun vs W hI hV => .inl ⟨by clear hI hV hst; go_simp, .inl (by clear hI hV hst; (try simp only [Act.put, hval, hval2, List.setIfInBounds_toArray, List.set_cons_zero, List.set_cons_succ]); go_simp)⟩, ?_⟩
  refine ⟨fun vs W hI hV => .inl ⟨by clear hI hV hst; go_simp, .inl (by have q := (HB.out.sees hI).c; obtain ⟨q0, q1, q2⟩ := q; clear hI hV hst; (try simp only [Act.put, hval, hval2, List.setIfInBounds_toArray, List.set_cons_zero, List.set_cons_succ]); go_simp)⟩, ?_⟩
  refine ⟨fun vs W hI hV => .inl ⟨by clear hI hV hst; go_simp, .inl (by clear hI hV hst; (try simp only [Act.put, hval, hval2, List.setIfInBounds_toArray, List.set_cons_zero, List.set_cons_succ]); go_simp)⟩, ?_⟩
  refine ⟨fun vs W hI hV => .inl ⟨by clear hI hV hst; go_simp, .inl (by clear hI hV hst; (try simp only [Act.put, hval, hval2, List.setIfInBounds_toArray, List.set_cons_zero, List.set_cons_succ]); go_simp)⟩, ?_⟩
  refine ⟨fun vs W hI hV => .inl ⟨by clear hI hV hst; go_simp, .inl (by clear hI hV hst; (try simp only [Act.put, hval, hval2, List.setIfInBounds_toArray, List.set_cons_zero, List.set_cons_succ]); go_simp)⟩, ?_⟩
  refine ⟨fun vs W hI hV => .inl ⟨by clear hI hV hst; go_simp, .inl (by clear hI hV hst; (try simp only [Act.put, hval, hval2, List.setIfInBounds_toArray, List.set_cons_zero, List.set_cons_succ]); go_simp)⟩, ?_⟩
  refine ⟨fun vs W hI hV => .inl ⟨by clear hI hV hst; (try simp only [Act.put, hval, hval2, List.setIfInBounds_toArray, List.set_cons_zero, List.set_cons_succ]); go_simp, .inr (.inr ⟨53, #[.pointer (some ⟨b, 0, none⟩)], by clear hI hV hst; (try simp only [Act.put, hval, hval2, List.setIfInBounds_toArray, List.set_cons_zero, List.set_cons_succ]); go_simp, (H.out.sees (HS.out.trans hI)).hiMost⟩)⟩, ?_⟩
  refine ⟨fun vs W hI hV => .inl ⟨by clear hI hV hst; go_simp, .inl (by clear hI hV hst; (try simp only [Act.put, hval, hval2, List.setIfInBounds_toArray, List.set_cons_zero, List.set_cons_succ]); go_simp)⟩, ?_⟩
  refine ⟨fun vs W hI hV => .inl ⟨by clear hI hV hst; go_simp, .inl (by have q := (HB.out.sees hI).c; obtain ⟨q0, q1, q2⟩ := q; clear hI hV hst; (try simp only [Act.put, hval, hval2, List.setIfInBounds_toArray, List.set_cons_zero, List.set_cons_succ]); go_simp)⟩, ?_⟩
  refine ⟨fun vs W hI hV => .inl ⟨by clear hI hV hst; go_simp, .inl (by clear hI hV hst; (try simp only [Act.put, hval, hval2, List.setIfInBounds_toArray, List.set_cons_zero, List.set_cons_succ]); go_simp)⟩, ?_⟩
  refine ⟨fun vs W hI hV => .inl ⟨by clear hI hV hst; go_simp, .inl (by clear hI hV hst; (try simp only [Act.put, hval, hval2, List.setIfInBounds_toArray, List.set_cons_zero, List.set_cons_succ]); go_simp)⟩, ?_⟩
  refine ⟨fun vs W hI hV => .inl ⟨by clear hI hV hst; go_simp, .inl (by clear hI hV hst; (try simp only [Act.put, hval, hval2, List.setIfInBounds_toArray, List.set_cons_zero, List.set_cons_succ]); go_simp)⟩, ?_⟩
  refine ⟨fun vs W hI hV => .inl ⟨by clear hI hV hst; go_simp, .inl (by clear hI hV hst; (try simp only [Act.put, hval, hval2, List.setIfInBounds_toArray, List.set_cons_zero, List.set_cons_succ]); go_simp)⟩, ?_⟩
  refine ⟨fun vs W hI hV => .inl ⟨by clear hI hV hst; (try simp only [Act.put, hval, hval2, List.setIfInBounds_toArray, List.set_cons_zero, List.set_cons_succ]); go_simp, .inr (.inr ⟨26, #[.pointer (some ⟨b, 0, none⟩)], by clear hI hV hst; (try simp only [Act.put, hval, hval2, List.setIfInBounds_toArray, List.set_cons_zero, List.set_cons_succ]); go_simp, (H.out.sees (HS.out.trans hI)).hiFirst⟩)⟩, ?_⟩
  refine ⟨fun vs W hI hV => .inl ⟨by clear hI hV hst; go_simp, .inl (by clear hI hV hst; (try simp only [Act.put, hval, hval2, List.setIfInBounds_toArray, List.set_cons_zero, List.set_cons_succ]); go_simp)⟩, ?_⟩
  refine ⟨fun vs W hI hV => .inl ⟨by clear hI hV hst; go_simp, .inl (by have q := (HB.out.sees hI).c; obtain ⟨q0, q1, q2⟩ := q; clear hI hV hst; (try simp only [Act.put, hval, hval2, List.setIfInBounds_toArray, List.set_cons_zero, List.set_cons_succ]); go_simp)⟩, ?_⟩
  refine ⟨fun vs W hI hV => .inl ⟨by clear hI hV hst; go_simp, .inl (by clear hI hV hst; (try simp only [Act.put, hval, hval2, List.setIfInBounds_toArray, List.set_cons_zero, List.set_cons_succ]); go_simp)⟩, ?_⟩
  refine ⟨fun vs W hI hV => .inl ⟨by clear hI hV hst; go_simp, .inl (by clear hI hV hst; (try simp only [Act.put, hval, hval2, List.setIfInBounds_toArray, List.set_cons_zero, List.set_cons_succ]); go_simp)⟩, ?_⟩
  refine ⟨fun vs W hI hV => .inl ⟨by clear hI hV hst; go_simp, .inl (by clear hI hV hst; (try simp only [Act.put, hval, hval2, List.setIfInBounds_toArray, List.set_cons_zero, List.set_cons_succ]); go_simp)⟩, ?_⟩
  refine ⟨fun vs W hI hV => .inl ⟨by clear hI hV hst; go_simp, .inl (by clear hI hV hst; (try simp only [Act.put, hval, hval2, List.setIfInBounds_toArray, List.set_cons_zero, List.set_cons_succ]); go_simp)⟩, ?_⟩
  refine ⟨fun vs W hI hV => .inl ⟨by clear hI hV hst; (try simp only [Act.put, hval, hval2, List.setIfInBounds_toArray, List.set_cons_zero, List.set_cons_succ]); go_simp, .inr (.inr ⟨25, #[.pointer (some ⟨b, 0, none⟩)], by clear hI hV hst; (try simp only [Act.put, hval, hval2, List.setIfInBounds_toArray, List.set_cons_zero, List.set_cons_succ]); go_simp, (H.out.sees (HS.out.trans hI)).hiNext (first + m) (by rw [← Hm.out])⟩)⟩, ?_⟩
  refine ⟨fun vs W hI hV => .inl ⟨by clear hI hV hst; go_simp, .inl (by clear hI hV hst; (try simp only [Act.put, hval, hval2, List.setIfInBounds_toArray, List.set_cons_zero, List.set_cons_succ]); go_simp)⟩, ?_⟩
  refine ⟨fun vs W hI hV => .inl ⟨by clear hI hV hst; go_simp, .inl (by have q := (HB.out.sees hI).c; obtain ⟨q0, q1, q2⟩ := q; clear hI hV hst; (try simp only [Act.put, hval, hval2, List.setIfInBounds_toArray, List.set_cons_zero, List.set_cons_succ]); go_simp)⟩, ?_⟩
  refine ⟨fun vs W hI hV => .inl ⟨by clear hI hV hst; go_simp, .inl (by clear hI hV hst; (try simp only [Act.put, hval, hval2, List.setIfInBounds_toArray, List.set_cons_zero, List.set_cons_succ]); go_simp)⟩, ?_⟩
  refine ⟨fun vs W hI hV => .inl ⟨by clear hI hV hst; go_simp, .inl (by have q := (HB.out.sees hI).c; obtain ⟨q0, q1, q2⟩ := q; clear hI hV hst; (try simp only [Act.put, hval, hval2, List.setIfInBounds_toArray, List.set_cons_zero, List.set_cons_succ]); go_simp)⟩, ?_⟩
  refine ⟨fun vs W hI hV => .inl ⟨by clear hI hV hst; go_simp, .inl (by clear hI hV hst; (try simp only [Act.put, hval, hval2, List.setIfInBounds_toArray, List.set_cons_zero, List.set_cons_succ]); go_simp)⟩, ?_⟩
  refine ⟨fun vs W hI hV => .inl ⟨by clear hI hV hst; go_simp, .inl (by clear hI hV hst; (try simp only [Act.put, hval, hval2, List.setIfInBounds_toArray, List.set_cons_zero, List.set_cons_succ]); go_simp)⟩, ?_⟩
  refine ⟨fun vs W hI hV => .inl ⟨by clear hI hV hst; go_simp, .inl (by clear hI hV hst; (try simp only [Act.put, hval, hval2, List.setIfInBounds_toArray, List.set_cons_zero, List.set_cons_succ]); go_simp)⟩, ?_⟩
  refine ⟨fun vs W hI hV => .inl ⟨by clear hI hV hst; go_simp, .inl (by clear hI hV hst; (try simp only [Act.put, hval, hval2, List.setIfInBounds_toArray, List.set_cons_zero, List.set_cons_succ]); go_simp)⟩, ?_⟩
  refine ⟨fun vs W hI hV => .inl ⟨by clear hI hV hst; go_simp, .inl (by clear hI hV hst; (try simp only [Act.put, hval, hval2, List.setIfInBounds_toArray, List.set_cons_zero, List.set_cons_succ]); go_simp)⟩, ?_⟩
  refine ⟨fun vs W hI hV => .inl ⟨by clear hI hV hst; go_simp, .inl (by clear hI hV hst; (try simp only [Act.put, hval, hval2, List.setIfInBounds_toArray, List.set_cons_zero, List.set_cons_succ]); go_simp)⟩, ?_⟩
  refine ⟨fun vs W hI hV => .inl ⟨by clear hI hV hst; (try simp only [Act.put, hval, hval2, List.setIfInBounds_toArray, List.set_cons_zero, List.set_cons_succ]); go_simp, .inr (.inr ⟨19, #[.pointer (some ⟨b, 0, none⟩)], by clear hI hV hst; (try simp only [Act.put, hval, hval2, List.setIfInBounds_toArray, List.set_cons_zero, List.set_cons_succ]); go_simp, ?_⟩)⟩, ?_⟩
  · refine ((H.out.sees (HS.out.trans hI)).all).mono ?_
    rintro e w' ⟨v', rfl, ho, hs⟩
    exact ⟨v', rfl, rgGood_mk hst hI (ho.rd.mono (fun _ _ _ => trivial)) hs⟩
  refine ⟨fun vs W hI hV => .inl ⟨by clear hI hV hst; go_simp, .inl (by clear hI hV hst; (try simp only [Act.put, hval, hval2, List.setIfInBounds_toArray, List.set_cons_zero, List.set_cons_succ]); go_simp)⟩, ?_⟩
  refine ⟨fun vs W hI hV => .inl ⟨by clear hI hV hst; go_simp, .inl (by have q := (HB.out.sees hI).c; obtain ⟨q0, q1, q2⟩ := q; clear hI hV hst; (try simp only [Act.put, hval, hval2, List.setIfInBounds_toArray, List.set_cons_zero, List.set_cons_succ]); go_simp)⟩, ?_⟩
  refine ⟨fun vs W hI hV => .inl ⟨by clear hI hV hst; (try simp only [Act.put, hval, hval2, List.setIfInBounds_toArray, List.set_cons_zero, List.set_cons_succ]); go_simp, .inr (.inr ⟨23, #[vs 33, .slice a m c], by clear hI hV hst; (try simp only [Act.put, hval, hval2, List.setIfInBounds_toArray, List.set_cons_zero, List.set_cons_succ]); go_simp, ?_⟩)⟩, ?_⟩
  · exact all_true _ _ _ _ ls ls W (El.Rd.rdl (hV 33 _ (by kernel_rfl) rfl)) (Hv.out.sees (HS.out.trans hI)).rdl Hl.out.1 Hl.out.2 rfl
  refine ⟨fun vs W hI hV => .inl ⟨by clear hI hV hst; go_simp, .inl (by clear hI hV hst; (try simp only [Act.put, hval, hval2, List.setIfInBounds_toArray, List.set_cons_zero, List.set_cons_succ]); go_simp)⟩, ?_⟩
  refine ⟨fun vs W hI hV => .inl ⟨by clear hI hV hst; go_simp, .inl (by clear hI hV hst; (try simp only [Act.put, hval, hval2, List.setIfInBounds_toArray, List.set_cons_zero, List.set_cons_succ]); go_simp)⟩, ?_⟩
  refine ⟨fun vs W hI hV => .inl ⟨by clear hI hV hst; go_simp, .inl (by clear hI hV hst; (try simp only [Act.put, hval, hval2, List.setIfInBounds_toArray, List.set_cons_zero, List.set_cons_succ]); go_simp)⟩, ?_⟩
  refine ⟨fun vs W hI hV => .inl ⟨by clear hI hV hst; go_simp, .inl (by clear hI hV hst; (try simp only [Act.put, hval, hval2, List.setIfInBounds_toArray, List.set_cons_zero, List.set_cons_succ]); go_simp)⟩, ?_⟩
  refine ⟨fun vs W hI hV => .inl ⟨by clear hI hV hst; go_simp, .inl (by clear hI hV hst; (try simp only [Act.put, hval, hval2, List.setIfInBounds_toArray, List.set_cons_zero, List.set_cons_succ]); go_simp)⟩, ?_⟩
  refine ⟨fun vs W hI hV => .inl ⟨by clear hI hV hst; (try simp only [Act.put, hval, hval2, List.setIfInBounds_toArray, List.set_cons_zero, List.set_cons_succ]); go_simp, .inr (.inr ⟨20, #[.pointer (some ⟨b, 0, none⟩), .int .i64 n], by clear hI hV hst; (try simp only [Act.put, hval, hval2, List.setIfInBounds_toArray, List.set_cons_zero, List.set_cons_succ]); go_simp, ?_⟩)⟩, ?_⟩
  · refine ((H.out.sees (HS.out.trans hI)).last_any n).mono ?_
    rintro e w' ⟨⟨v', rfl, ho⟩, hs⟩
    exact ⟨v', rfl, rgGood_mk hst hI ho hs⟩
  refine ⟨fun vs W hI hV => .inl ⟨by clear hI hV hst; go_simp, .inl (by have q := (HB.out.sees hI).c; obtain ⟨q0, q1, q2⟩ := q; clear hI hV hst; (try simp only [Act.put, hval, hval2, List.setIfInBounds_toArray, List.set_cons_zero, List.set_cons_succ]); go_simp)⟩, ?_⟩
  refine ⟨fun vs W hI hV => .inl ⟨by clear hI hV hst; go_simp, .inl (by clear hI hV hst; (try simp only [Act.put, hval, hval2, List.setIfInBounds_toArray, List.set_cons_zero, List.set_cons_succ]); go_simp)⟩, ?_⟩
  refine ⟨fun vs W hI hV => .inl ⟨by clear hI hV hst; (try simp only [Act.put, hval, hval2, List.setIfInBounds_toArray, List.set_cons_zero, List.set_cons_succ]); go_simp, .inr (.inr ⟨71, #[.agg #[.int .i64 most, .int .i64 first, .slice a m c], .int .i64 n], by clear hI hV hst; (try simp only [Act.put, hval, hval2, List.setIfInBounds_toArray, List.set_cons_zero, List.set_cons_succ]); go_simp, ?_⟩)⟩, ?_⟩
  · refine (refLast_any most first n (.slice a m c) ls _ W Hn2.out (by have := Hl.out.1; omega) (Hv.out.sees (HS.out.trans hI))).mono ?_
    rintro e w' ⟨⟨v', rfl, ho⟩, hs⟩
    exact ⟨v', rfl, rgGood_mk hst hI ho hs⟩
  refine ⟨fun vs W hI hV => .inl ⟨by clear hI hV hst; (try simp only [Act.put, hval, hval2, List.setIfInBounds_toArray, List.set_cons_zero, List.set_cons_succ]); go_simp, .inr (.inr ⟨23, #[vs 42, vs 45], by clear hI hV hst; (try simp only [Act.put, hval, hval2, List.setIfInBounds_toArray, List.set_cons_zero, List.set_cons_succ]); go_simp, ?_⟩)⟩, ?_⟩
  · exact all_true _ _ _ _ (ls.drop (ls.length - n.toNat)) (ls.drop (ls.length - n.toNat)) W (El.Rd.rdl (hV 42 _ (by kernel_rfl) rfl)) (El.Rd.rdl (hV 45 _ (by kernel_rfl) rfl)) (by have := Hl.out.1; rw [List.length_drop]; omega) (fun l hl => Hl.out.2 l (List.mem_of_mem_drop hl)) rfl
  refine ⟨fun vs W hI hV => .inl ⟨by clear hI hV hst; go_simp, .inl (by clear hI hV hst; (try simp only [Act.put, hval, hval2, List.setIfInBounds_toArray, List.set_cons_zero, List.set_cons_succ]); go_simp)⟩, ?_⟩
  refine ⟨fun vs W hI hV => .inl ⟨by clear hI hV hst; go_simp, .inl (by clear hI hV hst; (try simp only [Act.put, hval, hval2, List.setIfInBounds_toArray, List.set_cons_zero, List.set_cons_succ]); go_simp)⟩, ?_⟩
  intro vs X2 hI hV
  have S2 := Lib.hid (HS.out.trans hI)
  have H2 := Lib.hid (H.out.sees S2.out)
  have hB2 := HB.out.sees hI
  obtain ⟨q0, q1, q2⟩ := hB2.c
  clear hI hV hst HB HS H hB2
  (try simp only [Act.put, hval, hval2, List.setIfInBounds_toArray, List.set_cons_zero, List.set_cons_succ])
  go_simp
  refine wpFrom_end rfl ?_
  clear hB
  by_cases hA : n < 0
  · have d1 : decide (n < 0) = true := decide_eq_true hA
    have HA := Lib.hid hA
    clear hA
    go_wp2_with fail
    refine (H2.out.gets_err n 3 (.inl ⟨.inl HA.out, rfl⟩)).mono ?_
    rintro e W9 ⟨rfl, hs9⟩
    go_wp2
    go_ret
    exact ⟨by simp, S2.out.trans hs9⟩
  have d1 : decide (n < 0) = false := decide_eq_false hA
  have Hz : Hid (IntKind.i64.wrap (n - first) = n - first) := Lib.hid (IntWalk.i64_in _ (by have := Hfa.out; have := Hn2.out; omega))
  have HA := Lib.hid (show 0 ≤ n by omega)
  clear hA
  by_cases hB : n - first < 0
  · obtain ⟨i, hi⟩ : ∃ i, i = n - first := ⟨_, rfl⟩
    have e1 : IntKind.i64.wrap (n - first) = i := by rw [hi]; exact Hz.out
    rw [← hi] at hB
    have d2 : decide (i ≥ (m : Int)) = false := decide_eq_false (by omega)
    have d3 : decide ((m : Int) ≤ i) = false := decide_eq_false (by omega)
    have d4 : decide (i < 0) = true := decide_eq_true hB
    have d5 : ¬ (m : Int) ≤ i := by omega
    have HC := Lib.hid (show n < first by omega)
    clear hi
    go_wp2_with fail
    refine (H2.out.gets_err n 14 (.inr ⟨HA.out, HC.out, rfl⟩)).mono ?_
    rintro e W9 ⟨rfl, hs9⟩
    go_wp2
    go_ret
    exact ⟨by simp, S2.out.trans hs9⟩
  obtain ⟨k, hk⟩ : ∃ k : Nat, (k : Int) = n - first := ⟨(n - first).toNat, by omega⟩
  have e1 : IntKind.i64.wrap (n - first) = (k : Int) := by rw [hk]; exact Hz.out
  have HC := Lib.hid (show n = first + k by omega)
  clear hB hk
  by_cases hD : m ≤ k
  · have d2 : decide ((k : Int) ≥ (m : Int)) = true := decide_eq_true (by omega)
    have d3 : decide ((m : Int) ≤ (k : Int)) = true := decide_eq_true (by omega)
    go_wp2_with fail
    refine (H2.out.gets_err n 3 (.inl ⟨.inr (by have := HC.out; have := Hm.out; omega), rfl⟩)).mono ?_
    rintro e W9 ⟨rfl, hs9⟩
    go_wp2
    go_ret
    exact ⟨by simp, S2.out.trans hs9⟩
  · have d2 : decide ((k : Int) ≥ (m : Int)) = false := decide_eq_false (by omega)
    have d3 : decide ((m : Int) ≤ (k : Int)) = false := decide_eq_false (by omega)
    have d4 : k < m := by omega
    have HV2 := Lib.hid (Hv.out.sees S2.out)
    obtain ⟨b1, o1, l, a1, m1, rfl, _, hl, _, y0, y1, y2⟩ := HV2.out.line d4
    have Y2 := Lib.hid y2.rdCells
    have HL := Lib.hid hl
    clear y2 hl hD
    go_wp2_with fail
    refine (H2.out.gets n k l HC.out HL.out _ Y2.out).mono ?_
    rintro e W9 ⟨rfl, hs9⟩
    go_wp2
    go_ret
    exact ⟨by simp, S2.out.trans hs9⟩
end Go.Proofs.YtpicffaghoggdaaDoor
