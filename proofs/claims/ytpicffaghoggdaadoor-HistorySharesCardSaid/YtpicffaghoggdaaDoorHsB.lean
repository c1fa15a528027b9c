/- What a history returns shares no memory: HistoryShares. No condition. -/
import Derived.Test.YtpicffaghoggdaaDoorHlA
import Derived.Test.YtpicffaghoggdaaDoorHiK
import Derived.Test.YtpicffaghoggdaaDoorHsA
namespace Go.Proofs.YtpicffaghoggdaaDoor
set_option linter.unusedVariables false
set_option linter.unusedSimpArgs false
open Go.RowKit

theorem few31_sum {ls : List Ln} {k : Nat} (h : Few31 [⟨0, 0, ls.take k⟩, ⟨0, 0, ls.drop k⟩]) : (∀ l ∈ ls, l.cells.length ≤ 8) ∧ ls.length ≤ 12 := by
  have h1 := h.2 ⟨0, 0, ls.take k⟩ (by simp)
  have h2 := h.2 ⟨0, 0, ls.drop k⟩ (by simp)
  refine ⟨fun l hl => ?_, ?_⟩
  · rw [← List.take_append_drop k ls] at hl
    rcases List.mem_append.1 hl with hl | hl
    · exact h1.2 l hl
    · exact h2.2 l hl
  · have e1 : (ls.take k).length ≤ 6 := h1.1
    have e2 : (ls.drop k).length ≤ 6 := h2.1
    simp at e1 e2
    omega
/-- What is there while the lines that were returned are changed: those of the second list, and those of the first one where they are still to come. -/
def ShI (W6 : World) (A B R : Nat) (v1 v2 : Value) (L1 L2 : List Ln) (W : World) (q : Nat) : Prop :=
  Sees W6 W ∧ W.heap[R]? = some (.cells #[v1, v2] 22 (0, 0)) ∧ (q ≤ 0 → lnEl.Own (fun c => A ≤ c ∧ c < B) W v1 L1) ∧ (q ≤ 1 → lnEl.Own (fun c => B ≤ c ∧ c < R) W v2 L2)
theorem ShI.step {W6 W : World} {A B R : Nat} {a1 a2 : Option Addr} {c1 c2 : Nat} {L1 L2 : List Ln} {q : Nat} (h : ShI W6 A B R (.slice a1 L1.length c1) (.slice a2 L2.length c2) L1 L2 W q) (hq : q < 2) (hA : W6.heap.size ≤ A) (hAB : A ≤ B) (hBR : B ≤ R) (n1 : L1.length ≤ 12) (n2 : L2.length ≤ 12) (m1 : ∀ l ∈ L1, l.cells.length ≤ 8) (m2 : ∀ l ∈ L2, l.cells.length ≤ 8) :
    ∃ a m c F, ∃ L : List Ln, W.cell? ⟨R, q, none⟩ = some (.slice a m c) ∧ m = L.length ∧ OwnL F W (.slice a m c) L ∧ (∀ c, F c → W6.heap.size ≤ c) ∧ m ≤ 12 ∧ (∀ l ∈ L, l.cells.length ≤ 8) ∧ ∀ W', Keeps F W W' → ShI W6 A B R (.slice a1 L1.length c1) (.slice a2 L2.length c2) L1 L2 W' (q + 1) := by
  obtain ⟨h1, h2, h3, h4⟩ := h
  have see : ∀ (F : Nat → Prop) W', (∀ c, F c → W6.heap.size ≤ c) → Keeps F W W' → Sees W6 W' := fun F W' hF hk => ((Keeps.of_sees (F := fun _ => False) h1).trans' hk (fun b hb e => by have := hF b e; omega)).sees_end (fun _ _ h => h)
  have hR := (Array.getElem?_eq_some_iff.1 h2).1
  match q, hq with
  | 0, _ =>
    refine ⟨a1, _, c1, fun c => A ≤ c ∧ c < B, L1, by rw [cell_of_row _ _ _ _ _ _ h2]; rfl, rfl, own_ownl (h3 (Nat.le_refl 0)), fun c hc => by have := hc.1; omega, n1, m1, fun W' hk => ⟨see _ W' (fun c hc => by have := hc.1; omega) hk, by rw [hk.block R hR (fun e => by have := e.2; omega)]; exact h2, fun e => by omega, fun _ => (h4 (by omega)).keeps hk (fun c hc e => by have := hc.1; have := e.2; omega)⟩⟩
  | 1, _ =>
    refine ⟨a2, _, c2, fun c => B ≤ c ∧ c < R, L2, by rw [cell_of_row _ _ _ _ _ _ h2]; rfl, rfl, own_ownl (h4 (Nat.le_refl 1)), fun c hc => by have := hc.1; omega, n2, m2, fun W' hk => ⟨see _ W' (fun c hc => by have := hc.1; omega) hk, by rw [hk.block R hR (fun e => by have := e.2; omega)]; exact h2, fun e => by omega, fun e => by omega⟩⟩

set_option maxRecDepth 1000000 in
set_option maxHeartbeats 8000000 in
theorem historyShares_any (u : Value) (ls : List Ln) (w : World) (ht : Tabs w) (hu : lnEl.Rd (fun b => b < w.heap.size) w u ls) :
    Calls Tryd.prog 3 #[u] w fun e w' => e = .returned (.bool true) ∧ Sees w w' := by
  have Ht := Lib.hid ht
  have Hu := Lib.hid hu
  obtain ⟨a, c, rfl, hc⟩ := hu.slice'
  obtain ⟨n, hnl⟩ : ∃ n, n = ls.length := ⟨_, rfl⟩
  obtain ⟨k1, hk1⟩ : ∃ k : Nat, min (n : Int) 6 = k := ⟨(min (n : Int) 6).toNat, by omega⟩
  rw [← hnl] at Hu hc ⊢
  have hk1n : k1 ≤ n := by omega
  obtain ⟨a2, c2, hs2, hr2⟩ := cut_from Hu.out k1 hk1n
  obtain ⟨hs1, hr1⟩ := cut_to Hu.out k1 hk1n
  have HS1 := Lib.hid hs1
  have HS2 := Lib.hid hs2
  have HR1 := Lib.hid hr1
  have HR2 := Lib.hid hr2
  have Hn := Lib.hid hnl
  clear ht hu hs1 hs2 hr1 hr2 hnl
  go_enter Tryd.func3, Tryd.ntmps3
  go_wp2_with fail
  refine wpFrom_go (by kernel_rfl) (by kernel_rfl) (fun hB w2 hsw2 => ?_)
  have hval : ∀ x v, (Spec.is x).val v = x := fun _ _ => rfl
  have hval2 : ∀ V v, (Spec.so V).val v = v := fun _ _ => rfl
  have hst : segStay (Sees w2) [.is (.slice a n c), .is (.slice a n c), .is (.int .i64 n), .is (.int .i64 k1), .is (.slice a k1 c), .is (.agg #[.int .i64 0, .int .i64 0, .slice a k1 c]),
      .is (.slice a n c), .is (.slice a n c), .is (.int .i64 n), .is (.int .i64 k1), .is (.slice a2 (n - k1) c2), .is (.agg #[.int .i64 0, .int .i64 0, .slice a2 (n - k1) c2]),
      .so (fun x W => ∃ b, x = .slice (some ⟨b, 0, none⟩) 2 2 ∧ W.heap[b]? = some (.cells #[.int .i64 0, .int .i64 0, .slice a k1 c, .int .i64 0, .int .i64 0, .slice a2 (n - k1) c2] 25 (0, 0))),
      .so (fun x W => Few31R [⟨0, 0, ls.take k1⟩, ⟨0, 0, ls.drop k1⟩] (.returned x))] :=
    ⟨fun u W W' _ ⟨b, h1, h2⟩ hs => ⟨b, h1, by rw [hs.block _ (Array.getElem?_eq_some_iff.1 h2).1]; exact h2⟩, fun u W W' _ h hs => h, trivial⟩
  refine wpFrom_any 14 _ hB (by kernel_rfl) rfl hst (by simp only [List.cons_append, List.nil_append, List.drop_succ_cons, List.drop_zero, List.take_succ_cons, List.take_zero, Nat.reduceSub]; rfl) ?_
  refine ⟨fun vs W hI hV => .inl ⟨by clear hI hV hst; go_simp, .inl (by clear hI hV hst; (try simp only [Act.put, hval, hval2, List.setIfInBounds_toArray, List.set_cons_zero, List.set_cons_succ]); go_simp)⟩, ?_⟩
  refine ⟨fun vs W hI hV => .inl ⟨by clear hI hV hst; go_simp, .inl (by clear hI hV hst; (try simp only [Act.put, hval, hval2, List.setIfInBounds_toArray, List.set_cons_zero, List.set_cons_succ]); go_simp)⟩, ?_⟩
  refine ⟨fun vs W hI hV => .inl ⟨by clear hI hV hst; go_simp, .inl (by clear hI hV hst; (try simp only [Act.put, hval, hval2, List.setIfInBounds_toArray, List.set_cons_zero, List.set_cons_succ]); go_simp)⟩, ?_⟩
  refine ⟨fun vs W hI hV => .inl ⟨by clear hI hV hst; go_simp, .inl (by clear hI hV hst; (try simp only [Act.put, hval, hval2, List.setIfInBounds_toArray, List.set_cons_zero, List.set_cons_succ]); go_simp; split <;> omega)⟩, ?_⟩
  refine ⟨fun vs W hI hV => .inl ⟨by clear hI hV hst; go_simp, .inl (by clear hI hV hst; exact exec_toL (a := .slice a n c) (b := .int .i64 k1) rfl (by (try simp only [Act.put, hval, hval2, List.setIfInBounds_toArray, List.set_cons_zero, List.set_cons_succ]); go_simp) (by (try simp only [Act.put, hval, hval2, List.setIfInBounds_toArray, List.set_cons_zero, List.set_cons_succ]); go_simp) (HS1.out W))⟩, ?_⟩
  refine ⟨fun vs W hI hV => .inl ⟨by clear hI hV hst; go_simp, .inl (by clear hI hV hst; (try simp only [Act.put, hval, hval2, List.setIfInBounds_toArray, List.set_cons_zero, List.set_cons_succ]); go_simp)⟩, ?_⟩
  refine ⟨fun vs W hI hV => .inl ⟨by clear hI hV hst; go_simp, .inl (by clear hI hV hst; (try simp only [Act.put, hval, hval2, List.setIfInBounds_toArray, List.set_cons_zero, List.set_cons_succ]); go_simp)⟩, ?_⟩
  refine ⟨fun vs W hI hV => .inl ⟨by clear hI hV hst; go_simp, .inl (by clear hI hV hst; (try simp only [Act.put, hval, hval2, List.setIfInBounds_toArray, List.set_cons_zero, List.set_cons_succ]); go_simp)⟩, ?_⟩
  refine ⟨fun vs W hI hV => .inl ⟨by clear hI hV hst; go_simp, .inl (by clear hI hV hst; (try simp only [Act.put, hval, hval2, List.setIfInBounds_toArray, List.set_cons_zero, List.set_cons_succ]); go_simp)⟩, ?_⟩
  refine ⟨fun vs W hI hV => .inl ⟨by clear hI hV hst; go_simp, .inl (by clear hI hV hst; (try simp only [Act.put, hval, hval2, List.setIfInBounds_toArray, List.set_cons_zero, List.set_cons_succ]); go_simp; split <;> omega)⟩, ?_⟩
  refine ⟨fun vs W hI hV => .inl ⟨by clear hI hV hst; go_simp, .inl (by clear hI hV hst; exact exec_fromL (a := .slice a n c) (b := .int .i64 k1) rfl (by (try simp only [Act.put, hval, hval2, List.setIfInBounds_toArray, List.set_cons_zero, List.set_cons_succ]); go_simp) (by (try simp only [Act.put, hval, hval2, List.setIfInBounds_toArray, List.set_cons_zero, List.set_cons_succ]); go_simp) (HS2.out W))⟩, ?_⟩
  refine ⟨fun vs W hI hV => .inl ⟨by clear hI hV hst; go_simp, .inl (by clear hI hV hst; (try simp only [Act.put, hval, hval2, List.setIfInBounds_toArray, List.set_cons_zero, List.set_cons_succ]); go_simp)⟩, ?_⟩
  refine ⟨fun vs W hI hV => .inl ⟨by clear hI hV hst; (try simp only [Act.put, hval, hval2, List.setIfInBounds_toArray, List.set_cons_zero, List.set_cons_succ]); go_simp, .inl ⟨.slice (some ⟨W.heap.size, 0, none⟩) 2 2, W.alloc (.cells #[.int .i64 0, .int .i64 0, .slice a k1 c, .int .i64 0, .int .i64 0, .slice a2 (n - k1) c2] 25), by clear hI hV hst; (try simp only [Act.put, hval, hval2, List.setIfInBounds_toArray, List.set_cons_zero, List.set_cons_succ]); go_simp, rgGood_mk hst hI ⟨_, rfl, heap_alloc_new _ _⟩ ((Sees.refl W).alloc _)⟩⟩, ?_⟩
  refine ⟨fun vs W hI hV => .inl ⟨by clear hI hV hst; (try simp only [Act.put, hval, hval2, List.setIfInBounds_toArray, List.set_cons_zero, List.set_cons_succ]); go_simp, .inr (.inr ⟨14, #[vs 12], by clear hI hV hst; (try simp only [Act.put, hval, hval2, List.setIfInBounds_toArray, List.set_cons_zero, List.set_cons_succ]); go_simp, ?_⟩)⟩, ?_⟩
  · obtain ⟨b, eb, hrow⟩ := hV 12 _ (by kernel_rfl) rfl
    rw [eb]
    have hin := Hu.out.sees (hsw2.trans hI)
    refine (few31_any (fun _ => True) _ [⟨0, 0, ls.take k1⟩, ⟨0, 0, ls.drop k1⟩] W (act31_two hrow trivial (Nat.le_refl 2) ((HR1.out _ _ hin).mono (fun _ _ _ => trivial)) ((HR2.out _ _ hin).mono (fun _ _ _ => trivial)))).mono ?_
    rintro e w' ⟨⟨b, rfl, hb⟩, hs⟩
    exact ⟨_, rfl, rgGood_mk hst hI ⟨b, rfl, hb⟩ hs⟩
  intro vs w3 hI hV
  obtain ⟨b, eb, hb⟩ := hV 13 _ rfl
  have S3 := Lib.hid (hsw2.trans hI)
  have Hb := Lib.hid hb
  clear hI hV hst hsw2 hb
  (try simp only [Act.put, hval, hval2, List.setIfInBounds_toArray, List.set_cons_zero, List.set_cons_succ])
  go_simp
  have eb : vs 13 = .bool b := by simpa using eb
  rw [eb]
  clear eb
  have HK := Lib.hid (fun W (hs : Sees w W) => known31 W (Ht.out.sees hs))
  cases hcb : b
  · refine wpFrom_to 20 hB (fun _ _ _ _ _ h => h) (by kernel_rfl) (by simp only [List.cons_append, List.nil_append, List.drop_succ_cons, List.drop_zero, List.take_succ_cons, List.take_zero, Nat.reduceSub]; rfl) ?_
    go_wp2_with fail
    refine wpFrom_end rfl ?_
    clear hB
    go_wp2_with fail
    refine (HK.out _ S3.out).mono ?_
    rintro e w4 ⟨rfl, hs4⟩
    go_wp2
    go_ret
    exact ⟨by simp, S3.out.trans hs4⟩
  subst hcb
  have H8 := Lib.hid (few31_sum (Hb.out rfl)).1
  have hn12 : n ≤ 12 := by have := (few31_sum (Hb.out rfl)).2; have := Hn.out; omega
  clear Hb HR1 HR2 HS1 HS2 hk1 hk1n
  refine wpFrom_to 20 hB (fun _ _ _ _ _ h => h) (by kernel_rfl) (by simp only [List.cons_append, List.nil_append, List.drop_succ_cons, List.drop_zero, List.take_succ_cons, List.take_zero, Nat.reduceSub]; rfl) ?_
  go_wp2_with fail
  refine (refValid31_any (fun b => b < w.heap.size) _ ls _ (Hu.out.sees S3.out) (fun l hl => by have := H8.out l hl; omega) (by have := Hn.out; omega)).mono ?_
  rintro e w4 ⟨rfl, hs4⟩
  have S4 := Lib.hid (S3.out.trans hs4)
  clear hs4
  cases hcv : (ls.all fun l => lnOk l.cells)
  · go_wp2_with fail
    refine wpFrom_end rfl ?_
    clear hB
    go_wp2_with fail
    refine (HK.out _ S4.out).mono ?_
    rintro e w5 ⟨rfl, hs5⟩
    go_wp2
    go_ret
    exact ⟨by simp, S4.out.trans hs5⟩
  have Hok := Lib.hid (fun l hl => List.all_eq_true.1 hcv l hl : ∀ l ∈ ls, lnOk l.cells = true)
  clear hcv S3
  go_wp2_with fail
  refine wpFrom_end rfl ?_
  clear hB
  go_wp2_with fail
  refine (hnew_ok 20 w4 (by omega) (by omega)).mono ?_
  rintro e w5 ⟨hb, rfl, P⟩
  have P5 := Lib.hid P
  have S5 := Lib.hid (S4.out.trans P.see)
  have Hz := Lib.hid S4.out.size
  clear P
  go_wp2_with fail
  refine (P5.out.push (G := fun b => b < w.heap.size) (Ht.out.sees S4.out) _ ls (Hu.out.sees S5.out) (fun c h e => by have := Hz.out; omega) Hok.out (by have := Hn.out; simp; omega) 0 (by have := Hn.out; simp; omega)).mono ?_
  rintro e w6 ⟨rfl, hp, _⟩
  have H6 : Hid (HiF w4 (fun c => (w4.heap.size ≤ c ∨ w5.heap.size ≤ c) ∧ c < w6.heap.size) w6 hb 20 0 ls) := Lib.hid hp.cut
  have S6 := Lib.hid (S4.out.trans hp.see)
  clear hp P5 S5
  go_wp2_with fail
  refine (H6.out.all).mono ?_
  rintro e w7 ⟨v1, rfl, ho1, hs7⟩
  obtain ⟨a1, c1, rfl, _⟩ := ho1.slice
  have O1 := Lib.hid ho1
  have S7 := Lib.hid hs7
  have H7 := Lib.hid (H6.out.sees hs7)
  clear ho1 hs7
  go_wp2_with fail
  refine (H7.out.last 3 (by decide)).mono ?_
  rintro e w8 ⟨v2, rfl, ho2, hs8⟩
  obtain ⟨L2, hL2⟩ : ∃ L2, L2 = ls.drop (ls.length - (3 : Int).toNat) := ⟨_, rfl⟩
  rw [← hL2] at ho2
  have HD8 := Lib.hid (fun l hl => H8.out l (List.mem_of_mem_drop (by rw [← hL2]; exact hl)) : ∀ l ∈ L2, l.cells.length ≤ 8)
  have HDn := Lib.hid (show L2.length ≤ 12 by rw [hL2]; have := Hn.out; simp; omega)
  clear hL2
  obtain ⟨a3, c3, rfl, _⟩ := ho2.slice
  have O2 := Lib.hid ho2
  have S8 := Lib.hid hs8
  clear ho2 hs8
  go_wp2_with fail
  refine wp_world (fun w9 hw9 => ?_)
  have hs9 : Sees w8 w9 := by subst hw9; exact (Sees.refl w8).alloc _
  have hrow : w9.heap[w8.heap.size]? = some (.cells #[.slice a1 ls.length c1, .slice a3 L2.length c3] 22 (0, 0)) := by subst hw9; exact heap_alloc_new _ _
  have I0 : Hid (ShI w6 w6.heap.size w7.heap.size w8.heap.size (.slice a1 ls.length c1) (.slice a3 L2.length c3) ls L2 w9 0) := Lib.hid ⟨(S7.out.trans S8.out).trans hs9, hrow, fun _ => (O1.out.mono (G := fun c => w6.heap.size ≤ c ∧ c < w7.heap.size) (fun c hc h => ⟨h, hc⟩)).sees (S8.out.trans hs9), fun _ => (O2.out.mono (G := fun c => w7.heap.size ≤ c ∧ c < w8.heap.size) (fun c hc h => ⟨h, hc⟩)).sees hs9⟩
  have Hz7 := Lib.hid S7.out.size
  have Hz8 := Lib.hid S8.out.size
  clear hw9 hs9 hrow O1 O2 S7 S8 H7
  generalize hA : w6.heap.size = A at *
  generalize hB : w7.heap.size = B at *
  generalize hR : w8.heap.size = R at *
  have HA := Lib.hid hA
  clear hA hB hR
  go_loopw [53] (fun j W => ∃ q : Nat, q ≤ 2 ∧ j = .int .i64 q ∧ ShI w6 A B R (.slice a1 ls.length c1) (.slice a3 L2.length c3) ls L2 W q) (fun j _ => 2 - (intOf j).toNat)
  case atStart => exact ⟨0, by omega, rfl, I0.out⟩
  case round =>
    obtain ⟨q, hq, rfl, hI⟩ := hrel
    by_cases hlt : q < 2
    · obtain ⟨av, m, cv, F, L, x0, hm, ho, hF, hm12, hm8, hk⟩ := hI.step hlt (Nat.le_of_eq HA.out) Hz7.out Hz8.out (by have := Hn.out; omega) HDn.out H8.out HD8.out
      have Hm := Lib.hid hm
      have HF := Lib.hid hF
      have Hm8 := Lib.hid hm8
      have Hkp := Lib.hid hk
      have HT0 := Lib.hid (fun h0 : L ≠ [] => StF.of (by rw [← hm] at *; exact ho) h0)
      clear hm ho hF hm8 hk hI
      have dq : decide ((q : Int) < 2) = true := decide_eq_true (by omega)
      go_wp2_with fail
      generalize wr = X at *
      clear x0
      go_loopw [7] (fun i W => ∃ k : Nat, k ≤ m ∧ i = .int .i64 k ∧ Keeps F X W ∧ (L ≠ [] → ∃ b, av = some ⟨b, 0, none⟩ ∧ StF F W b L k)) (fun i _ => m - (intOf i).toNat)
      case atStart => exact ⟨0, by omega, rfl, Keeps.refl _ _, HT0.out⟩
      case round =>
        obtain ⟨k, hk, rfl, hW, hT⟩ := hrel
        have HW := Lib.hid hW
        have HT := Lib.hid hT
        clear hW hT
        by_cases hlk : k < m
        · have hkl : k < L.length := by have := Hm.out; omega
          obtain ⟨b, rfl, hst⟩ := HT.out (fun e => by rw [e] at hkl; exact absurd hkl (Nat.not_lt_zero _))
          obtain ⟨a6, c6, x0, x1, ho, hb, hkeep⟩ := hst.step (List.getElem?_eq_getElem hkl)
          have Hl6 := Lib.hid (Hm8.out _ (List.getElem_mem hkl))
          generalize L[k] = l at *
          have Hkp2 := Lib.hid hkeep
          have Hb := Lib.hid hb
          have Ho := Lib.hid ho
          clear hkl hst hkeep ho hb HT
          go_wp2_with fail
          refine (stain_own 0 _ l.cells _ Ho.out (by have := Hl6.out; omega)).mono ?_
          rintro e w7 ⟨rfl, hk7⟩
          have HS7 := Lib.hid (HW.out.trans (hk7.mono (fun b _ e => Hb.out b e)))
          have HT7 := Lib.hid (Hkp2.out _ hk7)
          clear hk7 x0 x1
          go_wp2
          go_roundw
          case rel => exact ⟨k + 1, by omega, by go_num, HS7.out, fun _ => ⟨_, rfl, HT7.out⟩⟩
          case measure => simp [intOf] <;> omega
        · obtain rfl : m = k := by omega
          have HI := Lib.hid (Hkp.out _ HW.out)
          clear HT HW
          go_wp2
          go_roundw
          case rel => exact ⟨q + 1, by omega, by go_num, HI.out⟩
          case measure => simp [intOf] <;> omega
    · obtain rfl : q = 2 := by omega
      have S10 := Lib.hid hI.1
      clear hI I0
      have H10 := Lib.hid (H6.out.sees S10.out)
      have HU := Lib.hid (Hu.out.sees (S6.out.trans S10.out))
      by_cases hn0 : n = 0
      · have d0 : decide ((n : Int) > 0) = false := decide_eq_false (by omega)
        have d1 : decide ((0 : Int) < n) = false := decide_eq_false (by omega)
        have d2 : ¬ 0 < n := by omega
        clear hn0
        go_wp2_with fail
        refine (H10.out.all).mono ?_
        rintro e W1 ⟨v1, rfl, ho, hs⟩
        have O1 := Lib.hid ho.rd
        have S11 := Lib.hid ((S6.out.trans S10.out).trans hs)
        clear hs ho
        go_wp2_with fail
        refine (all_true _ _ _ _ ls ls _ O1.out.rdl (Hu.out.sees S11.out).rdl (by have := Hn.out; omega) (fun l hl => by have := H8.out l hl; omega) rfl).mono ?_
        rintro e W3 ⟨rfl, hs⟩
        go_wp2_with fail
        refine (HK.out _ (S11.out.trans hs)).mono ?_
        rintro e W9 ⟨rfl, hs9⟩
        go_wp2
        go_ret
        exact ⟨by simp, (S11.out.trans hs).trans hs9⟩
      · have d0 : decide ((n : Int) > 0) = true := decide_eq_true (by omega)
        have d1 : decide ((0 : Int) < n) = true := decide_eq_true (by omega)
        go_wp2_with fail
        obtain ⟨l, hl⟩ : ∃ l, ls[0]? = some l := ⟨_, List.getElem?_eq_getElem (by have := Hn.out; omega)⟩
        refine (H10.out.get 0 0 l (by simp) hl).mono ?_
        rintro e W5 ⟨v5, rfl, ho5, hs5⟩
        obtain ⟨a5, c5, rfl⟩ := ho5.slice
        have Hl8 := Lib.hid (H8.out l (List.mem_iff_getElem?.2 ⟨0, hl⟩))
        have O5 := Lib.hid ho5
        have S5 := Lib.hid hs5
        clear ho5 hs5 hl
        go_wp2_with fail
        refine calls_world (fun X hX => ?_)
        have hsx : Sees W5 X := by subst hX; exact (Sees.refl W5).alloc _
        clear hX
        refine (stain_own wr.heap.size _ l.cells _ (OwnCells.sees O5.out hsx) (by have := Hl8.out; omega)).mono ?_
        rintro e W6 ⟨rfl, hk6⟩
        have S12 := Lib.hid (S10.out.trans (((Keeps.of_sees (F := fun _ => False) (S5.out.trans hsx)).trans' hk6 (fun b hb e => by have := (El.rowLt O5.out e).1; omega)).sees_end (fun _ _ h => h)))
        have H12 := Lib.hid (H6.out.sees S12.out)
        clear hk6 hsx S5 O5 H10 HU
        go_wp2_with fail
        refine (H12.out.all).mono ?_
        rintro e W1 ⟨v1, rfl, ho, hs⟩
        have O1 := Lib.hid ho.rd
        have S11 := Lib.hid ((S6.out.trans S12.out).trans hs)
        clear hs ho
        go_wp2_with fail
        refine (all_true _ _ _ _ ls ls _ O1.out.rdl (Hu.out.sees S11.out).rdl (by have := Hn.out; omega) (fun l hl => by have := H8.out l hl; omega) rfl).mono ?_
        rintro e W3 ⟨rfl, hs⟩
        go_wp2_with fail
        refine (HK.out _ (S11.out.trans hs)).mono ?_
        rintro e W9 ⟨rfl, hs9⟩
        go_wp2
        go_ret
        exact ⟨by simp, (S11.out.trans hs).trans hs9⟩
end Go.Proofs.YtpicffaghoggdaaDoor
