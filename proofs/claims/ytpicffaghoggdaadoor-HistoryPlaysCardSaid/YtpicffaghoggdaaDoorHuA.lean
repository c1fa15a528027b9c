/- More lines than fit on some pages: HistoryMany. No condition. -/
import Derived.Test.YtpicffaghoggdaaDoorHtA
import Derived.Test.YtpicffaghoggdaaDoorHiK
import Derived.Test.YtpicffaghoggdaaDoorHrD
namespace Go.Proofs.YtpicffaghoggdaaDoor
set_option linter.unusedVariables false
set_option linter.unusedSimpArgs false
open Go.RowKit

theorem HiF.pulls {w1 W : World} {F G : Nat → Prop} {b : Nat} {most first : Int} {ls : List Ln} (h : HiF w1 F W b most first ls) (n : Nat) (hn : n ≤ ls.length) (hn2 : n ≤ 1000000) (u : Value) (hu : RdL G W u (ls.drop (ls.length - n))) (hG : ∀ c, G c → ¬ F c) :
    Calls Tryd.prog 28 #[.pointer (some ⟨b, 0, none⟩), .int .i64 n, .int .i64 0, u] W fun e w' => e = .returned (.bool true) ∧ (∃ F', HiF w1 F' w' b most first (ls.take (ls.length - n)) ∧ ∀ c, F' c → F c) ∧ Keeps F W w' := by
  refine hpulls_true F (fun w' => ∃ F', HiF w1 F' w' b most first (ls.take (ls.length - n)) ∧ ∀ c, F' c → F c) G _ n 0 u (ls.drop (ls.length - n)) W (by rw [List.length_drop]; omega) (fun l hl => h.lenc l (List.mem_of_mem_drop hl)) (by obtain ⟨a, c, e, _⟩ := hu; exact ⟨a, _, c, e⟩) (fun W W' ⟨F', h, k⟩ hs => ⟨F', h.sees hs, k⟩) ((h.pull n hn hn2).mono ?_)
  rintro e w' ⟨v, F', rfl, h1, h2, h3, h4⟩
  exact ⟨v, rfl, h1.mono (fun _ _ _ => trivial), hu.keeps h3 (fun c hc e => hG c hc e), h3, F', h2, h4⟩
theorem HiF.pulls_range {w1 W : World} {F : Nat → Prop} {b : Nat} {most first : Int} {ls : List Ln} (h : HiF w1 F W b most first ls) (n : Int) (hn : (ls.length : Int) < n) :
    Calls Tryd.prog 28 #[.pointer (some ⟨b, 0, none⟩), .int .i64 n, .int .i64 3, .slice none 0 0] W fun e w' => e = .returned (.bool true) ∧ Sees W w' := by
  refine (hpulls_true (fun _ => False) (fun w' => Sees W w') (fun _ => True) _ n 3 _ [] W (by simp) (fun l hl => by cases hl) ⟨_, _, _, rfl⟩ (fun _ _ h hs => h.trans hs) ((h.pull_range n hn).mono ?_)).mono ?_
  · rintro e w' ⟨rfl, hs⟩
    exact ⟨_, rfl, (El.Rd.nil _ _).rdl, (El.Rd.nil _ _).rdl, Keeps.of_sees hs, hs⟩
  · rintro e w' ⟨rfl, hs, _⟩
    exact ⟨rfl, hs⟩
theorem abc31_all : ((List.range 26).all fun k => lnOk [one (97 + (k : Nat))]) = true := by kernel_rfl
theorem abc31_ok (r : Int) (h : 97 ≤ r ∧ r ≤ 122) : lnOk [one r] = true := by
  obtain ⟨j, hj⟩ : ∃ j : Nat, (97 : Int) + j = r := ⟨(r - 97).toNat, by omega⟩
  have := List.all_eq_true.1 abc31_all j (List.mem_range.2 (by omega))
  rw [← hj]
  exact this
/-- A history and the reference's, in a cell, side by side. -/
def HiRef (w W : World) (hb R : Nat) (m : Int) (first : Int) (ls : List Ln) : Prop :=
  ∃ F G : Nat → Prop, ∃ v, HiF w F W hb m first ls ∧ HrAt W R m first v ∧ lnEl.Rd G W v ls ∧ (∀ c, F c → ¬ G c) ∧ ¬ F R ∧ ¬ G R ∧ (∀ c, F c → c < W.heap.size) ∧ (∀ c, G c → c < W.heap.size) ∧ w.heap.size ≤ R
theorem HiRef.sees {w W W' : World} {hb R : Nat} {m first : Int} {ls : List Ln} (h : HiRef w W hb R m first ls) (hs : Sees W W') : HiRef w W' hb R m first ls := by
  obtain ⟨F, G, v, h1, h2, h3, h4, h5, h6, h7, h8, h9⟩ := h
  exact ⟨F, G, v, h1.sees hs, h2.sees hs, h3.sees hs, h4, h5, h6, fun c hc => Nat.lt_of_lt_of_le (h7 c hc) hs.size, fun c hc => Nat.lt_of_lt_of_le (h8 c hc) hs.size, h9⟩
theorem HiRef.see {w W : World} {hb R : Nat} {m first : Int} {ls : List Ln} (h : HiRef w W hb R m first ls) : Sees w W := by
  obtain ⟨F, G, v, h1, _⟩ := h
  exact h1.see

set_option maxRecDepth 1000000 in
set_option maxHeartbeats 8000000 in
theorem historyMany_in (m q t : Nat) (w : World) (ht : Tabs w) (hm : m ≤ 300) (hq : q ≤ 600) (ht2 : t ≤ 300) :
    Calls Tryd.prog 7 #[.int .u16 m, .int .u16 q, .int .u16 t] w fun e w' => e = .returned (.bool true) ∧ Sees w w' := by
  have Ht := Lib.hid ht
  clear ht
  have d1 : decide ((m : Int) > 300) = false := decide_eq_false (by omega)
  have d2 : decide ((q : Int) > 600) = false := decide_eq_false (by omega)
  have d3 : decide ((t : Int) > 300) = false := decide_eq_false (by omega)
  go_enter Tryd.func7, Tryd.ntmps7
  go_wp2_with fail
  refine (hnew_ok (m : Int) w (by omega) (by omega)).mono ?_
  rintro e w1 ⟨hb, rfl, P⟩
  have P1 := Lib.hid P.cut
  clear P
  go_wp2_with fail
  refine wp_world (fun w2 hw2 => ?_)
  have hs2 : Sees w1 w2 := by subst hw2; exact (Sees.refl w1).alloc _
  have hr2 : HrAt w2 w1.heap.size m 0 (.slice none 0 0) := by subst hw2; exact HrAt.new rfl
  have I0 : Hid (HiRef w w2 hb w1.heap.size m 0 []) := Lib.hid ⟨_, fun _ => False, _, P1.out.sees hs2, hr2, El.Rd.nil _ _, fun c _ h => h, fun h => by have := h.2; omega, fun h => h, fun c h => Nat.lt_of_lt_of_le h.2 hs2.size, fun c h => h.elim, P1.out.see.size⟩
  clear hs2 hr2 hw2 P1
  generalize w1.heap.size = R at *
  go_loopw [10] (fun i W => ∃ k : Nat, k ≤ q ∧ i = .int .i64 k ∧ ∃ (first : Nat) (ls : List Ln), first + ls.length = k ∧ ls.length ≤ m ∧ HiRef w W hb R m first ls) (fun i _ => q - (intOf i).toNat)
  case atStart => exact ⟨0, by omega, rfl, 0, [], rfl, Nat.zero_le _, I0.out⟩
  case round =>
    obtain ⟨k, hk, rfl, first, ls, hfk, hlm, hI⟩ := hrel
    have HI := Lib.hid hI
    clear hI I0
    by_cases hlt : k < q
    · obtain ⟨r, hr⟩ : ∃ r : Int, 97 + (k : Int) % 26 = r := ⟨_, rfl⟩
      have hr1 : 97 ≤ r ∧ r ≤ 122 := by omega
      go_wp2_with fail
      refine (row31_any r _).mono ?_
      rintro e w3 ⟨v3, rfl, ho3, hs3⟩
      obtain ⟨a3, c3, rfl⟩ := ho3.slice
      have O3 := Lib.hid ho3
      have S3 := Lib.hid hs3
      clear ho3 hs3
      rw [show [one r].length = 1 from rfl] at *
      go_wp2_with fail
      refine calls_world (fun X hX => ?_)
      have hsx : Sees w3 X := by subst hX; exact ((Sees.refl w3).alloc _).alloc _
      have hzX : X.heap.size = w3.heap.size + 2 := by subst hX; simp
      have hB : LnAt X w3.heap.size (.slice a3 1 c3) false := by subst hX; exact (LnAt.new rfl).alloc _
      have hrow : X.heap[w3.heap.size + 1]? = some (.cells #[.slice a3 1 c3, .bool false] 40 (0, 0)) := by
        subst hX
        have := heap_alloc_new (w3.alloc (.cells #[.slice a3 1 c3, .bool false] 40)) (.cells #[.slice a3 1 c3, .bool false] 40)
        simpa using this
      clear hX
      obtain ⟨F, G, v, h1, h2, h3, h4, h5, h6, h7, h8, h9⟩ := HI.out
      have h2lt := h2.lt
      have hz3 := S3.out.size
      have hown : ∀ c, Value.ownBlock (.slice a3 1 c3) = some c → wr.heap.size ≤ c ∧ c < w3.heap.size := fun c hc => El.rowLt O3.out hc
      have hSX := S3.out.trans hsx
      have hRd : ∀ W, Sees w3 W → cellEl.Rd (fun b => Value.ownBlock (.slice a3 1 c3) = some b) W (.slice a3 1 c3) [one r] := fun W hs => ((OwnCells.sees O3.out hs).el.mono (fun b _ h => h.1)).rd
      have HRd := Lib.hid hRd
      have hR1 := lnrd_row (F := fun c => c = w3.heap.size + 1 ∨ Value.ownBlock (.slice a3 1 c3) = some c) (cap := 1) [(.slice a3 1 c3, (⟨[one r], false⟩ : Ln))] hrow (.inl rfl) (Nat.le_refl 1) (by
        intro y hy
        simp only [List.mem_cons, List.not_mem_nil, or_false] at hy
        subst hy
        exact (hRd X hsx).mono (fun _ _ h => .inr h))
      have Hok : Hid (lnOk [one r] = true) := Lib.hid (abc31_ok r hr1)
      refine ((h1.sees hSX).push Ht.out _ [⟨[one r], false⟩] hR1 (fun c hc hF => ?_) (by intro y hy; simp only [List.mem_cons, List.not_mem_nil, or_false] at hy; subst hy; exact Hok.out) (by simp; omega) (ls.length + 1 - m) (by simp)).mono ?_
      · have := h7 c hF
        rcases hc with hc | hc
        · omega
        · have := hown c hc; omega
      rintro e w5 ⟨rfl, hp, hk5⟩
      have hz5 := hk5.size
      have P5 := Lib.hid hp.cut
      have D5 := Lib.hid ((h2.sees hSX).keeps hk5 h5)
      have B5 := Lib.hid (hB.keeps hk5 (fun e => by have := h7 _ e; omega))
      have V5 := Lib.hid ((h3.sees hSX).keeps hk5 (fun c hG hF => h4 c hF hG))
      have HRd5 := Lib.hid (show cellEl.Rd (fun b => Value.ownBlock (.slice a3 1 c3) = some b) w5 (.slice a3 1 c3) [one r] from (hRd X hsx).keeps hk5 (fun c hc hF => by have := hown c hc; have := h7 c hF; omega))
      have HF := Lib.hid (And.intro h4 (And.intro h5 (And.intro h6 (And.intro h7 (And.intro h8 h9)))))
      have HZ := Lib.hid (And.intro h2lt (And.intro hz3 (And.intro hzX (And.intro hz5 hown))))
      clear hp hk5 h1 h2 h4 h5 h6 h7 h8 h9 h2lt hz3 hzX hz5 hown hrow hR1 hRd hB hsx hSX HRd S3
      obtain ⟨av, cv, rfl, _⟩ := h3.slice'
      clear h3
      go_wp2_with fail
      refine wpFrom_go (by kernel_rfl) (by kernel_rfl) (fun hB w6 hs6 => ?_)
      have hRlt := D5.out.lt
      have D6 := Lib.hid (D5.out.sees hs6)
      have B6 := Lib.hid (B5.out.sees hs6)
      have P6 := Lib.hid (P5.out.sees hs6)
      have V6 := Lib.hid (V5.out.sees hs6)
      have HRd6 := Lib.hid (show cellEl.Rd (fun b => Value.ownBlock (.slice a3 1 c3) = some b) w6 (.slice a3 1 c3) [one r] from HRd5.out.keeps (Keeps.of_sees (F := fun _ => False) hs6) (fun _ _ h => h))
      have hz6 := hs6.size
      clear D5 B5 P5 V5 HRd5 hs6
      obtain ⟨k2, hk2⟩ : ∃ k2, k2 = ls.length + 1 - m := ⟨_, rfl⟩
      rw [← hk2] at P6
      have hval : ∀ x v, (Spec.is x).val v = x := fun _ _ => rfl
      have hval2 : ∀ V v, (Spec.so V).val v = v := fun _ _ => rfl
      have hst : segStay (Sees w6) [.is (.agg #[.int .i64 m, .int .i64 first, .slice av ls.length cv]), .is (.agg #[.slice a3 1 c3, .bool false]),
          .so (fun x W => ∃ b, x = .slice (some ⟨b, 0, none⟩) 1 1 ∧ w6.heap.size ≤ b ∧ W.heap[b]? = some (.cells #[.slice a3 1 c3, .bool false] 40 (0, 0))),
          .so (fun x W => ∃ b, x = .slice (some ⟨b, 0, none⟩) 1 1 ∧ w6.heap.size ≤ b ∧ W.heap[b]? = some (.cells #[.slice a3 1 c3, .bool false] 40 (0, 0))),
          .so (fun x W => ∃ a', ∃ n' c' : Nat, x = .agg #[.int .i64 m, .int .i64 (first + k2), .slice a' n' c'] ∧ lnEl.Rd (fun b => G b ∨ Value.ownBlock (.slice a3 1 c3) = some b ∨ w6.heap.size ≤ b) W (.slice a' n' c') ((ls ++ [(⟨[one r], false⟩ : Ln)]).drop k2))] :=
        ⟨fun u W W' _ ⟨b, h1, h0, h2⟩ hs => ⟨b, h1, h0, by rw [hs.block _ (Array.getElem?_eq_some_iff.1 h2).1]; exact h2⟩, fun u W W' _ ⟨b, h1, h0, h2⟩ hs => ⟨b, h1, h0, by rw [hs.block _ (Array.getElem?_eq_some_iff.1 h2).1]; exact h2⟩, fun u W W' _ ⟨a', n', c', h1, h2⟩ hs => ⟨a', n', c', h1, h2.sees hs⟩, trivial⟩
      refine wpFrom_any 5 _ hB (by kernel_rfl) rfl hst (by simp only [List.cons_append, List.nil_append, List.drop_succ_cons, List.drop_zero, List.take_succ_cons, List.take_zero, Nat.reduceSub]; rfl) ?_
      refine ⟨fun vs W hI hV => .inl ⟨by clear hI hV hst; go_simp, .inl (by have q := (D6.out.sees hI).c; obtain ⟨q0, q1, q2⟩ := q; clear hI hV hst; (try simp only [Act.put, hval, hval2, List.setIfInBounds_toArray, List.set_cons_zero, List.set_cons_succ]); go_simp)⟩, ?_⟩
      refine ⟨fun vs W hI hV => .inl ⟨by clear hI hV hst; go_simp, .inl (by have q := (B6.out.sees hI).c; obtain ⟨q0, q1⟩ := q; clear hI hV hst; (try simp only [Act.put, hval, hval2, List.setIfInBounds_toArray, List.set_cons_zero, List.set_cons_succ]); go_simp)⟩, ?_⟩
      refine ⟨fun vs W hI hV => .inl ⟨by clear hI hV hst; (try simp only [Act.put, hval, hval2, List.setIfInBounds_toArray, List.set_cons_zero, List.set_cons_succ]); go_simp, .inl ⟨.slice (some ⟨W.heap.size, 0, none⟩) 1 1, W.alloc (.cells #[.slice a3 1 c3, .bool false] 40), by clear hI hV hst; (try simp only [Act.put, hval, hval2, List.setIfInBounds_toArray, List.set_cons_zero, List.set_cons_succ]); go_simp, rgGood_mk hst hI ⟨_, rfl, hI.size, heap_alloc_new _ _⟩ ((Sees.refl W).alloc _)⟩⟩, ?_⟩
      refine ⟨fun vs W hI hV => .inl ⟨by clear hI hV hst; (try simp only [Act.put, hval, hval2, List.setIfInBounds_toArray, List.set_cons_zero, List.set_cons_succ]); go_simp, .inr (.inr ⟨39, #[vs 2], by clear hI hV hst; (try simp only [Act.put, hval, hval2, List.setIfInBounds_toArray, List.set_cons_zero, List.set_cons_succ]); go_simp, ?_⟩)⟩, ?_⟩
      · obtain ⟨b, eb, hbz, hrow⟩ := hV 2 _ (by kernel_rfl) rfl
        refine (list31_any (vs 2) W).mono ?_
        rintro e w' ⟨rfl, hs⟩
        exact ⟨_, rfl, rgGood_mk hst hI ⟨b, eb, hbz, by rw [hs.block _ (Array.getElem?_eq_some_iff.1 hrow).1]; exact hrow⟩ hs⟩
      refine ⟨fun vs W hI hV => .inl ⟨by clear hI hV hst; (try simp only [Act.put, hval, hval2, List.setIfInBounds_toArray, List.set_cons_zero, List.set_cons_succ]); go_simp, .inr (.inr ⟨38, #[.agg #[.int .i64 m, .int .i64 first, .slice av ls.length cv], vs 3], by clear hI hV hst; (try simp only [Act.put, hval, hval2, List.setIfInBounds_toArray, List.set_cons_zero, List.set_cons_succ]); go_simp, ?_⟩)⟩, ?_⟩
      · obtain ⟨b, eb, hbz, hrow⟩ := hV 3 _ (by kernel_rfl) rfl
        rw [eb]
        have hR1 := lnrd_row (F := fun c => G c ∨ Value.ownBlock (.slice a3 1 c3) = some c ∨ w6.heap.size ≤ c) (cap := 1) [(.slice a3 1 c3, (⟨[one r], false⟩ : Ln))] hrow (.inr (.inr hbz)) (Nat.le_refl 1) (by
          intro y hy
          simp only [List.mem_cons, List.not_mem_nil, or_false] at hy
          subst hy
          exact (show cellEl.Rd (fun b => Value.ownBlock (.slice a3 1 c3) = some b) W (.slice a3 1 c3) [one r] from HRd6.out.keeps (Keeps.of_sees (F := fun _ => False) hI) (fun _ _ h => h)).mono (fun _ _ h => .inr (.inl h)))
        refine (refPush31 (fun c => G c ∨ Value.ownBlock (.slice a3 1 c3) = some c ∨ w6.heap.size ≤ c) m first _ _ ls [⟨[one r], false⟩] k2 W (by omega) (by omega) (by omega) (by simp; omega) (by omega) (by simp) ((V6.out.sees hI).mono (fun _ _ h => .inl h)) hR1 (by simp; omega)).mono ?_
        rintro e w' ⟨⟨v', rfl, hv'⟩, hs⟩
        obtain ⟨a', c', rfl, _⟩ := hv'.slice'
        exact ⟨_, rfl, rgGood_mk hst hI ⟨_, _, _, rfl, hv'.mono (fun b _ h => by
          rcases h with h | h
          · exact h.1
          · exact .inr (.inr (Nat.le_trans hI.size h)))⟩ hs⟩
      intro vs w7 hI hV
      obtain ⟨a', n', c', e4, hR7⟩ := hV 4 _ rfl
      have D7 := Lib.hid (D6.out.sees hI)
      have P7 := Lib.hid (P6.out.sees hI)
      have HR7 := Lib.hid hR7
      have hz7 := hI.size
      clear hI hV hst D6 B6 P6 V6 HRd6 hR7
      (try simp only [Act.put, hval, hval2, List.setIfInBounds_toArray, List.set_cons_zero, List.set_cons_succ])
      go_simp
      try rw [e4]
      obtain ⟨w9, hw9⟩ : ∃ w9, w9 = w7.setRow R #[.int .i64 m, .int .i64 (first + k2), .slice a' n' c'] := ⟨_, rfl⟩
      have hst9 : (Instr.storeAt 60 (.pointer (some ⟨R, 0, none⟩)) (.agg #[.int .i64 m, .int .i64 (first + k2), .slice a' n' c'])).run Tryd.prog w7 = .ok () w9 := by
        rw [hw9]
        exact run_storeAt_row (P := Tryd.prog) (W := w7) 60 R _ 60 [.int .i64 m, .int .i64 (first + k2), .slice a' n' c'] (fun _ => by kernel_rfl) D7.out rfl (by intro v hv; simp only [List.mem_cons, List.not_mem_nil, or_false] at hv; rcases hv with rfl | rfl | rfl <;> rfl)
      have hk9 : Keeps (fun b => b = R) w7 w9 := by rw [hw9]; exact ⟨rfl, rfl, rfl, by simp [World.setRow], fun b hb hne => setRow_other w7 _ b _ hne⟩
      have D9 : HrAt w9 R m (first + k2) (.slice a' n' c') := by rw [hw9]; exact setRow_heap _ _ _ _ _ (0, 0) D7.out
      have hz9 := hk9.size
      have I9 : Hid (HiRef w w9 hb R m ((first + k2 : Nat) : Int) ((ls ++ [(⟨[one r], false⟩ : Ln)]).drop k2)) := Lib.hid (by
        obtain ⟨k4, k5, k6, k7, k8, k9⟩ := HF.out
        obtain ⟨y1, y2, y3, y4, y5⟩ := HZ.out
        have hFR : ∀ c, ((F c ∨ X.heap.size ≤ c) ∧ c < w5.heap.size) → c ≠ R := fun c hc e => by
          subst e
          rcases hc.1 with h | h
          · exact k5 h
          · omega
        have hGR : ∀ c, ((G c ∨ Value.ownBlock (.slice a3 1 c3) = some c ∨ w6.heap.size ≤ c) ∧ c < w7.heap.size) → c ≠ R := fun c hc e => by
          subst e
          rcases hc.1 with h | h | h
          · exact k6 h
          · have := y5 _ h; omega
          · omega
        refine ⟨_, fun c => (G c ∨ Value.ownBlock (.slice a3 1 c3) = some c ∨ w6.heap.size ≤ c) ∧ c < w7.heap.size, .slice a' n' c', P7.out.keeps hk9 hFR (fun c e => by have e : c = R := e; omega), D9, (HR7.out.mono (fun c hc h => ⟨h, hc⟩)).keeps hk9 hGR, fun c hF hG => ?_, fun h => hFR R h rfl, fun h => hGR R h rfl, fun c hc => by have := hc.2; omega, fun c hc => by have := hc.2; omega, k9⟩
        rcases hF.1 with h | h
        · have hlt := k7 c h
          rcases hG.1 with g | g | g
          · exact k4 c h g
          · have := y5 c g; omega
          · omega
        · rcases hG.1 with g | g | g
          · have := k8 c g; omega
          · have := y5 c g; omega
          · have := hF.2; omega)
      have Hst9 := Lib.hid hst9
      clear hw9 hst9 hk9 D9 D7 P7 HR7
      refine wpFrom_S 1 (by rfl) ?_
      refine wpS_only (i := 5) (by kernel_rfl) (wpOp_skip (w' := w9) (by rfl) (wanted_none (by rfl) _) (exec_store (a := .pointer (some ⟨R, 0, none⟩)) (v := .agg #[.int .i64 m, .int .i64 (first + k2), .slice a' n' c']) rfl (by go_simp) (by go_simp) Hst9.out) ?_)
      refine wpS_end (by kernel_rfl) ?_
      clear hB
      go_wp2
      go_roundw
      case rel => exact ⟨k + 1, by omega, by go_num, first + k2, _, by simp; omega, by simp; omega, I9.out⟩
      case measure => simp [intOf] <;> omega
    · obtain rfl : q = k := by omega
      obtain ⟨F, G, v, h1, h2, h3, h4, h5, h6, h7, h8, h9⟩ := HI.out
      have H1 := Lib.hid h1
      have H2 := Lib.hid h2
      have H3 := Lib.hid h3
      have H4 := Lib.hid (And.intro h4 h5)
      obtain ⟨av, cv, rfl, hnc⟩ := h3.slice'
      obtain ⟨n, hn⟩ : ∃ n, n = ls.length := ⟨_, rfl⟩
      have Hn := Lib.hid hn
      rw [← hn] at H3 H2 h2 hnc hlm hfk
      obtain ⟨q0, q1, q2⟩ := h2.c
      clear h1 h2 h3 h4 h5 h6 h7 h8 h9 hn HI
      go_wp2_with fail
      refine (looks31_any H1.out (.slice av n cv) H3.out (m : Int) (by omega) (by have := Hn.out; omega)).mono ?_
      rintro e w3 ⟨rfl, hs3⟩
      have J1 := Lib.hid (H1.out.sees hs3)
      have J2 := Lib.hid (H2.out.sees hs3)
      have J3 := Lib.hid (H3.out.sees hs3)
      clear hs3 H1 H2 H3 q0 q1 q2
      obtain ⟨q0, q1, q2⟩ := J2.out.c
      by_cases hlt2 : n < t
      · have e1 : decide ((t : Int) > (n : Int)) = true := decide_eq_true (by omega)
        have e2 : decide ((n : Int) < (t : Int)) = true := decide_eq_true (by omega)
        have Hl2 := Lib.hid hlt2
        go_wp2_with fail
        refine (J1.out.pulls_range (t : Int) (by have := Hn.out; have := Hl2.out; omega)).mono ?_
        rintro e w4 ⟨rfl, hs4⟩
        have S4 := Lib.hid (J1.out.see.trans hs4)
        clear hs4 q0 q1 q2
        go_wp2_with fail
        refine (known31 _ (Ht.out.sees S4.out)).mono ?_
        rintro e w5 ⟨rfl, hs5⟩
        go_wp2
        go_ret
        exact ⟨by simp, S4.out.trans hs5⟩
      · have e1 : decide ((t : Int) > (n : Int)) = false := decide_eq_false (by omega)
        have e2 : decide ((n : Int) < (t : Int)) = false := decide_eq_false (by omega)
        have htn : t ≤ n := by omega
        obtain ⟨a9, c9, h9, h9r⟩ := cut_from J3.out (n - t) (Nat.sub_le _ _)
        have g1 : IntKind.i64.wrap ((n : Int) - (t : Int)) = ((n - t : Nat) : Int) := by rw [IntWalk.i64_in _ (by omega)]; omega
        have gt : IntKind.i64.wrap (t : Int) = (t : Int) := IntWalk.i64_in _ (by omega)
        have H9 := Lib.hid h9
        have H9r := Lib.hid h9r
        clear hlt2 h9 h9r
        go_wp2_with fail
        refine wpFrom_go (by kernel_rfl) (by kernel_rfl) (fun hB w4 hs4 => ?_)
        have K1 := Lib.hid (J1.out.sees hs4)
        have K2 := Lib.hid (J2.out.sees hs4)
        have K3 := Lib.hid (J3.out.sees hs4)
        clear hs4 J1 J2 J3 q0 q1 q2
        have hval : ∀ x v, (Spec.is x).val v = x := fun _ _ => rfl
        have hval2 : ∀ V v, (Spec.so V).val v = v := fun _ _ => rfl
        have hst : segStay (Sees w4) [.is (.pointer (some ⟨hb, 0, none⟩)), .is (.int .u16 t), .is (.int .i64 t), .is (.pointer (some ⟨R, 2, none⟩)), .is (.slice av n cv), .is (.pointer (some ⟨R, 2, none⟩)), .is (.slice av n cv), .is (.int .i64 n), .is (.int .u16 t), .is (.int .i64 t), .is (.int .i64 (n - t : Nat)), .is (.slice a9 (n - (n - t)) c9)] := trivial
        refine wpFrom_any 12 _ hB (by kernel_rfl) rfl hst (by simp only [List.cons_append, List.nil_append, List.drop_succ_cons, List.drop_zero, List.take_succ_cons, List.take_zero, Nat.reduceSub]; rfl) ?_
        refine ⟨fun vs W hI hV => .inl ⟨by clear hI hV hst; go_simp, .inl (by clear hI hV hst; (try simp only [Act.put, hval, hval2, List.setIfInBounds_toArray, List.set_cons_zero, List.set_cons_succ]); go_simp)⟩, ?_⟩
        refine ⟨fun vs W hI hV => .inl ⟨by clear hI hV hst; go_simp, .inl (by clear hI hV hst; (try simp only [Act.put, hval, hval2, List.setIfInBounds_toArray, List.set_cons_zero, List.set_cons_succ]); go_simp)⟩, ?_⟩
        refine ⟨fun vs W hI hV => .inl ⟨by clear hI hV hst; go_simp, .inl (by clear hI hV hst; (try simp only [Act.put, hval, hval2, List.setIfInBounds_toArray, List.set_cons_zero, List.set_cons_succ]); go_simp)⟩, ?_⟩
        refine ⟨fun vs W hI hV => .inl ⟨by clear hI hV hst; go_simp, .inl (by clear hI hV hst; (try simp only [Act.put, hval, hval2, List.setIfInBounds_toArray, List.set_cons_zero, List.set_cons_succ]); go_simp)⟩, ?_⟩
        refine ⟨fun vs W hI hV => .inl ⟨by clear hI hV hst; go_simp, .inl (by have q := (K2.out.sees hI).c; obtain ⟨q0, q1, q2⟩ := q; clear hI hV hst; (try simp only [Act.put, hval, hval2, List.setIfInBounds_toArray, List.set_cons_zero, List.set_cons_succ]); go_simp)⟩, ?_⟩
        refine ⟨fun vs W hI hV => .inl ⟨by clear hI hV hst; go_simp, .inl (by clear hI hV hst; (try simp only [Act.put, hval, hval2, List.setIfInBounds_toArray, List.set_cons_zero, List.set_cons_succ]); go_simp)⟩, ?_⟩
        refine ⟨fun vs W hI hV => .inl ⟨by clear hI hV hst; go_simp, .inl (by have q := (K2.out.sees hI).c; obtain ⟨q0, q1, q2⟩ := q; clear hI hV hst; (try simp only [Act.put, hval, hval2, List.setIfInBounds_toArray, List.set_cons_zero, List.set_cons_succ]); go_simp)⟩, ?_⟩
        refine ⟨fun vs W hI hV => .inl ⟨by clear hI hV hst; go_simp, .inl (by clear hI hV hst; (try simp only [Act.put, hval, hval2, List.setIfInBounds_toArray, List.set_cons_zero, List.set_cons_succ]); go_simp)⟩, ?_⟩
        refine ⟨fun vs W hI hV => .inl ⟨by clear hI hV hst; go_simp, .inl (by clear hI hV hst; (try simp only [Act.put, hval, hval2, List.setIfInBounds_toArray, List.set_cons_zero, List.set_cons_succ]); go_simp)⟩, ?_⟩
        refine ⟨fun vs W hI hV => .inl ⟨by clear hI hV hst; go_simp, .inl (by clear hI hV hst; (try simp only [Act.put, hval, hval2, List.setIfInBounds_toArray, List.set_cons_zero, List.set_cons_succ]); go_simp)⟩, ?_⟩
        refine ⟨fun vs W hI hV => .inl ⟨by clear hI hV hst; go_simp, .inl (by clear hI hV hst; (try simp only [Act.put, hval, hval2, List.setIfInBounds_toArray, List.set_cons_zero, List.set_cons_succ]); go_simp)⟩, ?_⟩
        refine ⟨fun vs W hI hV => .inl ⟨by clear hI hV hst; go_simp, .inl (by clear hI hV hst; exact exec_fromL (a := .slice av n cv) (b := .int .i64 (n - t : Nat)) rfl (by (try simp only [Act.put, hval, hval2, List.setIfInBounds_toArray, List.set_cons_zero, List.set_cons_succ]); go_simp) (by (try simp only [Act.put, hval, hval2, List.setIfInBounds_toArray, List.set_cons_zero, List.set_cons_succ]); go_simp) (H9.out W))⟩, ?_⟩
        intro vs w5 hI hV
        have L1 := Lib.hid (K1.out.sees hI)
        have L2 := Lib.hid (K2.out.sees hI)
        have L3 := Lib.hid (K3.out.sees hI)
        clear hI hV hst K1 K2 K3
        (try simp only [Act.put, hval, hval2, List.setIfInBounds_toArray, List.set_cons_zero, List.set_cons_succ])
        go_simp
        refine wpFrom_to 14 hB (fun _ _ _ _ _ h => h) (by kernel_rfl) (by simp only [List.cons_append, List.nil_append, List.drop_succ_cons, List.drop_zero, List.take_succ_cons, List.take_zero, Nat.reduceSub]; rfl) ?_
        go_wp2_with fail
        refine (L1.out.pulls (G := G) t (by have := Hn.out; omega) (by omega) _ (by rw [← Hn.out]; exact (H9r.out _ _ L3.out).rdl) (fun c hG hF => H4.out.1 c hF hG)).mono ?_
        rintro e w6 ⟨rfl, ⟨F2, hp, hF2⟩, hk6⟩
        have M1 := Lib.hid hp
        have M2 := Lib.hid (L2.out.keeps hk6 H4.out.2)
        have M3 := Lib.hid (L3.out.keeps hk6 (fun c hG hF => H4.out.1 c hF hG))
        clear hp hk6 hF2 L1 L2 L3
        go_wp2_with fail
        have hst : segStay (Sees w6) [.is (.pointer (some ⟨hb, 0, none⟩)), .is (.agg #[.int .i64 m, .int .i64 first, .slice av n cv]), .is (.int .u16 t), .is (.int .i64 t),
            .so (fun x W => ∃ v', x = .agg #[.int .i64 m, .int .i64 first, v'] ∧ lnEl.Rd (fun _ => True) W v' (ls.take (ls.length - t))), .is (.pointer (some ⟨R, 1, none⟩)), .is (.int .i64 first)] :=
          ⟨fun u W W' _ ⟨v', h1, h2⟩ hs => ⟨v', h1, h2.sees hs⟩, trivial⟩
        refine wpFrom_any 21 _ hB (by kernel_rfl) rfl hst (by simp only [List.cons_append, List.nil_append, List.drop_succ_cons, List.drop_zero, List.take_succ_cons, List.take_zero, Nat.reduceSub]; rfl) ?_
        refine ⟨fun vs W hI hV => .inl ⟨by clear hI hV hst; go_simp, .inl (by clear hI hV hst; (try simp only [Act.put, hval, hval2, List.setIfInBounds_toArray, List.set_cons_zero, List.set_cons_succ]); go_simp)⟩, ?_⟩
        refine ⟨fun vs W hI hV => .inl ⟨by clear hI hV hst; go_simp, .inl (by have q := (M2.out.sees hI).c; obtain ⟨q0, q1, q2⟩ := q; clear hI hV hst; (try simp only [Act.put, hval, hval2, List.setIfInBounds_toArray, List.set_cons_zero, List.set_cons_succ]); go_simp)⟩, ?_⟩
        refine ⟨fun vs W hI hV => .inl ⟨by clear hI hV hst; go_simp, .inl (by clear hI hV hst; (try simp only [Act.put, hval, hval2, List.setIfInBounds_toArray, List.set_cons_zero, List.set_cons_succ]); go_simp)⟩, ?_⟩
        refine ⟨fun vs W hI hV => .inl ⟨by clear hI hV hst; go_simp, .inl (by clear hI hV hst; (try simp only [Act.put, hval, hval2, List.setIfInBounds_toArray, List.set_cons_zero, List.set_cons_succ]); go_simp)⟩, ?_⟩
        refine ⟨fun vs W hI hV => .inl ⟨by clear hI hV hst; (try simp only [Act.put, hval, hval2, List.setIfInBounds_toArray, List.set_cons_zero, List.set_cons_succ]); go_simp, .inr (.inr ⟨40, #[.agg #[.int .i64 m, .int .i64 first, .slice av n cv], .int .i64 t], by clear hI hV hst; (try simp only [Act.put, hval, hval2, List.setIfInBounds_toArray, List.set_cons_zero, List.set_cons_succ]); go_simp, ?_⟩)⟩, ?_⟩
        · refine (refPull31 G m first _ ls t W (by have := Hn.out; omega) (by have := Hn.out; omega) (M3.out.sees hI)).mono ?_
          rintro e w' ⟨⟨v', rfl, hv'⟩, hs⟩
          exact ⟨_, rfl, rgGood_mk hst hI ⟨v', rfl, hv'.mono (fun _ _ _ => trivial)⟩ hs⟩
        refine ⟨fun vs W hI hV => .inl ⟨by clear hI hV hst; go_simp, .inl (by clear hI hV hst; (try simp only [Act.put, hval, hval2, List.setIfInBounds_toArray, List.set_cons_zero, List.set_cons_succ]); go_simp)⟩, ?_⟩
        refine ⟨fun vs W hI hV => .inl ⟨by clear hI hV hst; go_simp, .inl (by have q := (M2.out.sees hI).c; obtain ⟨q0, q1, q2⟩ := q; clear hI hV hst; (try simp only [Act.put, hval, hval2, List.setIfInBounds_toArray, List.set_cons_zero, List.set_cons_succ]); go_simp)⟩, ?_⟩
        intro vs2 w7 hI hV
        obtain ⟨v', e4, hv'⟩ := hV 18 _ rfl
        have N1 := Lib.hid (M1.out.sees hI)
        have NV := Lib.hid hv'
        clear hI hV hst M1 M2 M3 hv'
        (try simp only [Act.put, hval, hval2, List.setIfInBounds_toArray, List.set_cons_zero, List.set_cons_succ])
        go_simp
        refine wpFrom_to 27 hB (fun _ _ _ _ _ h => h) (by kernel_rfl) (by simp only [List.cons_append, List.nil_append, List.drop_succ_cons, List.drop_zero, List.take_succ_cons, List.take_zero, Nat.reduceSub]; rfl) ?_
        go_wp2_with fail
        refine (looks31_any N1.out v' NV.out (first : Int) (by omega) (by have := Hn.out; simp; omega)).mono ?_
        rintro e w8 ⟨rfl, hs8⟩
        have S8 := Lib.hid (N1.out.see.trans hs8)
        clear hs8 N1 NV
        go_wp2_with fail
        refine (known31 _ (Ht.out.sees S8.out)).mono ?_
        rintro e w9 ⟨rfl, hs9⟩
        go_wp2_with fail
        refine wpFrom_end rfl ?_
        clear hB
        go_wp2
        go_ret
        exact ⟨by simp, S8.out.trans hs9⟩
set_option maxRecDepth 1000000 in
set_option maxHeartbeats 4000000 in
theorem historyMany_out1 (m q t : Nat) (w : World) (ht : Tabs w) (h : 300 < m) :
    Calls Tryd.prog 7 #[.int .u16 m, .int .u16 q, .int .u16 t] w fun e w' => e = .returned (.bool true) ∧ Sees w w' := by
  have Ht := Lib.hid ht
  clear ht
  have d1 : decide ((m : Int) > 300) = true := decide_eq_true (by omega)
  go_enter Tryd.func7, Tryd.ntmps7
  go_wp2_with fail
  refine (known31 _ Ht.out).mono ?_
  rintro e w5 ⟨rfl, hs5⟩
  go_wp2
  go_ret
  exact ⟨by simp, hs5⟩
set_option maxRecDepth 1000000 in
set_option maxHeartbeats 4000000 in
theorem historyMany_out2 (m q t : Nat) (w : World) (ht : Tabs w) (h1 : m ≤ 300) (h : 600 < q) :
    Calls Tryd.prog 7 #[.int .u16 m, .int .u16 q, .int .u16 t] w fun e w' => e = .returned (.bool true) ∧ Sees w w' := by
  have Ht := Lib.hid ht
  clear ht
  have d1 : decide ((m : Int) > 300) = false := decide_eq_false (by omega)
  have d2 : decide ((q : Int) > 600) = true := decide_eq_true (by omega)
  go_enter Tryd.func7, Tryd.ntmps7
  go_wp2_with fail
  refine (known31 _ Ht.out).mono ?_
  rintro e w5 ⟨rfl, hs5⟩
  go_wp2
  go_ret
  exact ⟨by simp, hs5⟩
set_option maxRecDepth 1000000 in
set_option maxHeartbeats 4000000 in
theorem historyMany_out3 (m q t : Nat) (w : World) (ht : Tabs w) (h1 : m ≤ 300) (h2 : q ≤ 600) (h : 300 < t) :
    Calls Tryd.prog 7 #[.int .u16 m, .int .u16 q, .int .u16 t] w fun e w' => e = .returned (.bool true) ∧ Sees w w' := by
  have Ht := Lib.hid ht
  clear ht
  have d1 : decide ((m : Int) > 300) = false := decide_eq_false (by omega)
  have d2 : decide ((q : Int) > 600) = false := decide_eq_false (by omega)
  have d3 : decide ((t : Int) > 300) = true := decide_eq_true (by omega)
  go_enter Tryd.func7, Tryd.ntmps7
  go_wp2_with fail
  refine (known31 _ Ht.out).mono ?_
  rintro e w5 ⟨rfl, hs5⟩
  go_wp2
  go_ret
  exact ⟨by simp, hs5⟩
theorem historyMany_any (m q t : Nat) (w : World) (ht : Tabs w) :
    Calls Tryd.prog 7 #[.int .u16 m, .int .u16 q, .int .u16 t] w fun e w' => e = .returned (.bool true) ∧ Sees w w' := by
  by_cases h1 : m ≤ 300
  · by_cases h2 : q ≤ 600
    · by_cases h3 : t ≤ 300
      · exact historyMany_in m q t w ht h1 h2 h3
      · exact historyMany_out3 m q t w ht h1 h2 (by omega)
    · exact historyMany_out2 m q t w ht h1 (by omega)
  · exact historyMany_out1 m q t w ht (by omega)
end Go.Proofs.YtpicffaghoggdaaDoor
