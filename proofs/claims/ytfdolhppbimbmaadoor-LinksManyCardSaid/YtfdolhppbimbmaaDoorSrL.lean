/- search.All (42). The tables hold what the program's text lays. search.before and found (42): where a place is. The tables hold what the program's text lays. No condition. -/
import Derived.Test.YtfdolhppbimbmaaDoorSrI
namespace Go.Proofs.YtfdolhppbimbmaaDoor
set_option linter.unusedVariables false
set_option linter.unusedSimpArgs false
open Go.RowKit Go.Shelf
attribute [local go_sem] Oper.semAt_some

theorem El.wpListIn_append_own {α : Type} {E : El α} {st : TypeId} {Fe : Fence} {n : Nat} {F : Nat → Prop} {W : World} {v : Value} {xs : List α} {ops : Array Oper} {rest : List Oper} {o : Oper} {a : Act} {Q : Exit → Act → World → Prop} (T : El.Typed Tryd.prog E st) (hgd : o.guard = none) (s x : Operand) (ho : o.op = .call { callee := .builtin .append, args := #[s, x], argTypes := #[st, st] }) (hs : a.eval s = v) (h : E.Own F W v xs)
    (ad : Addr) (m c : Nat) (hx : a.eval x = .slice (some ad) m c) (news : List Value) (ys : List α) (Fn : Nat → Prop) (hown : E.ownIn Fn W news ys) (hm : m = ys.length) (hnews : ∀ j u, news[j]? = some u → W.cell? (ad.add j) = some u)
    (hF : ∀ b, F b → b < W.heap.size) (hFn : ∀ b, Fn b → b < W.heap.size ∧ ¬ F b) (hn : xs.length + ys.length ≤ 100000000)
    (hQ : ∀ v' W', E.Own (fun b => F b ∨ Fn b ∨ W.heap.size ≤ b) W' v' (xs ++ ys) → Keeps (fun b => v.ownBlock = some b) W W' → wpListIn Fe n Tryd.prog ops Q rest (a.put o.dst v') W') : wpListIn Fe n Tryd.prog ops Q (o :: rest) a W := by
  obtain ⟨v', W', h1, h2, h3⟩ := El.run_append_own T o.type h ad m c news ys Fn hown hm hnews hF hFn hn
  refine wpListIn_plain hgd fun K hK' => ?_
  unfold Oper.wpIn
  refine ⟨?_, ?_⟩
  · simp [Oper.about, ho, resolve, Target.leads, Sem.run_pure]
  · rw [Oper.semAt_plain Fe _ _ (by rw [ho]; intro c hc'; cases hc')]
    simp [execOp, ho, resolve, invoke, builtin, hs, hx, h1, Result.andThen]
    exact hK' _ _ (hQ v' W' h2 h3)
/-- Matches. -/
def mtEl : El Mt := wordsEl 33 4 (fun m => [.int .i64 m.l0, .int .i64 m.c0, .int .i64 m.l1, .int .i64 m.c1]) (by decide) (fun _ => rfl) (by intro x v hv; simp at hv; rcases hv with rfl | rfl | rfl | rfl <;> rfl)
theorem typedMt : El.Typed Tryd.prog mtEl 25 := El.typed_of (z := .agg #[.int .i64 0, .int .i64 0, .int .i64 0, .int .i64 0]) (bytes := 32) Tryd.underlying25 (by kernel_rfl) rfl (by decide)
/-- A row of matches that is in its own block alone. -/
theorem mt_ownIn {F G : Nat → Prop} {w : World} : ∀ {xs : List Mt} {vs : List Value} {F : Nat → Prop}, mtEl.ownIn F w vs xs → mtEl.ownIn G w vs xs
  | [], _, _, h => h
  | x :: xs, vs, F, ⟨F1, F2, _, _, _, h4, h5⟩ => ⟨fun _ => False, fun _ => False, fun _ h => h.elim, fun _ h => h.elim, fun _ h => h.elim, h4, mt_ownIn (F := F) h5⟩
theorem mt_self {F : Nat → Prop} {w : World} {v : Value} {xs : List Mt} (h : mtEl.Own F w v xs) : mtEl.Own (fun b => v.ownBlock = some b) w v xs := by
  obtain ⟨vals, h1, h2, h3⟩ := h
  exact ⟨vals, h1, fun g hg => hg, mt_ownIn (F := F) h3⟩
theorem mt_news {W : World} {g : Nat} {m : Mt} (hg : W.heap[g]? = some (.cells #[.int .i64 m.l0, .int .i64 m.c0, .int .i64 m.l1, .int .i64 m.c1] 33 (0, 0))) : mtEl.ownIn (fun _ => False) W [.int .i64 m.l0, .int .i64 m.c0, .int .i64 m.l1, .int .i64 m.c1] [m] ∧ ∀ j u, [Value.int .i64 m.l0, .int .i64 m.c0, .int .i64 m.l1, .int .i64 m.c1][j]? = some u → W.cell? ((⟨g, 0, none⟩ : Addr).add j) = some u :=
  ⟨El.ownIn_one (E := mtEl) rfl, fun j u hu => El.row_cells hg j u hu⟩
theorem Keeps.putObj_one (W : World) (D : Nat) (o : Obj) : Keeps (fun b => b = D) W (W.putObj D o) :=
  ⟨rfl, rfl, rfl, by rw [World.putObj_size]; exact Nat.le_refl _, fun b _ hb => World.putObj_heap_other hb⟩
/-- A variable that holds a match. -/
def MtAt (W : World) (b : Nat) (m : Mt) : Prop := W.heap[b]? = some (.cells #[.int .i64 m.l0, .int .i64 m.c0, .int .i64 m.l1, .int .i64 m.c1] 33 (0, 0))
namespace MtAt
variable {W W' : World} {b : Nat} {m : Mt}
theorem lt (h : MtAt W b m) : b < W.heap.size := (Array.getElem?_eq_some_iff.1 h).1
theorem keeps {F : Nat → Prop} (h : MtAt W b m) (hk : Keeps F W W') (hF : ¬ F b) : MtAt W' b m := by
  unfold MtAt; rw [hk.block _ h.lt hF]; exact h
theorem sees (h : MtAt W b m) (hs : Sees W W') : MtAt W' b m := h.keeps (Keeps.of_sees (F := fun _ => False) hs) (fun h => h)
theorem c (h : MtAt W b m) : W.cell? ⟨b, 0, none⟩ = some (.int .i64 m.l0) ∧ W.cell? ⟨b, 1, none⟩ = some (.int .i64 m.c0) ∧ W.cell? ⟨b, 2, none⟩ = some (.int .i64 m.l1) ∧ W.cell? ⟨b, 3, none⟩ = some (.int .i64 m.c1) := by
  rw [cell_of_row _ _ _ _ _ _ h, cell_of_row _ _ _ _ _ _ h, cell_of_row _ _ _ _ _ _ h, cell_of_row _ _ _ _ _ _ h]; exact ⟨rfl, rfl, rfl, rfl⟩
theorem fr (h : MtAt W b m) : ∀ i, W.frozen? ⟨b, i, none⟩ = false := fun i => frozen_of_row W b i _ _ h
end MtAt
/-- What the loop of All has. -/
structure AllI (w : World) (b0 B D : Nat) (v : Value) (xs : List Mt) (sv : Value) (first : Int) (p : ByteArray) (fold : Bool) (W : World) : Prop where
  b : Bx W b0 25 v
  o : mtEl.Own (fun x => v.ownBlock = some x) W v xs
  a : ∀ x, v.ownBlock = some x → w.heap.size ≤ x ∧ x ≠ b0 ∧ (x < B ∨ B + 4 ≤ x) ∧ x ≠ D ∧ x ≠ D + 1
  m : MaI w B sv first p fold W
namespace AllI
variable {w W W' : World} {b0 B D : Nat} {v sv : Value} {xs : List Mt} {first : Int} {p : ByteArray} {fold : Bool}
theorem keeps (h : AllI w b0 B D v xs sv first p fold W) (hk : Keeps (fun b => b = D ∨ b = D + 1) W W') (h1 : b0 < D) (h2 : B + 4 ≤ D) (h3 : w.heap.size ≤ D) : AllI w b0 B D v xs sv first p fold W' :=
  ⟨h.b.keeps hk (by omega), h.o.keeps hk (fun b hb e => by have := h.a b hb; omega), h.a, h.m.keeps hk (fun b hb => by omega)⟩
theorem sees (h : AllI w b0 B D v xs sv first p fold W) (hs : Sees W W') : AllI w b0 B D v xs sv first p fold W' := ⟨h.b.sees hs, h.o.sees hs, h.a, h.m.sees hs⟩
theorem lt (h : AllI w b0 B D v xs sv first p fold W) {x : Nat} (hx : v.ownBlock = some x) : x < W.heap.size := (h.o.base hx).2
end AllI
section
variable {w : World} {a : Option Addr} {n cp : Nat} {ls : List Ln} {first : Int} {p : ByteArray}
set_option maxHeartbeats 4000000 in
set_option maxRecDepth 100000 in
theorem all_err (ht : Tabs w) (ha : lnEl.Rd (fun b => b < w.heap.size) w (.slice a n cp) ls) (hn : ls.length ≤ 1000000) (hc : ∀ x ∈ ls, x.cells.length ≤ 1000000) (hp : p.size ≤ 1000000000) (fold : Bool) (h : ckR ls first p = 2) :
    Calls Tryd.prog 17 #[.slice a n cp, .int .i64 first, .string p, .bool fold] w fun e w' => e = .returned (.tuple #[.slice none 0 0, .int .i64 2]) ∧ Sees w w' := by
  have K := Lib.hid (by have q := check_any _ _ ls w ht ha hn hc first p hp; rw [h] at q; exact q)
  clear h
  go_enter Tryd.func17, Tryd.ntmps17
  go_wp2_with fail
  refine K.out.mono ?_
  rintro e W1 ⟨rfl, s1⟩
  go_wp2
  go_ret2
  exact ⟨rfl, s1⟩
set_option maxHeartbeats 8000000 in
set_option maxRecDepth 100000 in
theorem sall_ok (hst : Std w) (ht : Tabs w) (ha : lnEl.Rd (fun b => b < w.heap.size) w (.slice a n cp) ls) (fold : Bool) (h : ckR ls first p = 0) :
    Calls Tryd.prog 17 #[.slice a n cp, .int .i64 first, .string p, .bool fold] w fun e w' => ∃ v, e = .returned (.tuple #[v, .int .i64 0]) ∧ mtEl.Own (fun b => w.heap.size ≤ b) w' v ((allM ls first p.data.toList fold).take 10000) ∧ Sees w w' := by
  obtain ⟨f1, f2, f3, f4, _⟩ := ck_facts h
  have hnn : n = ls.length := ha.len
  have K := Lib.hid (by have q := check_any _ _ ls w ht ha (by omega) (fun x hx => by have := f2 x hx; omega) first p (by omega); rw [h] at q; exact q)
  have KM := Lib.hid (fun W => matches_any a n cp first p fold (by omega) W)
  have HSQ := Lib.hid (fun B => seq_of (w := w) (B := B) (a := a) (cp := cp) (first := first) fold (fun b => b < w.heap.size) hnn h)
  have HST := Lib.hid hst
  have HA := Lib.hid ha
  obtain ⟨ms, hms⟩ : ∃ ms, ms = allM ls first p.data.toList fold := ⟨_, rfl⟩
  rw [← hms] at HSQ ⊢
  clear h hst ha ht f1 f2 f3 f4 hnn hms
  refine callsIn_wide (n := 0) |>.1 ?_
  refine callsIn_of_wp_marks Tryd.func17 rfl trivial ?_ rfl
  refine wpIn_wide.2 ?_
  simp only [Tryd.ntmps17, List.size_toArray, List.length_cons, List.length_nil, Nat.reduceAdd, Nat.reduceSub, Array.replicate_succ, Array.replicate_zero, List.push_toArray, List.append_toArray, List.nil_append, List.cons_append]
  go_wp2_with fail
  refine K.out.mono ?_
  rintro e W1 ⟨rfl, s1⟩
  go_wp2_with fail
  refine calls_world fun W2 hW2 => ?_
  have B2 : Bx W2 W1.heap.size 25 (.slice none 0 0) := by subst hW2; exact Bx.new rfl
  have S2 : Sees w W2 := by subst hW2; exact s1.alloc _
  have hz1 := s1.size
  have hz2 : W1.heap.size < W2.heap.size := by subst hW2; simp
  clear hW2 s1
  generalize W1.heap.size = b0 at *
  refine (KM.out _).mono ?_
  rintro e W3 ⟨rfl, hm, s3⟩
  have hz3 : W2.heap.size + 4 ≤ W3.heap.size := hm.d.lt
  have I3 := Lib.hid (⟨B2.sees s3, mt_self (El.Own.nil (E := mtEl) (fun _ => False) W3), fun x hx => (by cases hx), hm, S2.trans s3⟩ : AllI w b0 W2.heap.size W3.heap.size (.slice none 0 0) [] _ first _ fold W3)
  have hz0 : w.heap.size ≤ W3.heap.size := (S2.trans s3).size
  clear B2 S2 hm s3
  generalize W2.heap.size = B at *
  go_wp2_with fail
  refine wp_range 116 #[.pointer (some ⟨B, 0, none⟩), .pointer (some ⟨B + 1, 0, none⟩), .pointer (some ⟨B + 3, 0, none⟩), .pointer (some ⟨B + 2, 0, none⟩)] Mt.val _ _ (HSQ.out B) (enters_of Tryd.func116 (by kernel_rfl) rfl) rfl rfl
    (fun j O W => j ≤ 10000 ∧ ∃ v, O = (fun b => b = b0 ∨ v.ownBlock = some b) ∧ AllI w b0 B W3.heap.size v (ms.take j) (.slice a n cp) first (lowP fold p) fold W)
    (fun e W => e = .exit 0 ∧ ∃ v, AllI w b0 B W3.heap.size v (ms.take 10000) (.slice a n cp) first (lowP fold p) fold W) (fun b => b = b0 ∨ (Value.slice none 0 0).ownBlock = some b)
    ?keep ?keepx ?mem ?own ⟨by omega, _, rfl, I3.out⟩ ?round ?done ?leave ?ret
  case keep =>
    rintro j O W W' ⟨h0, v, h1, h2⟩ hk
    exact ⟨h0, v, h1, h2.keeps hk (by omega) hz3 hz0⟩
  case keepx =>
    rintro e W W' ⟨h0, v, h2⟩ hk
    exact ⟨h0, v, h2.keeps hk (by omega) hz3 hz0⟩
  case mem =>
    rintro j O W ⟨_, v, _, h2⟩
    exact h2.m.mem HA.out HST.out
  case own =>
    rintro j O W ⟨_, v, rfl, h2⟩ b (rfl | hb)
    · exact ⟨h2.b.lt, by omega, by omega⟩
    · have := h2.a b hb
      exact ⟨h2.lt hb, this.2.2.2.1, this.2.2.2.2⟩
  case ret => rintro W ⟨h, _⟩; cases h
  case round =>
    rintro l j O x W hx ⟨h0, v, rfl, h2⟩ hz
    have hxv : Mt.val x = .agg #[.int .i64 x.l0, .int .i64 x.c0, .int .i64 x.l1, .int .i64 x.c1] := rfl
    rw [hxv]
    have HX := Lib.hid hx
    clear hx hxv
    gi_wp2
    have sA : Sees W (W.alloc (.cells #[.int .i64 x.l0, .int .i64 x.c0, .int .i64 x.l1, .int .i64 x.c1] 33)) := (Sees.refl W).alloc _
    refine ⟨fun A => AllI w b0 B W3.heap.size v (ms.take j) (.slice a n cp) first (lowP fold p) fold A ∧ MtAt A W.heap.size x, ⟨h2.sees sA, heap_alloc_new W _⟩, fun A A' hA hk => ⟨hA.1.keeps hk (by omega) hz3 hz0, hA.2.keeps hk (by omega)⟩, sA, fun W' hW' hz' => ?_⟩
    obtain ⟨h4, h5⟩ := hW'
    have c0 := h4.b.c
    have g0 := h4.b.fr
    obtain ⟨m0, m1, m2, m3⟩ := h5.c
    obtain ⟨av, cv, hv, _⟩ := h4.o.slice
    have hL : (ms.take j).length = j := by rw [List.length_take]; have := (List.getElem?_eq_some_iff.1 HX.out).1; omega
    rw [hL] at hv
    have H4 := Lib.hid h4
    have HV := Lib.hid hv
    have HLL := Lib.hid hL
    have hzb : W.heap.size < W'.heap.size := h5.lt
    rw [hv] at c0
    clear h2 h4 h5 hv hL sA
    rcases Nat.lt_or_eq_of_le h0 with hlt | rfl
    · have g1 : ((j : Int) == 10000) = false := by rw [beq_eq_false_iff_ne]; omega
      have SA : Sees W' (W'.alloc (.cells #[.int .i64 x.l0, .int .i64 x.c0, .int .i64 x.l1, .int .i64 x.c1] 33)) := (Sees.refl W').alloc _
      have HAA := Lib.hid (H4.out.sees SA)
      have Hrow := Lib.hid (heap_alloc_new W' (.cells #[.int .i64 x.l0, .int .i64 x.c0, .int .i64 x.l1, .int .i64 x.c1] 33))
      have HO := Lib.hid (by have q := HAA.out.o; rw [HV.out] at q; exact q)
      have HcF := Lib.hid (fun b (hb : (Value.slice av j cv).ownBlock = some b) => HAA.out.lt (by rw [HV.out]; exact hb))
      have HL2 := Lib.hid (show (ms.take j).length + [x].length ≤ 100000000 by rw [HLL.out]; simp; omega)
      gi_wp2_with (gi_at_builtin; refine El.wpListIn_append_own (v := .slice av j cv) typedMt rfl (.tmp 29) (.tmp 31) rfl (by go_simp) HO.out ⟨W'.heap.size, 0, none⟩ 1 1 (by go_simp) [.int .i64 x.l0, .int .i64 x.c0, .int .i64 x.l1, .int .i64 x.c1] [x] (fun _ => False) (mt_news Hrow.out).1 rfl (mt_news Hrow.out).2 HcF.out (fun b hb => hb.elim) HL2.out ?_; intro v9 w9 ho9 hk9; obtain ⟨a9, k9, rfl, _⟩ := ho9.slice; obtain ⟨j9, hj9⟩ : ∃ j9, j9 = (ms.take j ++ [x]).length := ⟨_, rfl⟩; rw [← hj9] at ho9 ⊢; have hj9' := Lib.hid hj9; clear hj9; have hBB := HAA.out.b.keeps hk9 (fun e => by have q := HAA.out.a b0 (by rw [HV.out]; exact e); exact q.2.1 rfl); have c9 := hBB.c; have f9 := hBB.fr; have HBB := Lib.hid hBB; have HO9 := Lib.hid ho9; have HK9 := Lib.hid hk9; clear c0 g0 m0 m1 m2 m3 ho9 hk9 hBB)
      have hk0 : Keeps (fun b => b = b0 ∨ (Value.slice av j cv).ownBlock = some b) W' (w9.setCell ⟨b0, 0, none⟩ (Value.slice a9 j9 k9)) := ((Keeps.of_sees (F := fun b => b = b0 ∨ (Value.slice av j cv).ownBlock = some b) SA).trans (HK9.out.mono (fun b _ h => .inr h))).setCell (p := ⟨b0, 0, none⟩) (fun _ => .inl rfl) _
      have hX : ∀ b, (b = b0 ∨ (Value.slice av j cv).ownBlock = some b) → w.heap.size ≤ b ∧ (b < B ∨ B + 4 ≤ b) := fun b hb => by
        rcases hb with rfl | hb
        · exact ⟨hz1, .inl hz2⟩
        · have q := H4.out.a b (by rw [HV.out]; exact hb)
          exact ⟨q.1, q.2.2.1⟩
      have hlist : ms.take (j + 1) = ms.take j ++ [x] := by rw [List.take_add_one, HX.out]; rfl
      have hown := mt_self HO9.out
      have hbase : ∀ b, (Value.slice a9 j9 k9).ownBlock = some b → (Value.slice av j cv).ownBlock = some b ∨ W'.heap.size < b := fun b hb => by
        rcases (HO9.out.base hb).1 with h | h | h
        · exact .inl h
        · exact h.elim
        · rw [World.size_alloc] at h; exact .inr h
      have hA9 : ∀ b, (Value.slice a9 j9 k9).ownBlock = some b → w.heap.size ≤ b ∧ b ≠ b0 ∧ (b < B ∨ B + 4 ≤ b) ∧ b ≠ W3.heap.size ∧ b ≠ W3.heap.size + 1 := fun b hb => by
        rcases hbase b hb with h | h
        · exact H4.out.a b (by rw [HV.out]; exact h)
        · exact ⟨by omega, by omega, by omega, by omega, by omega⟩
      refine ⟨fun b => b = b0 ∨ (Value.slice a9 j9 k9).ownBlock = some b, ⟨by omega, .slice a9 j9 k9, rfl, ?_⟩, (by rw [HV.out]; exact hk0), ?_⟩
      · rw [hlist]
        exact ⟨HBB.out.set _, hown.keeps ((Keeps.refl (fun b => b = b0) w9).setCell (p := ⟨b0, 0, none⟩) (fun _ => rfl) _) (fun b hb e => (hA9 b hb).2.1 e), hA9, H4.out.m.keeps hk0 hX⟩
      · intro b hb
        rcases hb with h | h
        · exact .inl (.inl h)
        · rcases hbase b h with h' | h'
          · exact .inl (.inr (by rw [HV.out]; exact h'))
          · exact .inr (by omega)
    · gi_wp2
      exact ⟨⟨rfl, v, H4.out⟩, Keeps.refl _ _⟩
  case done =>
    rintro O W ⟨h0, v, _, h2⟩ hD
    have c0 := h2.b.c
    rw [List.take_of_length_le (Nat.le_refl _)] at h2
    have hL : ms.take 10000 = ms := List.take_of_length_le h0
    have H2 := Lib.hid h2
    have hDD := Lib.hid hD
    clear h2 hD
    go_wp2_with fail
    refine marks_ret rfl hDD.out (v := .tuple #[v, .int .i64 0]) (by simp [results, Tryd.results17, go_sem]) ⟨v, rfl, ?_, ?_⟩
    · rw [hL]
      exact (H2.out.o.keeps (Keeps.putObj_one _ W3.heap.size _) (fun b hb e => (H2.out.a b hb).2.2.2.1 e)).mono (fun b _ hb => (H2.out.a b hb).1)
    · exact sees_put H2.out.m.s (by exact hz0)
  case leave =>
    rintro id W ⟨hid, v, h2⟩ hD
    cases hid
    have c0 := h2.b.c
    have H2 := Lib.hid h2
    have hDD := Lib.hid hD
    clear h2 hD
    go_wp2_with fail
    refine marks_ret rfl hDD.out (v := .tuple #[v, .int .i64 0]) (by simp [results, Tryd.results17, go_sem]) ⟨v, rfl, ?_, ?_⟩
    · exact (H2.out.o.keeps (Keeps.putObj_one _ W3.heap.size _) (fun b hb e => (H2.out.a b hb).2.2.2.1 e)).mono (fun b _ hb => (H2.out.a b hb).1)
    · exact sees_put H2.out.m.s (by exact hz0)
end
end Go.Proofs.YtfdolhppbimbmaaDoor

namespace Go.Proofs.YtfdolhppbimbmaaDoor
set_option linter.unusedVariables false
set_option linter.unusedSimpArgs false
open Go.RowKit Go.Shelf
attribute [local go_sem] Oper.semAt_some

/-- Is a place before another one? -/
def befB (l c l' c' : Int) : Bool := decide (l < l') || (l == l' && decide (c < c'))
theorem befB_beh (m : Mt) (l c : Int) : befB l c m.l0 m.c0 = m.beh l c := rfl
theorem befB_ahe (m : Mt) (l c : Int) : befB m.l0 m.c0 l c = m.ahe l c := rfl
set_option maxHeartbeats 1000000 in
theorem before_any (l c l' c' : Int) (w : World) :
    Calls Tryd.prog 120 #[.agg #[.int .i64 l, .int .i64 c], .agg #[.int .i64 l', .int .i64 c']] w fun e w' => e = .returned (.bool (befB l c l' c')) ∧ Sees w w' := by
  have hs : Sees w ((w.alloc (.cells #[.int .i64 l, .int .i64 c] 31)).alloc (.cells #[.int .i64 l', .int .i64 c'] 31)) := ((Sees.refl w).alloc _).alloc _
  have HS := Lib.hid hs
  clear hs
  go_enter Tryd.func120, Tryd.ntmps120
  rcases Bool.eq_false_or_eq_true (decide (l < l')) with h1 | h1
  · go_wp2
    go_ret
    exact ⟨ret_bool (by unfold befB; rw [h1]; rfl), HS.out⟩
  rcases Bool.eq_false_or_eq_true (l == l') with h2 | h2
  · rcases Bool.eq_false_or_eq_true (decide (c < c')) with h3 | h3
    all_goals
      go_wp2
      go_ret
      exact ⟨ret_bool (by unfold befB; rw [h1, h2, h3]; rfl), HS.out⟩
  · go_wp2
    go_ret
    exact ⟨ret_bool (by unfold befB; rw [h1, h2]; rfl), HS.out⟩
/-- What found answers. -/
def foB (ls : List Ln) (first l c : Int) : Bool := decide (l < first) || decide (l ≥ first + ls.length) || decide (c < 0) || decide (c ≥ (cols ls : Int))
def foR (ls : List Ln) (first : Int) (p : ByteArray) (l c : Int) : Int := if ckR ls first p = 0 then (if foB ls first l c then 3 else 0) else 2
theorem ckR_two (ls : List Ln) (first : Int) (p : ByteArray) : ckR ls first p = 0 ∨ ckR ls first p = 2 := by unfold ckR; split <;> simp
set_option maxHeartbeats 4000000 in
set_option maxRecDepth 100000 in
theorem found_any (F : Nat → Prop) (v : Value) (ls : List Ln) (w : World) (ht : Tabs w) (ha : lnEl.Rd F w v ls) (hn : ls.length ≤ 1000000) (hnc : ∀ x ∈ ls, x.cells.length ≤ 1000000) (first : Int) (p : ByteArray) (hp : p.size ≤ 1000000000) (l c : Int) :
    Calls Tryd.prog 119 #[v, .int .i64 first, .string p, .agg #[.int .i64 l, .int .i64 c]] w fun e w' => e = .returned (.int .i64 (foR ls first p l c)) ∧ Sees w w' := by
  have HS := Lib.hid (show Sees w (w.alloc (.cells #[.int .i64 l, .int .i64 c] 31)) from (Sees.refl w).alloc _)
  have HP := Lib.hid (heap_alloc_new w (.cells #[.int .i64 l, .int .i64 c] 31))
  have K := Lib.hid (check_any F v ls _ (ht.sees HS.out) (ha.sees HS.out) hn hnc first p hp)
  obtain ⟨ao, ca, rfl, hca⟩ := ha.slice'
  have Ha := Lib.hid ha
  have Hn := Lib.hid hn
  clear ht ha hnc hn hca
  go_enter Tryd.func119, Tryd.ntmps119
  rcases ckR_two ls first p with hk | hk
  · have Hfo : Hid (foR ls first p l c = if foB ls first l c then 3 else 0) := by unfold Hid foR; rw [if_pos hk]
    obtain ⟨f1, f2, f3, f4, _⟩ := ck_facts hk
    rw [hk] at K
    clear hk f2 f4
    obtain ⟨f3, f5⟩ := f3
    go_wp2_with fail
    refine K.out.mono ?_
    rintro e W1 ⟨rfl, s1⟩
    obtain ⟨d0, d1⟩ : W1.cell? ⟨w.heap.size, 0, none⟩ = some (.int .i64 l) ∧ W1.cell? ⟨w.heap.size, 1, none⟩ = some (.int .i64 c) := by
      have hh := (Keeps.of_sees (F := fun _ => False) s1).block w.heap.size (by simp) (fun h => h)
      rw [HP.out] at hh
      rw [cell_of_row _ _ _ _ _ _ hh, cell_of_row _ _ _ _ _ _ hh]; exact ⟨rfl, rfl⟩
    have HS1 := Lib.hid (HS.out.trans s1)
    have g0 := fun d os => (sees_grow W1 d os).cell d0
    have g1 := fun d os => (sees_grow W1 d os).cell d1
    clear s1
    have Hv : Hid (∀ b1 b2 b3 b4, decide (l < first) = b1 → decide (l ≥ first + (ls.length : Int)) = b2 → decide (c < 0) = b3 → decide (c ≥ (cols ls : Int)) = b4 → foB ls first l c = (b1 || b2 || b3 || b4)) := by
      unfold Hid; rintro _ _ _ _ rfl rfl rfl rfl; rfl
    have hlen : ∀ m : Nat, m = ls.length → m ≤ 1000 := by omega
    rcases Nat.eq_zero_or_pos ls.length with hz | hz
    · have hem : ls.length = 0 := hz
      rw [hz] at Hv Ha ⊢
      rcases Bool.eq_false_or_eq_true (decide (l < first)) with e1 | e1
      · go_wp2
        refine wp_region_quiet_below (by kernel_rfl) (by kernel_rfl) ?_
        repeat (first | go_big_quiet_skip | (go_big_quiet_want; go_big_quiet_op; go_big_quiet_on))
        refine wpQuiet_nil ?_; intro w2 hw2'; have hw2 := regrown_sees hw2'; clear hw2'
        go_wp2
        go_ret
        have hq := Hv.out true _ _ _ e1 rfl rfl rfl
        exact ⟨ret_int (by rw [Hfo.out, hq]; simp), HS1.out.trans hw2⟩
      · have e2 : decide (l ≥ first + ((0 : Nat) : Int)) = true := by have := of_decide_eq_false e1; rw [decide_eq_true_eq]; omega
        have e2' : decide (l ≥ first + 0) = true := by simpa using e2
        have e2'' : decide (l ≥ first) = true := by simpa using e2
        go_wp2
        refine wp_region_quiet_below (by kernel_rfl) (by kernel_rfl) ?_
        repeat (first | go_big_quiet_skip | (go_big_quiet_want; go_big_quiet_op; go_big_quiet_on))
        refine wpQuiet_nil ?_; intro w2 hw2'; have hw2 := regrown_sees hw2'; clear hw2'
        go_wp2
        go_ret
        have hq := Hv.out _ true _ _ e1 e2 rfl rfl
        exact ⟨ret_int (by rw [Hfo.out, hq]; simp), HS1.out.trans hw2⟩
    · obtain ⟨b2, o2, y, a2, m2, hb2, _, hy, _, y1, y2, y3⟩ := Ha.out.line hz
      cases hb2
      rw [Nat.zero_mul, Nat.add_zero] at y1 y2
      have Y1 := Lib.hid ((HS1.out).cell y1)
      have g3 := fun d os => (sees_grow W1 d os).cell Y1.out
      have hcols := cols_of hy
      rw [hcols] at Hv
      clear hy hcols y1 y2 y3 hlen
      generalize ls.length = n at *
      generalize y.cells.length = n0 at *
      have k1 : (0 : Int) < n := by omega
      rcases ways4 (!decide (l < first)) (!decide (l ≥ first + (n : Int))) (!decide (c < 0)) (!decide (c ≥ (n0 : Int))) with ⟨e1, e2, e3, e4⟩ | ⟨e1, e2, e3, e4⟩ | ⟨e1, e2, e3⟩ | ⟨e1, e2⟩ | e1
      all_goals
        (try replace e1 := Bool.not_eq_eq_eq_not.1 e1)
        (try replace e2 := Bool.not_eq_eq_eq_not.1 e2)
        (try replace e3 := Bool.not_eq_eq_eq_not.1 e3)
        (try replace e4 := Bool.not_eq_eq_eq_not.1 e4)
        try simp only [Bool.not_true, Bool.not_false] at e1
        try simp only [Bool.not_true, Bool.not_false] at e2
        try simp only [Bool.not_true, Bool.not_false] at e3
        try simp only [Bool.not_true, Bool.not_false] at e4
        go_wp2
        refine wp_region_quiet_below (by kernel_rfl) (by kernel_rfl) ?_
        repeat (first | go_big_quiet_skip | (go_big_quiet_want; go_big_quiet_op; go_big_quiet_on))
        refine wpQuiet_nil ?_; intro w2 hw2'; have hw2 := regrown_sees hw2'; clear hw2'
        go_wp2
        go_ret
      · have hq := Hv.out _ _ _ _ e1 e2 e3 e4
        exact ⟨ret_int (by rw [Hfo.out, hq]; simp), HS1.out.trans hw2⟩
      · have hq := Hv.out _ _ _ _ e1 e2 e3 e4
        exact ⟨ret_int (by rw [Hfo.out, hq]; simp), HS1.out.trans hw2⟩
      · have hq := Hv.out _ _ _ _ e1 e2 e3 rfl
        exact ⟨ret_int (by rw [Hfo.out, hq]; simp), HS1.out.trans hw2⟩
      · have hq := Hv.out _ _ _ _ e1 e2 rfl rfl
        exact ⟨ret_int (by rw [Hfo.out, hq]; simp), HS1.out.trans hw2⟩
      · have hq := Hv.out _ _ _ _ e1 rfl rfl rfl
        exact ⟨ret_int (by rw [Hfo.out, hq]; simp), HS1.out.trans hw2⟩
  · have Hfo : Hid (foR ls first p l c = 2) := by unfold Hid foR; rw [if_neg (by omega)]
    rw [hk] at K
    clear hk
    go_wp2_with fail
    refine K.out.mono ?_
    rintro e W1 ⟨rfl, s1⟩
    go_wp2
    go_ret
    exact ⟨ret_int Hfo.out.symm, HS.out.trans s1⟩
end Go.Proofs.YtfdolhppbimbmaaDoor
