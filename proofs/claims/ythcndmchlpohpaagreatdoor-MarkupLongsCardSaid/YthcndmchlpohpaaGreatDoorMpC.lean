/- markup.Parse (48). The tables hold what the program's text lays. -/
import Derived.Test.YthcndmchlpohpaaGreatDoorMpB
namespace Go.Proofs.YthcndmchlpohpaaGreatDoor
set_option linter.unusedVariables false
set_option linter.unusedSimpArgs false
open Go.RowKit Go.Shelf
attribute [local go_sem] Oper.semAt_some

theorem El.wpListIn_append_own {α : Type} {E : El α} {st : TypeId} {Fe : Fence} {n : Nat} {F : Nat → Prop} {W : World} {v : Value} {xs : List α} {ops : Array Oper} {rest : List Oper} {o : Oper} {a : Act} {Q : Exit → Act → World → Prop} (T : El.Typed Tryz.prog E st) (hgd : o.guard = none) (s x : Operand) (ho : o.op = .call { callee := .builtin .append, args := #[s, x], argTypes := #[st, st] }) (hs : a.eval s = v) (h : E.Own F W v xs)
    (ad : Addr) (m c : Nat) (hx : a.eval x = .slice (some ad) m c) (news : List Value) (ys : List α) (Fn : Nat → Prop) (hown : E.ownIn Fn W news ys) (hm : m = ys.length) (hnews : ∀ j u, news[j]? = some u → W.cell? (ad.add j) = some u)
    (hF : ∀ b, F b → b < W.heap.size) (hFn : ∀ b, Fn b → b < W.heap.size ∧ ¬ F b) (hn : xs.length + ys.length ≤ 100000000)
    (hQ : ∀ v' W', E.Own (fun b => F b ∨ Fn b ∨ W.heap.size ≤ b) W' v' (xs ++ ys) → Keeps (fun b => v.ownBlock = some b) W W' → wpListIn Fe n Tryz.prog ops Q rest (a.put o.dst v') W') : wpListIn Fe n Tryz.prog ops Q (o :: rest) a W := by
  obtain ⟨v', W', h1, h2, h3⟩ := El.run_append_own T o.type h ad m c news ys Fn hown hm hnews hF hFn hn
  refine wpListIn_plain hgd fun K hK' => ?_
  unfold Oper.wpIn
  refine ⟨?_, ?_⟩
  · simp [Oper.about, ho, resolve, Target.leads, Sem.run_pure]
  · rw [Oper.semAt_plain Fe _ _ (by rw [ho]; intro c hc'; cases hc')]
    simp [execOp, ho, resolve, invoke, builtin, hs, hx, h1, Result.andThen]
    exact hK' _ _ (hQ v' W' h2 h3)
theorem Keeps.putObj_one (W : World) (D : Nat) (o : Obj) : Keeps (fun b => b = D) W (W.putObj D o) :=
  ⟨rfl, rfl, rfl, by rw [World.putObj_size]; exact Nat.le_refl _, fun b _ hb => World.putObj_heap_other hb⟩
theorem sees_put {w W : World} {D : Nat} {o : Obj} (h : Sees w W) (hD : w.heap.size ≤ D) : Sees w (W.putObj D o) :=
  ((Keeps.of_sees (F := fun _ => False) h).trans' (⟨rfl, rfl, rfl, by rw [World.putObj_size]; exact Nat.le_refl _, fun b _ hb => World.putObj_heap_other hb⟩ : Keeps (fun b => b = D) W (W.putObj D o)) (fun b hb e => by omega)).sees_end (fun _ _ h => h)
/-- What the rounds of Parse make. -/
def parseF (N : Int) : List (List UInt8) → List Ln → List Ln × Int
  | [], out => (out, 0)
  | x :: xs, out => if Lib.hasSuffix x [10] = true then (if (lineB (Lib.trimSuffix x [10]) N).2.2 = 0 then parseF N xs (out ++ [⟨(lineB (Lib.trimSuffix x [10]) N).1, (lineB (Lib.trimSuffix x [10]) N).2.1⟩]) else ([], (lineB (Lib.trimSuffix x [10]) N).2.2)) else ([], 6)
/-- What Parse answers: lines, and an error. -/
def parseB (l : List UInt8) (N : Int) : List Ln × Int := if N < 0 ∨ 1000 < N then ([], 2) else if 1048576 < l.length then ([], 5) else parseF N (pcs l) []
def ParseP (w : World) (R : List Ln × Int) (e : Ending) (w' : World) : Prop := ∃ v, e = .returned (.tuple #[v, .int .i64 R.2]) ∧ lnEl.Rd (fun b => w.heap.size ≤ b) w' v R.1 ∧ Sees w w'
theorem pcs_len : ∀ (n : Nat) (l : List UInt8), l.length ≤ n → (pcs l).length ≤ l.length ∧ ∀ x ∈ pcs l, x.length ≤ l.length
  | 0, l, h => by
    obtain rfl : l = [] := List.length_eq_zero_iff.1 (by omega)
    rw [pcs_nil]; exact ⟨Nat.le_refl _, fun x hx => by cases hx⟩
  | n + 1, l, h => by
    by_cases hl : l = []
    · subst hl; rw [pcs_nil]; exact ⟨Nat.le_refl _, fun x hx => by cases hx⟩
    · have hp := List.length_pos_iff.2 hl
      have hd : (l.drop (eol l + 1)).length = l.length - (eol l + 1) := List.length_drop
      obtain ⟨k1, k2⟩ := pcs_len n (l.drop (eol l + 1)) (by omega)
      rw [pcs_cons hl]
      refine ⟨by rw [List.length_cons]; omega, fun x hx => ?_⟩
      rcases List.mem_cons.1 hx with rfl | hx
      · rw [List.length_take]; omega
      · have := k2 x hx; omega
theorem results_bb {fn : Func} {tmps : Array Value} {W : World} {i j b c : Nat} {v u : Value} (hr : fn.results = #[.cell i 30, .cell j 43]) (hi : tmps[i]?.getD undef = .pointer (some ⟨b, 0, none⟩)) (hj : tmps[j]?.getD undef = .pointer (some ⟨c, 0, none⟩)) (h : Bx W b 30 v) (k : Bx W c 43 u) :
    (results fn tmps).run Tryz.prog W = .ok (.tuple #[v, u]) W := by
  have h1 := h.c
  have k1 := k.c
  unfold results
  rw [hr]
  simp [hi, hj, asAddr, go_sem, h1, k1]
theorem drop_at {α : Type} {xs : List α} {j : Nat} {x : α} (h : xs[j]? = some x) : xs.drop j = x :: xs.drop (j + 1) := by
  obtain ⟨h1, h2⟩ := List.getElem?_eq_some_iff.1 h
  rw [List.drop_eq_getElem_cons h1, h2]
/-- What stands between two lines. -/
structure PaI (w : World) (N : Int) (v : Value) (out : List Ln) (O : Nat → Prop) (W : World) : Prop where
  c : Bx W w.heap.size 3 (.int .i64 N)
  r : Bx W (w.heap.size + 1) 30 (.slice none 0 0)
  e : Bx W (w.heap.size + 2) 43 (.int .i64 0)
  o : Bx W (w.heap.size + 3) 30 v
  own : lnEl.Own (fun b => O b ∧ w.heap.size + 7 ≤ b) W v out
  lo : ∀ b, O b → b < W.heap.size ∧ (b = w.heap.size + 1 ∨ b = w.heap.size + 2 ∨ b = w.heap.size + 3 ∨ w.heap.size + 7 ≤ b)
  m : O (w.heap.size + 1) ∧ O (w.heap.size + 2) ∧ O (w.heap.size + 3)
  s : Sees w W
namespace PaI
variable {w W W' : World} {N : Int} {v : Value} {out : List Ln} {O : Nat → Prop}
theorem keeps {F : Nat → Prop} (h : PaI w N v out O W) (hk : Keeps F W W') (hF : ∀ b, F b → b = w.heap.size + 4 ∨ b = w.heap.size + 5 ∨ b = w.heap.size + 6) : PaI w N v out O W' :=
  ⟨h.c.keeps hk (fun e => by have := hF _ e; omega), h.r.keeps hk (fun e => by have := hF _ e; omega), h.e.keeps hk (fun e => by have := hF _ e; omega), h.o.keeps hk (fun e => by have := hF _ e; omega),
    h.own.keeps hk (fun b hb e => by have := hF _ e; omega), fun b hb => ⟨by have := (h.lo b hb).1; have := hk.size; omega, (h.lo b hb).2⟩, h.m,
    ((Keeps.of_sees (F := fun _ => False) h.s).trans' hk (fun b hb e => by have := hF _ e; omega)).sees_end (fun _ _ h => h)⟩
theorem sees (h : PaI w N v out O W) (hs : Sees W W') : PaI w N v out O W' := h.keeps (Keeps.of_sees (F := fun _ => False) hs) (fun _ h => h.elim)
/-- Parse ends with an error. -/
theorem err (h : PaI w N v out O W) (q : Int) : Bx ((W.setCell ⟨w.heap.size + 1, 0, none⟩ (.slice none 0 0)).setCell ⟨w.heap.size + 2, 0, none⟩ (.int .i64 q)) (w.heap.size + 1) 30 (.slice none 0 0) ∧
    Bx ((W.setCell ⟨w.heap.size + 1, 0, none⟩ (.slice none 0 0)).setCell ⟨w.heap.size + 2, 0, none⟩ (.int .i64 q)) (w.heap.size + 2) 43 (.int .i64 q) ∧
    Sees w ((W.setCell ⟨w.heap.size + 1, 0, none⟩ (.slice none 0 0)).setCell ⟨w.heap.size + 2, 0, none⟩ (.int .i64 q)) ∧
    Keeps O W ((W.setCell ⟨w.heap.size + 1, 0, none⟩ (.slice none 0 0)).setCell ⟨w.heap.size + 2, 0, none⟩ (.int .i64 q)) :=
  ⟨(h.r.set _).other (by omega) _, (h.e.other (by omega) _).set _, (h.s.setCell (p := ⟨w.heap.size + 1, 0, none⟩) (by show w.heap.size ≤ w.heap.size + 1; omega) _).setCell (p := ⟨w.heap.size + 2, 0, none⟩) (by show w.heap.size ≤ w.heap.size + 2; omega) _,
    ((Keeps.refl O W).setCell (p := ⟨w.heap.size + 1, 0, none⟩) (fun _ => h.m.1) _).setCell (p := ⟨w.heap.size + 2, 0, none⟩) (fun _ => h.m.2.1) _⟩
/-- A line more. -/
theorem next (h : PaI w N v out O W) {X Y : World} {F : Nat → Prop} {v9 : Value} {x : Ln} (hs : Sees W X) (ho : lnEl.Own F Y v9 (out ++ [x])) (hF : ∀ b, b < Y.heap.size → F b → (O b ∧ w.heap.size + 7 ≤ b) ∨ W.heap.size ≤ b) (hk : Keeps (fun b => v.ownBlock = some b) X Y) (h7 : w.heap.size + 7 ≤ W.heap.size) :
    PaI w N v9 (out ++ [x]) (fun b => O b ∨ (W.heap.size ≤ b ∧ b < Y.heap.size)) (Y.setCell ⟨w.heap.size + 3, 0, none⟩ v9) ∧ Keeps O W (Y.setCell ⟨w.heap.size + 3, 0, none⟩ v9) := by
  have hO : ∀ b, v.ownBlock = some b → O b ∧ w.heap.size + 7 ≤ b := fun b hb => (h.own.base hb).1
  have hkO : Keeps O W Y := (Keeps.of_sees hs).trans' hk (fun b _ e => (hO b e).1)
  have hk7 : Keeps (fun b => w.heap.size + 7 ≤ b) W Y := (Keeps.of_sees hs).trans' hk (fun b _ e => (hO b e).2)
  have hz := hkO.size
  have hsz : (Y.setCell ⟨w.heap.size + 3, 0, none⟩ v9).heap.size = Y.heap.size := World.size_setCell ..
  refine ⟨⟨(h.c.keeps hk7 (by omega)).other (by omega) _, (h.r.keeps hk7 (by omega)).other (by omega) _, (h.e.keeps hk7 (by omega)).other (by omega) _, (h.o.keeps hk7 (by omega)).set _, ?_, ?_, ⟨.inl h.m.1, .inl h.m.2.1, .inl h.m.2.2⟩, ?_⟩, hkO.setCell (p := ⟨w.heap.size + 3, 0, none⟩) (fun _ => h.m.2.2) _⟩
  · have q : lnEl.Own (fun b => (O b ∨ (W.heap.size ≤ b ∧ b < Y.heap.size)) ∧ w.heap.size + 7 ≤ b) Y v9 (out ++ [x]) := ho.mono (fun b hb hf => by
      rcases hF b hb hf with h1 | h1
      · exact ⟨.inl h1.1, h1.2⟩
      · exact ⟨.inr ⟨h1, hb⟩, by omega⟩)
    exact q.keeps ((Keeps.refl (fun b => b = w.heap.size + 3) Y).setCell (p := ⟨w.heap.size + 3, 0, none⟩) (fun _ => rfl) _) (fun b hb e => by have := hb.2; omega)
  · intro b hb
    rw [hsz]
    rcases hb with hb | hb
    · have := h.lo b hb; exact ⟨by omega, this.2⟩
    · exact ⟨hb.2, .inr (.inr (.inr (by omega)))⟩
  · exact (((Keeps.of_sees (F := fun _ => False) h.s).trans' hk7 (fun b hb e => by omega)).setCell (p := ⟨w.heap.size + 3, 0, none⟩) (fun e => by have : w.heap.size + 3 < w.heap.size := e; omega) _).sees_end (fun _ _ h => h)
end PaI
set_option maxHeartbeats 4000000 in
set_option maxRecDepth 100000 in
theorem parse_err (l : List UInt8) (N : Int) (w : World) (hl : l.length ≤ 1000000000) (h : (N < 0 ∨ 1000 < N) ∨ 1048576 < l.length) :
    Calls Tryz.prog 14 #[.string (strL l), .int .i64 N] w fun e w' => ParseP w (parseB l N) e w' := by
  obtain ⟨R, hR⟩ : ∃ R, R = parseB l N := ⟨_, rfl⟩
  rw [← hR]
  unfold parseB at hR
  have hsz : (strL l).size = l.length := strL_size l
  obtain ⟨n, hn⟩ : ∃ n, n = l.length := ⟨_, rfl⟩
  rw [← hn] at hsz hR hl h
  clear hn
  by_cases h1 : N < 0 ∨ 1000 < N
  · rw [if_pos h1] at hR
    subst hR
    rcases (show N < 0 ∨ (¬ N < 0 ∧ N > 1000) by omega) with h2 | ⟨h2, h3⟩
    · clear h h1
      go_enter Tryz.func14, Tryz.ntmps14
      go_wp2
      exact bodyPost_ret (results_bb rfl rfl rfl ((Bx.new (by simp)).sees ((Sees.refl _).alloc _)) (Bx.new (by simp))) rfl ⟨_, rfl, El.Rd.nil _ _, (((Sees.refl w).alloc _).alloc _).alloc _⟩
    · clear h h1
      go_enter Tryz.func14, Tryz.ntmps14
      go_wp2
      exact bodyPost_ret (results_bb rfl rfl rfl ((Bx.new (by simp)).sees ((Sees.refl _).alloc _)) (Bx.new (by simp))) rfl ⟨_, rfl, El.Rd.nil _ _, (((Sees.refl w).alloc _).alloc _).alloc _⟩
  · rw [if_neg h1, if_pos (show 1048576 < n by rcases h with h | h; exact absurd h h1; exact h)] at hR
    subst hR
    have g1 : ¬ N < 0 := by omega
    have g2 : ¬ N > 1000 := by omega
    have g3 : (n : Int) > 1048576 := by omega
    clear h h1
    go_enter Tryz.func14, Tryz.ntmps14
    go_wp2
    exact bodyPost_ret (results_bb rfl rfl rfl ((Bx.new (by simp)).sees ((Sees.refl _).alloc _)) (Bx.new (by simp))) rfl ⟨_, rfl, El.Rd.nil _ _, (((Sees.refl w).alloc _).alloc _).alloc _⟩
set_option maxHeartbeats 16000000 in
set_option maxRecDepth 100000 in
theorem parse_any (l : List UInt8) (N : Int) (w : World) (hw : Sd w) (hl : l.length ≤ 1000000000) :
    Calls Tryz.prog 14 #[.string (strL l), .int .i64 N] w fun e w' => ParseP w (parseB l N) e w' := by
  by_cases hbad : (N < 0 ∨ 1000 < N) ∨ 1048576 < l.length
  · exact parse_err l N w hl hbad
  obtain ⟨R, hR⟩ : ∃ R, R = parseB l N := ⟨_, rfl⟩
  rw [← hR]
  unfold parseB at hR
  rw [if_neg (fun h => hbad (.inl h)), if_neg (fun h => hbad (.inr h))] at hR
  have g1 : ¬ N < 0 := fun h => hbad (.inl (.inl h))
  have g2 : ¬ N > 1000 := fun h => hbad (.inl (.inr h))
  have hsz : (strL l).size = l.length := strL_size l
  have HLS := Lib.hid (lines_seq l hl)
  have KS := Lib.hid (fun W => slines_any l W)
  obtain ⟨ps, hps⟩ : ∃ ps, ps = pcs l := ⟨_, rfl⟩
  have HLN : Hid (ps.length ≤ 1048576 ∧ ∀ x ∈ ps, x.length ≤ 1048576) := Lib.hid (by
    have h := pcs_len l.length l (Nat.le_refl _)
    rw [← hps] at h
    exact ⟨by omega, fun x hx => by have := h.2 x hx; omega⟩)
  rw [← hps] at hR HLS
  obtain ⟨n, hn⟩ : ∃ n, n = l.length := ⟨_, rfl⟩
  rw [← hn] at hsz
  have g3 : ¬ (n : Int) > 1048576 := by omega
  have HR := Lib.hid hR
  have HW := Lib.hid hw
  clear hbad hR hn hps hw hl
  refine callsIn_wide (n := 0) |>.1 ?_
  refine callsIn_of_wp_marks Tryz.func14 rfl trivial ?_ rfl
  refine wpIn_wide.2 ?_
  simp only [Tryz.ntmps14, List.size_toArray, List.length_cons, List.length_nil, Nat.reduceAdd, Nat.reduceSub, Array.replicate_succ, Array.replicate_zero, List.push_toArray, List.append_toArray, List.nil_append, List.cons_append]
  go_wp2_with fail
  refine calls_world fun W2 hW2 => ?_
  have hz2 : W2.heap.size = w.heap.size + 4 := by rw [hW2]; simp
  have I2 : PaI w N (.slice none 0 0) [] (fun b => b = w.heap.size + 1 ∨ b = w.heap.size + 2 ∨ b = w.heap.size + 3) W2 := by
    subst hW2
    exact ⟨(((Bx.new rfl).sees ((Sees.refl _).alloc _)).sees ((Sees.refl _).alloc _)).sees ((Sees.refl _).alloc _), ((Bx.new (by simp)).sees ((Sees.refl _).alloc _)).sees ((Sees.refl _).alloc _), (Bx.new (by simp)).sees ((Sees.refl _).alloc _), Bx.new (by simp), El.Own.nil _ _, fun b hb => by simp; omega, by simp, (((Sees.refl w).alloc _).alloc _).alloc _ |>.alloc _⟩
  clear hW2
  refine (KS.out W2).mono ?_
  rintro e W3 ⟨rfl, hW3⟩
  have B3 : Bx W3 W2.heap.size 9 (.string (strL l)) := by rw [hW3]; exact Bx.new rfl
  have hz3 : W3.heap.size = W2.heap.size + 1 := by rw [hW3]; simp
  have I3 := Lib.hid (I2.sees (W' := W3) (by rw [hW3]; exact (Sees.refl _).alloc _))
  have HB3 := Lib.hid B3
  rw [hz2] at hz3 HB3 ⊢
  simp only [Nat.add_assoc, Nat.reduceAdd] at hz3 ⊢
  clear hW3 B3 I2 hz2
  go_wp2_with fail
  refine wp_rangeB 39 #[.pointer (some ⟨w.heap.size + 4, 0, none⟩)] (fun x => .string (strL x)) ps (w.heap.size + 4) (fun W => Bx W (w.heap.size + 4) 9 (.string (strL l))) (HLS.out (w.heap.size + 4)) (enters_of Tryz.func39 (by kernel_rfl) rfl) rfl rfl
    (fun j O W => ∃ v out, out.length = j ∧ Hid (parseF N (ps.drop j) out = R) ∧ PaI w N v out O W)
    (fun e W => e = .ret ∧ ∃ q, R = ([], q) ∧ Bx W (w.heap.size + 1) 30 (.slice none 0 0) ∧ Bx W (w.heap.size + 2) 43 (.int .i64 q) ∧ Sees w W) (fun b => b = w.heap.size + 1 ∨ b = w.heap.size + 2 ∨ b = w.heap.size + 3)
    HB3.out.lt ?keep ?keepx HB3.out (fun _ _ h hs => h.sees hs) ?own ⟨_, [], rfl, by unfold RowKit.Hid; rw [HR.out]; rfl, I3.out⟩ ?round ?done ?leave ?ret
  case keep =>
    rintro j O W W' ⟨v, out, h0, h1, h2⟩ hk
    exact ⟨v, out, h0, h1, h2.keeps hk (fun b hb => by omega)⟩
  case keepx =>
    rintro e W W' ⟨h0, q, h1, h2, h3, h4⟩ hk
    exact ⟨h0, q, h1, h2.keeps hk (by omega), h3.keeps hk (by omega), ((Keeps.of_sees (F := fun _ => False) h4).trans' hk (fun b hb e => by omega)).sees_end (fun _ _ h => h)⟩
  case own =>
    rintro j O W ⟨v, out, h0, h1, h2⟩ b hb
    have := h2.lo b hb
    exact ⟨this.1, by omega, by omega, by omega⟩
  case leave => rintro id W ⟨h, _⟩; cases h
  case ret =>
    rintro W ⟨_, q, h1, h2, h3, h4⟩ hD
    have hDk := Keeps.putObj_one W W3.heap.size (.deferred none)
    refine marks_ret rfl hD (results_bb rfl rfl rfl (h2.keeps hDk (by omega)) (h3.keeps hDk (by omega))) ⟨_, by rw [h1], by rw [h1]; exact El.Rd.nil _ _, sees_put h4 (by omega)⟩
  case done =>
    rintro O W ⟨v, out, h0, h1, h2⟩ hD
    have c0 := h2.o.c
    have f1 := h2.r.fr
    have f2 := h2.e.fr
    have f3 := h2.r.c
    have f4 := h2.e.c
    obtain ⟨av, cv, rfl, _⟩ := h2.own.slice
    rw [h0] at h2 c0
    have H2 := Lib.hid h2
    have hDD := Lib.hid hD
    have h1' := h1.out
    rw [List.drop_of_length_le (Nat.le_refl _)] at h1'
    have HRR : Hid ((out, 0) = R) := Lib.hid h1'
    clear h1 h2 hD h1'
    go_wp2_with fail
    obtain ⟨vv, hvv⟩ : ∃ vv, vv = Value.slice av ps.length cv := ⟨_, rfl⟩
    rw [← hvv] at H2 ⊢
    have hb1 := (H2.out.r.set vv).other (show w.heap.size + 1 ≠ w.heap.size + 2 by omega) (.int .i64 0)
    have hb2 := (H2.out.e.other (show w.heap.size + 2 ≠ w.heap.size + 1 by omega) vv).set (.int .i64 0)
    have hk2 : Keeps (fun b => b = w.heap.size + 1 ∨ b = w.heap.size + 2) W ((W.setCell ⟨w.heap.size + 1, 0, none⟩ vv).setCell ⟨w.heap.size + 2, 0, none⟩ (.int .i64 0)) := ((Keeps.refl _ W).setCell (p := ⟨w.heap.size + 1, 0, none⟩) (fun _ => .inl rfl) _).setCell (p := ⟨w.heap.size + 2, 0, none⟩) (fun _ => .inr rfl) _
    have hDk := Keeps.putObj_one ((W.setCell ⟨w.heap.size + 1, 0, none⟩ vv).setCell ⟨w.heap.size + 2, 0, none⟩ (.int .i64 0)) W3.heap.size (.deferred none)
    refine marks_ret rfl ((hk2.block _ (Array.getElem?_eq_some_iff.1 hDD.out).1 (by omega)).trans hDD.out) (results_bb rfl rfl rfl (hb1.keeps hDk (by omega)) (hb2.keeps hDk (by omega))) ⟨vv, by rw [← HRR.out], ?_, sees_put (((Keeps.of_sees (F := fun _ => False) H2.out.s).trans' hk2 (fun b hb e => by omega)).sees_end (fun _ _ h => h)) (by omega)⟩
    rw [← HRR.out]
    exact ((H2.out.own.keeps hk2 (fun b hb e => by omega)).keeps hDk (fun b hb e => by have := hb.2; omega)).rd.mono (fun b _ hb => by have := hb.2; omega)
  case round =>
    rintro lp j O x W hx ⟨v, out, h0, h1, h2⟩ hz
    have hxm := Lib.hid (HLN.out.2 x (List.mem_of_getElem? hx))
    have h1' := h1.out
    rw [drop_at hx] at h1'
    unfold parseF at h1'
    have hjl : j < 1048576 := by have := (List.getElem?_eq_some_iff.1 hx).1; have := HLN.out.1; omega
    have HO := Lib.hid h0
    clear hx h1 h0
    gi_wp2
    refine ⟨fun A => PaI w N v out O A, h2, fun A A' hA hk => hA.keeps hk (fun b hb => by omega), Sees.refl W, fun W' hW' hz' => ?_⟩
    have H4 := Lib.hid hW'
    have hr := hW'.r.fr
    have he := hW'.e.fr
    have hrc := hW'.r.c
    have hec := hW'.e.c
    have hcc := hW'.c.c
    clear h2 hW'
    obtain ⟨bo, hbo⟩ : ∃ bo, bo = Lib.hasSuffix x [10] := ⟨_, rfl⟩
    obtain ⟨t, ht⟩ : ∃ t, t = Lib.trimSuffix x [10] := ⟨_, rfl⟩
    rw [← hbo, ← ht] at h1'
    have KC : Hid (∀ W, Calls Tryz.prog 27 #[.string (strL x), .string ⟨#[10]⟩] W fun e w' => e = .returned (.tuple #[.string (strL t), .bool bo]) ∧ w' = W) := Lib.hid (fun W => by
      have h := cuts_any (strL x) ⟨#[10]⟩ W (by rw [strL_size]; have := hxm.out; omega)
      rw [strL_list, show (⟨#[10]⟩ : ByteArray).data.toList = [10] from rfl, ← hbo, ← ht] at h
      exact h)
    have HTL : Hid (t.length ≤ 1048576) := Lib.hid (by rw [ht]; unfold Lib.trimSuffix; have := hxm.out; split <;> simp <;> omega)
    clear hbo ht
    cases bo with
    | false =>
      have HE : Hid (([], 6) = R) := Lib.hid h1'
      clear h1'
      gi_wp2_with fail
      refine ⟨trivial, rfl, (CallsIn.inRound lp (callsIn_wide.2 (KC.out _))).mono ?_⟩
      rintro e W5 ⟨rfl, hw5⟩
      obtain rfl : W' = W5 := hw5.symm
      gi_wp2
      obtain ⟨q1, q2, q3, q4⟩ := H4.out.err 6
      exact ⟨⟨rfl, 6, HE.out.symm, q1, q2, q3⟩, q4⟩
    | true =>
      have KL : Hid (∀ W, Sees w W → Calls Tryz.prog 18 #[.string (strL t), .int .i64 N] W fun e w' => LineP W (lineB t N) e w') := Lib.hid (fun W hs => line_any t N (by have := HTL.out; omega) W (HW.out.sees hs))
      obtain ⟨LB, hLB⟩ : ∃ LB, LB = lineB t N := ⟨_, rfl⟩
      rw [← hLB] at KL h1'
      clear hLB
      obtain ⟨cs, so, er⟩ := LB
      simp only [if_true] at h1'
      have HE := Lib.hid h1'
      clear h1'
      gi_wp2_with fail
      refine ⟨trivial, rfl, (CallsIn.inRound lp (callsIn_wide.2 (KC.out _))).mono ?_⟩
      rintro e W5 ⟨rfl, hw5⟩
      obtain rfl : W' = W5 := hw5.symm
      gi_wp2_with fail
      refine ⟨trivial, rfl, (CallsIn.inRound lp (callsIn_wide.2 (KL.out _ H4.out.s))).mono ?_⟩
      rintro e W7 ⟨v7, rfl, ho7, s7⟩
      obtain ⟨a7, c7, rfl, hc7⟩ := ho7.slice
      simp only at ho7 hc7
      obtain ⟨m7, hm7⟩ : ∃ m7, m7 = cs.length := ⟨_, rfl⟩
      rw [← hm7] at ho7 hc7 ⊢
      have HO7 := Lib.hid ho7.cut
      have HS7 := Lib.hid s7
      have HM7 := Lib.hid hm7
      clear ho7 hm7
      by_cases hz0 : er = 0
      · subst hz0
        have HE' : Hid (parseF N (ps.drop (j + 1)) (out ++ [⟨cs, so⟩]) = R) := Lib.hid (by have := HE.out; rw [if_pos rfl] at this; exact this)
        obtain ⟨av, cv, rfl, hcv⟩ := H4.out.own.slice
        have H5 : Hid (PaI w N (.slice av j cv) out O W') := Lib.hid (by have q := H4.out; rw [HO.out] at q; exact q)
        have HSA : Hid (Sees W7 ((W7.alloc (.cells #[.slice a7 m7 c7, .bool so] 27)).alloc (.cells #[.slice a7 m7 c7, .bool so] 27))) := Lib.hid (((Sees.refl W7).alloc _).alloc _)
        have HS8 : Hid (Sees W' ((W7.alloc (.cells #[.slice a7 m7 c7, .bool so] 27)).alloc (.cells #[.slice a7 m7 c7, .bool so] 27))) := Lib.hid (HS7.out.trans HSA.out)
        have HOA : Hid (lnEl.Own (fun b => (O b ∧ w.heap.size + 7 ≤ b) ∧ b < W'.heap.size) ((W7.alloc (.cells #[.slice a7 m7 c7, .bool so] 27)).alloc (.cells #[.slice a7 m7 c7, .bool so] 27)) (.slice av j cv) out) := Lib.hid (H5.out.own.cut.sees HS8.out)
        have HN7 : Hid (cellEl.Own (fun b => W'.heap.size ≤ b ∧ b < W7.heap.size) ((W7.alloc (.cells #[.slice a7 m7 c7, .bool so] 27)).alloc (.cells #[.slice a7 m7 c7, .bool so] 27)) (.slice a7 m7 c7) cs) := Lib.hid (HO7.out.sees HSA.out)
        have Hrow : Hid (((W7.alloc (.cells #[.slice a7 m7 c7, .bool so] 27)).alloc (.cells #[.slice a7 m7 c7, .bool so] 27)).heap[W7.heap.size + 1]? = some (.cells #[.slice a7 m7 c7, .bool so] 27 (0, 0))) := Lib.hid (by
          have := heap_alloc_new (W7.alloc (.cells #[.slice a7 m7 c7, .bool so] 27)) (.cells #[.slice a7 m7 c7, .bool so] 27)
          rw [World.size_alloc] at this; exact this)
        have HcF : Hid (∀ b, ((O b ∧ w.heap.size + 7 ≤ b) ∧ b < W'.heap.size) → b < ((W7.alloc (.cells #[.slice a7 m7 c7, .bool so] 27)).alloc (.cells #[.slice a7 m7 c7, .bool so] 27)).heap.size) := Lib.hid (fun b hb => by have := HS8.out.size; have := hb.2; omega)
        have HcN : Hid (∀ b, (W'.heap.size ≤ b ∧ b < W7.heap.size) → b < ((W7.alloc (.cells #[.slice a7 m7 c7, .bool so] 27)).alloc (.cells #[.slice a7 m7 c7, .bool so] 27)).heap.size ∧ ¬ ((O b ∧ w.heap.size + 7 ≤ b) ∧ b < W'.heap.size)) := Lib.hid (fun b hb => ⟨by have := HSA.out.size; have := hb.2; omega, fun h => by have := h.2; have := hb.1; omega⟩)
        have HcL : Hid (out.length + [(⟨cs, so⟩ : Ln)].length ≤ 100000000) := Lib.hid (by rw [HO.out]; simp; omega)
        have c8 := (H5.out.sees s7).o.c
        have f8 := (H5.out.sees s7).o.fr
        have hl8 : w.heap.size + 3 < W7.heap.size := (H5.out.sees s7).o.lt
        clear hr he hrc hec hcc s7 hcv
        gi_wp2_with (gi_at_builtin; refine El.wpListIn_append_own (v := .slice av j cv) typedLn rfl (.tmp 42) (.tmp 44) rfl (by go_simp) HOA.out ⟨W7.heap.size + 1, 0, none⟩ 1 1 (by go_simp) [.slice a7 m7 c7, .bool so] [⟨cs, so⟩] _ (El.ownIn_one (E := lnEl) ⟨_, rfl, HN7.out⟩) rfl (fun j u hu => El.row_cells Hrow.out j u hu) HcF.out HcN.out HcL.out ?_; intro v9 w9 ho9 hk9; obtain ⟨a9, c9, rfl, _⟩ := ho9.slice; obtain ⟨m9, hm9⟩ : ∃ m9, m9 = (out ++ [(⟨cs, so⟩ : Ln)]).length := ⟨_, rfl⟩; rw [← hm9] at ho9 ⊢; have hB9 := (H5.out.sees HS8.out).o.keeps hk9 (fun e => by have := (HOA.out.base e).1.1.2; omega); have c89 := hB9.c; have f89 := hB9.fr; have HO9 := Lib.hid ho9; have HK9 := Lib.hid hk9; have HM9 := Lib.hid hm9; clear ho9 hk9 hB9 hm9 c8 f8)
        have hzA := HSA.out.size
        have hz8 := HS8.out.size
        obtain ⟨q1, q2⟩ := H5.out.next HS8.out HO9.out (fun b hb hf => by
          rcases hf with h | h | h
          · exact .inl h.1
          · exact .inr h.1
          · exact .inr (by omega)) HK9.out (by omega)
        exact ⟨_, ⟨_, _, by rw [List.length_append, HO.out]; rfl, HE', q1⟩, q2, fun b hb => hb.imp id (fun h => by have := h.1; omega)⟩
      · have g5 : (er != 0) = true := by simpa using hz0
        have HE' : Hid (([], er) = R) := Lib.hid (by have := HE.out; rw [if_neg hz0] at this; exact this)
        have SA : Hid (Sees W' (W7.alloc (.cells #[.slice a7 m7 c7, .bool so] 27))) := Lib.hid (HS7.out.alloc _)
        have X7 := H4.out.sees SA.out
        have hr7 := X7.r.fr
        have he7 := X7.e.fr
        have hrc7 := X7.r.c
        have hec7 := X7.e.c
        clear hr he hrc hec hcc s7 X7
        gi_wp2
        obtain ⟨q1, q2, q3, q4⟩ := (H4.out.sees SA.out).err er
        exact ⟨⟨rfl, er, HE'.out.symm, q1, q2, q3⟩, (Keeps.of_sees SA.out).trans q4⟩
end Go.Proofs.YthcndmchlpohpaaGreatDoor
