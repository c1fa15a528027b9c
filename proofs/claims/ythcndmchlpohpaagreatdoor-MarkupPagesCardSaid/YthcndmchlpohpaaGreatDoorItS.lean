/- 'for x := range f': a range over a function that goes over the data of a list; the body may end early ('break', 'return'). No condition. -/
import Derived.Test.YthcndmchlpohpaaGreatDoorSeqI
import Derived.Test.YthcndmchlpohpaaGreatDoorLines2
import Derived.Shelf.Abstract
import Derived.Deep.CutRange
namespace Go.Proofs.YthcndmchlpohpaaGreatDoor
set_option linter.unusedVariables false
set_option linter.unusedSimpArgs false
open Go.RowKit Go.Shelf
attribute [local go_sem] Oper.semAt_some

/-- A variable's block. -/
def Bx (W : World) (b : Nat) (t : TypeId) (v : Value) : Prop := W.heap[b]? = some (.cells #[v] t (0, 0))
namespace Bx
variable {W W' : World} {b : Nat} {t : TypeId} {v : Value}
theorem lt (h : Bx W b t v) : b < W.heap.size := (Array.getElem?_eq_some_iff.1 h).1
theorem c (h : Bx W b t v) : W.cell? ⟨b, 0, none⟩ = some v := by rw [cell_of_row _ _ _ _ _ _ h]; rfl
theorem fr (h : Bx W b t v) : W.frozen? ⟨b, 0, none⟩ = false := frozen_of_row W b 0 _ _ h
theorem keeps {F : Nat → Prop} (h : Bx W b t v) (hk : Keeps F W W') (hF : ¬ F b) : Bx W' b t v := by
  unfold Bx; rw [hk.block _ h.lt hF]; exact h
theorem sees (h : Bx W b t v) (hs : Sees W W') : Bx W' b t v := h.keeps (Keeps.of_sees (F := fun _ => False) hs) (fun h => h)
theorem new {n : Nat} (hn : n = W.heap.size) : Bx (W.alloc (.cells #[v] t)) n t v := by subst hn; exact heap_alloc_new W _
theorem set (h : Bx W b t v) (x : Value) : Bx (W.setCell ⟨b, 0, none⟩ x) b t x := heap_setCell_same W b 0 _ _ x h
theorem other {c : Nat} (h : Bx W b t v) (hne : b ≠ c) (x : Value) : Bx (W.setCell ⟨c, 0, none⟩ x) b t v := h.keeps (Keeps.setCell (F := fun y => y = c) (Keeps.refl _ W) (p := ⟨c, 0, none⟩) (fun _ => rfl) x) hne
end Bx
/-- A function that went over a function returns. -/
theorem marks_ret {fn : Func} {R : Ending → World → Prop} {a : Act} {w : World} {D : Nat} {v : Value} (hd : a.defers = [{ target := .collected D, args := #[] }]) (hD : w.heap[D]? = some (.deferred (some [])))
    (hr : (results fn a.tmps).run Tryz.prog (w.putObj D (.deferred none)) = .ok v (w.putObj D (.deferred none))) (hR : R (.returned v) (w.putObj D (.deferred none))) : bodyPostM Fence.wide 0 Tryz.prog fn R .ret a w := by
  show LeavesInM _ _ _ _ _ _ a.defers _ _
  rw [hd]
  exact ⟨by simp, .inl ⟨D, _, rfl, run_takeDeferred hD, v, hr, hR⟩⟩

/-- An iterator goes over the data of a list, as long as its loop's body says so. 'M': what it reads lies there; O: the blocks that the body may turn. -/
def SeqK {α : Type} (P : Program) (f : FuncId) (lb : Array Value) (enc : α → Value) (xs : List α) (M : World → Prop) : Prop :=
  ∀ (l : Nat) (J : Nat → (Nat → Prop) → World → Prop) (JS : World → Prop) (W : World) (O0 : Nat → Prop), (∀ j O W, J j O W → M W) → (∀ j O W, J j O W → ∀ b, O b → b < W.heap.size) → (∀ j O W W', J j O W → Sees W W' → J j O W') → (∀ W W', JS W → Sees W W' → JS W') →
    (∀ j O W1 x, xs[j]? = some x → J j O W1 → YieldAt Fence.wide 0 P l #[enc x] W1 fun e W' => (e = .returned (.bool true) ∧ ∃ O', J (j + 1) O' W' ∧ Keeps O W1 W' ∧ ∀ b, O' b → O b ∨ W1.heap.size ≤ b) ∨ (e = .returned (.bool false) ∧ JS W')) → J 0 O0 W →
    CallsIn Fence.wide 0 P f (#[.func (.yield l) #[] #[]] ++ lb) W fun e W' => e = .returned (.tuple #[]) ∧ ((∃ O', J xs.length O' W') ∨ JS W')

/-- The ways in which a round may end. -/
def ways (R : World → Prop) (X : Exit → World → Prop) : Exit → Act → World → Prop
  | .normal, _, W' => R W'
  | .exit id, _, W' => X (.exit id) W'
  | .ret, _, W' => X .ret W'
  | _, _, _ => False
def jumpOf : Exit → Option Code
  | .exit id => some (.exit id)
  | .ret => some .ret
  | _ => none

/-- The body's blocks, and the loop's own record. -/
def withB (O : Nat → Prop) (r : Nat) : Nat → Prop := fun b => O b ∨ b = r
set_option maxHeartbeats 1000000 in
theorem wp_range {α : Type} {g : Operand} {ps : Array Tmp} {assign body : Code} {Q : Exit → Act → World → Prop} {a : Act} {w : World} (f : FuncId) (lb : Array Value) (enc : α → Value) (xs : List α) (M : World → Prop) (hs : SeqK Tryz.prog f lb enc xs M)
    (hf : ∀ args w, (callFunc f args).run Tryz.prog w = .ok (.enter f args) w) (hg : a.eval g = .func (.func f) #[] lb) (hps : ps.size = 1)
    (I : Nat → (Nat → Prop) → World → Prop) (X : Exit → World → Prop) (O0 : Nat → Prop) (hI : ∀ j O W W', I j O W → Keeps (fun b => b = w.heap.size ∨ b = w.heap.size + 1) W W' → I j O W') (hX : ∀ e W W', X e W → Keeps (fun b => b = w.heap.size ∨ b = w.heap.size + 1) W W' → X e W')
    (hM : ∀ j O W, I j O W → M W) (hO : ∀ j O W, I j O W → ∀ b, O b → b < W.heap.size ∧ b ≠ w.heap.size ∧ b ≠ w.heap.size + 1) (h0 : I 0 O0 w)
    (hround : ∀ (l j : Nat) (O : Nat → Prop) (x : α) (W : World), xs[j]? = some x → I j O W → w.heap.size + 2 ≤ W.heap.size → assign.wpIn (Fence.wide.inRound l) 0 Tryz.prog (Exit.then (fun a₁ w₁ => ∃ K : World → Prop, K w₁ ∧ (∀ W W', K W → Keeps (fun b => b = w.heap.size ∨ b = w.heap.size + 1) W W' → K W') ∧ Sees W w₁ ∧
        ∀ W', K W' → w₁.heap.size ≤ W'.heap.size → body.wpIn (Fence.wide.inRound l) 0 Tryz.prog (ways (fun W'' => ∃ O', I (j + 1) O' W'' ∧ Keeps O W' W'' ∧ ∀ b, O' b → O b ∨ W.heap.size ≤ b) (fun e W'' => X e W'' ∧ Keeps O W' W'')) a₁ W') (fun _ _ _ => False))
          { tmps := (ps.zip #[enc x]).foldl (fun t (p, v) => t.setIfInBounds p v) a.tmps, defers := [] } W)
    (hdone : ∀ O W, I xs.length O W → W.heap[w.heap.size]? = some (.deferred (some [])) → Q .normal { a with defers := { target := .collected w.heap.size, args := #[] } :: a.defers } W)
    (hleave : ∀ id W, X (.exit id) W → W.heap[w.heap.size]? = some (.deferred (some [])) → Q (.exit id) { a with defers := { target := .collected w.heap.size, args := #[] } :: a.defers } W)
    (hret : ∀ W, X .ret W → W.heap[w.heap.size]? = some (.deferred (some [])) → Q .ret { a with defers := { target := .collected w.heap.size, args := #[] } :: a.defers } W) :
    (Code.rangeFunc g ps assign body).wp Tryz.prog Q a w := by
  refine wpIn_wide (n := 0) |>.1 (wpIn_rangeFunc ?_)
  intro fn _
  obtain ⟨rec, hrec⟩ : ∃ rec : LoopState → Option Code → Loop, rec = fun st pd => { state := st, pending := pd, fn, tmps := a.tmps, params := ps, assign, body, defers := w.heap.size } := ⟨_, rfl⟩
  obtain ⟨W1, hW1⟩ : ∃ W1, W1 = (w.alloc (.deferred (some []))).alloc (.loop (rec .ready none)) := ⟨_, rfl⟩
  have hs1 : Sees w W1 := by rw [hW1]; exact ((Sees.refl w).alloc _).alloc _
  have hz1 : W1.heap.size = w.heap.size + 2 := by rw [hW1, World.size_alloc, World.size_alloc]
  have hL1 : W1.heap[w.heap.size + 1]? = some (.loop (rec .ready none)) := by
    have := World.alloc_heap_new (w.alloc (.deferred (some []))) (.loop (rec .ready none))
    rw [World.size_alloc] at this
    rw [hW1]; exact this
  have hD1 : W1.heap[w.heap.size]? = some (.deferred (some [])) := by
    rw [hW1, Below.heap_alloc _ _ _ (by simp)]; exact World.alloc_heap_new w _
  have hput : ∀ (W : World) (l : Nat) (o : Obj), (l = w.heap.size ∨ l = w.heap.size + 1) → Keeps (fun b => b = w.heap.size ∨ b = w.heap.size + 1) W (W.putObj l o) := fun W l o hl =>
    ⟨rfl, rfl, rfl, by rw [World.putObj_size]; exact Nat.le_refl _, fun b _ hb => World.putObj_heap_other (fun e => hb (by subst e; exact hl))⟩
  have hput1 : ∀ (W : World) (o : Obj), Keeps (fun b => b = w.heap.size + 1) W (W.putObj (w.heap.size + 1) o) := fun W o =>
    ⟨rfl, rfl, rfl, by rw [World.putObj_size]; exact Nat.le_refl _, fun b _ hb => World.putObj_heap_other hb⟩
  refine ⟨w.heap.size + 1, [{ target := .collected w.heap.size, args := #[] }], W1, { target := .fn (.func f) lb, args := #[.func (.yield (w.heap.size + 1)) #[] #[]] }, W1, f,
    #[.func (.yield (w.heap.size + 1)) #[] #[]] ++ lb, W1, ?_, ?_, fun _ _ => trivial, ?_, fun h => (by cases h), ?_⟩
  · rw [hW1, hrec]; exact run_enterLoop_outer _ _ _ _ _
  · simp only [resolve, rangeCall, hg]
    simp [go_sem]
  · simp [invoke, go_sem, hf]
  · refine CallsIn.mono (hs (w.heap.size + 1) (fun j O' W => ∃ O, O' = withB O (w.heap.size + 1) ∧ I j O W ∧ W.heap[w.heap.size + 1]? = some (.loop (rec .ready none)) ∧ W.heap[w.heap.size]? = some (.deferred (some [])) ∧ w.heap.size + 2 ≤ W.heap.size)
      (fun W => ∃ e c, jumpOf e = some c ∧ X e W ∧ W.heap[w.heap.size + 1]? = some (.loop (rec .done (some c))) ∧ W.heap[w.heap.size]? = some (.deferred (some [])) ∧ w.heap.size + 2 ≤ W.heap.size)
      W1 (withB O0 (w.heap.size + 1)) (fun j O' W ⟨O, _, h, _⟩ => hM j O W h) ?_ ?_ ?_ ?_ ⟨O0, rfl, hI 0 O0 w W1 h0 (Keeps.of_sees hs1), hL1, hD1, by omega⟩) ?_
    · rintro j O' W ⟨O, rfl, h1, h2, h3, h4⟩ b hb
      rcases hb with hb | hb
      · exact (hO j O W h1 b hb).1
      · omega
    · rintro j O' W W' ⟨O, rfl, h1, h2, h3, h4⟩ hs
      exact ⟨O, rfl, hI _ _ _ _ h1 (Keeps.of_sees hs), by rw [hs.block _ (by omega)]; exact h2, by rw [hs.block _ (by omega)]; exact h3, Nat.le_trans h4 hs.size⟩
    · rintro W W' ⟨e, c, h0, h1, h2, h3, h4⟩ hs
      exact ⟨e, c, h0, hX _ _ _ h1 (Keeps.of_sees hs), by rw [hs.block _ (by omega)]; exact h2, by rw [hs.block _ (by omega)]; exact h3, Nat.le_trans h4 hs.size⟩
    · rintro j O' W x hx ⟨O, rfl, hi, hl, hd, hz⟩
      have hno : ¬ O w.heap.size ∧ ¬ O (w.heap.size + 1) := ⟨fun h => (hO j O W hi _ h).2.1 rfl, fun h => (hO j O W hi _ h).2.2 rfl⟩
      have hy := run_yield (P := Tryz.prog) (args := #[enc x]) hl (by rw [hrec]; simp [hps])
      rw [hrec] at hy
      refine ⟨fn, _, assign, body, hy, roundIn_of_wpIn trivial (wpIn_mono (hround _ j O x W hx hi hz) ?_)⟩
      rintro e a1 w1 hq
      cases e with
      | exit id => exact hq
      | goto t => exact hq
      | ret => exact hq
      | panic ch => exact hq
      | outgrown => exact hq
      | normal =>
      obtain ⟨K, hK0, hKs, hk0, hb⟩ := hq
      have hz0 := hk0.size
      have hl0 : w1.heap[w.heap.size + 1]? = some (.loop (rec .ready none)) := (hk0.block _ (by omega)).trans hl
      have hd0 : w1.heap[w.heap.size]? = some (.deferred (some [])) := (hk0.block _ (by omega)).trans hd
      have hk1 := hput w1 (w.heap.size + 1) (.loop { rec .ready none with state := .busy }) (.inr rfl)
      have hl2 : (w1.putObj (w.heap.size + 1) (.loop { rec .ready none with state := .busy })).heap[w.heap.size + 1]? = some (.loop { rec .ready none with state := .busy }) := World.putObj_heap_same (by omega)
      have hd2 : (w1.putObj (w.heap.size + 1) (.loop { rec .ready none with state := .busy })).heap[w.heap.size]? = some (.deferred (some [])) := (World.putObj_heap_other (by omega)).trans hd0
      refine ⟨_, run_beginRound hl0 (by rw [hrec]), ?_⟩
      refine wpIn_mono (hb _ (hKs _ _ hK0 hk1) (by rw [World.putObj_size]; exact Nat.le_refl _)) ?_
      have leave : ∀ (e : Exit) (c : Code) (W3 : World), jumpOf e = some c → X e W3 → Keeps O (w1.putObj (w.heap.size + 1) (.loop { rec .ready none with state := .busy })) W3 →
          ∃ w₄, (Instr.endRound (w.heap.size + 1) (some c)).run Tryz.prog W3 = .ok (.bool false) w₄ ∧ ∃ e c, jumpOf e = some c ∧ X e w₄ ∧ w₄.heap[w.heap.size + 1]? = some (.loop (rec .done (some c))) ∧ w₄.heap[w.heap.size]? = some (.deferred (some [])) ∧ w.heap.size + 2 ≤ w₄.heap.size := by
        intro e c W3 hj hx3 hk3
        have hl3 := (hk3.block _ (Array.getElem?_eq_some_iff.1 hl2).1 hno.2).trans hl2
        have hd3 := (hk3.block _ (Array.getElem?_eq_some_iff.1 hd2).1 hno.1).trans hd2
        have hz3 := hk3.size
        rw [World.putObj_size] at hz3
        have he := run_endRound (P := Tryz.prog) (some c) hl3
        refine ⟨_, he, e, c, hj, hX _ _ _ hx3 (hput W3 (w.heap.size + 1) _ (.inr rfl)), ?_, (World.putObj_heap_other (by omega)).trans hd3, by rw [World.putObj_size]; omega⟩
        rw [World.putObj_heap_same (Array.getElem?_eq_some_iff.1 hl3).1, hrec]; rfl
      rintro e a3 W3 hp
      cases e with
      | normal =>
        obtain ⟨O', hi3, hk3, hgr⟩ := hp
        have hl3 := (hk3.block _ (Array.getElem?_eq_some_iff.1 hl2).1 hno.2).trans hl2
        have hd3 := (hk3.block _ (Array.getElem?_eq_some_iff.1 hd2).1 hno.1).trans hd2
        have hz3 := hk3.size
        rw [World.putObj_size] at hz3
        have he := run_endRound (P := Tryz.prog) none hl3
        refine ⟨_, _, he, .inl ⟨rfl, withB O' (w.heap.size + 1), ⟨O', rfl, hI _ _ _ _ hi3 (hput W3 (w.heap.size + 1) _ (.inr rfl)), ?_, (World.putObj_heap_other (by omega)).trans hd3, by rw [World.putObj_size]; omega⟩, ?_, ?_⟩⟩
        · rw [World.putObj_heap_same (Array.getElem?_eq_some_iff.1 hl3).1, hrec]; rfl
        · exact (((Keeps.of_sees (F := withB O (w.heap.size + 1)) hk0).trans ((hput1 w1 _).mono (fun b _ h => .inr h))).trans (hk3.mono (fun b _ h => .inl h))).trans ((hput1 W3 _).mono (fun b _ h => .inr h))
        · rintro b (hb | hb)
          · exact (hgr b hb).imp .inl id
          · exact .inl (.inr hb)
      | ret =>
        obtain ⟨w4, h1, h2⟩ := leave .ret .ret W3 rfl hp.1 hp.2
        exact ⟨_, w4, h1, .inr ⟨rfl, h2⟩⟩
      | exit id =>
        obtain ⟨w4, h1, h2⟩ := leave (.exit id) (.exit id) W3 rfl hp.1 hp.2
        exact ⟨_, w4, h1, .inr ⟨rfl, h2⟩⟩
      | goto t => exact hp.elim
      | panic ch => exact hp.elim
      | outgrown => exact hp.elim
    · rintro e W2 ⟨rfl, ⟨_, O, rfl, hi, hl, hd, hz⟩ | ⟨e, c, hj, hx, hl, hd, hz⟩⟩
      · have he := run_endLoop (P := Tryz.prog) hl (by rw [hrec]; simp)
        rw [hrec] at he
        exact ⟨none, _, he, hdone O _ (hI _ _ _ _ hi (hput W2 (w.heap.size + 1) _ (.inr rfl))) ((World.putObj_heap_other (by omega)).trans hd)⟩
      · have he := run_endLoop (P := Tryz.prog) hl (by rw [hrec]; simp)
        rw [hrec] at he
        refine ⟨some c, _, he, ?_⟩
        have hx' := hX _ _ _ hx (hput W2 (w.heap.size + 1) (.loop { (rec .done (some c)) with state := .exhausted }) (.inr rfl))
        rw [hrec] at hx'
        have hd' : (W2.putObj (w.heap.size + 1) (.loop { (rec .done (some c)) with state := .exhausted })).heap[w.heap.size]? = some (.deferred (some [])) := (World.putObj_heap_other (by omega)).trans hd
        rw [hrec] at hd'
        cases e with
        | exit id =>
          cases hj
          exact wpIn_wide.2 (wp_exit (hleave id _ hx' hd'))
        | ret =>
          cases hj
          exact wpIn_wide.2 (wp_ret (hret _ hx' hd'))
        | normal => cases hj
        | goto t => cases hj
        | panic ch => cases hj
        | outgrown => cases hj
end Go.Proofs.YthcndmchlpohpaaGreatDoor
