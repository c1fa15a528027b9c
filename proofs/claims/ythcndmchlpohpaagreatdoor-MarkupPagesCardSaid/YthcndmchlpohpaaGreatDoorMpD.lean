/- 'for x := range strings.Lines(s)': a range over a function that writes a box of its own between the rounds. strings.Lines: its pieces, and the iterator. markup.Parse (48). The tables hold what the program's text lays. The law's parses (48). The tables hold what the program's text lays. No condition. -/
import Derived.Test.YthcndmchlpohpaaGreatDoorMkY
import Derived.Test.YthcndmchlpohpaaGreatDoorItS
import Derived.Deep.CutBlock
namespace Go.Proofs.YthcndmchlpohpaaGreatDoor
set_option linter.unusedVariables false
set_option linter.unusedSimpArgs false
open Go.RowKit Go.Shelf
attribute [local go_sem] Oper.semAt_some

/-- An iterator goes over the data of a list, as long as its loop's body says so; it writes the box B, and nothing else. O: the blocks that the body may turn. -/
def SeqB {α : Type} (P : Program) (f : FuncId) (lb : Array Value) (enc : α → Value) (xs : List α) (B : Nat) (M : World → Prop) : Prop :=
  ∀ (l : Nat) (J : Nat → (Nat → Prop) → World → Prop) (JS : World → Prop) (W : World) (O0 : Nat → Prop), (∀ j O W, J j O W → ∀ b, O b → b < W.heap.size ∧ b ≠ B) → (∀ j O W W', J j O W → Keeps (fun b => b = B) W W' → J j O W') → (∀ W W', JS W → Keeps (fun b => b = B) W W' → JS W') →
    (∀ j O W1 x, xs[j]? = some x → J j O W1 → YieldAt Fence.wide 0 P l #[enc x] W1 fun e W' => (e = .returned (.bool true) ∧ ∃ O', J (j + 1) O' W' ∧ Keeps O W1 W' ∧ ∀ b, O' b → O b ∨ W1.heap.size ≤ b) ∨ (e = .returned (.bool false) ∧ JS W')) → J 0 O0 W → M W →
    CallsIn Fence.wide 0 P f (#[.func (.yield l) #[] #[]] ++ lb) W fun e W' => e = .returned (.tuple #[]) ∧ ((∃ O', J xs.length O' W') ∨ JS W')

set_option maxHeartbeats 1000000 in
theorem wp_rangeB {α : Type} {g : Operand} {ps : Array Tmp} {assign body : Code} {Q : Exit → Act → World → Prop} {a : Act} {w : World} (f : FuncId) (lb : Array Value) (enc : α → Value) (xs : List α) (B : Nat) (M : World → Prop) (hs : SeqB Tryz.prog f lb enc xs B M)
    (hf : ∀ args w, (callFunc f args).run Tryz.prog w = .ok (.enter f args) w) (hg : a.eval g = .func (.func f) #[] lb) (hps : ps.size = 1)
    (I : Nat → (Nat → Prop) → World → Prop) (X : Exit → World → Prop) (O0 : Nat → Prop) (hB : B < w.heap.size) (hI : ∀ j O W W', I j O W → Keeps (fun b => b = B ∨ b = w.heap.size ∨ b = w.heap.size + 1) W W' → I j O W') (hX : ∀ e W W', X e W → Keeps (fun b => b = B ∨ b = w.heap.size ∨ b = w.heap.size + 1) W W' → X e W')
    (hM : M w) (hMs : ∀ W W', M W → Sees W W' → M W') (hO : ∀ j O W, I j O W → ∀ b, O b → b < W.heap.size ∧ b ≠ B ∧ b ≠ w.heap.size ∧ b ≠ w.heap.size + 1) (h0 : I 0 O0 w)
    (hround : ∀ (l j : Nat) (O : Nat → Prop) (x : α) (W : World), xs[j]? = some x → I j O W → w.heap.size + 2 ≤ W.heap.size → assign.wpIn (Fence.wide.inRound l) 0 Tryz.prog (Exit.then (fun a₁ w₁ => ∃ K : World → Prop, K w₁ ∧ (∀ W W', K W → Keeps (fun b => b = w.heap.size ∨ b = w.heap.size + 1) W W' → K W') ∧ Sees W w₁ ∧
        ∀ W', K W' → w₁.heap.size ≤ W'.heap.size → body.wpIn (Fence.wide.inRound l) 0 Tryz.prog (ways (fun W'' => ∃ O', I (j + 1) O' W'' ∧ Keeps O W' W'' ∧ ∀ b, O' b → O b ∨ W.heap.size ≤ b) (fun e W'' => X e W'' ∧ Keeps O W' W'')) a₁ W') (fun _ _ _ => False))
          { tmps := (ps.zip #[enc x]).foldl (fun t (p, v) => t.setIfInBounds p v) a.tmps, defers := [] } W)
    (hdone : ∀ O W, I xs.length O W → W.heap[w.heap.size]? = some (.deferred (some [])) → Q .normal { a with defers := { target := .collected w.heap.size, args := #[] } :: a.defers } W)
    (hleave : ∀ id W, X (.exit id) W → W.heap[w.heap.size]? = some (.deferred (some [])) → Q (.exit id) { a with defers := { target := .collected w.heap.size, args := #[] } :: a.defers } W)
    (hret : ∀ W, X .ret W → W.heap[w.heap.size]? = some (.deferred (some [])) → Q .ret { a with defers := { target := .collected w.heap.size, args := #[] } :: a.defers } W) :
    (Code.rangeFunc g ps assign body).wp Tryz.prog Q a w := by
  refine wpIn_wide (n := 0) |>.1 (wpIn_rangeFunc ?_)
  intro fn _
  obtain ⟨rec, hrec⟩ : ∃ rec : LoopState → Option Code → Loop, rec = fun st pd => { state := st, pending := pd, fn, tmps := a.tmps, params := ps, assign, body, defers := w.heap.size } := ⟨_, rfl⟩
  obtain ⟨W1, hW1⟩ : ∃ W1, W1 = (w.alloc (.deferred (some []))).alloc (.loop (rec .ready none)) := ⟨_, rfl⟩
  have hs1 : Sees w W1 := by rw [hW1]; exact ((Sees.refl w).alloc _).alloc _
  have hz1 : W1.heap.size = w.heap.size + 2 := by rw [hW1, World.size_alloc, World.size_alloc]
  have hL1 : W1.heap[w.heap.size + 1]? = some (.loop (rec .ready none)) := by
    have := World.alloc_heap_new (w.alloc (.deferred (some []))) (.loop (rec .ready none))
    rw [World.size_alloc] at this
    rw [hW1]; exact this
  have hD1 : W1.heap[w.heap.size]? = some (.deferred (some [])) := by
    rw [hW1, Below.heap_alloc _ _ _ (by simp)]; exact World.alloc_heap_new w _
  have hput0 : ∀ (W : World) (l : Nat) (o : Obj), (l = w.heap.size ∨ l = w.heap.size + 1) → Keeps (fun b => b = w.heap.size ∨ b = w.heap.size + 1) W (W.putObj l o) := fun W l o hl =>
    ⟨rfl, rfl, rfl, by rw [World.putObj_size]; exact Nat.le_refl _, fun b _ hb => World.putObj_heap_other (fun e => hb (by subst e; exact hl))⟩
  have hput : ∀ (W : World) (l : Nat) (o : Obj), (l = w.heap.size ∨ l = w.heap.size + 1) → Keeps (fun b => b = B ∨ b = w.heap.size ∨ b = w.heap.size + 1) W (W.putObj l o) := fun W l o hl => (hput0 W l o hl).mono (fun b _ h => .inr h)
  have hput1 : ∀ (W : World) (o : Obj), Keeps (fun b => b = w.heap.size + 1) W (W.putObj (w.heap.size + 1) o) := fun W o =>
    ⟨rfl, rfl, rfl, by rw [World.putObj_size]; exact Nat.le_refl _, fun b _ hb => World.putObj_heap_other hb⟩
  refine ⟨w.heap.size + 1, [{ target := .collected w.heap.size, args := #[] }], W1, { target := .fn (.func f) lb, args := #[.func (.yield (w.heap.size + 1)) #[] #[]] }, W1, f,
    #[.func (.yield (w.heap.size + 1)) #[] #[]] ++ lb, W1, ?_, ?_, fun _ _ => trivial, ?_, fun h => (by cases h), ?_⟩
  · rw [hW1, hrec]; exact run_enterLoop_outer _ _ _ _ _
  · simp only [resolve, rangeCall, hg]
    simp [go_sem]
  · simp [invoke, go_sem, hf]
  · refine CallsIn.mono (hs (w.heap.size + 1) (fun j O' W => ∃ O, O' = withB O (w.heap.size + 1) ∧ I j O W ∧ W.heap[w.heap.size + 1]? = some (.loop (rec .ready none)) ∧ W.heap[w.heap.size]? = some (.deferred (some [])) ∧ w.heap.size + 2 ≤ W.heap.size)
      (fun W => ∃ e c, jumpOf e = some c ∧ X e W ∧ W.heap[w.heap.size + 1]? = some (.loop (rec .done (some c))) ∧ W.heap[w.heap.size]? = some (.deferred (some [])) ∧ w.heap.size + 2 ≤ W.heap.size)
      W1 (withB O0 (w.heap.size + 1)) ?_ ?_ ?_ ?_ ⟨O0, rfl, hI 0 O0 w W1 h0 (Keeps.of_sees hs1), hL1, hD1, by omega⟩ (hMs _ _ hM hs1)) ?_
    · rintro j O' W ⟨O, rfl, h1, h2, h3, h4⟩ b hb
      rcases hb with hb | hb
      · exact ⟨(hO j O W h1 b hb).1, (hO j O W h1 b hb).2.1⟩
      · exact ⟨by omega, by omega⟩
    · rintro j O' W W' ⟨O, rfl, h1, h2, h3, h4⟩ hs
      exact ⟨O, rfl, hI _ _ _ _ h1 (hs.mono (fun b _ h => .inl h)), by rw [hs.block _ (by omega) (by omega)]; exact h2, by rw [hs.block _ (by omega) (by omega)]; exact h3, Nat.le_trans h4 hs.size⟩
    · rintro W W' ⟨e, c, h0, h1, h2, h3, h4⟩ hs
      exact ⟨e, c, h0, hX _ _ _ h1 (hs.mono (fun b _ h => .inl h)), by rw [hs.block _ (by omega) (by omega)]; exact h2, by rw [hs.block _ (by omega) (by omega)]; exact h3, Nat.le_trans h4 hs.size⟩
    · rintro j O' W x hx ⟨O, rfl, hi, hl, hd, hz⟩
      have hno : ¬ O w.heap.size ∧ ¬ O (w.heap.size + 1) := ⟨fun h => (hO j O W hi _ h).2.2.1 rfl, fun h => (hO j O W hi _ h).2.2.2 rfl⟩
      have hy := run_yield (P := Tryz.prog) (args := #[enc x]) hl (by rw [hrec]; simp [hps])
      rw [hrec] at hy
      refine ⟨fn, _, assign, body, hy, roundIn_of_wpIn trivial (wpIn_mono (hround _ j O x W hx hi hz) ?_)⟩
      rintro e a1 w1 hq
      cases e with
      | exit id => exact hq
      | goto t => exact hq
      | ret => exact hq
      | panic ch => exact hq
      | outgrown => exact hq
      | normal =>
      obtain ⟨K, hK0, hKs, hk0, hb⟩ := hq
      have hz0 := hk0.size
      have hl0 : w1.heap[w.heap.size + 1]? = some (.loop (rec .ready none)) := (hk0.block _ (by omega)).trans hl
      have hd0 : w1.heap[w.heap.size]? = some (.deferred (some [])) := (hk0.block _ (by omega)).trans hd
      have hk1 := hput0 w1 (w.heap.size + 1) (.loop { rec .ready none with state := .busy }) (.inr rfl)
      have hl2 : (w1.putObj (w.heap.size + 1) (.loop { rec .ready none with state := .busy })).heap[w.heap.size + 1]? = some (.loop { rec .ready none with state := .busy }) := World.putObj_heap_same (by omega)
      have hd2 : (w1.putObj (w.heap.size + 1) (.loop { rec .ready none with state := .busy })).heap[w.heap.size]? = some (.deferred (some [])) := (World.putObj_heap_other (by omega)).trans hd0
      refine ⟨_, run_beginRound hl0 (by rw [hrec]), ?_⟩
      refine wpIn_mono (hb _ (hKs _ _ hK0 hk1) (by rw [World.putObj_size]; exact Nat.le_refl _)) ?_
      have leave : ∀ (e : Exit) (c : Code) (W3 : World), jumpOf e = some c → X e W3 → Keeps O (w1.putObj (w.heap.size + 1) (.loop { rec .ready none with state := .busy })) W3 →
          ∃ w₄, (Instr.endRound (w.heap.size + 1) (some c)).run Tryz.prog W3 = .ok (.bool false) w₄ ∧ ∃ e c, jumpOf e = some c ∧ X e w₄ ∧ w₄.heap[w.heap.size + 1]? = some (.loop (rec .done (some c))) ∧ w₄.heap[w.heap.size]? = some (.deferred (some [])) ∧ w.heap.size + 2 ≤ w₄.heap.size := by
        intro e c W3 hj hx3 hk3
        have hl3 := (hk3.block _ (Array.getElem?_eq_some_iff.1 hl2).1 hno.2).trans hl2
        have hd3 := (hk3.block _ (Array.getElem?_eq_some_iff.1 hd2).1 hno.1).trans hd2
        have hz3 := hk3.size
        rw [World.putObj_size] at hz3
        have he := run_endRound (P := Tryz.prog) (some c) hl3
        refine ⟨_, he, e, c, hj, hX _ _ _ hx3 (hput W3 (w.heap.size + 1) _ (.inr rfl)), ?_, (World.putObj_heap_other (by omega)).trans hd3, by rw [World.putObj_size]; omega⟩
        rw [World.putObj_heap_same (Array.getElem?_eq_some_iff.1 hl3).1, hrec]; rfl
      rintro e a3 W3 hp
      cases e with
      | normal =>
        obtain ⟨O', hi3, hk3, hgr⟩ := hp
        have hl3 := (hk3.block _ (Array.getElem?_eq_some_iff.1 hl2).1 hno.2).trans hl2
        have hd3 := (hk3.block _ (Array.getElem?_eq_some_iff.1 hd2).1 hno.1).trans hd2
        have hz3 := hk3.size
        rw [World.putObj_size] at hz3
        have he := run_endRound (P := Tryz.prog) none hl3
        refine ⟨_, _, he, .inl ⟨rfl, withB O' (w.heap.size + 1), ⟨O', rfl, hI _ _ _ _ hi3 (hput W3 (w.heap.size + 1) _ (.inr rfl)), ?_, (World.putObj_heap_other (by omega)).trans hd3, by rw [World.putObj_size]; omega⟩, ?_, ?_⟩⟩
        · rw [World.putObj_heap_same (Array.getElem?_eq_some_iff.1 hl3).1, hrec]; rfl
        · exact (((Keeps.of_sees (F := withB O (w.heap.size + 1)) hk0).trans ((hput1 w1 _).mono (fun b _ h => .inr h))).trans (hk3.mono (fun b _ h => .inl h))).trans ((hput1 W3 _).mono (fun b _ h => .inr h))
        · rintro b (hb | hb)
          · exact (hgr b hb).imp .inl id
          · exact .inl (.inr hb)
      | ret =>
        obtain ⟨w4, h1, h2⟩ := leave .ret .ret W3 rfl hp.1 hp.2
        exact ⟨_, w4, h1, .inr ⟨rfl, h2⟩⟩
      | exit id =>
        obtain ⟨w4, h1, h2⟩ := leave (.exit id) (.exit id) W3 rfl hp.1 hp.2
        exact ⟨_, w4, h1, .inr ⟨rfl, h2⟩⟩
      | goto t => exact hp.elim
      | panic ch => exact hp.elim
      | outgrown => exact hp.elim
    · rintro e W2 ⟨rfl, ⟨_, O, rfl, hi, hl, hd, hz⟩ | ⟨e, c, hj, hx, hl, hd, hz⟩⟩
      · have he := run_endLoop (P := Tryz.prog) hl (by rw [hrec]; simp)
        rw [hrec] at he
        exact ⟨none, _, he, hdone O _ (hI _ _ _ _ hi (hput W2 (w.heap.size + 1) _ (.inr rfl))) ((World.putObj_heap_other (by omega)).trans hd)⟩
      · have he := run_endLoop (P := Tryz.prog) hl (by rw [hrec]; simp)
        rw [hrec] at he
        refine ⟨some c, _, he, ?_⟩
        have hx' := hX _ _ _ hx (hput W2 (w.heap.size + 1) (.loop { (rec .done (some c)) with state := .exhausted }) (.inr rfl))
        rw [hrec] at hx'
        have hd' : (W2.putObj (w.heap.size + 1) (.loop { (rec .done (some c)) with state := .exhausted })).heap[w.heap.size]? = some (.deferred (some [])) := (World.putObj_heap_other (by omega)).trans hd
        rw [hrec] at hd'
        cases e with
        | exit id =>
          cases hj
          exact wpIn_wide.2 (wp_exit (hleave id _ hx' hd'))
        | ret =>
          cases hj
          exact wpIn_wide.2 (wp_ret (hret _ hx' hd'))
        | normal => cases hj
        | goto t => cases hj
        | panic ch => cases hj
        | outgrown => cases hj
end Go.Proofs.YthcndmchlpohpaaGreatDoor

namespace Go.Proofs.YthcndmchlpohpaaGreatDoor
set_option linter.unusedVariables false
set_option linter.unusedSimpArgs false
open Go.RowKit Go.Shelf
attribute [local go_sem] Oper.semAt_some

/-- Where the first byte 10 stands, or how many bytes there are. -/
def eol : List UInt8 → Nat
  | [] => 0
  | c :: t => if c == 10 then 0 else eol t + 1
theorem eol_le : ∀ l : List UInt8, eol l ≤ l.length
  | [] => Nat.le_refl _
  | c :: t => by unfold eol; have := eol_le t; split <;> simp <;> omega
theorem ixb_eol : ∀ l : List UInt8, Lib.indexByte l 10 = if eol l < l.length then (eol l : Int) else -1
  | [] => rfl
  | c :: t => by
    unfold Lib.indexByte eol
    rw [ixb_eol t]
    by_cases hc : (c == 10) = true
    · rw [if_pos hc, if_pos hc]; simp
    · rw [if_neg hc, if_neg hc]
      by_cases h : eol t < t.length
      · rw [if_pos h, if_neg (by rw [beq_iff_eq]; omega), if_pos (by rw [List.length_cons]; omega)]; omega
      · rw [if_neg h, if_neg (show ¬ eol t + 1 < (c :: t).length by rw [List.length_cons]; omega)]; rfl
/-- The pieces of a text that end behind a byte 10, and what is left. -/
def pcs (l : List UInt8) : List (List UInt8) := if h : l = [] then [] else l.take (eol l + 1) :: pcs (l.drop (eol l + 1))
termination_by l.length
decreasing_by
  have := List.length_pos_iff.2 h
  simp only [List.length_drop]
  omega
theorem pcs_nil : pcs [] = [] := by rw [pcs]; rfl
theorem pcs_cons {l : List UInt8} (h : l ≠ []) : pcs l = l.take (eol l + 1) :: pcs (l.drop (eol l + 1)) := by rw [pcs, dif_neg h]
theorem pcs_at {l : List UInt8} (h : l ≠ []) {ps : List (List UInt8)} {d : Nat} (hd : pcs l = ps.drop d) : ps[d]? = some (l.take (eol l + 1)) ∧ pcs (l.drop (eol l + 1)) = ps.drop (d + 1) := by
  rw [pcs_cons h] at hd
  constructor
  · have := congrArg List.head? hd
    rw [List.head?_drop] at this
    exact this.symm
  · have := congrArg List.tail hd
    rw [List.tail_drop] at this
    exact this
theorem pcs_end {ps : List (List UInt8)} {d : Nat} (h : d ≤ ps.length) (hd : pcs [] = ps.drop d) : d = ps.length := by
  rw [pcs_nil] at hd
  have := congrArg List.length hd
  rw [List.length_drop, List.length_nil] at this
  omega
/-- How many bytes the box's string has. -/
def szAt (W : World) (B : Nat) : Nat := match W.cell? ⟨B, 0, none⟩ with
  | some (.string s) => s.size
  | _ => 0
set_option maxHeartbeats 8000000 in
set_option maxRecDepth 100000 in
theorem lines_seq (l : List UInt8) (hl : l.length ≤ 1000000000) (B : Nat) : SeqB Tryz.prog 39 #[.pointer (some ⟨B, 0, none⟩)] (fun x => .string (strL x)) (pcs l) B (fun W => Bx W B 9 (.string (strL l))) := by
  intro lp J JS W O0 hJO hJs hJSs hY h0 hB0
  obtain ⟨ps, hps⟩ : ∃ ps, ps = pcs l := ⟨_, rfl⟩
  rw [← hps] at hY ⊢
  have HPS := Lib.hid hps
  have HJO := Lib.hid hJO
  have HJs := Lib.hid hJs
  have HJSs := Lib.hid hJSs
  have HY := Lib.hid hY
  have H0 := Lib.hid h0
  have HB0 := Lib.hid hB0
  clear hJO hJs hJSs hY h0 hB0 hps
  refine callsIn_wide.2 ?_
  show Calls Tryz.prog _ #[.func (.yield lp) #[] #[], .pointer (some ⟨B, 0, none⟩)] W _
  go_enter Tryz.func39, Tryz.ntmps39
  go_wp2
  go_loopw [] (fun wr => ∃ (d : Nat) (O : Nat → Prop) (r : List UInt8), d ≤ ps.length ∧ (r.length ≤ 1000000000 ∧ Hid (pcs r = ps.drop d)) ∧ Bx wr B 9 (.string (strL r)) ∧ J d O wr) (fun wr => szAt wr B)
  case atStart => exact ⟨0, O0, l, Nat.zero_le _, ⟨hl, by unfold RowKit.Hid; rw [HPS.out]; rfl⟩, HB0.out, H0.out⟩
  case round =>
    obtain ⟨d, O, r, hd, hE, hB, hj⟩ := hrel
    have hrl := hE.1
    have HE := Lib.hid hE
    have HJ := Lib.hid hj
    have HB := Lib.hid hB
    have HD := Lib.hid hd
    have hc := hB.c
    have hfz := hB.fr
    have hsz : (strL r).size = r.length := strL_size r
    clear hE hj hd
    by_cases hr : r = []
    · subst hr
      have hdd := Lib.hid (pcs_end HD.out HE.out.2.out)
      have hz : ¬ ((([] : List UInt8).length : Nat) : Int) > 0 := by simp
      go_wp2
      exact bodyPost_end (results_none rfl _ _ _) rfl ⟨rfl, .inl ⟨O, by have := HJ.out; rw [hdd.out] at this; exact this⟩⟩
    · have hpos : 0 < r.length := List.length_pos_iff.2 hr
      obtain ⟨hx, hE'⟩ := pcs_at hr HE.out.2.out
      have HX := Lib.hid hx
      have HE1 : Hid ((r.drop (eol r + 1)).length ≤ 1000000000 ∧ Hid (pcs (r.drop (eol r + 1)) = ps.drop (d + 1))) := Lib.hid ⟨by rw [List.length_drop]; omega, Lib.hid hE'⟩
      have HD1 : Hid (d + 1 ≤ ps.length) := Lib.hid (List.getElem?_eq_some_iff.1 hx).1
      have HLT : Hid ((r.drop (eol r + 1)).length < r.length) := Lib.hid (by rw [List.length_drop]; omega)
      have KI : Hid (∀ W, Calls Tryz.prog 40 #[.string (strL r), .int .u8 10] W fun e w' => e = .returned (.int .i64 (if eol r < r.length then (eol r : Int) else -1)) ∧ w' = W) := fun W => by
        have h := ixb_any (strL r) 10 W
        rw [strL_list, show (10 : Int).toNat.toUInt8 = 10 from rfl, ixb_eol] at h
        exact h
      obtain ⟨k, hk⟩ : ∃ k, k = eol r := ⟨_, rfl⟩
      obtain ⟨n, hn⟩ : ∃ n, n = r.length := ⟨_, rfl⟩
      have hkn : k ≤ n := by rw [hk, hn]; exact eol_le r
      rw [← hk] at HX HE1 HLT
      rw [← hk, ← hn] at KI
      rw [← hn] at hsz hpos hrl
      have HK := Lib.hid hk
      have HN := Lib.hid hn
      have g0 : (n : Int) > 0 := by omega
      clear hk hn hx hE' hr
      by_cases hlt : k < n
      · rw [if_pos hlt] at KI
        have hx1 : (strL r).extract 0 (k + 1) = strL (r.take (k + 1)) := by rw [strL_extract, List.drop_zero]
        have hx2 : (strL r).extract (k + 1) n = strL (r.drop (k + 1)) := by rw [strL_extract, HN.out, List.take_length]
        have g1 : (k : Int) ≥ 0 := by omega
        have g2 : k + 1 ≤ n := hlt
        go_wp2_with fail
        refine (KI.out _).mono ?_
        rintro e w' ⟨rfl, hw'⟩
        obtain rfl : wr = w' := hw'.symm
        go_wp2_with fail
        go_region
        go_upto_region 6 with fail
        refine wp_world fun W8 hW8 => ?_
        have HB8 : Hid (Bx W8 B 9 (.string (strL (r.drop (k + 1))))) := by rw [hW8]; exact Lib.hid ((HB.out.set _).sees (Sees.refl _).drew)
        have HK8 : Hid (Keeps (fun b => b = B) wr W8) := by rw [hW8]; exact Lib.hid (((Keeps.refl (fun b => b = B) wr).setCell (p := ⟨B, 0, none⟩) (fun _ => rfl) _).trans (Keeps.of_sees (Sees.refl _).drew))
        clear hW8
        have HJ8 := Lib.hid (HJs.out _ _ _ _ HJ.out HK8.out)
        obtain ⟨fn, tmps, assign, body, hy, hR⟩ := HY.out d O _ _ HX.out HJ8.out
        have hRR := Lib.hid hR
        refine wpIn_wide (n := 0) |>.1 ?_
        go_simp
        gi_wp2
        refine ⟨rfl, hRR.out.mono ?_⟩
        rintro e W9 (⟨rfl, O2, hJ9, hk9, hg9⟩ | ⟨rfl, hJ9⟩)
        · have HJ9 := Lib.hid hJ9
          have HB9 := Lib.hid (HB8.out.keeps hk9 (fun e => (HJO.out _ _ _ HJ8.out _ e).2 rfl))
          clear hk9 hJ9 hg9 hy hRR hR HJ8
          gi_wp2
          go_wp2
          go_roundw
          case rel => exact ⟨d + 1, O2, _, HD1.out, HE1.out, HB9.out, HJ9.out⟩
          case measure => simp only [szAt, hB.c, HB9.out.c, strL_size]; have := HLT.out; omega
        · have HJ9 := Lib.hid hJ9
          clear hJ9 hy
          gi_wp2
          go_wp2
          exact bodyPost_ret (results_none rfl _ _ _) rfl ⟨rfl, .inr HJ9.out⟩
      · obtain rfl : k = n := by omega
        rw [if_neg hlt] at KI
        have hx1 : r.take (k + 1) = r := List.take_of_length_le (by rw [← HN.out]; omega)
        have hx2 : r.drop (k + 1) = [] := List.drop_of_length_le (by rw [← HN.out]; omega)
        have g1 : ¬ (-1 : Int) ≥ 0 := by omega
        go_wp2_with fail
        refine (KI.out _).mono ?_
        rintro e w' ⟨rfl, hw'⟩
        obtain rfl : wr = w' := hw'.symm
        go_upto_region 6 with fail
        refine wp_world fun W8 hW8 => ?_
        have HB8 : Hid (Bx W8 B 9 (.string (strL (r.drop (k + 1))))) := by rw [hW8, hx2]; exact Lib.hid (HB.out.set _)
        have HK8 : Hid (Keeps (fun b => b = B) wr W8) := by rw [hW8]; exact Lib.hid ((Keeps.refl (fun b => b = B) wr).setCell (p := ⟨B, 0, none⟩) (fun _ => rfl) _)
        rw [hx1] at HX
        clear hW8
        have HJ8 := Lib.hid (HJs.out _ _ _ _ HJ.out HK8.out)
        obtain ⟨fn, tmps, assign, body, hy, hR⟩ := HY.out d O _ _ HX.out HJ8.out
        have hRR := Lib.hid hR
        refine wpIn_wide (n := 0) |>.1 ?_
        go_simp
        gi_wp2
        refine ⟨rfl, hRR.out.mono ?_⟩
        rintro e W9 (⟨rfl, O2, hJ9, hk9, hg9⟩ | ⟨rfl, hJ9⟩)
        · have HJ9 := Lib.hid hJ9
          have HB9 := Lib.hid (HB8.out.keeps hk9 (fun e => (HJO.out _ _ _ HJ8.out _ e).2 rfl))
          clear hk9 hJ9 hg9 hy hRR hR HJ8
          gi_wp2
          go_wp2
          go_roundw
          case rel => exact ⟨d + 1, O2, _, HD1.out, HE1.out, HB9.out, HJ9.out⟩
          case measure => simp only [szAt, hB.c, HB9.out.c, strL_size]; have := HLT.out; omega
        · have HJ9 := Lib.hid hJ9
          clear hJ9 hy
          gi_wp2
          go_wp2
          exact bodyPost_ret (results_none rfl _ _ _) rfl ⟨rfl, .inr HJ9.out⟩
/-- strings.Lines: a function over the string's pieces, that keeps what is left in a box. -/
theorem slines_any (l : List UInt8) (w : World) :
    Calls Tryz.prog 26 #[.string (strL l)] w fun e w' => e = .returned (.func (.func 39) #[] #[.pointer (some ⟨w.heap.size, 0, none⟩)]) ∧ w' = w.alloc (.cells #[.string (strL l)] 9) := by
  go_enter Tryz.func26, Tryz.ntmps26
  go_wp2
  go_ret
  exact ⟨rfl, rfl⟩
end Go.Proofs.YthcndmchlpohpaaGreatDoor

namespace Go.Proofs.YthcndmchlpohpaaGreatDoor
set_option linter.unusedVariables false
set_option linter.unusedSimpArgs false
open Go.RowKit Go.Shelf
attribute [local go_sem] Oper.semAt_some

theorem El.wpListIn_append_own {α : Type} {E : El α} {st : TypeId} {Fe : Fence} {n : Nat} {F : Nat → Prop} {W : World} {v : Value} {xs : List α} {ops : Array Oper} {rest : List Oper} {o : Oper} {a : Act} {Q : Exit → Act → World → Prop} (T : El.Typed Tryz.prog E st) (hgd : o.guard = none) (s x : Operand) (ho : o.op = .call { callee := .builtin .append, args := #[s, x], argTypes := #[st, st] }) (hs : a.eval s = v) (h : E.Own F W v xs)
    (ad : Addr) (m c : Nat) (hx : a.eval x = .slice (some ad) m c) (news : List Value) (ys : List α) (Fn : Nat → Prop) (hown : E.ownIn Fn W news ys) (hm : m = ys.length) (hnews : ∀ j u, news[j]? = some u → W.cell? (ad.add j) = some u)
    (hF : ∀ b, F b → b < W.heap.size) (hFn : ∀ b, Fn b → b < W.heap.size ∧ ¬ F b) (hn : xs.length + ys.length ≤ 100000000)
    (hQ : ∀ v' W', E.Own (fun b => F b ∨ Fn b ∨ W.heap.size ≤ b) W' v' (xs ++ ys) → Keeps (fun b => v.ownBlock = some b) W W' → wpListIn Fe n Tryz.prog ops Q rest (a.put o.dst v') W') : wpListIn Fe n Tryz.prog ops Q (o :: rest) a W := by
  obtain ⟨v', W', h1, h2, h3⟩ := El.run_append_own T o.type h ad m c news ys Fn hown hm hnews hF hFn hn
  refine wpListIn_plain hgd fun K hK' => ?_
  unfold Oper.wpIn
  refine ⟨?_, ?_⟩
  · simp [Oper.about, ho, resolve, Target.leads, Sem.run_pure]
  · rw [Oper.semAt_plain Fe _ _ (by rw [ho]; intro c hc'; cases hc')]
    simp [execOp, ho, resolve, invoke, builtin, hs, hx, h1, Result.andThen]
    exact hK' _ _ (hQ v' W' h2 h3)
theorem Keeps.putObj_one (W : World) (D : Nat) (o : Obj) : Keeps (fun b => b = D) W (W.putObj D o) :=
  ⟨rfl, rfl, rfl, by rw [World.putObj_size]; exact Nat.le_refl _, fun b _ hb => World.putObj_heap_other hb⟩
theorem sees_put {w W : World} {D : Nat} {o : Obj} (h : Sees w W) (hD : w.heap.size ≤ D) : Sees w (W.putObj D o) :=
  ((Keeps.of_sees (F := fun _ => False) h).trans' (⟨rfl, rfl, rfl, by rw [World.putObj_size]; exact Nat.le_refl _, fun b _ hb => World.putObj_heap_other hb⟩ : Keeps (fun b => b = D) W (W.putObj D o)) (fun b hb e => by omega)).sees_end (fun _ _ h => h)
/-- What the rounds of Parse make. -/
def parseF (N : Int) : List (List UInt8) → List Ln → List Ln × Int
  | [], out => (out, 0)
  | x :: xs, out => if Lib.hasSuffix x [10] = true then (if (lineB (Lib.trimSuffix x [10]) N).2.2 = 0 then parseF N xs (out ++ [⟨(lineB (Lib.trimSuffix x [10]) N).1, (lineB (Lib.trimSuffix x [10]) N).2.1⟩]) else ([], (lineB (Lib.trimSuffix x [10]) N).2.2)) else ([], 6)
/-- What Parse answers: lines, and an error. -/
def parseB (l : List UInt8) (N : Int) : List Ln × Int := if N < 0 ∨ 1000 < N then ([], 2) else if 1048576 < l.length then ([], 5) else parseF N (pcs l) []
def ParseP (w : World) (R : List Ln × Int) (e : Ending) (w' : World) : Prop := ∃ v, e = .returned (.tuple #[v, .int .i64 R.2]) ∧ lnEl.Rd (fun b => w.heap.size ≤ b) w' v R.1 ∧ Sees w w'
theorem pcs_len : ∀ (n : Nat) (l : List UInt8), l.length ≤ n → (pcs l).length ≤ l.length ∧ ∀ x ∈ pcs l, x.length ≤ l.length
  | 0, l, h => by
    obtain rfl : l = [] := List.length_eq_zero_iff.1 (by omega)
    rw [pcs_nil]; exact ⟨Nat.le_refl _, fun x hx => by cases hx⟩
  | n + 1, l, h => by
    by_cases hl : l = []
    · subst hl; rw [pcs_nil]; exact ⟨Nat.le_refl _, fun x hx => by cases hx⟩
    · have hp := List.length_pos_iff.2 hl
      have hd : (l.drop (eol l + 1)).length = l.length - (eol l + 1) := List.length_drop
      obtain ⟨k1, k2⟩ := pcs_len n (l.drop (eol l + 1)) (by omega)
      rw [pcs_cons hl]
      refine ⟨by rw [List.length_cons]; omega, fun x hx => ?_⟩
      rcases List.mem_cons.1 hx with rfl | hx
      · rw [List.length_take]; omega
      · have := k2 x hx; omega
theorem results_bb {fn : Func} {tmps : Array Value} {W : World} {i j b c : Nat} {v u : Value} (hr : fn.results = #[.cell i 30, .cell j 43]) (hi : tmps[i]?.getD undef = .pointer (some ⟨b, 0, none⟩)) (hj : tmps[j]?.getD undef = .pointer (some ⟨c, 0, none⟩)) (h : Bx W b 30 v) (k : Bx W c 43 u) :
    (results fn tmps).run Tryz.prog W = .ok (.tuple #[v, u]) W := by
  have h1 := h.c
  have k1 := k.c
  unfold results
  rw [hr]
  simp [hi, hj, asAddr, go_sem, h1, k1]
theorem drop_at {α : Type} {xs : List α} {j : Nat} {x : α} (h : xs[j]? = some x) : xs.drop j = x :: xs.drop (j + 1) := by
  obtain ⟨h1, h2⟩ := List.getElem?_eq_some_iff.1 h
  rw [List.drop_eq_getElem_cons h1, h2]
/-- What stands between two lines. -/
structure PaI (w : World) (N : Int) (v : Value) (out : List Ln) (O : Nat → Prop) (W : World) : Prop where
  c : Bx W w.heap.size 3 (.int .i64 N)
  r : Bx W (w.heap.size + 1) 30 (.slice none 0 0)
  e : Bx W (w.heap.size + 2) 43 (.int .i64 0)
  o : Bx W (w.heap.size + 3) 30 v
  own : lnEl.Own (fun b => O b ∧ w.heap.size + 7 ≤ b) W v out
  lo : ∀ b, O b → b < W.heap.size ∧ (b = w.heap.size + 1 ∨ b = w.heap.size + 2 ∨ b = w.heap.size + 3 ∨ w.heap.size + 7 ≤ b)
  m : O (w.heap.size + 1) ∧ O (w.heap.size + 2) ∧ O (w.heap.size + 3)
  s : Sees w W
namespace PaI
variable {w W W' : World} {N : Int} {v : Value} {out : List Ln} {O : Nat → Prop}
theorem keeps {F : Nat → Prop} (h : PaI w N v out O W) (hk : Keeps F W W') (hF : ∀ b, F b → b = w.heap.size + 4 ∨ b = w.heap.size + 5 ∨ b = w.heap.size + 6) : PaI w N v out O W' :=
  ⟨h.c.keeps hk (fun e => by have := hF _ e; omega), h.r.keeps hk (fun e => by have := hF _ e; omega), h.e.keeps hk (fun e => by have := hF _ e; omega), h.o.keeps hk (fun e => by have := hF _ e; omega),
    h.own.keeps hk (fun b hb e => by have := hF _ e; omega), fun b hb => ⟨by have := (h.lo b hb).1; have := hk.size; omega, (h.lo b hb).2⟩, h.m,
    ((Keeps.of_sees (F := fun _ => False) h.s).trans' hk (fun b hb e => by have := hF _ e; omega)).sees_end (fun _ _ h => h)⟩
theorem sees (h : PaI w N v out O W) (hs : Sees W W') : PaI w N v out O W' := h.keeps (Keeps.of_sees (F := fun _ => False) hs) (fun _ h => h.elim)
/-- Parse ends with an error. -/
theorem err (h : PaI w N v out O W) (q : Int) : Bx ((W.setCell ⟨w.heap.size + 1, 0, none⟩ (.slice none 0 0)).setCell ⟨w.heap.size + 2, 0, none⟩ (.int .i64 q)) (w.heap.size + 1) 30 (.slice none 0 0) ∧
    Bx ((W.setCell ⟨w.heap.size + 1, 0, none⟩ (.slice none 0 0)).setCell ⟨w.heap.size + 2, 0, none⟩ (.int .i64 q)) (w.heap.size + 2) 43 (.int .i64 q) ∧
    Sees w ((W.setCell ⟨w.heap.size + 1, 0, none⟩ (.slice none 0 0)).setCell ⟨w.heap.size + 2, 0, none⟩ (.int .i64 q)) ∧
    Keeps O W ((W.setCell ⟨w.heap.size + 1, 0, none⟩ (.slice none 0 0)).setCell ⟨w.heap.size + 2, 0, none⟩ (.int .i64 q)) :=
  ⟨(h.r.set _).other (by omega) _, (h.e.other (by omega) _).set _, (h.s.setCell (p := ⟨w.heap.size + 1, 0, none⟩) (by show w.heap.size ≤ w.heap.size + 1; omega) _).setCell (p := ⟨w.heap.size + 2, 0, none⟩) (by show w.heap.size ≤ w.heap.size + 2; omega) _,
    ((Keeps.refl O W).setCell (p := ⟨w.heap.size + 1, 0, none⟩) (fun _ => h.m.1) _).setCell (p := ⟨w.heap.size + 2, 0, none⟩) (fun _ => h.m.2.1) _⟩
/-- A line more. -/
theorem next (h : PaI w N v out O W) {X Y : World} {F : Nat → Prop} {v9 : Value} {x : Ln} (hs : Sees W X) (ho : lnEl.Own F Y v9 (out ++ [x])) (hF : ∀ b, b < Y.heap.size → F b → (O b ∧ w.heap.size + 7 ≤ b) ∨ W.heap.size ≤ b) (hk : Keeps (fun b => v.ownBlock = some b) X Y) (h7 : w.heap.size + 7 ≤ W.heap.size) :
    PaI w N v9 (out ++ [x]) (fun b => O b ∨ (W.heap.size ≤ b ∧ b < Y.heap.size)) (Y.setCell ⟨w.heap.size + 3, 0, none⟩ v9) ∧ Keeps O W (Y.setCell ⟨w.heap.size + 3, 0, none⟩ v9) := by
  have hO : ∀ b, v.ownBlock = some b → O b ∧ w.heap.size + 7 ≤ b := fun b hb => (h.own.base hb).1
  have hkO : Keeps O W Y := (Keeps.of_sees hs).trans' hk (fun b _ e => (hO b e).1)
  have hk7 : Keeps (fun b => w.heap.size + 7 ≤ b) W Y := (Keeps.of_sees hs).trans' hk (fun b _ e => (hO b e).2)
  have hz := hkO.size
  have hsz : (Y.setCell ⟨w.heap.size + 3, 0, none⟩ v9).heap.size = Y.heap.size := World.size_setCell ..
  refine ⟨⟨(h.c.keeps hk7 (by omega)).other (by omega) _, (h.r.keeps hk7 (by omega)).other (by omega) _, (h.e.keeps hk7 (by omega)).other (by omega) _, (h.o.keeps hk7 (by omega)).set _, ?_, ?_, ⟨.inl h.m.1, .inl h.m.2.1, .inl h.m.2.2⟩, ?_⟩, hkO.setCell (p := ⟨w.heap.size + 3, 0, none⟩) (fun _ => h.m.2.2) _⟩
  · have q : lnEl.Own (fun b => (O b ∨ (W.heap.size ≤ b ∧ b < Y.heap.size)) ∧ w.heap.size + 7 ≤ b) Y v9 (out ++ [x]) := ho.mono (fun b hb hf => by
      rcases hF b hb hf with h1 | h1
      · exact ⟨.inl h1.1, h1.2⟩
      · exact ⟨.inr ⟨h1, hb⟩, by omega⟩)
    exact q.keeps ((Keeps.refl (fun b => b = w.heap.size + 3) Y).setCell (p := ⟨w.heap.size + 3, 0, none⟩) (fun _ => rfl) _) (fun b hb e => by have := hb.2; omega)
  · intro b hb
    rw [hsz]
    rcases hb with hb | hb
    · have := h.lo b hb; exact ⟨by omega, this.2⟩
    · exact ⟨hb.2, .inr (.inr (.inr (by omega)))⟩
  · exact (((Keeps.of_sees (F := fun _ => False) h.s).trans' hk7 (fun b hb e => by omega)).setCell (p := ⟨w.heap.size + 3, 0, none⟩) (fun e => by have : w.heap.size + 3 < w.heap.size := e; omega) _).sees_end (fun _ _ h => h)
end PaI
set_option maxHeartbeats 4000000 in
set_option maxRecDepth 100000 in
theorem parse_err (l : List UInt8) (N : Int) (w : World) (hl : l.length ≤ 1000000000) (h : (N < 0 ∨ 1000 < N) ∨ 1048576 < l.length) :
    Calls Tryz.prog 14 #[.string (strL l), .int .i64 N] w fun e w' => ParseP w (parseB l N) e w' := by
  obtain ⟨R, hR⟩ : ∃ R, R = parseB l N := ⟨_, rfl⟩
  rw [← hR]
  unfold parseB at hR
  have hsz : (strL l).size = l.length := strL_size l
  obtain ⟨n, hn⟩ : ∃ n, n = l.length := ⟨_, rfl⟩
  rw [← hn] at hsz hR hl h
  clear hn
  by_cases h1 : N < 0 ∨ 1000 < N
  · rw [if_pos h1] at hR
    subst hR
    rcases (show N < 0 ∨ (¬ N < 0 ∧ N > 1000) by omega) with h2 | ⟨h2, h3⟩
    · clear h h1
      go_enter Tryz.func14, Tryz.ntmps14
      go_wp2
      exact bodyPost_ret (results_bb rfl rfl rfl ((Bx.new (by simp)).sees ((Sees.refl _).alloc _)) (Bx.new (by simp))) rfl ⟨_, rfl, El.Rd.nil _ _, (((Sees.refl w).alloc _).alloc _).alloc _⟩
    · clear h h1
      go_enter Tryz.func14, Tryz.ntmps14
      go_wp2
      exact bodyPost_ret (results_bb rfl rfl rfl ((Bx.new (by simp)).sees ((Sees.refl _).alloc _)) (Bx.new (by simp))) rfl ⟨_, rfl, El.Rd.nil _ _, (((Sees.refl w).alloc _).alloc _).alloc _⟩
  · rw [if_neg h1, if_pos (show 1048576 < n by rcases h with h | h; exact absurd h h1; exact h)] at hR
    subst hR
    have g1 : ¬ N < 0 := by omega
    have g2 : ¬ N > 1000 := by omega
    have g3 : (n : Int) > 1048576 := by omega
    clear h h1
    go_enter Tryz.func14, Tryz.ntmps14
    go_wp2
    exact bodyPost_ret (results_bb rfl rfl rfl ((Bx.new (by simp)).sees ((Sees.refl _).alloc _)) (Bx.new (by simp))) rfl ⟨_, rfl, El.Rd.nil _ _, (((Sees.refl w).alloc _).alloc _).alloc _⟩
set_option maxHeartbeats 16000000 in
set_option maxRecDepth 100000 in
theorem parse_any (l : List UInt8) (N : Int) (w : World) (hw : Sd w) (hl : l.length ≤ 1000000000) :
    Calls Tryz.prog 14 #[.string (strL l), .int .i64 N] w fun e w' => ParseP w (parseB l N) e w' := by
  by_cases hbad : (N < 0 ∨ 1000 < N) ∨ 1048576 < l.length
  · exact parse_err l N w hl hbad
  obtain ⟨R, hR⟩ : ∃ R, R = parseB l N := ⟨_, rfl⟩
  rw [← hR]
  unfold parseB at hR
  rw [if_neg (fun h => hbad (.inl h)), if_neg (fun h => hbad (.inr h))] at hR
  have g1 : ¬ N < 0 := fun h => hbad (.inl (.inl h))
  have g2 : ¬ N > 1000 := fun h => hbad (.inl (.inr h))
  have hsz : (strL l).size = l.length := strL_size l
  have HLS := Lib.hid (lines_seq l hl)
  have KS := Lib.hid (fun W => slines_any l W)
  obtain ⟨ps, hps⟩ : ∃ ps, ps = pcs l := ⟨_, rfl⟩
  have HLN : Hid (ps.length ≤ 1048576 ∧ ∀ x ∈ ps, x.length ≤ 1048576) := Lib.hid (by
    have h := pcs_len l.length l (Nat.le_refl _)
    rw [← hps] at h
    exact ⟨by omega, fun x hx => by have := h.2 x hx; omega⟩)
  rw [← hps] at hR HLS
  obtain ⟨n, hn⟩ : ∃ n, n = l.length := ⟨_, rfl⟩
  rw [← hn] at hsz
  have g3 : ¬ (n : Int) > 1048576 := by omega
  have HR := Lib.hid hR
  have HW := Lib.hid hw
  clear hbad hR hn hps hw hl
  refine callsIn_wide (n := 0) |>.1 ?_
  refine callsIn_of_wp_marks Tryz.func14 rfl trivial ?_ rfl
  refine wpIn_wide.2 ?_
  simp only [Tryz.ntmps14, List.size_toArray, List.length_cons, List.length_nil, Nat.reduceAdd, Nat.reduceSub, Array.replicate_succ, Array.replicate_zero, List.push_toArray, List.append_toArray, List.nil_append, List.cons_append]
  go_wp2_with fail
  refine calls_world fun W2 hW2 => ?_
  have hz2 : W2.heap.size = w.heap.size + 4 := by rw [hW2]; simp
  have I2 : PaI w N (.slice none 0 0) [] (fun b => b = w.heap.size + 1 ∨ b = w.heap.size + 2 ∨ b = w.heap.size + 3) W2 := by
    subst hW2
    exact ⟨(((Bx.new rfl).sees ((Sees.refl _).alloc _)).sees ((Sees.refl _).alloc _)).sees ((Sees.refl _).alloc _), ((Bx.new (by simp)).sees ((Sees.refl _).alloc _)).sees ((Sees.refl _).alloc _), (Bx.new (by simp)).sees ((Sees.refl _).alloc _), Bx.new (by simp), El.Own.nil _ _, fun b hb => by simp; omega, by simp, (((Sees.refl w).alloc _).alloc _).alloc _ |>.alloc _⟩
  clear hW2
  refine (KS.out W2).mono ?_
  rintro e W3 ⟨rfl, hW3⟩
  have B3 : Bx W3 W2.heap.size 9 (.string (strL l)) := by rw [hW3]; exact Bx.new rfl
  have hz3 : W3.heap.size = W2.heap.size + 1 := by rw [hW3]; simp
  have I3 := Lib.hid (I2.sees (W' := W3) (by rw [hW3]; exact (Sees.refl _).alloc _))
  have HB3 := Lib.hid B3
  rw [hz2] at hz3 HB3 ⊢
  simp only [Nat.add_assoc, Nat.reduceAdd] at hz3 ⊢
  clear hW3 B3 I2 hz2
  go_wp2_with fail
  refine wp_rangeB 39 #[.pointer (some ⟨w.heap.size + 4, 0, none⟩)] (fun x => .string (strL x)) ps (w.heap.size + 4) (fun W => Bx W (w.heap.size + 4) 9 (.string (strL l))) (HLS.out (w.heap.size + 4)) (enters_of Tryz.func39 (by kernel_rfl) rfl) rfl rfl
    (fun j O W => ∃ v out, out.length = j ∧ Hid (parseF N (ps.drop j) out = R) ∧ PaI w N v out O W)
    (fun e W => e = .ret ∧ ∃ q, R = ([], q) ∧ Bx W (w.heap.size + 1) 30 (.slice none 0 0) ∧ Bx W (w.heap.size + 2) 43 (.int .i64 q) ∧ Sees w W) (fun b => b = w.heap.size + 1 ∨ b = w.heap.size + 2 ∨ b = w.heap.size + 3)
    HB3.out.lt ?keep ?keepx HB3.out (fun _ _ h hs => h.sees hs) ?own ⟨_, [], rfl, by unfold RowKit.Hid; rw [HR.out]; rfl, I3.out⟩ ?round ?done ?leave ?ret
  case keep =>
    rintro j O W W' ⟨v, out, h0, h1, h2⟩ hk
    exact ⟨v, out, h0, h1, h2.keeps hk (fun b hb => by omega)⟩
  case keepx =>
    rintro e W W' ⟨h0, q, h1, h2, h3, h4⟩ hk
    exact ⟨h0, q, h1, h2.keeps hk (by omega), h3.keeps hk (by omega), ((Keeps.of_sees (F := fun _ => False) h4).trans' hk (fun b hb e => by omega)).sees_end (fun _ _ h => h)⟩
  case own =>
    rintro j O W ⟨v, out, h0, h1, h2⟩ b hb
    have := h2.lo b hb
    exact ⟨this.1, by omega, by omega, by omega⟩
  case leave => rintro id W ⟨h, _⟩; cases h
  case ret =>
    rintro W ⟨_, q, h1, h2, h3, h4⟩ hD
    have hDk := Keeps.putObj_one W W3.heap.size (.deferred none)
    refine marks_ret rfl hD (results_bb rfl rfl rfl (h2.keeps hDk (by omega)) (h3.keeps hDk (by omega))) ⟨_, by rw [h1], by rw [h1]; exact El.Rd.nil _ _, sees_put h4 (by omega)⟩
  case done =>
    rintro O W ⟨v, out, h0, h1, h2⟩ hD
    have c0 := h2.o.c
    have f1 := h2.r.fr
    have f2 := h2.e.fr
    have f3 := h2.r.c
    have f4 := h2.e.c
    obtain ⟨av, cv, rfl, _⟩ := h2.own.slice
    rw [h0] at h2 c0
    have H2 := Lib.hid h2
    have hDD := Lib.hid hD
    have h1' := h1.out
    rw [List.drop_of_length_le (Nat.le_refl _)] at h1'
    have HRR : Hid ((out, 0) = R) := Lib.hid h1'
    clear h1 h2 hD h1'
    go_wp2_with fail
    obtain ⟨vv, hvv⟩ : ∃ vv, vv = Value.slice av ps.length cv := ⟨_, rfl⟩
    rw [← hvv] at H2 ⊢
    have hb1 := (H2.out.r.set vv).other (show w.heap.size + 1 ≠ w.heap.size + 2 by omega) (.int .i64 0)
    have hb2 := (H2.out.e.other (show w.heap.size + 2 ≠ w.heap.size + 1 by omega) vv).set (.int .i64 0)
    have hk2 : Keeps (fun b => b = w.heap.size + 1 ∨ b = w.heap.size + 2) W ((W.setCell ⟨w.heap.size + 1, 0, none⟩ vv).setCell ⟨w.heap.size + 2, 0, none⟩ (.int .i64 0)) := ((Keeps.refl _ W).setCell (p := ⟨w.heap.size + 1, 0, none⟩) (fun _ => .inl rfl) _).setCell (p := ⟨w.heap.size + 2, 0, none⟩) (fun _ => .inr rfl) _
    have hDk := Keeps.putObj_one ((W.setCell ⟨w.heap.size + 1, 0, none⟩ vv).setCell ⟨w.heap.size + 2, 0, none⟩ (.int .i64 0)) W3.heap.size (.deferred none)
    refine marks_ret rfl ((hk2.block _ (Array.getElem?_eq_some_iff.1 hDD.out).1 (by omega)).trans hDD.out) (results_bb rfl rfl rfl (hb1.keeps hDk (by omega)) (hb2.keeps hDk (by omega))) ⟨vv, by rw [← HRR.out], ?_, sees_put (((Keeps.of_sees (F := fun _ => False) H2.out.s).trans' hk2 (fun b hb e => by omega)).sees_end (fun _ _ h => h)) (by omega)⟩
    rw [← HRR.out]
    exact ((H2.out.own.keeps hk2 (fun b hb e => by omega)).keeps hDk (fun b hb e => by have := hb.2; omega)).rd.mono (fun b _ hb => by have := hb.2; omega)
  case round =>
    rintro lp j O x W hx ⟨v, out, h0, h1, h2⟩ hz
    have hxm := Lib.hid (HLN.out.2 x (List.mem_of_getElem? hx))
    have h1' := h1.out
    rw [drop_at hx] at h1'
    unfold parseF at h1'
    have hjl : j < 1048576 := by have := (List.getElem?_eq_some_iff.1 hx).1; have := HLN.out.1; omega
    have HO := Lib.hid h0
    clear hx h1 h0
    gi_wp2
    refine ⟨fun A => PaI w N v out O A, h2, fun A A' hA hk => hA.keeps hk (fun b hb => by omega), Sees.refl W, fun W' hW' hz' => ?_⟩
    have H4 := Lib.hid hW'
    have hr := hW'.r.fr
    have he := hW'.e.fr
    have hrc := hW'.r.c
    have hec := hW'.e.c
    have hcc := hW'.c.c
    clear h2 hW'
    obtain ⟨bo, hbo⟩ : ∃ bo, bo = Lib.hasSuffix x [10] := ⟨_, rfl⟩
    obtain ⟨t, ht⟩ : ∃ t, t = Lib.trimSuffix x [10] := ⟨_, rfl⟩
    rw [← hbo, ← ht] at h1'
    have KC : Hid (∀ W, Calls Tryz.prog 27 #[.string (strL x), .string ⟨#[10]⟩] W fun e w' => e = .returned (.tuple #[.string (strL t), .bool bo]) ∧ w' = W) := Lib.hid (fun W => by
      have h := cuts_any (strL x) ⟨#[10]⟩ W (by rw [strL_size]; have := hxm.out; omega)
      rw [strL_list, show (⟨#[10]⟩ : ByteArray).data.toList = [10] from rfl, ← hbo, ← ht] at h
      exact h)
    have HTL : Hid (t.length ≤ 1048576) := Lib.hid (by rw [ht]; unfold Lib.trimSuffix; have := hxm.out; split <;> simp <;> omega)
    clear hbo ht
    cases bo with
    | false =>
      have HE : Hid (([], 6) = R) := Lib.hid h1'
      clear h1'
      gi_wp2_with fail
      refine ⟨trivial, rfl, (CallsIn.inRound lp (callsIn_wide.2 (KC.out _))).mono ?_⟩
      rintro e W5 ⟨rfl, hw5⟩
      obtain rfl : W' = W5 := hw5.symm
      gi_wp2
      obtain ⟨q1, q2, q3, q4⟩ := H4.out.err 6
      exact ⟨⟨rfl, 6, HE.out.symm, q1, q2, q3⟩, q4⟩
    | true =>
      have KL : Hid (∀ W, Sees w W → Calls Tryz.prog 18 #[.string (strL t), .int .i64 N] W fun e w' => LineP W (lineB t N) e w') := Lib.hid (fun W hs => line_any t N (by have := HTL.out; omega) W (HW.out.sees hs))
      obtain ⟨LB, hLB⟩ : ∃ LB, LB = lineB t N := ⟨_, rfl⟩
      rw [← hLB] at KL h1'
      clear hLB
      obtain ⟨cs, so, er⟩ := LB
      simp only [if_true] at h1'
      have HE := Lib.hid h1'
      clear h1'
      gi_wp2_with fail
      refine ⟨trivial, rfl, (CallsIn.inRound lp (callsIn_wide.2 (KC.out _))).mono ?_⟩
      rintro e W5 ⟨rfl, hw5⟩
      obtain rfl : W' = W5 := hw5.symm
      gi_wp2_with fail
      refine ⟨trivial, rfl, (CallsIn.inRound lp (callsIn_wide.2 (KL.out _ H4.out.s))).mono ?_⟩
      rintro e W7 ⟨v7, rfl, ho7, s7⟩
      obtain ⟨a7, c7, rfl, hc7⟩ := ho7.slice
      simp only at ho7 hc7
      obtain ⟨m7, hm7⟩ : ∃ m7, m7 = cs.length := ⟨_, rfl⟩
      rw [← hm7] at ho7 hc7 ⊢
      have HO7 := Lib.hid ho7.cut
      have HS7 := Lib.hid s7
      have HM7 := Lib.hid hm7
      clear ho7 hm7
      by_cases hz0 : er = 0
      · subst hz0
        have HE' : Hid (parseF N (ps.drop (j + 1)) (out ++ [⟨cs, so⟩]) = R) := Lib.hid (by have := HE.out; rw [if_pos rfl] at this; exact this)
        obtain ⟨av, cv, rfl, hcv⟩ := H4.out.own.slice
        have H5 : Hid (PaI w N (.slice av j cv) out O W') := Lib.hid (by have q := H4.out; rw [HO.out] at q; exact q)
        have HSA : Hid (Sees W7 ((W7.alloc (.cells #[.slice a7 m7 c7, .bool so] 27)).alloc (.cells #[.slice a7 m7 c7, .bool so] 27))) := Lib.hid (((Sees.refl W7).alloc _).alloc _)
        have HS8 : Hid (Sees W' ((W7.alloc (.cells #[.slice a7 m7 c7, .bool so] 27)).alloc (.cells #[.slice a7 m7 c7, .bool so] 27))) := Lib.hid (HS7.out.trans HSA.out)
        have HOA : Hid (lnEl.Own (fun b => (O b ∧ w.heap.size + 7 ≤ b) ∧ b < W'.heap.size) ((W7.alloc (.cells #[.slice a7 m7 c7, .bool so] 27)).alloc (.cells #[.slice a7 m7 c7, .bool so] 27)) (.slice av j cv) out) := Lib.hid (H5.out.own.cut.sees HS8.out)
        have HN7 : Hid (cellEl.Own (fun b => W'.heap.size ≤ b ∧ b < W7.heap.size) ((W7.alloc (.cells #[.slice a7 m7 c7, .bool so] 27)).alloc (.cells #[.slice a7 m7 c7, .bool so] 27)) (.slice a7 m7 c7) cs) := Lib.hid (HO7.out.sees HSA.out)
        have Hrow : Hid (((W7.alloc (.cells #[.slice a7 m7 c7, .bool so] 27)).alloc (.cells #[.slice a7 m7 c7, .bool so] 27)).heap[W7.heap.size + 1]? = some (.cells #[.slice a7 m7 c7, .bool so] 27 (0, 0))) := Lib.hid (by
          have := heap_alloc_new (W7.alloc (.cells #[.slice a7 m7 c7, .bool so] 27)) (.cells #[.slice a7 m7 c7, .bool so] 27)
          rw [World.size_alloc] at this; exact this)
        have HcF : Hid (∀ b, ((O b ∧ w.heap.size + 7 ≤ b) ∧ b < W'.heap.size) → b < ((W7.alloc (.cells #[.slice a7 m7 c7, .bool so] 27)).alloc (.cells #[.slice a7 m7 c7, .bool so] 27)).heap.size) := Lib.hid (fun b hb => by have := HS8.out.size; have := hb.2; omega)
        have HcN : Hid (∀ b, (W'.heap.size ≤ b ∧ b < W7.heap.size) → b < ((W7.alloc (.cells #[.slice a7 m7 c7, .bool so] 27)).alloc (.cells #[.slice a7 m7 c7, .bool so] 27)).heap.size ∧ ¬ ((O b ∧ w.heap.size + 7 ≤ b) ∧ b < W'.heap.size)) := Lib.hid (fun b hb => ⟨by have := HSA.out.size; have := hb.2; omega, fun h => by have := h.2; have := hb.1; omega⟩)
        have HcL : Hid (out.length + [(⟨cs, so⟩ : Ln)].length ≤ 100000000) := Lib.hid (by rw [HO.out]; simp; omega)
        have c8 := (H5.out.sees s7).o.c
        have f8 := (H5.out.sees s7).o.fr
        have hl8 : w.heap.size + 3 < W7.heap.size := (H5.out.sees s7).o.lt
        clear hr he hrc hec hcc s7 hcv
        gi_wp2_with (gi_at_builtin; refine El.wpListIn_append_own (v := .slice av j cv) typedLn rfl (.tmp 42) (.tmp 44) rfl (by go_simp) HOA.out ⟨W7.heap.size + 1, 0, none⟩ 1 1 (by go_simp) [.slice a7 m7 c7, .bool so] [⟨cs, so⟩] _ (El.ownIn_one (E := lnEl) ⟨_, rfl, HN7.out⟩) rfl (fun j u hu => El.row_cells Hrow.out j u hu) HcF.out HcN.out HcL.out ?_; intro v9 w9 ho9 hk9; obtain ⟨a9, c9, rfl, _⟩ := ho9.slice; obtain ⟨m9, hm9⟩ : ∃ m9, m9 = (out ++ [(⟨cs, so⟩ : Ln)]).length := ⟨_, rfl⟩; rw [← hm9] at ho9 ⊢; have hB9 := (H5.out.sees HS8.out).o.keeps hk9 (fun e => by have := (HOA.out.base e).1.1.2; omega); have c89 := hB9.c; have f89 := hB9.fr; have HO9 := Lib.hid ho9; have HK9 := Lib.hid hk9; have HM9 := Lib.hid hm9; clear ho9 hk9 hB9 hm9 c8 f8)
        have hzA := HSA.out.size
        have hz8 := HS8.out.size
        obtain ⟨q1, q2⟩ := H5.out.next HS8.out HO9.out (fun b hb hf => by
          rcases hf with h | h | h
          · exact .inl h.1
          · exact .inr h.1
          · exact .inr (by omega)) HK9.out (by omega)
        exact ⟨_, ⟨_, _, by rw [List.length_append, HO.out]; rfl, HE', q1⟩, q2, fun b hb => hb.imp id (fun h => by have := h.1; omega)⟩
      · have g5 : (er != 0) = true := by simpa using hz0
        have HE' : Hid (([], er) = R) := Lib.hid (by have := HE.out; rw [if_neg hz0] at this; exact this)
        have SA : Hid (Sees W' (W7.alloc (.cells #[.slice a7 m7 c7, .bool so] 27))) := Lib.hid (HS7.out.alloc _)
        have X7 := H4.out.sees SA.out
        have hr7 := X7.r.fr
        have he7 := X7.e.fr
        have hrc7 := X7.r.c
        have hec7 := X7.e.c
        clear hr he hrc hec hcc s7 X7
        gi_wp2
        obtain ⟨q1, q2, q3, q4⟩ := (H4.out.sees SA.out).err er
        exact ⟨⟨rfl, er, HE'.out.symm, q1, q2, q3⟩, (Keeps.of_sees SA.out).trans q4⟩
end Go.Proofs.YthcndmchlpohpaaGreatDoor

namespace Go.Proofs.YthcndmchlpohpaaGreatDoor
set_option linter.unusedVariables false
set_option linter.unusedSimpArgs false
open Go.RowKit Go.Shelf
attribute [local go_sem] Oper.semAt_some

theorem parseF_len (N : Int) : ∀ (xs : List (List UInt8)) (out : List Ln), (∀ x ∈ out, x.cells.length ≤ 1000000) → ∀ x ∈ (parseF N xs out).1, x.cells.length ≤ 1000000
  | [], out, h => h
  | x :: xs, out, h => by
    unfold parseF
    split
    · split
      · refine parseF_len N xs _ (fun y hy => ?_)
        rcases List.mem_append.1 hy with hy | hy
        · exact h y hy
        · obtain rfl := List.mem_singleton.1 hy
          exact Nat.le_trans (lineB_len _ _) (by decide)
      · intro y hy; cases hy
    · intro y hy; cases hy
theorem parseB_len (l : List UInt8) (N : Int) : ∀ x ∈ (parseB l N).1, x.cells.length ≤ 1000000 := by
  unfold parseB
  split
  · intro y hy; cases hy
  · split
    · intro y hy; cases hy
    · exact parseF_len N _ _ (fun y hy => by cases hy)
set_option maxHeartbeats 4000000 in
set_option maxRecDepth 100000 in
theorem parses_any (l : List UInt8) (N : Int) (G : Nat → Prop) (u : Value) (ws : List Ln) (no : Int) (w : World) (hw : Sd w) (hl : l.length ≤ 1000000000) (hb : lnEl.Rd G w u ws) (hwl : ws.length ≤ 1000000) :
    Calls Tryz.prog 10 #[.string (strL l), .int .i64 N, u, .int .i64 no] w fun e w' => e = .returned (.bool (decide ((parseB l N).1 = ws) && ((parseB l N).2 == no))) ∧ Sees w w' := by
  have KP := Lib.hid (fun W (hs : Sees w W) => parse_any l N W (hw.sees hs) hl)
  have hlen := parseB_len l N
  obtain ⟨R, hR⟩ : ∃ R, R = parseB l N := ⟨_, rfl⟩
  rw [← hR] at KP hlen ⊢
  obtain ⟨xs, er⟩ := R
  simp only at hlen ⊢
  obtain ⟨bo, cb, rfl, hcb⟩ := hb.slice'
  obtain ⟨m, hm⟩ : ∃ m, m = ws.length := ⟨_, rfl⟩
  rw [← hm] at hb hwl ⊢
  have HB := Lib.hid hb
  have HM := Lib.hid hm
  have HLEN := Lib.hid hlen
  clear hR hm hb hw hlen
  go_enter Tryz.func10, Tryz.ntmps10
  go_wp2_with fail
  refine (KP.out _ (Sees.refl _)).mono ?_
  rintro e W2 ⟨vv, rfl, ho, s2⟩
  simp only at ho
  obtain ⟨a2, c2, rfl, hc2⟩ := ho.slice'
  have HA := Lib.hid ho
  have HS := Lib.hid s2
  have HB2 := Lib.hid (HB.out.sees HS.out)
  obtain ⟨q, hq⟩ : ∃ q, q = xs.length := ⟨_, rfl⟩
  rw [← hq] at HA hc2 ⊢
  have HQ := Lib.hid hq
  clear ho s2 KP hq HB
  by_cases hlen : q = m
  · subst hlen
    rcases boolWays (er == no) with hno | hno
    · go_wp2
      go_loopw [11] (fun i wr => ∃ k : Nat, k ≤ q ∧ i = .int .i64 k ∧ xs.take k = ws.take k ∧ Sees W2 wr) (fun i _ => q - (intOf i).toNat)
      case atStart => exact ⟨0, by omega, rfl, by simp, Sees.refl _⟩
      case round =>
        obtain ⟨k, hk, rfl, hm, hS⟩ := hrel
        have Hm := Lib.hid hm; clear hm
        have hw := Sees.refl wr
        by_cases hlt : k < q
        · obtain ⟨b1, o1, r, a3, m3, rfl, _, hr, hc3, r0, r1, hrr⟩ := (HA.out.sees hS).line hlt
          obtain ⟨b2, o2, s, a4, m4, rfl, _, hs, hc4, s0, s1, hss⟩ := (HB2.out.sees hS).line hlt
          have Hr := Lib.hid hr
          have Hs := Lib.hid hs
          have KL : Hid (∀ W, Sees wr W → Calls Tryz.prog 19 #[.agg #[.slice a3 r.cells.length m3, .bool r.soft], .agg #[.slice a4 s.cells.length m4, .bool s.soft]] W fun e w' => e = .returned (.bool (decide (r = s))) ∧ Sees W w') := Lib.hid (fun W hsw => lines48_any _ _ _ _ r s W (hrr.sees hsw) (hss.sees hsw) (HLEN.out r (List.mem_of_getElem? hr)))
          obtain ⟨z, hz⟩ : ∃ z, z = decide (r = s) := ⟨_, rfl⟩
          rw [← hz] at KL
          have HZ := Lib.hid hz
          clear hr hs hrr hss hz
          have g1 := fun d os => (sees_grow wr d os).cell r0
          have g2 := fun d os => (sees_grow wr d os).cell r1
          have g3 := fun d os => (sees_grow wr d os).cell s0
          have g4 := fun d os => (sees_grow wr d os).cell s1
          clear r0 r1 s0 s1 hc3 hc4
          cases z
          · go_wp2
            refine wp_region_quiet_below (by kernel_rfl) (by kernel_rfl) ?_
            repeat (first | go_big_quiet_skip | (go_big_quiet_want; go_big_quiet_op; go_big_quiet_on))
            (go_big_quiet_want; go_big_quiet_op; apply Exists.intro; refine ⟨fun p => Calls.regrown_of (KL.out _ (sees_grow wr _ _)), ?_⟩; go_big_quiet_on)
            repeat (first | go_big_quiet_skip | (go_big_quiet_want; go_big_quiet_op; go_big_quiet_on))
            refine wpQuiet_nil ?_; intro w2 hw2'; have hw2 := regrown_sees hw2'; clear hw2'
            have Hf : Hid (xs ≠ ws) := Lib.hid (fun e => by
              have h1 := Hr.out
              rw [e, Hs.out] at h1
              exact of_decide_eq_false HZ.out.symm (Option.some.inj h1).symm)
            go_wp2
            go_ret
            exact ⟨by rw [decide_eq_false Hf.out]; rfl, HS.out.trans (hS.trans hw2)⟩
          · go_wp2
            refine wp_region_quiet_below (by kernel_rfl) (by kernel_rfl) ?_
            repeat (first | go_big_quiet_skip | (go_big_quiet_want; go_big_quiet_op; go_big_quiet_on))
            (go_big_quiet_want; go_big_quiet_op; apply Exists.intro; refine ⟨fun p => Calls.regrown_of (KL.out _ (sees_grow wr _ _)), ?_⟩; go_big_quiet_on)
            repeat (first | go_big_quiet_skip | (go_big_quiet_want; go_big_quiet_op; go_big_quiet_on))
            refine wpQuiet_nil ?_; intro w2 hw2'; have hw2 := regrown_sees hw2'; clear hw2'
            go_wp2
            go_roundw
            case rel => exact ⟨k + 1, by omega, by go_num, take_more Hm.out Hr.out (by rw [Hs.out, of_decide_eq_true HZ.out.symm]), hS.trans hw2⟩
            case measure => simp [intOf]; omega
        · obtain rfl : k = q := by omega
          have hall : xs = ws := by
            have := Hm.out
            rwa [List.take_of_length_le (by rw [← HQ.out]; exact Nat.le_refl _), List.take_of_length_le (by rw [← HM.out]; exact Nat.le_refl _)] at this
          have Hf := Lib.hid hall
          have HNO := Lib.hid hno
          clear hall hno
          go_wp2
          go_ret
          exact ⟨by rw [decide_eq_true Hf.out, HNO.out]; rfl, HS.out.trans hS⟩
    · have hne2 : (er != no) = true := by simpa [bne] using hno
      have HNO := Lib.hid hno
      clear hno
      go_wp2
      go_ret
      exact ⟨by rw [HNO.out, Bool.and_false]; rfl, HS.out⟩
  · have hf : xs ≠ ws := fun e => hlen (by
      have := congrArg List.length e
      rw [HQ.out, HM.out]; exact this)
    have Hf := Lib.hid hf
    have hne : ((q : Int) != (m : Int)) = true := by rw [bne_iff_ne]; omega
    clear hf hlen
    go_wp2
    go_ret
    exact ⟨by rw [decide_eq_false Hf.out]; rfl, HS.out⟩
end Go.Proofs.YthcndmchlpohpaaGreatDoor
