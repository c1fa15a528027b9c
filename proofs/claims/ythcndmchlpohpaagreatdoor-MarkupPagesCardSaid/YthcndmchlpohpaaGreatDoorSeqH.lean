/- Regions that draw their order, taken operation by operation. No condition. -/
import Derived.Test.YthcndmchlpohpaaGreatDoorSeq
import Derived.Test.YthcndmchlpohpaaGreatDoorLines2
import Derived.OrdersHeld
import Derived.IntWalk
import Derived.BigQuiet
namespace Go.Proofs.YthcndmchlpohpaaGreatDoor
set_option linter.unusedVariables false
set_option linter.unusedSimpArgs false
open Go.RowKit

/-- What has been done. -/
def dn (n : Nat) (S : List Nat) : Array Bool := ((List.range n).map fun i => S.contains i).toArray
theorem dn_getD {n x : Nat} {S : List Nat} {d : Bool} (hx : x < n) : (dn n S).getD x d = S.contains x := by simp [dn, hx]
theorem dn_size (n : Nat) (S : List Nat) : (dn n S).size = n := by simp [dn]
theorem dn_set (n i : Nat) (S : List Nat) : (dn n S).setIfInBounds i true = dn n (i :: S) := by
  apply Array.ext
  · simp [dn]
  · intro j h1 h2
    have hj : j < n := by simpa [dn] using h2
    rw [Array.getElem_setIfInBounds (by simpa [dn] using hj)]
    simp only [dn, List.getElem_toArray, List.getElem_map, List.getElem_range, List.contains_cons]
    split
    · subst_vars; simp
    · rename_i h
      have : (j == i) = false := by rw [beq_eq_false_iff_ne]; exact fun e => h e.symm
      rw [this]; simp
theorem upTo_dn (n m : Nat) : upTo n m = dn n (List.range m) := by
  apply Array.ext
  · simp [upTo, dn]
  · intro j h1 h2
    simp [upTo, dn, List.contains_iff_mem]
/-- An operation that is ready, and apart from all that may come ahead of it. -/
def takeB (l : List Oper) (S : List Nat) (i : Nat) : Bool := match l[i]? with
  | none => false
  | some oi => !S.contains i && (oi.after.all fun e => !Region.binds .any e || (S.contains e.on && decide (e.on < l.length))) &&
    ((List.range l.length).all fun j => j == i || S.contains j || (match l[j]? with | none => true | some oj => (oj.after.any fun e => Region.binds .any e && e.on == i) || oi.apart l.toArray oj))
/-- The one operation that is ready. -/
def onlyB (l : List Oper) (S : List Nat) (i : Nat) : Bool := match l[i]? with
  | none => false
  | some oi => !S.contains i && (oi.after.all fun e => !Region.binds .any e || (S.contains e.on && decide (e.on < l.length))) &&
    ((List.range l.length).all fun j => j == i || S.contains j || (match l[j]? with | none => true | some oj => oj.after.any fun e => Region.binds .any e && !S.contains e.on && decide (e.on < l.length)))

section
variable {P : Program} {l : List Oper} {Q : Exit → Act → World → Prop} {a : Act} {w : World} {f i : Nat} {S : List Nat}
theorem wpFrom_dn {m : Nat} (h : wpAny P .any l.toArray Q (l.length - m) (dn l.length (List.range m)) a w) : wpFrom P l Q m a w := by
  unfold wpFrom; rw [upTo_dn]; exact h
theorem ready_dn {oi : Oper} (hi : l[i]? = some oi) (h0 : S.contains i = false) (h1 : (oi.after.all fun e => !Region.binds .any e || (S.contains e.on && decide (e.on < l.length))) = true) : i ∈ Region.ready .any l.toArray (dn l.length S) := by
  have hil := (List.getElem?_eq_some_iff.1 hi).1
  rw [mem_ready]
  refine ⟨by rw [dn_getD hil]; exact h0, oi, by simpa using hi, fun e he hb => ?_⟩
  rw [Array.all_eq_true'] at h1
  have := h1 e he
  rw [hb] at this
  simp only [Bool.not_true, Bool.false_or, Bool.and_eq_true, decide_eq_true_eq] at this
  rw [dn_getD this.2]; exact this.1
theorem wpS_take {v : Value} {oi : Oper} (hB : Hid (rgB l = true)) (hi : l[i]? = some oi) (hb : takeB l S i = true) (hQ : ∀ c a t v w, Q (.panic c) (Act.put a (some t) v) w → Q (.panic c) a w)
    (hw : Region.wanted oi (yielded l.toArray a.tmps) = true) (hv : ∀ W, (execOp a.eval oi).run P W = .ok (.value v) W) (h : wpAny P .any l.toArray Q f (dn l.length (i :: S)) (a.put oi.dst v) w) : wpAny P .any l.toArray Q (f + 1) (dn l.length S) a w := by
  obtain ⟨hsel, _, _⟩ := rgB_spec hB.out
  unfold takeB at hb
  rw [hi] at hb
  simp only [Bool.and_eq_true, Bool.not_eq_true'] at hb
  obtain ⟨⟨h0, h1⟩, h2⟩ := hb
  rw [List.all_eq_true] at h2
  refine wpAny_first (i := i) (oi := oi) (v := v) (by simpa using hi) (Region.noSelect_spec hsel) (fun c a w hh => by cases hd : oi.dst with | none => rw [hd] at hh; exact hh | some t => rw [hd] at hh; exact hQ c a t _ w hh) _ _ _ _ ?_ (ready_dn hi h0 h1) (.inl ⟨hw, hv⟩) (by rw [dn_set]; exact h)
  intro j oj hj hji hun hno
  have hj : l[j]? = some oj := by simpa using hj
  have hjl := (List.getElem?_eq_some_iff.1 hj).1
  rw [dn_getD hjl] at hun
  have := h2 j (List.mem_range.2 hjl)
  rw [hj, hun] at this
  simp only [Bool.or_eq_true, beq_iff_eq, Bool.false_eq_true, or_false] at this
  rcases this with h | h | h
  · exact absurd h hji
  · obtain ⟨e, he, hb⟩ := Array.any_eq_true'.1 h
    simp only [Bool.and_eq_true, beq_iff_eq] at hb
    exact absurd hb.2 (hno e he hb.1)
  · exact h
theorem wpS_only (hb : onlyB l S i = true) (h : wpOp P l.toArray Q i (wpAny P .any l.toArray Q f (dn l.length (i :: S))) a w) : wpAny P .any l.toArray Q (f + 1) (dn l.length S) a w := by
  cases hi : l[i]? with
  | none => unfold onlyB at hb; rw [hi] at hb; cases hb
  | some oi =>
    unfold onlyB at hb
    rw [hi] at hb
    simp only [Bool.and_eq_true, Bool.not_eq_true'] at hb
    obtain ⟨⟨h0, h1⟩, h2⟩ := hb
    rw [List.all_eq_true] at h2
    refine ⟨fun hr => ?_, fun j hj => ?_⟩
    · have := ready_dn hi h0 h1; rw [hr] at this; cases this
    · obtain ⟨hun, oj, hoj, hall⟩ := mem_ready.1 hj
      have hoj : l[j]? = some oj := by simpa using hoj
      have hjl := (List.getElem?_eq_some_iff.1 hoj).1
      have hji : j = i := by
        have := h2 j (List.mem_range.2 hjl)
        rw [hoj] at this
        rw [dn_getD hjl] at hun
        rw [hun] at this
        simp only [Bool.or_eq_true, beq_iff_eq, Bool.false_eq_true, or_false] at this
        rcases this with h | h
        · exact h
        · exfalso
          obtain ⟨e, he, hb⟩ := Array.any_eq_true'.1 h
          simp only [Bool.and_eq_true, Bool.not_eq_true', decide_eq_true_eq] at hb
          have := hall e he hb.1.1
          rw [dn_getD hb.2, hb.1.2] at this
          cases this
      subst hji
      rw [dn_set]
      exact h
theorem wpFrom_S (f : Nat) {m : Nat} (hf : l.length - m = f) (h : wpAny P .any l.toArray Q f (dn l.length (List.range m)) a w) : wpFrom P l Q m a w := wpFrom_dn (by rw [hf]; exact h)
theorem wpS_two {j : Nat} (hr : Region.ready .any l.toArray (dn l.length S) = [i, j]) (h1 : wpOp P l.toArray Q i (wpAny P .any l.toArray Q f (dn l.length (i :: S))) a w) (h2 : wpOp P l.toArray Q j (wpAny P .any l.toArray Q f (dn l.length (j :: S))) a w) : wpAny P .any l.toArray Q (f + 1) (dn l.length S) a w := by
  refine ⟨fun h => ?_, fun x hx => ?_⟩
  · rw [h] at hr; cases hr
  · rw [hr] at hx
    rw [dn_set]
    rcases List.mem_cons.1 hx with rfl | hx
    · exact h1
    · obtain rfl : x = j := by simpa using hx
      exact h2
theorem wpS_end (hb : (List.range l.length).all (fun j => S.contains j) = true) (h : Q .normal a w) : wpAny P .any l.toArray Q 0 (dn l.length S) a w := by
  refine ⟨?_, h⟩
  rw [List.eq_nil_iff_forall_not_mem]
  intro j hj
  obtain ⟨h0, o, ho, _⟩ := mem_ready.1 hj
  have hjl : j < l.length := by have := (Array.getElem?_eq_some_iff.1 ho).1; simpa using this
  rw [dn_getD hjl] at h0
  rw [List.all_eq_true] at hb
  rw [hb j (List.mem_range.2 hjl)] at h0
  cases h0
theorem wpOp_val {K : Act → World → Prop} {o : Oper} {v : Value} {w' : World} (ho : l[i]? = some o) (hw : Region.wanted o (yielded l.toArray a.tmps) = true) (hr : (execOp a.eval o).run P w = .ok (.value v) w') (h : K (a.put o.dst v) w') : wpOp P l.toArray Q i K a w := by
  unfold wpOp
  rw [show l.toArray[i]? = some o by simpa using ho]
  simp only []
  rw [if_pos hw]
  refine .inl ?_
  unfold Oper.wp
  rw [hr]
  exact h
theorem wpOp_skip {K : Act → World → Prop} {o : Oper} {w' : World} (ho : l[i]? = some o) (hw : Region.wanted o (yielded l.toArray a.tmps) = true) (hr : (execOp a.eval o).run P w = .ok .skip w') (h : K (a.put o.dst undef) w') : wpOp P l.toArray Q i K a w := by
  unfold wpOp
  rw [show l.toArray[i]? = some o by simpa using ho]
  simp only []
  rw [if_pos hw]
  refine .inl ?_
  unfold Oper.wp
  rw [hr]
  exact h
theorem dn_congr {n : Nat} {S S' : List Nat} (h : ∀ x, S.contains x = S'.contains x) : dn n S = dn n S' := by unfold dn; simp only [h]
theorem put_comm (a : Act) {s t : Tmp} (x y : Value) (h : s ≠ t) : (a.put (some s) x).put (some t) y = (a.put (some t) y).put (some s) x := by
  unfold Act.put
  simp only
  rw [Array.setIfInBounds_comm _ _ h]
theorem wanted_none {o : Oper} (h : o.guard = none) (a : Act) : Region.wanted o (yielded l.toArray a.tmps) = true := by unfold Region.wanted; rw [h]
theorem wpS_one {oi : Oper} {u : Value} {w' : World} (hi : l[i]? = some oi) (hg : oi.guard = none) (hr : Region.ready .any l.toArray (dn l.length S) = [i]) (ri : (execOp a.eval oi).run P w = .ok (.value u) w')
    (h : wpAny P .any l.toArray Q f (dn l.length (i :: S)) (a.put oi.dst u) w') : wpAny P .any l.toArray Q (f + 1) (dn l.length S) a w := by
  refine ⟨(fun h => by rw [h] at hr; cases hr), fun x hx => ?_⟩
  rw [hr] at hx
  obtain rfl : x = i := by simpa using hx
  rw [dn_set]
  exact wpOp_val hi (wanted_none hg a) ri h
/-- Two loads, and what is made of the second one: in each order the same. -/
theorem wpS_lbl {j k : Nat} {oi oj ok : Oper} {si sj sk : Tmp} {u v b : Value} {w' : World} (hi : l[i]? = some oi) (hj : l[j]? = some oj) (hk : l[k]? = some ok) (hg : oi.guard = none ∧ oj.guard = none ∧ ok.guard = none) (hd : oi.dst = some si ∧ oj.dst = some sj ∧ ok.dst = some sk) (hne : si ≠ sj ∧ si ≠ sk)
    (hr0 : Region.ready .any l.toArray (dn l.length S) = [i, j]) (hr1 : Region.ready .any l.toArray (dn l.length (i :: S)) = [j]) (hr2 : Region.ready .any l.toArray (dn l.length (j :: S)) = [i, k]) (hr3 : Region.ready .any l.toArray (dn l.length (j :: i :: S)) = [k])
    (hr5 : Region.ready .any l.toArray (dn l.length (k :: j :: S)) = [i])
    (ri1 : (execOp a.eval oi).run P w = .ok (.value u) w) (rj1 : (execOp a.eval oj).run P w = .ok (.value v) w) (rj2 : (execOp (a.put (some si) u).eval oj).run P w = .ok (.value v) w) (ri2 : (execOp (a.put (some sj) v).eval oi).run P w = .ok (.value u) w)
    (rk1 : (execOp ((a.put (some si) u).put (some sj) v).eval ok).run P w = .ok (.value b) w') (rk2 : (execOp (a.put (some sj) v).eval ok).run P w = .ok (.value b) w') (ri3 : (execOp ((a.put (some sj) v).put (some sk) b).eval oi).run P w' = .ok (.value u) w')
    (h : wpAny P .any l.toArray Q f (dn l.length (k :: j :: i :: S)) (((a.put (some si) u).put (some sj) v).put (some sk) b) w') : wpAny P .any l.toArray Q (f + 3) (dn l.length S) a w := by
  obtain ⟨g1, g2, g3⟩ := hg
  obtain ⟨d1, d2, d3⟩ := hd
  have e1 : dn l.length (k :: i :: j :: S) = dn l.length (k :: j :: i :: S) := dn_congr fun x => by simp only [List.contains_cons]; cases (x == k) <;> cases (x == i) <;> cases (x == j) <;> rfl
  have e2 : dn l.length (i :: k :: j :: S) = dn l.length (k :: j :: i :: S) := dn_congr fun x => by simp only [List.contains_cons]; cases (x == k) <;> cases (x == i) <;> cases (x == j) <;> rfl
  have e3 : dn l.length (i :: j :: S) = dn l.length (j :: i :: S) := dn_congr fun x => by simp only [List.contains_cons]; cases (x == i) <;> cases (x == j) <;> rfl
  refine wpS_two hr0 (wpOp_val hi (wanted_none g1 a) ri1 ?_) (wpOp_val hj (wanted_none g2 a) rj1 ?_)
  · rw [d1]
    refine wpS_one hj g2 hr1 rj2 ?_
    rw [d2]
    refine wpS_one hk g3 hr3 rk1 ?_
    rw [d3]; exact h
  · rw [d2]
    refine wpS_two hr2 (wpOp_val hi (wanted_none g1 _) ri2 ?_) (wpOp_val hk (wanted_none g3 _) rk2 ?_)
    · rw [d1, e3]
      refine wpS_one hk g3 hr3 (by rw [put_comm _ _ _ (Ne.symm hne.1)]; exact rk1) ?_
      rw [d3, put_comm _ _ _ (Ne.symm hne.1)]; exact h
    · rw [d3]
      refine wpS_one hi g1 hr5 ri3 ?_
      rw [d1, e2, put_comm _ _ _ (Ne.symm hne.2), put_comm a _ _ (Ne.symm hne.1)]; exact h
end
section
variable {P : Program} {l : List Oper} {Q : Exit → Act → World → Prop} {a : Act} {w w0 : World} {f i : Nat} {D : List Nat} {F : Nat → Prop}
/-- What is left of a region when the operations of D are done; all that stood in w0 is as it was, but for the blocks of F. -/
def wpH (P : Program) (l : List Oper) (Q : Exit → Act → World → Prop) (F : Nat → Prop) (w0 : World) (f : Nat) (D : List Nat) (a : Act) (w : World) : Prop := wpAnyH P .any l.toArray Q (Keeps F w0) f (dn l.length D) a w
theorem wpH_go {id : Nat} (F : Nat → Prop) (f : Nat) (hm : P.follows .mixedOrders = true) (hB : rgB l = true) (hf : l.length = f) (h : Hid (rgB l = true) → ∀ W, Sees w W → wpH P l Q F W f [] a W) : (Code.region id l.toArray true).wp P Q a w := by
  refine wp_region_any hm (wpAny_of_held (S := Keeps F w.drew) _ _ _ _ ?_)
  have := h (Lib.hid hB) w.drew (Sees.refl w).drew
  unfold wpH at this
  have e : dn l.length [] = Array.replicate l.toArray.size false := by
    apply Array.ext
    · simp [dn]
    · intro j h1 h2; simp [dn]
  rw [e, ← hf] at this
  simpa using this
theorem wpH_take {v : Value} {oi : Oper} (hB : Hid (rgB l = true)) (hi : l[i]? = some oi) (hb : takeB l D i = true) (hQ : ∀ c a t v w, Q (.panic c) (Act.put a (some t) v) w → Q (.panic c) a w)
    (hg : oi.guard = none) (hS : Keeps F w0 w) (hv : ∀ W, Keeps F w0 W → (execOp a.eval oi).run P W = .ok (.value v) W) (h : wpH P l Q F w0 f (i :: D) (a.put oi.dst v) w) : wpH P l Q F w0 (f + 1) D a w := by
  obtain ⟨hsel, _, _⟩ := rgB_spec hB.out
  unfold takeB at hb
  rw [hi] at hb
  simp only [Bool.and_eq_true, Bool.not_eq_true'] at hb
  obtain ⟨⟨h0, h1⟩, h2⟩ := hb
  rw [List.all_eq_true] at h2
  refine wpAnyH_first (i := i) (oi := oi) (v := v) (by simpa using hi) (Region.noSelect_spec hsel) (fun c a w hh => by cases hd : oi.dst with | none => rw [hd] at hh; exact hh | some t => rw [hd] at hh; exact hQ c a t _ w hh) _ _ _ _ ?_ (ready_dn hi h0 h1) (.inl ⟨wanted_none hg a, hv⟩) hS (by rw [dn_set]; exact h)
  intro j oj hj hji hun hno
  have hj : l[j]? = some oj := by simpa using hj
  have hjl := (List.getElem?_eq_some_iff.1 hj).1
  rw [dn_getD hjl] at hun
  have := h2 j (List.mem_range.2 hjl)
  rw [hj, hun] at this
  simp only [Bool.or_eq_true, beq_iff_eq, Bool.false_eq_true, or_false] at this
  rcases this with h | h | h
  · exact absurd h hji
  · obtain ⟨e, he, hb⟩ := Array.any_eq_true'.1 h
    simp only [Bool.and_eq_true, beq_iff_eq] at hb
    exact absurd hb.2 (hno e he hb.1)
  · exact h
theorem wpH_one (hr : Region.ready .any l.toArray (dn l.length D) = [i]) (h : wpOp P l.toArray Q i (fun a' w' => Keeps F w0 w' ∧ wpH P l Q F w0 f (i :: D) a' w') a w) : wpH P l Q F w0 (f + 1) D a w := by
  refine ⟨(fun h => by rw [h] at hr; cases hr), fun x hx => ?_⟩
  rw [hr] at hx
  obtain rfl : x = i := by simpa using hx
  rw [dn_set]
  exact h
theorem wpH_two {j : Nat} (hr : Region.ready .any l.toArray (dn l.length D) = [i, j]) (h1 : wpOp P l.toArray Q i (fun a' w' => Keeps F w0 w' ∧ wpH P l Q F w0 f (i :: D) a' w') a w) (h2 : wpOp P l.toArray Q j (fun a' w' => Keeps F w0 w' ∧ wpH P l Q F w0 f (j :: D) a' w') a w) : wpH P l Q F w0 (f + 1) D a w := by
  refine ⟨(fun h => by rw [h] at hr; cases hr), fun x hx => ?_⟩
  rw [hr] at hx
  rw [dn_set]
  rcases List.mem_cons.1 hx with rfl | hx
  · exact h1
  · obtain rfl : x = j := by simpa using hx
    exact h2
theorem wpH_end (hb : (List.range l.length).all (fun j => D.contains j) = true) (h : Q .normal a w) : wpH P l Q F w0 0 D a w := by
  have := wpS_end (P := P) (l := l) (Q := Q) (a := a) (w := w) hb h
  exact this
theorem wpOp_enter {K : Act → World → Prop} {o : Oper} {fn : FuncId} {args : Array Value} (ho : l[i]? = some o) (hg : o.guard = none) (hr : (execOp a.eval o).run P w = .ok (.enter fn args) w) (h : Calls P fn args w (fun e w' => ∃ v, e = .returned v ∧ K (a.put o.dst v) w')) : wpOp P l.toArray Q i K a w := by
  unfold wpOp
  rw [show l.toArray[i]? = some o by simpa using ho]
  simp only []
  rw [if_pos (wanted_none hg a)]
  refine .inl ?_
  unfold Oper.wp
  rw [hr]
  simp only [Oper.upon]
  exact Calls.mono h (fun e w'' ⟨v, he, hk⟩ => by subst he; exact hk)
end
theorem wpH_three {P : Program} {l : List Oper} {Q : Exit → Act → World → Prop} {F : Nat → Prop} {w0 w : World} {a : Act} {f i j k : Nat} {D : List Nat} (hr : Region.ready .any l.toArray (dn l.length D) = [i, j, k]) (h1 : wpOp P l.toArray Q i (fun a' w' => Keeps F w0 w' ∧ wpH P l Q F w0 f (i :: D) a' w') a w) (h2 : wpOp P l.toArray Q j (fun a' w' => Keeps F w0 w' ∧ wpH P l Q F w0 f (j :: D) a' w') a w) (h3 : wpOp P l.toArray Q k (fun a' w' => Keeps F w0 w' ∧ wpH P l Q F w0 f (k :: D) a' w') a w) : wpH P l Q F w0 (f + 1) D a w := by
  refine ⟨(fun h => by rw [h] at hr; cases hr), fun x hx => ?_⟩
  rw [hr] at hx
  rw [dn_set]
  rcases List.mem_cons.1 hx with rfl | hx
  · exact h1
  · rcases List.mem_cons.1 hx with rfl | hx
    · exact h2
    · obtain rfl : x = k := by simpa using hx
      exact h3
theorem Keeps.setRow' {F : Nat → Prop} {w W : World} (h : Keeps F w W) {p : Nat} (hp : w.heap.size ≤ p) (cs : Array Value) : Keeps F w (W.setRow p cs) :=
  ⟨h.os, h.tape, h.output, by simpa [World.setRow] using h.size, fun b hb hF => by rw [setRow_other _ _ _ _ (by omega)]; exact h.block b hb hF⟩
section
variable {P : Program} {l : List Oper} {Q : Exit → Act → World → Prop} {F : Nat → Prop} {w0 w : World} {a : Act} {f i : Nat} {D : List Nat}
theorem wpH_takeG {v : Value} {oi : Oper} (hB : Hid (rgB l = true)) (hi : l[i]? = some oi) (hb : takeB l D i = true) (hQ : ∀ c a t v w, Q (.panic c) (Act.put a (some t) v) w → Q (.panic c) a w)
    (hg : Region.wanted oi (yielded l.toArray a.tmps) = true) (hS : Keeps F w0 w) (hv : ∀ W, Keeps F w0 W → (execOp a.eval oi).run P W = .ok (.value v) W) (h : wpH P l Q F w0 f (i :: D) (a.put oi.dst v) w) : wpH P l Q F w0 (f + 1) D a w := by
  obtain ⟨hsel, _, _⟩ := rgB_spec hB.out
  unfold takeB at hb
  rw [hi] at hb
  simp only [Bool.and_eq_true, Bool.not_eq_true'] at hb
  obtain ⟨⟨h0, h1⟩, h2⟩ := hb
  rw [List.all_eq_true] at h2
  refine wpAnyH_first (i := i) (oi := oi) (v := v) (by simpa using hi) (Region.noSelect_spec hsel) (fun c a w hh => by cases hd : oi.dst with | none => rw [hd] at hh; exact hh | some t => rw [hd] at hh; exact hQ c a t _ w hh) _ _ _ _ ?_ (ready_dn hi h0 h1) (.inl ⟨hg, hv⟩) hS (by rw [dn_set]; exact h)
  intro j oj hj hji hun hno
  have hj : l[j]? = some oj := by simpa using hj
  have hjl := (List.getElem?_eq_some_iff.1 hj).1
  rw [dn_getD hjl] at hun
  have := h2 j (List.mem_range.2 hjl)
  rw [hj, hun] at this
  simp only [Bool.or_eq_true, beq_iff_eq, Bool.false_eq_true, or_false] at this
  rcases this with h | h | h
  · exact absurd h hji
  · obtain ⟨e, he, hb⟩ := Array.any_eq_true'.1 h
    simp only [Bool.and_eq_true, beq_iff_eq] at hb
    exact absurd hb.2 (hno e he hb.1)
  · exact h
theorem wpOp_enterG {K : Act → World → Prop} {o : Oper} {fn : FuncId} {args : Array Value} (ho : l[i]? = some o) (hg : Region.wanted o (yielded l.toArray a.tmps) = true) (hr : (execOp a.eval o).run P w = .ok (.enter fn args) w) (h : Calls P fn args w (fun e w' => ∃ v, e = .returned v ∧ K (a.put o.dst v) w')) : wpOp P l.toArray Q i K a w := by
  unfold wpOp
  rw [show l.toArray[i]? = some o by simpa using ho]
  simp only []
  rw [if_pos hg]
  refine .inl ?_
  unfold Oper.wp
  rw [hr]
  simp only [Oper.upon]
  exact Calls.mono h (fun e w'' ⟨v, he, hk⟩ => by subst he; exact hk)
end
end Go.Proofs.YthcndmchlpohpaaGreatDoor
