/- Regions that draw their order, walked part by part: what can only come in one order, as the text has it; the rest by facts per operation. No condition. -/
import Derived.Test.YthcndmchlpohpaaGreatDoorRg
namespace Go.Proofs.YthcndmchlpohpaaGreatDoor
set_option linter.unusedVariables false
set_option linter.unusedSimpArgs false
open Go.RowKit

def upTo (n m : Nat) : Array Bool := ((List.range n).map fun i => decide (i < m)).toArray
theorem upTo_size (n m : Nat) : (upTo n m).size = n := by simp [upTo]
theorem upTo_getD {n m x : Nat} {d : Bool} (hx : x < n) : (upTo n m).getD x d = decide (x < m) := by
  simp [upTo, hx]
theorem upTo_zero (n : Nat) : upTo n 0 = Array.replicate n false := by
  apply Array.ext
  · simp [upTo]
  · intro i h1 h2; simp [upTo]
theorem upTo_set (n m : Nat) : (upTo n m).setIfInBounds m true = upTo n (m + 1) := by
  apply Array.ext
  · simp [upTo]
  · intro i h1 h2
    have hi : i < n := by simpa [upTo] using h2
    rw [Array.getElem_setIfInBounds (by simpa [upTo] using hi)]
    simp only [upTo, List.getElem_toArray, List.getElem_map, List.getElem_range]
    split
    · subst_vars; simp
    · rename_i h; rw [Bool.eq_iff_iff]; simp; omega
theorem ext_upTo {n m : Nat} {listed : Array Bool} (hs : listed.size = n) (h : ∀ x, x < n → listed.getD x false = decide (x < m)) : listed = upTo n m := by
  apply Array.ext
  · rw [hs, upTo_size]
  · intro i h1 h2
    have := h i (by omega)
    rw [← upTo_getD (n := n) (d := false) (by omega)] at this
    simp only [Array.getD_eq_getD_getElem?, Array.getElem?_eq_getElem h1, Array.getElem?_eq_getElem h2, Option.getD_some] at this
    exact this

/-- The rest of a region that draws its order, when the first m operations are done. -/
def wpFrom (P : Program) (l : List Oper) (Q : Exit → Act → World → Prop) (m : Nat) (a : Act) (w : World) : Prop := wpAny P .any l.toArray Q (l.length - m) (upTo l.length m) a w

/-- All that stand behind it wait for one from k on. -/
def forcedB (l : List Oper) (k : Nat) : Bool := (l.drop (k + 1)).all fun o => o.after.any fun e => Region.binds .any e && decide (k ≤ e.on)
def moveB (o : Oper) : Bool := match o.op with | .move _ => true | .assign _ => true | _ => false
def freeB (l : List Oper) (k : Nat) : Bool := match l[k]? with
  | some ok => moveB ok && (l.drop (k + 1)).all fun o => (o.after.any fun e => Region.binds .any e && e.on == k) || ok.apart l.toArray o
  | none => false
def seqMB (l : List Oper) (m m' : Nat) : Bool := decide (m ≤ m') && decide (m' ≤ l.length) && (List.range' m (m' - m)).all fun k => forcedB l k || freeB l k
/-- All operations of the part flow to t (its last one, or the one behind it), and what is behind t waits for it. -/
def segT (l : List Oper) (m m' t : Nat) : Bool := decide (m < m') && decide (m' ≤ l.length) && decide (t ≤ m' ∧ m' ≤ t + 1) &&
  ((List.range' m (m' - m)).all fun i => i == t || (List.range' (i + 1) (t - i)).any fun j => direct l i j) && forcedB l t
def segB (l : List Oper) (m m' : Nat) : Bool := segT l m m' (m' - 1) || segT l m m' m'

section
variable {P : Program} {l : List Oper} {Q : Exit → Act → World → Prop} {a : Act} {w : World}

theorem wpFrom_start {id : Nat} (hm : P.follows .mixedOrders = true) (h : wpFrom P l Q 0 a w.drew) : (Code.region id l.toArray true).wp P Q a w := by
  refine wp_region_any hm ?_
  unfold wpFrom at h
  rw [upTo_zero] at h
  simpa using h
theorem wpFrom_end {m : Nat} (hm : m = l.length) (h : Q .normal a w) : wpFrom P l Q m a w := by
  subst hm
  unfold wpFrom
  rw [Nat.sub_self]
  refine ⟨?_, h⟩
  rw [List.eq_nil_iff_forall_not_mem]
  intro i hi
  obtain ⟨h0, o, ho, _⟩ := mem_ready.1 hi
  have hil : i < l.length := by have := (Array.getElem?_eq_some_iff.1 ho).1; simpa using this
  rw [upTo_getD hil] at h0
  simp [hil] at h0

theorem ready_upTo (hB : rgB l = true) {k : Nat} (hk : k < l.length) : k ∈ Region.ready .any l.toArray (upTo l.length k) := by
  obtain ⟨_, _, hl⟩ := rgB_spec hB
  rw [mem_ready]
  refine ⟨by rw [upTo_getD hk]; simp, l[k], by simp [hk], fun e he hb => ?_⟩
  have hlt := (hl k l[k] (List.getElem?_eq_getElem hk)).1 e he hb
  rw [upTo_getD (by omega)]
  simpa using hlt
theorem forced_upTo {k : Nat} (hf : forcedB l k = true) : ∀ i ∈ Region.ready .any l.toArray (upTo l.length k), i = k := by
  intro i hi
  obtain ⟨h0, o, ho, hall⟩ := mem_ready.1 hi
  have ho : l[i]? = some o := by simpa using ho
  have hil : i < l.length := (List.getElem?_eq_some_iff.1 ho).1
  rw [upTo_getD hil] at h0
  have hki : k ≤ i := by simpa using h0
  by_cases hik : i = k
  · exact hik
  exfalso
  unfold forcedB at hf
  rw [List.all_eq_true] at hf
  have hmem : o ∈ l.drop (k + 1) := List.mem_iff_getElem?.2 ⟨i - (k + 1), by rw [List.getElem?_drop, show k + 1 + (i - (k + 1)) = i by omega]; exact ho⟩
  obtain ⟨e, he, hb⟩ := Array.any_eq_true'.1 (hf o hmem)
  rw [Bool.and_eq_true, decide_eq_true_eq] at hb
  have h1 := hall e he hb.1
  rcases Nat.lt_or_ge e.on l.length with h2 | h2
  · rw [upTo_getD h2] at h1; simp at h1; omega
  · have hn : (upTo l.length k)[e.on]? = none := Array.getElem?_eq_none (by rw [upTo_size]; exact h2)
    rw [Array.getD_eq_getD_getElem?, hn] at h1; cases h1

theorem wpFrom_one (hB : rgB l = true) {k : Nat} {o : Oper} (ho : l[k]? = some o) (hf : forcedB l k = true) (h : wpOp P l.toArray Q k (wpFrom P l Q (k + 1)) a w) : wpFrom P l Q k a w := by
  have hk : k < l.length := (List.getElem?_eq_some_iff.1 ho).1
  unfold wpFrom
  rw [show l.length - k = (l.length - (k + 1)) + 1 by omega]
  refine ⟨fun h0 => ?_, fun i hi => ?_⟩
  · have := ready_upTo hB hk; rw [h0] at this; cases this
  · obtain rfl := forced_upTo hf i hi
    rw [upTo_set]
    exact h
theorem yields_move {ops : Array Oper} {o : Oper} (h : moveB o = true) (a : Act) : ∃ v, Yields P ops o v a ∧ (Region.wanted o (yielded ops a.tmps) = true → ∀ w, (execOp a.eval o).run P w = .ok (.value v) w) ∧ (Region.wanted o (yielded ops a.tmps) = false → v = undef) := by
  obtain ⟨dst, op, type, pos, after, guard⟩ := o
  cases hw : Region.wanted (⟨dst, op, type, pos, after, guard⟩ : Oper) (yielded ops a.tmps) with
  | false => exact ⟨undef, .inr ⟨hw, rfl⟩, ⟨(fun h => Bool.noConfusion h), fun _ => rfl⟩⟩
  | true =>
    cases op <;> first | (cases h; done) | skip
    all_goals exact ⟨a.eval _, .inl ⟨hw, fun _ => rfl⟩, ⟨fun _ _ => rfl, (fun h => Bool.noConfusion h)⟩⟩
theorem wpFrom_free (hB : rgB l = true) (hQ : ∀ c a t v w, Q (.panic c) (Act.put a (some t) v) w → Q (.panic c) a w) {k : Nat} {o : Oper} (ho : l[k]? = some o) (hf : freeB l k = true)
    (h : wpOp P l.toArray Q k (wpFrom P l Q (k + 1)) a w) : wpFrom P l Q k a w := by
  obtain ⟨hsel, _, _⟩ := rgB_spec hB
  have hk : k < l.length := (List.getElem?_eq_some_iff.1 ho).1
  unfold freeB at hf
  rw [ho] at hf
  simp only [Bool.and_eq_true] at hf
  obtain ⟨hmv, hap⟩ := hf
  rw [List.all_eq_true] at hap
  obtain ⟨v, hy, hv1, hv2⟩ := yields_move (P := P) (ops := l.toArray) hmv a
  unfold wpFrom
  rw [show l.length - k = (l.length - (k + 1)) + 1 by omega]
  refine wpAny_first (i := k) (oi := o) (v := v) (by simpa using ho) (Region.noSelect_spec hsel) (fun c a w hh => by cases hd : o.dst with | none => rw [hd] at hh; exact hh | some t => rw [hd] at hh; exact hQ c a t _ w hh) _ _ _ _ ?_ (ready_upTo hB hk) hy ?_
  · intro j oj hj hjk hun hno
    have hj : l[j]? = some oj := by simpa using hj
    have hjl : j < l.length := (List.getElem?_eq_some_iff.1 hj).1
    rw [upTo_getD hjl] at hun
    have hkj : k ≤ j := by simpa using hun
    have hmem : oj ∈ l.drop (k + 1) := List.mem_iff_getElem?.2 ⟨j - (k + 1), by rw [List.getElem?_drop, show k + 1 + (j - (k + 1)) = j by omega]; exact hj⟩
    have := hap oj hmem
    rw [Bool.or_eq_true] at this
    rcases this with h1 | h1
    · obtain ⟨e, he, hb⟩ := Array.any_eq_true'.1 h1
      simp only [Bool.and_eq_true, beq_iff_eq] at hb
      exact absurd hb.2 (hno e he hb.1)
    · exact h1
  · rw [upTo_set]
    unfold wpOp at h
    rw [show l.toArray[k]? = some o by simpa using ho] at h
    simp only [] at h
    cases hw : Region.wanted o (yielded l.toArray a.tmps) with
    | true =>
      rw [hw, if_pos rfl] at h
      have hr := hv1 hw w
      rcases h with h | ⟨h, _⟩
      · unfold Oper.wp at h
        rw [hr] at h
        exact h
      · exfalso
        revert h
        unfold Oper.asks
        obtain ⟨dst, op, type, pos, after, guard⟩ := o
        cases op <;> first | (cases hmv; done) | skip
        all_goals
          intro h
          have h2 : noRoomEvent ∈ (#[] : Array Event) := h.1
          simp at h2
    | false =>
      rw [hw] at h
      rw [hv2 hw]
      exact h

/-- The way out of a part that is walked as the text has it. -/
def thenFrom (P : Program) (l : List Oper) (Q : Exit → Act → World → Prop) (m : Nat) : Exit → Act → World → Prop
  | .normal, a, w => wpFrom P l Q m a w
  | e, a, w => Q e a w
theorem wpOp_then {ops : Array Oper} {m k : Nat} {K : Act → World → Prop} (h : wpOp P ops (thenFrom P l Q m) k K a w) : wpOp P ops Q k K a w := by
  unfold wpOp at *
  split
  · rename_i ho; simp only [ho] at h; exact h
  · rename_i o ho
    simp only [ho] at h
    split
    · rename_i hw
      simp only [hw, if_true] at h
      refine h.imp (fun h => ?_) (fun h => h)
      unfold Oper.wp at *
      generalize (execOp a.eval o).run P w = r at *
      cases r with
      | ok n w' => cases n <;> simp only [Oper.upon] at h ⊢ <;> first | exact h | exact Calls.mono h (fun e w'' he => by cases e <;> exact he)
      | halt x w' => cases x <;> simp only [Oper.upon] at h ⊢ <;> exact h
    · rename_i hw; simp only [hw] at h; exact h
theorem thenFrom_normal {m : Nat} (h : wpFrom P l Q m a w) : thenFrom P l Q m .normal a w := h
/-- A part in one order: as the text has it. -/
theorem wpFrom_seq (m' : Nat) (hB : rgB l = true) (hQ : ∀ c a t v w, Q (.panic c) (Act.put a (some t) v) w → Q (.panic c) a w) : ∀ (g m : Nat) (a : Act) (w : World), m + g = m' → seqMB l m m' = true →
    wpList P l.toArray (thenFrom P l Q m') ((l.drop m).take g) a w → wpFrom P l Q m a w
  | 0, m, a, w, hg, _, h => by
    have : m = m' := by omega
    subst this
    rw [List.take_zero] at h
    exact h
  | g + 1, m, a, w, hg, hs, h => by
    unfold seqMB at hs
    rw [Bool.and_eq_true, Bool.and_eq_true, decide_eq_true_eq, decide_eq_true_eq, List.all_eq_true] at hs
    obtain ⟨⟨h1, h2⟩, h3⟩ := hs
    have hm : m < l.length := by omega
    have hd : (l.drop m).take (g + 1) = l[m] :: (l.drop (m + 1)).take g := by
      rw [List.drop_eq_getElem_cons hm, List.take_succ_cons]
    rw [hd] at h
    have ho : l[m]? = some l[m] := List.getElem?_eq_getElem hm
    have hs' : seqMB l (m + 1) m' = true := by
      unfold seqMB
      rw [Bool.and_eq_true, Bool.and_eq_true, decide_eq_true_eq, decide_eq_true_eq, List.all_eq_true]
      refine ⟨⟨by omega, h2⟩, fun x hx => h3 x ?_⟩
      rw [List.mem_range'_1] at hx ⊢
      omega
    have hw : wpOp P l.toArray (thenFrom P l Q m') m (wpFrom P l Q (m + 1)) a w := by
      unfold wpList at h
      unfold wpOp
      rw [show l.toArray[m]? = some l[m] by simp [hm]]
      simp only []
      split at h
      · rename_i hwt
        rw [if_pos hwt]
        exact h.imp (fun h => Oper.wp_mono (fun a' w' h' => wpFrom_seq m' hB hQ g (m + 1) a' w' (by omega) hs' h') h) id
      · rename_i hwt
        rw [if_neg hwt]
        exact wpFrom_seq m' hB hQ g (m + 1) _ w (by omega) hs' h
    have hc := h3 m (by rw [List.mem_range'_1]; omega)
    rw [Bool.or_eq_true] at hc
    rcases hc with hc | hc
    · exact wpFrom_one hB ho hc (wpOp_then hw)
    · exact wpFrom_free hB hQ ho hc (wpOp_then hw)
end

section
variable {P : Program} {l : List Oper} {Inv : World → Prop} {specs : List Spec} {Q : Act → World → Prop}
theorem rgSteps_part (a0 : Act) : ∀ (r : List Oper) (rs : List Spec) (k : Nat) (A : (Nat → Value) → Act), rgSteps P l Inv specs Q k A r rs → (∀ i, i < r.length → l[k + i]? = r[i]?) → (∀ i, i < rs.length → specs[k + i]? = rs[i]?) →
    (∀ vs, A vs = putsR l (valsOf specs vs) a0 (List.range k)) →
    r.length = rs.length ∧
    (∀ i o s, k ≤ i → i < k + r.length → l[i]? = some o → specs[i]? = some s → ∀ (vs : Nat → Value) (W : World), Inv W → (∀ (j : Nat) V', direct l j i = true → specs[j]? = some (.so V') → V' (vs j) W) → rgStep P l Inv specs i o s (putsR l (valsOf specs vs) a0 (List.range i)) W) ∧
    (∀ (vs : Nat → Value) (W : World), Inv W → (∀ (j : Nat) V', specs[j]? = some (.so V') → V' (vs j) W) → Q (putsR l (valsOf specs vs) a0 (List.range (k + r.length))) W)
  | [], [], k, A, h, hl, _, hA => by
    refine ⟨rfl, fun i o s hi hi2 => ?_, fun vs W hI hV => ?_⟩
    · simp at hi2; omega
    · have h' := h vs W hI hV
      rw [hA vs] at h'; simpa using h'
  | o :: r, s :: rs, k, A, h, hl, hsp, hA => by
    obtain ⟨h1, h2⟩ := h
    have e1 : l[k]? = some o := by simpa using hl 0 (by simp)
    have e2 : specs[k]? = some s := by simpa using hsp 0 (by simp)
    obtain ⟨g1, g2, g3⟩ := rgSteps_part a0 r rs (k + 1) _ h2 (fun i hi => by have := hl (i + 1) (by simp; omega); simpa [Nat.add_assoc, Nat.add_comm 1 i] using this) (fun i hi => by have := hsp (i + 1) (by simp; omega); simpa [Nat.add_assoc, Nat.add_comm 1 i] using this)
      (fun vs => by
        rw [hA vs, List.range_succ]
        unfold putsR
        rw [List.foldl_append]
        show _ = Act.put _ (dstAt l k) (valsOf specs vs k)
        unfold dstAt valsOf
        rw [e1, e2]; rfl)
    refine ⟨by simp [g1], fun i o' s' hi hi2 ho hs vs W hI hV => ?_, by rw [List.length_cons, show k + (r.length + 1) = k + 1 + r.length by omega]; exact g3⟩
    by_cases hik : i = k
    · subst hik
      rw [e1] at ho; rw [e2] at hs
      cases ho; cases hs
      rw [← hA vs]; exact h1 vs W hI hV
    · exact g2 i o' s' (by omega) (by simp at hi2; omega) ho hs vs W hI hV
  | [], _ :: _, _, _, h, _, _, _ => h.elim
  | _ :: _, [], _, _, h, _, _, _ => h.elim

def slotOf (a : Act) : Option Tmp → Value
  | some t => a.tmps.getD t undef
  | none => undef
theorem put_slot (a : Act) (d : Option Tmp) : a.put d (slotOf a d) = a := by
  cases d with
  | none => rfl
  | some t =>
    unfold Act.put slotOf
    have : a.tmps.setIfInBounds t (a.tmps.getD t undef) = a.tmps := by
      apply Array.ext
      · simp
      · intro i h1 h2
        rw [Array.getElem_setIfInBounds (by simpa using h1)]
        split
        · subst_vars; simp [h2]
        · rfl
    simp only [this]
theorem puts_slots {vs : Nat → Value} (a : Act) : ∀ (T : List Nat), (∀ x ∈ T, vs x = slotOf a (dstAt l x)) → putsR l vs a T = a
  | [], _ => rfl
  | y :: T, h => by
    show putsR l vs (a.put (dstAt l y) (vs y)) T = a
    rw [h y (List.mem_cons_self ..), put_slot]
    exact puts_slots a T (fun x hx => h x (List.mem_cons_of_mem _ hx))
/-- The first m operations are done: their slots are as they are. -/
def segFull (l : List Oper) (a : Act) (m : Nat) (specs : List Spec) : List Spec := (List.range m).map (fun j => .is (slotOf a (dstAt l j))) ++ specs ++ List.replicate (l.length - (m + specs.length)) (.is undef)
theorem segFull_pre {a : Act} {m : Nat} {j : Nat} (hj : j < m) : (segFull l a m specs)[j]? = some (.is (slotOf a (dstAt l j))) := by
  unfold segFull
  rw [List.append_assoc, List.getElem?_append_left (by simpa using hj)]
  simp [hj]
theorem segFull_mid {a : Act} {m : Nat} {j : Nat} (hj : j < specs.length) : (segFull l a m specs)[m + j]? = specs[j]? := by
  unfold segFull
  rw [List.append_assoc, List.getElem?_append_right (by simp), List.getElem?_append_left (by simp; omega)]
  simp
theorem segFull_length {a : Act} {m : Nat} (h : m + specs.length ≤ l.length) : (segFull l a m specs).length = l.length := by
  unfold segFull; simp; omega
theorem segFull_so {a : Act} {m : Nat} {j : Nat} {V : Value → World → Prop} (h : (segFull l a m specs)[j]? = some (.so V)) : ∃ i, j = m + i ∧ specs[i]? = some (.so V) := by
  rcases Nat.lt_or_ge j m with h1 | h1
  · rw [segFull_pre h1] at h; cases h
  · refine ⟨j - m, by omega, ?_⟩
    rcases Nat.lt_or_ge (j - m) specs.length with h2 | h2
    · rw [← segFull_mid (l := l) (a := a) (m := m) h2, show m + (j - m) = j by omega]; exact h
    · exfalso
      unfold segFull at h
      rw [List.getElem?_append_right (by simp; omega)] at h
      rw [List.getElem?_replicate] at h
      split at h <;> cases h
end

section
variable {P : Program} {l : List Oper} {Inv : World → Prop} {specs : List Spec} {Q : Exit → Act → World → Prop} {a0 : Act} {w : World}
theorem seg_closed (hB : rgB l = true) {m m' t : Nat} (hs : segT l m m' t = true) {D : Nat → Prop} (hcl : ∀ x, D x → ∀ p, direct l p x = true → D p) {x : Nat} (hm : ∀ x, x < m → D x) (hx : t ≤ x) (hxl : x < l.length) (hD : D x) : ∀ i, i < m' → D i := by
  unfold segT at hs
  rw [Bool.and_eq_true, Bool.and_eq_true, Bool.and_eq_true, Bool.and_eq_true, decide_eq_true_eq, decide_eq_true_eq, decide_eq_true_eq] at hs
  obtain ⟨⟨⟨⟨h1, h2⟩, h0⟩, h3⟩, h4⟩ := hs
  have hlast : ∀ (n x : Nat), x < n → t ≤ x → x < l.length → D x → D t := by
    intro n
    induction n with
    | zero => intro x h; omega
    | succ n ih =>
      intro x hxn hx hxl hD
      by_cases he : x = t
      · rw [← he]; exact hD
      · unfold forcedB at h4
        rw [List.all_eq_true] at h4
        have hmem : l[x] ∈ l.drop (t + 1) := List.mem_iff_getElem?.2 ⟨x - (t + 1), by rw [List.getElem?_drop, show t + 1 + (x - (t + 1)) = x by omega]; exact List.getElem?_eq_getElem hxl⟩
        obtain ⟨e, he, hb⟩ := Array.any_eq_true'.1 (h4 _ hmem)
        rw [Bool.and_eq_true, decide_eq_true_eq] at hb
        have hlt := ((rgB_spec hB).2.2 x l[x] (List.getElem?_eq_getElem hxl)).1 e he hb.1
        refine ih e.on (by omega) hb.2 (by omega) (hcl x hD e.on ?_)
        unfold direct
        rw [List.getElem?_eq_getElem hxl]
        exact Array.any_eq_true'.2 ⟨e, he, by simp [hb.1]⟩
  have hD' := hlast (x + 1) x (by omega) hx hxl hD
  have hall : ∀ (d i : Nat), t - i = d → i < m' → D i := by
    intro d
    induction d using Nat.strongRecOn with
    | _ d ih =>
      intro i hd hi
      by_cases h5 : i < m
      · exact hm i h5
      by_cases h6 : i = t
      · rw [h6]; exact hD'
      rw [List.all_eq_true] at h3
      have h7 := h3 i (by rw [List.mem_range'_1]; omega)
      rw [Bool.or_eq_true, beq_iff_eq] at h7
      rcases h7 with h7 | h7
      · exact absurd h7 h6
      obtain ⟨j, hj, hd2⟩ := List.any_eq_true.1 h7
      rw [List.mem_range'_1] at hj
      by_cases h8 : j < m'
      · exact hcl j (ih (t - j) (by omega) j rfl h8) i hd2
      · have : j = t := by omega
        subst this
        exact hcl _ hD' i hd2
  exact fun i hi => hall _ i rfl hi

theorem wpFrom_seg (m m' : Nat) (hB : rgB l = true) (specs : List Spec) (hs : segB l m m' = true) (hlen : specs.length = m' - m) (h0 : Inv w) (hI : ∀ W W', Inv W → Sees W W' → Inv W')
    (hV : ∀ (j : Nat) V', specs[j]? = some (.so V') → ∀ u W W', Inv W → V' u W → Sees W W' → V' u W')
    (h : rgSteps P l Inv (segFull l a0 m specs) (fun a W => wpFrom P l Q m' a W) m (fun _ => a0) ((l.drop m).take (m' - m)) specs) : wpFrom P l Q m a0 w := by
  obtain ⟨hsel, hd, hl⟩ := rgB_spec hB
  obtain ⟨t, hs⟩ : ∃ t, segT l m m' t = true := by
    unfold segB at hs
    rw [Bool.or_eq_true] at hs
    rcases hs with hs | hs
    · exact ⟨_, hs⟩
    · exact ⟨_, hs⟩
  have hs0 := hs
  unfold segT at hs0
  rw [Bool.and_eq_true, Bool.and_eq_true, Bool.and_eq_true, Bool.and_eq_true, decide_eq_true_eq, decide_eq_true_eq, decide_eq_true_eq] at hs0
  obtain ⟨⟨⟨⟨hmm, hml⟩, htm⟩, _⟩, _⟩ := hs0
  have hsl : (segFull l a0 m specs).length = l.length := segFull_length (by omega)
  obtain ⟨_, hstep, hend⟩ := rgSteps_part a0 _ specs m _ h (fun i hi => by rw [List.getElem?_take]; simp at hi; rw [if_pos (by omega), List.getElem?_drop]) (fun i hi => segFull_mid hi)
    (fun vs => by
      rw [puts_slots a0 (List.range m) (fun x hx => ?_)]
      unfold valsOf
      rw [segFull_pre (List.mem_range.1 hx)]; rfl)
  have hlen2 : m + ((l.drop m).take (m' - m)).length = m' := by simp; omega
  rw [hlen2] at hend hstep
  have hVf : ∀ (j : Nat) V', (segFull l a0 m specs)[j]? = some (.so V') → ∀ u W W', Inv W → V' u W → Sees W W' → V' u W' := by
    intro j V' hj
    obtain ⟨i, _, hi⟩ := segFull_so hj
    exact hV i V' hi
  have main : ∀ (fuel : Nat) (T : List Nat) (vs : Nat → Value) (listed : Array Bool) (a : Act) (W : World), fuel + T.length = l.length → RgSt (l := l) (Inv := Inv) (specs := segFull l a0 m specs) a0 T vs listed a W →
      (∀ x, x < m → x ∈ T) → (∀ x ∈ T, x < m') → wpAny P .any l.toArray Q fuel listed a W := by
    intro fuel
    induction fuel with
    | zero =>
      intro T vs listed a W hf st hlo hhi
      have hle := nodup_len m' T st.nd hhi
      have hTm : T.length = m' := by omega
      have hall : ∀ x, x < m' → x ∈ T := by
        intro x hx
        by_cases h : x ∈ T
        · exact h
        · have := nodup_len m' (x :: T) (List.nodup_cons.2 ⟨h, st.nd⟩) (fun y hy => by rcases List.mem_cons.1 hy with rfl | hy; exact hx; exact hhi y hy)
          simp at this; omega
      have hperm : T.Perm (List.range m') := by
        rw [List.perm_ext_iff_of_nodup st.nd List.nodup_range]
        exact fun x => ⟨fun h => List.mem_range.2 (hhi x h), fun h => hall x (List.mem_range.1 h)⟩
      have e1 : putsR l vs a0 T = putsR l vs a0 (List.range m') := by
        unfold putsR
        refine List.Perm.foldl_eq' hperm (fun x hx y hy z => ?_) a0
        by_cases hxy : x = y
        · subst hxy; rfl
        · exact Act.put_comm z (vs x) (vs y) fun t ht => hd x y (st.lt x hx) (st.lt y hy) hxy t ht
      have e2 : putsR l vs a0 (List.range m') = putsR l (valsOf (segFull l a0 m specs) vs) a0 (List.range m') := by
        refine puts_congr _ _ fun x hx => ?_
        have hx := List.mem_range.1 hx
        obtain ⟨s, hs⟩ : ∃ s, (segFull l a0 m specs)[x]? = some s := ⟨_, List.getElem?_eq_getElem (by omega)⟩
        exact (valsOf_eq hs (st.holds x (hall x hx) s hs)).symm
      have hlist : listed = upTo l.length m' := ext_upTo st.size fun x hx => by
        rw [Bool.eq_iff_iff, st.iff x hx, decide_eq_true_eq]
        exact ⟨hhi x, hall x⟩
      have := hend vs W st.inv (fun j V' hj => by
        obtain ⟨i, hi, hi2⟩ := segFull_so hj
        have := (List.getElem?_eq_some_iff.1 hi2).1
        exact st.holds j (hall j (by omega)) _ hj)
      rw [st.frame, e1, e2, hlist]
      unfold wpFrom at this
      rw [show l.length - m' = 0 by omega] at this
      exact this
    | succ fuel ih =>
      intro T vs listed a W hf st hlo hhi
      have hle := nodup_len m' T st.nd hhi
      by_cases hTm : T.length = m'
      · have hall : ∀ x, x < m' → x ∈ T := by
          intro x hx
          by_cases h : x ∈ T
          · exact h
          · have := nodup_len m' (x :: T) (List.nodup_cons.2 ⟨h, st.nd⟩) (fun y hy => by rcases List.mem_cons.1 hy with rfl | hy; exact hx; exact hhi y hy)
            simp at this; omega
        have hperm : T.Perm (List.range m') := by
          rw [List.perm_ext_iff_of_nodup st.nd List.nodup_range]
          exact fun x => ⟨fun h => List.mem_range.2 (hhi x h), fun h => hall x (List.mem_range.1 h)⟩
        have e1 : putsR l vs a0 T = putsR l vs a0 (List.range m') := by
          unfold putsR
          refine List.Perm.foldl_eq' hperm (fun x hx y hy z => ?_) a0
          by_cases hxy : x = y
          · subst hxy; rfl
          · exact Act.put_comm z (vs x) (vs y) fun t ht => hd x y (st.lt x hx) (st.lt y hy) hxy t ht
        have e2 : putsR l vs a0 (List.range m') = putsR l (valsOf (segFull l a0 m specs) vs) a0 (List.range m') := by
          refine puts_congr _ _ fun x hx => ?_
          have hx := List.mem_range.1 hx
          obtain ⟨s, hs⟩ : ∃ s, (segFull l a0 m specs)[x]? = some s := ⟨_, List.getElem?_eq_getElem (by omega)⟩
          exact (valsOf_eq hs (st.holds x (hall x hx) s hs)).symm
        have hlist : listed = upTo l.length m' := ext_upTo st.size fun x hx => by
          rw [Bool.eq_iff_iff, st.iff x hx, decide_eq_true_eq]
          exact ⟨hhi x, hall x⟩
        have := hend vs W st.inv (fun j V' hj => by
          obtain ⟨i, hi, hi2⟩ := segFull_so hj
          have := (List.getElem?_eq_some_iff.1 hi2).1
          exact st.holds j (hall j (by omega)) _ hj)
        rw [st.frame, e1, e2, hlist]
        unfold wpFrom at this
        rw [show l.length - m' = fuel + 1 by omega] at this
        exact this
      refine ⟨fun hr => ?_, fun i hi => ?_⟩
      · exfalso
        apply hTm
        have hall : ∀ x, x < m' → x ∈ T := by
          intro x
          induction x using Nat.strongRecOn with
          | _ x ihx =>
            intro hx
            by_cases hxT : x ∈ T
            · exact hxT
            exfalso
            have hm : x ∈ Region.ready .any l.toArray listed := by
              rw [mem_ready]
              refine ⟨?_, l[x]'(by omega), by simp [show x < l.length by omega], fun e he hb => ?_⟩
              · have h1 := st.iff x (by omega)
                have hsz : x < listed.size := by rw [st.size]; omega
                cases hg : listed.getD x true with
                | false => rfl
                | true =>
                  have : listed.getD x false = true := by
                    simp only [Array.getD_eq_getD_getElem?, Array.getElem?_eq_getElem hsz, Option.getD_some] at hg ⊢; exact hg
                  exact absurd (h1.1 this) hxT
              · have hlt := (hl x _ (List.getElem?_eq_getElem (by omega))).1 e he hb
                exact (st.iff e.on (by omega)).2 (ihx e.on hlt (by omega))
            rw [hr] at hm; cases hm
        have hperm : T.Perm (List.range m') := by
          rw [List.perm_ext_iff_of_nodup st.nd List.nodup_range]
          exact fun x => ⟨fun h => List.mem_range.2 (hhi x h), fun h => hall x (List.mem_range.1 h)⟩
        simpa using hperm.length_eq
      obtain ⟨h0, o, ho', hpre⟩ := mem_ready.1 hi
      have ho : l[i]? = some o := by simpa using ho'
      have hil : i < l.length := (List.getElem?_eq_some_iff.1 ho).1
      have hiT : i ∉ T := by
        intro h
        have := (st.iff i hil).2 h
        have hsz : i < listed.size := by rw [st.size]; exact hil
        simp only [Array.getD_eq_getD_getElem?, Array.getElem?_eq_getElem hsz, Option.getD_some] at h0 this
        rw [h0] at this; cases this
      have hp : ∀ p, direct l p i = true → p ∈ T := by
        intro p hpd
        unfold direct at hpd
        rw [ho] at hpd
        obtain ⟨e, he, hb⟩ := Array.any_eq_true'.1 hpd
        simp only [Bool.and_eq_true, beq_iff_eq] at hb
        have := hpre e he hb.1
        rw [hb.2] at this
        have hlt := (hl i o ho).1 e he hb.1
        exact (st.iff p (by omega)).1 this
      have him : m ≤ i := by
        rcases Nat.lt_or_ge i m with h | h
        · exact absurd (hlo i h) hiT
        · exact h
      have him' : i < m' := by
        rcases Nat.lt_or_ge i m' with h | h
        · exact h
        exfalso
        apply hTm
        have hall := seg_closed hB hs (D := fun x => x ∈ T ∨ x = i) (fun x hx p hpd => by
          rcases hx with hx | rfl
          · exact .inl (st.closed x hx p hpd)
          · exact .inl (hp p hpd)) (x := i) (fun x hx => .inl (hlo x hx)) (by omega) hil (.inr rfl)
        have hall : ∀ x, x < m' → x ∈ T := fun x hx => by
          rcases hall x hx with h1 | h1
          · exact h1
          · omega
        have hperm : T.Perm (List.range m') := by
          rw [List.perm_ext_iff_of_nodup st.nd List.nodup_range]
          exact fun x => ⟨fun h => List.mem_range.2 (hhi x h), fun h => hall x (List.mem_range.1 h)⟩
        simpa using hperm.length_eq
      obtain ⟨s, hs'⟩ : ∃ s, (segFull l a0 m specs)[i]? = some s := ⟨_, List.getElem?_eq_getElem (by omega)⟩
      have hag := frame_agrees hB ho st.lt hiT hp st.closed st.holds hsl (a0 := a0)
      have hns := Region.noSelect_spec hsel
      have he := exec_congr (fun cs b => hns i o cs b ho') hag
      have hw := wanted_congr hag
      have hst := hstep i o s him him' ho hs' vs W st.inv (fun j V' hj hjs => st.holds j (hp j hj) _ hjs)
      have next : ∀ v W', Inv W' → s.holds v W' → (∀ (j : Nat) s', j ≠ i → (segFull l a0 m specs)[j]? = some s' → s'.holds (vs j) W → s'.holds (vs j) W') → wpAny P .any l.toArray Q fuel (listed.setIfInBounds i true) (a.put o.dst v) W' := by
        intro v W' hI' hv' hk'
        refine ih (T ++ [i]) _ _ _ W' (by simp; omega) (rgSt_put hB st ho hs' hiT hp hI' hv' fun j hj s' hs' h => hk' j s' (fun e => hiT (e ▸ hj)) hs' h) (fun x hx => List.mem_append_left _ (hlo x hx)) (fun x hx => ?_)
        rcases List.mem_append.1 hx with h1 | h1
        · exact hhi x h1
        · simp at h1; omega
      have nextS : ∀ x W', s = .is x → Sees W W' → wpAny P .any l.toArray Q fuel (listed.setIfInBounds i true) (a.put o.dst x) W' := by
        intro x W' hx hS
        subst hx
        exact next x W' (hI _ _ st.inv hS) rfl fun j s' _ hs' h => holds_stays hs' (fun V' hV'' hu => hVf j V' hV'' _ _ _ st.inv hu hS) h
      have nextG : ∀ V v W', s = .so V → rgGood Inv (segFull l a0 m specs) i V W v W' → wpAny P .any l.toArray Q fuel (listed.setIfInBounds i true) (a.put o.dst v) W' := by
        intro V v W' hx hG
        subst hx
        exact next v W' hG.1 hG.2.1 fun j s' hji hs' h => holds_stays hs' (fun V' hV'' hu => hG.2.2 j V' hji hV'' _ hu) h
      unfold wpOp
      rw [ho']
      simp only []
      rw [st.frame, hw]
      rw [st.frame] at next nextS nextG
      cases s with
      | is x =>
        rcases hst with ⟨h1, h2⟩ | ⟨h1, rfl⟩
        · rw [if_pos h1]
          refine .inl ?_
          unfold Oper.wp
          rw [he]
          rcases h2 with h2 | ⟨h2, rfl⟩ | ⟨f, args, h2, h3⟩
          · rw [h2]; exact nextS x W rfl (Sees.refl W)
          · rw [h2]; exact nextS undef W rfl (Sees.refl W)
          · rw [h2]
            exact h3.mono fun e W' ⟨he, hS⟩ => by subst he; exact nextS x W' rfl hS
        · rw [if_neg (by rw [h1]; simp)]
          exact nextS undef W rfl (Sees.refl W)
      | so V =>
        rcases hst with ⟨h1, h2⟩ | ⟨h1, h2⟩
        · rw [if_pos h1]
          refine .inl ?_
          unfold Oper.wp
          rw [he]
          rcases h2 with ⟨v, W', h2, h3⟩ | ⟨W', h2, h3⟩ | ⟨f, args, h2, h3⟩
          · rw [h2]; exact nextG V v W' rfl h3
          · rw [h2]; exact nextG V undef W' rfl h3
          · rw [h2]
            exact h3.mono fun e W' ⟨v, he, hG⟩ => by subst he; exact nextG V v W' rfl hG
        · rw [if_neg (by rw [h1]; simp)]
          exact nextG V undef W rfl ⟨st.inv, h2, fun _ _ _ _ _ h => h⟩
  refine main (l.length - m) (List.range m) (fun j => slotOf a0 (dstAt l j)) (upTo l.length m) a0 w (by simp; omega) ?_ (fun x hx => List.mem_range.2 hx) (fun x hx => by have := List.mem_range.1 hx; omega)
  refine ⟨List.nodup_range, fun x hx => by have := List.mem_range.1 hx; omega, upTo_size _ _, fun x hx => by rw [upTo_getD hx, List.mem_range, decide_eq_true_eq], fun x hx p hpd => ?_, (puts_slots a0 _ (fun _ _ => rfl)).symm, h0, fun x hx s hs' => ?_⟩
  · have hx := List.mem_range.1 hx
    unfold direct at hpd
    have hxl : x < l.length := by omega
    rw [List.getElem?_eq_getElem hxl] at hpd
    obtain ⟨e, he, hb⟩ := Array.any_eq_true'.1 hpd
    simp only [Bool.and_eq_true, beq_iff_eq] at hb
    have := (hl x _ (List.getElem?_eq_getElem hxl)).1 e he hb.1
    exact List.mem_range.2 (by omega)
  · rw [segFull_pre (List.mem_range.1 hx)] at hs'
    cases hs'
    rfl
/-- The region, its form asked once. -/
theorem wpFrom_go {id : Nat} (hm : P.follows .mixedOrders = true) (hB : rgB l = true) (h : Hid (rgB l = true) → ∀ W, Sees w W → wpFrom P l Q 0 a0 W) : (Code.region id l.toArray true).wp P Q a0 w :=
  wpFrom_start hm (h (Lib.hid hB) _ (Sees.refl w).drew)
theorem wpFrom_to {m : Nat} (m' : Nat) (hB : Hid (rgB l = true)) (hQ : ∀ c a t v w, Q (.panic c) (Act.put a (some t) v) w → Q (.panic c) a w) (hs : seqMB l m m' = true) {r : List Oper} (hr : (l.drop m).take (m' - m) = r)
    (h : wpList P l.toArray (thenFrom P l Q m') r a0 w) : wpFrom P l Q m a0 w := by
  subst hr
  have hs0 := hs
  unfold seqMB at hs0
  rw [Bool.and_eq_true, Bool.and_eq_true, decide_eq_true_eq] at hs0
  exact wpFrom_seq m' hB.out hQ (m' - m) m a0 w (by omega) hs h
/-- What each loose operation says stays while memory is made. -/
def segStay (Inv : World → Prop) : List Spec → Prop
  | [] => True
  | .is _ :: r => segStay Inv r
  | .so V :: r => (∀ u W W', Inv W → V u W → Sees W W' → V u W') ∧ segStay Inv r
theorem segStay_get : ∀ (specs : List Spec), segStay Inv specs → ∀ (j : Nat) V', specs[j]? = some (.so V') → ∀ u W W', Inv W → V' u W → Sees W W' → V' u W'
  | [], _, _, _, h => by cases h
  | .is x :: r, h, 0, V', hj => by cases hj
  | .so V :: r, h, 0, V', hj => by cases hj; exact h.1
  | .is x :: r, h, j + 1, V', hj => segStay_get r h j V' (by simpa using hj)
  | .so V :: r, h, j + 1, V', hj => segStay_get r h.2 j V' (by simpa using hj)
/-- A part whose operations only read or make memory, in any order. -/
theorem wpFrom_any {m : Nat} (m' : Nat) (specs : List Spec) (hB : Hid (rgB l = true)) (hs : segB l m m' = true) (hlen : specs.length = m' - m) (hV : segStay (Sees w) specs) {r : List Oper} (hr : (l.drop m).take (m' - m) = r)
    (h : rgSteps P l (Sees w) (segFull l a0 m specs) (fun a W => wpFrom P l Q m' a W) m (fun _ => a0) r specs) : wpFrom P l Q m a0 w := by
  subst hr
  exact wpFrom_seg m m' hB.out specs hs hlen (Sees.refl w) (fun _ _ h k => h.trans k) (segStay_get specs hV) h
theorem rgGood_mk {m k : Nat} {V : Value → World → Prop} {W W' : World} {v : Value} (hV : segStay (Sees w) specs) (hI : Sees w W) (h : V v W') (hs : Sees W W') : rgGood (Sees w) (segFull l a0 m specs) k V W v W' :=
  ⟨hI.trans hs, h, fun j V' _ hj u hu => by
    obtain ⟨i, _, hi⟩ := segFull_so hj
    exact segStay_get specs hV i V' hi u W W' hI hu hs⟩
end
end Go.Proofs.YthcndmchlpohpaaGreatDoor
