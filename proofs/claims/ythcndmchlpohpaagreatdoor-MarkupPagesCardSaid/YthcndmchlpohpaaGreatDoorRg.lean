/- A region that draws its order, whatever its operations do: a theorem over any program. No condition. -/
import Derived.Test.YthcndmchlpohpaaGreatDoorBase
namespace Go.Proofs.YthcndmchlpohpaaGreatDoor
set_option linter.unusedVariables false
set_option linter.unusedSimpArgs false
open Go.RowKit

inductive Spec where
  | is (x : Value)
  | so (V : Value → World → Prop)
def Spec.val : Spec → Value → Value
  | .is x, _ => x
  | .so _, v => v
def Spec.holds : Spec → Value → World → Prop
  | .is x, v, _ => v = x
  | .so V, v, W => V v W

section
variable (P : Program) (l : List Oper) (Inv : World → Prop) (specs : List Spec)

def dstAt (i : Nat) : Option Tmp := (l[i]?).bind (·.dst)
def direct (j i : Nat) : Bool := match l[i]? with
  | some o => o.after.any fun e => Region.binds .any e && e.on == j
  | none => false
def rgB : Bool :=
  Region.noSelect l.toArray &&
  (List.range l.length).all fun i =>
    ((List.range l.length).all fun j => (i == j || dstAt l i == none || dstAt l i != dstAt l j)) &&
    (match l[i]? with
      | some o => (o.after.all fun e => !Region.binds .any e || decide (e.on < i)) &&
          (o.looksAt l.toArray).all fun t => (List.range l.length).all fun j => j == i || dstAt l j != some t || (decide (j < i) && direct l j i) || (decide (i < j) && direct l i j)
      | none => true)

/-- What is asked where a loose operation leaves v and W'. -/
def rgGood (k : Nat) (V : Value → World → Prop) (W : World) (v : Value) (W' : World) : Prop :=
  Inv W' ∧ V v W' ∧ ∀ (j : Nat) V', j ≠ k → specs[j]? = some (.so V') → ∀ u, V' u W → V' u W'
def rgStep (k : Nat) (o : Oper) (s : Spec) (a : Act) (W : World) : Prop :=
  match s with
  | .is x => (Region.wanted o (yielded l.toArray a.tmps) = true ∧ ((execOp a.eval o).run P W = .ok (.value x) W ∨ ((execOp a.eval o).run P W = .ok .skip W ∧ x = undef) ∨
      ∃ f args, (execOp a.eval o).run P W = .ok (.enter f args) W ∧ Calls P f args W (fun e W' => e = .returned x ∧ Sees W W'))) ∨ (Region.wanted o (yielded l.toArray a.tmps) = false ∧ x = undef)
  | .so V => (Region.wanted o (yielded l.toArray a.tmps) = true ∧ ((∃ v W', (execOp a.eval o).run P W = .ok (.value v) W' ∧ rgGood Inv specs k V W v W') ∨ (∃ W', (execOp a.eval o).run P W = .ok .skip W' ∧ rgGood Inv specs k V W undef W') ∨
      ∃ f args, (execOp a.eval o).run P W = .ok (.enter f args) W ∧ Calls P f args W (fun e W' => ∃ v, e = .returned v ∧ rgGood Inv specs k V W v W'))) ∨ (Region.wanted o (yielded l.toArray a.tmps) = false ∧ V undef W)
def rgSteps (Q : Act → World → Prop) : Nat → ((Nat → Value) → Act) → List Oper → List Spec → Prop
  | k, A, o :: r, s :: rs => (∀ (vs : Nat → Value) (W : World), Inv W → (∀ (j : Nat) V', direct l j k = true → specs[j]? = some (.so V') → V' (vs j) W) → rgStep P l Inv specs k o s (A vs) W) ∧
      rgSteps Q (k + 1) (fun vs => (A vs).put o.dst (s.val (vs k))) r rs
  | _, A, [], [] => ∀ (vs : Nat → Value) (W : World), Inv W → (∀ (j : Nat) V', specs[j]? = some (.so V') → V' (vs j) W) → Q (A vs) W
  | _, _, _, _ => False

/-- The frame behind some of the operations. -/
def putsR (vs : Nat → Value) (a : Act) (T : List Nat) : Act := T.foldl (fun a i => a.put (dstAt l i) (vs i)) a
end

section
variable {P : Program} {l : List Oper} {Inv : World → Prop} {specs : List Spec} {Q : Act → World → Prop}

theorem tmps_put_ne (a : Act) {x : Option Tmp} {t : Tmp} (v : Value) (h : x ≠ some t) : (a.put x v).tmps[t]? = a.tmps[t]? := by
  cases x with
  | none => rfl
  | some d => simp only [Act.put]; rw [Array.getElem?_setIfInBounds_ne (fun e => h (by rw [e]))]
theorem tmps_puts_out {vs : Nat → Value} {t : Tmp} : ∀ (T : List Nat) (a : Act), (∀ x ∈ T, dstAt l x ≠ some t) → (putsR l vs a T).tmps[t]? = a.tmps[t]?
  | [], _, _ => rfl
  | y :: T, a, h => by
    show (putsR l vs (a.put (dstAt l y) (vs y)) T).tmps[t]? = _
    rw [tmps_puts_out T _ (fun x hx => h x (List.mem_cons_of_mem _ hx)), tmps_put_ne a _ (h y (List.mem_cons_self ..))]
theorem size_puts {vs : Nat → Value} : ∀ (T : List Nat) (a : Act), (putsR l vs a T).tmps.size = a.tmps.size
  | [], _ => rfl
  | y :: T, a => by
    show (putsR l vs (a.put (dstAt l y) (vs y)) T).tmps.size = _
    rw [size_puts T]
    cases dstAt l y <;> simp [Act.put]
theorem tmps_puts_in {vs : Nat → Value} {t : Tmp} {x : Nat} (hx : dstAt l x = some t) : ∀ (T : List Nat) (a : Act), x ∈ T → (∀ y ∈ T, y ≠ x → dstAt l y ≠ some t) →
    (putsR l vs a T).tmps[t]? = if t < a.tmps.size then some (vs x) else none
  | [], _, h, _ => by cases h
  | y :: T, a, h, hu => by
    show (putsR l vs (a.put (dstAt l y) (vs y)) T).tmps[t]? = _
    by_cases hxT : x ∈ T
    · rw [tmps_puts_in hx T _ hxT (fun z hz hne => hu z (List.mem_cons_of_mem _ hz) hne)]
      rcases dstAt l y with _ | d
      · rfl
      · simp [Act.put]
    · have hy : x = y := by rcases List.mem_cons.1 h with h | h; exact h; exact absurd h hxT
      subst hy
      rw [tmps_puts_out T _ (fun z hz => hu z (List.mem_cons_of_mem _ hz) (fun e => hxT (e ▸ hz))), hx]
      simp only [Act.put, Array.getElem?_setIfInBounds, if_true]

theorem wanted_congr {ops : Array Oper} {o : Oper} {a b : Act} (h : ∀ t ∈ o.looksAt ops, a.tmps[t]? = b.tmps[t]?) : Region.wanted o (yielded ops a.tmps) = Region.wanted o (yielded ops b.tmps) := by
  unfold Region.wanted
  cases hg : o.guard with
  | none => rfl
  | some gw =>
    obtain ⟨g, want⟩ := gw
    have hy : yielded ops a.tmps g = yielded ops b.tmps g := by
      unfold yielded
      cases ht : (ops[g]?).bind (·.dst) with
      | none => rfl
      | some t =>
        simp only [Option.bind_some]
        rw [h t (by simp [Oper.looksAt, hg, ht])]
    simp only [hy]
theorem exec_congr {ops : Array Oper} {o : Oper} {a b : Act} (hs : ∀ cs b, o.op ≠ .select cs b) (h : ∀ t ∈ o.looksAt ops, a.tmps[t]? = b.tmps[t]?) : execOp a.eval o = execOp b.eval o := by
  refine execOp_congr o hs fun x hx => ?_
  cases x with
  | tmp t =>
    have := h t (List.mem_append_left _ (List.mem_filterMap.2 ⟨.tmp t, by simpa using hx, rfl⟩))
    simp only [Act.eval, Array.getD_eq_getD_getElem?, this]
  | _ => rfl

/-- The values of a frame: those that are known, and the others. -/
def valsOf (specs : List Spec) (vs : Nat → Value) (j : Nat) : Value := match specs[j]? with
  | some s => s.val (vs j)
  | none => vs j
theorem valsOf_eq {vs : Nat → Value} {j : Nat} {s : Spec} {W : World} (hs : specs[j]? = some s) (h : s.holds (vs j) W) : valsOf specs vs j = vs j := by
  unfold valsOf; rw [hs]
  cases s with
  | is x => exact h.symm
  | so V => rfl

theorem rgSteps_get (a0 : Act) : ∀ (r : List Oper) (rs : List Spec) (k : Nat) (A : (Nat → Value) → Act), rgSteps P l Inv specs Q k A r rs → (∀ i, l[k + i]? = r[i]?) → (∀ i, specs[k + i]? = rs[i]?) → k + r.length = l.length →
    (∀ vs, A vs = putsR l (valsOf specs vs) a0 (List.range k)) →
    r.length = rs.length ∧
    (∀ i o s, k ≤ i → l[i]? = some o → specs[i]? = some s → ∀ (vs : Nat → Value) (W : World), Inv W → (∀ (j : Nat) V', direct l j i = true → specs[j]? = some (.so V') → V' (vs j) W) → rgStep P l Inv specs i o s (putsR l (valsOf specs vs) a0 (List.range i)) W) ∧
    (∀ (vs : Nat → Value) (W : World), Inv W → (∀ (j : Nat) V', specs[j]? = some (.so V') → V' (vs j) W) → Q (putsR l (valsOf specs vs) a0 (List.range l.length)) W)
  | [], [], k, A, h, hl, _, hk, hA => by
    refine ⟨rfl, fun i o s hi ho => ?_, fun vs W hI hV => ?_⟩
    · have : l.length ≤ i := by simp at hk; omega
      rw [List.getElem?_eq_none this] at ho; cases ho
    · have : k = l.length := by simpa using hk
      have h' := h vs W hI hV
      rw [hA vs, this] at h'; exact h'
  | o :: r, s :: rs, k, A, h, hl, hsp, hk, hA => by
    obtain ⟨h1, h2⟩ := h
    have e1 : l[k]? = some o := by simpa using hl 0
    have e2 : specs[k]? = some s := by simpa using hsp 0
    obtain ⟨g1, g2, g3⟩ := rgSteps_get a0 r rs (k + 1) _ h2 (fun i => by have := hl (i + 1); simpa [Nat.add_assoc, Nat.add_comm 1 i] using this) (fun i => by have := hsp (i + 1); simpa [Nat.add_assoc, Nat.add_comm 1 i] using this)
      (by simp at hk; omega) (fun vs => by
        rw [hA vs, List.range_succ]
        unfold putsR
        rw [List.foldl_append]
        show _ = Act.put _ (dstAt l k) (valsOf specs vs k)
        unfold dstAt valsOf
        rw [e1, e2]; rfl)
    refine ⟨by simp [g1], fun i o' s' hi ho hs vs W hI hV => ?_, g3⟩
    by_cases hik : i = k
    · subst hik
      rw [e1] at ho; rw [e2] at hs
      cases ho; cases hs
      rw [← hA vs]; exact h1 vs W hI hV
    · exact g2 i o' s' (by omega) ho hs vs W hI hV
  | [], _ :: _, _, _, h, _, _, _, _ => h.elim
  | _ :: _, [], _, _, h, _, _, _, _ => h.elim

theorem rgB_spec (hB : rgB l = true) : Region.noSelect l.toArray = true ∧
    (∀ i j, i < l.length → j < l.length → i ≠ j → ∀ t, dstAt l i = some t → dstAt l j ≠ some t) ∧
    (∀ i o, l[i]? = some o → (∀ e ∈ o.after, Region.binds .any e = true → e.on < i) ∧
      ∀ t ∈ o.looksAt l.toArray, ∀ j, j < l.length → j ≠ i → dstAt l j = some t → (j < i ∧ direct l j i = true) ∨ (i < j ∧ direct l i j = true)) := by
  unfold rgB at hB
  rw [Bool.and_eq_true, List.all_eq_true] at hB
  obtain ⟨h0, h⟩ := hB
  refine ⟨h0, fun i j hi hj hij t ht ht2 => ?_, fun i o ho => ?_⟩
  · have h1 := h i (List.mem_range.2 hi)
    rw [Bool.and_eq_true, List.all_eq_true] at h1
    have h2 := h1.1 j (List.mem_range.2 hj)
    rw [ht, ht2] at h2
    simp [hij] at h2
  · have hi : i < l.length := (List.getElem?_eq_some_iff.1 ho).1
    have h1 := h i (List.mem_range.2 hi)
    rw [ho, Bool.and_eq_true] at h1
    have h2 := h1.2
    rw [Bool.and_eq_true, Array.all_eq_true', List.all_eq_true] at h2
    refine ⟨fun e he hb => ?_, fun t ht j hj hji hd => ?_⟩
    · have := h2.1 e he
      rw [hb] at this; simpa using this
    · have h3 := h2.2 t ht
      rw [List.all_eq_true] at h3
      have h4 := h3 j (List.mem_range.2 hj)
      rw [hd] at h4
      simp [hji] at h4
      rcases h4 with h4 | h4
      · exact .inl h4
      · exact .inr h4

theorem nodup_len : ∀ (n : Nat) (T : List Nat), T.Nodup → (∀ x ∈ T, x < n) → T.length ≤ n
  | 0, [], _, _ => by simp
  | 0, x :: _, _, h => absurd (h x (List.mem_cons_self ..)) (by omega)
  | n + 1, T, hd, h => by
    have h1 := nodup_len n (T.erase n) (hd.erase n) fun x hx => by
      have := (List.Nodup.mem_erase_iff hd).1 hx
      have := h x this.2
      omega
    rw [List.length_erase] at h1
    split at h1 <;> omega
theorem getD_replicate_false' (m j : Nat) : (Array.replicate m false).getD j false = false := by
  rcases Nat.lt_or_ge j m with h | h
  · simp [h]
  · simp [h]

structure RgSt (a0 : Act) (T : List Nat) (vs : Nat → Value) (listed : Array Bool) (a : Act) (W : World) : Prop where
  nd : T.Nodup
  lt : ∀ x ∈ T, x < l.length
  size : listed.size = l.length
  iff : ∀ x, x < l.length → (listed.getD x false = true ↔ x ∈ T)
  closed : ∀ x ∈ T, ∀ p, direct l p x = true → p ∈ T
  frame : a = putsR l vs a0 T
  inv : Inv W
  holds : ∀ x ∈ T, ∀ s, specs[x]? = some s → s.holds (vs x) W

theorem puts_congr {vs us : Nat → Value} : ∀ (T : List Nat) (a : Act), (∀ x ∈ T, vs x = us x) → putsR l vs a T = putsR l us a T
  | [], _, _ => rfl
  | y :: T, a, h => by
    show putsR l vs (a.put (dstAt l y) (vs y)) T = putsR l us (a.put (dstAt l y) (us y)) T
    rw [h y (List.mem_cons_self ..), puts_congr T _ (fun x hx => h x (List.mem_cons_of_mem _ hx))]

theorem frame_agrees (hB : rgB l = true) {a0 : Act} {T : List Nat} {vs : Nat → Value} {i : Nat} {o : Oper} {W : World} (ho : l[i]? = some o) (hlt : ∀ x ∈ T, x < l.length) (hi : i ∉ T)
    (hp : ∀ p, direct l p i = true → p ∈ T) (hcl : ∀ x ∈ T, ∀ p, direct l p x = true → p ∈ T) (hh : ∀ x ∈ T, ∀ s, specs[x]? = some s → s.holds (vs x) W) (hsp : specs.length = l.length) :
    ∀ t ∈ o.looksAt l.toArray, (putsR l vs a0 T).tmps[t]? = (putsR l (valsOf specs vs) a0 (List.range i)).tmps[t]? := by
  obtain ⟨_, hd, hl⟩ := rgB_spec hB
  have hil : i < l.length := (List.getElem?_eq_some_iff.1 ho).1
  intro t ht
  by_cases hex : ∃ j, j < l.length ∧ j ≠ i ∧ dstAt l j = some t
  · obtain ⟨j, hj, hji, hjt⟩ := hex
    have huniq : ∀ y, y < l.length → y ≠ j → dstAt l y ≠ some t := fun y hy hne h => hd j y hj hy (Ne.symm hne) t hjt h
    rcases (hl i o ho).2 t ht j hj hji hjt with ⟨h1, h2⟩ | ⟨h1, h2⟩
    · have hjT := hp j h2
      obtain ⟨s, hs⟩ : ∃ s, specs[j]? = some s := ⟨_, List.getElem?_eq_getElem (by omega)⟩
      rw [tmps_puts_in hjt T a0 hjT (fun y hy hne => huniq y (hlt y hy) hne), tmps_puts_in hjt (List.range i) a0 (List.mem_range.2 h1) (fun y hy hne => huniq y (by have := List.mem_range.1 hy; omega) hne), valsOf_eq hs (hh j hjT s hs)]
    · have hjT : j ∉ T := fun h => hi (hcl j h i h2)
      rw [tmps_puts_out T a0 (fun y hy => huniq y (hlt y hy) (fun e => hjT (e ▸ hy))), tmps_puts_out (List.range i) a0 (fun y hy => huniq y (by have := List.mem_range.1 hy; omega) (by have := List.mem_range.1 hy; omega))]
  · have hno : ∀ y, y < l.length → y ≠ i → dstAt l y ≠ some t := fun y hy hne h => hex ⟨y, hy, hne, h⟩
    rw [tmps_puts_out T a0 (fun y hy => hno y (hlt y hy) (fun e => hi (e ▸ hy))), tmps_puts_out (List.range i) a0 (fun y hy => hno y (by have := List.mem_range.1 hy; omega) (by have := List.mem_range.1 hy; omega))]

theorem rgSt_put (hB : rgB l = true) {a0 : Act} {T : List Nat} {vs : Nat → Value} {listed : Array Bool} {a : Act} {W W' : World} {i : Nat} {o : Oper} {s : Spec} {v : Value} (st : RgSt (l := l) (Inv := Inv) (specs := specs) a0 T vs listed a W)
    (ho : l[i]? = some o) (hs : specs[i]? = some s) (hi : i ∉ T) (hp : ∀ p, direct l p i = true → p ∈ T) (hI : Inv W') (hv : s.holds v W')
    (hk : ∀ j, j ∈ T → ∀ s', specs[j]? = some s' → s'.holds (vs j) W → s'.holds (vs j) W') :
    RgSt (l := l) (Inv := Inv) (specs := specs) a0 (T ++ [i]) (fun j => if j = i then v else vs j) (listed.setIfInBounds i true) (a.put o.dst v) W' := by
  have hil : i < l.length := (List.getElem?_eq_some_iff.1 ho).1
  refine ⟨?_, ?_, by simp [st.size], ?_, ?_, ?_, hI, ?_⟩
  · rw [List.nodup_append]
    exact ⟨st.nd, by simp, fun x hx y hy => by simp at hy; subst hy; exact fun e => hi (e ▸ hx)⟩
  · intro x hx
    rcases List.mem_append.1 hx with h | h
    · exact st.lt x h
    · simp at h; omega
  · intro x hx
    by_cases hxi : i = x
    · subst hxi
      simp [st.size, hil]
    · rw [getD_set_ne false hxi, st.iff x hx]
      simp [Ne.symm hxi]
  · intro x hx p hpx
    rcases List.mem_append.1 hx with h | h
    · exact List.mem_append_left _ (st.closed x h p hpx)
    · simp at h; subst h; exact List.mem_append_left _ (hp p hpx)
  · unfold putsR
    rw [List.foldl_append]
    show _ = Act.put _ (dstAt l i) (if i = i then v else vs i)
    rw [if_pos rfl, show dstAt l i = o.dst by unfold dstAt; rw [ho]; rfl, st.frame]
    congr 1
    exact puts_congr T a0 fun x hx => by
      have hne : ¬ x = i := fun e => hi (e ▸ hx)
      rw [if_neg hne]
  · intro x hx s' hs'
    rcases List.mem_append.1 hx with h | h
    · have hne : x ≠ i := fun e => hi (e ▸ h)
      simp only [if_neg hne]
      exact hk x h s' hs' (st.holds x h s' hs')
    · simp at h; subst h
      rw [hs] at hs'; cases hs'
      simpa using hv

theorem holds_stays {j : Nat} {s : Spec} {u : Value} {W W' : World} (hs : specs[j]? = some s) (hk : ∀ V', specs[j]? = some (.so V') → V' u W → V' u W') (h : s.holds u W) : s.holds u W' := by
  cases s with
  | is x => exact h
  | so V => exact hk V hs h

theorem rg_any {Q' : Exit → Act → World → Prop} (hB : rgB l = true) (a0 : Act) (hI : ∀ W W', Inv W → Sees W W' → Inv W')
    (hV : ∀ (j : Nat) V', specs[j]? = some (.so V') → ∀ u W W', Inv W → V' u W → Sees W W' → V' u W') (hsp : specs.length = l.length)
    (hstep : ∀ i o s, l[i]? = some o → specs[i]? = some s → ∀ (vs : Nat → Value) (W : World), Inv W → (∀ (j : Nat) V', direct l j i = true → specs[j]? = some (.so V') → V' (vs j) W) → rgStep P l Inv specs i o s (putsR l (valsOf specs vs) a0 (List.range i)) W)
    (hend : ∀ (vs : Nat → Value) (W : World), Inv W → (∀ (j : Nat) V', specs[j]? = some (.so V') → V' (vs j) W) → Q' .normal (putsR l (valsOf specs vs) a0 (List.range l.length)) W) :
    ∀ (fuel : Nat) (T : List Nat) (vs : Nat → Value) (listed : Array Bool) (a : Act) (W : World), fuel + T.length = l.length → RgSt (l := l) (Inv := Inv) (specs := specs) a0 T vs listed a W → wpAny P .any l.toArray Q' fuel listed a W := by
  obtain ⟨hsel, hd, hl⟩ := rgB_spec hB
  have hfin : ∀ (T : List Nat) (vs : Nat → Value) (listed : Array Bool) (a : Act) (W : World), RgSt (l := l) (Inv := Inv) (specs := specs) a0 T vs listed a W → Region.ready .any l.toArray listed = [] → Q' .normal a W := by
    intro T vs listed a W st hr
    have hall : ∀ x, x < l.length → x ∈ T := by
      intro x
      induction x using Nat.strongRecOn with
      | _ x ih =>
        intro hx
        by_cases hxT : x ∈ T
        · exact hxT
        exfalso
        have hm : x ∈ Region.ready .any l.toArray listed := by
          rw [mem_ready]
          refine ⟨?_, l[x], by simp [hx], fun e he hb => ?_⟩
          · have h1 := st.iff x hx
            have hsz : x < listed.size := by rw [st.size]; exact hx
            cases hg : listed.getD x true with
            | false => rfl
            | true =>
              have : listed.getD x false = true := by
                simp only [Array.getD_eq_getD_getElem?, Array.getElem?_eq_getElem hsz, Option.getD_some] at hg ⊢; exact hg
              exact absurd (h1.1 this) hxT
          · have hlt := (hl x l[x] (List.getElem?_eq_getElem hx)).1 e he hb
            exact (st.iff e.on (by omega)).2 (ih e.on hlt (by omega))
        rw [hr] at hm; cases hm
    have hperm : T.Perm (List.range l.length) := by
      rw [List.perm_ext_iff_of_nodup st.nd List.nodup_range]
      exact fun x => ⟨fun h => List.mem_range.2 (st.lt x h), fun h => hall x (List.mem_range.1 h)⟩
    have e1 : putsR l vs a0 T = putsR l vs a0 (List.range l.length) := by
      unfold putsR
      refine List.Perm.foldl_eq' hperm (fun x hx y hy z => ?_) a0
      by_cases hxy : x = y
      · subst hxy; rfl
      · exact Act.put_comm z (vs x) (vs y) fun t ht => hd x y (st.lt x hx) (st.lt y hy) hxy t ht
    have e2 : putsR l vs a0 (List.range l.length) = putsR l (valsOf specs vs) a0 (List.range l.length) := by
      refine puts_congr _ _ fun x hx => ?_
      have hx := List.mem_range.1 hx
      obtain ⟨s, hs⟩ : ∃ s, specs[x]? = some s := ⟨_, List.getElem?_eq_getElem (by omega)⟩
      exact (valsOf_eq hs (st.holds x (hall x hx) s hs)).symm
    rw [st.frame, e1, e2]
    refine hend vs W st.inv fun j V' hj => ?_
    have hjl : j < l.length := by have := (List.getElem?_eq_some_iff.1 hj).1; omega
    exact st.holds j (hall j hjl) _ hj
  intro fuel
  induction fuel with
  | zero =>
    intro T vs listed a W hf st
    have hr : Region.ready .any l.toArray listed = [] := by
      rw [List.eq_nil_iff_forall_not_mem]
      intro i hi
      obtain ⟨h0, o, ho, _⟩ := mem_ready.1 hi
      have hil : i < l.length := by have := (Array.getElem?_eq_some_iff.1 ho).1; simpa using this
      have hin : i ∈ T := by
        by_cases h : i ∈ T
        · exact h
        · have := nodup_len l.length (i :: T) (List.nodup_cons.2 ⟨h, st.nd⟩) fun x hx => by
            rcases List.mem_cons.1 hx with rfl | hx
            · exact hil
            · exact st.lt x hx
          simp at this; omega
      have := (st.iff i hil).2 hin
      have hsz : i < listed.size := by rw [st.size]; exact hil
      simp only [Array.getD_eq_getD_getElem?, Array.getElem?_eq_getElem hsz, Option.getD_some] at h0 this
      rw [h0] at this; cases this
    exact ⟨hr, hfin T vs listed a W st hr⟩
  | succ fuel ih =>
    intro T vs listed a W hf st
    refine ⟨hfin T vs listed a W st, fun i hi => ?_⟩
    obtain ⟨h0, o, ho', hpre⟩ := mem_ready.1 hi
    have ho : l[i]? = some o := by simpa using ho'
    have hil : i < l.length := (List.getElem?_eq_some_iff.1 ho).1
    have hiT : i ∉ T := by
      intro h
      have := (st.iff i hil).2 h
      have hsz : i < listed.size := by rw [st.size]; exact hil
      simp only [Array.getD_eq_getD_getElem?, Array.getElem?_eq_getElem hsz, Option.getD_some] at h0 this
      rw [h0] at this; cases this
    have hp : ∀ p, direct l p i = true → p ∈ T := by
      intro p hpd
      unfold direct at hpd
      rw [ho] at hpd
      obtain ⟨e, he, hb⟩ := Array.any_eq_true'.1 hpd
      simp only [Bool.and_eq_true, beq_iff_eq] at hb
      have := hpre e he hb.1
      rw [hb.2] at this
      have hlt := (hl i o ho).1 e he hb.1
      exact (st.iff p (by omega)).1 this
    obtain ⟨s, hs⟩ : ∃ s, specs[i]? = some s := ⟨_, List.getElem?_eq_getElem (by omega)⟩
    have hag := frame_agrees hB ho st.lt hiT hp st.closed st.holds hsp (a0 := a0)
    have hns := Region.noSelect_spec hsel
    have he := exec_congr (fun cs b => hns i o cs b ho') hag
    have hw := wanted_congr hag
    have hst := hstep i o s ho hs vs W st.inv (fun j V' hj hjs => st.holds j (hp j hj) _ hjs)
    have next : ∀ v W', Inv W' → s.holds v W' → (∀ (j : Nat) s', j ≠ i → specs[j]? = some s' → s'.holds (vs j) W → s'.holds (vs j) W') → wpAny P .any l.toArray Q' fuel (listed.setIfInBounds i true) (a.put o.dst v) W' := by
      intro v W' hI' hv' hk'
      exact ih (T ++ [i]) _ _ _ W' (by simp; omega) (rgSt_put hB st ho hs hiT hp hI' hv' fun j hj s' hs' h => hk' j s' (fun e => hiT (e ▸ hj)) hs' h)
    have nextS : ∀ x W', s = .is x → Sees W W' → wpAny P .any l.toArray Q' fuel (listed.setIfInBounds i true) (a.put o.dst x) W' := by
      intro x W' hx hS
      subst hx
      exact next x W' (hI _ _ st.inv hS) rfl fun j s' _ hs' h => holds_stays hs' (fun V' hV'' hu => hV j V' hV'' _ _ _ st.inv hu hS) h
    have nextG : ∀ V v W', s = .so V → rgGood Inv specs i V W v W' → wpAny P .any l.toArray Q' fuel (listed.setIfInBounds i true) (a.put o.dst v) W' := by
      intro V v W' hx hG
      subst hx
      exact next v W' hG.1 hG.2.1 fun j s' hji hs' h => holds_stays hs' (fun V' hV'' hu => hG.2.2 j V' hji hV'' _ hu) h
    unfold wpOp
    rw [ho']
    simp only []
    rw [st.frame, hw]
    rw [st.frame] at next nextS nextG
    cases s with
    | is x =>
      rcases hst with ⟨h1, h2⟩ | ⟨h1, rfl⟩
      · rw [if_pos h1]
        refine .inl ?_
        unfold Oper.wp
        rw [he]
        rcases h2 with h2 | ⟨h2, rfl⟩ | ⟨f, args, h2, h3⟩
        · rw [h2]; exact nextS x W rfl (Sees.refl W)
        · rw [h2]; exact nextS undef W rfl (Sees.refl W)
        · rw [h2]
          exact h3.mono fun e W' ⟨he, hS⟩ => by subst he; exact nextS x W' rfl hS
      · rw [if_neg (by rw [h1]; simp)]
        exact nextS undef W rfl (Sees.refl W)
    | so V =>
      rcases hst with ⟨h1, h2⟩ | ⟨h1, h2⟩
      · rw [if_pos h1]
        refine .inl ?_
        unfold Oper.wp
        rw [he]
        rcases h2 with ⟨v, W', h2, h3⟩ | ⟨W', h2, h3⟩ | ⟨f, args, h2, h3⟩
        · rw [h2]; exact nextG V v W' rfl h3
        · rw [h2]; exact nextG V undef W' rfl h3
        · rw [h2]
          exact h3.mono fun e W' ⟨v, he, hG⟩ => by subst he; exact nextG V v W' rfl hG
      · rw [if_neg (by rw [h1]; simp)]
        exact nextG V undef W rfl ⟨st.inv, h2, fun _ _ _ _ _ h => h⟩

/-- A region that draws its order, whatever its operations do: each operation once, in the frame that those before it in the text leave; what it says must stand whatever the others do. -/
theorem wp_region_rg {id : Nat} {Q' : Exit → Act → World → Prop} {a0 : Act} {w : World} (specs : List Spec) (Inv : World → Prop) (hm : P.follows .mixedOrders = true) (hB : rgB l = true) (h0 : Inv w.drew)
    (hI : ∀ W W', Inv W → Sees W W' → Inv W') (hV : ∀ (j : Nat) V', specs[j]? = some (.so V') → ∀ u W W', Inv W → V' u W → Sees W W' → V' u W')
    (h : rgSteps P l Inv specs (fun a W => Q' .normal a W) 0 (fun _ => a0) l specs) : (Code.region id l.toArray true).wp P Q' a0 w := by
  obtain ⟨g1, g2, g3⟩ := rgSteps_get a0 l specs 0 _ h (fun i => by simp) (fun i => by simp) (by simp) (fun vs => rfl)
  refine wp_region_any hm ?_
  refine rg_any hB a0 hI hV g1.symm (fun i o s ho hs => g2 i o s (Nat.zero_le _) ho hs) g3 _ [] (fun _ => undef) _ a0 w.drew (by simp) ?_
  refine ⟨List.nodup_nil, (fun x hx => by cases hx), by simp, fun x hx => ?_, (fun x hx => by cases hx), rfl, h0, (fun x hx => by cases hx)⟩
  rw [getD_replicate_false']
  simp
end
end Go.Proofs.YthcndmchlpohpaaGreatDoor
