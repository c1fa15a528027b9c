/- Regions that draw their order, where what stands may hang on which operations are done. No condition. -/
import Derived.Test.YthjcnhgfagefjaaDoorSheet
namespace Go.Proofs.YthjcnhgfagefjaaDoor
set_option linter.unusedVariables false
set_option linter.unusedSimpArgs false
open Go.RowKit

section
variable (P : Program) (l : List Oper) (IB : (Nat → Bool) → World → Prop) (specs : List Spec)
/-- The one comes behind the other, or is it. -/
def rgAfter : Nat → Nat → Nat → Bool
  | 0, i, j => i == j
  | f + 1, i, j => i == j || (List.range l.length).any fun k => direct l i k && rgAfter f k j
/-- What is asked where a loose operation leaves v and W'; of the others, those that are done. -/
def rgGoodD (Inv : World → Prop) (d : Nat → Bool) (k : Nat) (V : Value → World → Prop) (W : World) (v : Value) (W' : World) : Prop :=
  Inv W' ∧ V v W' ∧ ∀ (j : Nat) V', j ≠ k → d j = true → specs[j]? = some (.so V') → ∀ u, V' u W → V' u W'
def rgStepD (Inv : World → Prop) (d : Nat → Bool) (k : Nat) (o : Oper) (s : Spec) (a : Act) (W : World) : Prop :=
  match s with
  | .is x => (Region.wanted o (yielded l.toArray a.tmps) = true ∧ ((execOp a.eval o).run P W = .ok (.value x) W ∨ ((execOp a.eval o).run P W = .ok .skip W ∧ x = undef) ∨
      ∃ f args, (execOp a.eval o).run P W = .ok (.enter f args) W ∧ Calls P f args W (fun e W' => e = .returned x ∧ Sees W W'))) ∨ (Region.wanted o (yielded l.toArray a.tmps) = false ∧ x = undef)
  | .so V => (Region.wanted o (yielded l.toArray a.tmps) = true ∧ ((∃ v W', (execOp a.eval o).run P W = .ok (.value v) W' ∧ rgGoodD specs Inv d k V W v W') ∨ (∃ W', (execOp a.eval o).run P W = .ok .skip W' ∧ rgGoodD specs Inv d k V W undef W') ∨
      ∃ f args, (execOp a.eval o).run P W = .ok (.enter f args) W ∧ Calls P f args W (fun e W' => ∃ v, e = .returned v ∧ rgGoodD specs Inv d k V W v W'))) ∨ (Region.wanted o (yielded l.toArray a.tmps) = false ∧ V undef W)
def rgStepsD (Q : Act → World → Prop) : Nat → ((Nat → Value) → Act) → List Oper → List Spec → Prop
  | k, A, o :: r, s :: rs => (∀ (d : Nat → Bool) (vs : Nat → Value) (W : World), IB d W → (∀ j, rgAfter l l.length k j = true → d j = false) → (∀ (j : Nat) V', direct l j k = true → specs[j]? = some (.so V') → V' (vs j) W) →
        rgStepD P l specs (IB (fun x => d x || x == k)) d k o s (A vs) W) ∧
      rgStepsD Q (k + 1) (fun vs => (A vs).put o.dst (s.val (vs k))) r rs
  | _, A, [], [] => ∀ (d : Nat → Bool) (vs : Nat → Value) (W : World), IB d W → (∀ j, j < l.length → d j = true) → (∀ (j : Nat) V', specs[j]? = some (.so V') → V' (vs j) W) → Q (A vs) W
  | _, _, _, _ => False
end

section
variable {P : Program} {l : List Oper} {IB : (Nat → Bool) → World → Prop} {specs : List Spec} {Q : Act → World → Prop}

theorem rgAfter_closed {T : List Nat} (hcl : ∀ x ∈ T, ∀ p, direct l p x = true → p ∈ T) : ∀ (f i j : Nat), rgAfter l f i j = true → j ∈ T → i ∈ T
  | 0, i, j, h, hj => by
    unfold rgAfter at h
    rw [beq_iff_eq] at h; rw [h]; exact hj
  | f + 1, i, j, h, hj => by
    unfold rgAfter at h
    rw [Bool.or_eq_true, beq_iff_eq, List.any_eq_true] at h
    rcases h with h | ⟨k, _, h⟩
    · rw [h]; exact hj
    · rw [Bool.and_eq_true] at h
      exact hcl k (rgAfter_closed hcl f k j h.2 hj) i h.1
theorem rgStepsD_get (a0 : Act) : ∀ (r : List Oper) (rs : List Spec) (k : Nat) (A : (Nat → Value) → Act), rgStepsD P l IB specs Q k A r rs → (∀ i, l[k + i]? = r[i]?) → (∀ i, specs[k + i]? = rs[i]?) → k + r.length = l.length →
    (∀ vs, A vs = putsR l (valsOf specs vs) a0 (List.range k)) →
    r.length = rs.length ∧
    (∀ i o s, k ≤ i → l[i]? = some o → specs[i]? = some s → ∀ (d : Nat → Bool) (vs : Nat → Value) (W : World), IB d W → (∀ j, rgAfter l l.length i j = true → d j = false) → (∀ (j : Nat) V', direct l j i = true → specs[j]? = some (.so V') → V' (vs j) W) → rgStepD P l specs (IB (fun x => d x || x == i)) d i o s (putsR l (valsOf specs vs) a0 (List.range i)) W) ∧
    (∀ (d : Nat → Bool) (vs : Nat → Value) (W : World), IB d W → (∀ j, j < l.length → d j = true) → (∀ (j : Nat) V', specs[j]? = some (.so V') → V' (vs j) W) → Q (putsR l (valsOf specs vs) a0 (List.range l.length)) W)
  | [], [], k, A, h, hl, _, hk, hA => by
    refine ⟨rfl, fun i o s hi ho => ?_, fun d vs W hI hdn hV => ?_⟩
    · have : l.length ≤ i := by simp at hk; omega
      rw [List.getElem?_eq_none this] at ho; cases ho
    · have : k = l.length := by simpa using hk
      have h' := h d vs W hI hdn hV
      rw [hA vs, this] at h'; exact h'
  | o :: r, s :: rs, k, A, h, hl, hsp, hk, hA => by
    obtain ⟨h1, h2⟩ := h
    have e1 : l[k]? = some o := by simpa using hl 0
    have e2 : specs[k]? = some s := by simpa using hsp 0
    obtain ⟨g1, g2, g3⟩ := rgStepsD_get a0 r rs (k + 1) _ h2 (fun i => by have := hl (i + 1); simpa [Nat.add_assoc, Nat.add_comm 1 i] using this) (fun i => by have := hsp (i + 1); simpa [Nat.add_assoc, Nat.add_comm 1 i] using this)
      (by simp at hk; omega) (fun vs => by
        rw [hA vs, List.range_succ]
        unfold putsR
        rw [List.foldl_append]
        show _ = Act.put _ (dstAt l k) (valsOf specs vs k)
        unfold dstAt valsOf
        rw [e1, e2]; rfl)
    refine ⟨by simp [g1], fun i o' s' hi ho hs d vs W hI hdn hV => ?_, g3⟩
    by_cases hik : i = k
    · subst hik
      rw [e1] at ho; rw [e2] at hs
      cases ho; cases hs
      rw [← hA vs]; exact h1 d vs W hI hdn hV
    · exact g2 i o' s' (by omega) ho hs d vs W hI hdn hV
  | [], _ :: _, _, _, h, _, _, _, _ => h.elim
  | _ :: _, [], _, _, h, _, _, _, _ => h.elim

theorem rg_anyD {Q' : Exit → Act → World → Prop} (hB : rgB l = true) (a0 : Act) (hI : ∀ (d d' : Nat → Bool) W W', IB d W → (∀ x, d x = true → d' x = true) → Sees W W' → IB d' W')
    (hV : ∀ (j : Nat) V', specs[j]? = some (.so V') → ∀ u W W', True → V' u W → Sees W W' → V' u W') (hsp : specs.length = l.length)
    (hstep : ∀ i o s, l[i]? = some o → specs[i]? = some s → ∀ (d : Nat → Bool) (vs : Nat → Value) (W : World), IB d W → (∀ j, rgAfter l l.length i j = true → d j = false) → (∀ (j : Nat) V', direct l j i = true → specs[j]? = some (.so V') → V' (vs j) W) → rgStepD P l specs (IB (fun x => d x || x == i)) d i o s (putsR l (valsOf specs vs) a0 (List.range i)) W)
    (hend : ∀ (d : Nat → Bool) (vs : Nat → Value) (W : World), IB d W → (∀ j, j < l.length → d j = true) → (∀ (j : Nat) V', specs[j]? = some (.so V') → V' (vs j) W) → Q' .normal (putsR l (valsOf specs vs) a0 (List.range l.length)) W) :
    ∀ (fuel : Nat) (T : List Nat) (vs : Nat → Value) (listed : Array Bool) (a : Act) (W : World), fuel + T.length = l.length → RgSt (l := l) (Inv := fun _ => True) (specs := specs) a0 T vs listed a W → IB (fun x => decide (x ∈ T)) W → wpAny P .any l.toArray Q' fuel listed a W := by
  obtain ⟨hsel, hd, hl⟩ := rgB_spec hB
  have hfin : ∀ (T : List Nat) (vs : Nat → Value) (listed : Array Bool) (a : Act) (W : World), RgSt (l := l) (Inv := fun _ => True) (specs := specs) a0 T vs listed a W → IB (fun x => decide (x ∈ T)) W → Region.ready .any l.toArray listed = [] → Q' .normal a W := by
    intro T vs listed a W st hib hr
    have hall : ∀ x, x < l.length → x ∈ T := by
      intro x
      induction x using Nat.strongRecOn with
      | _ x ih =>
        intro hx
        by_cases hxT : x ∈ T
        · exact hxT
        exfalso
        have hm : x ∈ Region.ready .any l.toArray listed := by
          rw [mem_ready]
          refine ⟨?_, l[x], by simp [hx], fun e he hb => ?_⟩
          · have h1 := st.iff x hx
            have hsz : x < listed.size := by rw [st.size]; exact hx
            cases hg : listed.getD x true with
            | false => rfl
            | true =>
              have : listed.getD x false = true := by
                simp only [Array.getD_eq_getD_getElem?, Array.getElem?_eq_getElem hsz, Option.getD_some] at hg ⊢; exact hg
              exact absurd (h1.1 this) hxT
          · have hlt := (hl x l[x] (List.getElem?_eq_getElem hx)).1 e he hb
            exact (st.iff e.on (by omega)).2 (ih e.on hlt (by omega))
        rw [hr] at hm; cases hm
    have hperm : T.Perm (List.range l.length) := by
      rw [List.perm_ext_iff_of_nodup st.nd List.nodup_range]
      exact fun x => ⟨fun h => List.mem_range.2 (st.lt x h), fun h => hall x (List.mem_range.1 h)⟩
    have e1 : putsR l vs a0 T = putsR l vs a0 (List.range l.length) := by
      unfold putsR
      refine List.Perm.foldl_eq' hperm (fun x hx y hy z => ?_) a0
      by_cases hxy : x = y
      · subst hxy; rfl
      · exact Act.put_comm z (vs x) (vs y) fun t ht => hd x y (st.lt x hx) (st.lt y hy) hxy t ht
    have e2 : putsR l vs a0 (List.range l.length) = putsR l (valsOf specs vs) a0 (List.range l.length) := by
      refine puts_congr _ _ fun x hx => ?_
      have hx := List.mem_range.1 hx
      obtain ⟨s, hs⟩ : ∃ s, specs[x]? = some s := ⟨_, List.getElem?_eq_getElem (by omega)⟩
      exact (valsOf_eq hs (st.holds x (hall x hx) s hs)).symm
    rw [st.frame, e1, e2]
    refine hend _ vs W hib (fun x hx => decide_eq_true (hall x hx)) fun j V' hj => ?_
    have hjl : j < l.length := by have := (List.getElem?_eq_some_iff.1 hj).1; omega
    exact st.holds j (hall j hjl) _ hj
  intro fuel
  induction fuel with
  | zero =>
    intro T vs listed a W hf st hib
    have hr : Region.ready .any l.toArray listed = [] := by
      rw [List.eq_nil_iff_forall_not_mem]
      intro i hi
      obtain ⟨h0, o, ho, _⟩ := mem_ready.1 hi
      have hil : i < l.length := by have := (Array.getElem?_eq_some_iff.1 ho).1; simpa using this
      have hin : i ∈ T := by
        by_cases h : i ∈ T
        · exact h
        · have := nodup_len l.length (i :: T) (List.nodup_cons.2 ⟨h, st.nd⟩) fun x hx => by
            rcases List.mem_cons.1 hx with rfl | hx
            · exact hil
            · exact st.lt x hx
          simp at this; omega
      have := (st.iff i hil).2 hin
      have hsz : i < listed.size := by rw [st.size]; exact hil
      simp only [Array.getD_eq_getD_getElem?, Array.getElem?_eq_getElem hsz, Option.getD_some] at h0 this
      rw [h0] at this; cases this
    exact ⟨hr, hfin T vs listed a W st hib hr⟩
  | succ fuel ih =>
    intro T vs listed a W hf st hib
    refine ⟨hfin T vs listed a W st hib, fun i hi => ?_⟩
    obtain ⟨h0, o, ho', hpre⟩ := mem_ready.1 hi
    have ho : l[i]? = some o := by simpa using ho'
    have hil : i < l.length := (List.getElem?_eq_some_iff.1 ho).1
    have hiT : i ∉ T := by
      intro h
      have := (st.iff i hil).2 h
      have hsz : i < listed.size := by rw [st.size]; exact hil
      simp only [Array.getD_eq_getD_getElem?, Array.getElem?_eq_getElem hsz, Option.getD_some] at h0 this
      rw [h0] at this; cases this
    have hp : ∀ p, direct l p i = true → p ∈ T := by
      intro p hpd
      unfold direct at hpd
      rw [ho] at hpd
      obtain ⟨e, he, hb⟩ := Array.any_eq_true'.1 hpd
      simp only [Bool.and_eq_true, beq_iff_eq] at hb
      have := hpre e he hb.1
      rw [hb.2] at this
      have hlt := (hl i o ho).1 e he hb.1
      exact (st.iff p (by omega)).1 this
    obtain ⟨s, hs⟩ : ∃ s, specs[i]? = some s := ⟨_, List.getElem?_eq_getElem (by omega)⟩
    have hag := frame_agrees hB ho st.lt hiT hp st.closed st.holds hsp (a0 := a0)
    have hns := Region.noSelect_spec hsel
    have he := exec_congr (fun cs b => hns i o cs b ho') hag
    have hw := wanted_congr hag
    have hdec : (fun x => decide (x ∈ T ++ [i])) = (fun x => decide (x ∈ T) || x == i) := by
      funext x
      by_cases h1 : x ∈ T
      · simp [h1]
      · by_cases h2 : x = i
        · simp [h2]
        · simp [h1, h2]
    have hst := hstep i o s ho hs _ vs W hib (fun j hj => decide_eq_false fun h => hiT (rgAfter_closed st.closed _ _ _ hj h)) (fun j V' hj hjs => st.holds j (hp j hj) _ hjs)
    have next : ∀ v W', IB (fun x => decide (x ∈ T) || x == i) W' → s.holds v W' → (∀ (j : Nat) s', j ≠ i → j ∈ T → specs[j]? = some s' → s'.holds (vs j) W → s'.holds (vs j) W') → wpAny P .any l.toArray Q' fuel (listed.setIfInBounds i true) (a.put o.dst v) W' := by
      intro v W' hI' hv' hk'
      exact ih (T ++ [i]) _ _ _ W' (by simp; omega) (rgSt_put hB st ho hs hiT hp trivial hv' fun j hj s' hs' h => hk' j s' (fun e => hiT (e ▸ hj)) hj hs' h) (by rw [hdec]; exact hI')
    have nextS : ∀ x W', s = .is x → Sees W W' → wpAny P .any l.toArray Q' fuel (listed.setIfInBounds i true) (a.put o.dst x) W' := by
      intro x W' hx hS
      subst hx
      exact next x W' (hI _ _ _ _ hib (fun x hx => by simp only [hx, Bool.true_or]) hS) rfl fun j s' _ _ hs' h => holds_stays hs' (fun V' hV'' hu => hV j V' hV'' _ _ _ trivial hu hS) h
    have nextG : ∀ V v W', s = .so V → rgGoodD specs (IB (fun x => decide (x ∈ T) || x == i)) (fun x => decide (x ∈ T)) i V W v W' → wpAny P .any l.toArray Q' fuel (listed.setIfInBounds i true) (a.put o.dst v) W' := by
      intro V v W' hx hG
      subst hx
      exact next v W' hG.1 hG.2.1 fun j s' hji hjT hs' h => holds_stays hs' (fun V' hV'' hu => hG.2.2 j V' hji (decide_eq_true hjT) hV'' _ hu) h
    unfold wpOp
    rw [ho']
    simp only []
    rw [st.frame, hw]
    rw [st.frame] at next nextS nextG
    cases s with
    | is x =>
      rcases hst with ⟨h1, h2⟩ | ⟨h1, rfl⟩
      · rw [if_pos h1]
        refine .inl ?_
        unfold Oper.wp
        rw [he]
        rcases h2 with h2 | ⟨h2, rfl⟩ | ⟨f, args, h2, h3⟩
        · rw [h2]; exact nextS x W rfl (Sees.refl W)
        · rw [h2]; exact nextS undef W rfl (Sees.refl W)
        · rw [h2]
          exact h3.mono fun e W' ⟨he, hS⟩ => by subst he; exact nextS x W' rfl hS
      · rw [if_neg (by rw [h1]; simp)]
        exact nextS undef W rfl (Sees.refl W)
    | so V =>
      rcases hst with ⟨h1, h2⟩ | ⟨h1, h2⟩
      · rw [if_pos h1]
        refine .inl ?_
        unfold Oper.wp
        rw [he]
        rcases h2 with ⟨v, W', h2, h3⟩ | ⟨W', h2, h3⟩ | ⟨f, args, h2, h3⟩
        · rw [h2]; exact nextG V v W' rfl h3
        · rw [h2]; exact nextG V undef W' rfl h3
        · rw [h2]
          exact h3.mono fun e W' ⟨v, he, hG⟩ => by subst he; exact nextG V v W' rfl hG
      · rw [if_neg (by rw [h1]; simp)]
        exact nextG V undef W rfl ⟨hI _ _ _ _ hib (fun x hx => by simp only [hx, Bool.true_or]) (Sees.refl W), h2, fun _ _ _ _ _ _ h => h⟩


/-- What the others that are done say stays over one step. -/
def othersStayD (d : Nat → Bool) (k : Nat) (W W' : World) : Nat → List Spec → Prop
  | _, [] => True
  | i, .is _ :: r => othersStayD d k W W' (i + 1) r
  | i, .so V :: r => (i = k ∨ d i = false ∨ ∀ u, V u W → V u W') ∧ othersStayD d k W W' (i + 1) r
theorem othersStayD_get {d : Nat → Bool} {k : Nat} {W W' : World} : ∀ (specs : List Spec) (i : Nat), othersStayD d k W W' i specs → ∀ (j : Nat) V', i + j ≠ k → d (i + j) = true → specs[j]? = some (.so V') → ∀ u, V' u W → V' u W'
  | [], _, _, _, _, _, _, h => by cases h
  | .is x :: r, i, h, 0, V', _, _, hj => by cases hj
  | .so V :: r, i, h, 0, V', hk, hd, hj => by
    cases hj
    rcases h.1 with e | e | h1
    · exact absurd e hk
    · rw [Nat.add_zero] at hd; rw [e] at hd; cases hd
    · exact h1
  | .is x :: r, i, h, j + 1, V', hk, hd, hj => othersStayD_get r (i + 1) h j V' (by omega) (by rw [show i + 1 + j = i + (j + 1) by omega]; exact hd) (by simpa using hj)
  | .so V :: r, i, h, j + 1, V', hk, hd, hj => othersStayD_get r (i + 1) h.2 j V' (by omega) (by rw [show i + 1 + j = i + (j + 1) by omega]; exact hd) (by simpa using hj)
theorem rgGoodD_sees {Inv : World → Prop} {d : Nat → Bool} {k : Nat} {V : Value → World → Prop} {W W' : World} {v : Value} (hst : allStay (fun _ => True) specs) (hI : Inv W') (hV : V v W') (hs : Sees W W') : rgGoodD specs Inv d k V W v W' :=
  ⟨hI, hV, fun j V' _ _ hj u hu => allStay_get specs hst j V' hj u W W' trivial hu hs⟩
theorem rgGoodD_turn {Inv : World → Prop} {d : Nat → Bool} {k : Nat} {V : Value → World → Prop} {W W' : World} {v : Value} (hI : Inv W') (hV : V v W') (ho : othersStayD d k W W' 0 specs) : rgGoodD specs Inv d k V W v W' :=
  ⟨hI, hV, fun j V' hjk hd hj u hu => othersStayD_get specs 0 ho j V' (by omega) (by rw [Nat.zero_add]; exact hd) hj u hu⟩
/-- A region that draws its order; what stands may hang on which operations are done. -/
theorem wp_rgD {id : Nat} {Q' : Exit → Act → World → Prop} {a0 : Act} {w : World} (specs : List Spec) (IB : (Nat → Bool) → World → Prop) (hm : P.follows .mixedOrders = true) (hB : rgB l = true) (h0 : ∀ d, IB d w.drew)
    (hI : ∀ (d d' : Nat → Bool) W W', IB d W → (∀ x, d x = true → d' x = true) → Sees W W' → IB d' W') (hV : allStay (fun _ => True) specs)
    (h : rgStepsD P l IB specs (fun a W => Q' .normal a W) 0 (fun _ => a0) l specs) : (Code.region id l.toArray true).wp P Q' a0 w := by
  obtain ⟨g1, g2, g3⟩ := rgStepsD_get a0 l specs 0 _ h (fun i => by simp) (fun i => by simp) (by simp) (fun vs => rfl)
  refine wp_region_any hm ?_
  refine rg_anyD hB a0 hI (allStay_get specs hV) g1.symm (fun i o s ho hs => g2 i o s (Nat.zero_le _) ho hs) g3 _ [] (fun _ => undef) _ a0 w.drew (by simp) ?_ (h0 _)
  refine ⟨List.nodup_nil, (fun x hx => by cases hx), by simp, fun x hx => ?_, (fun x hx => by cases hx), rfl, trivial, (fun x hx => by cases hx)⟩
  rw [getD_replicate_false']
  simp
end
end Go.Proofs.YthjcnhgfagefjaaDoor
