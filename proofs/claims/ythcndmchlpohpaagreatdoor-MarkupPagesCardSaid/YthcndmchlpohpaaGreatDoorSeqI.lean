/- Regions that draw their order and hold a call of 'yield': walked part by part, as elsewhere, for the calculus in which such a call is known. No condition. -/
import Derived.Test.YthcndmchlpohpaaGreatDoorSeq
import Derived.RangeFuncNested
import Derived.RangeFuncBound
import Derived.RangeFuncCalls
import Derived.RangeFuncLeaves
import Derived.WalkKit
import Derived.OwnWalkIn
import Derived.TacticsInMore
import Derived.LoopNIn
import Derived.LoopIn
namespace Go.Proofs.YthcndmchlpohpaaGreatDoor
set_option linter.unusedVariables false
set_option linter.unusedSimpArgs false
open Go.RowKit

/-- The rest of a region that draws its order, when the first m operations are done. -/
def wpFromI (P : Program) (l : List Oper) (Q : Exit → Act → World → Prop) (m : Nat) (a : Act) (w : World) : Prop := wpAnyIn Fence.wide 0 P .any l.toArray Q (l.length - m) (upTo l.length m) a w

section
variable {P : Program} {l : List Oper} {Q : Exit → Act → World → Prop} {a : Act} {w : World}
theorem wpFromI_start {id : Nat} (hm : P.follows .mixedOrders = true) (h : wpFromI P l Q 0 a w.drew) : (Code.region id l.toArray true).wpIn Fence.wide 0 P Q a w := by
  refine wpIn_region_any hm ?_
  unfold wpFromI at h
  rw [upTo_zero] at h
  simpa using h
theorem wpFromI_end {m : Nat} (hm : m = l.length) (h : Q .normal a w) : wpFromI P l Q m a w := by
  subst hm
  unfold wpFromI
  rw [Nat.sub_self]
  refine ⟨?_, h⟩
  rw [List.eq_nil_iff_forall_not_mem]
  intro i hi
  obtain ⟨h0, o, ho, _⟩ := mem_ready.1 hi
  have hil : i < l.length := by have := (Array.getElem?_eq_some_iff.1 ho).1; simpa using this
  rw [upTo_getD hil] at h0
  simp [hil] at h0

theorem wpFromI_one (hB : rgB l = true) {k : Nat} {o : Oper} (ho : l[k]? = some o) (hf : forcedB l k = true) (h : wpOpIn Fence.wide 0 P l.toArray Q k (wpFromI P l Q (k + 1)) a w) : wpFromI P l Q k a w := by
  have hk : k < l.length := (List.getElem?_eq_some_iff.1 ho).1
  unfold wpFromI
  rw [show l.length - k = (l.length - (k + 1)) + 1 by omega]
  refine ⟨fun h0 => ?_, fun i hi => ?_⟩
  · have := ready_upTo hB hk; rw [h0] at this; cases this
  · obtain rfl := forced_upTo hf i hi
    rw [upTo_set]
    exact h
/-- What is left comes in the text's order. -/
theorem wpFromI_seq (hB : rgB l = true) : ∀ (g m : Nat) (a : Act) (w : World), m + g = l.length → ((List.range' m g).all fun k => forcedB l k) = true → wpListIn Fence.wide 0 P l.toArray Q (l.drop m) a w → wpFromI P l Q m a w
  | 0, m, a, w, hg, _, h => by
    have : m = l.length := by omega
    subst this
    rw [List.drop_length] at h
    exact wpFromI_end rfl h
  | g + 1, m, a, w, hg, hs, h => by
    have hm : m < l.length := by omega
    rw [List.range'_succ, List.all_cons, Bool.and_eq_true] at hs
    rw [List.drop_eq_getElem_cons hm] at h
    have ho : l[m]? = some l[m] := List.getElem?_eq_getElem hm
    refine wpFromI_one hB ho hs.1 ?_
    unfold wpListIn at h
    unfold wpOpIn
    rw [show l.toArray[m]? = some l[m] by simp [hm]]
    simp only []
    split at h
    · rename_i hwt
      rw [if_pos hwt]
      exact Oper.wpIn_mono (fun a' w' h' => wpFromI_seq hB g (m + 1) a' w' (by omega) hs.2 h') h
    · rename_i hwt
      rw [if_neg hwt]
      exact ⟨h.1, wpFromI_seq hB g (m + 1) _ w (by omega) hs.2 h.2⟩
end

section
variable {P : Program} {l : List Oper} {Inv : World → Prop} {specs : List Spec} {Q : Exit → Act → World → Prop} {a0 : Act} {w : World}
theorem wpFromI_seg (m m' : Nat) (hB : rgB l = true) (specs : List Spec) (hs : segB l m m' = true) (hlen : specs.length = m' - m) (h0 : Inv w) (hI : ∀ W W', Inv W → Sees W W' → Inv W')
    (hV : ∀ (j : Nat) V', specs[j]? = some (.so V') → ∀ u W W', Inv W → V' u W → Sees W W' → V' u W')
    (h : rgSteps P l Inv (segFull l a0 m specs) (fun a W => wpFromI P l Q m' a W) m (fun _ => a0) ((l.drop m).take (m' - m)) specs) : wpFromI P l Q m a0 w := by
  obtain ⟨hsel, hd, hl⟩ := rgB_spec hB
  obtain ⟨t, hs⟩ : ∃ t, segT l m m' t = true := by
    unfold segB at hs
    rw [Bool.or_eq_true] at hs
    rcases hs with hs | hs
    · exact ⟨_, hs⟩
    · exact ⟨_, hs⟩
  have hs0 := hs
  unfold segT at hs0
  rw [Bool.and_eq_true, Bool.and_eq_true, Bool.and_eq_true, Bool.and_eq_true, decide_eq_true_eq, decide_eq_true_eq, decide_eq_true_eq] at hs0
  obtain ⟨⟨⟨⟨hmm, hml⟩, htm⟩, _⟩, _⟩ := hs0
  have hsl : (segFull l a0 m specs).length = l.length := segFull_length (by omega)
  obtain ⟨_, hstep, hend⟩ := rgSteps_part a0 _ specs m _ h (fun i hi => by rw [List.getElem?_take]; simp at hi; rw [if_pos (by omega), List.getElem?_drop]) (fun i hi => segFull_mid hi)
    (fun vs => by
      rw [puts_slots a0 (List.range m) (fun x hx => ?_)]
      unfold valsOf
      rw [segFull_pre (List.mem_range.1 hx)]; rfl)
  have hlen2 : m + ((l.drop m).take (m' - m)).length = m' := by simp; omega
  rw [hlen2] at hend hstep
  have hVf : ∀ (j : Nat) V', (segFull l a0 m specs)[j]? = some (.so V') → ∀ u W W', Inv W → V' u W → Sees W W' → V' u W' := by
    intro j V' hj
    obtain ⟨i, _, hi⟩ := segFull_so hj
    exact hV i V' hi
  have main : ∀ (fuel : Nat) (T : List Nat) (vs : Nat → Value) (listed : Array Bool) (a : Act) (W : World), fuel + T.length = l.length → RgSt (l := l) (Inv := Inv) (specs := segFull l a0 m specs) a0 T vs listed a W →
      (∀ x, x < m → x ∈ T) → (∀ x ∈ T, x < m') → wpAnyIn Fence.wide 0 P .any l.toArray Q fuel listed a W := by
    intro fuel
    induction fuel with
    | zero =>
      intro T vs listed a W hf st hlo hhi
      have hle := nodup_len m' T st.nd hhi
      have hTm : T.length = m' := by omega
      have hall : ∀ x, x < m' → x ∈ T := by
        intro x hx
        by_cases h : x ∈ T
        · exact h
        · have := nodup_len m' (x :: T) (List.nodup_cons.2 ⟨h, st.nd⟩) (fun y hy => by rcases List.mem_cons.1 hy with rfl | hy; exact hx; exact hhi y hy)
          simp at this; omega
      have hperm : T.Perm (List.range m') := by
        rw [List.perm_ext_iff_of_nodup st.nd List.nodup_range]
        exact fun x => ⟨fun h => List.mem_range.2 (hhi x h), fun h => hall x (List.mem_range.1 h)⟩
      have e1 : putsR l vs a0 T = putsR l vs a0 (List.range m') := by
        unfold putsR
        refine List.Perm.foldl_eq' hperm (fun x hx y hy z => ?_) a0
        by_cases hxy : x = y
        · subst hxy; rfl
        · exact Act.put_comm z (vs x) (vs y) fun t ht => hd x y (st.lt x hx) (st.lt y hy) hxy t ht
      have e2 : putsR l vs a0 (List.range m') = putsR l (valsOf (segFull l a0 m specs) vs) a0 (List.range m') := by
        refine puts_congr _ _ fun x hx => ?_
        have hx := List.mem_range.1 hx
        obtain ⟨s, hs⟩ : ∃ s, (segFull l a0 m specs)[x]? = some s := ⟨_, List.getElem?_eq_getElem (by omega)⟩
        exact (valsOf_eq hs (st.holds x (hall x hx) s hs)).symm
      have hlist : listed = upTo l.length m' := ext_upTo st.size fun x hx => by
        rw [Bool.eq_iff_iff, st.iff x hx, decide_eq_true_eq]
        exact ⟨hhi x, hall x⟩
      have := hend vs W st.inv (fun j V' hj => by
        obtain ⟨i, hi, hi2⟩ := segFull_so hj
        have := (List.getElem?_eq_some_iff.1 hi2).1
        exact st.holds j (hall j (by omega)) _ hj)
      rw [st.frame, e1, e2, hlist]
      unfold wpFromI at this
      rw [show l.length - m' = 0 by omega] at this
      exact this
    | succ fuel ih =>
      intro T vs listed a W hf st hlo hhi
      have hle := nodup_len m' T st.nd hhi
      by_cases hTm : T.length = m'
      · have hall : ∀ x, x < m' → x ∈ T := by
          intro x hx
          by_cases h : x ∈ T
          · exact h
          · have := nodup_len m' (x :: T) (List.nodup_cons.2 ⟨h, st.nd⟩) (fun y hy => by rcases List.mem_cons.1 hy with rfl | hy; exact hx; exact hhi y hy)
            simp at this; omega
        have hperm : T.Perm (List.range m') := by
          rw [List.perm_ext_iff_of_nodup st.nd List.nodup_range]
          exact fun x => ⟨fun h => List.mem_range.2 (hhi x h), fun h => hall x (List.mem_range.1 h)⟩
        have e1 : putsR l vs a0 T = putsR l vs a0 (List.range m') := by
          unfold putsR
          refine List.Perm.foldl_eq' hperm (fun x hx y hy z => ?_) a0
          by_cases hxy : x = y
          · subst hxy; rfl
          · exact Act.put_comm z (vs x) (vs y) fun t ht => hd x y (st.lt x hx) (st.lt y hy) hxy t ht
        have e2 : putsR l vs a0 (List.range m') = putsR l (valsOf (segFull l a0 m specs) vs) a0 (List.range m') := by
          refine puts_congr _ _ fun x hx => ?_
          have hx := List.mem_range.1 hx
          obtain ⟨s, hs⟩ : ∃ s, (segFull l a0 m specs)[x]? = some s := ⟨_, List.getElem?_eq_getElem (by omega)⟩
          exact (valsOf_eq hs (st.holds x (hall x hx) s hs)).symm
        have hlist : listed = upTo l.length m' := ext_upTo st.size fun x hx => by
          rw [Bool.eq_iff_iff, st.iff x hx, decide_eq_true_eq]
          exact ⟨hhi x, hall x⟩
        have := hend vs W st.inv (fun j V' hj => by
          obtain ⟨i, hi, hi2⟩ := segFull_so hj
          have := (List.getElem?_eq_some_iff.1 hi2).1
          exact st.holds j (hall j (by omega)) _ hj)
        rw [st.frame, e1, e2, hlist]
        unfold wpFromI at this
        rw [show l.length - m' = fuel + 1 by omega] at this
        exact this
      refine ⟨fun hr => ?_, fun i hi => ?_⟩
      · exfalso
        apply hTm
        have hall : ∀ x, x < m' → x ∈ T := by
          intro x
          induction x using Nat.strongRecOn with
          | _ x ihx =>
            intro hx
            by_cases hxT : x ∈ T
            · exact hxT
            exfalso
            have hm : x ∈ Region.ready .any l.toArray listed := by
              rw [mem_ready]
              refine ⟨?_, l[x]'(by omega), by simp [show x < l.length by omega], fun e he hb => ?_⟩
              · have h1 := st.iff x (by omega)
                have hsz : x < listed.size := by rw [st.size]; omega
                cases hg : listed.getD x true with
                | false => rfl
                | true =>
                  have : listed.getD x false = true := by
                    simp only [Array.getD_eq_getD_getElem?, Array.getElem?_eq_getElem hsz, Option.getD_some] at hg ⊢; exact hg
                  exact absurd (h1.1 this) hxT
              · have hlt := (hl x _ (List.getElem?_eq_getElem (by omega))).1 e he hb
                exact (st.iff e.on (by omega)).2 (ihx e.on hlt (by omega))
            rw [hr] at hm; cases hm
        have hperm : T.Perm (List.range m') := by
          rw [List.perm_ext_iff_of_nodup st.nd List.nodup_range]
          exact fun x => ⟨fun h => List.mem_range.2 (hhi x h), fun h => hall x (List.mem_range.1 h)⟩
        simpa using hperm.length_eq
      obtain ⟨h0, o, ho', hpre⟩ := mem_ready.1 hi
      have ho : l[i]? = some o := by simpa using ho'
      have hil : i < l.length := (List.getElem?_eq_some_iff.1 ho).1
      have hiT : i ∉ T := by
        intro h
        have := (st.iff i hil).2 h
        have hsz : i < listed.size := by rw [st.size]; exact hil
        simp only [Array.getD_eq_getD_getElem?, Array.getElem?_eq_getElem hsz, Option.getD_some] at h0 this
        rw [h0] at this; cases this
      have hp : ∀ p, direct l p i = true → p ∈ T := by
        intro p hpd
        unfold direct at hpd
        rw [ho] at hpd
        obtain ⟨e, he, hb⟩ := Array.any_eq_true'.1 hpd
        simp only [Bool.and_eq_true, beq_iff_eq] at hb
        have := hpre e he hb.1
        rw [hb.2] at this
        have hlt := (hl i o ho).1 e he hb.1
        exact (st.iff p (by omega)).1 this
      have him : m ≤ i := by
        rcases Nat.lt_or_ge i m with h | h
        · exact absurd (hlo i h) hiT
        · exact h
      have him' : i < m' := by
        rcases Nat.lt_or_ge i m' with h | h
        · exact h
        exfalso
        apply hTm
        have hall := seg_closed hB hs (D := fun x => x ∈ T ∨ x = i) (fun x hx p hpd => by
          rcases hx with hx | rfl
          · exact .inl (st.closed x hx p hpd)
          · exact .inl (hp p hpd)) (x := i) (fun x hx => .inl (hlo x hx)) (by omega) hil (.inr rfl)
        have hall : ∀ x, x < m' → x ∈ T := fun x hx => by
          rcases hall x hx with h1 | h1
          · exact h1
          · omega
        have hperm : T.Perm (List.range m') := by
          rw [List.perm_ext_iff_of_nodup st.nd List.nodup_range]
          exact fun x => ⟨fun h => List.mem_range.2 (hhi x h), fun h => hall x (List.mem_range.1 h)⟩
        simpa using hperm.length_eq
      obtain ⟨s, hs'⟩ : ∃ s, (segFull l a0 m specs)[i]? = some s := ⟨_, List.getElem?_eq_getElem (by omega)⟩
      have hag := frame_agrees hB ho st.lt hiT hp st.closed st.holds hsl (a0 := a0)
      have hns := Region.noSelect_spec hsel
      have he := exec_congr (fun cs b => hns i o cs b ho') hag
      have hw := wanted_congr hag
      have hst := hstep i o s him him' ho hs' vs W st.inv (fun j V' hj hjs => st.holds j (hp j hj) _ hjs)
      have next : ∀ v W', Inv W' → s.holds v W' → (∀ (j : Nat) s', j ≠ i → (segFull l a0 m specs)[j]? = some s' → s'.holds (vs j) W → s'.holds (vs j) W') → wpAnyIn Fence.wide 0 P .any l.toArray Q fuel (listed.setIfInBounds i true) (a.put o.dst v) W' := by
        intro v W' hI' hv' hk'
        refine ih (T ++ [i]) _ _ _ W' (by simp; omega) (rgSt_put hB st ho hs' hiT hp hI' hv' fun j hj s' hs' h => hk' j s' (fun e => hiT (e ▸ hj)) hs' h) (fun x hx => List.mem_append_left _ (hlo x hx)) (fun x hx => ?_)
        rcases List.mem_append.1 hx with h1 | h1
        · exact hhi x h1
        · simp at h1; omega
      have nextS : ∀ x W', s = .is x → Sees W W' → wpAnyIn Fence.wide 0 P .any l.toArray Q fuel (listed.setIfInBounds i true) (a.put o.dst x) W' := by
        intro x W' hx hS
        subst hx
        exact next x W' (hI _ _ st.inv hS) rfl fun j s' _ hs' h => holds_stays hs' (fun V' hV'' hu => hVf j V' hV'' _ _ _ st.inv hu hS) h
      have nextG : ∀ V v W', s = .so V → rgGood Inv (segFull l a0 m specs) i V W v W' → wpAnyIn Fence.wide 0 P .any l.toArray Q fuel (listed.setIfInBounds i true) (a.put o.dst v) W' := by
        intro V v W' hx hG
        subst hx
        exact next v W' hG.1 hG.2.1 fun j s' hji hs' h => holds_stays hs' (fun V' hV'' hu => hG.2.2 j V' hji hV'' _ hu) h
      unfold wpOpIn
      rw [ho']
      simp only []
      rw [st.frame, hw]
      rw [st.frame] at next nextS nextG
      cases s with
      | is x =>
        rcases hst with ⟨h1, h2⟩ | ⟨h1, rfl⟩
        · rw [if_pos h1]
          refine ⟨fun _ _ => trivial, ?_⟩
          show o.uponIn _ _ _ _ _ _ ((execOp _ o).run P W)
          rw [he]
          rcases h2 with h2 | ⟨h2, rfl⟩ | ⟨f, args, h2, h3⟩
          · rw [h2]; exact nextS x W rfl (Sees.refl W)
          · rw [h2]; exact nextS undef W rfl (Sees.refl W)
          · rw [h2, Oper.uponIn_enter]
            refine ⟨fun h => (by cases h), CallsIn.mono (callsIn_wide.2 h3) (fun e W' ⟨he, hS⟩ => ?_)⟩
            subst he
            exact nextS x W' rfl hS
        · rw [if_neg (by rw [h1]; simp)]
          exact ⟨fun _ _ => trivial, nextS undef W rfl (Sees.refl W)⟩
      | so V =>
        rcases hst with ⟨h1, h2⟩ | ⟨h1, h2⟩
        · rw [if_pos h1]
          refine ⟨fun _ _ => trivial, ?_⟩
          show o.uponIn _ _ _ _ _ _ ((execOp _ o).run P W)
          rw [he]
          rcases h2 with ⟨v, W', h2, h3⟩ | ⟨W', h2, h3⟩ | ⟨f, args, h2, h3⟩
          · rw [h2]; exact nextG V v W' rfl h3
          · rw [h2]; exact nextG V undef W' rfl h3
          · rw [h2, Oper.uponIn_enter]
            refine ⟨fun h => (by cases h), CallsIn.mono (callsIn_wide.2 h3) (fun e W' ⟨v, he, hG⟩ => ?_)⟩
            subst he
            exact nextG V v W' rfl hG
        · rw [if_neg (by rw [h1]; simp)]
          exact ⟨fun _ _ => trivial, nextG V undef W rfl ⟨st.inv, h2, fun _ _ _ _ _ h => h⟩⟩
  refine main (l.length - m) (List.range m) (fun j => slotOf a0 (dstAt l j)) (upTo l.length m) a0 w (by simp; omega) ?_ (fun x hx => List.mem_range.2 hx) (fun x hx => by have := List.mem_range.1 hx; omega)
  refine ⟨List.nodup_range, fun x hx => by have := List.mem_range.1 hx; omega, upTo_size _ _, fun x hx => by rw [upTo_getD hx, List.mem_range, decide_eq_true_eq], fun x hx p hpd => ?_, (puts_slots a0 _ (fun _ _ => rfl)).symm, h0, fun x hx s hs' => ?_⟩
  · have hx := List.mem_range.1 hx
    unfold direct at hpd
    have hxl : x < l.length := by omega
    rw [List.getElem?_eq_getElem hxl] at hpd
    obtain ⟨e, he, hb⟩ := Array.any_eq_true'.1 hpd
    simp only [Bool.and_eq_true, beq_iff_eq] at hb
    have := (hl x _ (List.getElem?_eq_getElem hxl)).1 e he hb.1
    exact List.mem_range.2 (by omega)
  · rw [segFull_pre (List.mem_range.1 hx)] at hs'
    cases hs'
    rfl
/-- The region, its form asked once. -/
theorem wpFromI_go {id : Nat} (hm : P.follows .mixedOrders = true) (hB : rgB l = true) (h : Hid (rgB l = true) → ∀ W, Sees w W → wpFromI P l Q 0 a0 W) : (Code.region id l.toArray true).wpIn Fence.wide 0 P Q a0 w :=
  wpFromI_start hm (h (Lib.hid hB) _ (Sees.refl w).drew)
theorem wpFromI_to {m : Nat} (hB : Hid (rgB l = true)) (hml : m ≤ l.length) (hs : ((List.range' m (l.length - m)).all fun k => forcedB l k) = true) {r : List Oper} (hr : l.drop m = r)
    (h : wpListIn Fence.wide 0 P l.toArray Q r a0 w) : wpFromI P l Q m a0 w := by
  subst hr
  exact wpFromI_seq hB.out (l.length - m) m a0 w (by omega) hs h
/-- A part whose operations only read or make memory, in any order. -/
theorem wpFromI_any {m : Nat} (m' : Nat) (specs : List Spec) (hB : Hid (rgB l = true)) (hs : segB l m m' = true) (hlen : specs.length = m' - m) (hV : segStay (Sees w) specs) {r : List Oper} (hr : (l.drop m).take (m' - m) = r)
    (h : rgSteps P l (Sees w) (segFull l a0 m specs) (fun a W => wpFromI P l Q m' a W) m (fun _ => a0) r specs) : wpFromI P l Q m a0 w := by
  subst hr
  exact wpFromI_seg m m' hB.out specs hs hlen (Sees.refl w) (fun _ _ h k => h.trans k) (segStay_get specs hV) h
end
end Go.Proofs.YthcndmchlpohpaaGreatDoor
