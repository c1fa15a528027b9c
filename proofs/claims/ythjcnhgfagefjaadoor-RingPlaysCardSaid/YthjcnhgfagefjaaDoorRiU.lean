/- A region that draws its order, within a round over a function: by the laws for one outside. A ring's copy. No condition. -/
import Derived.Test.YthjcnhgfagefjaaDoorRefV
import Derived.OrdersIn
import Derived.RangeFuncCalls
import Derived.Test.YthjcnhgfagefjaaDoorRiP
import Derived.Test.YthjcnhgfagefjaaDoorBoth
namespace Go.Proofs.YthjcnhgfagefjaaDoor
set_option linter.unusedVariables false
set_option linter.unusedSimpArgs false
open Go.RowKit

section
variable {P : Program} {l : List Oper} {Q : Exit → Act → World → Prop} {a : Act} {w : World} {r : Nat}
def noDeferB (l : List Oper) : Bool := l.all fun o => match o.op with | .defer _ => false | _ => true
theorem noDefer_at {i : Nat} {o : Oper} (h : noDeferB l = true) (ho : l[i]? = some o) : ∀ c, o.op ≠ .defer c := by
  intro c e
  unfold noDeferB at h
  rw [List.all_eq_true] at h
  have := h o (List.mem_iff_getElem?.2 ⟨i, ho⟩)
  rw [e] at this
  cases this
theorem depth_wide : (Fence.wide.inRound r).depth.isSome = true → 1 ≤ 0 := by simp [Fence.wide]
theorem wpOpIn_of_wp {i : Nat} {K : Act → World → Prop} (hd : noDeferB l = true) (hQ : ¬ LetsOut Q) (h : wpOp P l.toArray Q i K a w) : wpOpIn (Fence.wide.inRound r) 0 P l.toArray Q i K a w := by
  unfold wpOp at h
  unfold wpOpIn
  cases ho : l.toArray[i]? with
  | none => simpa [ho] using h
  | some o =>
    simp only [ho] at h ⊢
    split at h
    · rename_i hw
      rw [if_pos hw]
      have h := h.resolve_right (fun h => hQ h.2)
      unfold Oper.wp at h
      unfold Oper.wpIn
      refine ⟨fun _ _ => trivial, ?_⟩
      rw [Oper.semAt_eq _ _ _ (noDefer_at hd (by simpa using ho))]
      revert h
      cases (execOp a.eval o).run P w with
      | ok x w' =>
        cases x with
        | value v => exact id
        | skip => exact id
        | defer d => exact id
        | enter f args => intro h; exact ⟨depth_wide, CallsIn.inRound r (callsIn_wide.2 h)⟩
        | row row args =>
          intro h
          refine ⟨depth_wide, fun c cs _ => ?_⟩
          obtain ⟨v, w2, h1, h2⟩ := h c cs
          exact ⟨v, w2, h1, stepsIn_wide.2 h2⟩
        | _ => intro h; exact h.elim
      | halt x w' => cases x <;> exact id
    · rename_i hw
      rw [if_neg hw]
      exact ⟨fun _ _ => trivial, h⟩
theorem wpAnyIn_of_wp (hd : noDeferB l = true) (hQ : ¬ LetsOut Q) : ∀ (f : Nat) (listed : Array Bool) (a : Act) (w : World), wpAny P .any l.toArray Q f listed a w → wpAnyIn (Fence.wide.inRound r) 0 P .any l.toArray Q f listed a w
  | 0, _, _, _, h => h
  | f + 1, listed, a, w, h => ⟨h.1, fun i hi => wpOpIn_mono (fun a' w' => wpAnyIn_of_wp hd hQ f _ a' w') (wpOpIn_of_wp hd hQ (h.2 i hi))⟩
theorem wpS_goIn {id : Nat} {f : Nat} (hm : P.follows .mixedOrders = true) (hB : rgB l = true) (hf : l.length = f) (hd : noDeferB l = true) (hQ : ¬ LetsOut Q) (h : Hid (rgB l = true) → ∀ W, Sees w W → wpAny P .any l.toArray Q f (dn l.length []) a W) : (Code.region id l.toArray true).wpIn (Fence.wide.inRound r) 0 P Q a w := by
  refine wpIn_region_any hm (wpAnyIn_of_wp hd hQ _ _ _ _ ?_)
  have := h (Lib.hid hB) w.drew (Sees.refl w).drew
  have e : dn l.length [] = Array.replicate l.toArray.size false := by
    apply Array.ext
    · simp [dn]
    · intro j h1 h2; simp [dn]
  rw [e, ← hf] at this
  simpa using this
end
end Go.Proofs.YthjcnhgfagefjaaDoor

namespace Go.Proofs.YthjcnhgfagefjaaDoor
set_option linter.unusedVariables false
set_option linter.unusedSimpArgs false
open Go.RowKit Go.Shelf
attribute [local go_sem] Oper.semAt_some

/-- What stands between the rounds of Copy. -/
structure CopyI (W0 : World) (C S : Nat) (most page first next : Int) (ps : List Pg) (W : World) : Prop where
  see : Sees W0 W
  out : ∃ v, RiAt W C most page first next v ∧ pgEl.Own (fun b => S + 2 ≤ b) W v ps
theorem CopyI.keeps {W0 W W' : World} {C S : Nat} {most page first next : Int} {ps : List Pg} (h : CopyI W0 C S most page first next ps W) (h0 : W0.heap.size ≤ S) (h1 : C < S) (hk : Keeps (fun b => b = S ∨ b = S + 1) W W') : CopyI W0 C S most page first next ps W' := by
  obtain ⟨v, h2, h3⟩ := h.out
  exact ⟨((Keeps.of_sees (F := fun _ => False) h.see).trans' hk (fun b hb e => by omega)).sees_end (fun _ _ h => h), v, h2.keeps hk (by omega), h3.keeps hk (fun b hb e => by omega)⟩

section
variable {w1 W : World} {F : Nat → Prop} {r : Nat} {d : RD}
set_option maxRecDepth 100000 in
set_option maxHeartbeats 8000000 in
theorem rcopy_ok (h : RiM w1 F W r d) (hd : d.Ok) :
    Calls Tryd.prog 32 #[.pointer (some ⟨r, 0, none⟩)] W fun e w' => ∃ q, e = .returned (.pointer (some ⟨q, 0, none⟩)) ∧ RiM W (fun b => W.heap.size ≤ b) w' q d ∧ Sees W w' := by
  obtain ⟨av, c, pp, hpg, hpi⟩ := h.pgs hd
  have hle := ps_le (fun p hp => (hd.pgs p hp).2)
  have g3 := hd.few
  obtain ⟨N, hN⟩ : ∃ N, N = d.ps.length := ⟨_, rfl⟩
  rw [← hN] at hpg hle
  obtain ⟨a', c', hA, _⟩ := h.words
  have H := Lib.hid h
  have HD := Lib.hid hd
  have HPG := Lib.hid hpg
  have HPI := Lib.hid hpi
  have HA := Lib.hid hA
  have HN := Lib.hid hN
  have G3 := Lib.hid g3
  have HLE := Lib.hid hle
  clear h hd hpg hpi hle hN hA g3
  refine callsIn_wide (n := 0) |>.1 ?_
  refine callsIn_of_wp_marks Tryd.func32 rfl trivial ?_ rfl
  refine wpIn_wide.2 ?_
  simp only [Tryd.ntmps32, List.size_toArray, List.length_cons, List.length_nil, Nat.reduceAdd, Nat.reduceSub, Array.replicate_succ, Array.replicate_zero, List.push_toArray, List.append_toArray, List.nil_append, List.cons_append]
  go_wp2_with fail
  refine (rzero_at _ r _ _ _ _ _ HA.out HD.out.page0).mono ?_
  rintro e W2 ⟨rfl, hs⟩
  obtain ⟨x0, x1, x2, x3, x4⟩ := (HA.out.sees hs).c
  have HS := Lib.hid hs
  clear hs
  go_wp2_with fail
  refine wp_world (fun WL hWL => ?_)
  have SL : Sees W2 WL := by subst hWL; exact (Sees.refl _).alloc _
  have HZ : Hid (W2.heap.size + 1 = WL.heap.size) := Lib.hid (by subst hWL; rw [World.size_alloc])
  have HC := Lib.hid (show RiAt WL W2.heap.size d.most d.page d.first d.next (.slice none 0 0) by subst hWL; exact RiAt.new rfl)
  have HSL := Lib.hid (HS.out.trans SL)
  have HZ1 : Hid (W.heap.size ≤ W2.heap.size) := Lib.hid HS.out.size
  clear hWL SL x0 x1 x2 x3 x4
  refine wp_pages r N av c pp (by have h1 := HLE.out; have h2 := G3.out; omega) rfl rfl (fun j Wj => CopyI W W2.heap.size WL.heap.size d.most d.page d.first d.next (d.ps.take j) Wj)
    (fun j A B hi hk => hi.keeps (by have := HZ1.out; have := HZ.out; omega) (by have := HZ.out; omega) hk) (fun j A hi => HPG.out.keeps hi.see)
    ⟨HSL.out, _, HC.out, by have := El.Own.nil (E := pgEl) (fun b => WL.heap.size + 2 ≤ b) WL; simpa using this⟩ ?round ?done
  case done =>
    intro WD hi hD
    rw [show d.ps.take N = d.ps from by rw [HN.out]; exact List.take_length] at hi
    obtain ⟨v, hv, ho⟩ := hi.out
    have HI := Lib.hid hi.see
    have HV := Lib.hid hv
    have HO := Lib.hid ho
    have HD8 := Lib.hid hD
    clear hi hv ho hD
    go_wp2_with fail
    have hz1 := HZ1.out
    have hz2 := HZ.out
    have hp : Keeps (fun b => b = WL.heap.size) WD (WD.putObj WL.heap.size (.deferred none)) := ⟨rfl, rfl, rfl, by rw [World.putObj_size]; exact Nat.le_refl _, fun b _ hb => World.putObj_heap_other hb⟩
    have hsee : Sees W (WD.putObj WL.heap.size (.deferred none)) := ((Keeps.of_sees (F := fun _ => False) HI.out).trans' hp (fun b hb e => by omega)).sees_end (fun _ _ h => h)
    refine marks_ret rfl HD8.out (v := .pointer (some ⟨W2.heap.size, 0, none⟩)) (by simp [results, Tryd.results32, go_sem]) ⟨W2.heap.size, rfl, ⟨hsee, hz1, fun b hb => hb, v, HV.out.keeps hp (by omega), (HO.out.keeps hp (fun b hb e => by omega)).mono (fun b _ hb => ⟨by omega, by omega⟩)⟩, hsee⟩
  case round =>
    intro l j WR hj
    gi_wp2
    refine ⟨trivial, fun W' hi hz => ?_⟩
    obtain ⟨x, hx⟩ : ∃ x, d.ps[j]? = some x := ⟨_, List.getElem?_eq_getElem (by rw [← HN.out]; exact hj)⟩
    obtain ⟨Fx, hpg, _, _⟩ := (H.out.sees hi.see).pageAt HD.out hx ((HPI.out j x hx).sees hi.see)
    obtain ⟨v, hv, ho⟩ := hi.out
    obtain ⟨av1, ac1, rfl, _⟩ := ho.slice
    have HI := Lib.hid hi.see
    have HV := Lib.hid hv
    have HO := Lib.hid ho
    have HPg := Lib.hid hpg
    have HX := Lib.hid hx
    have HZW := Lib.hid hz
    clear hi hv ho hpg hx hz
    have hno : pgEl.Own (fun b => WL.heap.size + 2 ≤ b ∧ b < W'.heap.size) W' (.slice av1 (d.ps.take j).length ac1) (d.ps.take j) := HO.out.cut
    obtain ⟨n, hn⟩ : ∃ n, n = (d.ps.take j).length := ⟨_, rfl⟩
    have HTK := Lib.hid (show (d.ps.take j).length = j by rw [List.length_take]; have := HN.out; omega)
    rw [← hn] at HV hno
    have HTK2 := Lib.hid hn
    have HNO := Lib.hid hno
    have HXK := Lib.hid (HD.out.pgs x (List.mem_iff_getElem?.2 ⟨j, HX.out⟩)).1
    clear hn hno HO
    gi_wp2_with fail
    refine wpS_goIn (f := 8) (by kernel_rfl) (by kernel_rfl) (by rfl) (by kernel_rfl) (by rintro ⟨_, _, h⟩; exact h) (fun hB w6 hs6 => ?_)
    have HV1 := Lib.hid (HV.out.sees hs6)
    have HO1 := Lib.hid (HNO.out.sees hs6)
    refine wpS_take (i := 0) (v := .pointer (some ⟨W2.heap.size, 4, none⟩)) hB (by rfl) (by kernel_rfl) (fun _ _ _ _ _ h => h) (wanted_none (by rfl) _) (fun W => by go_simp) ?_; (try simp only [Act.put, List.setIfInBounds_toArray, List.set_cons_zero, List.set_cons_succ])
    refine wpS_take (i := 2) (v := .pointer (some ⟨pp j, 0, none⟩)) hB (by rfl) (by kernel_rfl) (fun _ _ _ _ _ h => h) (wanted_none (by rfl) _) (fun W => by go_simp) ?_; (try simp only [Act.put, List.setIfInBounds_toArray, List.set_cons_zero, List.set_cons_succ])
    refine wpS_two (i := 1) (j := 3) (by kernel_rfl) ?_ ?_
    · refine wpOp_val (v := .slice av1 n ac1) (w' := w6) (by rfl) (wanted_none (by rfl) _) (by have q := (HV1.out.sees (Sees.refl w6)).c; obtain ⟨q0, q1, q2, q3, q4⟩ := q; go_simp) ?_; (try simp only [Act.put, List.setIfInBounds_toArray, List.set_cons_zero, List.set_cons_succ])
      refine wpS_only (i := 3) (by kernel_rfl) ?_
      refine wpOp_enter (fn := 50) (args := #[.pointer (some ⟨pp j, 0, none⟩)]) (by rfl) (by rfl) (by go_simp) ((pgCopy_ok (HPg.out.sees hs6).toS).mono ?_); rintro e W7 ⟨q, rfl, hq, hsq⟩; refine ⟨_, rfl, ?_⟩; (try simp only [Act.put, List.setIfInBounds_toArray, List.set_cons_zero, List.set_cons_succ]); have HQ := Lib.hid hq; have HSQ := Lib.hid hsq; clear hq hsq
      refine wpS_only (i := 4) (by kernel_rfl) ?_
      refine wpOp_val (v := .slice (some ⟨(W7).heap.size, 0, none⟩) 1 1) (w' := (W7).alloc (.cells #[.pointer (some ⟨q, 0, none⟩)] 88)) (by rfl) (wanted_none (by rfl) _) (by go_simp) ?_; (try simp only [Act.put, List.setIfInBounds_toArray, List.set_cons_zero, List.set_cons_succ])
      have hzq := HSQ.out.size
      have hz6 := hs6.size
      have hBs : Sees W7 (W7.alloc (.cells #[.pointer (some ⟨q, 0, none⟩)] 88)) := (Sees.refl _).alloc _
      have hzB : (W7.alloc (.cells #[.pointer (some ⟨q, 0, none⟩)] 88)).heap.size = W7.heap.size + 1 := Array.size_push _
      have hrow : (W7.alloc (.cells #[.pointer (some ⟨q, 0, none⟩)] 88)).heap[W7.heap.size]? = some (.cells #[.pointer (some ⟨q, 0, none⟩)] 88 (0, 0)) := heap_alloc_new _ _
      have HV8 := Lib.hid (HV1.out.sees (HSQ.out.trans hBs))
      have HO8 := Lib.hid (HO1.out.sees (HSQ.out.trans hBs))
      have HP8 := Lib.hid (show Page (fun b => w6.heap.size ≤ b ∧ b < W7.heap.size) (W7.alloc (.cells #[.pointer (some ⟨q, 0, none⟩)] 88)) q x.most x.gone x.ls by have := HQ.out.page.sees hBs; rw [HXK.out.most]; exact this)
      have HS8 := Lib.hid (HSQ.out.trans hBs)
      generalize W7.alloc (.cells #[.pointer (some ⟨q, 0, none⟩)] 88) = W8 at *
      obtain ⟨v2, W9, hr9, ho9, hk9⟩ := El.run_append_own (E := pgEl) typedPg 55 HO8.out ⟨W7.heap.size, 0, none⟩ 1 1 [.pointer (some ⟨q, 0, none⟩)] [x] (fun b => w6.heap.size ≤ b ∧ b < W7.heap.size) (El.ownIn_one ⟨q, rfl, HP8.out⟩) rfl (fun jj u hu => El.row_cells hrow jj u hu) (fun b hb => by omega) (fun b hb => ⟨by omega, fun h => by omega⟩) (by rw [HTK.out]; have h1 := HLE.out; have h2 := G3.out; simp only [List.length_cons, List.length_nil]; omega)
      obtain ⟨a2, c2, hv2, _⟩ := ho9.slice
      generalize (List.take j d.ps ++ [x]).length = m2 at hv2
      subst hv2
      refine wpS_only (i := 5) (by kernel_rfl) ?_
      refine wpOp_val (by rfl) (wanted_none (by rfl) _) (exec_append (v := .slice av1 n ac1) (u := .slice (some ⟨W7.heap.size, 0, none⟩) 1 1) rfl (by clear hr9; go_simp) (by clear hr9; go_simp) hr9) ?_
      (try simp only [Act.put, List.setIfInBounds_toArray, List.set_cons_zero, List.set_cons_succ])
      clear hr9
      have HV9 := Lib.hid (HV8.out.keeps hk9 (fun e => by have := (HO8.out.base e).1; have := HZ.out; omega))
      have hk79 : Keeps (fun b => WL.heap.size + 2 ≤ b) W' W9 := ((Keeps.of_sees (F := fun b => WL.heap.size + 2 ≤ b) (hs6.trans HS8.out))).trans (hk9.mono (fun b _ e => (HO8.out.base e).1.1))
      have hkC : Keeps (fun b => b = W2.heap.size) W9 (W9.setCell ⟨W2.heap.size, 4, none⟩ (.slice a2 m2 c2)) := Keeps.setCell (F := fun b => b = W2.heap.size) (Keeps.refl _ W9) (p := ⟨W2.heap.size, 4, none⟩) (fun _ => rfl) (.slice a2 m2 c2)
      refine wpS_take (i := 6) (v := .pointer (some ⟨W2.heap.size, 4, none⟩)) hB (by rfl) (by kernel_rfl) (fun _ _ _ _ _ h => h) (wanted_none (by rfl) _) (fun W => by go_simp) ?_; (try simp only [Act.put, List.setIfInBounds_toArray, List.set_cons_zero, List.set_cons_succ])
      refine wpS_only (i := 7) (by kernel_rfl) ?_
      refine wpOp_skip (w' := W9.setCell ⟨W2.heap.size, 4, none⟩ (.slice a2 m2 c2)) (by rfl) (wanted_none (by rfl) _) (by have q := HV9.out.c; have qf := HV9.out.fr 4; clear hkC hk79; obtain ⟨q0, q1, q2, q3, q4⟩ := q; go_simp) ?_
      (try simp only [Act.put, List.setIfInBounds_toArray, List.set_cons_zero, List.set_cons_succ])
      refine wpS_end (by kernel_rfl) ?_
      have hz1 := HZ1.out
      have hz2 := HZ.out
      have hzr := HZW.out
      refine ⟨⟨?_, .slice a2 m2 c2, HV9.out.set4 _, ?_⟩, ?_⟩
      · exact ((((Keeps.of_sees (F := fun _ => False) HI.out).trans' hk79 (fun b hb e => by omega))).trans' hkC (fun b hb e => by omega)).sees_end (fun _ _ h => h)
      · rw [List.take_add_one, HX.out]
        exact (ho9.keeps hkC (fun b hb e => by rcases hb with hb | hb | hb <;> omega)).mono (fun b _ hb => by rcases hb with hb | hb | hb <;> omega)
      · exact (hk79.mono (fun b _ h => ⟨by omega, by omega⟩)).trans (hkC.mono (fun b _ e => ⟨by omega, by omega⟩))
    · refine wpOp_enter (fn := 50) (args := #[.pointer (some ⟨pp j, 0, none⟩)]) (by rfl) (by rfl) (by go_simp) ((pgCopy_ok (HPg.out.sees hs6).toS).mono ?_); rintro e W7 ⟨q, rfl, hq, hsq⟩; refine ⟨_, rfl, ?_⟩; (try simp only [Act.put, List.setIfInBounds_toArray, List.set_cons_zero, List.set_cons_succ]); have HQ := Lib.hid hq; have HSQ := Lib.hid hsq; clear hq hsq
      refine wpS_two (i := 1) (j := 4) (by kernel_rfl) ?_ ?_
      · refine wpOp_val (v := .slice av1 n ac1) (w' := W7) (by rfl) (wanted_none (by rfl) _) (by have q := (HV1.out.sees (HSQ.out)).c; obtain ⟨q0, q1, q2, q3, q4⟩ := q; go_simp) ?_; (try simp only [Act.put, List.setIfInBounds_toArray, List.set_cons_zero, List.set_cons_succ])
        refine wpS_only (i := 4) (by kernel_rfl) ?_
        refine wpOp_val (v := .slice (some ⟨(W7).heap.size, 0, none⟩) 1 1) (w' := (W7).alloc (.cells #[.pointer (some ⟨q, 0, none⟩)] 88)) (by rfl) (wanted_none (by rfl) _) (by go_simp) ?_; (try simp only [Act.put, List.setIfInBounds_toArray, List.set_cons_zero, List.set_cons_succ])
        have hzq := HSQ.out.size
        have hz6 := hs6.size
        have hBs : Sees W7 (W7.alloc (.cells #[.pointer (some ⟨q, 0, none⟩)] 88)) := (Sees.refl _).alloc _
        have hzB : (W7.alloc (.cells #[.pointer (some ⟨q, 0, none⟩)] 88)).heap.size = W7.heap.size + 1 := Array.size_push _
        have hrow : (W7.alloc (.cells #[.pointer (some ⟨q, 0, none⟩)] 88)).heap[W7.heap.size]? = some (.cells #[.pointer (some ⟨q, 0, none⟩)] 88 (0, 0)) := heap_alloc_new _ _
        have HV8 := Lib.hid (HV1.out.sees (HSQ.out.trans hBs))
        have HO8 := Lib.hid (HO1.out.sees (HSQ.out.trans hBs))
        have HP8 := Lib.hid (show Page (fun b => w6.heap.size ≤ b ∧ b < W7.heap.size) (W7.alloc (.cells #[.pointer (some ⟨q, 0, none⟩)] 88)) q x.most x.gone x.ls by have := HQ.out.page.sees hBs; rw [HXK.out.most]; exact this)
        have HS8 := Lib.hid (HSQ.out.trans hBs)
        generalize W7.alloc (.cells #[.pointer (some ⟨q, 0, none⟩)] 88) = W8 at *
        obtain ⟨v2, W9, hr9, ho9, hk9⟩ := El.run_append_own (E := pgEl) typedPg 55 HO8.out ⟨W7.heap.size, 0, none⟩ 1 1 [.pointer (some ⟨q, 0, none⟩)] [x] (fun b => w6.heap.size ≤ b ∧ b < W7.heap.size) (El.ownIn_one ⟨q, rfl, HP8.out⟩) rfl (fun jj u hu => El.row_cells hrow jj u hu) (fun b hb => by omega) (fun b hb => ⟨by omega, fun h => by omega⟩) (by rw [HTK.out]; have h1 := HLE.out; have h2 := G3.out; simp only [List.length_cons, List.length_nil]; omega)
        obtain ⟨a2, c2, hv2, _⟩ := ho9.slice
        generalize (List.take j d.ps ++ [x]).length = m2 at hv2
        subst hv2
        refine wpS_only (i := 5) (by kernel_rfl) ?_
        refine wpOp_val (by rfl) (wanted_none (by rfl) _) (exec_append (v := .slice av1 n ac1) (u := .slice (some ⟨W7.heap.size, 0, none⟩) 1 1) rfl (by clear hr9; go_simp) (by clear hr9; go_simp) hr9) ?_
        (try simp only [Act.put, List.setIfInBounds_toArray, List.set_cons_zero, List.set_cons_succ])
        clear hr9
        have HV9 := Lib.hid (HV8.out.keeps hk9 (fun e => by have := (HO8.out.base e).1; have := HZ.out; omega))
        have hk79 : Keeps (fun b => WL.heap.size + 2 ≤ b) W' W9 := ((Keeps.of_sees (F := fun b => WL.heap.size + 2 ≤ b) (hs6.trans HS8.out))).trans (hk9.mono (fun b _ e => (HO8.out.base e).1.1))
        have hkC : Keeps (fun b => b = W2.heap.size) W9 (W9.setCell ⟨W2.heap.size, 4, none⟩ (.slice a2 m2 c2)) := Keeps.setCell (F := fun b => b = W2.heap.size) (Keeps.refl _ W9) (p := ⟨W2.heap.size, 4, none⟩) (fun _ => rfl) (.slice a2 m2 c2)
        refine wpS_take (i := 6) (v := .pointer (some ⟨W2.heap.size, 4, none⟩)) hB (by rfl) (by kernel_rfl) (fun _ _ _ _ _ h => h) (wanted_none (by rfl) _) (fun W => by go_simp) ?_; (try simp only [Act.put, List.setIfInBounds_toArray, List.set_cons_zero, List.set_cons_succ])
        refine wpS_only (i := 7) (by kernel_rfl) ?_
        refine wpOp_skip (w' := W9.setCell ⟨W2.heap.size, 4, none⟩ (.slice a2 m2 c2)) (by rfl) (wanted_none (by rfl) _) (by have q := HV9.out.c; have qf := HV9.out.fr 4; clear hkC hk79; obtain ⟨q0, q1, q2, q3, q4⟩ := q; go_simp) ?_
        (try simp only [Act.put, List.setIfInBounds_toArray, List.set_cons_zero, List.set_cons_succ])
        refine wpS_end (by kernel_rfl) ?_
        have hz1 := HZ1.out
        have hz2 := HZ.out
        have hzr := HZW.out
        refine ⟨⟨?_, .slice a2 m2 c2, HV9.out.set4 _, ?_⟩, ?_⟩
        · exact ((((Keeps.of_sees (F := fun _ => False) HI.out).trans' hk79 (fun b hb e => by omega))).trans' hkC (fun b hb e => by omega)).sees_end (fun _ _ h => h)
        · rw [List.take_add_one, HX.out]
          exact (ho9.keeps hkC (fun b hb e => by rcases hb with hb | hb | hb <;> omega)).mono (fun b _ hb => by rcases hb with hb | hb | hb <;> omega)
        · exact (hk79.mono (fun b _ h => ⟨by omega, by omega⟩)).trans (hkC.mono (fun b _ e => ⟨by omega, by omega⟩))
      · refine wpOp_val (v := .slice (some ⟨(W7).heap.size, 0, none⟩) 1 1) (w' := (W7).alloc (.cells #[.pointer (some ⟨q, 0, none⟩)] 88)) (by rfl) (wanted_none (by rfl) _) (by go_simp) ?_; (try simp only [Act.put, List.setIfInBounds_toArray, List.set_cons_zero, List.set_cons_succ])
        refine wpS_only (i := 1) (by kernel_rfl) ?_
        refine wpOp_val (v := .slice av1 n ac1) (w' := (W7.alloc (.cells #[.pointer (some ⟨q, 0, none⟩)] 88))) (by rfl) (wanted_none (by rfl) _) (by have q := (HV1.out.sees (HSQ.out.trans ((Sees.refl W7).alloc (.cells #[.pointer (some ⟨q, 0, none⟩)] 88)))).c; obtain ⟨q0, q1, q2, q3, q4⟩ := q; go_simp) ?_; (try simp only [Act.put, List.setIfInBounds_toArray, List.set_cons_zero, List.set_cons_succ])
        have hzq := HSQ.out.size
        have hz6 := hs6.size
        have hBs : Sees W7 (W7.alloc (.cells #[.pointer (some ⟨q, 0, none⟩)] 88)) := (Sees.refl _).alloc _
        have hzB : (W7.alloc (.cells #[.pointer (some ⟨q, 0, none⟩)] 88)).heap.size = W7.heap.size + 1 := Array.size_push _
        have hrow : (W7.alloc (.cells #[.pointer (some ⟨q, 0, none⟩)] 88)).heap[W7.heap.size]? = some (.cells #[.pointer (some ⟨q, 0, none⟩)] 88 (0, 0)) := heap_alloc_new _ _
        have HV8 := Lib.hid (HV1.out.sees (HSQ.out.trans hBs))
        have HO8 := Lib.hid (HO1.out.sees (HSQ.out.trans hBs))
        have HP8 := Lib.hid (show Page (fun b => w6.heap.size ≤ b ∧ b < W7.heap.size) (W7.alloc (.cells #[.pointer (some ⟨q, 0, none⟩)] 88)) q x.most x.gone x.ls by have := HQ.out.page.sees hBs; rw [HXK.out.most]; exact this)
        have HS8 := Lib.hid (HSQ.out.trans hBs)
        generalize W7.alloc (.cells #[.pointer (some ⟨q, 0, none⟩)] 88) = W8 at *
        obtain ⟨v2, W9, hr9, ho9, hk9⟩ := El.run_append_own (E := pgEl) typedPg 55 HO8.out ⟨W7.heap.size, 0, none⟩ 1 1 [.pointer (some ⟨q, 0, none⟩)] [x] (fun b => w6.heap.size ≤ b ∧ b < W7.heap.size) (El.ownIn_one ⟨q, rfl, HP8.out⟩) rfl (fun jj u hu => El.row_cells hrow jj u hu) (fun b hb => by omega) (fun b hb => ⟨by omega, fun h => by omega⟩) (by rw [HTK.out]; have h1 := HLE.out; have h2 := G3.out; simp only [List.length_cons, List.length_nil]; omega)
        obtain ⟨a2, c2, hv2, _⟩ := ho9.slice
        generalize (List.take j d.ps ++ [x]).length = m2 at hv2
        subst hv2
        refine wpS_only (i := 5) (by kernel_rfl) ?_
        refine wpOp_val (by rfl) (wanted_none (by rfl) _) (exec_append (v := .slice av1 n ac1) (u := .slice (some ⟨W7.heap.size, 0, none⟩) 1 1) rfl (by clear hr9; go_simp) (by clear hr9; go_simp) hr9) ?_
        (try simp only [Act.put, List.setIfInBounds_toArray, List.set_cons_zero, List.set_cons_succ])
        clear hr9
        have HV9 := Lib.hid (HV8.out.keeps hk9 (fun e => by have := (HO8.out.base e).1; have := HZ.out; omega))
        have hk79 : Keeps (fun b => WL.heap.size + 2 ≤ b) W' W9 := ((Keeps.of_sees (F := fun b => WL.heap.size + 2 ≤ b) (hs6.trans HS8.out))).trans (hk9.mono (fun b _ e => (HO8.out.base e).1.1))
        have hkC : Keeps (fun b => b = W2.heap.size) W9 (W9.setCell ⟨W2.heap.size, 4, none⟩ (.slice a2 m2 c2)) := Keeps.setCell (F := fun b => b = W2.heap.size) (Keeps.refl _ W9) (p := ⟨W2.heap.size, 4, none⟩) (fun _ => rfl) (.slice a2 m2 c2)
        refine wpS_take (i := 6) (v := .pointer (some ⟨W2.heap.size, 4, none⟩)) hB (by rfl) (by kernel_rfl) (fun _ _ _ _ _ h => h) (wanted_none (by rfl) _) (fun W => by go_simp) ?_; (try simp only [Act.put, List.setIfInBounds_toArray, List.set_cons_zero, List.set_cons_succ])
        refine wpS_only (i := 7) (by kernel_rfl) ?_
        refine wpOp_skip (w' := W9.setCell ⟨W2.heap.size, 4, none⟩ (.slice a2 m2 c2)) (by rfl) (wanted_none (by rfl) _) (by have q := HV9.out.c; have qf := HV9.out.fr 4; clear hkC hk79; obtain ⟨q0, q1, q2, q3, q4⟩ := q; go_simp) ?_
        (try simp only [Act.put, List.setIfInBounds_toArray, List.set_cons_zero, List.set_cons_succ])
        refine wpS_end (by kernel_rfl) ?_
        have hz1 := HZ1.out
        have hz2 := HZ.out
        have hzr := HZW.out
        refine ⟨⟨?_, .slice a2 m2 c2, HV9.out.set4 _, ?_⟩, ?_⟩
        · exact ((((Keeps.of_sees (F := fun _ => False) HI.out).trans' hk79 (fun b hb e => by omega))).trans' hkC (fun b hb e => by omega)).sees_end (fun _ _ h => h)
        · rw [List.take_add_one, HX.out]
          exact (ho9.keeps hkC (fun b hb e => by rcases hb with hb | hb | hb <;> omega)).mono (fun b _ hb => by rcases hb with hb | hb | hb <;> omega)
        · exact (hk79.mono (fun b _ h => ⟨by omega, by omega⟩)).trans (hkC.mono (fun b _ e => ⟨by omega, by omega⟩))
end
end Go.Proofs.YthjcnhgfagefjaaDoor
