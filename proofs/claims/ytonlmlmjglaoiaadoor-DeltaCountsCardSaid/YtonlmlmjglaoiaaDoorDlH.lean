/- Patches applied to a screen, as the program does it. The tables hold what the program's text lays. -/
import Derived.Test.YtonlmlmjglaoiaaDoorElC
import Derived.IntWalk
namespace Go.Proofs.YtonlmlmjglaoiaaDoor
set_option linter.unusedVariables false
set_option linter.unusedSimpArgs false
open Go.RowKit

section
variable {x0 x y : List Ln} {l r : List Pt} {p : Pt} {e : Int}
theorem apP_err (h : apP zc rowOk x0 l = (0, x)) (h1 : ap1 zc rowOk x p = (e, [])) (he : e ≠ 0) : apP zc rowOk x0 (l ++ p :: r) = (e, []) := by
  rw [apP_append zc rowOk h, apP, h1]; simp [he]
theorem apP_more (h : apP zc rowOk x0 l = (0, x)) (h1 : ap1 zc rowOk x p = (0, y)) : apP zc rowOk x0 (l ++ [p]) = (0, y) := by
  rw [apP_append zc rowOk h, apP, h1]; simp [apP]
theorem ap1_r (h : p.row < 0 ∨ (x.length : Int) ≤ p.row) : ap1 zc rowOk x p = (3, []) := by unfold ap1; rw [if_pos h]
variable {i q : Nat} {t : Ln}
theorem ap1_c (hr : p.row = i) (ht : x[i]? = some t) (h : p.col < 0 ∨ (t.cells.length : Int) < p.col ∨ (t.cells.length : Int) < p.col + p.cells.length) : ap1 zc rowOk x p = (3, []) := by
  have hi := (List.getElem?_eq_some_iff.1 ht).1
  unfold ap1
  rw [if_neg (by omega), hr, Int.toNat_natCast, ht]
  simp only
  rw [if_pos h]
theorem ap1_m (hr : p.row = i) (ht : x[i]? = some t) (hc : p.col = q) (hq : q + p.cells.length ≤ t.cells.length) (h : rowOk p.cells = false ∨ torn zc t.cells q p.cells.length = true) : ap1 zc rowOk x p = (12, []) := by
  have hi := (List.getElem?_eq_some_iff.1 ht).1
  unfold ap1
  rw [if_neg (by omega), hr, Int.toNat_natCast, ht]
  simp only
  rw [if_neg (by omega), hc, Int.toNat_natCast, if_pos h]
theorem ap1_ok (hr : p.row = i) (ht : x[i]? = some t) (hc : p.col = q) (hq : q + p.cells.length ≤ t.cells.length) (h : rowOk p.cells = true ∧ torn zc t.cells q p.cells.length = false) : ap1 zc rowOk x p = (0, x.set i ⟨putAt t.cells q p.cells, p.soft⟩) := by
  have hi := (List.getElem?_eq_some_iff.1 ht).1
  unfold ap1
  rw [if_neg (by omega), hr, Int.toNat_natCast, ht]
  simp only
  rw [if_neg (by omega), hc, Int.toNat_natCast, if_neg (by rw [h.1, h.2]; simp)]
theorem isz_at {cs : List Cell} {k : Nat} {c : Cell} (h : cs[k]? = some c) : isz zc cs k = (c.width == 0) := by unfold isz; rw [h]; rfl
theorem isz_no {cs : List Cell} {k : Nat} (h : cs.length ≤ k) : isz zc cs k = false := by unfold isz; rw [List.getElem?_eq_none h]
end
theorem own_cells_at {F : Nat → Prop} {W : World} {a : Option Addr} {n c : Nat} {cs : List Cell} (h : cellEl.Own F W (.slice a n c) cs) (hn : 0 < n) : ∃ g, a = some ⟨g, 0, none⟩ ∧ F g ∧ n ≤ c ∧ n = cs.length ∧ ∀ (i : Nat) x, cs[i]? = some x → CellAt W g (i * 16) x := by
  obtain ⟨ho, hF⟩ := h.cells
  obtain ⟨ao, cap, hv, hh⟩ := ho.rd
  obtain ⟨hlen, hrow⟩ := ho
  rcases hrow with ⟨hv', hz⟩ | ⟨g, cap, cur, hv', _, hg, hc1, hc2, hsz, htk⟩
  · cases hv'; omega
  cases hv'; cases hv
  obtain ⟨b, o, e, hat⟩ := hh (by intro e; rw [e] at hn; simp at hn)
  cases e
  exact ⟨g, rfl, hF g rfl, hc1, rfl, fun i x hx => by have := hat i x hx; rwa [Nat.zero_add] at this⟩
theorem lnEl_own {F : Nat → Prop} {w : World} {vs : List Value} {l : Ln} (h : lnEl.own F w vs l) : ∃ a c, vs = [.slice a l.cells.length c, .bool l.soft] ∧ l.cells.length ≤ c ∧ cellEl.Own F w (.slice a l.cells.length c) l.cells := by
  obtain ⟨v, rfl, ho⟩ := h
  obtain ⟨a, c, rfl, hc⟩ := ho.slice
  exact ⟨a, c, rfl, hc, ho⟩

theorem exec_copy {P : Program} {ρ : Operand → Value} {o : Oper} {s x : Operand} {t t' : TypeId} {v u v' : Value} {W W' : World} (ho : o.op = .call { callee := .builtin .copy, args := #[s, x], argTypes := #[t, t'] }) (hs : ρ s = v) (hx : ρ x = u)
    (hr : (Builtin.copy_ #[t, t'] o.type #[v, u]).run P W = .ok v' W') : (execOp ρ o).run P W = .ok (.value v') W' := by
  unfold execOp
  simp only [ho, resolve, invoke, builtin, Sem.run_bind, Sem.run_pure, Result.andThen_ok, List.map_toArray, List.map_cons, List.map_nil, hs, hx, hr]
theorem exec_from {P : Program} {ρ : Operand → Value} {o : Oper} {t : TypeId} {x lo : Operand} {a b v : Value} {W W' : World} (ho : o.op = .slice t x (some lo) none none) (hx : ρ x = a) (hlo : ρ lo = b)
    (h : (Instr.sliceAt t a (some b) none none).run P W = .ok v W') : (execOp ρ o).run P W = .ok (.value v) W' := by
  unfold execOp
  rw [ho]
  simp only [hx, hlo, Option.map_some, Option.map_none, Sem.run_bind, h, Result.andThen_ok]
  rfl
set_option maxRecDepth 100000 in
theorem slice_from (a : Option Addr) (n c q : Nat) (hq : q ≤ n) (hc : n ≤ c) (ha : a = none → n = 0 ∧ c = 0) (hs : ∀ x, a = some x → x.spot = none) : ∃ a', ∀ W, (Instr.sliceAt 25 (.slice a n c) (some (.int .i64 (q : Int))) none none).run Tryd.prog W = .ok (.slice a' (n - q) (c - q)) W := by
  cases a with
  | none =>
    obtain ⟨rfl, rfl⟩ := ha rfl
    obtain rfl : q = 0 := by omega
    exact ⟨none, fun W => by go_simp⟩
  | some x =>
    obtain ⟨b, o, sp⟩ := x
    have := hs _ rfl
    simp only at this
    subst this
    by_cases h : c = q
    · subst h
      obtain rfl : n = c := by omega
      exact ⟨some ⟨b, o, none⟩, fun W => by go_simp⟩
    · exact ⟨some ⟨b, o + q * 16, none⟩, fun W => by go_simp⟩
set_option maxRecDepth 100000 in
set_option maxHeartbeats 1000000 in
theorem apply_bad (F G : Nat → Prop) (v u : Value) (xs : List Ln) (ps : List Pt) (w : World) (ht : Tabs w) (ha : lnEl.Rd F w v xs) (hb : ptEl.Rd G w u ps) (hn : xs.length ≤ 1000000) (hnc : ∀ l ∈ xs, l.cells.length ≤ 1000000) (hbad : scrD xs = false) :
    Calls Tryd.prog 19 #[v, u] w fun e w' => e = .returned (.tuple #[.slice none 0 0, .int .i64 2]) ∧ Sees w w' := by
  have K := screenD_any F v xs w ht ha hn hnc
  rw [hbad] at K
  have HK := Lib.hid K
  obtain ⟨ao, ca, rfl, _⟩ := ha.slice'
  obtain ⟨bo, cb, rfl, _⟩ := hb.slice'
  clear ht ha hb hn hnc hbad K
  generalize xs.length = n at *
  generalize ps.length = m at *
  go_enter Tryd.func19, Tryd.ntmps19
  go_wp2_with fail
  refine HK.out.mono ?_
  rintro e w1 ⟨rfl, s1⟩
  go_wp2
  go_ret2
  exact ⟨rfl, s1⟩

set_option maxRecDepth 1000000 in
set_option maxHeartbeats 8000000 in
theorem apply_ok (F G : Nat → Prop) (v u : Value) (xs : List Ln) (ps : List Pt) (w : World) (ht : Tabs w) (ha : lnEl.Rd F w v xs) (hb : ptEl.Rd G w u ps) (hok : scrD xs = true) (hm : ps.length ≤ 1000000000) (hmc : ∀ p ∈ ps, p.cells.length ≤ 1000000) (hcol : ∀ p ∈ ps, -9223372036854775808 ≤ p.col ∧ p.col ≤ 9223372036854775807) :
    Calls Tryd.prog 19 #[v, u] w fun e w' => ∃ v', e = .returned (.tuple #[v', .int .i64 (apP zc rowOk xs ps).1]) ∧ lnEl.Own (fun b => w.heap.size ≤ b) w' v' (apP zc rowOk xs ps).2 ∧ Sees w w' := by
  have hs : scrB xs = true ∧ xs.length ≤ 1000 := by unfold scrD at hok; simpa using hok
  obtain ⟨hs, hn⟩ := hs
  have Hx1 := Lib.hid (fun l hl => (lnOk_row (scrB_len hs hl).2.1).2 : ∀ l ∈ xs, l.cells.length ≤ 1000)
  have K := screenD_any F v xs w ht ha (by omega) (fun l hl => by have := Hx1.out l hl; omega)
  rw [hok] at K
  have HK := Lib.hid K
  have Ht := Lib.hid ht
  have Hmc := Lib.hid hmc
  have Hcol := Lib.hid hcol
  have hw := Sees.refl w
  obtain ⟨ao, ca, rfl, _⟩ := ha.slice'
  obtain ⟨bo, cb, rfl, _⟩ := hb.slice'
  have Ha := Lib.hid ha
  have Hb := Lib.hid hb
  obtain ⟨n, hna⟩ : ∃ n, n = xs.length := ⟨_, rfl⟩
  obtain ⟨m, hnb⟩ : ∃ m, m = ps.length := ⟨_, rfl⟩
  rw [← hna] at hn Ha HK
  rw [← hnb] at hm Hb
  rw [← hna, ← hnb]
  have Hna := Lib.hid hna
  have Hnb := Lib.hid hnb
  clear hna hnb ht ha hb hok K hs hmc hcol
  go_enter Tryd.func19, Tryd.ntmps19
  go_wp2_with fail
  refine HK.out.mono ?_
  rintro e w0 ⟨rfl, hs0⟩
  have Hs0 := Lib.hid hs0
  clear hs0 hw HK
  go_wp2
  go_loopw [6, 18] (fun v i W => ∃ k : Nat, k ≤ n ∧ i = .int .i64 k ∧ lnEl.Own (fun b => w.heap.size ≤ b) W v (xs.take k) ∧ Sees w W) (fun _ i _ => n - (intOf i).toNat)
  case atStart => exact ⟨0, by omega, rfl, El.Own.nil _ _, Hs0.out⟩
  case round =>
    obtain ⟨k, hk, rfl, ho, hS⟩ := hrel
    obtain ⟨a3, c3, hv3, _⟩ := ho.slice
    subst hv3
    have Ho := Lib.hid ho
    have HS := Lib.hid hS
    clear ho hS
    by_cases hlt : k < n
    · as_aux_lemma =>
      obtain ⟨b1, o1, x, a1, m1, rfl, _, hx, _, x1, x2, x3⟩ := (Ha.out.sees HS.out).line hlt
      have Hx := Lib.hid hx
      have X3 := Lib.hid x3
      have Hxl := Lib.hid (Hx1.out x (List.mem_iff_getElem?.2 ⟨_, hx⟩))
      clear hx x3
      generalize hl1 : x.cells.length = n1 at *
      have Hn1 := Lib.hid hl1
      clear hl1
      generalize hM : (xs.take k).length = M at *
      have HM : Hid (M ≤ 1000) := by unfold Hid; rw [← hM, List.length_take]; omega
      have HMl := Lib.hid hM
      clear hM
      go_wp2_with fail
      refine (copy_any _ x.cells _ _ ((X3.out.sees ((Sees.refl wr).alloc _)).rdCells) (by rw [Hn1.out]; have := Hxl.out; omega)).mono ?_
      rintro e w2 ⟨v', rfl, hown, hs2⟩
      obtain ⟨a', c', rfl⟩ := hown.slice
      have HSw := Lib.hid (((Sees.refl wr).alloc _).trans hs2)
      have Hown := Lib.hid ((hown.mono (base' := wr.heap.size) (by simp; omega)).elNew.sees ((Sees.refl w2).alloc (.cells #[.slice a' x.cells.length c', .bool x.soft] 27)))
      have Ho2 := Lib.hid (Ho.out.cut.sees (HSw.out.alloc (.cells #[.slice a' x.cells.length c', .bool x.soft] 27)))
      have HS2 := Lib.hid ((HS.out.trans HSw.out).alloc (.cells #[.slice a' x.cells.length c', .bool x.soft] 27))
      have Hrow := Lib.hid (heap_alloc_new w2 (.cells #[.slice a' x.cells.length c', .bool x.soft] 27))
      have Hz := Lib.hid HSw.out.size
      have Hz0 := Lib.hid HS.out.size
      clear hown hs2 x1 x2
      have HcF : Hid (∀ b, (w.heap.size ≤ b ∧ b < wr.heap.size) → b < (w2.alloc (.cells #[.slice a' x.cells.length c', .bool x.soft] 27)).heap.size) := fun b hb => by have := Hz.out; simp; omega
      have HcN : Hid (∀ b, (wr.heap.size ≤ b ∧ b < (w2.alloc (.cells #[.slice a' x.cells.length c', .bool x.soft] 27)).heap.size) → b < (w2.alloc (.cells #[.slice a' x.cells.length c', .bool x.soft] 27)).heap.size ∧ ¬ (w.heap.size ≤ b ∧ b < wr.heap.size)) := fun b hb => ⟨hb.2, fun h => by omega⟩
      have HcL : Hid ((xs.take k).length + [x].length ≤ 100000000) := by unfold Hid; rw [HMl.out, List.length_cons, List.length_nil]; have := HM.out; omega
      go_wp2_with (at_builtin; refine El.wpList_append_own (v := .slice a3 M c3) typedLn rfl (.tmp 22) (.tmp 25) rfl (by go_simp) Ho2.out ⟨w2.heap.size, 0, none⟩ 1 1 (by go_simp) [.slice a' x.cells.length c', .bool x.soft] [x] _ (El.ownIn_one (E := lnEl) ⟨_, rfl, Hown.out.cut⟩) rfl (fun j u hu => El.row_cells Hrow.out j u hu) HcF.out HcN.out HcL.out ?_; intro v7 w7 ho7 hk7)
      have HS7 : Sees w w7 := El.keep_new HS2.out hk7 (fun g' hg' => (Ho2.out.base hg').1.1)
      refine ⟨⟨k + 1, by omega, by go_num, ?_, HS7⟩, by simp [intOf] <;> omega⟩
      rw [List.take_add_one, Hx.out]
      exact ho7.mono (fun b _ h => by
        have := HS2.out.size
        have := Hz0.out
        rcases h with h | h | h
        · exact h.1
        · omega
        · omega)
    · obtain rfl : k = n := by omega
      have HO : Hid (lnEl.Own (fun b => w.heap.size ≤ b) wr (.slice a3 k c3) xs) := by
        have := Ho.out
        rw [List.take_of_length_le (by rw [← Hna.out]; exact Nat.le_refl _)] at this
        rwa [← Hna.out] at this
      rw [show (xs.take k).length = k by rw [List.length_take, ← Hna.out, Nat.min_self]]
      clear Ho
      go_wp2
      obtain ⟨wo, rfl⟩ : ∃ wo : World, wo = wr := ⟨_, rfl⟩
      go_loopw [30] (fun i W => ∃ (j : Nat) (x : List Ln), j ≤ m ∧ i = .int .i64 j ∧ apP zc rowOk xs (ps.take j) = (0, x) ∧ x.length = k ∧ (∀ l ∈ x, l.cells.length ≤ 1000) ∧ lnEl.Own (fun b => w.heap.size ≤ b) W (.slice a3 k c3) x ∧ Sees w W) (fun i _ => m - (intOf i).toNat)
      case atStart => exact ⟨0, xs, by omega, rfl, by simp [apP], Hna.out.symm, Hx1.out, HO.out, HS.out⟩
      case round =>
        obtain ⟨j, x, hj, rfl, hap, hxl, hx1, ho, hS⟩ := hrel
        have Hxx := Lib.hid hx1
        clear hx1
        have Hap := Lib.hid hap
        have Hxl := Lib.hid hxl
        have Ho := Lib.hid ho
        have HS := Lib.hid hS
        clear hap hxl ho hS HO
        by_cases hlt : j < m
        · obtain ⟨b1, o1, p, a1, m1, rfl, _, hp, _, ⟨x0, x1, x2, x4⟩, x3⟩ := (Hb.out.sees HS.out).patch hlt
          have Herr : Hid (∀ e, e ≠ 0 → ap1 zc rowOk x p = (e, []) → apP zc rowOk xs ps = (e, [])) := fun e he h => by rw [list_around hp]; exact apP_err Hap.out h he
          have Hmore : Hid (∀ y, ap1 zc rowOk x p = (0, y) → apP zc rowOk xs (ps.take (j + 1)) = (0, y)) := fun y h => by rw [List.take_add_one, hp]; exact apP_more Hap.out h
          have Hpc := Lib.hid (Hmc.out p (List.mem_iff_getElem?.2 ⟨_, hp⟩))
          have hcb := Hcol.out p (List.mem_iff_getElem?.2 ⟨_, hp⟩)
          have X3 := Lib.hid x3
          obtain ⟨r, hr⟩ : ∃ r, r = p.row := ⟨_, rfl⟩
          obtain ⟨c, hc⟩ : ∃ c, c = p.col := ⟨_, rfl⟩
          rw [← hr] at x0
          rw [← hc] at x1 hcb
          have Hr := Lib.hid hr.symm
          have Hc := Lib.hid hc.symm
          clear hp hr hc x3 Hap
          generalize hn2 : p.cells.length = n2 at *
          have Hn2 := Lib.hid hn2
          have hn2b : n2 ≤ 1000000 := Hpc.out
          clear hn2
          by_cases hr0 : r < 0
          · have Hf := Lib.hid (Herr.out 3 (by decide) (ap1_r (.inl (by rw [Hr.out]; exact hr0))))
            as_aux_lemma =>
            go_wp2
            go_ret2
            exact ⟨.slice none 0 0, by simp only [Hf.out]; rfl, by simp only [Hf.out]; exact El.Own.nil _ _, HS.out.alloc _⟩
          by_cases hrn : (k : Int) ≤ r
          · have Hf := Lib.hid (Herr.out 3 (by decide) (ap1_r (.inr (by rw [Hr.out, Hxl.out]; exact hrn))))
            have d1 : decide (r ≥ (k : Int)) = true := decide_eq_true hrn
            as_aux_lemma =>
            go_wp2
            go_ret2
            exact ⟨.slice none 0 0, by simp only [Hf.out]; rfl, by simp only [Hf.out]; exact El.Own.nil _ _, HS.out.alloc _⟩
          obtain ⟨i, rfl⟩ : ∃ i : Nat, r = i := Int.eq_ofNat_of_zero_le (by omega)
          have hik : i < k := by omega
          obtain ⟨l, hl⟩ : ∃ l, x[i]? = some l := ⟨_, List.getElem?_eq_getElem (by have := Hxl.out; omega)⟩
          obtain ⟨b, cap, cur, Fx, Fr, vs, hv, _, hFb, hFx, hFr, hg, hown, hvl, hvc, hback⟩ := Ho.out.focus hl
          have ha3 : a3 = some ⟨b, 0, none⟩ := by injection hv
          subst ha3
          obtain ⟨a2, c2, rfl, hc2, hown2⟩ := lnEl_own hown
          have z0 : wr.cell? ⟨b, i * 2, none⟩ = some (.slice a2 l.cells.length c2) := by rw [cell_of_row _ _ _ _ _ _ hg]; exact hvc 0 _ rfl
          have z1 : wr.cell? ⟨b, i * 2 + 1, none⟩ = some (.bool l.soft) := by rw [cell_of_row _ _ _ _ _ _ hg]; exact hvc 1 _ rfl
          have Hback := Lib.hid hback
          have HFx := Lib.hid hFx
          have HFr := Lib.hid hFr
          have HFb := Lib.hid hFb
          have Hg := Lib.hid hg
          have Hvc := Lib.hid hvc
          have Hown := Lib.hid hown2
          have Hl := Lib.hid hl
          have Hc2 := Lib.hid hc2
          clear hv hFb hFx hFr hg hown hvl hvc hback hown2 hl hc2
          generalize hn1 : l.cells.length = n1 at *
          have Hn1 := Lib.hid hn1
          clear hn1
          have Z0 := Lib.hid z0
          have Z1 := Lib.hid z1
          have z0a := fun o => ((Sees.refl wr).alloc o).cell z0
          clear z0 z1
          have hr0' : ¬ ((i : Int) < 0) := by omega
          have hri : ¬ ((k : Int) ≤ i) := by omega
          clear hr0 hrn
          by_cases hc0 : c < 0
          · have Hf := Lib.hid (Herr.out 3 (by decide) (ap1_c Hr.out Hl.out (.inl (by rw [Hc.out]; exact hc0))))
            as_aux_lemma =>
            go_wp2
            go_ret2
            exact ⟨.slice none 0 0, by simp only [Hf.out]; rfl, by simp only [Hf.out]; exact El.Own.nil _ _, HS.out.alloc _⟩
          by_cases hcn : (n1 : Int) < c
          · have Hf := Lib.hid (Herr.out 3 (by decide) (ap1_c Hr.out Hl.out (.inr (.inl (by rw [Hc.out, Hn1.out]; exact hcn)))))
            have d1 : decide (c > (n1 : Int)) = true := decide_eq_true hcn
            as_aux_lemma =>
            go_wp2
            go_ret2
            exact ⟨.slice none 0 0, by simp only [Hf.out]; rfl, by simp only [Hf.out]; exact El.Own.nil _ _, HS.out.alloc _⟩
          obtain ⟨q, rfl⟩ : ∃ q : Nat, c = q := Int.eq_ofNat_of_zero_le (by omega)
          have hqn : q ≤ n1 := by omega
          have hc0' : ¬ ((q : Int) < 0) := by omega
          have hcn' : ¬ ((n1 : Int) < q) := by omega
          clear hc0 hcn hcb
          obtain ⟨e2, he2⟩ : ∃ e2 : Nat, e2 = q + n2 := ⟨_, rfl⟩
          have hn1b : n1 ≤ 1000 := by have := Hxx.out l (List.mem_iff_getElem?.2 ⟨_, Hl.out⟩); have := Hn1.out; omega
          have hsum : (q : Int) + (n2 : Int) = (e2 : Int) := by omega
          have hw64 : IntKind.i64.wrap ((q : Int) + (n2 : Int)) = (e2 : Int) := by rw [hsum]; exact IntWalk.i64_in _ (by omega)
          have He2 := Lib.hid he2
          clear he2
          by_cases hend : n1 < e2
          · have Hf := Lib.hid (Herr.out 3 (by decide) (ap1_c Hr.out Hl.out (.inr (.inr (by rw [Hc.out, Hn1.out, Hn2.out]; have := He2.out; omega)))))
            have d1 : (n1 : Int) < e2 := by omega
            have d2 : decide ((e2 : Int) > n1) = true := decide_eq_true d1
            as_aux_lemma =>
            go_wp2
            go_ret2
            exact ⟨.slice none 0 0, by simp only [Hf.out]; rfl, by simp only [Hf.out]; exact El.Own.nil _ _, HS.out.alloc _⟩
          have hend' : ¬ ((n1 : Int) < e2) := by omega
          have hqc : q ≤ c2 := by have := Hc2.out; omega
          go_wp2_with fail
          refine (row_any _ p.cells _ (Ht.out.sees (HS.out.alloc _)) ((X3.out.sees ((Sees.refl wr).alloc _)).rdCells) (by rw [Hn2.out]; exact hn2b)).mono ?_
          rintro e w1 ⟨rfl, hs1⟩
          have hs2 : Sees wr w1 := ((Sees.refl wr).alloc _).trans hs1
          have k0 : w1.cell? ⟨wr.heap.size, 0, none⟩ = some (.int .i64 (i : Int)) := by rw [hs1.cells _ _ (by simp)]; simp
          have k1 : w1.cell? ⟨wr.heap.size, 1, none⟩ = some (.int .i64 (q : Int)) := by rw [hs1.cells _ _ (by simp)]; simp
          have k2 : w1.cell? ⟨wr.heap.size, 2, none⟩ = some (.slice a1 n2 m1) := by rw [hs1.cells _ _ (by simp)]; simp
          have k3 : w1.cell? ⟨wr.heap.size, 3, none⟩ = some (.bool p.soft) := by rw [hs1.cells _ _ (by simp)]; simp
          have Hs2 := Lib.hid hs2
          have HS1 := Lib.hid (HS.out.trans hs2)
          have K0 := Lib.hid k0
          have K1 := Lib.hid k1
          have K2 := Lib.hid k2
          have K3 := Lib.hid k3
          clear hs1 hs2 z0a x0 x1 x2 x4
          rcases bool_cases (rowOk p.cells) with er | er
          case inr =>
            have Hf := Lib.hid (Herr.out 12 (by decide) (ap1_m Hr.out Hl.out Hc.out (by rw [Hn1.out, Hn2.out]; have := He2.out; omega) (.inl er)))
            as_aux_lemma =>
            go_wp2
            go_ret2
            exact ⟨.slice none 0 0, by simp only [Hf.out]; rfl, by simp only [Hf.out]; exact El.Own.nil _ _, HS1.out⟩
          case inl =>
            by_cases h0 : n2 = 0
            · subst h0
              have hp0 : p.cells = [] := List.eq_nil_of_length_eq_zero Hn2.out
              have HA := Lib.hid (Hmore.out _ (ap1_ok Hr.out Hl.out Hc.out (by rw [Hn1.out, Hn2.out]; have := He2.out; omega) ⟨er, by unfold torn; rw [Hn2.out]; rfl⟩))
              obtain ⟨a', hsl⟩ := slice_from a2 n1 c2 q hqn Hc2.out (fun e => by
                have := Hown.out.cells.1.2
                rcases this with ⟨h, _⟩ | ⟨g, cap, cur, h, _⟩
                · cases h; exact ⟨rfl, rfl⟩
                · rw [e] at h; cases h) (fun x e => by
                have := Hown.out.cells.1.2
                rcases this with ⟨h, _⟩ | ⟨g, cap, cur, h, _⟩
                · rw [e] at h; cases h
                · rw [e] at h; cases h; rfl)
              have Hsl := Lib.hid hsl
              have Hp0 := Lib.hid hp0
              clear hp0 hsl
              as_aux_lemma =>
              go_wp2
              refine wpFrom_go (by kernel_rfl) (by kernel_rfl) (fun hB w3 hw3 => ?_)
              have hst : segStay (Sees w3) [.is (.slice a2 n1 c2), .is (.pointer (some ⟨wr.heap.size, 1, none⟩)), .is (.int .i64 (q : Int)), .is (.slice a' (n1 - q) (c2 - q)), .is (.pointer (some ⟨wr.heap.size, 2, none⟩)), .is (.slice a1 0 m1)] := trivial
              have hval : ∀ x v, (Spec.is x).val v = x := fun _ _ => rfl
              have hval2 : ∀ V v, (Spec.so V).val v = v := fun _ _ => rfl
              refine wpFrom_any 6 _ hB (by kernel_rfl) rfl hst (by simp only [List.cons_append, List.nil_append, List.drop_succ_cons, List.drop_zero, List.take_succ_cons, List.take_zero, Nat.reduceSub]; rfl) ?_
              refine ⟨fun vs W hI hV => .inl ⟨by clear hI hV hst; go_simp, .inl (by clear hI hV hst; (try simp only [Act.put, hval, hval2, List.setIfInBounds_toArray, List.set_cons_zero, List.set_cons_succ]); go_simp)⟩, ?_⟩
              refine ⟨fun vs W hI hV => .inl ⟨by clear hI hV hst; go_simp, .inl (by clear hI hV hst; (try simp only [Act.put, hval, hval2, List.setIfInBounds_toArray, List.set_cons_zero, List.set_cons_succ]); go_simp)⟩, ?_⟩
              refine ⟨fun vs W hI hV => .inl ⟨by clear hI hV hst; go_simp, .inl (by have q1 := (hw3.trans hI).cell K1.out; clear hI hV hst; (try simp only [Act.put, hval, hval2, List.setIfInBounds_toArray, List.set_cons_zero, List.set_cons_succ]); go_simp)⟩, ?_⟩
              refine ⟨fun vs W hI hV => .inl ⟨by clear hI hV hst; go_simp, .inl (exec_from rfl (by clear hI hV hst; (try simp only [Act.put, hval, hval2, List.setIfInBounds_toArray, List.set_cons_zero, List.set_cons_succ]); go_simp) (by clear hI hV hst; (try simp only [Act.put, hval, hval2, List.setIfInBounds_toArray, List.set_cons_zero, List.set_cons_succ]); go_simp) (Hsl.out W))⟩, ?_⟩
              refine ⟨fun vs W hI hV => .inl ⟨by clear hI hV hst; go_simp, .inl (by clear hI hV hst; (try simp only [Act.put, hval, hval2, List.setIfInBounds_toArray, List.set_cons_zero, List.set_cons_succ]); go_simp)⟩, ?_⟩
              refine ⟨fun vs W hI hV => .inl ⟨by clear hI hV hst; go_simp, .inl (by have q1 := (hw3.trans hI).cell K2.out; clear hI hV hst; (try simp only [Act.put, hval, hval2, List.setIfInBounds_toArray, List.set_cons_zero, List.set_cons_succ]); go_simp)⟩, ?_⟩
              intro vs w4 hI hV
              have hs4 := hw3.trans hI
              have HS4 := Lib.hid (HS1.out.trans hs4)
              have Hs4 := Lib.hid (Hs2.out.trans hs4)
              have k0 := hs4.cell K0.out
              have k3 := hs4.cell K3.out
              have hg4 : w4.heap[b]? = some (.cells cur lnEl.ty (0, 0)) := by rw [Hs4.out.block _ (Array.getElem?_eq_some_iff.1 Hg.out).1]; exact Hg.out
              have z1 : w4.cell? ⟨b, i * 2 + 1, none⟩ = some (.bool l.soft) := Hs4.out.cell Z1.out
              have f1 : w4.frozen? ⟨b, i * 2 + 1, none⟩ = false := frozen_of_row _ _ _ _ _ hg4
              have Hg4 := Lib.hid hg4
              have hrun := run_copy_zero (P := Tryd.prog) w4 25 25 3 46 16 a' a1 (n1 - q) (c2 - q) m1 Tryd.underlying25 (by kernel_rfl)
              have Hrun := Lib.hid hrun
              clear hI hV hst hs4 hg4 hrun hw3
              (try simp only [Act.put, hval, hval2, List.setIfInBounds_toArray, List.set_cons_zero, List.set_cons_succ])
              go_simp
              refine wpFrom_to 7 hB (fun _ _ _ _ _ h => h) (by kernel_rfl) (by simp only [List.cons_append, List.nil_append, List.drop_succ_cons, List.drop_zero, List.take_succ_cons, List.take_zero, Nat.reduceSub]; rfl) ?_
              refine wpList_val rfl (exec_copy (s := .tmp 108) (x := .tmp 110) rfl (by go_simp) (by go_simp) Hrun.out) (fun K hK => ?_)
              go_simp
              refine hK _ _ ?_
              clear hK K
              refine wpFrom_end rfl ?_; go_wp2
              have hown4 := Hown.out.sees Hs4.out
              have hset := heap_setCell_same w4 b (i * 2 + 1) cur _ (.bool p.soft) Hg4.out
              have hk : Keeps (fun c => c = b) wr (w4.setCell ⟨b, i * 2 + 1, none⟩ (.bool p.soft)) := Keeps.setCell (F := fun c => c = b) (Keeps.of_sees Hs4.out) (p := ⟨b, i * 2 + 1, none⟩) (fun _ => rfl) _
              have hown5 : cellEl.Own Fx (w4.setCell ⟨b, i * 2 + 1, none⟩ (.bool p.soft)) (.slice a2 n1 c2) l.cells := hown4.keeps (Keeps.setCell (F := fun c => c = b) (Keeps.refl _ w4) (p := ⟨b, i * 2 + 1, none⟩) (fun _ => rfl) _) (fun c hc => (HFx.out c hc).2)
              have hfin := Hback.out (fun c => c = b) _ _ Fx [.slice a2 n1 c2, .bool p.soft] ⟨putAt l.cells q p.cells, p.soft⟩ hset (El.turned_within (k := 1) Hvc.out (by simp) rfl) hk (fun c hc => (HFr.out c hc).2.1) ⟨_, rfl, by rw [Hp0.out, putAt_nil]; exact hown5⟩ (fun c hc => ⟨(HFx.out c hc).2, fun h => (HFr.out c h).2.2 hc⟩)
              refine ⟨⟨j + 1, _, by omega, by go_num, HA.out, by rw [List.length_set]; exact Hxl.out, ?_, hfin.mono (fun c _ h => ?_), HS4.out.setCell (p := ⟨b, i * 2 + 1, none⟩) HFb.out _⟩, by simp [intOf] <;> omega⟩
              · intro t ht
                rcases List.mem_or_eq_of_mem_set ht with h | rfl
                · exact Hxx.out t h
                · show (putAt l.cells q p.cells).length ≤ 1000
                  rw [Hp0.out, putAt_nil, Hn1.out]; exact hn1b
              · rcases h with h | h | h
                · subst h; exact HFb.out
                · exact (HFr.out c h).1
                · exact (HFx.out c h).1
            · obtain ⟨g2, ha2, hFg2, hnc, hnl, hat⟩ := own_cells_at Hown.out (show 0 < n1 by have := He2.out; omega)
              clear hnc hnl
              subst ha2
              obtain ⟨cc, hcc⟩ : ∃ cc, l.cells[q]? = some cc := ⟨_, List.getElem?_eq_getElem (by have := Hn1.out; have := He2.out; omega)⟩
              have w0' := Hs2.out.cell (hat q cc hcc).all.2.2.2.2.1
              have Hcc := Lib.hid (isz_at hcc)
              have HFg2 := Lib.hid hFg2
              have Hat := Lib.hid hat
              have hqc' : ¬ (c2 = q) := by have := Hc2.out; have := He2.out; omega
              have hqn' : q < n1 := by have := He2.out; omega
              have hq0 : (0 : Nat) < n2 := by omega
              have d0 : decide ((n2 : Int) > 0) = true := decide_eq_true (by omega)
              have d0' : (0 : Int) < n2 := by omega
              clear hcc hat hFg2
              rcases bool_cases (cc.width == 0) with ew | ew
              · have Hf := Lib.hid (Herr.out 12 (by decide) (ap1_m Hr.out Hl.out Hc.out (by rw [Hn1.out, Hn2.out]; have := He2.out; omega) (.inr (by unfold torn; rw [Hn2.out, Hcc.out, ew]; simp [hq0]))))
                as_aux_lemma =>
                go_wp2
                go_ret2
                exact ⟨.slice none 0 0, by simp only [Hf.out]; rfl, by simp only [Hf.out]; exact El.Own.nil _ _, HS1.out⟩
              · by_cases hlast : e2 < n1
                · obtain ⟨dd, hdd⟩ : ∃ dd, l.cells[e2]? = some dd := ⟨_, List.getElem?_eq_getElem (by have := Hn1.out; omega)⟩
                  have w1' := Hs2.out.cell (Hat.out e2 dd hdd).all.2.2.2.2.1
                  have Hdd := Lib.hid (isz_at hdd)
                  have d3 : (e2 : Int) < n1 := by omega
                  clear hdd
                  rcases bool_cases (dd.width == 0) with ev | ev
                  · have Hf := Lib.hid (Herr.out 12 (by decide) (ap1_m Hr.out Hl.out Hc.out (by rw [Hn1.out, Hn2.out]; have := He2.out; omega) (.inr (by unfold torn; rw [Hn2.out, ← He2.out, Hdd.out, ev]; simp [hq0]))))
                    as_aux_lemma =>
                    go_wp2
                    go_ret2
                    exact ⟨.slice none 0 0, by simp only [Hf.out]; rfl, by simp only [Hf.out]; exact El.Own.nil _ _, HS1.out⟩
                  · have HA := Lib.hid (Hmore.out _ (ap1_ok Hr.out Hl.out Hc.out (by rw [Hn1.out, Hn2.out]; have := He2.out; omega) ⟨er, by unfold torn; rw [Hn2.out, ← He2.out, Hdd.out, Hcc.out, ev, ew]; simp⟩))
                    as_aux_lemma =>
                    go_wp2
                    refine wpFrom_go (by kernel_rfl) (by kernel_rfl) (fun hB w3 hw3 => ?_)
                    have hst : segStay (Sees w3) [.is (.slice (some ⟨g2, 0, none⟩) n1 c2), .is (.pointer (some ⟨wr.heap.size, 1, none⟩)), .is (.int .i64 (q : Int)), .is (.slice (some ⟨g2, q * 16, none⟩) (n1 - q) (c2 - q)), .is (.pointer (some ⟨wr.heap.size, 2, none⟩)), .is (.slice a1 n2 m1)] := trivial
                    have hval : ∀ x v, (Spec.is x).val v = x := fun _ _ => rfl
                    have hval2 : ∀ V v, (Spec.so V).val v = v := fun _ _ => rfl
                    refine wpFrom_any 6 _ hB (by kernel_rfl) rfl hst (by simp only [List.cons_append, List.nil_append, List.drop_succ_cons, List.drop_zero, List.take_succ_cons, List.take_zero, Nat.reduceSub]; rfl) ?_
                    refine ⟨fun vs W hI hV => .inl ⟨by clear hI hV hst; go_simp, .inl (by clear hI hV hst; (try simp only [Act.put, hval, hval2, List.setIfInBounds_toArray, List.set_cons_zero, List.set_cons_succ]); go_simp)⟩, ?_⟩
                    refine ⟨fun vs W hI hV => .inl ⟨by clear hI hV hst; go_simp, .inl (by clear hI hV hst; (try simp only [Act.put, hval, hval2, List.setIfInBounds_toArray, List.set_cons_zero, List.set_cons_succ]); go_simp)⟩, ?_⟩
                    refine ⟨fun vs W hI hV => .inl ⟨by clear hI hV hst; go_simp, .inl (by have q1 := (hw3.trans hI).cell K1.out; clear hI hV hst; (try simp only [Act.put, hval, hval2, List.setIfInBounds_toArray, List.set_cons_zero, List.set_cons_succ]); go_simp)⟩, ?_⟩
                    refine ⟨fun vs W hI hV => .inl ⟨by clear hI hV hst; go_simp, .inl (by clear hI hV hst; (try simp only [Act.put, hval, hval2, List.setIfInBounds_toArray, List.set_cons_zero, List.set_cons_succ]); go_simp)⟩, ?_⟩
                    refine ⟨fun vs W hI hV => .inl ⟨by clear hI hV hst; go_simp, .inl (by clear hI hV hst; (try simp only [Act.put, hval, hval2, List.setIfInBounds_toArray, List.set_cons_zero, List.set_cons_succ]); go_simp)⟩, ?_⟩
                    refine ⟨fun vs W hI hV => .inl ⟨by clear hI hV hst; go_simp, .inl (by have q1 := (hw3.trans hI).cell K2.out; clear hI hV hst; (try simp only [Act.put, hval, hval2, List.setIfInBounds_toArray, List.set_cons_zero, List.set_cons_succ]); go_simp)⟩, ?_⟩
                    intro vs w4 hI hV
                    have hs4 := hw3.trans hI
                    have HS4 := Lib.hid (HS1.out.trans hs4)
                    have Hs4 := Lib.hid (Hs2.out.trans hs4)
                    obtain ⟨g', w5, hga, hFg, hrun, hown', hk5⟩ := run_copy_cells' (F := Fx) 3 (Hown.out.sees Hs4.out) (.slice a1 n2 m1) (X3.out.sees Hs4.out) q (by rw [Hn2.out]; exact hq0) (by rw [Hn1.out, Hn2.out]; have := He2.out; omega)
                    obtain rfl : g' = g2 := by injection hga with h1; injection h1 with h2; exact h2.symm
                    have hne1 : wr.heap.size ≠ g' := fun e => by have := (Hown.out.base (g := g') rfl).2; omega
                    have hne2 : b ≠ g' := fun e => (HFx.out g' hFg).2 e.symm
                    have k0 := hk5.cell (a := ⟨wr.heap.size, 0, none⟩) hne1 (hs4.cell K0.out)
                    have k3 := hk5.cell (a := ⟨wr.heap.size, 3, none⟩) hne1 (hs4.cell K3.out)
                    have hg5 : w5.heap[b]? = some (.cells cur lnEl.ty (0, 0)) := by
                      have h4 : w4.heap[b]? = some (.cells cur lnEl.ty (0, 0)) := by rw [Hs4.out.block _ (Array.getElem?_eq_some_iff.1 Hg.out).1]; exact Hg.out
                      rw [hk5.block _ (Array.getElem?_eq_some_iff.1 h4).1 hne2]; exact h4
                    have z1 : w5.cell? ⟨b, i * 2 + 1, none⟩ = some (.bool l.soft) := hk5.cell (a := ⟨b, i * 2 + 1, none⟩) hne2 (Hs4.out.cell Z1.out)
                    have f1 : w5.frozen? ⟨b, i * 2 + 1, none⟩ = false := frozen_of_row _ _ _ _ _ hg5
                    have Hg5 := Lib.hid hg5
                    have Hrun := Lib.hid hrun
                    have Hown5 := Lib.hid hown'
                    have Hk5 := Lib.hid hk5
                    have HFg := Lib.hid hFg
                    clear hI hV hst hs4 hg5 hrun hown' hk5 hne1 hga hFg hw3
                    (try simp only [Act.put, hval, hval2, List.setIfInBounds_toArray, List.set_cons_zero, List.set_cons_succ])
                    go_simp
                    refine wpFrom_to 7 hB (fun _ _ _ _ _ h => h) (by kernel_rfl) (by simp only [List.cons_append, List.nil_append, List.drop_succ_cons, List.drop_zero, List.take_succ_cons, List.take_zero, Nat.reduceSub]; rfl) ?_
                    refine wpList_val rfl (exec_copy (s := .tmp 108) (x := .tmp 110) rfl (by go_simp) (by go_simp) Hrun.out) (fun K hK => ?_)
                    go_simp
                    refine hK _ _ ?_
                    clear hK K
                    refine wpFrom_end rfl ?_; go_wp2
                    have hset := heap_setCell_same w5 b (i * 2 + 1) cur _ (.bool p.soft) Hg5.out
                    have hk : Keeps (fun c => c = b ∨ c = g') wr (w5.setCell ⟨b, i * 2 + 1, none⟩ (.bool p.soft)) := Keeps.setCell (F := fun c => c = b ∨ c = g') ((Keeps.of_sees Hs4.out).trans (Hk5.out.mono (fun _ _ h => .inr h))) (p := ⟨b, i * 2 + 1, none⟩) (fun _ => .inl rfl) _
                    have hown5 : cellEl.Own Fx (w5.setCell ⟨b, i * 2 + 1, none⟩ (.bool p.soft)) (.slice (some ⟨g', 0, none⟩) n1 c2) (putAt l.cells q p.cells) := Hown5.out.keeps (Keeps.setCell (F := fun c => c = b) (Keeps.refl _ w5) (p := ⟨b, i * 2 + 1, none⟩) (fun _ => rfl) _) (fun c hc => (HFx.out c hc).2)
                    have hfin := Hback.out (fun c => c = b ∨ c = g') _ _ Fx [.slice (some ⟨g', 0, none⟩) n1 c2, .bool p.soft] ⟨putAt l.cells q p.cells, p.soft⟩ hset (El.turned_within (k := 1) Hvc.out (by simp) rfl) hk (fun c hc h => by
                      rcases h with h | h
                      · exact (HFr.out c hc).2.1 h
                      · subst h; exact (HFr.out c hc).2.2 HFg.out) ⟨_, rfl, hown5⟩ (fun c hc => ⟨(HFx.out c hc).2, fun h => (HFr.out c h).2.2 hc⟩)
                    have hlow : w.heap.size ≤ g' := (HFx.out g' HFg.out).1
                    have hS5 : Sees w w5 := ((Keeps.of_sees (F := fun _ => False) HS4.out).trans' Hk5.out (fun c hc e => by have e2 : c = g' := e; omega)).sees_end (fun _ _ h => h)
                    refine ⟨⟨j + 1, _, by omega, by go_num, HA.out, by rw [List.length_set]; exact Hxl.out, ?_, hfin.mono (fun c _ h => ?_), hS5.setCell (p := ⟨b, i * 2 + 1, none⟩) HFb.out _⟩, by simp [intOf] <;> omega⟩
                    · intro t ht
                      rcases List.mem_or_eq_of_mem_set ht with h | rfl
                      · exact Hxx.out t h
                      · show (putAt l.cells q p.cells).length ≤ 1000
                        rw [putAt_length _ _ _ (by rw [Hn1.out, Hn2.out]; have := He2.out; omega), Hn1.out]; exact hn1b
                    · rcases h with h | h | h
                      · subst h; exact HFb.out
                      · exact (HFr.out c h).1
                      · exact (HFx.out c h).1
                · have hz := isz_no (cs := l.cells) (k := e2) (by rw [Hn1.out]; omega)
                  have HA := Lib.hid (Hmore.out _ (ap1_ok Hr.out Hl.out Hc.out (by rw [Hn1.out, Hn2.out]; have := He2.out; omega) ⟨er, by unfold torn; rw [Hn2.out, ← He2.out, hz, Hcc.out, ew]; simp⟩))
                  have d3 : ¬ (e2 : Int) < n1 := by omega
                  clear hz
                  as_aux_lemma =>
                  go_wp2
                  refine wpFrom_go (by kernel_rfl) (by kernel_rfl) (fun hB w3 hw3 => ?_)
                  have hst : segStay (Sees w3) [.is (.slice (some ⟨g2, 0, none⟩) n1 c2), .is (.pointer (some ⟨wr.heap.size, 1, none⟩)), .is (.int .i64 (q : Int)), .is (.slice (some ⟨g2, q * 16, none⟩) (n1 - q) (c2 - q)), .is (.pointer (some ⟨wr.heap.size, 2, none⟩)), .is (.slice a1 n2 m1)] := trivial
                  have hval : ∀ x v, (Spec.is x).val v = x := fun _ _ => rfl
                  have hval2 : ∀ V v, (Spec.so V).val v = v := fun _ _ => rfl
                  refine wpFrom_any 6 _ hB (by kernel_rfl) rfl hst (by simp only [List.cons_append, List.nil_append, List.drop_succ_cons, List.drop_zero, List.take_succ_cons, List.take_zero, Nat.reduceSub]; rfl) ?_
                  refine ⟨fun vs W hI hV => .inl ⟨by clear hI hV hst; go_simp, .inl (by clear hI hV hst; (try simp only [Act.put, hval, hval2, List.setIfInBounds_toArray, List.set_cons_zero, List.set_cons_succ]); go_simp)⟩, ?_⟩
                  refine ⟨fun vs W hI hV => .inl ⟨by clear hI hV hst; go_simp, .inl (by clear hI hV hst; (try simp only [Act.put, hval, hval2, List.setIfInBounds_toArray, List.set_cons_zero, List.set_cons_succ]); go_simp)⟩, ?_⟩
                  refine ⟨fun vs W hI hV => .inl ⟨by clear hI hV hst; go_simp, .inl (by have q1 := (hw3.trans hI).cell K1.out; clear hI hV hst; (try simp only [Act.put, hval, hval2, List.setIfInBounds_toArray, List.set_cons_zero, List.set_cons_succ]); go_simp)⟩, ?_⟩
                  refine ⟨fun vs W hI hV => .inl ⟨by clear hI hV hst; go_simp, .inl (by clear hI hV hst; (try simp only [Act.put, hval, hval2, List.setIfInBounds_toArray, List.set_cons_zero, List.set_cons_succ]); go_simp)⟩, ?_⟩
                  refine ⟨fun vs W hI hV => .inl ⟨by clear hI hV hst; go_simp, .inl (by clear hI hV hst; (try simp only [Act.put, hval, hval2, List.setIfInBounds_toArray, List.set_cons_zero, List.set_cons_succ]); go_simp)⟩, ?_⟩
                  refine ⟨fun vs W hI hV => .inl ⟨by clear hI hV hst; go_simp, .inl (by have q1 := (hw3.trans hI).cell K2.out; clear hI hV hst; (try simp only [Act.put, hval, hval2, List.setIfInBounds_toArray, List.set_cons_zero, List.set_cons_succ]); go_simp)⟩, ?_⟩
                  intro vs w4 hI hV
                  have hs4 := hw3.trans hI
                  have HS4 := Lib.hid (HS1.out.trans hs4)
                  have Hs4 := Lib.hid (Hs2.out.trans hs4)
                  obtain ⟨g', w5, hga, hFg, hrun, hown', hk5⟩ := run_copy_cells' (F := Fx) 3 (Hown.out.sees Hs4.out) (.slice a1 n2 m1) (X3.out.sees Hs4.out) q (by rw [Hn2.out]; exact hq0) (by rw [Hn1.out, Hn2.out]; have := He2.out; omega)
                  obtain rfl : g' = g2 := by injection hga with h1; injection h1 with h2; exact h2.symm
                  have hne1 : wr.heap.size ≠ g' := fun e => by have := (Hown.out.base (g := g') rfl).2; omega
                  have hne2 : b ≠ g' := fun e => (HFx.out g' hFg).2 e.symm
                  have k0 := hk5.cell (a := ⟨wr.heap.size, 0, none⟩) hne1 (hs4.cell K0.out)
                  have k3 := hk5.cell (a := ⟨wr.heap.size, 3, none⟩) hne1 (hs4.cell K3.out)
                  have hg5 : w5.heap[b]? = some (.cells cur lnEl.ty (0, 0)) := by
                    have h4 : w4.heap[b]? = some (.cells cur lnEl.ty (0, 0)) := by rw [Hs4.out.block _ (Array.getElem?_eq_some_iff.1 Hg.out).1]; exact Hg.out
                    rw [hk5.block _ (Array.getElem?_eq_some_iff.1 h4).1 hne2]; exact h4
                  have z1 : w5.cell? ⟨b, i * 2 + 1, none⟩ = some (.bool l.soft) := hk5.cell (a := ⟨b, i * 2 + 1, none⟩) hne2 (Hs4.out.cell Z1.out)
                  have f1 : w5.frozen? ⟨b, i * 2 + 1, none⟩ = false := frozen_of_row _ _ _ _ _ hg5
                  have Hg5 := Lib.hid hg5
                  have Hrun := Lib.hid hrun
                  have Hown5 := Lib.hid hown'
                  have Hk5 := Lib.hid hk5
                  have HFg := Lib.hid hFg
                  clear hI hV hst hs4 hg5 hrun hown' hk5 hne1 hga hFg hw3
                  (try simp only [Act.put, hval, hval2, List.setIfInBounds_toArray, List.set_cons_zero, List.set_cons_succ])
                  go_simp
                  refine wpFrom_to 7 hB (fun _ _ _ _ _ h => h) (by kernel_rfl) (by simp only [List.cons_append, List.nil_append, List.drop_succ_cons, List.drop_zero, List.take_succ_cons, List.take_zero, Nat.reduceSub]; rfl) ?_
                  refine wpList_val rfl (exec_copy (s := .tmp 108) (x := .tmp 110) rfl (by go_simp) (by go_simp) Hrun.out) (fun K hK => ?_)
                  go_simp
                  refine hK _ _ ?_
                  clear hK K
                  refine wpFrom_end rfl ?_; go_wp2
                  have hset := heap_setCell_same w5 b (i * 2 + 1) cur _ (.bool p.soft) Hg5.out
                  have hk : Keeps (fun c => c = b ∨ c = g') wr (w5.setCell ⟨b, i * 2 + 1, none⟩ (.bool p.soft)) := Keeps.setCell (F := fun c => c = b ∨ c = g') ((Keeps.of_sees Hs4.out).trans (Hk5.out.mono (fun _ _ h => .inr h))) (p := ⟨b, i * 2 + 1, none⟩) (fun _ => .inl rfl) _
                  have hown5 : cellEl.Own Fx (w5.setCell ⟨b, i * 2 + 1, none⟩ (.bool p.soft)) (.slice (some ⟨g', 0, none⟩) n1 c2) (putAt l.cells q p.cells) := Hown5.out.keeps (Keeps.setCell (F := fun c => c = b) (Keeps.refl _ w5) (p := ⟨b, i * 2 + 1, none⟩) (fun _ => rfl) _) (fun c hc => (HFx.out c hc).2)
                  have hfin := Hback.out (fun c => c = b ∨ c = g') _ _ Fx [.slice (some ⟨g', 0, none⟩) n1 c2, .bool p.soft] ⟨putAt l.cells q p.cells, p.soft⟩ hset (El.turned_within (k := 1) Hvc.out (by simp) rfl) hk (fun c hc h => by
                    rcases h with h | h
                    · exact (HFr.out c hc).2.1 h
                    · subst h; exact (HFr.out c hc).2.2 HFg.out) ⟨_, rfl, hown5⟩ (fun c hc => ⟨(HFx.out c hc).2, fun h => (HFr.out c h).2.2 hc⟩)
                  have hlow : w.heap.size ≤ g' := (HFx.out g' HFg.out).1
                  have hS5 : Sees w w5 := ((Keeps.of_sees (F := fun _ => False) HS4.out).trans' Hk5.out (fun c hc e => by have e2 : c = g' := e; omega)).sees_end (fun _ _ h => h)
                  refine ⟨⟨j + 1, _, by omega, by go_num, HA.out, by rw [List.length_set]; exact Hxl.out, ?_, hfin.mono (fun c _ h => ?_), hS5.setCell (p := ⟨b, i * 2 + 1, none⟩) HFb.out _⟩, by simp [intOf] <;> omega⟩
                  · intro t ht
                    rcases List.mem_or_eq_of_mem_set ht with h | rfl
                    · exact Hxx.out t h
                    · show (putAt l.cells q p.cells).length ≤ 1000
                      rw [putAt_length _ _ _ (by rw [Hn1.out, Hn2.out]; have := He2.out; omega), Hn1.out]; exact hn1b
                  · rcases h with h | h | h
                    · subst h; exact HFb.out
                    · exact (HFr.out c h).1
                    · exact (HFx.out c h).1
        · obtain rfl : j = m := by omega
          have HE : Hid (apP zc rowOk xs ps = (0, x)) := by
            have := Hap.out
            rwa [List.take_of_length_le (by rw [← Hnb.out]; exact Nat.le_refl _)] at this
          go_wp2
          go_ret2
          exact ⟨.slice a3 k c3, by simp only [HE.out]; rfl, by simp only [HE.out]; exact Ho.out, HS.out⟩
end Go.Proofs.YtonlmlmjglaoiaaDoor
