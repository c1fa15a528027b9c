/- The delta of two screens, as the statement makes it. The tables hold what the program's text lays. -/
import Derived.Test.YtonlmlmjglaoiaaDoorDlT
import Derived.Test.YtonlmlmjglaoiaaDoorSeqS
import Derived.IntWalk
namespace Go.Proofs.YtonlmlmjglaoiaaDoor
set_option linter.unusedVariables false
set_option linter.unusedSimpArgs false
open Go.RowKit

/-- How many truths of a row are false. -/
def falsesIn (W : World) (g : Nat) : Nat := match W.heap[g]? with | some (.cells cs _ _) => (cs.toList.filter fun v => match v with | .bool b => !b | _ => false).length | _ => 0
theorem falses_row {W : World} {g : Nat} {is : List Bool} (h : BRow W g is) : falsesIn W g = gaps is := by
  unfold falsesIn
  rw [show W.heap[g]? = _ from h]
  simp only [gaps]
  clear h
  induction is with
  | nil => rfl
  | cons b r ih => cases b <;> simpa [List.filter_cons] using ih
def btOpen (m : Value) : Nat := match m with | .bool true => 1 | _ => 0
/-- Nothing more is to be widened among the first columns. -/
def shutTo (T : Nat → Bool) (is : List Bool) (k : Nat) : Prop := ∀ j, j + 1 < k → T (j + 1) = true → is[j + 1]? = is[j]?
theorem shut_next {T : Nat → Bool} {is : List Bool} {k : Nat} (h : shutTo T is k) (h1 : ∀ j, j + 1 = k → T (j + 1) = true → is[j + 1]? = is[j]?) : shutTo T is (k + 1) := fun j hj hT => by
  by_cases e : j + 1 = k
  · exact h1 j e hT
  · exact h j (by omega) hT
theorem BRow.keeps {W W' : World} {g : Nat} {out : List Bool} {F : Nat → Prop} (h : BRow W g out) (hk : Keeps F W W') (hF : ¬ F g) : BRow W' g out := by
  unfold BRow; rw [hk.block _ (Array.getElem?_eq_some_iff.1 h).1 hF]; exact h
/-- The first columns are set. -/
def dfTo (D : Nat → Bool) (n k : Nat) : List Bool := (List.range n).map fun m => decide (m < k) && D m
theorem dfTo_len (D : Nat → Bool) (n k : Nat) : (dfTo D n k).length = n := by simp [dfTo]
theorem dfTo_zero (D : Nat → Bool) (n : Nat) : dfTo D n 0 = List.replicate n false := by
  apply List.ext_getElem
  · simp [dfTo]
  · intro i h1 h2; simp [dfTo]
theorem dfTo_set (D : Nat → Bool) {n k : Nat} (hk : k < n) : (dfTo D n k).set k (D k) = dfTo D n (k + 1) := by
  apply List.ext_getElem
  · simp [dfTo]
  · intro i h1 h2
    rw [List.getElem_set]
    split
    · subst_vars; simp [dfTo]
    · rename_i hne
      simp only [dfTo, List.getElem_map, List.getElem_range]
      by_cases h : i < k
      · rw [decide_eq_true h, decide_eq_true (show i < k + 1 by omega)]
      · rw [decide_eq_false h, decide_eq_false (show ¬ i < k + 1 by omega)]
theorem dfTo_all (D : Nat → Bool) (n m : Nat) (hm : m < n) : (dfTo D n n)[m]? = some (D m) := by
  simp [dfTo, hm]

set_option maxRecDepth 1000000 in
set_option maxHeartbeats 8000000 in
theorem between_any (F G : Nat → Prop) (v u : Value) (xs ys : List Ln) (w : World) (ha : lnEl.Rd F w v xs) (hb : lnEl.Rd G w u ys) (hok : chk xs ys = 0) :
    Calls Tryd.prog 14 #[v, u] w fun e w' => ∃ v', e = .returned v' ∧ ptEl.Own (fun b => w.heap.size ≤ b) w' v' (ofP zc xs ys) ∧ Sees w w' := by
  obtain ⟨s1, s2, hn, hlen, hcols⟩ := chk_ok hok
  have hx1 : ∀ l ∈ xs, l.cells.length ≤ 1000 := fun l hl => (lnOk_row (scrB_len s1 hl).2.1).2
  have Hok := Lib.hid hok
  have Hlen := Lib.hid (ofUp_length 1001 (a := xs) (b := ys) (fun l hl => by have := hx1 l hl; omega))
  clear hx1 s1 s2 hcols hok
  obtain ⟨ao, ca, rfl, hca⟩ := ha.slice'; obtain ⟨bo, cb, rfl, hcb⟩ := hb.slice'; have hw := Sees.refl w
  obtain ⟨n, hna⟩ : ∃ n, n = xs.length := ⟨_, rfl⟩; have hnb : n = ys.length := (by omega); rw [← hna] at ha hn; rw [← hnb] at hb; rw [← hna, ← hnb]; have Hna := Lib.hid hna; have Hnb := Lib.hid hnb; have Ha := Lib.hid ha; have Hb := Lib.hid hb; clear hna hnb ha hb hlen hca hcb
  go_enter Tryd.func14, Tryd.ntmps14
  go_wp2
  go_loopw [5, 6] (fun v i wr => ∃ k : Nat, k ≤ n ∧ i = .int .i64 k ∧ ptEl.Own (fun b => w.heap.size ≤ b) wr v (ofUp zc xs ys k) ∧ Sees w wr) (fun _ i _ => n - (intOf i).toNat)
  case atStart => exact ⟨0, by omega, rfl, El.Own.nil _ _, hw⟩
  case round =>
    obtain ⟨k, hk, rfl, ho, hS⟩ := hrel
    obtain ⟨a3, c3, hv3, hvx⟩ := ho.slice
    clear hvx
    subst hv3
    have Ho := Lib.hid ho
    have HS := Lib.hid hS
    by_cases hlt : k < n
    · obtain ⟨b1, o1, x, a1, m1, hao, hu1, hx, hu2, x1, x2, x3⟩ := Ha.out.line hlt
      obtain ⟨b2, o2, y, a2, m2, hbo, hu3, hy, hu4, y1, y2, y3⟩ := Hb.out.line hlt
      clear hu1 hu2 hu3 hu4
      subst hao
      subst hbo
      obtain ⟨hg, hx1⟩ := chk_rows Hok.out hx hy
      have hL := Hlen.out k
      have hnext := ofUp_next hx hy
      generalize hL0 : ofUp zc xs ys k = L0 at *
      obtain ⟨R, hR⟩ : ∃ R, R = chgR zc x.cells y.cells := ⟨_, rfl⟩
      have Hg := Lib.hid hg
      have X2 := Lib.hid x2
      have Y2 := Lib.hid y2
      have X3 := Lib.hid x3
      have Y3 := Lib.hid y3
      have HR := Lib.hid hR
      have Hx1 := Lib.hid hx1
      have Hxy := Lib.hid hg.len
      have HL := Lib.hid (show L0.length ≤ 1001000 by have := Nat.mul_le_mul_right 1001 (show k ≤ 1000 by omega); omega)
      have Hnext := Lib.hid hnext
      have x1 := HS.out.cell x1
      have y1 := HS.out.cell y1
      clear hx hy hL hL0 hnext hg hR x2 x3 y2 y3 ho hS
      generalize hl1 : x.cells.length = n1 at *
      have Hn1 := Lib.hid hl1
      rw [← Hxy.out] at y1 Y3
      clear hl1 
      generalize hLl : L0.length = L at *
      have HLl := Lib.hid hLl
      clear hLl
      have hn1b : n1 ≤ 1000 := Hx1.out
      have g1 := fun d os => (sees_grow wr d os).cell x1
      have g2 := fun d os => (sees_grow wr d os).cell y1
      clear x1 y1
      go_wp2
      refine wp_region_quiet_below (by kernel_rfl) (by kernel_rfl) ?_
      repeat (first | go_big_quiet_skip | (go_big_quiet_want; go_big_quiet_op; go_big_quiet_on))
      refine wpQuiet_nil ?_; intro w2 hw2'; have hw2 := regrown_sees hw2'; clear hw2'
      have hmk := run_make_bools n1 (by omega)
      have Ho2 := Lib.hid (Ho.out.sees hw2).cut
      have HS2 := Lib.hid (HS.out.trans hw2)
      clear hw2 g1 g2
      go_wp2
      clear hmk
      obtain ⟨wo, rfl⟩ : ∃ wo : World, wo = w2 := ⟨_, rfl⟩
      obtain ⟨D, hD⟩ : ∃ D, D = Df x.cells y.cells := ⟨_, rfl⟩
      obtain ⟨T, hT⟩ : ∃ T, T = Tz zc x.cells y.cells := ⟨_, rfl⟩
      have HD := Lib.hid hD
      have HT := Lib.hid hT
      clear hD hT
      obtain ⟨g, hgg⟩ : ∃ g, g = wo.heap.size := ⟨_, rfl⟩
      rw [← hgg]
      have HB0 := Lib.hid (BRow.new (W := wo) n1 hgg)
      have HK0 := Lib.hid (Keeps.of_sees (F := fun b => b = g) ((Sees.refl wo).alloc (.cells (Array.replicate n1 (Value.bool false)) 4)))
      have Hgg := Lib.hid hgg
      clear hgg
      go_loopw [10] (fun j W => ∃ q : Nat, q ≤ n1 ∧ j = .int .i64 q ∧ BRow W g (dfTo D n1 q) ∧ Keeps (fun b => b = g) wo W) (fun j _ => n1 - (intOf j).toNat)
      case atStart => exact ⟨0, by omega, rfl, by rw [dfTo_zero]; exact HB0.out, HK0.out⟩
      case round =>
        obtain ⟨q, hq, rfl, hB, hK⟩ := hrel
        have HB := Lib.hid hB
        have HK := Lib.hid hK
        clear hB hK HB0 HK0
        by_cases hql : q < n1
        · have hS : Sees w wr := ((Keeps.of_sees (F := fun _ => False) HS2.out).trans' HK.out (fun c hc e => by have e : c = g := e; have := Hgg.out; have := HS2.out.size; omega)).sees_end (fun _ _ h => h)
          obtain ⟨b3, o3, c, ha1, hu1, hc, hca⟩ := (X3.out.sees hS).cell hql
          obtain ⟨b4, o4, d, ha2, hu2, hd, hdb⟩ := (Y3.out.sees hS).cell hql
          clear hu1 hu2
          subst ha1
          subst ha2
          have HDq : Hid (D q = !decide (c = d)) := by unfold Hid; rw [HD.out]; exact Df_at hc hd
          have F1 := Lib.hid hca
          have F2 := Lib.hid hdb
          obtain ⟨t, ht⟩ : ∃ t, (dfTo D n1 q)[q]? = some t := ⟨_, List.getElem?_eq_getElem (by rw [dfTo_len]; exact hql)⟩
          have Ht := Lib.hid ht
          have hq0 : ¬ ((q : Int) < 0) := by omega
          have hq1 : ¬ ((n1 : Int) ≤ q) := by omega
          clear hc hd hca hdb ht hS
          go_wp2
          refine wpFrom_go (by kernel_rfl) (by kernel_rfl) (fun hB w4 hw4 => ?_)
          have hst : segStay (Sees w4) [.is (.slice (some ⟨g, 0, none⟩) n1 n1), .is (.int .i64 q), .is (.slice (some ⟨b3, o3, none⟩) n1 m1), .is (.int .i64 q), .is (.pointer (some ⟨b3, o3 + q * 16, none⟩)), .is c.val, .is (.slice (some ⟨b4, o4, none⟩) n1 m2), .is (.int .i64 q), .is (.pointer (some ⟨b4, o4 + q * 16, none⟩)), .is d.val, .is (.bool (D q)), .is (.pointer (some ⟨g, q, none⟩))] := trivial
          have hval : ∀ x v, (Spec.is x).val v = x := fun _ _ => rfl
          have hval2 : ∀ V v, (Spec.so V).val v = v := fun _ _ => rfl
          refine wpFrom_any 12 _ hB (by kernel_rfl) rfl hst (by simp only [List.cons_append, List.nil_append, List.drop_succ_cons, List.drop_zero, List.take_succ_cons, List.take_zero, Nat.reduceSub]; rfl) ?_
          refine ⟨fun vs W hI hV => .inl ⟨by clear hI hV hst; go_simp, .inl (by clear hI hV hst; (try simp only [Act.put, hval, hval2, List.setIfInBounds_toArray, List.set_cons_zero, List.set_cons_succ]); go_simp)⟩, ?_⟩
          refine ⟨fun vs W hI hV => .inl ⟨by clear hI hV hst; go_simp, .inl (by clear hI hV hst; (try simp only [Act.put, hval, hval2, List.setIfInBounds_toArray, List.set_cons_zero, List.set_cons_succ]); go_simp)⟩, ?_⟩
          refine ⟨fun vs W hI hV => .inl ⟨by clear hI hV hst; go_simp, .inl (by clear hI hV hst; (try simp only [Act.put, hval, hval2, List.setIfInBounds_toArray, List.set_cons_zero, List.set_cons_succ]); go_simp)⟩, ?_⟩
          refine ⟨fun vs W hI hV => .inl ⟨by clear hI hV hst; go_simp, .inl (by clear hI hV hst; (try simp only [Act.put, hval, hval2, List.setIfInBounds_toArray, List.set_cons_zero, List.set_cons_succ]); go_simp)⟩, ?_⟩
          refine ⟨fun vs W hI hV => .inl ⟨by clear hI hV hst; go_simp, .inl (by clear hI hV hst; (try simp only [Act.put, hval, hval2, List.setIfInBounds_toArray, List.set_cons_zero, List.set_cons_succ]); go_simp)⟩, ?_⟩
          refine ⟨fun vs W hI hV => .inl ⟨by clear hI hV hst; (try simp only [Act.put, hval, hval2, List.setIfInBounds_toArray, List.set_cons_zero, List.set_cons_succ]); go_simp, .inl (exec_load rfl (by clear hI hV hst; (try simp only [Act.put, hval, hval2, List.setIfInBounds_toArray, List.set_cons_zero, List.set_cons_succ]); go_simp) (run_loadCell (c := c) (F1.out.sees (hw4.trans hI))))⟩, ?_⟩
          refine ⟨fun vs W hI hV => .inl ⟨by clear hI hV hst; go_simp, .inl (by clear hI hV hst; (try simp only [Act.put, hval, hval2, List.setIfInBounds_toArray, List.set_cons_zero, List.set_cons_succ]); go_simp)⟩, ?_⟩
          refine ⟨fun vs W hI hV => .inl ⟨by clear hI hV hst; go_simp, .inl (by clear hI hV hst; (try simp only [Act.put, hval, hval2, List.setIfInBounds_toArray, List.set_cons_zero, List.set_cons_succ]); go_simp)⟩, ?_⟩
          refine ⟨fun vs W hI hV => .inl ⟨by clear hI hV hst; go_simp, .inl (by clear hI hV hst; (try simp only [Act.put, hval, hval2, List.setIfInBounds_toArray, List.set_cons_zero, List.set_cons_succ]); go_simp)⟩, ?_⟩
          refine ⟨fun vs W hI hV => .inl ⟨by clear hI hV hst; (try simp only [Act.put, hval, hval2, List.setIfInBounds_toArray, List.set_cons_zero, List.set_cons_succ]); go_simp, .inl (exec_load rfl (by clear hI hV hst; (try simp only [Act.put, hval, hval2, List.setIfInBounds_toArray, List.set_cons_zero, List.set_cons_succ]); go_simp) (run_loadCell (c := d) (F2.out.sees (hw4.trans hI))))⟩, ?_⟩
          refine ⟨fun vs W hI hV => .inl ⟨by clear hI hV hst; (try simp only [Act.put, hval, hval2, List.setIfInBounds_toArray, List.set_cons_zero, List.set_cons_succ]); go_simp, .inl (exec_bin rfl (by clear hI hV hst; (try simp only [Act.put, hval, hval2, List.setIfInBounds_toArray, List.set_cons_zero, List.set_cons_succ]); go_simp) (by clear hI hV hst; (try simp only [Act.put, hval, hval2, List.setIfInBounds_toArray, List.set_cons_zero, List.set_cons_succ]); go_simp) (guard_neqCell _ _ c d W) ((run_neqCell c d W).trans (by rw [HDq.out])))⟩, ?_⟩
          refine ⟨fun vs W hI hV => .inl ⟨by clear hI hV hst; go_simp, .inl (by clear hI hV hst; (try simp only [Act.put, hval, hval2, List.setIfInBounds_toArray, List.set_cons_zero, List.set_cons_succ]); go_simp)⟩, ?_⟩
          intro vs w5 hI hV
          have hs := hw4.trans hI
          have HB5 := Lib.hid (HB.out.sees hs)
          have HK5 := Lib.hid (HK.out.trans (Keeps.of_sees hs))
          have c0 := HB5.out.c Ht.out
          have f0 := HB5.out.fr q
          clear hI hV hst hs hw4
          (try simp only [Act.put, hval, hval2, List.setIfInBounds_toArray, List.set_cons_zero, List.set_cons_succ])
          refine wpFrom_to 13 hB (fun _ _ _ _ _ h => h) (by kernel_rfl) (by simp only [List.cons_append, List.nil_append, List.drop_succ_cons, List.drop_zero, List.take_succ_cons, List.take_zero, Nat.reduceSub]; rfl) ?_
          go_wp2
          refine wpFrom_end rfl ?_; go_wp2
          refine ⟨⟨q + 1, by omega, by go_num, ?_, ?_⟩, by simp [intOf] <;> omega⟩
          · rw [← dfTo_set D hql]; exact HB5.out.set q _
          · exact Keeps.setCell HK5.out (fun _ => rfl) _
        · obtain rfl : q = n1 := by omega
          have HBt : Hid (BtInv T D q (dfTo D q q)) := Lib.hid (bt_start (dfTo_len _ _ _) (fun m hm => dfTo_all D q m hm))
          go_wp2
          go_loopw [11] (fun m W => ∃ (is : List Bool) (mb : Bool), m = .bool mb ∧ BRow W g is ∧ BtInv T D q is ∧ Keeps (fun b => b = g) wo W ∧ (mb = false → shutTo T is q)) (fun m W => 2 * falsesIn W g + btOpen m)
          case atStart => exact ⟨_, true, rfl, HB.out, HBt.out, HK.out, fun h => Bool.noConfusion h⟩
          case round =>
            obtain ⟨is, mb, rfl, hB, hI, hK, hsh⟩ := hrel
            have HB3 := Lib.hid hB
            have HI3 := Lib.hid hI
            have HK3 := Lib.hid hK
            have HS3 := Lib.hid hsh
            clear hB hI hK hsh HB HBt HK
            cases mb with
            | true =>
              go_wp2
              obtain ⟨wp, rfl⟩ : ∃ wp : World, wp = wr := ⟨_, rfl⟩
              go_loopw [11, 12] (fun m t W => ∃ (js : List Bool) (mb : Bool) (k0 : Nat), k0 ≤ q ∧ t = .int .i64 k0 ∧ m = .bool mb ∧ BRow W g js ∧ BtInv T D q js ∧ Keeps (fun b => b = g) wo W ∧ (mb = false → js = is ∧ shutTo T is k0) ∧ (mb = true → gaps js < gaps is)) (fun _ t _ => q - (intOf t).toNat)
              case atStart => exact ⟨is, false, 0, by omega, rfl, rfl, HB3.out, HI3.out, HK3.out, fun _ => ⟨rfl, fun j h _ => by omega⟩, fun h => Bool.noConfusion h⟩
              case round =>
                obtain ⟨js, mb, k0, hk0, rfl, rfl, hB, hI, hK, hm0, hm1⟩ := hrel
                have HB4 := Lib.hid hB
                have HI4 := Lib.hid hI
                have HK4 := Lib.hid hK
                have HM0 := Lib.hid hm0
                have HM1 := Lib.hid hm1
                clear hB hI hK hm0 hm1
                by_cases hkl : k0 < q
                · have hS : Sees w wr := ((Keeps.of_sees (F := fun _ => False) HS2.out).trans' HK4.out (fun c hc e => by have e : c = g := e; have := Hgg.out; have := HS2.out.size; omega)).sees_end (fun _ _ h => h)
                  obtain ⟨b3, o3, c, ha1, hu1, hc, hca⟩ := (X3.out.sees hS).cell hkl
                  obtain ⟨b4, o4, d, ha2, hu2, hd, hdb⟩ := (Y3.out.sees hS).cell hkl
                  clear hu1 hu2
                  subst ha1
                  subst ha2
                  have HTk : Hid (T k0 = (c.width == 0 || d.width == 0)) := by unfold Hid; rw [HT.out]; exact Tz_at hc hd
                  have x1 := hca.all.2.2.2.2.1
                  have x2 := hdb.all.2.2.2.2.1
                  obtain ⟨q1, ht⟩ : ∃ t, js[k0]? = some t := ⟨_, List.getElem?_eq_getElem (by rw [HI4.out.len]; exact hkl)⟩
                  have Ht := Lib.hid ht
                  have hq0 : ¬ ((k0 : Int) < 0) := by omega
                  have hq1 : ¬ ((q : Int) ≤ k0) := by omega
                  clear hc hd hca hdb ht hS
                  by_cases h0 : k0 = 0
                  · have d0 : decide ((k0 : Int) > 0) = false := decide_eq_false (by omega)
                    have d1 : ¬ (0 : Int) < k0 := by omega
                    have d2 : ¬ 0 < k0 := by omega
                    have HSH : Hid (mb = false → shutTo T is (k0 + 1)) := fun h => shut_next (HM0.out h).2 (fun j hj _ => by omega)
                    clear h0
                    go_wp2
                    refine wp_region_quiet_below (by kernel_rfl) (by kernel_rfl) ?_
                    repeat (first | go_big_quiet_skip | (go_big_quiet_want; go_big_quiet_op; go_big_quiet_on))
                    refine wpQuiet_nil ?_; intro w2 hw2'; have hw2 := regrown_sees hw2'; clear hw2'
                    go_wp2
                    refine ⟨⟨js, mb, k0 + 1, by omega, by go_num, rfl, HB4.out.sees hw2, HI4.out, HK4.out.trans (Keeps.of_sees hw2), fun h => ⟨(HM0.out h).1, HSH.out h⟩, HM1.out⟩, by simp [intOf] <;> omega⟩
                  have d0 : decide ((k0 : Int) > 0) = true := decide_eq_true (by omega)
                  have d1 : (0 : Int) < k0 := by omega
                  have d2 : 0 < k0 := by omega
                  obtain ⟨j, hj⟩ : ∃ j : Nat, k0 = j + 1 := ⟨k0 - 1, by omega⟩
                  have hjw : IntKind.i64.wrap ((k0 : Int) - 1) = (j : Int) := by rw [hj, show ((j + 1 : Nat) : Int) - 1 = (j : Int) by omega]; exact IntWalk.i64_in _ (by omega)
                  have hjq : j < q := by omega
                  have hne : ¬ (k0 = j) := by omega
                  have hne2 : ¬ (j = k0) := by omega
                  obtain ⟨q0, ht0⟩ : ∃ t, js[j]? = some t := ⟨_, List.getElem?_eq_getElem (by rw [HI4.out.len]; exact hjq)⟩
                  have Ht0 := Lib.hid ht0
                  have Hj := Lib.hid hj
                  have hj0 : ¬ ((j : Int) < 0) := by omega
                  have hj1 : ¬ ((q : Int) ≤ j) := by omega
                  clear ht0 hj h0
                  rcases bool_cases (c.width == 0) with e1 | e1
                  · have HTT : Hid (T k0 = true) := by unfold Hid; rw [HTk.out, e1]; rfl
                    have c0 := HB4.out.c Ht.out
                    have c1 := HB4.out.c Ht0.out
                    have g1 := fun d os => (sees_grow wr d os).cell c0
                    have g2 := fun d os => (sees_grow wr d os).cell c1
                    rcases bool_cases (q1 == q0) with e3 | e3
                    · have f3 : (q1 != q0) = false := by rw [bne, e3]; rfl
                      have HSH : Hid (mb = false → shutTo T is (k0 + 1)) := fun h => shut_next (HM0.out h).2 (fun j' hj' hT => by
                        obtain rfl : j' = j := by have := Hj.out; omega
                        have e4 : q1 = q0 := by simpa using e3
                        rw [← (HM0.out h).1, hj', Ht.out, Ht0.out, e4])
                      clear c0 c1
                      go_wp2
                      refine wp_region_quiet_below (by kernel_rfl) (by kernel_rfl) ?_
                      repeat (first | go_big_quiet_skip | (go_big_quiet_want; go_big_quiet_op; go_big_quiet_on))
                      refine wpQuiet_nil ?_; intro w2 hw2'; have hw2 := regrown_sees hw2'; clear hw2'
                      go_wp2
                      refine ⟨⟨js, mb, k0 + 1, by omega, by go_num, rfl, HB4.out.sees hw2, HI4.out, HK4.out.trans (Keeps.of_sees hw2), fun h => ⟨(HM0.out h).1, HSH.out h⟩, HM1.out⟩, by simp [intOf] <;> omega⟩
                    · have f3 : (q1 != q0) = true := by rw [bne, e3]; rfl
                      have HNE : Hid (js[j + 1]? ≠ js[j]?) := by
                        unfold Hid
                        rw [← Hj.out, Ht.out, Ht0.out]
                        intro e
                        have e : q1 = q0 := Option.some.inj e
                        rw [e] at e3; simp at e3
                      clear c0 c1
                      go_wp2
                      refine wp_region_quiet_below (by kernel_rfl) (by kernel_rfl) ?_
                      repeat (first | go_big_quiet_skip | (go_big_quiet_want; go_big_quiet_op; go_big_quiet_on))
                      refine wpQuiet_nil ?_; intro w2 hw2'; have hw2 := regrown_sees hw2'; clear hw2'
                      have HB5 := Lib.hid (HB4.out.sees hw2)
                      have HK5 := Lib.hid (HK4.out.trans (Keeps.of_sees hw2))
                      have c0 := HB5.out.c Ht.out
                      have c1 := HB5.out.c Ht0.out
                      have f0 := HB5.out.fr k0
                      have f1 := HB5.out.fr j
                      clear hw2 g1 g2
                      go_wp2
                      have HJQ : j + 1 < q := by have := Hj.out; omega
                      have hb5 := bt_set HI4.out HJQ (by rw [← Hj.out]; exact HTT.out) HNE.out
                      have hg5 := gaps_two HI4.out.len HJQ HNE.out
                      rw [← Hj.out] at hb5 hg5
                      refine ⟨⟨_, true, k0 + 1, by omega, by go_num, rfl, (HB5.out.set k0 true).set j true, hb5, Keeps.setCell (Keeps.setCell HK5.out (fun _ => rfl) _) (fun _ => rfl) _, fun h => Bool.noConfusion h, fun _ => ?_⟩, by simp [intOf] <;> omega⟩
                      cases mb with
                      | false => rw [← (HM0.out rfl).1]; exact hg5
                      | true => exact Nat.lt_trans hg5 (HM1.out rfl)
                  rcases bool_cases (d.width == 0) with e2 | e2
                  · have HTT : Hid (T k0 = true) := by unfold Hid; rw [HTk.out, e2]; simp
                    have c0 := HB4.out.c Ht.out
                    have c1 := HB4.out.c Ht0.out
                    have g1 := fun d os => (sees_grow wr d os).cell c0
                    have g2 := fun d os => (sees_grow wr d os).cell c1
                    rcases bool_cases (q1 == q0) with e3 | e3
                    · have f3 : (q1 != q0) = false := by rw [bne, e3]; rfl
                      have HSH : Hid (mb = false → shutTo T is (k0 + 1)) := fun h => shut_next (HM0.out h).2 (fun j' hj' hT => by
                        obtain rfl : j' = j := by have := Hj.out; omega
                        have e4 : q1 = q0 := by simpa using e3
                        rw [← (HM0.out h).1, hj', Ht.out, Ht0.out, e4])
                      clear c0 c1
                      go_wp2
                      refine wp_region_quiet_below (by kernel_rfl) (by kernel_rfl) ?_
                      repeat (first | go_big_quiet_skip | (go_big_quiet_want; go_big_quiet_op; go_big_quiet_on))
                      refine wpQuiet_nil ?_; intro w2 hw2'; have hw2 := regrown_sees hw2'; clear hw2'
                      go_wp2
                      refine ⟨⟨js, mb, k0 + 1, by omega, by go_num, rfl, HB4.out.sees hw2, HI4.out, HK4.out.trans (Keeps.of_sees hw2), fun h => ⟨(HM0.out h).1, HSH.out h⟩, HM1.out⟩, by simp [intOf] <;> omega⟩
                    · have f3 : (q1 != q0) = true := by rw [bne, e3]; rfl
                      have HNE : Hid (js[j + 1]? ≠ js[j]?) := by
                        unfold Hid
                        rw [← Hj.out, Ht.out, Ht0.out]
                        intro e
                        have e : q1 = q0 := Option.some.inj e
                        rw [e] at e3; simp at e3
                      clear c0 c1
                      go_wp2
                      refine wp_region_quiet_below (by kernel_rfl) (by kernel_rfl) ?_
                      repeat (first | go_big_quiet_skip | (go_big_quiet_want; go_big_quiet_op; go_big_quiet_on))
                      refine wpQuiet_nil ?_; intro w2 hw2'; have hw2 := regrown_sees hw2'; clear hw2'
                      have HB5 := Lib.hid (HB4.out.sees hw2)
                      have HK5 := Lib.hid (HK4.out.trans (Keeps.of_sees hw2))
                      have c0 := HB5.out.c Ht.out
                      have c1 := HB5.out.c Ht0.out
                      have f0 := HB5.out.fr k0
                      have f1 := HB5.out.fr j
                      clear hw2 g1 g2
                      go_wp2
                      have HJQ : j + 1 < q := by have := Hj.out; omega
                      have hb5 := bt_set HI4.out HJQ (by rw [← Hj.out]; exact HTT.out) HNE.out
                      have hg5 := gaps_two HI4.out.len HJQ HNE.out
                      rw [← Hj.out] at hb5 hg5
                      refine ⟨⟨_, true, k0 + 1, by omega, by go_num, rfl, (HB5.out.set k0 true).set j true, hb5, Keeps.setCell (Keeps.setCell HK5.out (fun _ => rfl) _) (fun _ => rfl) _, fun h => Bool.noConfusion h, fun _ => ?_⟩, by simp [intOf] <;> omega⟩
                      cases mb with
                      | false => rw [← (HM0.out rfl).1]; exact hg5
                      | true => exact Nat.lt_trans hg5 (HM1.out rfl)
                  · have HTF : Hid (T k0 = false) := by unfold Hid; rw [HTk.out, e1, e2]; rfl
                    have HSH : Hid (mb = false → shutTo T is (k0 + 1)) := fun h => shut_next (HM0.out h).2 (fun j hj hT => by rw [hj, HTF.out] at hT; cases hT)
                    go_wp2
                    refine wp_region_quiet_below (by kernel_rfl) (by kernel_rfl) ?_
                    repeat (first | go_big_quiet_skip | (go_big_quiet_want; go_big_quiet_op; go_big_quiet_on))
                    refine wpQuiet_nil ?_; intro w2 hw2'; have hw2 := regrown_sees hw2'; clear hw2'
                    go_wp2
                    refine ⟨⟨js, mb, k0 + 1, by omega, by go_num, rfl, HB4.out.sees hw2, HI4.out, HK4.out.trans (Keeps.of_sees hw2), fun h => ⟨(HM0.out h).1, HSH.out h⟩, HM1.out⟩, by simp [intOf] <;> omega⟩
                · obtain rfl : k0 = q := by omega
                  go_wp2
                  refine ⟨⟨js, mb, rfl, HB4.out, HI4.out, HK4.out, fun h => by obtain ⟨h1, h2⟩ := HM0.out h; rw [h1]; exact h2⟩, ?_⟩
                  rw [falses_row HB4.out, falses_row HB3.out]
                  cases mb with
                  | false => rw [(HM0.out rfl).1]; show 2 * gaps is + 0 < 2 * gaps is + 1; omega
                  | true => have := HM1.out rfl; show 2 * gaps js + 1 < 2 * gaps is + 1; omega
            | false =>
              have HE : Hid (is = R) := by
                unfold Hid
                rw [HR.out]
                unfold chgR
                rw [Hn1.out, ← HT.out, ← HD.out]
                exact bt_end HI3.out (fun j h1 h2 => HS3.out rfl j h1 h2)
              have HRow := Lib.hid (show BRow wr g R by have := HB3.out; rw [HE.out] at this; exact this)
              have hS : Sees w wr := ((Keeps.of_sees (F := fun _ => False) HS2.out).trans' HK3.out (fun c hc e => by have e : c = g := e; have := Hgg.out; have := HS2.out.size; omega)).sees_end (fun _ _ h => h)
              have Ho3 := Lib.hid (show ptEl.Own (fun b => w.heap.size ≤ b ∧ b ≠ g) wr (.slice a3 L c3) L0 from (Ho2.out.keeps HK3.out (fun b hb e => by have e : b = g := e; have := Hgg.out; have := hb.2; omega)).mono (fun b _ h => ⟨h.1, fun e => by have := Hgg.out; have := h.2; omega⟩))
              have HSr := Lib.hid hS
              have HRl : Hid (R.length = q) := by unfold Hid; rw [HR.out]; unfold chgR; rw [chg_length]; exact Hn1.out
              have HRc := Lib.hid (show ∀ P : List Pt, parts (k : Int) (chgR zc x.cells y.cells) y.cells y.soft x.cells.length = P → parts (k : Int) R y.cells y.soft q = P from fun P h => by rw [HR.out, ← Hn1.out]; exact h)
              have Hyl : Hid (y.cells.length = q) := by unfold Hid; rw [← Hxy.out]
              have Hgl : Hid (w.heap.size ≤ g) := by unfold Hid; have := Hgg.out; have := HS2.out.size; omega
              clear hS HB3 HI3 HK3 HS3 HE HD HT Ho2 HS2 Hgg Ho HS
              go_wp2
              obtain ⟨wq, rfl⟩ : ∃ wq : World, wq = wr := ⟨_, rfl⟩
              go_loopw [5, 14, 15] (fun v s t W => ∃ k0 : Nat, k0 ≤ q ∧ t = .int .i64 k0 ∧ s = .bool (decide (parts (k : Int) R y.cells y.soft k0 ≠ [])) ∧ ptEl.Own (fun b => w.heap.size ≤ b ∧ b ≠ g) W v (L0 ++ parts (k : Int) R y.cells y.soft k0) ∧ BRow W g R ∧ Sees w W) (fun _ _ t _ => q - (intOf t).toNat)
              case atStart => exact ⟨0, by omega, rfl, by simp [parts], by simpa [parts] using Ho3.out, HRow.out, HSr.out⟩
              case round =>
                obtain ⟨k0, hk0, rfl, rfl, ho, hrow, hS⟩ := hrel
                obtain ⟨a5, c5, hv5, hvx⟩ := ho.slice
                clear hvx
                subst hv5
                have Ho := Lib.hid ho
                have HS := Lib.hid hS
                have Hrow := Lib.hid hrow
                clear ho hrow Ho3 HRow HSr
                generalize hM : (L0 ++ parts (k : Int) R y.cells y.soft k0).length = M at *
                have HM := Lib.hid hM
                have hMb : M ≤ 1002000 := by
                  rw [← hM, List.length_append]
                  have := HL.out
                  have := parts_length (k : Int) R y.cells y.soft k0
                  have := HLl.out
                  omega
                clear hM
                by_cases hkl : k0 < q
                · obtain ⟨t, ht⟩ : ∃ t, R[k0]? = some t := ⟨_, List.getElem?_eq_getElem (by have := HRl.out; omega)⟩
                  have r0 := Hrow.out.c ht
                  have Ht := Lib.hid ht
                  clear ht hS
                  have hq0 : ¬ ((k0 : Int) < 0) := by omega
                  have hq1 : ¬ ((q : Int) ≤ k0) := by omega
                  cases t with
                  | false =>
                    have Hnp := Lib.hid (parts_no (row := (k : Int)) (b := y.cells) (soft := y.soft) (show R[k0]? ≠ some true by rw [Ht.out]; simp))
                    go_wp2
                    refine ⟨⟨k0 + 1, by omega, by go_num, by rw [Hnp.out], by rw [Hnp.out]; exact Ho.out, Hrow.out, HS.out⟩, by simp [intOf] <;> omega⟩
                  | true =>
                    obtain ⟨b4, o4, d, ha2, hu2, hd, hdb⟩ := (Y3.out.sees HS.out).cell hkl
                    clear hu2
                    subst ha2
                    have Hd := Lib.hid hd
                    have F2 := Lib.hid hdb
                    have Hpn := Lib.hid (parts_ne (row := (k : Int)) (b := y.cells) (soft := y.soft) (show k0 < k0 + 1 by omega) (by have := Hyl.out; omega) Ht.out)
                    clear hd hdb
                    by_cases h0 : k0 = 0
                    · have d0 : decide ((k0 : Int) > 0) = false := decide_eq_false (by omega)
                      have d1 : ¬ (0 : Int) < k0 := by omega
                      have d2 : ¬ 0 < k0 := by omega
                      have Hadd := Lib.hid (parts_add (row := (k : Int)) (soft := y.soft) Ht.out Hd.out (.inl h0))
                      clear h0
                      go_wp2
                      refine wpFrom_go (by kernel_rfl) (by kernel_rfl) (fun hB w4 hw4 => ?_)
                      have Ho4 := Lib.hid (Ho.out.sees hw4).cut
                      have HS4 := Lib.hid (HS.out.trans hw4)
                      have Hrow4 := Lib.hid (Hrow.out.sees hw4)
                      have F24 := Lib.hid (F2.out.sees hw4)
                      clear hw4 Ho HS Hrow F2 r0
                      (try clear c1)
                      have hst : segStay (Sees w4) [.is (.slice a5 M c5), .is (.int .i64 k), .is (.int .i64 k0), .is (.slice (some ⟨b4, o4, none⟩) q m2), .is (.int .i64 k0), .is (.pointer (some ⟨b4, o4 + k0 * 16, none⟩)), .is d.val,
                          .so (fun u W => ∃ h, u = .slice (some ⟨h, 0, none⟩) 1 1 ∧ W.heap[h]? = some (.cells d.vals.toArray 46 (0, 0)) ∧ w4.heap.size ≤ h),
                          .is (.slice (some ⟨b2, o2, none⟩) n cb), .is (.int .i64 k), .is (.pointer (some ⟨b2, o2 + k * 2, none⟩)), .is (.pointer (some ⟨b2, o2 + k * 2 + 1, none⟩)), .is (.bool y.soft),
                          .so (fun u W => ∃ h, u = .agg #[.int .i64 k, .int .i64 k0, .slice (some ⟨h, 0, none⟩) 1 1, .bool y.soft] ∧ W.heap[h]? = some (.cells d.vals.toArray 46 (0, 0)) ∧ w4.heap.size ≤ h),
                          .so (fun u W => ∃ b h, u = .slice (some ⟨b, 0, none⟩) 1 1 ∧ W.heap[b]? = some (.cells #[.int .i64 k, .int .i64 k0, .slice (some ⟨h, 0, none⟩) 1 1, .bool y.soft] 37 (0, 0)) ∧ W.heap[h]? = some (.cells d.vals.toArray 46 (0, 0)) ∧ w4.heap.size ≤ h)] :=
                        ⟨fun u W W' _ ⟨h, h1, h2, h3⟩ hs => ⟨h, h1, by rw [hs.block _ (Array.getElem?_eq_some_iff.1 h2).1]; exact h2, h3⟩, fun u W W' _ ⟨h, h1, h2, h3⟩ hs => ⟨h, h1, by rw [hs.block _ (Array.getElem?_eq_some_iff.1 h2).1]; exact h2, h3⟩,
                          fun u W W' _ ⟨b, h, h1, h4, h2, h3⟩ hs => ⟨b, h, h1, by rw [hs.block _ (Array.getElem?_eq_some_iff.1 h4).1]; exact h4, by rw [hs.block _ (Array.getElem?_eq_some_iff.1 h2).1]; exact h2, h3⟩, trivial⟩
                      have hval : ∀ x v, (Spec.is x).val v = x := fun _ _ => rfl
                      have hval2 : ∀ V v, (Spec.so V).val v = v := fun _ _ => rfl
                      refine wpFrom_any 15 _ hB (by kernel_rfl) rfl hst (by simp only [List.cons_append, List.nil_append, List.drop_succ_cons, List.drop_zero, List.take_succ_cons, List.take_zero, Nat.reduceSub]; rfl) ?_
                      refine ⟨fun vs W hI hV => .inl ⟨by clear hI hV hst; go_simp, .inl (by clear hI hV hst; (try simp only [Act.put, hval, hval2, List.setIfInBounds_toArray, List.set_cons_zero, List.set_cons_succ]); go_simp)⟩, ?_⟩
                      refine ⟨fun vs W hI hV => .inl ⟨by clear hI hV hst; go_simp, .inl (by clear hI hV hst; (try simp only [Act.put, hval, hval2, List.setIfInBounds_toArray, List.set_cons_zero, List.set_cons_succ]); go_simp)⟩, ?_⟩
                      refine ⟨fun vs W hI hV => .inl ⟨by clear hI hV hst; go_simp, .inl (by clear hI hV hst; (try simp only [Act.put, hval, hval2, List.setIfInBounds_toArray, List.set_cons_zero, List.set_cons_succ]); go_simp)⟩, ?_⟩
                      refine ⟨fun vs W hI hV => .inl ⟨by clear hI hV hst; go_simp, .inl (by clear hI hV hst; (try simp only [Act.put, hval, hval2, List.setIfInBounds_toArray, List.set_cons_zero, List.set_cons_succ]); go_simp)⟩, ?_⟩
                      refine ⟨fun vs W hI hV => .inl ⟨by clear hI hV hst; go_simp, .inl (by clear hI hV hst; (try simp only [Act.put, hval, hval2, List.setIfInBounds_toArray, List.set_cons_zero, List.set_cons_succ]); go_simp)⟩, ?_⟩
                      refine ⟨fun vs W hI hV => .inl ⟨by clear hI hV hst; go_simp, .inl (by clear hI hV hst; (try simp only [Act.put, hval, hval2, List.setIfInBounds_toArray, List.set_cons_zero, List.set_cons_succ]); go_simp)⟩, ?_⟩
                      refine ⟨fun vs W hI hV => .inl ⟨by clear hI hV hst; (try simp only [Act.put, hval, hval2, List.setIfInBounds_toArray, List.set_cons_zero, List.set_cons_succ]); go_simp, .inl (exec_load rfl (by clear hI hV hst; (try simp only [Act.put, hval, hval2, List.setIfInBounds_toArray, List.set_cons_zero, List.set_cons_succ]); go_simp) (run_loadCell (c := d) (F24.out.sees hI)))⟩, ?_⟩
                      refine ⟨fun vs W hI hV => .inl ⟨by clear hI hV hst; (try simp only [Act.put, hval, hval2, List.setIfInBounds_toArray, List.set_cons_zero, List.set_cons_succ]); go_simp, .inl ⟨.slice (some ⟨W.heap.size, 0, none⟩) 1 1, W.alloc (.cells d.vals.toArray 46), exec_buildS rfl (by clear hI hV hst; (try simp only [Act.put, hval, hval2, List.setIfInBounds_toArray, List.set_cons_zero, List.set_cons_succ]); go_simp) (run_buildOne d W), rgGood_mk hst hI ⟨W.heap.size, rfl, heap_alloc_new _ _, hI.size⟩ ((Sees.refl W).alloc _)⟩⟩, ?_⟩
                      refine ⟨fun vs W hI hV => .inl ⟨by clear hI hV hst; go_simp, .inl (by clear hI hV hst; (try simp only [Act.put, hval, hval2, List.setIfInBounds_toArray, List.set_cons_zero, List.set_cons_succ]); go_simp)⟩, ?_⟩
                      refine ⟨fun vs W hI hV => .inl ⟨by clear hI hV hst; go_simp, .inl (by clear hI hV hst; (try simp only [Act.put, hval, hval2, List.setIfInBounds_toArray, List.set_cons_zero, List.set_cons_succ]); go_simp)⟩, ?_⟩
                      refine ⟨fun vs W hI hV => .inl ⟨by clear hI hV hst; go_simp, .inl (by clear hI hV hst; (try simp only [Act.put, hval, hval2, List.setIfInBounds_toArray, List.set_cons_zero, List.set_cons_succ]); go_simp)⟩, ?_⟩
                      refine ⟨fun vs W hI hV => .inl ⟨by clear hI hV hst; go_simp, .inl (by clear hI hV hst; (try simp only [Act.put, hval, hval2, List.setIfInBounds_toArray, List.set_cons_zero, List.set_cons_succ]); go_simp)⟩, ?_⟩
                      refine ⟨fun vs W hI hV => .inl ⟨by clear hI hV hst; go_simp, .inl (by have q1 := (HS4.out.trans hI).cell Y2.out; clear hI hV hst; (try simp only [Act.put, hval, hval2, List.setIfInBounds_toArray, List.set_cons_zero, List.set_cons_succ]); go_simp)⟩, ?_⟩
                      refine ⟨fun vs W hI hV => ?_, ?_⟩
                      · obtain ⟨h, e, h1, h2⟩ : ∃ h, vs 7 = .slice (some ⟨h, 0, none⟩) 1 1 ∧ W.heap[h]? = some (.cells d.vals.toArray 46 (0, 0)) ∧ w4.heap.size ≤ h := hV 7 _ (by kernel_rfl) rfl
                        exact .inl ⟨by clear hI hV hst h1 h2; go_simp, .inl ⟨.agg #[.int .i64 k, .int .i64 k0, .slice (some ⟨h, 0, none⟩) 1 1, .bool y.soft], W, by clear hI hV hst h1 h2; (try simp only [Act.put, hval, hval2, List.setIfInBounds_toArray, List.set_cons_zero, List.set_cons_succ]); go_simp, rgGood_mk hst hI ⟨h, rfl, h1, h2⟩ (Sees.refl W)⟩⟩
                      refine ⟨fun vs W hI hV => ?_, ?_⟩
                      · obtain ⟨h, e, h1, h2⟩ : ∃ h, vs 13 = .agg #[.int .i64 k, .int .i64 k0, .slice (some ⟨h, 0, none⟩) 1 1, .bool y.soft] ∧ W.heap[h]? = some (.cells d.vals.toArray 46 (0, 0)) ∧ w4.heap.size ≤ h := hV 13 _ (by kernel_rfl) rfl
                        have hs : Sees W (W.alloc (.cells #[.int .i64 k, .int .i64 k0, .slice (some ⟨h, 0, none⟩) 1 1, .bool y.soft] 37)) := (Sees.refl W).alloc _
                        have h3 : (W.alloc (.cells #[.int .i64 k, .int .i64 k0, .slice (some ⟨h, 0, none⟩) 1 1, .bool y.soft] 37)).heap[h]? = some (.cells d.vals.toArray 46 (0, 0)) := by rw [hs.block _ (Array.getElem?_eq_some_iff.1 h1).1]; exact h1
                        exact .inl ⟨by clear hI hV hst h1 h2 hs h3; go_simp, .inl ⟨.slice (some ⟨W.heap.size, 0, none⟩) 1 1, W.alloc (.cells #[.int .i64 k, .int .i64 k0, .slice (some ⟨h, 0, none⟩) 1 1, .bool y.soft] 37), by clear hI hV hst h1 h2 hs h3; (try simp only [Act.put, hval, hval2, List.setIfInBounds_toArray, List.set_cons_zero, List.set_cons_succ]); go_simp, rgGood_mk hst hI ⟨_, h, rfl, heap_alloc_new _ _, h3, h2⟩ hs⟩⟩
                      intro vs w6 hI hV
                      obtain ⟨b6, h6, hv6, hr6, hc6, hz6⟩ : ∃ b h, vs 14 = .slice (some ⟨b, 0, none⟩) 1 1 ∧ w6.heap[b]? = some (.cells #[.int .i64 k, .int .i64 k0, .slice (some ⟨h, 0, none⟩) 1 1, .bool y.soft] 37 (0, 0)) ∧ w6.heap[h]? = some (.cells d.vals.toArray 46 (0, 0)) ∧ w4.heap.size ≤ h := hV 14 _ rfl
                      have HP6 := Lib.hid (ptEl_new (p := ⟨k, k0, [d], y.soft⟩) hr6 _ (own_one_cell hc6))
                      have Hh6 := Lib.hid (And.intro hz6 (Array.getElem?_eq_some_iff.1 hc6).1)
                      have Ho6 := Lib.hid (Ho4.out.sees hI)
                      have HS6 := Lib.hid (HS4.out.trans hI)
                      have Hrow6 := Lib.hid (Hrow4.out.sees hI)
                      have Hz6 := Lib.hid hI.size
                      have Hg4 := Lib.hid Hrow4.out.lt
                      clear hI hV hst hr6 hc6 hz6 Ho4 HS4 Hrow4 F24
                      (try simp only [Act.put, hval, hval2, List.setIfInBounds_toArray, List.set_cons_zero, List.set_cons_succ])
                      have HcF : Hid (∀ b, ((w.heap.size ≤ b ∧ b ≠ g) ∧ b < w4.heap.size) → b < w6.heap.size) := fun b hb => by have := Hz6.out; omega
                      have HcN : Hid (∀ b, b = h6 → b < w6.heap.size ∧ ¬ ((w.heap.size ≤ b ∧ b ≠ g) ∧ b < w4.heap.size)) := fun b hb => by have := Hh6.out; subst hb; exact ⟨this.2, fun h => by omega⟩
                      have HcL : Hid ((L0 ++ parts (k : Int) R y.cells y.soft k0).length + [(⟨k, k0, [d], y.soft⟩ : Pt)].length ≤ 100000000) := by
                        unfold Hid; rw [HM.out, List.length_cons, List.length_nil]; omega
                      go_simp
                      clear hv6
                      refine wpFrom_to 17 hB (fun _ _ _ _ _ h => h) (by kernel_rfl) (by simp only [List.cons_append, List.nil_append, List.drop_succ_cons, List.drop_zero, List.take_succ_cons, List.take_zero, Nat.reduceSub]; rfl) ?_
                      go_wp2_with (at_builtin; refine El.wpList_append_own (v := .slice a5 M c5) typedPt rfl (.tmp 137) (.tmp 151) rfl (by go_simp) Ho6.out ⟨b6, 0, none⟩ 1 1 (by go_simp) _ [⟨k, k0, [d], y.soft⟩] _ HP6.out.1 rfl HP6.out.2 HcF.out HcN.out HcL.out ?_; intro v7 w7 ho7 hk7)
                      refine wpFrom_end rfl ?_; go_wp2
                      have HS7 : Sees w w7 := El.keep_new HS6.out hk7 (fun g' hg' => (Ho6.out.base hg').1.1.1)
                      refine ⟨⟨k0 + 1, by omega, by go_num, by rw [decide_eq_true Hpn.out], ?_, ?_, HS7⟩, by simp [intOf] <;> omega⟩
                      · rw [Hadd.out, ← List.append_assoc]
                        exact ho7.mono (fun b _ h => by
                          rcases h with h | h | h
                          · exact h.1
                          · have := Hh6.out; subst h; exact ⟨by have := Hg4.out; have := Hgl.out; omega, by have := Hg4.out; omega⟩
                          · exact ⟨by have := HS6.out.size; omega, by have := Hg4.out; have := Hz6.out; omega⟩)
                      · unfold BRow
                        rw [hk7.block _ Hrow6.out.lt (fun e => (Ho6.out.base e).1.1.2 rfl)]
                        exact Hrow6.out
                    have d0 : decide ((k0 : Int) > 0) = true := decide_eq_true (by omega)
                    have d1 : (0 : Int) < k0 := by omega
                    have d2 : 0 < k0 := by omega
                    obtain ⟨j, hj⟩ : ∃ j : Nat, k0 = j + 1 := ⟨k0 - 1, by omega⟩
                    have hjw : IntKind.i64.wrap ((k0 : Int) - 1) = (j : Int) := by rw [hj, show ((j + 1 : Nat) : Int) - 1 = (j : Int) by omega]; exact IntWalk.i64_in _ (by omega)
                    have hjq : j < q := by omega
                    obtain ⟨q0, ht0⟩ : ∃ t, R[j]? = some t := ⟨_, List.getElem?_eq_getElem (by have := HRl.out; omega)⟩
                    have Ht0 := Lib.hid (show R[k0 - 1]? = some q0 by rw [hj, Nat.add_sub_cancel]; exact ht0)
                    have c1 := Hrow.out.c ht0
                    have hj0 : ¬ ((j : Int) < 0) := by omega
                    have hj1 : ¬ ((q : Int) ≤ j) := by omega
                    have hk00 : k0 ≠ 0 := h0
                    clear ht0 hj h0
                    cases q0 with
                    | false =>
                      have Hadd := Lib.hid (parts_add (row := (k : Int)) (soft := y.soft) Ht.out Hd.out (.inr (by rw [Ht0.out]; simp)))
                      go_wp2
                      refine wpFrom_go (by kernel_rfl) (by kernel_rfl) (fun hB w4 hw4 => ?_)
                      have Ho4 := Lib.hid (Ho.out.sees hw4).cut
                      have HS4 := Lib.hid (HS.out.trans hw4)
                      have Hrow4 := Lib.hid (Hrow.out.sees hw4)
                      have F24 := Lib.hid (F2.out.sees hw4)
                      clear hw4 Ho HS Hrow F2 r0
                      (try clear c1)
                      have hst : segStay (Sees w4) [.is (.slice a5 M c5), .is (.int .i64 k), .is (.int .i64 k0), .is (.slice (some ⟨b4, o4, none⟩) q m2), .is (.int .i64 k0), .is (.pointer (some ⟨b4, o4 + k0 * 16, none⟩)), .is d.val,
                          .so (fun u W => ∃ h, u = .slice (some ⟨h, 0, none⟩) 1 1 ∧ W.heap[h]? = some (.cells d.vals.toArray 46 (0, 0)) ∧ w4.heap.size ≤ h),
                          .is (.slice (some ⟨b2, o2, none⟩) n cb), .is (.int .i64 k), .is (.pointer (some ⟨b2, o2 + k * 2, none⟩)), .is (.pointer (some ⟨b2, o2 + k * 2 + 1, none⟩)), .is (.bool y.soft),
                          .so (fun u W => ∃ h, u = .agg #[.int .i64 k, .int .i64 k0, .slice (some ⟨h, 0, none⟩) 1 1, .bool y.soft] ∧ W.heap[h]? = some (.cells d.vals.toArray 46 (0, 0)) ∧ w4.heap.size ≤ h),
                          .so (fun u W => ∃ b h, u = .slice (some ⟨b, 0, none⟩) 1 1 ∧ W.heap[b]? = some (.cells #[.int .i64 k, .int .i64 k0, .slice (some ⟨h, 0, none⟩) 1 1, .bool y.soft] 37 (0, 0)) ∧ W.heap[h]? = some (.cells d.vals.toArray 46 (0, 0)) ∧ w4.heap.size ≤ h)] :=
                        ⟨fun u W W' _ ⟨h, h1, h2, h3⟩ hs => ⟨h, h1, by rw [hs.block _ (Array.getElem?_eq_some_iff.1 h2).1]; exact h2, h3⟩, fun u W W' _ ⟨h, h1, h2, h3⟩ hs => ⟨h, h1, by rw [hs.block _ (Array.getElem?_eq_some_iff.1 h2).1]; exact h2, h3⟩,
                          fun u W W' _ ⟨b, h, h1, h4, h2, h3⟩ hs => ⟨b, h, h1, by rw [hs.block _ (Array.getElem?_eq_some_iff.1 h4).1]; exact h4, by rw [hs.block _ (Array.getElem?_eq_some_iff.1 h2).1]; exact h2, h3⟩, trivial⟩
                      have hval : ∀ x v, (Spec.is x).val v = x := fun _ _ => rfl
                      have hval2 : ∀ V v, (Spec.so V).val v = v := fun _ _ => rfl
                      refine wpFrom_any 15 _ hB (by kernel_rfl) rfl hst (by simp only [List.cons_append, List.nil_append, List.drop_succ_cons, List.drop_zero, List.take_succ_cons, List.take_zero, Nat.reduceSub]; rfl) ?_
                      refine ⟨fun vs W hI hV => .inl ⟨by clear hI hV hst; go_simp, .inl (by clear hI hV hst; (try simp only [Act.put, hval, hval2, List.setIfInBounds_toArray, List.set_cons_zero, List.set_cons_succ]); go_simp)⟩, ?_⟩
                      refine ⟨fun vs W hI hV => .inl ⟨by clear hI hV hst; go_simp, .inl (by clear hI hV hst; (try simp only [Act.put, hval, hval2, List.setIfInBounds_toArray, List.set_cons_zero, List.set_cons_succ]); go_simp)⟩, ?_⟩
                      refine ⟨fun vs W hI hV => .inl ⟨by clear hI hV hst; go_simp, .inl (by clear hI hV hst; (try simp only [Act.put, hval, hval2, List.setIfInBounds_toArray, List.set_cons_zero, List.set_cons_succ]); go_simp)⟩, ?_⟩
                      refine ⟨fun vs W hI hV => .inl ⟨by clear hI hV hst; go_simp, .inl (by clear hI hV hst; (try simp only [Act.put, hval, hval2, List.setIfInBounds_toArray, List.set_cons_zero, List.set_cons_succ]); go_simp)⟩, ?_⟩
                      refine ⟨fun vs W hI hV => .inl ⟨by clear hI hV hst; go_simp, .inl (by clear hI hV hst; (try simp only [Act.put, hval, hval2, List.setIfInBounds_toArray, List.set_cons_zero, List.set_cons_succ]); go_simp)⟩, ?_⟩
                      refine ⟨fun vs W hI hV => .inl ⟨by clear hI hV hst; go_simp, .inl (by clear hI hV hst; (try simp only [Act.put, hval, hval2, List.setIfInBounds_toArray, List.set_cons_zero, List.set_cons_succ]); go_simp)⟩, ?_⟩
                      refine ⟨fun vs W hI hV => .inl ⟨by clear hI hV hst; (try simp only [Act.put, hval, hval2, List.setIfInBounds_toArray, List.set_cons_zero, List.set_cons_succ]); go_simp, .inl (exec_load rfl (by clear hI hV hst; (try simp only [Act.put, hval, hval2, List.setIfInBounds_toArray, List.set_cons_zero, List.set_cons_succ]); go_simp) (run_loadCell (c := d) (F24.out.sees hI)))⟩, ?_⟩
                      refine ⟨fun vs W hI hV => .inl ⟨by clear hI hV hst; (try simp only [Act.put, hval, hval2, List.setIfInBounds_toArray, List.set_cons_zero, List.set_cons_succ]); go_simp, .inl ⟨.slice (some ⟨W.heap.size, 0, none⟩) 1 1, W.alloc (.cells d.vals.toArray 46), exec_buildS rfl (by clear hI hV hst; (try simp only [Act.put, hval, hval2, List.setIfInBounds_toArray, List.set_cons_zero, List.set_cons_succ]); go_simp) (run_buildOne d W), rgGood_mk hst hI ⟨W.heap.size, rfl, heap_alloc_new _ _, hI.size⟩ ((Sees.refl W).alloc _)⟩⟩, ?_⟩
                      refine ⟨fun vs W hI hV => .inl ⟨by clear hI hV hst; go_simp, .inl (by clear hI hV hst; (try simp only [Act.put, hval, hval2, List.setIfInBounds_toArray, List.set_cons_zero, List.set_cons_succ]); go_simp)⟩, ?_⟩
                      refine ⟨fun vs W hI hV => .inl ⟨by clear hI hV hst; go_simp, .inl (by clear hI hV hst; (try simp only [Act.put, hval, hval2, List.setIfInBounds_toArray, List.set_cons_zero, List.set_cons_succ]); go_simp)⟩, ?_⟩
                      refine ⟨fun vs W hI hV => .inl ⟨by clear hI hV hst; go_simp, .inl (by clear hI hV hst; (try simp only [Act.put, hval, hval2, List.setIfInBounds_toArray, List.set_cons_zero, List.set_cons_succ]); go_simp)⟩, ?_⟩
                      refine ⟨fun vs W hI hV => .inl ⟨by clear hI hV hst; go_simp, .inl (by clear hI hV hst; (try simp only [Act.put, hval, hval2, List.setIfInBounds_toArray, List.set_cons_zero, List.set_cons_succ]); go_simp)⟩, ?_⟩
                      refine ⟨fun vs W hI hV => .inl ⟨by clear hI hV hst; go_simp, .inl (by have q1 := (HS4.out.trans hI).cell Y2.out; clear hI hV hst; (try simp only [Act.put, hval, hval2, List.setIfInBounds_toArray, List.set_cons_zero, List.set_cons_succ]); go_simp)⟩, ?_⟩
                      refine ⟨fun vs W hI hV => ?_, ?_⟩
                      · obtain ⟨h, e, h1, h2⟩ : ∃ h, vs 7 = .slice (some ⟨h, 0, none⟩) 1 1 ∧ W.heap[h]? = some (.cells d.vals.toArray 46 (0, 0)) ∧ w4.heap.size ≤ h := hV 7 _ (by kernel_rfl) rfl
                        exact .inl ⟨by clear hI hV hst h1 h2; go_simp, .inl ⟨.agg #[.int .i64 k, .int .i64 k0, .slice (some ⟨h, 0, none⟩) 1 1, .bool y.soft], W, by clear hI hV hst h1 h2; (try simp only [Act.put, hval, hval2, List.setIfInBounds_toArray, List.set_cons_zero, List.set_cons_succ]); go_simp, rgGood_mk hst hI ⟨h, rfl, h1, h2⟩ (Sees.refl W)⟩⟩
                      refine ⟨fun vs W hI hV => ?_, ?_⟩
                      · obtain ⟨h, e, h1, h2⟩ : ∃ h, vs 13 = .agg #[.int .i64 k, .int .i64 k0, .slice (some ⟨h, 0, none⟩) 1 1, .bool y.soft] ∧ W.heap[h]? = some (.cells d.vals.toArray 46 (0, 0)) ∧ w4.heap.size ≤ h := hV 13 _ (by kernel_rfl) rfl
                        have hs : Sees W (W.alloc (.cells #[.int .i64 k, .int .i64 k0, .slice (some ⟨h, 0, none⟩) 1 1, .bool y.soft] 37)) := (Sees.refl W).alloc _
                        have h3 : (W.alloc (.cells #[.int .i64 k, .int .i64 k0, .slice (some ⟨h, 0, none⟩) 1 1, .bool y.soft] 37)).heap[h]? = some (.cells d.vals.toArray 46 (0, 0)) := by rw [hs.block _ (Array.getElem?_eq_some_iff.1 h1).1]; exact h1
                        exact .inl ⟨by clear hI hV hst h1 h2 hs h3; go_simp, .inl ⟨.slice (some ⟨W.heap.size, 0, none⟩) 1 1, W.alloc (.cells #[.int .i64 k, .int .i64 k0, .slice (some ⟨h, 0, none⟩) 1 1, .bool y.soft] 37), by clear hI hV hst h1 h2 hs h3; (try simp only [Act.put, hval, hval2, List.setIfInBounds_toArray, List.set_cons_zero, List.set_cons_succ]); go_simp, rgGood_mk hst hI ⟨_, h, rfl, heap_alloc_new _ _, h3, h2⟩ hs⟩⟩
                      intro vs w6 hI hV
                      obtain ⟨b6, h6, hv6, hr6, hc6, hz6⟩ : ∃ b h, vs 14 = .slice (some ⟨b, 0, none⟩) 1 1 ∧ w6.heap[b]? = some (.cells #[.int .i64 k, .int .i64 k0, .slice (some ⟨h, 0, none⟩) 1 1, .bool y.soft] 37 (0, 0)) ∧ w6.heap[h]? = some (.cells d.vals.toArray 46 (0, 0)) ∧ w4.heap.size ≤ h := hV 14 _ rfl
                      have HP6 := Lib.hid (ptEl_new (p := ⟨k, k0, [d], y.soft⟩) hr6 _ (own_one_cell hc6))
                      have Hh6 := Lib.hid (And.intro hz6 (Array.getElem?_eq_some_iff.1 hc6).1)
                      have Ho6 := Lib.hid (Ho4.out.sees hI)
                      have HS6 := Lib.hid (HS4.out.trans hI)
                      have Hrow6 := Lib.hid (Hrow4.out.sees hI)
                      have Hz6 := Lib.hid hI.size
                      have Hg4 := Lib.hid Hrow4.out.lt
                      clear hI hV hst hr6 hc6 hz6 Ho4 HS4 Hrow4 F24
                      (try simp only [Act.put, hval, hval2, List.setIfInBounds_toArray, List.set_cons_zero, List.set_cons_succ])
                      have HcF : Hid (∀ b, ((w.heap.size ≤ b ∧ b ≠ g) ∧ b < w4.heap.size) → b < w6.heap.size) := fun b hb => by have := Hz6.out; omega
                      have HcN : Hid (∀ b, b = h6 → b < w6.heap.size ∧ ¬ ((w.heap.size ≤ b ∧ b ≠ g) ∧ b < w4.heap.size)) := fun b hb => by have := Hh6.out; subst hb; exact ⟨this.2, fun h => by omega⟩
                      have HcL : Hid ((L0 ++ parts (k : Int) R y.cells y.soft k0).length + [(⟨k, k0, [d], y.soft⟩ : Pt)].length ≤ 100000000) := by
                        unfold Hid; rw [HM.out, List.length_cons, List.length_nil]; omega
                      go_simp
                      clear hv6
                      refine wpFrom_to 17 hB (fun _ _ _ _ _ h => h) (by kernel_rfl) (by simp only [List.cons_append, List.nil_append, List.drop_succ_cons, List.drop_zero, List.take_succ_cons, List.take_zero, Nat.reduceSub]; rfl) ?_
                      go_wp2_with (at_builtin; refine El.wpList_append_own (v := .slice a5 M c5) typedPt rfl (.tmp 137) (.tmp 151) rfl (by go_simp) Ho6.out ⟨b6, 0, none⟩ 1 1 (by go_simp) _ [⟨k, k0, [d], y.soft⟩] _ HP6.out.1 rfl HP6.out.2 HcF.out HcN.out HcL.out ?_; intro v7 w7 ho7 hk7)
                      refine wpFrom_end rfl ?_; go_wp2
                      have HS7 : Sees w w7 := El.keep_new HS6.out hk7 (fun g' hg' => (Ho6.out.base hg').1.1.1)
                      refine ⟨⟨k0 + 1, by omega, by go_num, by rw [decide_eq_true Hpn.out], ?_, ?_, HS7⟩, by simp [intOf] <;> omega⟩
                      · rw [Hadd.out, ← List.append_assoc]
                        exact ho7.mono (fun b _ h => by
                          rcases h with h | h | h
                          · exact h.1
                          · have := Hh6.out; subst h; exact ⟨by have := Hg4.out; have := Hgl.out; omega, by have := Hg4.out; omega⟩
                          · exact ⟨by have := HS6.out.size; omega, by have := Hg4.out; have := Hz6.out; omega⟩)
                      · unfold BRow
                        rw [hk7.block _ Hrow6.out.lt (fun e => (Ho6.out.base e).1.1.2 rfl)]
                        exact Hrow6.out
                    | true =>
                      obtain ⟨l, p, e1, e2, e3⟩ := parts_ext (row := (k : Int)) (soft := y.soft) Ht.out Hd.out hk00 Ht0.out
                      have hoe : ptEl.Own (fun b => w.heap.size ≤ b ∧ b ≠ g) wr (.slice a5 M c5) ((L0 ++ l) ++ [p]) := by have := Ho.out; rw [e1, ← List.append_assoc] at this; exact this
                      obtain ⟨ps, hps⟩ : ∃ ps, ps = L0 ++ l := ⟨_, rfl⟩
                      rw [← hps] at hoe
                      have Hps := Lib.hid (show L0 ++ parts (k : Int) R y.cells y.soft (k0 + 1) = ps ++ [{ p with cells := p.cells ++ [d] }] by rw [e3, hps, List.append_assoc])
                      have Hpl := Lib.hid (show p.cells.length ≤ 1000000 by omega)
                      have Hoe := Lib.hid hoe.cut
                      clear hoe e1 e2 e3 hps
                      obtain ⟨b5, a7, c7, ha5, hMN, hFb5, hz5, hx5⟩ := pt_extend (d := d) Hoe.out (fun b h => h.2) Hpl.out
                      clear hx5
                      subst ha5
                      obtain ⟨N, hN⟩ : ∃ N, N = ps.length := ⟨_, rfl⟩
                      rw [← hN] at hMN hz5
                      have hNw : IntKind.i64.wrap ((M : Int) - 1) = (N : Int) := by rw [show (M : Int) - 1 = (N : Int) by omega]; exact IntWalk.i64_in _ (by omega)
                      have hN0 : ¬ ((N : Int) < 0) := by omega
                      have hN1 : ¬ ((M : Int) ≤ N) := by omega
                      have HN := Lib.hid hN
                      have HFb5 := Lib.hid hFb5
                      have Z5 := Lib.hid hz5
                      have HMN : N < M := by omega
                      clear hN hFb5 hz5 hMN
                      generalize hpl : p.cells.length = lp at *
                      have Hlp := Lib.hid hpl
                      clear hpl
                      go_wp2
                      refine wpFrom_go (by kernel_rfl) (by kernel_rfl) (fun hB w4 hw4 => ?_)
                      have HO4 := Lib.hid (Hoe.out.sees hw4)
                      have HS4 := Lib.hid (HS.out.trans hw4)
                      have Hrow4 := Lib.hid (Hrow.out.sees hw4)
                      have F24 := Lib.hid (F2.out.sees hw4)
                      have Z4 := Lib.hid (hw4.cell Z5.out)
                      have Hz4 := Lib.hid hw4.size
                      clear hw4 Ho HS Hrow F2 r0 c1 Hoe Z5
                      refine wpFrom_S 16 (by rfl) ?_
                      refine wpS_take (i := 0) (v := .slice (some ⟨b5, 0, none⟩) M c5) hB (by rfl) (by kernel_rfl) (fun _ _ _ _ _ h => h) (wanted_none (by rfl) _) (fun W => by go_simp) ?_; (try simp only [Act.put, List.setIfInBounds_toArray, List.set_cons_zero, List.set_cons_succ])
                      refine wpS_take (i := 1) (v := .int .i64 (N : Int)) hB (by rfl) (by kernel_rfl) (fun _ _ _ _ _ h => h) (wanted_none (by rfl) _) (fun W => by go_simp) ?_; (try simp only [Act.put, List.setIfInBounds_toArray, List.set_cons_zero, List.set_cons_succ])
                      refine wpS_take (i := 2) (v := .slice (some ⟨b5, 0, none⟩) M c5) hB (by rfl) (by kernel_rfl) (fun _ _ _ _ _ h => h) (wanted_none (by rfl) _) (fun W => by go_simp) ?_; (try simp only [Act.put, List.setIfInBounds_toArray, List.set_cons_zero, List.set_cons_succ])
                      refine wpS_take (i := 3) (v := .int .i64 (N : Int)) hB (by rfl) (by kernel_rfl) (fun _ _ _ _ _ h => h) (wanted_none (by rfl) _) (fun W => by go_simp) ?_; (try simp only [Act.put, List.setIfInBounds_toArray, List.set_cons_zero, List.set_cons_succ])
                      refine wpS_take (i := 4) (v := .pointer (some ⟨b5, N * 4, none⟩)) hB (by rfl) (by kernel_rfl) (fun _ _ _ _ _ h => h) (wanted_none (by rfl) _) (fun W => by go_simp) ?_; (try simp only [Act.put, List.setIfInBounds_toArray, List.set_cons_zero, List.set_cons_succ])
                      refine wpS_take (i := 5) (v := .pointer (some ⟨b5, N * 4 + 2, none⟩)) hB (by rfl) (by kernel_rfl) (fun _ _ _ _ _ h => h) (wanted_none (by rfl) _) (fun W => by go_simp) ?_; (try simp only [Act.put, List.setIfInBounds_toArray, List.set_cons_zero, List.set_cons_succ])
                      refine wpS_take (i := 7) (v := .slice (some ⟨b4, o4, none⟩) q m2) hB (by rfl) (by kernel_rfl) (fun _ _ _ _ _ h => h) (wanted_none (by rfl) _) (fun W => by go_simp) ?_; (try simp only [Act.put, List.setIfInBounds_toArray, List.set_cons_zero, List.set_cons_succ])
                      refine wpS_take (i := 8) (v := .int .i64 (k0 : Int)) hB (by rfl) (by kernel_rfl) (fun _ _ _ _ _ h => h) (wanted_none (by rfl) _) (fun W => by go_simp) ?_; (try simp only [Act.put, List.setIfInBounds_toArray, List.set_cons_zero, List.set_cons_succ])
                      refine wpS_take (i := 9) (v := .pointer (some ⟨b4, o4 + k0 * 16, none⟩)) hB (by rfl) (by kernel_rfl) (fun _ _ _ _ _ h => h) (wanted_none (by rfl) _) (fun W => by go_simp) ?_; (try simp only [Act.put, List.setIfInBounds_toArray, List.set_cons_zero, List.set_cons_succ])
                      have HFIN := Lib.hid (fun (hh : (w4.alloc (.cells d.vals.toArray 46)).heap[w4.heap.size]? = some (.cells d.vals.toArray 46 (0, 0))) => pt_extend (d := d) (HO4.out.sees ((Sees.refl w4).alloc (.cells d.vals.toArray 46))) (fun b h => by have := Hz4.out; simp; omega) (by rw [Hlp.out]; exact Hpl.out))
                      refine wpS_lbl (i := 6) (j := 10) (k := 11) (u := .slice a7 lp c7) (v := d.val) (b := .slice (some ⟨w4.heap.size, 0, none⟩) 1 1) (w' := w4.alloc (.cells d.vals.toArray 46)) (by rfl) (by rfl) (by rfl) ⟨by rfl, by rfl, by rfl⟩ ⟨by rfl, by rfl, by rfl⟩ ⟨by decide, by decide⟩ (by kernel_rfl) (by kernel_rfl) (by kernel_rfl) (by kernel_rfl) (by kernel_rfl)
                        (exec_load (a := .pointer (some ⟨b5, N * 4 + 2, none⟩)) rfl (by go_simp) (by have q1 := Z4.out; go_simp))
                        (exec_load rfl (by go_simp) (run_loadCell (c := d) F24.out))
                        (exec_load rfl (by (try simp only [Act.put, List.setIfInBounds_toArray, List.set_cons_zero, List.set_cons_succ]); go_simp) (run_loadCell (c := d) F24.out))
                        (exec_load (a := .pointer (some ⟨b5, N * 4 + 2, none⟩)) rfl (by (try simp only [Act.put, List.setIfInBounds_toArray, List.set_cons_zero, List.set_cons_succ]); go_simp) (by have q1 := Z4.out; go_simp))
                        (exec_buildS rfl (by (try simp only [Act.put, List.setIfInBounds_toArray, List.set_cons_zero, List.set_cons_succ]); go_simp) (run_buildOne d w4))
                        (exec_buildS rfl (by (try simp only [Act.put, List.setIfInBounds_toArray, List.set_cons_zero, List.set_cons_succ]); go_simp) (run_buildOne d w4))
                        (exec_load (a := .pointer (some ⟨b5, N * 4 + 2, none⟩)) rfl (by (try simp only [Act.put, List.setIfInBounds_toArray, List.set_cons_zero, List.set_cons_succ]); go_simp) (by have q1 := ((Sees.refl w4).alloc (.cells d.vals.toArray 46)).cell Z4.out; go_simp)) ?_
                      (try simp only [Act.put, List.setIfInBounds_toArray, List.set_cons_zero, List.set_cons_succ])
                      obtain ⟨b5', a7', c7', ha5, hx1, hFb, hz, hrest⟩ := HFIN.out (heap_alloc_new w4 _)
                      have hbb : b5 = b5' := by injection ha5 with h; injection h
                      subst hbb
                      have hz2 := ((Sees.refl w4).alloc (.cells d.vals.toArray 46)).cell Z4.out
                      rw [HN.out, hz] at hz2
                      have ha7 : a7' = a7 ∧ c7' = c7 := by injection hz2 with h; injection h with h1 h2 h3; exact ⟨h1, h3⟩
                      obtain ⟨ha7, hc7⟩ := ha7
                      obtain ⟨a8, c8, w8, hrun, hk8, hc8, hf8, ho8⟩ := hrest w4.heap.size (heap_alloc_new w4 _)
                      rw [ha7, hc7, Hlp.out] at hrun hc8
                      rw [← HN.out] at hc8 hf8 ho8
                      generalize (p.cells ++ [d]).length = n8 at *
                      have Hrun := Lib.hid hrun
                      have Hk8 := Lib.hid hk8
                      have Ho8 := Lib.hid ho8
                      clear hx1 hFb hz hz2 ha7 hc7 ha5 hrest hrun hk8 ho8
                      refine wpS_only (i := 12) (by kernel_rfl) (wpOp_val (v := .slice a8 n8 c8) (by rfl) (wanted_none (by rfl) _) (exec_append (v := .slice a7 lp c7) (u := .slice (some ⟨w4.heap.size, 0, none⟩) 1 1) rfl (by go_simp) (by go_simp) Hrun.out) ?_)
                      (try simp only [Act.put, List.setIfInBounds_toArray, List.set_cons_zero, List.set_cons_succ])
                      refine wpS_only (i := 13) (by kernel_rfl) (wpOp_val (v := .pointer (some ⟨b5, N * 4, none⟩)) (w' := w8) (by rfl) (wanted_none (by rfl) _) (by go_simp) ?_)
                      (try simp only [Act.put, List.setIfInBounds_toArray, List.set_cons_zero, List.set_cons_succ])
                      refine wpS_only (i := 14) (by kernel_rfl) (wpOp_val (v := .pointer (some ⟨b5, N * 4 + 2, none⟩)) (w' := w8) (by rfl) (wanted_none (by rfl) _) (by go_simp) ?_)
                      (try simp only [Act.put, List.setIfInBounds_toArray, List.set_cons_zero, List.set_cons_succ])
                      refine wpS_only (i := 15) (by kernel_rfl) (wpOp_skip (w' := w8.setCell ⟨b5, N * 4 + 2, none⟩ (.slice a8 n8 c8)) (by rfl) (wanted_none (by rfl) _) (exec_store (a := .pointer (some ⟨b5, N * 4 + 2, none⟩)) (v := .slice a8 n8 c8) rfl (by go_simp) (by go_simp) (by go_simp)) ?_)
                      (try simp only [Act.put, List.setIfInBounds_toArray, List.set_cons_zero, List.set_cons_succ])
                      refine wpS_end (by kernel_rfl) ?_
                      go_wp2
                      have hg4 := Hrow4.out.lt
                      have hSa : Sees w4 (w4.alloc (.cells d.vals.toArray 46)) := (Sees.refl w4).alloc _
                      have hS8 : Sees w w8 := ((Keeps.of_sees (F := fun _ => False) (HS4.out.trans hSa)).trans' Hk8.out (fun c hc e => by have := e.1.1; omega)).sees_end (fun _ _ h => h)
                      have hrow8 : BRow w8 g R := (Hrow4.out.sees hSa).keeps Hk8.out (fun h => h.1.2 rfl)
                      refine ⟨⟨k0 + 1, by omega, by go_num, by rw [decide_eq_true Hpn.out], ?_, ?_, hS8.setCell (p := ⟨b5, N * 4 + 2, none⟩) HFb5.out.1.1 _⟩, by simp [intOf] <;> omega⟩
                      · rw [Hps.out]
                        exact Ho8.out.mono (fun b _ h => by
                          rcases h with h | h
                          · exact h.1
                          · have := HS4.out.size
                            have h : w4.heap.size + 1 ≤ b := by simpa using h
                            exact ⟨by omega, by omega⟩)
                      · unfold BRow
                        rw [heap_setCell_other _ _ _ _ (fun e => HFb5.out.1.2 (Eq.symm e))]
                        exact hrow8
                · obtain rfl : k0 = q := by omega
                  have x2 := HS.out.cell X2.out
                  have y2 := HS.out.cell Y2.out
                  have g1 := fun d os => (sees_grow wr d os).cell x2
                  have g2 := fun d os => (sees_grow wr d os).cell y2
                  clear x2 y2 hS
                  obtain ⟨sb, hsb⟩ : ∃ sb, sb = decide (parts (k : Int) R y.cells y.soft k0 ≠ []) := ⟨_, rfl⟩
                  rw [← hsb]
                  cases sb with
                  | false =>
                    have hp : parts (k : Int) R y.cells y.soft k0 = [] := by simpa using hsb.symm
                    have HrP : Hid (rowP zc k x y = if x.soft ≠ y.soft then [⟨k, 0, [], y.soft⟩] else []) := Lib.hid (rowP_soft (by rw [Hn1.out, ← HR.out]; exact hp))
                    have Ho := Lib.hid (show ptEl.Own (fun b => w.heap.size ≤ b ∧ b ≠ g) wr (.slice a5 M c5) L0 by have := Ho.out; rwa [hp, List.append_nil] at this)
                    clear hp hsb HM
                    rcases bool_cases (x.soft == y.soft) with e1 | e1
                    · have f1 : (x.soft != y.soft) = false := by rw [bne, e1]; rfl
                      go_wp2
                      refine wp_region_quiet_below (by kernel_rfl) (by kernel_rfl) ?_
                      repeat (first | go_big_quiet_skip | (go_big_quiet_want; go_big_quiet_op; go_big_quiet_on))
                      refine wpQuiet_nil ?_; intro w2 hw2'; have hw2 := regrown_sees hw2'; clear hw2'
                      go_wp2
                      have e2 : x.soft = y.soft := by simpa using e1
                      refine ⟨⟨k + 1, by omega, by go_num, ?_, HS.out.trans hw2⟩, by simp [intOf] <;> omega⟩
                      rw [Hnext.out, HrP.out, if_neg (by simp [e2]), List.append_nil]
                      exact (Ho.out.sees hw2).mono (fun b _ h => h.1)
                    · have f1 : (x.soft != y.soft) = true := by rw [bne, e1]; rfl
                      go_wp2
                      refine wp_region_quiet_below (by kernel_rfl) (by kernel_rfl) ?_
                      repeat (first | go_big_quiet_skip | (go_big_quiet_want; go_big_quiet_op; go_big_quiet_on))
                      refine wpQuiet_nil ?_; intro w2 hw2'; have hw2 := regrown_sees hw2'; clear hw2'
                      have y2 := (HS.out.trans hw2).cell Y2.out
                      have HP6 := Lib.hid (ptEl_new (W := w2.alloc (.cells #[.int .i64 k, .int .i64 0, .slice none 0 0, .bool y.soft] 37)) (b := w2.heap.size) (p := ⟨k, 0, [], y.soft⟩) (v := .slice none 0 0) (heap_alloc_new _ _) (fun _ => False) (El.Own.nil _ _))
                      have Ho6 := Lib.hid ((Ho.out.sees hw2).cut.sees ((Sees.refl w2).alloc (.cells #[.int .i64 k, .int .i64 0, .slice none 0 0, .bool y.soft] 37)))
                      have HS6 := Lib.hid ((HS.out.trans hw2).alloc (.cells #[.int .i64 k, .int .i64 0, .slice none 0 0, .bool y.soft] 37))
                      have Hz := Lib.hid (HS.out.trans hw2).size
                      have HcF : Hid (∀ b, ((w.heap.size ≤ b ∧ b ≠ g) ∧ b < w2.heap.size) → b < (w2.alloc (.cells #[.int .i64 k, .int .i64 0, .slice none 0 0, .bool y.soft] 37)).heap.size) := fun b hb => by simp; omega
                      have HcL : Hid (L0.length + [(⟨k, 0, [], y.soft⟩ : Pt)].length ≤ 100000000) := by
                        have h1 := HL.out; have h3 := HLl.out
                        unfold Hid; rw [List.length_cons, List.length_nil]; omega
                      clear hw2
                      go_wp2_with (at_builtin; refine El.wpList_append_own (v := .slice a5 M c5) typedPt rfl (.tmp 168) (.tmp 176) rfl (by go_simp) Ho6.out ⟨w2.heap.size, 0, none⟩ 1 1 (by go_simp) _ [⟨k, 0, [], y.soft⟩] _ HP6.out.1 rfl HP6.out.2 HcF.out (fun b h => h.elim) HcL.out ?_; intro v7 w7 ho7 hk7)
                      have HS7 : Sees w w7 := El.keep_new HS6.out hk7 (fun g' hg' => (Ho6.out.base hg').1.1.1)
                      have e2 : x.soft ≠ y.soft := by simpa using e1
                      refine ⟨⟨k + 1, by omega, by go_num, ?_, HS7⟩, by simp [intOf] <;> omega⟩
                      rw [Hnext.out, HrP.out, if_pos e2]
                      exact ho7.mono (fun b _ h => by
                        rcases h with h | h | h
                        · exact h.1.1
                        · exact h.elim
                        · have := Hz.out; simp at h; omega)
                  | true =>
                    have hp : parts (k : Int) R y.cells y.soft k0 ≠ [] := by simpa using hsb.symm
                    have HrP : Hid (rowP zc k x y = parts (k : Int) R y.cells y.soft k0) := Lib.hid (by
                      have := rowP_some (i := k) (a := x) (b := y) (by rw [Hn1.out, ← HR.out]; exact hp)
                      rw [this, Hn1.out, ← HR.out])
                    clear hp hsb
                    go_wp2
                    refine wp_region_quiet_below (by kernel_rfl) (by kernel_rfl) ?_
                    repeat (first | go_big_quiet_skip | (go_big_quiet_want; go_big_quiet_op; go_big_quiet_on))
                    refine wpQuiet_nil ?_; intro w2 hw2'; have hw2 := regrown_sees hw2'; clear hw2'
                    go_wp2
                    refine ⟨⟨k + 1, by omega, by go_num, ?_, HS.out.trans hw2⟩, by simp [intOf] <;> omega⟩
                    rw [Hnext.out, HrP.out]
                    exact (Ho.out.sees hw2).mono (fun b _ h => h.1)
    · obtain rfl : k = n := by omega
      have HE : Hid (ofUp zc xs ys k = ofP zc xs ys) := by unfold Hid ofP; rw [← Hna.out]
      go_wp2
      go_ret
      exact ⟨_, rfl, by rw [← HE.out]; exact Ho.out, HS.out⟩
end Go.Proofs.YtonlmlmjglaoiaaDoor
