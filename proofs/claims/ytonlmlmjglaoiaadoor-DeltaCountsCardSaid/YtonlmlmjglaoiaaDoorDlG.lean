/- The delta of two screens, as the program makes it. The tables hold what the program's text lays. -/
import Derived.Test.YtonlmlmjglaoiaaDoorDlR
namespace Go.Proofs.YtonlmlmjglaoiaaDoor
set_option linter.unusedVariables false
set_option linter.unusedSimpArgs false
open Go.RowKit

set_option maxHeartbeats 1000000 in
theorem of_bad (F G : Nat → Prop) (v u : Value) (xs ys : List Ln) (w : World) (ht : Tabs w) (ha : lnEl.Rd F w v xs) (hb : lnEl.Rd G w u ys) (hn : xs.length ≤ 1000000) (hnc : ∀ l ∈ xs, l.cells.length ≤ 1000000) (hn2 : ys.length ≤ 1000000) (hnc2 : ∀ l ∈ ys, l.cells.length ≤ 1000000) (hbad : chk xs ys ≠ 0) :
    Calls Tryd.prog 15 #[v, u] w fun e w' => e = .returned (.tuple #[.slice none 0 0, .int .i64 (chk xs ys)]) ∧ Sees w w' := by
  have K := Lib.hid (check_any F G v u xs ys w ht ha hb hn hnc hn2 hnc2)
  obtain ⟨ao, ca, rfl, _⟩ := ha.slice'
  obtain ⟨bo, cb, rfl, _⟩ := hb.slice'
  have e1 : (chk xs ys != 0) = true := by simpa using hbad
  clear ht ha hb hn hnc hn2 hnc2 hbad
  generalize chk xs ys = c at *
  generalize xs.length = n at *
  generalize ys.length = m at *
  go_enter Tryd.func15, Tryd.ntmps15
  go_wp2_with fail
  refine K.out.mono ?_
  rintro e w1 ⟨rfl, s1⟩
  go_wp2
  go_ret2
  exact ⟨rfl, s1⟩

/-- Where no column is patched in a row, but it is soft in one screen alone. -/
theorem rowP_soft {i : Nat} {a b : Ln} (h : parts i (chgR zc a.cells b.cells) b.cells b.soft a.cells.length = []) : rowP zc i a b = if a.soft ≠ b.soft then [⟨i, 0, [], b.soft⟩] else [] := by
  unfold rowP; rw [h]; simp
theorem rowP_some {i : Nat} {a b : Ln} (h : parts i (chgR zc a.cells b.cells) b.cells b.soft a.cells.length ≠ []) : rowP zc i a b = parts i (chgR zc a.cells b.cells) b.cells b.soft a.cells.length := by
  unfold rowP; rw [if_neg (fun h2 => h h2.1)]
/-- A patch in new memory. -/
theorem ptEl_new {W : World} {b : Nat} {p : Pt} {v : Value} (hrow : W.heap[b]? = some (.cells #[.int .i64 p.row, .int .i64 p.col, v, .bool p.soft] 37 (0, 0))) (F : Nat → Prop) (hv : cellEl.Own F W v p.cells) :
    ptEl.ownIn F W [.int .i64 p.row, .int .i64 p.col, v, .bool p.soft] [p] ∧ ∀ j u, [Value.int .i64 p.row, .int .i64 p.col, v, .bool p.soft][j]? = some u → W.cell? ((⟨b, 0, none⟩ : Addr).add j) = some u :=
  ⟨El.ownIn_one (E := ptEl) ⟨v, rfl, hv⟩, fun j u hu => El.row_cells hrow j u hu⟩

set_option maxRecDepth 1000000 in
set_option maxHeartbeats 4000000 in
theorem of_ok (F G : Nat → Prop) (v u : Value) (xs ys : List Ln) (w : World) (ht : Tabs w) (ha : lnEl.Rd F w v xs) (hb : lnEl.Rd G w u ys) (hok : chk xs ys = 0) :
    Calls Tryd.prog 15 #[v, u] w fun e w' => ∃ v', e = .returned (.tuple #[v', .int .i64 0]) ∧ ptEl.Own (fun b => w.heap.size ≤ b) w' v' (ofP zc xs ys) ∧ Sees w w' := by
  obtain ⟨s1, s2, hn, hlen, hcols⟩ := chk_ok hok
  have hn2 : ys.length ≤ 1000000 := by omega
  have hx1 : ∀ l ∈ xs, l.cells.length ≤ 1000 := fun l hl => (lnOk_row (scrB_len s1 hl).2.1).2
  have hy1 : ∀ l ∈ ys, l.cells.length ≤ 1000 := fun l hl => (lnOk_row (scrB_len s2 hl).2.1).2
  have K := check_any F G v u xs ys w ht ha hb (by omega) (fun l hl => by have := hx1 l hl; omega) hn2 (fun l hl => by have := hy1 l hl; omega)
  rw [hok] at K
  have HK := Lib.hid K
  have Hok := Lib.hid hok
  have Hlen := Lib.hid (ofUp_length 1001 (a := xs) (b := ys) (fun l hl => by have := hx1 l hl; omega))
  clear K hn2 hy1 hx1 s1 s2 hcols ht hok
  obtain ⟨ao, ca, rfl, hca⟩ := ha.slice'; obtain ⟨bo, cb, rfl, hcb⟩ := hb.slice'; have hw := Sees.refl w
  obtain ⟨n, hna⟩ : ∃ n, n = xs.length := ⟨_, rfl⟩; have hnb : n = ys.length := (by omega); rw [← hna] at ha hn; rw [← hnb] at hb; rw [← hna, ← hnb]; have Hna := Lib.hid hna; have Hnb := Lib.hid hnb; have Ha := Lib.hid ha; have Hb := Lib.hid hb; clear hna hnb ha hb hlen hca hcb
  rw [← Hna.out, ← Hnb.out] at HK
  go_enter Tryd.func15, Tryd.ntmps15
  go_wp2_with fail
  refine HK.out.mono ?_
  rintro e w0 ⟨rfl, hs0⟩
  have Hs0 := Lib.hid hs0
  clear hs0 hw HK
  go_wp2
  go_loopw [7, 21] (fun v i wr => ∃ k : Nat, k ≤ n ∧ i = .int .i64 k ∧ ptEl.Own (fun b => w.heap.size ≤ b) wr v (ofUp zc xs ys k) ∧ Sees w wr) (fun _ i _ => n - (intOf i).toNat)
  case atStart => exact ⟨0, by omega, rfl, El.Own.nil _ _, Hs0.out⟩
  case round =>
    obtain ⟨k, hk, rfl, ho, hS⟩ := hrel
    obtain ⟨a3, c3, hv3, _⟩ := ho.slice
    subst hv3
    have Ho := Lib.hid ho
    have HS := Lib.hid hS
    by_cases hlt : k < n
    · obtain ⟨b1, o1, x, a1, m1, rfl, _, hx, _, x1, x2, x3⟩ := Ha.out.line hlt
      obtain ⟨b2, o2, y, a2, m2, rfl, _, hy, hm2, y1, y2, y3⟩ := Hb.out.line hlt
      obtain ⟨hg, hx1⟩ := chk_rows Hok.out hx hy
      have hL := Hlen.out k
      have hnext := ofUp_next hx hy
      generalize hL0 : ofUp zc xs ys k = L0 at *
      obtain ⟨R, hR⟩ : ∃ R, R = chgR zc x.cells y.cells := ⟨_, rfl⟩
      have Hg := Lib.hid hg
      have X1 := Lib.hid x1
      have X2 := Lib.hid x2
      have Y1 := Lib.hid y1
      have Y2 := Lib.hid y2
      have X3 := Lib.hid x3
      have Y3 := Lib.hid y3
      have Hm2 := Lib.hid hm2
      have HR := Lib.hid hR
      have Hx1 := Lib.hid hx1
      have Hxy := Lib.hid hg.len
      have HL := Lib.hid (show L0.length ≤ 1001000 by have := Nat.mul_le_mul_right 1001 (show k ≤ 1000 by omega); omega)
      have Hnext := Lib.hid hnext
      clear hx hy hL hL0 hnext hg hm2 hR x1 x2 x3 y1 y2 y3 ho hS
      generalize hl1 : x.cells.length = n1 at *
      have Hn1 := Lib.hid hl1
      rw [← Hxy.out] at Y1 Y3 Hm2
      clear hl1 Hxy
      generalize hLl : L0.length = L at *
      have HLl := Lib.hid hLl
      clear hLl
      go_wp2
      refine wpFrom_go (by kernel_rfl) (by kernel_rfl) (fun hB w2 hw2' => ?_)
      have hw2 := HS.out.trans hw2'
      have HoP := Lib.hid (Ho.out.sees hw2').cut
      clear hw2'
      have hst : segStay (Sees w2) [.is (.slice (some ⟨b1, o1, none⟩) n ca), .is (.int .i64 k), .is (.pointer (some ⟨b1, o1 + k * 2, none⟩)), .is (.pointer (some ⟨b1, o1 + k * 2, none⟩)), .is (.slice a1 n1 m1),
          .is (.slice (some ⟨b2, o2, none⟩) n cb), .is (.int .i64 k), .is (.pointer (some ⟨b2, o2 + k * 2, none⟩)), .is (.pointer (some ⟨b2, o2 + k * 2, none⟩)), .is (.slice a2 n1 m2),
          .so (fun v W => ∃ g, v = .slice (some ⟨g, 0, none⟩) n1 n1 ∧ w2.heap.size ≤ g ∧ BRow W g R)] :=
        ⟨fun u W W' _ ⟨g, h1, h2, h3⟩ hs => ⟨g, h1, h2, h3.sees hs⟩, trivial⟩
      have hval : ∀ x v, (Spec.is x).val v = x := fun _ _ => rfl
      have hval2 : ∀ V v, (Spec.so V).val v = v := fun _ _ => rfl
      refine wpFrom_any 11 _ hB (by kernel_rfl) rfl hst (by simp only [List.cons_append, List.nil_append, List.drop_succ_cons, List.drop_zero, List.take_succ_cons, List.take_zero, Nat.reduceSub]; rfl) ?_
      refine ⟨fun vs W hI hV => .inl ⟨by go_simp, .inl (by go_simp)⟩, ?_⟩
      refine ⟨fun vs W hI hV => .inl ⟨by go_simp, .inl (by go_simp)⟩, ?_⟩
      refine ⟨fun vs W hI hV => .inl ⟨by go_simp, .inl (by go_simp)⟩, ?_⟩
      refine ⟨fun vs W hI hV => .inl ⟨by go_simp, .inl (by go_simp)⟩, ?_⟩
      refine ⟨fun vs W hI hV => .inl ⟨by go_simp, .inl (by have q := (hw2.trans hI).cell X1.out; clear hI hV; go_simp)⟩, ?_⟩
      refine ⟨fun vs W hI hV => .inl ⟨by go_simp, .inl (by go_simp)⟩, ?_⟩
      refine ⟨fun vs W hI hV => .inl ⟨by go_simp, .inl (by go_simp)⟩, ?_⟩
      refine ⟨fun vs W hI hV => .inl ⟨by go_simp, .inl (by go_simp)⟩, ?_⟩
      refine ⟨fun vs W hI hV => .inl ⟨by go_simp, .inl (by go_simp)⟩, ?_⟩
      refine ⟨fun vs W hI hV => .inl ⟨by go_simp, .inl (by have q := (hw2.trans hI).cell Y1.out; clear hI hV; go_simp)⟩, ?_⟩
      refine ⟨fun vs W hI hV => .inl ⟨by clear hV; go_simp, .inr (.inr ⟨28, #[.slice a1 n1 m1, .slice a2 n1 m2], by clear hV; go_simp, ?_⟩)⟩, ?_⟩
      · refine (changed_any F G _ _ x.cells y.cells W (X3.out.sees (hw2.trans hI)) (Y3.out.sees (hw2.trans hI)) Hg.out.len (by rw [Hn1.out]; have := Hx1.out; omega) Hg.out.t0).mono ?_
        rintro e w' ⟨g, rfl, hg, hrow, hs⟩
        exact ⟨_, rfl, rgGood_mk hst hI ⟨g, by rw [Hn1.out], Nat.le_trans hI.size hg, by rw [HR.out]; exact hrow⟩ hs⟩
      intro vs w3 hI hV
      obtain ⟨g, hvg, hgw, hrow⟩ : ∃ g, vs 10 = .slice (some ⟨g, 0, none⟩) n1 n1 ∧ w2.heap.size ≤ g ∧ BRow w3 g R := hV 10 _ rfl
      have hI2 := hw2.trans hI
      have Hrow := Lib.hid hrow
      have Ho3 : Hid (ptEl.Own (fun b => w.heap.size ≤ b ∧ b ≠ g) w3 (.slice a3 L c3) L0) := Lib.hid ((HoP.out.sees hI).mono (fun b _ h => ⟨h.1, by have := h.2; omega⟩))
      have HS3 := Lib.hid hI2
      have Hgl := Lib.hid (show w.heap.size ≤ g by have := hw2.size; omega)
      clear hI hV hst hI2 hrow hgw Ho HS hw2 HoP
      go_simp
      clear hvg
      refine wpFrom_to 12 hB (fun _ _ _ _ _ h => h) (by kernel_rfl) (by simp only [List.cons_append, List.nil_append, List.drop_succ_cons, List.drop_zero, List.take_succ_cons, List.take_zero, Nat.reduceSub]; rfl) ?_
      go_wp2
      refine wpFrom_end rfl ?_; go_wp2
      clear hB
      have hRl : R.length = n1 := by rw [HR.out]; unfold chgR; rw [chg_length]; exact Hn1.out
      have HRl := Lib.hid hRl
      clear hRl
      go_loopw [7, 11] (fun v j W => ∃ q : Nat, q ≤ n1 + 1 ∧ j = .int .i64 q ∧ (q = 0 ∨ q = n1 + 1 ∨ R[q - 1]? ≠ some true) ∧ ptEl.Own (fun b => w.heap.size ≤ b ∧ b ≠ g) W v (L0 ++ parts k R y.cells y.soft (min q n1)) ∧ BRow W g R ∧ Sees w W) (fun _ j _ => n1 + 1 - (intOf j).toNat)
      case atStart => exact ⟨0, by omega, rfl, .inl rfl, by simpa [parts] using Ho3.out, Hrow.out, HS3.out⟩
      case round =>
        obtain ⟨q, hq, rfl, hqr, ho, hrow, hS⟩ := hrel
        obtain ⟨a5, c5, hv5, _⟩ := ho.slice
        subst hv5
        have Hqr := Lib.hid hqr
        have HS := Lib.hid hS
        have Hrow := Lib.hid hrow
        have Ho := Lib.hid ho
        clear hqr hS hrow ho Ho3 HS3
        generalize hM : (L0 ++ parts (k : Int) R y.cells y.soft (min q n1)).length = M at *
        have HM := Lib.hid hM
        clear hM
        by_cases hql : q < n1
        · rw [show min q n1 = q by omega] at Ho HM
          have Hqr2 : Hid (q = 0 ∨ R[q - 1]? ≠ some true) := by
            rcases Hqr.out with h | h | h
            · exact .inl h
            · omega
            · exact .inr h
          have Hmin : Hid (min q n1 = q) := Lib.hid (by omega)
          clear Hqr
          go_wp2
          go_loop [11] (fun j => ∃ p : Nat, q ≤ p ∧ p ≤ n1 ∧ j = .int .i64 p ∧ ∀ m, q ≤ m → m < p → R[m]? = some true) (fun j => n1 - (intOf j).toNat)
          case atStart => exact ⟨q, by omega, by omega, rfl, fun m h1 h2 => by omega⟩
          case round =>
            obtain ⟨p, hqp, hpn, rfl, hrun⟩ := hrel
            have Hrun := Lib.hid hrun
            clear hrun
            by_cases hpl : p < n1
            · obtain ⟨t, ht⟩ : ∃ t, R[p]? = some t := ⟨_, List.getElem?_eq_getElem (by have := HRl.out; omega)⟩
              have r0 := Hrow.out.c ht
              have Ht := Lib.hid ht
              clear ht
              cases t with
              | true =>
                go_wp2
                go_round
                case rel => exact ⟨p + 1, by omega, by omega, by go_num, fun m h1 h2 => by
                  rcases Nat.lt_or_ge m p with h | h
                  · exact Hrun.out m h1 h
                  · obtain rfl : m = p := by omega
                    exact Ht.out⟩
                case measure => simp [intOf] <;> omega
              | false =>
                have Hnext : Hid (parts (k : Int) R y.cells y.soft (min (p + 1) n1) = parts (k : Int) R y.cells y.soft p) := by
                  unfold Hid; rw [show min (p + 1) n1 = p + 1 by omega]; exact parts_no (by rw [Ht.out]; simp)
                have Hqr3 : Hid (p + 1 = 0 ∨ p + 1 = n1 + 1 ∨ R[p + 1 - 1]? ≠ some true) := Lib.hid (.inr (.inr (by rw [Nat.add_sub_cancel, Ht.out]; simp)))
                clear Ht
                by_cases hpq : q < p
                · as_aux_lemma =>
                  obtain ⟨b3, o3, c3', ha2, _, _, _⟩ := Y3.out.cell (show q < n1 by omega)
                  subst ha2
                  have hm2 := Hm2.out
                  have hpm : p ≤ m2 := by omega
                  have hqm : ¬ (m2 = q) := by omega
                  have Hyl := Lib.hid Y3.out.len
                  have hrun := parts_run (row := (k : Int)) (b := y.cells) (soft := y.soft) Hqr2.out p hpq (by rw [← Hyl.out]; omega) Hrun.out
                  have Hparts := Lib.hid hrun
                  clear hrun
                  go_wp2
                  (try clear r0)
                  refine wpFrom_go (by kernel_rfl) (by kernel_rfl) (fun hB w5 hw5 => ?_)
                  obtain ⟨cs, hcs⟩ : ∃ cs, cs = (y.cells.drop q).take (p - q) := ⟨_, rfl⟩
                  have Hcs := Lib.hid hcs
                  have hcl : cs.length = p - q := by rw [hcs]; simp; have := Hyl.out; omega
                  have Hcl := Lib.hid hcl
                  clear hcs hcl
                  have Ho5 := Lib.hid (Ho.out.sees hw5).cut
                  have HS5 := Lib.hid (HS.out.trans hw5)
                  have Hrow5 := Lib.hid (Hrow.out.sees hw5)
                  clear hw5 HS Hrow Ho
                  have hst : segStay (Sees w5) [.is (.slice a5 M c5), .is (.int .i64 k), .is (.int .i64 q), .is (.slice (some ⟨b2, o2, none⟩) n cb), .is (.int .i64 k), .is (.pointer (some ⟨b2, o2 + k * 2, none⟩)), .is (.pointer (some ⟨b2, o2 + k * 2, none⟩)), .is (.slice (some ⟨b3, o3, none⟩) n1 m2),
                      .is (.int .i64 q), .is (.int .i64 p), .is (.slice (some ⟨b3, o3 + q * 16, none⟩) (p - q) (m2 - q)), .so (fun v W => OwnCells W w5.heap.size v cs), .is (.slice (some ⟨b2, o2, none⟩) n cb), .is (.int .i64 k), .is (.pointer (some ⟨b2, o2 + k * 2, none⟩)), .is (.pointer (some ⟨b2, o2 + k * 2 + 1, none⟩)), .is (.bool y.soft),
                      .so (fun x W => ∃ v', x = .agg #[.int .i64 k, .int .i64 q, v', .bool y.soft] ∧ OwnCells W w5.heap.size v' cs),
                      .so (fun x W => ∃ b v', x = .slice (some ⟨b, 0, none⟩) 1 1 ∧ W.heap[b]? = some (.cells #[.int .i64 k, .int .i64 q, v', .bool y.soft] 37 (0, 0)) ∧ OwnCells W w5.heap.size v' cs)] :=
                    ⟨fun u W W' _ h hs => h.sees hs, fun u W W' _ ⟨v', h1, h2⟩ hs => ⟨v', h1, h2.sees hs⟩, fun u W W' _ ⟨b, v', h1, h2, h3⟩ hs => ⟨b, v', h1, by rw [hs.block _ (Array.getElem?_eq_some_iff.1 h2).1]; exact h2, h3.sees hs⟩, trivial⟩
                  have hval : ∀ x v, (Spec.is x).val v = x := fun _ _ => rfl
                  have hval2 : ∀ V v, (Spec.so V).val v = v := fun _ _ => rfl
                  refine wpFrom_any 19 _ hB (by kernel_rfl) rfl hst (by simp only [List.cons_append, List.nil_append, List.drop_succ_cons, List.drop_zero, List.take_succ_cons, List.take_zero, Nat.reduceSub]; rfl) ?_
                  refine ⟨fun vs W hI hV => .inl ⟨by clear hI hV hst; go_simp, .inl (by clear hI hV hst; (try simp only [Act.put, hval, hval2, List.setIfInBounds_toArray, List.set_cons_zero, List.set_cons_succ]); go_simp)⟩, ?_⟩
                  refine ⟨fun vs W hI hV => .inl ⟨by clear hI hV hst; go_simp, .inl (by clear hI hV hst; (try simp only [Act.put, hval, hval2, List.setIfInBounds_toArray, List.set_cons_zero, List.set_cons_succ]); go_simp)⟩, ?_⟩
                  refine ⟨fun vs W hI hV => .inl ⟨by clear hI hV hst; go_simp, .inl (by clear hI hV hst; (try simp only [Act.put, hval, hval2, List.setIfInBounds_toArray, List.set_cons_zero, List.set_cons_succ]); go_simp)⟩, ?_⟩
                  refine ⟨fun vs W hI hV => .inl ⟨by clear hI hV hst; go_simp, .inl (by clear hI hV hst; (try simp only [Act.put, hval, hval2, List.setIfInBounds_toArray, List.set_cons_zero, List.set_cons_succ]); go_simp)⟩, ?_⟩
                  refine ⟨fun vs W hI hV => .inl ⟨by clear hI hV hst; go_simp, .inl (by clear hI hV hst; (try simp only [Act.put, hval, hval2, List.setIfInBounds_toArray, List.set_cons_zero, List.set_cons_succ]); go_simp)⟩, ?_⟩
                  refine ⟨fun vs W hI hV => .inl ⟨by clear hI hV hst; go_simp, .inl (by clear hI hV hst; (try simp only [Act.put, hval, hval2, List.setIfInBounds_toArray, List.set_cons_zero, List.set_cons_succ]); go_simp)⟩, ?_⟩
                  refine ⟨fun vs W hI hV => .inl ⟨by clear hI hV hst; go_simp, .inl (by clear hI hV hst; (try simp only [Act.put, hval, hval2, List.setIfInBounds_toArray, List.set_cons_zero, List.set_cons_succ]); go_simp)⟩, ?_⟩
                  refine ⟨fun vs W hI hV => .inl ⟨by clear hI hV hst; go_simp, .inl (by have q1 := (HS5.out.trans hI).cell Y1.out; clear hI hV hst; (try simp only [Act.put, hval, hval2, List.setIfInBounds_toArray, List.set_cons_zero, List.set_cons_succ]); go_simp)⟩, ?_⟩
                  refine ⟨fun vs W hI hV => .inl ⟨by clear hI hV hst; go_simp, .inl (by clear hI hV hst; (try simp only [Act.put, hval, hval2, List.setIfInBounds_toArray, List.set_cons_zero, List.set_cons_succ]); go_simp)⟩, ?_⟩
                  refine ⟨fun vs W hI hV => .inl ⟨by clear hI hV hst; go_simp, .inl (by clear hI hV hst; (try simp only [Act.put, hval, hval2, List.setIfInBounds_toArray, List.set_cons_zero, List.set_cons_succ]); go_simp)⟩, ?_⟩
                  refine ⟨fun vs W hI hV => .inl ⟨by clear hI hV hst; go_simp, .inl (by clear hI hV hst; (try simp only [Act.put, hval, hval2, List.setIfInBounds_toArray, List.set_cons_zero, List.set_cons_succ]); go_simp)⟩, ?_⟩
                  refine ⟨fun vs W hI hV => .inl ⟨by clear hI hV hst; go_simp, .inr (.inr ⟨29, #[.slice (some ⟨b3, o3 + q * 16, none⟩) (p - q) (m2 - q)], by clear hI hV hst; (try simp only [Act.put, hval, hval2, List.setIfInBounds_toArray, List.set_cons_zero, List.set_cons_succ]); go_simp, ?_⟩)⟩, ?_⟩
                  · have hrd : cellEl.Rd G W (.slice (some ⟨b3, o3 + q * 16, none⟩) (p - q) (m2 - q)) cs := by
                      rw [Hcs.out]
                      exact ((Y3.out.sees (HS5.out.trans hI)).drop q (by have := Hyl.out; omega) (m2 - q) (by omega)).take (p - q) (by rw [List.length_drop]; have := Hyl.out; omega) (m2 - q) (by omega)
                    refine (clone_any _ cs W hrd.rdCells (by rw [Hcl.out]; have := Hx1.out; omega)).mono ?_
                    rintro e w' ⟨v', rfl, hown, hs⟩
                    exact ⟨v', rfl, rgGood_mk hst hI (hown.mono hI.size) hs⟩
                  refine ⟨fun vs W hI hV => .inl ⟨by clear hI hV hst; go_simp, .inl (by clear hI hV hst; (try simp only [Act.put, hval, hval2, List.setIfInBounds_toArray, List.set_cons_zero, List.set_cons_succ]); go_simp)⟩, ?_⟩
                  refine ⟨fun vs W hI hV => .inl ⟨by clear hI hV hst; go_simp, .inl (by clear hI hV hst; (try simp only [Act.put, hval, hval2, List.setIfInBounds_toArray, List.set_cons_zero, List.set_cons_succ]); go_simp)⟩, ?_⟩
                  refine ⟨fun vs W hI hV => .inl ⟨by clear hI hV hst; go_simp, .inl (by clear hI hV hst; (try simp only [Act.put, hval, hval2, List.setIfInBounds_toArray, List.set_cons_zero, List.set_cons_succ]); go_simp)⟩, ?_⟩
                  refine ⟨fun vs W hI hV => .inl ⟨by clear hI hV hst; go_simp, .inl (by clear hI hV hst; (try simp only [Act.put, hval, hval2, List.setIfInBounds_toArray, List.set_cons_zero, List.set_cons_succ]); go_simp)⟩, ?_⟩
                  refine ⟨fun vs W hI hV => .inl ⟨by clear hI hV hst; go_simp, .inl (by have q1 := (HS5.out.trans hI).cell Y2.out; clear hI hV hst; (try simp only [Act.put, hval, hval2, List.setIfInBounds_toArray, List.set_cons_zero, List.set_cons_succ]); go_simp)⟩, ?_⟩
                  refine ⟨fun vs W hI hV => ?_, ?_⟩
                  · have h2 : OwnCells W w5.heap.size (vs 11) cs := hV 11 _ (by kernel_rfl) rfl
                    obtain ⟨a', c', e⟩ := h2.slice
                    exact .inl ⟨by clear hI hV hst h2; go_simp, .inl ⟨.agg #[.int .i64 k, .int .i64 q, .slice a' cs.length c', .bool y.soft], W, by clear hI hV hst h2; (try simp only [Act.put, hval, hval2, List.setIfInBounds_toArray, List.set_cons_zero, List.set_cons_succ]); go_simp, rgGood_mk hst hI ⟨_, rfl, e ▸ h2⟩ (Sees.refl W)⟩⟩
                  refine ⟨fun vs W hI hV => ?_, ?_⟩
                  · obtain ⟨v', e, h2⟩ : ∃ v', vs 17 = .agg #[.int .i64 k, .int .i64 q, v', .bool y.soft] ∧ OwnCells W w5.heap.size v' cs := hV 17 _ (by kernel_rfl) rfl
                    obtain ⟨a', c', rfl⟩ := h2.slice
                    have hs : Sees W (W.alloc (.cells #[.int .i64 k, .int .i64 q, .slice a' cs.length c', .bool y.soft] 37)) := (Sees.refl W).alloc _
                    exact .inl ⟨by clear hI hV hst h2 hs; go_simp, .inl ⟨.slice (some ⟨W.heap.size, 0, none⟩) 1 1, W.alloc (.cells #[.int .i64 k, .int .i64 q, .slice a' cs.length c', .bool y.soft] 37), by clear hI hV hst h2 hs; (try simp only [Act.put, hval, hval2, List.setIfInBounds_toArray, List.set_cons_zero, List.set_cons_succ]); go_simp, rgGood_mk hst hI ⟨_, _, rfl, heap_alloc_new _ _, h2.sees hs⟩ hs⟩⟩
                  intro vs w6 hI hV
                  obtain ⟨b6, v6, hv6, hr6, ho6⟩ : ∃ b v', vs 18 = .slice (some ⟨b, 0, none⟩) 1 1 ∧ w6.heap[b]? = some (.cells #[.int .i64 k, .int .i64 q, v', .bool y.soft] 37 (0, 0)) ∧ OwnCells w6 w5.heap.size v' cs := hV 18 _ rfl
                  have HP6 := Lib.hid (ptEl_new (p := ⟨k, q, cs, y.soft⟩) hr6 _ ho6.el)
                  have Ho6b := Lib.hid (fun g' (hg' : v6.ownBlock = some g') => El.rowLt ho6 hg')
                  have Ho6 := Lib.hid (Ho5.out.sees hI)
                  have HS6 := Lib.hid (HS5.out.trans hI)
                  have Hrow6 := Lib.hid (Hrow5.out.sees hI)
                  have Hz6 := Lib.hid hI.size
                  have Hg5 := Lib.hid Hrow5.out.lt
                  clear hI hV hst hr6 ho6 Ho5 HS5 Hrow5
                  (try simp only [Act.put, hval, hval2, List.setIfInBounds_toArray, List.set_cons_zero, List.set_cons_succ])
                  have HcF : Hid (∀ b, ((w.heap.size ≤ b ∧ b ≠ g) ∧ b < w5.heap.size) → b < w6.heap.size) := fun b hb => by have := Hz6.out; omega
                  have HcN : Hid (∀ b, (v6.ownBlock = some b ∧ w5.heap.size ≤ b) → b < w6.heap.size ∧ ¬ ((w.heap.size ≤ b ∧ b ≠ g) ∧ b < w5.heap.size)) := fun b hb => ⟨(Ho6b.out b hb.1).2, fun h => by have := h.2; omega⟩
                  have HcL : Hid ((L0 ++ parts (k : Int) R y.cells y.soft q).length + [(⟨k, q, cs, y.soft⟩ : Pt)].length ≤ 100000000) := by
                    have h1 := HL.out; have h2 := parts_length (k : Int) R y.cells y.soft q; have h3 := HLl.out
                    unfold Hid; rw [List.length_append, List.length_cons, List.length_nil]; omega
                  go_simp
                  clear hv6
                  refine wpFrom_to 21 hB (fun _ _ _ _ _ h => h) (by kernel_rfl) (by simp only [List.cons_append, List.nil_append, List.drop_succ_cons, List.drop_zero, List.take_succ_cons, List.take_zero, Nat.reduceSub]; rfl) ?_
                  go_wp2_with (at_builtin; refine El.wpList_append_own (v := .slice a5 M c5) typedPt rfl (.tmp 59) (.tmp 77) rfl (by go_simp) Ho6.out ⟨b6, 0, none⟩ 1 1 (by go_simp) _ [⟨k, q, cs, y.soft⟩] _ HP6.out.1 rfl HP6.out.2 HcF.out HcN.out HcL.out ?_; intro v7 w7 ho7 hk7)
                  refine wpFrom_end rfl ?_; go_wp2
                  have HS7 : Sees w w7 := El.keep_new HS6.out hk7 (fun g' hg' => (Ho6.out.base hg').1.1.1)
                  refine ⟨⟨p + 1, by omega, by go_num, Hqr3.out, ?_, ?_, HS7⟩, by simp [intOf] <;> omega⟩
                  · rw [Hnext.out, Hparts.out, ← List.append_assoc, ← Hcs.out]
                    exact ho7.mono (fun b _ h => by
                      rcases h with h | h | h
                      · exact h.1
                      · exact ⟨by have := HS6.out.size; have := h.2; have := Hg5.out; have := Hgl.out; omega, by have := h.2; have := Hg5.out; omega⟩
                      · exact ⟨by have := HS6.out.size; omega, by have := Hg5.out; have := Hz6.out; omega⟩)
                  · unfold BRow
                    rw [hk7.block _ Hrow6.out.lt (fun e => (Ho6.out.base e).1.1.2 rfl)]
                    exact Hrow6.out
                · obtain rfl : p = q := by omega
                  go_wp2
                  refine ⟨⟨p + 1, by omega, by go_num, Hqr3.out, by rw [Hnext.out]; exact Ho.out, Hrow.out, HS.out⟩, by simp [intOf] <;> omega⟩
            · have Hnext : Hid (parts (k : Int) R y.cells y.soft (min (p + 1) n1) = parts (k : Int) R y.cells y.soft p) := by
                unfold Hid; rw [show min (p + 1) n1 = p by omega]
              have Hqr3 : Hid (p + 1 = 0 ∨ p + 1 = n1 + 1 ∨ R[p + 1 - 1]? ≠ some true) := Lib.hid (.inr (.inl (by omega)))
              have hpq : q < p := by omega
              as_aux_lemma =>
              obtain ⟨b3, o3, c3', ha2, _, _, _⟩ := Y3.out.cell (show q < n1 by omega)
              subst ha2
              have hm2 := Hm2.out
              have hpm : p ≤ m2 := by omega
              have hqm : ¬ (m2 = q) := by omega
              have Hyl := Lib.hid Y3.out.len
              have hrun := parts_run (row := (k : Int)) (b := y.cells) (soft := y.soft) Hqr2.out p hpq (by rw [← Hyl.out]; omega) Hrun.out
              have Hparts := Lib.hid hrun
              clear hrun
              go_wp2
              (try clear r0)
              refine wpFrom_go (by kernel_rfl) (by kernel_rfl) (fun hB w5 hw5 => ?_)
              obtain ⟨cs, hcs⟩ : ∃ cs, cs = (y.cells.drop q).take (p - q) := ⟨_, rfl⟩
              have Hcs := Lib.hid hcs
              have hcl : cs.length = p - q := by rw [hcs]; simp; have := Hyl.out; omega
              have Hcl := Lib.hid hcl
              clear hcs hcl
              have Ho5 := Lib.hid (Ho.out.sees hw5).cut
              have HS5 := Lib.hid (HS.out.trans hw5)
              have Hrow5 := Lib.hid (Hrow.out.sees hw5)
              clear hw5 HS Hrow Ho
              have hst : segStay (Sees w5) [.is (.slice a5 M c5), .is (.int .i64 k), .is (.int .i64 q), .is (.slice (some ⟨b2, o2, none⟩) n cb), .is (.int .i64 k), .is (.pointer (some ⟨b2, o2 + k * 2, none⟩)), .is (.pointer (some ⟨b2, o2 + k * 2, none⟩)), .is (.slice (some ⟨b3, o3, none⟩) n1 m2),
                  .is (.int .i64 q), .is (.int .i64 p), .is (.slice (some ⟨b3, o3 + q * 16, none⟩) (p - q) (m2 - q)), .so (fun v W => OwnCells W w5.heap.size v cs), .is (.slice (some ⟨b2, o2, none⟩) n cb), .is (.int .i64 k), .is (.pointer (some ⟨b2, o2 + k * 2, none⟩)), .is (.pointer (some ⟨b2, o2 + k * 2 + 1, none⟩)), .is (.bool y.soft),
                  .so (fun x W => ∃ v', x = .agg #[.int .i64 k, .int .i64 q, v', .bool y.soft] ∧ OwnCells W w5.heap.size v' cs),
                  .so (fun x W => ∃ b v', x = .slice (some ⟨b, 0, none⟩) 1 1 ∧ W.heap[b]? = some (.cells #[.int .i64 k, .int .i64 q, v', .bool y.soft] 37 (0, 0)) ∧ OwnCells W w5.heap.size v' cs)] :=
                ⟨fun u W W' _ h hs => h.sees hs, fun u W W' _ ⟨v', h1, h2⟩ hs => ⟨v', h1, h2.sees hs⟩, fun u W W' _ ⟨b, v', h1, h2, h3⟩ hs => ⟨b, v', h1, by rw [hs.block _ (Array.getElem?_eq_some_iff.1 h2).1]; exact h2, h3.sees hs⟩, trivial⟩
              have hval : ∀ x v, (Spec.is x).val v = x := fun _ _ => rfl
              have hval2 : ∀ V v, (Spec.so V).val v = v := fun _ _ => rfl
              refine wpFrom_any 19 _ hB (by kernel_rfl) rfl hst (by simp only [List.cons_append, List.nil_append, List.drop_succ_cons, List.drop_zero, List.take_succ_cons, List.take_zero, Nat.reduceSub]; rfl) ?_
              refine ⟨fun vs W hI hV => .inl ⟨by clear hI hV hst; go_simp, .inl (by clear hI hV hst; (try simp only [Act.put, hval, hval2, List.setIfInBounds_toArray, List.set_cons_zero, List.set_cons_succ]); go_simp)⟩, ?_⟩
              refine ⟨fun vs W hI hV => .inl ⟨by clear hI hV hst; go_simp, .inl (by clear hI hV hst; (try simp only [Act.put, hval, hval2, List.setIfInBounds_toArray, List.set_cons_zero, List.set_cons_succ]); go_simp)⟩, ?_⟩
              refine ⟨fun vs W hI hV => .inl ⟨by clear hI hV hst; go_simp, .inl (by clear hI hV hst; (try simp only [Act.put, hval, hval2, List.setIfInBounds_toArray, List.set_cons_zero, List.set_cons_succ]); go_simp)⟩, ?_⟩
              refine ⟨fun vs W hI hV => .inl ⟨by clear hI hV hst; go_simp, .inl (by clear hI hV hst; (try simp only [Act.put, hval, hval2, List.setIfInBounds_toArray, List.set_cons_zero, List.set_cons_succ]); go_simp)⟩, ?_⟩
              refine ⟨fun vs W hI hV => .inl ⟨by clear hI hV hst; go_simp, .inl (by clear hI hV hst; (try simp only [Act.put, hval, hval2, List.setIfInBounds_toArray, List.set_cons_zero, List.set_cons_succ]); go_simp)⟩, ?_⟩
              refine ⟨fun vs W hI hV => .inl ⟨by clear hI hV hst; go_simp, .inl (by clear hI hV hst; (try simp only [Act.put, hval, hval2, List.setIfInBounds_toArray, List.set_cons_zero, List.set_cons_succ]); go_simp)⟩, ?_⟩
              refine ⟨fun vs W hI hV => .inl ⟨by clear hI hV hst; go_simp, .inl (by clear hI hV hst; (try simp only [Act.put, hval, hval2, List.setIfInBounds_toArray, List.set_cons_zero, List.set_cons_succ]); go_simp)⟩, ?_⟩
              refine ⟨fun vs W hI hV => .inl ⟨by clear hI hV hst; go_simp, .inl (by have q1 := (HS5.out.trans hI).cell Y1.out; clear hI hV hst; (try simp only [Act.put, hval, hval2, List.setIfInBounds_toArray, List.set_cons_zero, List.set_cons_succ]); go_simp)⟩, ?_⟩
              refine ⟨fun vs W hI hV => .inl ⟨by clear hI hV hst; go_simp, .inl (by clear hI hV hst; (try simp only [Act.put, hval, hval2, List.setIfInBounds_toArray, List.set_cons_zero, List.set_cons_succ]); go_simp)⟩, ?_⟩
              refine ⟨fun vs W hI hV => .inl ⟨by clear hI hV hst; go_simp, .inl (by clear hI hV hst; (try simp only [Act.put, hval, hval2, List.setIfInBounds_toArray, List.set_cons_zero, List.set_cons_succ]); go_simp)⟩, ?_⟩
              refine ⟨fun vs W hI hV => .inl ⟨by clear hI hV hst; go_simp, .inl (by clear hI hV hst; (try simp only [Act.put, hval, hval2, List.setIfInBounds_toArray, List.set_cons_zero, List.set_cons_succ]); go_simp)⟩, ?_⟩
              refine ⟨fun vs W hI hV => .inl ⟨by clear hI hV hst; go_simp, .inr (.inr ⟨29, #[.slice (some ⟨b3, o3 + q * 16, none⟩) (p - q) (m2 - q)], by clear hI hV hst; (try simp only [Act.put, hval, hval2, List.setIfInBounds_toArray, List.set_cons_zero, List.set_cons_succ]); go_simp, ?_⟩)⟩, ?_⟩
              · have hrd : cellEl.Rd G W (.slice (some ⟨b3, o3 + q * 16, none⟩) (p - q) (m2 - q)) cs := by
                  rw [Hcs.out]
                  exact ((Y3.out.sees (HS5.out.trans hI)).drop q (by have := Hyl.out; omega) (m2 - q) (by omega)).take (p - q) (by rw [List.length_drop]; have := Hyl.out; omega) (m2 - q) (by omega)
                refine (clone_any _ cs W hrd.rdCells (by rw [Hcl.out]; have := Hx1.out; omega)).mono ?_
                rintro e w' ⟨v', rfl, hown, hs⟩
                exact ⟨v', rfl, rgGood_mk hst hI (hown.mono hI.size) hs⟩
              refine ⟨fun vs W hI hV => .inl ⟨by clear hI hV hst; go_simp, .inl (by clear hI hV hst; (try simp only [Act.put, hval, hval2, List.setIfInBounds_toArray, List.set_cons_zero, List.set_cons_succ]); go_simp)⟩, ?_⟩
              refine ⟨fun vs W hI hV => .inl ⟨by clear hI hV hst; go_simp, .inl (by clear hI hV hst; (try simp only [Act.put, hval, hval2, List.setIfInBounds_toArray, List.set_cons_zero, List.set_cons_succ]); go_simp)⟩, ?_⟩
              refine ⟨fun vs W hI hV => .inl ⟨by clear hI hV hst; go_simp, .inl (by clear hI hV hst; (try simp only [Act.put, hval, hval2, List.setIfInBounds_toArray, List.set_cons_zero, List.set_cons_succ]); go_simp)⟩, ?_⟩
              refine ⟨fun vs W hI hV => .inl ⟨by clear hI hV hst; go_simp, .inl (by clear hI hV hst; (try simp only [Act.put, hval, hval2, List.setIfInBounds_toArray, List.set_cons_zero, List.set_cons_succ]); go_simp)⟩, ?_⟩
              refine ⟨fun vs W hI hV => .inl ⟨by clear hI hV hst; go_simp, .inl (by have q1 := (HS5.out.trans hI).cell Y2.out; clear hI hV hst; (try simp only [Act.put, hval, hval2, List.setIfInBounds_toArray, List.set_cons_zero, List.set_cons_succ]); go_simp)⟩, ?_⟩
              refine ⟨fun vs W hI hV => ?_, ?_⟩
              · have h2 : OwnCells W w5.heap.size (vs 11) cs := hV 11 _ (by kernel_rfl) rfl
                obtain ⟨a', c', e⟩ := h2.slice
                exact .inl ⟨by clear hI hV hst h2; go_simp, .inl ⟨.agg #[.int .i64 k, .int .i64 q, .slice a' cs.length c', .bool y.soft], W, by clear hI hV hst h2; (try simp only [Act.put, hval, hval2, List.setIfInBounds_toArray, List.set_cons_zero, List.set_cons_succ]); go_simp, rgGood_mk hst hI ⟨_, rfl, e ▸ h2⟩ (Sees.refl W)⟩⟩
              refine ⟨fun vs W hI hV => ?_, ?_⟩
              · obtain ⟨v', e, h2⟩ : ∃ v', vs 17 = .agg #[.int .i64 k, .int .i64 q, v', .bool y.soft] ∧ OwnCells W w5.heap.size v' cs := hV 17 _ (by kernel_rfl) rfl
                obtain ⟨a', c', rfl⟩ := h2.slice
                have hs : Sees W (W.alloc (.cells #[.int .i64 k, .int .i64 q, .slice a' cs.length c', .bool y.soft] 37)) := (Sees.refl W).alloc _
                exact .inl ⟨by clear hI hV hst h2 hs; go_simp, .inl ⟨.slice (some ⟨W.heap.size, 0, none⟩) 1 1, W.alloc (.cells #[.int .i64 k, .int .i64 q, .slice a' cs.length c', .bool y.soft] 37), by clear hI hV hst h2 hs; (try simp only [Act.put, hval, hval2, List.setIfInBounds_toArray, List.set_cons_zero, List.set_cons_succ]); go_simp, rgGood_mk hst hI ⟨_, _, rfl, heap_alloc_new _ _, h2.sees hs⟩ hs⟩⟩
              intro vs w6 hI hV
              obtain ⟨b6, v6, hv6, hr6, ho6⟩ : ∃ b v', vs 18 = .slice (some ⟨b, 0, none⟩) 1 1 ∧ w6.heap[b]? = some (.cells #[.int .i64 k, .int .i64 q, v', .bool y.soft] 37 (0, 0)) ∧ OwnCells w6 w5.heap.size v' cs := hV 18 _ rfl
              have HP6 := Lib.hid (ptEl_new (p := ⟨k, q, cs, y.soft⟩) hr6 _ ho6.el)
              have Ho6b := Lib.hid (fun g' (hg' : v6.ownBlock = some g') => El.rowLt ho6 hg')
              have Ho6 := Lib.hid (Ho5.out.sees hI)
              have HS6 := Lib.hid (HS5.out.trans hI)
              have Hrow6 := Lib.hid (Hrow5.out.sees hI)
              have Hz6 := Lib.hid hI.size
              have Hg5 := Lib.hid Hrow5.out.lt
              clear hI hV hst hr6 ho6 Ho5 HS5 Hrow5
              (try simp only [Act.put, hval, hval2, List.setIfInBounds_toArray, List.set_cons_zero, List.set_cons_succ])
              have HcF : Hid (∀ b, ((w.heap.size ≤ b ∧ b ≠ g) ∧ b < w5.heap.size) → b < w6.heap.size) := fun b hb => by have := Hz6.out; omega
              have HcN : Hid (∀ b, (v6.ownBlock = some b ∧ w5.heap.size ≤ b) → b < w6.heap.size ∧ ¬ ((w.heap.size ≤ b ∧ b ≠ g) ∧ b < w5.heap.size)) := fun b hb => ⟨(Ho6b.out b hb.1).2, fun h => by have := h.2; omega⟩
              have HcL : Hid ((L0 ++ parts (k : Int) R y.cells y.soft q).length + [(⟨k, q, cs, y.soft⟩ : Pt)].length ≤ 100000000) := by
                have h1 := HL.out; have h2 := parts_length (k : Int) R y.cells y.soft q; have h3 := HLl.out
                unfold Hid; rw [List.length_append, List.length_cons, List.length_nil]; omega
              go_simp
              clear hv6
              refine wpFrom_to 21 hB (fun _ _ _ _ _ h => h) (by kernel_rfl) (by simp only [List.cons_append, List.nil_append, List.drop_succ_cons, List.drop_zero, List.take_succ_cons, List.take_zero, Nat.reduceSub]; rfl) ?_
              go_wp2_with (at_builtin; refine El.wpList_append_own (v := .slice a5 M c5) typedPt rfl (.tmp 59) (.tmp 77) rfl (by go_simp) Ho6.out ⟨b6, 0, none⟩ 1 1 (by go_simp) _ [⟨k, q, cs, y.soft⟩] _ HP6.out.1 rfl HP6.out.2 HcF.out HcN.out HcL.out ?_; intro v7 w7 ho7 hk7)
              refine wpFrom_end rfl ?_; go_wp2
              have HS7 : Sees w w7 := El.keep_new HS6.out hk7 (fun g' hg' => (Ho6.out.base hg').1.1.1)
              refine ⟨⟨p + 1, by omega, by go_num, Hqr3.out, ?_, ?_, HS7⟩, by simp [intOf] <;> omega⟩
              · rw [Hnext.out, Hparts.out, ← List.append_assoc, ← Hcs.out]
                exact ho7.mono (fun b _ h => by
                  rcases h with h | h | h
                  · exact h.1
                  · exact ⟨by have := HS6.out.size; have := h.2; have := Hg5.out; have := Hgl.out; omega, by have := h.2; have := Hg5.out; omega⟩
                  · exact ⟨by have := HS6.out.size; omega, by have := Hg5.out; have := Hz6.out; omega⟩)
              · unfold BRow
                rw [hk7.block _ Hrow6.out.lt (fun e => (Ho6.out.base e).1.1.2 rfl)]
                exact Hrow6.out
        · have HmE : Hid (min q n1 = n1) := Lib.hid (by omega)
          rw [HmE.out] at Ho HM
          have x2 := HS.out.cell X2.out
          have y2 := HS.out.cell Y2.out
          have g1 := fun d os => (sees_grow wr d os).cell x2
          have g2 := fun d os => (sees_grow wr d os).cell y2
          clear x2 y2 Hrow
          by_cases hp : parts (k : Int) R y.cells y.soft n1 = []
          · have HrP : Hid (rowP zc k x y = if x.soft ≠ y.soft then [⟨k, 0, [], y.soft⟩] else []) := Lib.hid (rowP_soft (by rw [Hn1.out, ← HR.out]; exact hp))
            rw [hp, List.append_nil] at Ho HM
            have hML : M = L := by have := HM.out; have := HLl.out; omega
            clear hp
            subst hML
            rcases bool_cases (x.soft == y.soft) with e1 | e1
            · as_aux_lemma =>
              go_wp2
              refine wp_region_quiet_below (by kernel_rfl) (by kernel_rfl) ?_
              repeat (first | go_big_quiet_skip | (go_big_quiet_want; go_big_quiet_op; go_big_quiet_on))
              refine wpQuiet_nil ?_; intro w2 hw2'; have hw2 := regrown_sees hw2'; clear hw2'
              go_wp2
              have e2 : x.soft = y.soft := by simpa using e1
              refine ⟨⟨k + 1, by omega, by go_num, ?_, HS.out.trans hw2⟩, by simp [intOf] <;> omega⟩
              rw [Hnext.out, HrP.out, if_neg (by simp [e2]), List.append_nil]
              exact (Ho.out.sees hw2).mono (fun b _ h => h.1)
            · as_aux_lemma =>
              go_wp2
              refine wp_region_quiet_below (by kernel_rfl) (by kernel_rfl) ?_
              repeat (first | go_big_quiet_skip | (go_big_quiet_want; go_big_quiet_op; go_big_quiet_on))
              refine wpQuiet_nil ?_; intro w2 hw2'; have hw2 := regrown_sees hw2'; clear hw2'
              have y2 := (HS.out.trans hw2).cell Y2.out
              have HP6 := Lib.hid (ptEl_new (W := w2.alloc (.cells #[.int .i64 k, .int .i64 0, .slice none 0 0, .bool y.soft] 37)) (b := w2.heap.size) (p := ⟨k, 0, [], y.soft⟩) (v := .slice none 0 0) (heap_alloc_new _ _) (fun _ => False) (El.Own.nil _ _))
              have Ho6 := Lib.hid ((Ho.out.sees hw2).cut.sees ((Sees.refl w2).alloc (.cells #[.int .i64 k, .int .i64 0, .slice none 0 0, .bool y.soft] 37)))
              have HS6 := Lib.hid ((HS.out.trans hw2).alloc (.cells #[.int .i64 k, .int .i64 0, .slice none 0 0, .bool y.soft] 37))
              have Hz := Lib.hid (HS.out.trans hw2).size
              have HcF : Hid (∀ b, ((w.heap.size ≤ b ∧ b ≠ g) ∧ b < w2.heap.size) → b < (w2.alloc (.cells #[.int .i64 k, .int .i64 0, .slice none 0 0, .bool y.soft] 37)).heap.size) := fun b hb => by simp; omega
              have HcL : Hid (L0.length + [(⟨k, 0, [], y.soft⟩ : Pt)].length ≤ 100000000) := by
                have h1 := HL.out; have h3 := HLl.out
                unfold Hid; rw [List.length_cons, List.length_nil]; omega
              clear hw2
              go_wp2_with (at_builtin; refine El.wpList_append_own (v := .slice a5 M c5) typedPt rfl (.tmp 96) (.tmp 104) rfl (by go_simp) Ho6.out ⟨w2.heap.size, 0, none⟩ 1 1 (by go_simp) _ [⟨k, 0, [], y.soft⟩] _ HP6.out.1 rfl HP6.out.2 HcF.out (fun b h => h.elim) HcL.out ?_; intro v7 w7 ho7 hk7)
              have HS7 : Sees w w7 := El.keep_new HS6.out hk7 (fun g' hg' => (Ho6.out.base hg').1.1.1)
              have e2 : x.soft ≠ y.soft := by simpa using e1
              refine ⟨⟨k + 1, by omega, by go_num, ?_, HS7⟩, by simp [intOf] <;> omega⟩
              rw [Hnext.out, HrP.out, if_pos e2]
              exact ho7.mono (fun b _ h => by
                rcases h with h | h | h
                · exact h.1.1
                · exact h.elim
                · have := Hz.out; simp at h; omega)
          · have HrP : Hid (rowP zc k x y = parts (k : Int) R y.cells y.soft n1) := Lib.hid (by
              have := rowP_some (i := k) (a := x) (b := y) (by rw [Hn1.out, ← HR.out]; exact hp)
              rw [this, Hn1.out, ← HR.out])
            have hML : L < M := by
              have h1 := HM.out; have h2 := HLl.out
              have h3 := List.length_pos_iff.2 hp
              rw [List.length_append] at h1; omega
            have e1 : ((M : Int) == (L : Int)) = false := by rw [beq_eq_false_iff_ne]; omega
            have e2 : (M == L) = false := by rw [beq_eq_false_iff_ne]; omega
            clear hp
            as_aux_lemma =>
            go_wp2
            refine wp_region_quiet_below (by kernel_rfl) (by kernel_rfl) ?_
            repeat (first | go_big_quiet_skip | (go_big_quiet_want; go_big_quiet_op; go_big_quiet_on))
            refine wpQuiet_nil ?_; intro w2 hw2'; have hw2 := regrown_sees hw2'; clear hw2'
            go_wp2
            refine ⟨⟨k + 1, by omega, by go_num, ?_, HS.out.trans hw2⟩, by simp [intOf] <;> omega⟩
            rw [Hnext.out, HrP.out]
            exact (Ho.out.sees hw2).mono (fun b _ h => h.1)
    · obtain rfl : k = n := by omega
      have HE : Hid (ofUp zc xs ys k = ofP zc xs ys) := by unfold Hid ofP; rw [← Hna.out]
      go_wp2
      go_ret2
      exact ⟨_, rfl, by rw [← HE.out]; exact Ho.out, HS.out⟩
end Go.Proofs.YtonlmlmjglaoiaaDoor
