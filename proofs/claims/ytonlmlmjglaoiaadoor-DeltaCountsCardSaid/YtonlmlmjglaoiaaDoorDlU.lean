/- Numbers of the call's own; the rows of patches, sorted, each once. No condition. -/
import Derived.Test.YtonlmlmjglaoiaaDoorShelf
import Derived.Test.YtonlmlmjglaoiaaDoorDlI
import Derived.Test.YtonlmlmjglaoiaaDoorDlG
import Derived.Sort.OwnSortedInts
namespace Go.Proofs.YtonlmlmjglaoiaaDoor
set_option linter.unusedVariables false
set_option linter.unusedSimpArgs false
open Go.RowKit

def intE : El Int := intEl 3 .i64
theorem typedInt : El.Typed Tryd.prog intE 56 := El.typed_of (z := .int .i64 0) (bytes := 8) Tryd.underlying56 (by kernel_rfl) rfl (by decide)
section
variable {F G : Nat → Prop} {w W : World} {v : Value}
theorem ints_vals : ∀ {xs : List Int} {F : Nat → Prop} {vals : List Value}, intE.ownIn F w vals xs → vals = xs.map (Value.int .i64)
  | [], _, vals, h => h
  | x :: r, F, vals, ⟨F1, F2, _, _, _, h4, h5⟩ => by
    have h1 : vals.take 1 = [.int .i64 x] := h4
    have h2 : vals.drop 1 = r.map (Value.int .i64) := ints_vals h5
    rw [List.map_cons, ← List.take_append_drop 1 vals, h1, h2]; rfl
/-- A row of numbers of one's own: the block that holds it. -/
theorem ints_block {xs : List Int} (h : intE.Own F w v xs) (h0 : 0 < xs.length) : ∃ g cap cur, v = .slice (some ⟨g, 0, none⟩) xs.length cap ∧ F g ∧ w.heap[g]? = some (.cells cur 3 (0, 0)) ∧ xs.length ≤ cap ∧ xs.length ≤ cur.size ∧ Sort.Holds (Value.int .i64) w g 0 xs.toArray := by
  obtain ⟨vals, ⟨hl, hrow⟩, hF, hin⟩ := h
  rcases hrow with ⟨_, hz⟩ | ⟨g, cap, cur, rfl, _, hg, hc1, hc2, hsz, htk⟩
  · omega
  have hv := ints_vals hin
  rw [hv] at htk
  have hg' : w.heap[g]? = some (.cells cur 3 (0, 0)) := hg
  have e : intE.n = 1 := rfl
  rw [e, Nat.mul_one] at htk hsz
  refine ⟨g, cap, cur, rfl, hF g rfl, hg', hc1, by omega, holds_of_blockI hg' ?_⟩
  exact htk
/-- Numbers that are read. -/
theorem ints_rd {b o c : Nat} {xs : List Int} (hc : xs.length ≤ c) (h : ∀ (i : Nat) x, xs[i]? = some x → w.cell? ⟨b, o + i, none⟩ = some (.int .i64 x)) : intE.Rd (fun _ => True) w (.slice (some ⟨b, o, none⟩) xs.length c) xs :=
  ⟨some ⟨b, o, none⟩, c, rfl, hc, fun _ => ⟨b, o, rfl, trivial, fun i x hx => ⟨[.int .i64 x], rfl, fun j u hu => by
    rcases j with _ | j
    · cases hu
      have e : o + i * intE.n + 0 = o + i := by show o + i * 1 + 0 = o + i; omega
      rw [e]; exact h i x hx
    · cases hu⟩⟩⟩
theorem El.Rd.num {ao : Option Addr} {n c k : Nat} {xs : List Int} (h : intE.Rd F w (.slice ao n c) xs) (hk : k < n) : ∃ b o x, ao = some ⟨b, o, none⟩ ∧ F b ∧ xs[k]? = some x ∧ w.cell? ⟨b, o + k, none⟩ = some (.int .i64 x) := by
  obtain ⟨b, o, x, vs, e, hb, hx, hr, h6⟩ := h.at_ hk
  have hr : vs = [.int .i64 x] := hr
  subst hr
  have := h6 0 _ rfl
  have e2 : o + k * intE.n + 0 = o + k := by show o + k * 1 + 0 = o + k; omega
  rw [e2] at this
  exact ⟨b, o, x, e, hb, hx, this⟩
end
theorem int_row_one {base h : Nat} {r : Int} {W : World} {G : Nat → Prop} (hg : W.heap[h]? = some (.cells #[.int .i64 r] 3 (0, 0))) (hb : base ≤ h) : intE.Row base G W (.slice (some ⟨h, 0, none⟩) 1 1) [r] := by
  refine ⟨[.int .i64 r], ⟨rfl, .inr ⟨h, 1, _, rfl, hb, hg, Nat.le_refl _, by unfold maxLen; omega, rfl, rfl⟩⟩, rfl, fun i x hx => ?_⟩
  rcases i with _ | i
  · cases hx; rfl
  · cases hx
theorem row_shape {base : Nat} {W : World} {G : Nat → Prop} {v : Value} {xs : List Int} (h : intE.Row base G W v xs) : (v = .slice none 0 0 ∧ xs = []) ∨ ∃ g c, v = .slice (some ⟨g, 0, none⟩) xs.length c ∧ xs.length ≤ c := by
  obtain ⟨vals, ⟨hl, hrow⟩, _⟩ := h
  rcases hrow with ⟨h1, h2⟩ | ⟨g, cap, cur, h1, _, _, h2, _⟩
  · exact .inl ⟨h1, List.eq_nil_of_length_eq_zero h2⟩
  · exact .inr ⟨g, cap, h1, h2⟩
/-- A part of numbers. -/
theorem ints_from (a : Option Addr) (n c k : Nat) (hk : k ≤ n) (hc : n ≤ c) (ha : a = none → n = 0 ∧ c = 0) (hs : ∀ x, a = some x → x.spot = none) : ∃ a', (∀ W, (Instr.sliceAt 56 (.slice a n c) (some (.int .i64 (k : Int))) none none).run Tryd.prog W = .ok (.slice a' (n - k) (c - k)) W) ∧
    ∀ (F : Nat → Prop) (W : World) (xs : List Int), intE.Rd F W (.slice a n c) xs → intE.Rd F W (.slice a' (n - k) (c - k)) (xs.drop k) := by
  cases a with
  | none =>
    obtain ⟨rfl, rfl⟩ := ha rfl
    obtain rfl : k = 0 := by omega
    exact ⟨none, fun W => by go_simp, fun F W xs h => h⟩
  | some x =>
    obtain ⟨b, o, sp⟩ := x
    have := hs _ rfl
    simp only at this
    subst this
    by_cases h : c = k
    · subst h
      obtain rfl : n = c := by omega
      exact ⟨some ⟨b, o, none⟩, fun W => by go_simp, fun F W xs hr => by
        have hl := hr.len
        rw [List.drop_of_length_le (by omega), Nat.sub_self]
        exact El.Rd.empty _ _ _ _⟩
    · exact ⟨some ⟨b, o + k, none⟩, fun W => by go_simp, fun F W xs hr => by
        have hl := hr.len
        have := hr.drop k (by omega) (c - k) (by omega)
        have e : k * intE.n = k := Nat.mul_one k
        rwa [e] at this⟩
theorem ints_to (a : Option Addr) (n c k : Nat) (hk : k ≤ n) (hc : n ≤ c) (ha : a = none → n = 0 ∧ c = 0) (hs : ∀ x, a = some x → x.spot = none) : (∀ W, (Instr.sliceAt 56 (.slice a n c) none (some (.int .i64 (k : Int))) none).run Tryd.prog W = .ok (.slice a k c) W) ∧
    ∀ (F : Nat → Prop) (W : World) (xs : List Int), intE.Rd F W (.slice a n c) xs → intE.Rd F W (.slice a k c) (xs.take k) := by
  cases a with
  | none =>
    obtain ⟨rfl, rfl⟩ := ha rfl
    obtain rfl : k = 0 := by omega
    exact ⟨fun W => by go_simp, fun F W xs h => by
      have hl := h.len
      rw [List.take_zero]
      exact El.Rd.empty _ _ _ _⟩
  | some x =>
    obtain ⟨b, o, sp⟩ := x
    have := hs _ rfl
    simp only at this
    subst this
    have hck : ¬ c < k := by omega
    exact ⟨fun W => by go_simp, fun F W xs hr => by
      have hl := hr.len
      exact hr.take k (by omega) c (by omega)⟩
theorem exec_from' {P : Program} {ρ : Operand → Value} {o : Oper} {t : TypeId} {x lo : Operand} {a b v : Value} {W W' : World} (ho : o.op = .slice t x (some lo) none none) (hx : ρ x = a) (hlo : ρ lo = b)
    (h : (Instr.sliceAt t a (some b) none none).run P W = .ok v W') : (execOp ρ o).run P W = .ok (.value v) W' := by
  unfold execOp
  rw [ho]
  simp only [hx, hlo, Option.map_some, Option.map_none, Sem.run_bind, h, Result.andThen_ok]
  rfl
theorem exec_to {P : Program} {ρ : Operand → Value} {o : Oper} {t : TypeId} {x hi : Operand} {a b v : Value} {W W' : World} (ho : o.op = .slice t x none (some hi) none) (hx : ρ x = a) (hhi : ρ hi = b)
    (h : (Instr.sliceAt t a none (some b) none).run P W = .ok v W') : (execOp ρ o).run P W = .ok (.value v) W' := by
  unfold execOp
  rw [ho]
  simp only [hx, hhi, Option.map_some, Option.map_none, Sem.run_bind, h, Result.andThen_ok]
  rfl
theorem sees_sorted {w W : World} {g q : Nat} {os : Array Obj} {d : Array Int} (h : Sees w W) (hg : w.heap.size ≤ g) : Sees w (Sort.grow (Sort.putRow (Value.int .i64) (Sort.ahead W q) g 0 d) os) := by
  have k := grownBy_sortedI (w := W) (g := g) (n := q) (os := os) d
  exact ((Keeps.of_sees (F := fun _ => False) h).trans' (⟨k.os, k.tape, k.output, k.size, fun b hb hne => k.block b hb (fun e => hne (by simpa using e.symm))⟩ : Keeps (fun b => some g = some b) _ _) (fun b hb e => by cases e; omega)).sees_end (fun _ _ h => h)

set_option maxHeartbeats 2000000 in
theorem rows45_any (F : Nat → Prop) (v : Value) (ps : List Pt) (w : World) (ha : ptEl.Rd F w v ps) (hn : ps.length ≤ 1000000) :
    Calls Tryd.prog 21 #[v] w fun e w' => ∃ v' ys, e = .returned v' ∧ intE.Rd (fun _ => True) w' v' ys ∧ Asc ys ∧ (∀ x, x ∈ ys ↔ x ∈ ps.map (·.row)) ∧ ys.length ≤ 1000000 ∧ Sees w w' := by
  have hw := Sees.refl w
  obtain ⟨ao, ca, rfl, hvx⟩ := ha.slice'
  clear hvx
  have Ha := Lib.hid ha
  obtain ⟨n, hna⟩ : ∃ n, n = ps.length := ⟨_, rfl⟩
  rw [← hna] at hn Ha
  rw [← hna]
  have Hna := Lib.hid hna
  clear hna ha
  go_enter Tryd.func21, Tryd.ntmps21
  go_wp2
  go_loopw [3, 8] (fun v i W => ∃ k : Nat, k ≤ n ∧ i = .int .i64 k ∧ intE.Own (fun b => w.heap.size ≤ b) W v ((ps.take k).map (·.row)) ∧ Sees w W) (fun _ i _ => n - (intOf i).toNat)
  case atStart => exact ⟨0, by omega, rfl, El.Own.nil _ _, hw⟩
  case round =>
    obtain ⟨k, hk, rfl, ho, hS⟩ := hrel
    obtain ⟨a3, c3, hv3, hvx⟩ := ho.slice
    clear hvx
    subst hv3
    have Ho := Lib.hid ho
    have HS := Lib.hid hS
    clear ho hS
    by_cases hlt : k < n
    · obtain ⟨b1, o1, p, a1, m1, hao, hu1, hp, hu2, ⟨x0, x1, x2, x4⟩, x3⟩ := (Ha.out.sees HS.out).patch hlt
      clear hu1 hu2 x3
      subst hao
      have Hp := Lib.hid hp
      clear hp
      generalize hn2 : p.cells.length = n2 at *
      clear hn2
      generalize hM : ((ps.take k).map (·.row)).length = M at *
      have HM : Hid (((ps.take k).map (·.row)).length = M) := Lib.hid hM
      have HMb : Hid (M ≤ 1000000) := by unfold Hid; rw [← hM, List.length_map, List.length_take]; omega
      clear hM
      have Ho6 := Lib.hid (Ho.out.cut.sees (((Sees.refl wr).alloc (.cells #[.int .i64 p.row, .int .i64 p.col, .slice a1 n2 m1, .bool p.soft] 37)).alloc (.cells #[.int .i64 p.row] 3)))
      have HS6 := Lib.hid ((HS.out.alloc (.cells #[.int .i64 p.row, .int .i64 p.col, .slice a1 n2 m1, .bool p.soft] 37)).alloc (.cells #[.int .i64 p.row] 3))
      have Hz0 := Lib.hid HS.out.size
      have hr6 := heap_alloc_new (wr.alloc (.cells #[.int .i64 p.row, .int .i64 p.col, .slice a1 n2 m1, .bool p.soft] 37)) (.cells #[.int .i64 p.row] 3)
      rw [show (wr.alloc (.cells #[.int .i64 p.row, .int .i64 p.col, .slice a1 n2 m1, .bool p.soft] 37)).heap.size = wr.heap.size + 1 by simp] at hr6
      have Hr6 := Lib.hid hr6
      clear hr6
      have HcF : Hid (∀ b, (w.heap.size ≤ b ∧ b < wr.heap.size) → b < ((wr.alloc (.cells #[.int .i64 p.row, .int .i64 p.col, .slice a1 n2 m1, .bool p.soft] 37)).alloc (.cells #[.int .i64 p.row] 3)).heap.size) := fun b hb => by simp; omega
      have HcL : Hid (((ps.take k).map (·.row)).length + [p.row].length ≤ 100000000) := by unfold Hid; rw [HM.out, List.length_cons, List.length_nil]; have := HMb.out; omega
      go_wp2_with (at_builtin; refine El.wpList_append_own (v := .slice a3 M c3) typedInt rfl (.tmp 12) (.tmp 15) rfl (by go_simp) Ho6.out ⟨wr.heap.size + 1, 0, none⟩ 1 1 (by go_simp) [.int .i64 p.row] [p.row] (fun _ => False) (El.ownIn_one (E := intE) rfl) rfl (fun j u hu => El.row_cells Hr6.out j u hu) HcF.out (fun b h => h.elim) HcL.out ?_; intro v7 w7 ho7 hk7)
      have HS7 : Sees w w7 := El.keep_new HS6.out hk7 (fun g' hg' => (Ho6.out.base hg').1.1)
      refine ⟨⟨k + 1, by omega, by go_num, ?_, HS7⟩, by simp [intOf] <;> omega⟩
      rw [List.take_add_one, Hp.out, List.map_append]
      exact ho7.mono (fun b _ h => by
        rcases h with h | h | h
        · exact h.1
        · exact h.elim
        · have := Hz0.out; simp at h; omega)
    · obtain rfl : k = n := by omega
      have HO : Hid (intE.Own (fun b => w.heap.size ≤ b) wr (.slice a3 k c3) (ps.map (·.row))) := by
        have := Ho.out
        rw [List.take_of_length_le (by rw [← Hna.out]; exact Nat.le_refl _)] at this
        rwa [List.length_map, ← Hna.out] at this
      rw [show ((ps.take k).map (·.row)).length = k by rw [List.length_map, List.length_take, ← Hna.out, Nat.min_self]]
      clear Ho
      rcases Nat.eq_zero_or_pos k with h0 | h0
      · have HP0 : Hid (ps.map (·.row) = []) := by
          have : ps = [] := List.eq_nil_of_length_eq_zero (by rw [← Hna.out]; exact h0)
          unfold Hid; rw [this]; rfl
        obtain rfl : k = 0 := h0
        go_wp2_with fail
        refine (Any.slices_Sort_int_none Tryd.lays189 a3 c3 wr).mono ?_
        rintro e w1 ⟨rfl, rfl⟩
        go_wp2_with fail
        refine (Any.slices_Compact_int_empty Tryd.laysNm220 a3 c3 w1).mono ?_
        rintro e w2 ⟨rfl, rfl⟩
        go_wp2
        go_ret
        exact ⟨_, [], rfl, El.Rd.empty _ _ _ _, List.Pairwise.nil, by rw [HP0.out]; simp, by simp, HS.out⟩
      · obtain ⟨zs, hzs⟩ : ∃ zs, zs = ps.map (·.row) := ⟨_, rfl⟩
        rw [← hzs] at HO
        have HZM := Lib.hid hzs
        have hlen : zs.length = k := by rw [hzs, List.length_map, ← Hna.out]
        obtain ⟨g, cap, cur, hv, hFg, hg, hc1, hc2, hH⟩ := ints_block HO.out (by omega)
        rw [hlen] at hv hc1 hc2
        cases hv
        obtain ⟨ss, hss⟩ : ∃ ss, ss = zs.mergeSort (fun x y => decide (x ≤ y)) := ⟨_, rfl⟩
        have hsl : ss.length = k := by rw [hss, List.length_mergeSort, hlen]
        have hgl := (Array.getElem?_eq_some_iff.1 hg).1
        have K1 := Any.slices_Sort_int Tryd.lays189 g 0 c3 zs wr hH hgl (by omega)
        rw [hlen, ← hss] at K1
        have K2 := fun W (hH : Sort.Holds (Value.int .i64) W g 0 ss.toArray) => Any.slices_Compact_int Tryd.laysNm220 g 0 c3 ss W hH (by omega) (by omega)
        rw [hsl] at K2
        have H1 := Lib.hid K1
        have H2 := Lib.hid K2
        have HA := Lib.hid (compact_sorted zs)
        have HSS := Lib.hid hss
        have Hsl := Lib.hid hsl
        have Hg := Lib.hid hg
        have HFg := Lib.hid hFg
        have Hc := Lib.hid (And.intro hc1 hc2)
        have Hzs := Lib.hid hlen
        clear K1 K2 hss hsl hg hFg hc1 hc2 hlen hH hzs
        go_wp2_with fail
        refine H1.out.mono ?_
        rintro e w1 ⟨rfl, q1, os1, hw1⟩
        have hb1 : w1.heap[g]? = some (.cells (Sort.putCells (Value.int .i64) 0 ss.toArray cur) 3 (0, 0)) := by rw [hw1]; exact heap_sortedI _ Hg.out
        have hh1 : Sort.Holds (Value.int .i64) w1 g 0 ss.toArray := holds_of_blockI hb1 (take_putCellsI cur ss (by rw [Hsl.out]; exact Hc.out.2))
        have HS1 := Lib.hid (show Sees w w1 by rw [hw1]; exact sees_sorted HS.out HFg.out)
        have Hb1 := Lib.hid hb1
        have Hh1 := Lib.hid hh1
        clear hw1 hb1 hh1
        go_wp2_with fail
        refine (H2.out _ Hh1.out).mono ?_
        rintro e w2 ⟨rfl, q2, hw2⟩
        have hcl : (Lib.compact ss).length ≤ k := by
          rw [← Hsl.out]
          unfold Lib.compact Lib.compactUpTo
          rw [List.length_map]
          exact Nat.le_trans (List.length_filter_le _ _) (by simp)
        have hb2 : w2.heap[g]? = some (.cells (Sort.putCells (Value.int .i64) 0 (Lib.compact ss ++ List.replicate (k - (Lib.compact ss).length) 0).toArray (Sort.putCells (Value.int .i64) 0 ss.toArray cur)) 3 (0, 0)) := by
          rw [hw2, ← Sort.grow_empty (Sort.putRow _ _ _ _ _)]; exact heap_sortedI _ Hb1.out
        have hs2 : Sees w w2 := by rw [hw2, ← Sort.grow_empty (Sort.putRow _ _ _ _ _)]; exact sees_sorted HS1.out HFg.out
        have hrd : intE.Rd (fun _ => True) w2 (.slice (some ⟨g, 0, none⟩) (Lib.compact ss).length c3) (Lib.compact ss) := by
          refine ints_rd (by have := Hc.out.1; omega) (fun i x hx => ?_)
          have hil := (List.getElem?_eq_some_iff.1 hx).1
          rw [Nat.zero_add, cell_of_row _ _ _ _ _ _ hb2]
          have ht := take_putCellsI (Sort.putCells (Value.int .i64) 0 ss.toArray cur) (Lib.compact ss ++ List.replicate (k - (Lib.compact ss).length) 0) (by rw [List.length_append, List.length_replicate]; simp [Sort.putCells]; have := Hc.out.2; omega)
          have hi2 : (List.take _ _)[i]? = _ := congrArg (fun l => l[i]?) ht
          rw [List.getElem?_take, if_pos (by rw [List.length_append]; omega), List.getElem?_map, List.getElem?_append_left hil, hx] at hi2
          simpa using hi2
        have HR := Lib.hid hrd
        have HS2 := Lib.hid hs2
        have Hcl := Lib.hid hcl
        clear hrd hs2 hb2 hw2 hcl
        go_wp2
        go_ret
        refine ⟨_, _, rfl, HR.out, ?_, ?_, by have := Hcl.out; omega, HS2.out⟩
        · rw [HSS.out]; exact HA.out.1
        · rw [HSS.out, ← HZM.out]; exact HA.out.2
end Go.Proofs.YtonlmlmjglaoiaaDoor
