/- known (41). The tables hold what the program's text lays. -/
import Derived.Test.YtooiiefipdjbjaaDoorChY
namespace Go.Proofs.YtooiiefipdjbjaaDoor
set_option linter.unusedVariables false
set_option linter.unusedSimpArgs false
open Go.RowKit Go.Shelf
attribute [local go_sem] Oper.semAt_some

theorem cell_row {W : World} {g i : Nat} {cs : Array Value} {t : TypeId} {u : Value} (hg : W.heap[g]? = some (.cells cs t (0, 0))) (hu : cs.toList[i]? = some u) : W.cell? ⟨g, i, none⟩ = some u := by
  rw [cell_of_row _ _ _ _ _ _ hg]; simpa using hu
theorem rd_block {α : Type} {E : El α} {F : Nat → Prop} {W : World} {g : Nat} {cs : Array Value} {t : TypeId} {xs : List α} (hg : W.heap[g]? = some (.cells cs t (0, 0))) (hr : E.relIn F W cs.toList xs) (hF : F g) {n : Nat} (hn : n = xs.length) : E.Rd F W (.slice (some ⟨g, 0, none⟩) n n) xs := by
  subst hn
  refine ⟨_, _, rfl, Nat.le_refl _, fun _ => ⟨g, 0, rfl, hF, fun i x hx => ⟨_, hr.2 i x hx, fun j u hu => ?_⟩⟩⟩
  rw [List.getElem?_take] at hu
  split at hu
  · rw [List.getElem?_drop] at hu
    rw [Nat.zero_add]
    exact cell_row hg hu
  · cases hu
theorem relIn_one {α : Type} {E : El α} {F : Nat → Prop} {W : World} {vs : List Value} {x : α} (h : E.rel F W vs x) : E.relIn F W vs [x] := by
  have hl := E.len h
  refine ⟨by rw [hl]; simp, fun i y hy => ?_⟩
  cases i with
  | zero =>
    cases hy
    rw [Nat.zero_mul, List.drop_zero, List.take_of_length_le (by omega)]
    exact h
  | succ i => cases hy
theorem ln_rel {F : Nat → Prop} {W : World} {v : Value} {cs : List Cell} (h : cellEl.Rd F W v cs) (b : Bool) : lnEl.rel F W [v, .bool b] ⟨cs, b⟩ := ⟨v, rfl, h⟩
theorem sn_rel (F : Nat → Prop) (W : World) (m : Sn) : snEl.rel F W [.int .i64 m.row, .int .i64 m.f, .int .i64 m.t] m := rfl
/-- What known has made. -/
structure Kn4 (w : World) (g : Nat) (W : World) : Prop where
  l : lnEl.Rd (fun b => b < W.heap.size) W (.slice (some ⟨g, 0, none⟩) 3 3) kn41
  t : Tabs W
  s : Sees w W
theorem Kn4.sees {w W W' : World} {g : Nat} (h : Kn4 w g W) (hs : Sees W W') : Kn4 w g W' := ⟨(h.l.sees hs).mono (fun b _ hb => Nat.lt_of_lt_of_le hb hs.size), h.t.sees hs, h.s.trans hs⟩
theorem Kn4.f {w W : World} {g : Nat} (h : Kn4 w g W) : ShF (fun b => b < W.heap.size) W (.slice (some ⟨g, 0, none⟩) 3 3) kn41 10 := ⟨h.l, fun _ h => h, k41_ok, by decide⟩
theorem k41_c : ∀ l ∈ kn41, l.cells.length ≤ 1000000 := rows_cells k41_ok
theorem kHas {w W : World} {g : Nat} (h : Kn4 w g W) : Calls Tryd.prog 15 #[.slice (some ⟨g, 0, none⟩) 3 3, .int .i64 10, chV 1 12 1 12 1, plV (12, 0)] W fun e w' => e = .returned (.bool true) ∧ Sees W w' := by
  have q := cHas_ok _ _ _ _ kn41 W h.t 10 h.f 1 (by decide) (by decide) 13 13 (by decide) (by decide) 12 0 (by decide) (by decide)
  rw [k41_h] at q
  exact q
set_option maxHeartbeats 2000000 in
set_option maxRecDepth 100000 in
theorem known41_any (w : World) (ht : Tabs w) : Calls Tryd.prog 10 #[] w fun e w' => e = .returned (.bool true) ∧ Sees w w' := by
  have HT := Lib.hid ht
  have KC := Lib.hid (fun k a b c d W => choice41_any k a b c d W)
  have KP := Lib.hid (fun l c W => at41_any l c W)
  clear ht
  go_enter Tryd.func10, Tryd.ntmps10
  go_upto_region 2 with fail
  refine wp_world fun W1 hW1 => ?_
  have c1 : CellAt W1 w.heap.size 0 ⟨0, 0, 0, 0, 1, 0, 0, 0, 0, 0, 0, 0, 0, 0, 0, 0⟩ := by
    have q : W1 = w.alloc (.cells (Cell.vals ⟨0, 0, 0, 0, 1, 0, 0, 0, 0, 0, 0, 0, 0, 0, 0, 0⟩).toArray 85) := hW1
    rw [q]
    exact cellAt_new _ _ _
  have s1 : Sees w W1 := by subst hW1; exact (Sees.refl w).alloc _
  have C1 := Lib.hid c1
  have S1 := Lib.hid s1
  clear hW1 c1 s1
  refine wpFrom_go (by kernel_rfl) (by kernel_rfl) (fun hB w5 hw5 => ?_)
  have S5 := Lib.hid (S1.out.trans hw5)
  have C5 := Lib.hid (C1.out.sees hw5)
  clear hw5
  have hst : segStay (Sees w5) [.so (fun v W => cellEl.Rd (fun _ => True) W v (chL ⟨#[97, 98, 32, 99, 100, 45]⟩)), .so (fun x W => ∃ v, x = .agg #[v, .bool true] ∧ cellEl.Rd (fun _ => True) W v (chL ⟨#[97, 98, 32, 99, 100, 45]⟩)), .so (fun v W => cellEl.Rd (fun _ => True) W v (chL ⟨#[101, 102, 32, 32, 103, 104]⟩)), .so (fun x W => ∃ v, x = .agg #[v, .bool false] ∧ cellEl.Rd (fun _ => True) W v (chL ⟨#[101, 102, 32, 32, 103, 104]⟩)), .is (.agg #[.int .i32 28450, .int .i32 0, .int .i32 0, .int .i32 0, .int .i64 2, .int .i64 0, .int .u8 0, .int .u8 0, .int .u8 0, .int .u8 0, .int .i64 0, .int .u8 0, .int .u8 0, .int .u8 0, .int .u8 0, .int .u8 0]), .is (.agg #[.int .i32 0, .int .i32 0, .int .i32 0, .int .i32 0, .int .i64 0, .int .i64 0, .int .u8 0, .int .u8 0, .int .u8 0, .int .u8 0, .int .i64 0, .int .u8 0, .int .u8 0, .int .u8 0, .int .u8 0, .int .u8 0]), .is (.agg #[.int .i32 32, .int .i32 0, .int .i32 0, .int .i32 0, .int .i64 1, .int .i64 0, .int .u8 0, .int .u8 0, .int .u8 0, .int .u8 0, .int .i64 0, .int .u8 0, .int .u8 0, .int .u8 0, .int .u8 0, .int .u8 0]), .is (.agg #[.int .i32 120, .int .i32 0, .int .i32 0, .int .i32 0, .int .i64 1, .int .i64 0, .int .u8 0, .int .u8 0, .int .u8 0, .int .u8 0, .int .i64 0, .int .u8 0, .int .u8 0, .int .u8 0, .int .u8 0, .int .u8 0]), .is (.agg #[.int .i32 0, .int .i32 0, .int .i32 0, .int .i32 0, .int .i64 1, .int .i64 0, .int .u8 0, .int .u8 0, .int .u8 0, .int .u8 0, .int .i64 0, .int .u8 0, .int .u8 0, .int .u8 0, .int .u8 0, .int .u8 0]), .is (.agg #[.int .i32 0, .int .i32 0, .int .i32 0, .int .i32 0, .int .i64 1, .int .i64 0, .int .u8 0, .int .u8 0, .int .u8 0, .int .u8 0, .int .i64 0, .int .u8 0, .int .u8 0, .int .u8 0, .int .u8 0, .int .u8 0]), .so (fun v W => cellEl.Rd (fun _ => True) W v knD), .so (fun x W => ∃ v, x = .agg #[v, .bool false] ∧ cellEl.Rd (fun _ => True) W v knD), .so (fun v W => ∃ b, v = .slice (some ⟨b, 0, none⟩) 3 3 ∧ lnEl.Rd (fun b => b < W.heap.size) W v kn41)] :=
    ⟨fun u W W' _ h hs => h.sees hs, fun u W W' _ ⟨v', h1, h2⟩ hs => ⟨v', h1, h2.sees hs⟩, fun u W W' _ h hs => h.sees hs, fun u W W' _ ⟨v', h1, h2⟩ hs => ⟨v', h1, h2.sees hs⟩, fun u W W' _ h hs => h.sees hs, fun u W W' _ ⟨v', h1, h2⟩ hs => ⟨v', h1, h2.sees hs⟩, fun u W W' _ ⟨b, h1, h2⟩ hs => ⟨b, h1, (h2.sees hs).mono (fun c _ hc => Nat.lt_of_lt_of_le hc hs.size)⟩, trivial⟩
  have hval : ∀ x v, (Spec.is x).val v = x := fun _ _ => rfl
  have hval2 : ∀ V v, (Spec.so V).val v = v := fun _ _ => rfl
  refine wpFrom_any 13 _ hB (by kernel_rfl) rfl hst (by simp only [List.cons_append, List.nil_append, List.drop_succ_cons, List.drop_zero, List.take_succ_cons, List.take_zero, Nat.reduceSub]; rfl) ?_
  refine ⟨fun vs W hI hV => .inl ⟨by clear hI hV hst; go_simp, .inr (.inr ⟨24, #[.string ⟨#[97, 98, 32, 99, 100, 45]⟩], by clear hI hV hst; (try simp only [Act.put, hval, hval2, List.setIfInBounds_toArray, List.set_cons_zero, List.set_cons_succ]); go_simp, ?_⟩)⟩, ?_⟩
  · refine (row41_any _ (by decide) W).mono ?_
    rintro e w' ⟨v', rfl, ho, hs⟩
    exact ⟨v', rfl, rgGood_mk hst hI (ho.rd.mono fun _ _ _ => trivial) hs⟩
  refine ⟨fun vs W hI hV => ?_, ?_⟩
  · have h2 : cellEl.Rd (fun _ => True) W (vs 0) (chL ⟨#[97, 98, 32, 99, 100, 45]⟩) := hV 0 _ (by kernel_rfl) rfl
    obtain ⟨a', c', e, _⟩ := h2.slice'
    exact .inl ⟨by clear hI hV hst h2; go_simp, .inl ⟨.agg #[.slice a' 6 c', .bool true], W, by clear hI hV hst h2; (try simp only [Act.put, hval, hval2, List.setIfInBounds_toArray, List.set_cons_zero, List.set_cons_succ]); rw [e]; go_simp; try rfl, rgGood_mk hst hI ⟨_, rfl, e ▸ h2⟩ (Sees.refl W)⟩⟩
  refine ⟨fun vs W hI hV => .inl ⟨by clear hI hV hst; go_simp, .inr (.inr ⟨24, #[.string ⟨#[101, 102, 32, 32, 103, 104]⟩], by clear hI hV hst; (try simp only [Act.put, hval, hval2, List.setIfInBounds_toArray, List.set_cons_zero, List.set_cons_succ]); go_simp, ?_⟩)⟩, ?_⟩
  · refine (row41_any _ (by decide) W).mono ?_
    rintro e w' ⟨v', rfl, ho, hs⟩
    exact ⟨v', rfl, rgGood_mk hst hI (ho.rd.mono fun _ _ _ => trivial) hs⟩
  refine ⟨fun vs W hI hV => ?_, ?_⟩
  · have h2 : cellEl.Rd (fun _ => True) W (vs 2) (chL ⟨#[101, 102, 32, 32, 103, 104]⟩) := hV 2 _ (by kernel_rfl) rfl
    obtain ⟨a', c', e, _⟩ := h2.slice'
    exact .inl ⟨by clear hI hV hst h2; go_simp, .inl ⟨.agg #[.slice a' 6 c', .bool false], W, by clear hI hV hst h2; (try simp only [Act.put, hval, hval2, List.setIfInBounds_toArray, List.set_cons_zero, List.set_cons_succ]); rw [e]; go_simp; try rfl, rgGood_mk hst hI ⟨_, rfl, e ▸ h2⟩ (Sees.refl W)⟩⟩
  refine ⟨fun vs W hI hV => .inl ⟨by clear hI hV hst; go_simp, .inl (by clear hI hV hst; (try simp only [Act.put, hval, hval2, List.setIfInBounds_toArray, List.set_cons_zero, List.set_cons_succ]); go_simp)⟩, ?_⟩
  refine ⟨fun vs W hI hV => .inl ⟨by clear hI hV hst; go_simp, .inl (by clear hI hV hst; (try simp only [Act.put, hval, hval2, List.setIfInBounds_toArray, List.set_cons_zero, List.set_cons_succ]); go_simp)⟩, ?_⟩
  refine ⟨fun vs W hI hV => .inl ⟨by clear hI hV hst; go_simp, .inl (by clear hI hV hst; (try simp only [Act.put, hval, hval2, List.setIfInBounds_toArray, List.set_cons_zero, List.set_cons_succ]); go_simp)⟩, ?_⟩
  refine ⟨fun vs W hI hV => .inl ⟨by clear hI hV hst; go_simp, .inl (by clear hI hV hst; (try simp only [Act.put, hval, hval2, List.setIfInBounds_toArray, List.set_cons_zero, List.set_cons_succ]); go_simp)⟩, ?_⟩
  refine ⟨fun vs W hI hV => .inl ⟨by clear hI hV hst; go_simp, .inl (by (try simp only [Act.put, hval, hval2, List.setIfInBounds_toArray, List.set_cons_zero, List.set_cons_succ]); exact exec_load rfl (by go_simp) (run_loadCell (C5.out.sees hI)))⟩, ?_⟩
  refine ⟨fun vs W hI hV => .inl ⟨by clear hI hV hst; go_simp, .inl (by (try simp only [Act.put, hval, hval2, List.setIfInBounds_toArray, List.set_cons_zero, List.set_cons_succ]); exact exec_load rfl (by go_simp) (run_loadCell (C5.out.sees hI)))⟩, ?_⟩
  refine ⟨fun vs W hI hV => ?_, ?_⟩
  · have hs : Sees W (W.alloc (.cells #[.int .i32 28450, .int .i32 0, .int .i32 0, .int .i32 0, .int .i64 2, .int .i64 0, .int .u8 0, .int .u8 0, .int .u8 0, .int .u8 0, .int .i64 0, .int .u8 0, .int .u8 0, .int .u8 0, .int .u8 0, .int .u8 0, .int .i32 0, .int .i32 0, .int .i32 0, .int .i32 0, .int .i64 0, .int .i64 0, .int .u8 0, .int .u8 0, .int .u8 0, .int .u8 0, .int .i64 0, .int .u8 0, .int .u8 0, .int .u8 0, .int .u8 0, .int .u8 0, .int .i32 32, .int .i32 0, .int .i32 0, .int .i32 0, .int .i64 1, .int .i64 0, .int .u8 0, .int .u8 0, .int .u8 0, .int .u8 0, .int .i64 0, .int .u8 0, .int .u8 0, .int .u8 0, .int .u8 0, .int .u8 0, .int .i32 120, .int .i32 0, .int .i32 0, .int .i32 0, .int .i64 1, .int .i64 0, .int .u8 0, .int .u8 0, .int .u8 0, .int .u8 0, .int .i64 0, .int .u8 0, .int .u8 0, .int .u8 0, .int .u8 0, .int .u8 0, .int .i32 0, .int .i32 0, .int .i32 0, .int .i32 0, .int .i64 1, .int .i64 0, .int .u8 0, .int .u8 0, .int .u8 0, .int .u8 0, .int .i64 0, .int .u8 0, .int .u8 0, .int .u8 0, .int .u8 0, .int .u8 0, .int .i32 0, .int .i32 0, .int .i32 0, .int .i32 0, .int .i64 1, .int .i64 0, .int .u8 0, .int .u8 0, .int .u8 0, .int .u8 0, .int .i64 0, .int .u8 0, .int .u8 0, .int .u8 0, .int .u8 0, .int .u8 0] 85)) := (Sees.refl W).alloc _
    exact .inl ⟨by clear hI hV hst hs; go_simp, .inl ⟨.slice (some ⟨W.heap.size, 0, none⟩) 6 6, W.alloc (.cells #[.int .i32 28450, .int .i32 0, .int .i32 0, .int .i32 0, .int .i64 2, .int .i64 0, .int .u8 0, .int .u8 0, .int .u8 0, .int .u8 0, .int .i64 0, .int .u8 0, .int .u8 0, .int .u8 0, .int .u8 0, .int .u8 0, .int .i32 0, .int .i32 0, .int .i32 0, .int .i32 0, .int .i64 0, .int .i64 0, .int .u8 0, .int .u8 0, .int .u8 0, .int .u8 0, .int .i64 0, .int .u8 0, .int .u8 0, .int .u8 0, .int .u8 0, .int .u8 0, .int .i32 32, .int .i32 0, .int .i32 0, .int .i32 0, .int .i64 1, .int .i64 0, .int .u8 0, .int .u8 0, .int .u8 0, .int .u8 0, .int .i64 0, .int .u8 0, .int .u8 0, .int .u8 0, .int .u8 0, .int .u8 0, .int .i32 120, .int .i32 0, .int .i32 0, .int .i32 0, .int .i64 1, .int .i64 0, .int .u8 0, .int .u8 0, .int .u8 0, .int .u8 0, .int .i64 0, .int .u8 0, .int .u8 0, .int .u8 0, .int .u8 0, .int .u8 0, .int .i32 0, .int .i32 0, .int .i32 0, .int .i32 0, .int .i64 1, .int .i64 0, .int .u8 0, .int .u8 0, .int .u8 0, .int .u8 0, .int .i64 0, .int .u8 0, .int .u8 0, .int .u8 0, .int .u8 0, .int .u8 0, .int .i32 0, .int .i32 0, .int .i32 0, .int .i32 0, .int .i64 1, .int .i64 0, .int .u8 0, .int .u8 0, .int .u8 0, .int .u8 0, .int .i64 0, .int .u8 0, .int .u8 0, .int .u8 0, .int .u8 0, .int .u8 0] 85), by clear hI hV hst hs; (try simp only [Act.put, hval, hval2, List.setIfInBounds_toArray, List.set_cons_zero, List.set_cons_succ]); go_simp, rgGood_mk hst hI (rd_block (E := cellEl) (heap_alloc_new W _) ((relIn_one (E := cellEl) (x := ⟨28450, 0, 0, 0, 2, 0, 0, 0, 0, 0, 0, 0, 0, 0, 0, 0⟩) rfl).append ((relIn_one (E := cellEl) (x := ⟨0, 0, 0, 0, 0, 0, 0, 0, 0, 0, 0, 0, 0, 0, 0, 0⟩) rfl).append ((relIn_one (E := cellEl) (x := ⟨32, 0, 0, 0, 1, 0, 0, 0, 0, 0, 0, 0, 0, 0, 0, 0⟩) rfl).append ((relIn_one (E := cellEl) (x := ⟨120, 0, 0, 0, 1, 0, 0, 0, 0, 0, 0, 0, 0, 0, 0, 0⟩) rfl).append ((relIn_one (E := cellEl) (x := ⟨0, 0, 0, 0, 1, 0, 0, 0, 0, 0, 0, 0, 0, 0, 0, 0⟩) rfl).append (relIn_one (E := cellEl) (x := ⟨0, 0, 0, 0, 1, 0, 0, 0, 0, 0, 0, 0, 0, 0, 0, 0⟩) rfl)))))) trivial rfl) hs⟩⟩
  refine ⟨fun vs W hI hV => ?_, ?_⟩
  · have h2 : cellEl.Rd (fun _ => True) W (vs 10) knD := hV 10 _ (by kernel_rfl) rfl
    obtain ⟨a', c', e, _⟩ := h2.slice'
    exact .inl ⟨by clear hI hV hst h2; go_simp, .inl ⟨.agg #[.slice a' 6 c', .bool false], W, by clear hI hV hst h2; (try simp only [Act.put, hval, hval2, List.setIfInBounds_toArray, List.set_cons_zero, List.set_cons_succ]); rw [e]; go_simp; try rfl, rgGood_mk hst hI ⟨_, rfl, e ▸ h2⟩ (Sees.refl W)⟩⟩
  refine ⟨fun vs W hI hV => ?_, ?_⟩
  · obtain ⟨v1, e1, h1⟩ : ∃ v, vs 1 = .agg #[v, .bool true] ∧ cellEl.Rd (fun _ => True) W v (chL ⟨#[97, 98, 32, 99, 100, 45]⟩) := hV 1 _ (by kernel_rfl) rfl
    obtain ⟨v3, e3, h3⟩ : ∃ v, vs 3 = .agg #[v, .bool false] ∧ cellEl.Rd (fun _ => True) W v (chL ⟨#[101, 102, 32, 32, 103, 104]⟩) := hV 3 _ (by kernel_rfl) rfl
    obtain ⟨v5, e5, h5⟩ : ∃ v, vs 11 = .agg #[v, .bool false] ∧ cellEl.Rd (fun _ => True) W v knD := hV 11 _ (by kernel_rfl) rfl
    obtain ⟨a1, c1, f1, _⟩ := h1.slice'
    obtain ⟨a3, c3, f3, _⟩ := h3.slice'
    obtain ⟨a5, c5, f5, _⟩ := h5.slice'
    have f1' : v1 = .slice a1 6 c1 := f1
    have f3' : v3 = .slice a3 6 c3 := f3
    have f5' : v5 = .slice a5 6 c5 := f5
    subst f1' f3' f5'
    have hs : Sees W (W.alloc (.cells #[.slice a1 6 c1, .bool true, .slice a3 6 c3, .bool false, .slice a5 6 c5, .bool false] 40)) := (Sees.refl W).alloc _
    have r1 : cellEl.Rd (fun b => b < (W.alloc (.cells #[.slice a1 6 c1, .bool true, .slice a3 6 c3, .bool false, .slice a5 6 c5, .bool false] 40)).heap.size) (W.alloc (.cells #[.slice a1 6 c1, .bool true, .slice a3 6 c3, .bool false, .slice a5 6 c5, .bool false] 40)) (.slice a1 6 c1) (chL ⟨#[97, 98, 32, 99, 100, 45]⟩) := (h1.sees hs).mono (fun b hb _ => hb)
    have r3 : cellEl.Rd (fun b => b < (W.alloc (.cells #[.slice a1 6 c1, .bool true, .slice a3 6 c3, .bool false, .slice a5 6 c5, .bool false] 40)).heap.size) (W.alloc (.cells #[.slice a1 6 c1, .bool true, .slice a3 6 c3, .bool false, .slice a5 6 c5, .bool false] 40)) (.slice a3 6 c3) (chL ⟨#[101, 102, 32, 32, 103, 104]⟩) := (h3.sees hs).mono (fun b hb _ => hb)
    have r5 : cellEl.Rd (fun b => b < (W.alloc (.cells #[.slice a1 6 c1, .bool true, .slice a3 6 c3, .bool false, .slice a5 6 c5, .bool false] 40)).heap.size) (W.alloc (.cells #[.slice a1 6 c1, .bool true, .slice a3 6 c3, .bool false, .slice a5 6 c5, .bool false] 40)) (.slice a5 6 c5) knD := (h5.sees hs).mono (fun b hb _ => hb)
    have hres : ∃ b, (Value.slice (some ⟨W.heap.size, 0, none⟩) 3 3) = .slice (some ⟨b, 0, none⟩) 3 3 ∧ lnEl.Rd (fun b => b < (W.alloc (.cells #[.slice a1 6 c1, .bool true, .slice a3 6 c3, .bool false, .slice a5 6 c5, .bool false] 40)).heap.size) (W.alloc (.cells #[.slice a1 6 c1, .bool true, .slice a3 6 c3, .bool false, .slice a5 6 c5, .bool false] 40)) (.slice (some ⟨W.heap.size, 0, none⟩) 3 3) kn41 :=
      ⟨_, rfl, rd_block (E := lnEl) (heap_alloc_new W _) ((relIn_one (E := lnEl) (ln_rel r1 true)).append ((relIn_one (E := lnEl) (ln_rel r3 false)).append (relIn_one (E := lnEl) (ln_rel r5 false)))) (by simp) rfl⟩
    clear r1 r3 r5 f1 f3 f5 h1 h3 h5
    exact .inl ⟨by clear hI hV hst hs hres; go_simp, .inl ⟨.slice (some ⟨W.heap.size, 0, none⟩) 3 3, (W.alloc (.cells #[.slice a1 6 c1, .bool true, .slice a3 6 c3, .bool false, .slice a5 6 c5, .bool false] 40)), by clear hI hV hst hs hres; (try simp only [Act.put, hval, hval2, List.setIfInBounds_toArray, List.set_cons_zero, List.set_cons_succ]); rw [e1, e3, e5]; go_simp, rgGood_mk hst hI hres hs⟩⟩
  intro vs w6 hI hV
  obtain ⟨g, hv6, hr6⟩ : ∃ b, vs 12 = .slice (some ⟨b, 0, none⟩) 3 3 ∧ lnEl.Rd (fun b => b < w6.heap.size) w6 (vs 12) kn41 := hV 12 _ rfl
  rw [hv6] at hr6
  have H6 : Hid (Kn4 w g w6) := ⟨hr6, HT.out.sees (S5.out.trans hI), S5.out.trans hI⟩
  clear hI hV hst hr6
  (try simp only [Act.put, hval, hval2, List.setIfInBounds_toArray, List.set_cons_zero, List.set_cons_succ])
  go_simp
  clear hv6
  refine wpFrom_to 14 hB (fun _ _ _ _ _ h => h) (by kernel_rfl) (by simp only [List.cons_append, List.nil_append, List.drop_succ_cons, List.drop_zero, List.take_succ_cons, List.take_zero, Nat.reduceSub]; rfl) ?_
  go_wp2_with fail
  refine wpFrom_end rfl ?_
  go_wp2_with fail
  refine (KC.out 1 10 3 11 1 _).mono ?_
  rintro e w7 ⟨rfl, hs⟩
  have H7 := Lib.hid (H6.out.sees hs)
  clear hs H6
  have hs : Sees w7 (w7.alloc (.cells #[.int .i64 10, .int .i64 3, .int .i64 6, .int .i64 11, .int .i64 0, .int .i64 2] 42)) := (Sees.refl _).alloc _
  have hr : snEl.Rd (fun _ => True) (w7.alloc (.cells #[.int .i64 10, .int .i64 3, .int .i64 6, .int .i64 11, .int .i64 0, .int .i64 2] 42)) (.slice (some ⟨w7.heap.size, 0, none⟩) 2 2) [⟨10, 3, 6⟩, ⟨11, 0, 2⟩] := rd_block (E := snEl) (heap_alloc_new w7 _) ((relIn_one (E := snEl) (sn_rel _ _ ⟨10, 3, 6⟩)).append (relIn_one (E := snEl) (sn_rel _ _ ⟨11, 0, 2⟩))) trivial rfl
  have HX := Lib.hid (H7.out.sees hs)
  rw [← k41_s1] at hr
  have HR := Lib.hid hr
  clear hs hr
  go_wp2_with fail
  refine (tSpans HX.out.t HX.out.f (kd := 1) (by decide) (by decide) (x := 3) (y := 7) (by decide) (by decide) rfl rfl HR.out).mono ?_
  rintro e w8 ⟨rfl, hs⟩
  have H8 := Lib.hid (HX.out.sees hs)
  clear hs HX HR H7
  go_wp2_with fail
  refine (KC.out 1 10 3 11 1 _).mono ?_
  rintro e w9 ⟨rfl, hs⟩
  have H9 := Lib.hid (H8.out.sees hs)
  clear hs H8
  go_wp2_with fail
  refine (tTexts H9.out.t H9.out.f (kd := 1) (by decide) (by decide) (x := 3) (y := 7) (by decide) (by decide) rfl rfl k41_t1).mono ?_
  rintro e w10 ⟨rfl, hs⟩
  have H10 := Lib.hid (H9.out.sees hs)
  clear hs H9
  go_wp2_with fail
  refine (KP.out 10 4 _).mono ?_
  rintro e w11 ⟨rfl, hs⟩
  have H11 := Lib.hid (H10.out.sees hs)
  clear hs H10
  go_wp2_with fail
  refine (KP.out 10 3 _).mono ?_
  rintro e w12 ⟨rfl, hs⟩
  have H12 := Lib.hid (H11.out.sees hs)
  clear hs H11
  go_wp2_with fail
  refine (KP.out 10 4 _).mono ?_
  rintro e w13 ⟨rfl, hs⟩
  have H13 := Lib.hid (H12.out.sees hs)
  clear hs H12
  go_wp2_with fail
  refine (tWords H13.out.t H13.out.f (i := 4) (by decide) rfl (by rw [k41_w1.1]; rfl) (by rw [k41_w1.2.1]; rfl)).mono ?_
  rintro e w14 ⟨rfl, hs⟩
  have H14 := Lib.hid (H13.out.sees hs)
  clear hs H13
  go_wp2_with fail
  refine (KP.out 10 5 _).mono ?_
  rintro e w15 ⟨rfl, hs⟩
  have H15 := Lib.hid (H14.out.sees hs)
  clear hs H14
  go_wp2_with fail
  refine (KP.out 10 5 _).mono ?_
  rintro e w16 ⟨rfl, hs⟩
  have H16 := Lib.hid (H15.out.sees hs)
  clear hs H15
  go_wp2_with fail
  refine (KP.out 10 5 _).mono ?_
  rintro e w17 ⟨rfl, hs⟩
  have H17 := Lib.hid (H16.out.sees hs)
  clear hs H16
  go_wp2_with fail
  refine (tWords H17.out.t H17.out.f (i := 5) (by decide) rfl (by rw [k41_w1.2.2.1]; rfl) (by rw [k41_w1.2.2.2.1]; rfl)).mono ?_
  rintro e w18 ⟨rfl, hs⟩
  have H18 := Lib.hid (H17.out.sees hs)
  clear hs H17
  go_wp2_with fail
  refine (KP.out 11 0 _).mono ?_
  rintro e w19 ⟨rfl, hs⟩
  have H19 := Lib.hid (H18.out.sees hs)
  clear hs H18
  go_wp2_with fail
  refine (KP.out 11 0 _).mono ?_
  rintro e w20 ⟨rfl, hs⟩
  have H20 := Lib.hid (H19.out.sees hs)
  clear hs H19
  go_wp2_with fail
  refine (KP.out 11 1 _).mono ?_
  rintro e w21 ⟨rfl, hs⟩
  have H21 := Lib.hid (H20.out.sees hs)
  clear hs H20
  go_wp2_with fail
  refine (tWords H21.out.t H21.out.f (i := 6) (by decide) rfl (by rw [k41_w1.2.2.2.2.1]; rfl) (by rw [k41_w1.2.2.2.2.2]; rfl)).mono ?_
  rintro e w22 ⟨rfl, hs⟩
  have H22 := Lib.hid (H21.out.sees hs)
  clear hs H21
  go_wp2_with fail
  refine (KP.out 11 5 _).mono ?_
  rintro e w23 ⟨rfl, hs⟩
  have H23 := Lib.hid (H22.out.sees hs)
  clear hs H22
  go_wp2_with fail
  refine (tLogicals H23.out.t H23.out.f (i := 11) (by decide) rfl (by kernel_rfl) (by kernel_rfl)).mono ?_
  rintro e w24 ⟨rfl, hs⟩
  have H24 := Lib.hid (H23.out.sees hs)
  clear hs H23
  go_wp2_with fail
  refine (KC.out 2 11 4 10 0 _).mono ?_
  rintro e w25 ⟨rfl, hs⟩
  have H25 := Lib.hid (H24.out.sees hs)
  clear hs H24
  go_wp2_with fail
  refine (tTexts H25.out.t H25.out.f (kd := 2) (by decide) (by decide) (x := 10) (y := 0) (by decide) (by decide) rfl rfl k41_t2).mono ?_
  rintro e w26 ⟨rfl, hs⟩
  have H26 := Lib.hid (H25.out.sees hs)
  clear hs H25
  go_wp2_with fail
  refine (KC.out 3 11 0 12 0 _).mono ?_
  rintro e w27 ⟨rfl, hs⟩
  have H27 := Lib.hid (H26.out.sees hs)
  clear hs H26
  go_wp2_with fail
  refine (tTexts H27.out.t H27.out.f (kd := 3) (by decide) (by decide) (x := 6) (y := 12) (by decide) (by decide) rfl rfl k41_t3).mono ?_
  rintro e w28 ⟨rfl, hs⟩
  have H28 := Lib.hid (H27.out.sees hs)
  clear hs H27
  go_wp2_with fail
  refine (KC.out 4 10 1 12 4 _).mono ?_
  rintro e w29 ⟨rfl, hs⟩
  have H29 := Lib.hid (H28.out.sees hs)
  clear hs H28
  go_wp2_with fail
  refine (tTexts H29.out.t H29.out.f (kd := 4) (by decide) (by decide) (x := 1) (y := 16) (by decide) (by decide) rfl rfl k41_t4).mono ?_
  rintro e w30 ⟨rfl, hs⟩
  have H30 := Lib.hid (H29.out.sees hs)
  clear hs H29
  go_wp2_with fail
  refine (KC.out 1 12 1 12 1 _).mono ?_
  rintro e w31 ⟨rfl, hs⟩
  have H31 := Lib.hid (H30.out.sees hs)
  clear hs H30
  go_upto_region 10 with fail
  refine wp_world fun wa hwa => ?_
  have hq : ChAt wa w31.heap.size 1 12 1 12 1 := by subst hwa; exact heap_alloc_new w31 _
  have hs : Sees w31 wa := by subst hwa; exact (Sees.refl w31).alloc _
  obtain ⟨q, hqq⟩ : ∃ q, q = w31.heap.size := ⟨_, rfl⟩
  rw [← hqq] at hq ⊢
  have HA := Lib.hid (H31.out.sees hs)
  have Q := Lib.hid hq
  clear hwa hq hs hqq H31
  refine wpH_go (fun _ => False) 22 (by kernel_rfl) (by kernel_rfl) (by rfl) (fun hB v0 hs9 => ?_)
  have G0 := Lib.hid (HA.out.sees hs9)
  have Q0 := Lib.hid (Q.out.sees hs9)
  clear hs9 HA Q
  have hS0 : Keeps (fun _ => False) v0 v0 := Keeps.refl _ v0
  refine wpH_take (i := 0) (v := .slice (some ⟨g, 0, none⟩) 3 3) hB (by rfl) (by kernel_rfl) (fun _ _ _ _ _ h => h) (by rfl) hS0 (fun W hI => by clear hI; go_simp) ?_; (try simp only [Act.put, List.setIfInBounds_toArray, List.set_cons_zero, List.set_cons_succ])
  refine wpH_take (i := 1) (v := chV 1 12 1 12 1) hB (by rfl) (by kernel_rfl) (fun _ _ _ _ _ h => h) (by rfl) hS0 (fun W hI => by obtain ⟨q0, q1, q2, q3, q4⟩ := (Q0.out.keeps hI (fun h => h)).c; go_simp) ?_; (try simp only [Act.put, List.setIfInBounds_toArray, List.set_cons_zero, List.set_cons_succ])
  refine wpH_take (i := 2) (v := .agg #[.int .i64 12, .int .i64 0, .int .i64 2]) hB (by rfl) (by kernel_rfl) (fun _ _ _ _ _ h => h) (by rfl) hS0 (fun W hI => by clear hI; go_simp) ?_; (try simp only [Act.put, List.setIfInBounds_toArray, List.set_cons_zero, List.set_cons_succ])
  refine wpH_one (i := 3) (by kernel_rfl) (wpOp_val (v := .slice (some ⟨v0.heap.size, 0, none⟩) 1 1) (w' := v0.alloc (.cells #[.int .i64 12, .int .i64 0, .int .i64 2] 42)) (by rfl) (wanted_none (by rfl) _) (by go_simp) ⟨hS0.trans (Keeps.of_sees ((Sees.refl _).alloc _)), ?_⟩)
  (try simp only [Act.put, List.setIfInBounds_toArray, List.set_cons_zero, List.set_cons_succ])
  have hs : Sees v0 (v0.alloc (.cells #[.int .i64 12, .int .i64 0, .int .i64 2] 42)) := (Sees.refl _).alloc _
  have hr : snEl.Rd (fun _ => True) (v0.alloc (.cells #[.int .i64 12, .int .i64 0, .int .i64 2] 42)) (.slice (some ⟨v0.heap.size, 0, none⟩) 1 1) [⟨12, 0, 2⟩] := rd_block (E := snEl) (heap_alloc_new v0 _) (relIn_one (E := snEl) (sn_rel _ _ ⟨12, 0, 2⟩)) trivial rfl
  rw [← k41_s2] at hr
  have hS1 := hS0.trans (Keeps.of_sees hs)
  have G1 := Lib.hid (G0.out.sees hs)
  have Q1 := Lib.hid (Q0.out.sees hs)
  have HR := Lib.hid hr
  generalize v0.alloc (.cells #[.int .i64 12, .int .i64 0, .int .i64 2] 42) = v1 at *
  clear hs hr hS0
  refine wpH_one (i := 4) (by kernel_rfl) (wpOp_enter (fn := 13) (args := #[.slice (some ⟨g, 0, none⟩) 3 3, .int .i64 10, chV 1 12 1 12 1, .slice (some ⟨v0.heap.size, 0, none⟩) 1 1, .int .i64 0]) (by rfl) (by rfl) (by go_simp) ((tSpans G1.out.t G1.out.f (kd := 1) (by decide) (by decide) (x := 13) (y := 13) (by decide) (by decide) rfl rfl HR.out).mono ?_))
  rintro ee v2 ⟨rfl, hs⟩
  have hS0 := hS1.trans (Keeps.of_sees hs)
  refine ⟨_, rfl, hS0, ?_⟩
  (try simp only [Act.put, List.setIfInBounds_toArray, List.set_cons_zero, List.set_cons_succ])
  have G2 := Lib.hid (G1.out.sees hs)
  have Q2 := Lib.hid (Q1.out.sees hs)
  clear hs hS1 G1
  refine wpH_take (i := 5) (v := .bool true) hB (by rfl) (by kernel_rfl) (fun _ _ _ _ _ h => h) (by rfl) hS0 (fun W hI => by clear hI; go_simp) ?_; (try simp only [Act.put, List.setIfInBounds_toArray, List.set_cons_zero, List.set_cons_succ])
  refine wpH_takeG (i := 6) (v := .slice (some ⟨g, 0, none⟩) 3 3) hB (by rfl) (by kernel_rfl) (fun _ _ _ _ _ h => h) (by go_simp) hS0 (fun W hI => by clear hI; go_simp) ?_; (try simp only [Act.put, List.setIfInBounds_toArray, List.set_cons_zero, List.set_cons_succ])
  refine wpH_takeG (i := 7) (v := chV 1 12 1 12 1) hB (by rfl) (by kernel_rfl) (fun _ _ _ _ _ h => h) (by go_simp) hS0 (fun W hI => by obtain ⟨q0, q1, q2, q3, q4⟩ := (Q0.out.keeps hI (fun h => h)).c; go_simp) ?_; (try simp only [Act.put, List.setIfInBounds_toArray, List.set_cons_zero, List.set_cons_succ])
  refine wpH_one (i := 8) (by kernel_rfl) (wpOp_enterG (fn := 18) (args := #[.int .i64 12, .int .i64 0]) (by rfl) (by go_simp) (by go_simp) ((KP.out 12 0 v2).mono ?_))
  rintro ee v3 ⟨rfl, hs⟩
  have hS1 := hS0.trans (Keeps.of_sees hs)
  refine ⟨_, rfl, hS1, ?_⟩
  (try simp only [Act.put, List.setIfInBounds_toArray, List.set_cons_zero, List.set_cons_succ])
  have G3 := Lib.hid (G2.out.sees hs)
  have Q3 := Lib.hid (Q2.out.sees hs)
  clear hs hS0 G2
  refine wpH_one (i := 9) (by kernel_rfl) (wpOp_enterG (fn := 15) (args := #[.slice (some ⟨g, 0, none⟩) 3 3, .int .i64 10, chV 1 12 1 12 1, plV (12, 0)]) (by rfl) (by go_simp) (by go_simp) ((kHas G3.out).mono ?_))
  rintro ee v4 ⟨rfl, hs⟩
  have hS0 := hS1.trans (Keeps.of_sees hs)
  refine ⟨_, rfl, hS0, ?_⟩
  (try simp only [Act.put, List.setIfInBounds_toArray, List.set_cons_zero, List.set_cons_succ])
  have G4 := Lib.hid (G3.out.sees hs)
  have Q4 := Lib.hid (Q3.out.sees hs)
  clear hs hS1 G3
  refine wpH_take (i := 10) (v := .bool true) hB (by rfl) (by kernel_rfl) (fun _ _ _ _ _ h => h) (by rfl) hS0 (fun W hI => by clear hI; go_simp) ?_; (try simp only [Act.put, List.setIfInBounds_toArray, List.set_cons_zero, List.set_cons_succ])
  refine wpH_take (i := 11) (v := .bool true) hB (by rfl) (by kernel_rfl) (fun _ _ _ _ _ h => h) (by rfl) hS0 (fun W hI => by clear hI; go_simp) ?_; (try simp only [Act.put, List.setIfInBounds_toArray, List.set_cons_zero, List.set_cons_succ])
  refine wpH_takeG (i := 12) (v := .slice (some ⟨g, 0, none⟩) 3 3) hB (by rfl) (by kernel_rfl) (fun _ _ _ _ _ h => h) (by go_simp) hS0 (fun W hI => by clear hI; go_simp) ?_; (try simp only [Act.put, List.setIfInBounds_toArray, List.set_cons_zero, List.set_cons_succ])
  refine wpH_one (i := 13) (by kernel_rfl) (wpOp_enterG (fn := 25) (args := #[.int .i64 1, .int .i64 13, .int .i64 0, .int .i64 10, .int .i64 0]) (by rfl) (by go_simp) (by go_simp) ((KC.out 1 13 0 10 0 v4).mono ?_))
  rintro ee v5 ⟨rfl, hs⟩
  have hS1 := hS0.trans (Keeps.of_sees hs)
  refine ⟨_, rfl, hS1, ?_⟩
  (try simp only [Act.put, List.setIfInBounds_toArray, List.set_cons_zero, List.set_cons_succ])
  have G5 := Lib.hid (G4.out.sees hs)
  have Q5 := Lib.hid (Q4.out.sees hs)
  clear hs hS0 G4
  refine wpH_one (i := 14) (by kernel_rfl) (wpOp_enterG (fn := 13) (args := #[.slice (some ⟨g, 0, none⟩) 3 3, .int .i64 10, chV 1 13 0 10 0, .slice none 0 0, .int .i64 3]) (by rfl) (by go_simp) (by go_simp) ((tSpansErr G5.out.t G5.out.l (by decide) k41_c (by decide) k41_e3 (by decide)).mono ?_))
  rintro ee v6 ⟨rfl, hs⟩
  have hS0 := hS1.trans (Keeps.of_sees hs)
  refine ⟨_, rfl, hS0, ?_⟩
  (try simp only [Act.put, List.setIfInBounds_toArray, List.set_cons_zero, List.set_cons_succ])
  have G6 := Lib.hid (G5.out.sees hs)
  have Q6 := Lib.hid (Q5.out.sees hs)
  clear hs hS1 G5
  refine wpH_take (i := 15) (v := .bool true) hB (by rfl) (by kernel_rfl) (fun _ _ _ _ _ h => h) (by rfl) hS0 (fun W hI => by clear hI; go_simp) ?_; (try simp only [Act.put, List.setIfInBounds_toArray, List.set_cons_zero, List.set_cons_succ])
  refine wpH_take (i := 16) (v := .bool true) hB (by rfl) (by kernel_rfl) (fun _ _ _ _ _ h => h) (by rfl) hS0 (fun W hI => by clear hI; go_simp) ?_; (try simp only [Act.put, List.setIfInBounds_toArray, List.set_cons_zero, List.set_cons_succ])
  refine wpH_takeG (i := 17) (v := .slice (some ⟨g, 0, none⟩) 3 3) hB (by rfl) (by kernel_rfl) (fun _ _ _ _ _ h => h) (by go_simp) hS0 (fun W hI => by clear hI; go_simp) ?_; (try simp only [Act.put, List.setIfInBounds_toArray, List.set_cons_zero, List.set_cons_succ])
  refine wpH_one (i := 18) (by kernel_rfl) (wpOp_enterG (fn := 25) (args := #[.int .i64 5, .int .i64 10, .int .i64 0, .int .i64 10, .int .i64 0]) (by rfl) (by go_simp) (by go_simp) ((KC.out 5 10 0 10 0 v6).mono ?_))
  rintro ee v7 ⟨rfl, hs⟩
  have hS1 := hS0.trans (Keeps.of_sees hs)
  refine ⟨_, rfl, hS1, ?_⟩
  (try simp only [Act.put, List.setIfInBounds_toArray, List.set_cons_zero, List.set_cons_succ])
  have G7 := Lib.hid (G6.out.sees hs)
  have Q7 := Lib.hid (Q6.out.sees hs)
  clear hs hS0 G6
  refine wpH_one (i := 19) (by kernel_rfl) (wpOp_enterG (fn := 13) (args := #[.slice (some ⟨g, 0, none⟩) 3 3, .int .i64 10, chV 5 10 0 10 0, .slice none 0 0, .int .i64 2]) (by rfl) (by go_simp) (by go_simp) ((tSpansErr G7.out.t G7.out.l (by decide) k41_c (by decide) k41_e2 (by decide)).mono ?_))
  rintro ee v8 ⟨rfl, hs⟩
  have hS0 := hS1.trans (Keeps.of_sees hs)
  refine ⟨_, rfl, hS0, ?_⟩
  (try simp only [Act.put, List.setIfInBounds_toArray, List.set_cons_zero, List.set_cons_succ])
  have G8 := Lib.hid (G7.out.sees hs)
  have Q8 := Lib.hid (Q7.out.sees hs)
  clear hs hS1 G7
  refine wpH_take (i := 20) (v := .bool true) hB (by rfl) (by kernel_rfl) (fun _ _ _ _ _ h => h) (by rfl) hS0 (fun W hI => by clear hI; go_simp) ?_; (try simp only [Act.put, List.setIfInBounds_toArray, List.set_cons_zero, List.set_cons_succ])
  refine wpH_take (i := 21) (v := .bool true) hB (by rfl) (by kernel_rfl) (fun _ _ _ _ _ h => h) (by rfl) hS0 (fun W hI => by clear hI; go_simp) ?_; (try simp only [Act.put, List.setIfInBounds_toArray, List.set_cons_zero, List.set_cons_succ])
  refine wpH_end (by kernel_rfl) ?_
  clear hS0 hB
  go_wp2
  go_ret
  exact ⟨rfl, G8.out.s⟩
end Go.Proofs.YtooiiefipdjbjaaDoor
