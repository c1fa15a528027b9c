/- scrollbacklaw40.known (40). The tables hold what the program's text lays. -/
import Derived.Test.YtfdolhppbimbmaaDoorTtP
import Derived.Test.YtfdolhppbimbmaaDoorTtO
namespace Go.Proofs.YtfdolhppbimbmaaDoor
set_option linter.unusedVariables false
set_option linter.unusedSimpArgs false
open Go.RowKit
attribute [local go_sem] Oper.semAt_some

theorem rd_block {α : Type} {E : El α} {F : Nat → Prop} {W : World} {g : Nat} {cs : Array Value} {t : TypeId} {xs : List α} (hg : W.heap[g]? = some (.cells cs t (0, 0))) (hr : E.relIn F W cs.toList xs) (hF : F g) {n : Nat} (hn : n = xs.length) : E.Rd F W (.slice (some ⟨g, 0, none⟩) n n) xs := by
  subst hn
  refine ⟨_, _, rfl, Nat.le_refl _, fun _ => ⟨g, 0, rfl, hF, fun i x hx => ⟨_, hr.2 i x hx, fun j u hu => ?_⟩⟩⟩
  rw [List.getElem?_take] at hu
  split at hu
  · rw [List.getElem?_drop] at hu
    rw [Nat.zero_add, cell_of_row _ _ _ _ _ _ hg]
    simpa using hu
  · cases hu
theorem relIn_one {α : Type} {E : El α} {F : Nat → Prop} {W : World} {vs : List Value} {x : α} (h : E.rel F W vs x) : E.relIn F W vs [x] := by
  have hl := E.len h
  refine ⟨by rw [hl]; simp, fun i y hy => ?_⟩
  cases i with
  | zero =>
    cases hy
    rw [Nat.zero_mul, List.drop_zero, List.take_of_length_le (by omega)]
    exact h
  | succ i => cases hy
theorem ln_rel {F : Nat → Prop} {W : World} {v : Value} {cs : List Cell} (h : cellEl.Rd F W v cs) (b : Bool) : lnEl.rel F W [v, .bool b] ⟨cs, b⟩ := ⟨v, rfl, h⟩
/-- A line that was made beside its cells. -/
theorem kn_store {w2 w3 : World} {g7 g8 : Nat} {CS : Array Value} (hs : Sees w2 w3) (h7 : w3.heap[g7]? = some (.cells CS 46 (0, 0))) (h8 : w3.heap[g8]? = some (.cells #[.slice none 0 0, .bool false] 37 (0, 0))) (hg : w2.heap.size ≤ g8) :
    Sees w2 ((w3.setCell ⟨g8, 0, none⟩ (.slice (some ⟨g7, 0, none⟩) 6 6)).setCell ⟨g8, 1, none⟩ (.bool false)) ∧ LnAt ((w3.setCell ⟨g8, 0, none⟩ (.slice (some ⟨g7, 0, none⟩) 6 6)).setCell ⟨g8, 1, none⟩ (.bool false)) g8 (.slice (some ⟨g7, 0, none⟩) 6 6) false ∧
    ∀ cs : List Cell, cellEl.Rd (fun b => b = g7) w3 (.slice (some ⟨g7, 0, none⟩) 6 6) cs → cellEl.Rd (fun _ => True) ((w3.setCell ⟨g8, 0, none⟩ (.slice (some ⟨g7, 0, none⟩) 6 6)).setCell ⟨g8, 1, none⟩ (.bool false)) (.slice (some ⟨g7, 0, none⟩) 6 6) cs := by
  have hne : g7 ≠ g8 := fun e => by
    rw [e, h8] at h7
    simp at h7
  refine ⟨(hs.setCell (p := ⟨g8, 0, none⟩) hg _).setCell (p := ⟨g8, 1, none⟩) hg _, heap_setCell_same _ g8 1 _ _ (.bool false) (heap_setCell_same w3 g8 0 _ _ (.slice (some ⟨g7, 0, none⟩) 6 6) h8), fun cs h => ?_⟩
  have k : Keeps (fun y => y = g8) w3 ((w3.setCell ⟨g8, 0, none⟩ (.slice (some ⟨g7, 0, none⟩) 6 6)).setCell ⟨g8, 1, none⟩ (.bool false)) := Keeps.setCell (F := fun y => y = g8) (Keeps.setCell (F := fun y => y = g8) (Keeps.refl _ w3) (p := ⟨g8, 0, none⟩) (fun _ => rfl) _) (p := ⟨g8, 1, none⟩) (fun _ => rfl) _
  exact (h.keeps k (fun b hb e => hne (hb.symm.trans e))).mono (fun _ _ _ => trivial)
/-- What known has made. -/
structure KnB (w W : World) : Prop where
  bl : CellAt W w.heap.size 0 kb
  s : Sees w W
theorem KnB.sees {w W W' : World} (h : KnB w W) (hs : Sees W W') : KnB w W' := ⟨h.bl.sees hs, h.s.trans hs⟩
structure KnL (w : World) (g b : Nat) (cs : List Cell) (W : World) : Prop where
  l : LnAt W b (.slice (some ⟨g, 0, none⟩) 6 6) false
  r : cellEl.Rd (fun _ => True) W (.slice (some ⟨g, 0, none⟩) 6 6) cs
  bl : CellAt W w.heap.size 0 kb
  s : Sees w W
theorem KnL.sees {w W W' : World} {g b : Nat} {cs : List Cell} (h : KnL w g b cs W) (hs : Sees W W') : KnL w g b cs W' := ⟨h.l.sees hs, h.r.sees hs, h.bl.sees hs, h.s.trans hs⟩
structure KnM (w : World) (g b g2 b2 : Nat) (W : World) : Prop where
  a : KnL w g b knA.cells W
  l : LnAt W b2 (.slice (some ⟨g2, 0, none⟩) 6 6) false
  r : cellEl.Rd (fun _ => True) W (.slice (some ⟨g2, 0, none⟩) 6 6) knB.cells
theorem KnM.sees {w W W' : World} {g b g2 b2 : Nat} (h : KnM w g b g2 b2 W) (hs : Sees W W') : KnM w g b g2 b2 W' := ⟨h.a.sees hs, h.l.sees hs, h.r.sees hs⟩
structure KnZ (w : World) (g b G : Nat) (W : World) : Prop where
  all : lnEl.Rd (fun _ => True) W (.slice (some ⟨G, 0, none⟩) 2 2) [knA, knB]
  l : LnAt W b (.slice (some ⟨g, 0, none⟩) 6 6) false
  r : cellEl.Rd (fun _ => True) W (.slice (some ⟨g, 0, none⟩) 6 6) knA.cells
  s : Sees w W
theorem KnZ.sees {w W W' : World} {g b G : Nat} (h : KnZ w g b G W) (hs : Sees W W') : KnZ w g b G W' := ⟨h.all.sees hs, h.l.sees hs, h.r.sees hs, h.s.trans hs⟩
theorem kn_len : ∀ l ∈ [knA, knB], l.cells.length ≤ 1000000 := by
  intro l hl
  simp only [List.mem_cons, List.not_mem_nil, or_false] at hl
  rcases hl with rfl | rfl <;> decide
theorem kn_rowsT {w W : World} {g b G : Nat} (ht : Tabs w) (h : KnZ w g b G W) {u : Value} (hu : sEl.Rd (fun _ => True) W u [⟨#[97, 230, 188, 162, 195, 169]⟩, ⟨#[98]⟩]) :
    Calls Tryd.prog 103 #[.slice (some ⟨G, 0, none⟩) 2 2, u, .int .i64 0] W fun e w' => e = .returned (.bool true) ∧ Sees W w' := by
  refine rows_true _ u _ 0 _ W hu (by decide) ((trows_any _ _ _ W (ht.sees h.s) h.all kn_len (by decide) kn_ok).mono ?_)
  rintro e w' ⟨v', rfl, ho, hs⟩
  rw [kn_rows] at ho
  exact ⟨v', rfl, (ho.rd).mono (fun _ _ _ => trivial), hs⟩
theorem kn_blockT {w W : World} {g b G : Nat} (ht : Tabs w) (h : KnZ w g b G W) (t l bo r : Nat) (h1 : t ≤ bo) (h2 : bo < 2) (h3 : l ≤ r) (h4 : r < 1000) (S : ByteArray) (hS : strL (blkL [knA, knB] t l bo r) = S) :
    Calls Tryd.prog 69 #[.slice (some ⟨G, 0, none⟩) 2 2, .int .i64 t, .int .i64 l, .int .i64 bo, .int .i64 r, .string S, .int .i64 0] W fun e w' => e = .returned (.bool true) ∧ Sees W w' :=
  blocks_true _ _ _ _ _ S 0 W (by rw [← hS]; exact tblock_ok _ _ _ W (ht.sees h.s) h.all kn_len (by decide) t l bo r kn_ok h1 h2 h3 h4)
theorem kn_blockE {w W : World} {g b G : Nat} (ht : Tabs w) (h : KnZ w g b G W) :
    Calls Tryd.prog 69 #[.slice (some ⟨G, 0, none⟩) 2 2, .int .i64 1, .int .i64 0, .int .i64 0, .int .i64 0, .string ⟨#[]⟩, .int .i64 13] W fun e w' => e = .returned (.bool true) ∧ Sees W w' :=
  blocks_true _ _ _ _ _ _ 13 W (tblock_order _ _ _ W (ht.sees h.s) h.all kn_len (by decide) 1 0 0 0 kn_ok (by decide) (by decide) (by decide) (by decide) (.inl (by decide)))
theorem kn_offT {w W : World} {g b G : Nat} (ht : Tabs w) (h : KnZ w g b G W) (i N E : Int) (he : offP knA i = (N, E)) :
    Calls Tryd.prog 104 #[.agg #[.slice (some ⟨g, 0, none⟩) 6 6, .bool false], .int .i64 i, .int .i64 N, .int .i64 E] W fun e w' => e = .returned (.bool true) ∧ Sees W w' :=
  offsets_true _ false i N E W (fun W' hs => by
    have q := toffset_any (.slice (some ⟨g, 0, none⟩) 6 6) knA (fun _ => True) W' (ht.sees (h.s.trans hs)) (h.r.sees hs) (by decide) i
    rw [he] at q
    exact q) rfl
theorem kn_colT {w W : World} {g b G : Nat} (ht : Tabs w) (h : KnZ w g b G W) (i N E : Int) (h0 : 0 ≤ i) (h1 : i ≤ 100) (he : colP knA i = (N, E)) :
    Calls Tryd.prog 68 #[.agg #[.slice (some ⟨g, 0, none⟩) 6 6, .bool false], .int .i64 i, .int .i64 N, .int .i64 E] W fun e w' => e = .returned (.bool true) ∧ Sees W w' :=
  columns_true _ false i N E W (fun W' hs => by
    have q := tcolumn_any (.slice (some ⟨g, 0, none⟩) 6 6) knA (fun _ => True) W' (ht.sees (h.s.trans hs)) (h.r.sees hs) (by decide) i (by omega) (by omega)
    rw [he] at q
    exact q) rfl
theorem kn_wT {w W : World} (ht : Tabs w) (h : Sees w W) : Calls Tryd.prog 62 #[.string ⟨#[97, 230, 188, 162]⟩] W fun e w' => e = .returned (.int .i64 3) ∧ Sees W w' := by
  have q := twidth_any ⟨#[97, 230, 188, 162]⟩ (by decide) W (ht.sees h)
  rw [kn_w] at q
  exact q
theorem kn_fitT {w W : World} (ht : Tabs w) (h : Sees w W) (n : Int) (h0 : 0 ≤ n) (h1 : n ≤ 1000) (S : ByteArray) (hS : strL (fitS ⟨#[97, 230, 188, 162]⟩ n) = S) :
    Calls Tryd.prog 63 #[.string ⟨#[97, 230, 188, 162]⟩, .int .i64 n, .string S, .int .i64 0] W fun e w' => e = .returned (.bool true) ∧ Sees W w' :=
  fits_true _ n S 0 W (by rw [← hS]; exact fit_ok ⟨#[97, 230, 188, 162]⟩ (by decide) n W (ht.sees h) h0 h1)
theorem kn_offs : ∀ k : Nat, k < 7 → ∃ N : Int, ([.int .i64 0, .int .i64 1, .int .i64 4, .int .i64 4, .int .i64 6, .int .i64 6, .int .i64 6] : List Value)[k]? = some (.int .i64 N) ∧ offP knA k = (N, 0)
  | 0, _ => ⟨0, rfl, by kernel_rfl⟩
  | 1, _ => ⟨1, rfl, by kernel_rfl⟩
  | 2, _ => ⟨4, rfl, by kernel_rfl⟩
  | 3, _ => ⟨4, rfl, by kernel_rfl⟩
  | 4, _ => ⟨6, rfl, by kernel_rfl⟩
  | 5, _ => ⟨6, rfl, by kernel_rfl⟩
  | 6, _ => ⟨6, rfl, by kernel_rfl⟩
  | n + 7, h => by omega
set_option maxRecDepth 1000000 in
set_option maxHeartbeats 8000000 in
theorem known_any (w : World) (ht : Tabs w) : Calls Tryd.prog 60 #[] w fun e w' => e = .returned (.bool true) ∧ Sees w w' := by
  have HT := Lib.hid ht
  clear ht
  have hval : ∀ x v, (Spec.is x).val v = x := fun _ _ => rfl
  have hval2 : ∀ V v, (Spec.so V).val v = v := fun _ _ => rfl
  go_enter Tryd.func60, Tryd.ntmps60
  go_upto_region 2 with fail
  have KB0 : Hid (KnB w (w.alloc (.cells #[.int .i32 0, .int .i32 0, .int .i32 0, .int .i32 0, .int .i64 1, .int .i64 0, .int .u8 0, .int .u8 0, .int .u8 0, .int .u8 0, .int .i64 0, .int .u8 0, .int .u8 0, .int .u8 0, .int .u8 0, .int .u8 0] 46))) := ⟨cellAt_new w kb _, (Sees.refl w).alloc _⟩
  refine wpFrom_go (by kernel_rfl) (by kernel_rfl) (fun hB w2 hw2 => ?_)
  have KB1 := Lib.hid (KB0.out.sees hw2)
  have Hw2 := Lib.hid (Sees.refl w2)
  clear hw2 KB0
  have hst : segStay (Sees w2) [.is (.agg #[.int .i32 97, .int .i32 0, .int .i32 0, .int .i32 0, .int .i64 1, .int .i64 0, .int .u8 0, .int .u8 0, .int .u8 0, .int .u8 0, .int .i64 0, .int .u8 0, .int .u8 0, .int .u8 0, .int .u8 0, .int .u8 0]), .is (.agg #[.int .i32 28450, .int .i32 0, .int .i32 0, .int .i32 0, .int .i64 2, .int .i64 0, .int .u8 0, .int .u8 0, .int .u8 0, .int .u8 0, .int .i64 0, .int .u8 0, .int .u8 0, .int .u8 0, .int .u8 0, .int .u8 0]), .is (.agg #[.int .i32 0, .int .i32 0, .int .i32 0, .int .i32 0, .int .i64 0, .int .i64 0, .int .u8 0, .int .u8 0, .int .u8 0, .int .u8 0, .int .i64 0, .int .u8 0, .int .u8 0, .int .u8 0, .int .u8 0, .int .u8 0]), .is (.agg #[.int .i32 233, .int .i32 0, .int .i32 0, .int .i32 0, .int .i64 1, .int .i64 0, .int .u8 0, .int .u8 0, .int .u8 0, .int .u8 0, .int .i64 0, .int .u8 0, .int .u8 0, .int .u8 0, .int .u8 0, .int .u8 0]), .is (.agg #[.int .i32 0, .int .i32 0, .int .i32 0, .int .i32 0, .int .i64 1, .int .i64 0, .int .u8 0, .int .u8 0, .int .u8 0, .int .u8 0, .int .i64 0, .int .u8 0, .int .u8 0, .int .u8 0, .int .u8 0, .int .u8 0]), .is (.agg #[.int .i32 0, .int .i32 0, .int .i32 0, .int .i32 0, .int .i64 1, .int .i64 0, .int .u8 0, .int .u8 0, .int .u8 0, .int .u8 0, .int .i64 0, .int .u8 0, .int .u8 0, .int .u8 0, .int .u8 0, .int .u8 0]), .so (fun v W => ∃ g, v = .slice (some ⟨g, 0, none⟩) 6 6 ∧ W.heap[g]? = some (.cells #[.int .i32 97, .int .i32 0, .int .i32 0, .int .i32 0, .int .i64 1, .int .i64 0, .int .u8 0, .int .u8 0, .int .u8 0, .int .u8 0, .int .i64 0, .int .u8 0, .int .u8 0, .int .u8 0, .int .u8 0, .int .u8 0, .int .i32 28450, .int .i32 0, .int .i32 0, .int .i32 0, .int .i64 2, .int .i64 0, .int .u8 0, .int .u8 0, .int .u8 0, .int .u8 0, .int .i64 0, .int .u8 0, .int .u8 0, .int .u8 0, .int .u8 0, .int .u8 0, .int .i32 0, .int .i32 0, .int .i32 0, .int .i32 0, .int .i64 0, .int .i64 0, .int .u8 0, .int .u8 0, .int .u8 0, .int .u8 0, .int .i64 0, .int .u8 0, .int .u8 0, .int .u8 0, .int .u8 0, .int .u8 0, .int .i32 233, .int .i32 0, .int .i32 0, .int .i32 0, .int .i64 1, .int .i64 0, .int .u8 0, .int .u8 0, .int .u8 0, .int .u8 0, .int .i64 0, .int .u8 0, .int .u8 0, .int .u8 0, .int .u8 0, .int .u8 0, .int .i32 0, .int .i32 0, .int .i32 0, .int .i32 0, .int .i64 1, .int .i64 0, .int .u8 0, .int .u8 0, .int .u8 0, .int .u8 0, .int .i64 0, .int .u8 0, .int .u8 0, .int .u8 0, .int .u8 0, .int .u8 0, .int .i32 0, .int .i32 0, .int .i32 0, .int .i32 0, .int .i64 1, .int .i64 0, .int .u8 0, .int .u8 0, .int .u8 0, .int .u8 0, .int .i64 0, .int .u8 0, .int .u8 0, .int .u8 0, .int .u8 0, .int .u8 0] 46 (0, 0))), .so (fun v W => ∃ g, v = .agg #[.slice (some ⟨g, 0, none⟩) 6 6, .bool false] ∧ W.heap[g]? = some (.cells #[.int .i32 97, .int .i32 0, .int .i32 0, .int .i32 0, .int .i64 1, .int .i64 0, .int .u8 0, .int .u8 0, .int .u8 0, .int .u8 0, .int .i64 0, .int .u8 0, .int .u8 0, .int .u8 0, .int .u8 0, .int .u8 0, .int .i32 28450, .int .i32 0, .int .i32 0, .int .i32 0, .int .i64 2, .int .i64 0, .int .u8 0, .int .u8 0, .int .u8 0, .int .u8 0, .int .i64 0, .int .u8 0, .int .u8 0, .int .u8 0, .int .u8 0, .int .u8 0, .int .i32 0, .int .i32 0, .int .i32 0, .int .i32 0, .int .i64 0, .int .i64 0, .int .u8 0, .int .u8 0, .int .u8 0, .int .u8 0, .int .i64 0, .int .u8 0, .int .u8 0, .int .u8 0, .int .u8 0, .int .u8 0, .int .i32 233, .int .i32 0, .int .i32 0, .int .i32 0, .int .i64 1, .int .i64 0, .int .u8 0, .int .u8 0, .int .u8 0, .int .u8 0, .int .i64 0, .int .u8 0, .int .u8 0, .int .u8 0, .int .u8 0, .int .u8 0, .int .i32 0, .int .i32 0, .int .i32 0, .int .i32 0, .int .i64 1, .int .i64 0, .int .u8 0, .int .u8 0, .int .u8 0, .int .u8 0, .int .i64 0, .int .u8 0, .int .u8 0, .int .u8 0, .int .u8 0, .int .u8 0, .int .i32 0, .int .i32 0, .int .i32 0, .int .i32 0, .int .i64 1, .int .i64 0, .int .u8 0, .int .u8 0, .int .u8 0, .int .u8 0, .int .i64 0, .int .u8 0, .int .u8 0, .int .u8 0, .int .u8 0, .int .u8 0] 46 (0, 0))), .so (fun v W => ∃ g, v = .pointer (some ⟨g, 0, none⟩) ∧ W.heap[g]? = some (.cells #[.slice none 0 0, .bool false] 37 (0, 0)) ∧ w2.heap.size ≤ g)] := ⟨(fun u W W' _ ⟨g, h1, h2⟩ hs => ⟨g, h1, by rw [hs.block _ (Array.getElem?_eq_some_iff.1 h2).1]; exact h2⟩), (fun u W W' _ ⟨g, h1, h2⟩ hs => ⟨g, h1, by rw [hs.block _ (Array.getElem?_eq_some_iff.1 h2).1]; exact h2⟩), (fun u W W' _ ⟨g, h1, h2, h3⟩ hs => ⟨g, h1, by rw [hs.block _ (Array.getElem?_eq_some_iff.1 h2).1]; exact h2, h3⟩), trivial⟩
  refine wpFrom_any 9 _ hB (by kernel_rfl) rfl hst (by simp only [List.cons_append, List.nil_append, List.drop_succ_cons, List.drop_zero, List.take_succ_cons, List.take_zero, Nat.reduceSub]; rfl) ?_
  refine ⟨fun vs W hI hV => .inl ⟨by clear hI hV hst; (try simp only [Act.put, hval, hval2, List.setIfInBounds_toArray, List.set_cons_zero, List.set_cons_succ]); go_simp, .inr (.inr ⟨102, #[.int .i32 97], by clear hI hV hst; (try simp only [Act.put, hval, hval2, List.setIfInBounds_toArray, List.set_cons_zero, List.set_cons_succ]); go_simp, one_any 97 W⟩)⟩, ?_⟩
  refine ⟨fun vs W hI hV => .inl ⟨by clear hI hV hst; (try simp only [Act.put, hval, hval2, List.setIfInBounds_toArray, List.set_cons_zero, List.set_cons_succ]); go_simp, .inl (by clear hI hV hst; (try simp only [Act.put, hval, hval2, List.setIfInBounds_toArray, List.set_cons_zero, List.set_cons_succ]); go_simp)⟩, ?_⟩
  refine ⟨fun vs W hI hV => .inl ⟨by clear hI hV hst; (try simp only [Act.put, hval, hval2, List.setIfInBounds_toArray, List.set_cons_zero, List.set_cons_succ]); go_simp, .inl (by clear hI hV hst; (try simp only [Act.put, hval, hval2, List.setIfInBounds_toArray, List.set_cons_zero, List.set_cons_succ]); go_simp)⟩, ?_⟩
  refine ⟨fun vs W hI hV => .inl ⟨by clear hI hV hst; (try simp only [Act.put, hval, hval2, List.setIfInBounds_toArray, List.set_cons_zero, List.set_cons_succ]); go_simp, .inr (.inr ⟨102, #[.int .i32 233], by clear hI hV hst; (try simp only [Act.put, hval, hval2, List.setIfInBounds_toArray, List.set_cons_zero, List.set_cons_succ]); go_simp, one_any 233 W⟩)⟩, ?_⟩
  refine ⟨fun vs W hI hV => .inl ⟨by clear hI hV hst; (try simp only [Act.put, hval, hval2, List.setIfInBounds_toArray, List.set_cons_zero, List.set_cons_succ]); go_simp, .inl (exec_load rfl (by clear hI hV hst; (try simp only [Act.put, hval, hval2, List.setIfInBounds_toArray, List.set_cons_zero, List.set_cons_succ]); go_simp) (run_loadCell (c := kb) (KB1.out.bl.sees (Hw2.out.trans hI))))⟩, ?_⟩
  refine ⟨fun vs W hI hV => .inl ⟨by clear hI hV hst; (try simp only [Act.put, hval, hval2, List.setIfInBounds_toArray, List.set_cons_zero, List.set_cons_succ]); go_simp, .inl (exec_load rfl (by clear hI hV hst; (try simp only [Act.put, hval, hval2, List.setIfInBounds_toArray, List.set_cons_zero, List.set_cons_succ]); go_simp) (run_loadCell (c := kb) (KB1.out.bl.sees (Hw2.out.trans hI))))⟩, ?_⟩
  refine ⟨fun vs W hI hV => .inl ⟨by clear hI hV hst; (try simp only [Act.put, hval, hval2, List.setIfInBounds_toArray, List.set_cons_zero, List.set_cons_succ]); go_simp, .inl ⟨.slice (some ⟨W.heap.size, 0, none⟩) 6 6, W.alloc (.cells #[.int .i32 97, .int .i32 0, .int .i32 0, .int .i32 0, .int .i64 1, .int .i64 0, .int .u8 0, .int .u8 0, .int .u8 0, .int .u8 0, .int .i64 0, .int .u8 0, .int .u8 0, .int .u8 0, .int .u8 0, .int .u8 0, .int .i32 28450, .int .i32 0, .int .i32 0, .int .i32 0, .int .i64 2, .int .i64 0, .int .u8 0, .int .u8 0, .int .u8 0, .int .u8 0, .int .i64 0, .int .u8 0, .int .u8 0, .int .u8 0, .int .u8 0, .int .u8 0, .int .i32 0, .int .i32 0, .int .i32 0, .int .i32 0, .int .i64 0, .int .i64 0, .int .u8 0, .int .u8 0, .int .u8 0, .int .u8 0, .int .i64 0, .int .u8 0, .int .u8 0, .int .u8 0, .int .u8 0, .int .u8 0, .int .i32 233, .int .i32 0, .int .i32 0, .int .i32 0, .int .i64 1, .int .i64 0, .int .u8 0, .int .u8 0, .int .u8 0, .int .u8 0, .int .i64 0, .int .u8 0, .int .u8 0, .int .u8 0, .int .u8 0, .int .u8 0, .int .i32 0, .int .i32 0, .int .i32 0, .int .i32 0, .int .i64 1, .int .i64 0, .int .u8 0, .int .u8 0, .int .u8 0, .int .u8 0, .int .i64 0, .int .u8 0, .int .u8 0, .int .u8 0, .int .u8 0, .int .u8 0, .int .i32 0, .int .i32 0, .int .i32 0, .int .i32 0, .int .i64 1, .int .i64 0, .int .u8 0, .int .u8 0, .int .u8 0, .int .u8 0, .int .i64 0, .int .u8 0, .int .u8 0, .int .u8 0, .int .u8 0, .int .u8 0] 46), by clear hI hV hst; (try simp only [Act.put, hval, hval2, List.setIfInBounds_toArray, List.set_cons_zero, List.set_cons_succ]); go_simp, rgGood_mk hst hI ⟨_, rfl, heap_alloc_new _ _⟩ ((Sees.refl W).alloc _)⟩⟩, ?_⟩
  refine ⟨fun vs W hI hV => ?_, ?_⟩
  · obtain ⟨g, e6, h6⟩ := hV 6 _ (by kernel_rfl) rfl
    exact .inl ⟨by clear hI hV hst; (try simp only [Act.put, hval, hval2, List.setIfInBounds_toArray, List.set_cons_zero, List.set_cons_succ]); go_simp, .inl ⟨.agg #[.slice (some ⟨g, 0, none⟩) 6 6, .bool false], W, by clear hI hV hst h6; (try simp only [Act.put, hval, hval2, List.setIfInBounds_toArray, List.set_cons_zero, List.set_cons_succ]); go_simp, rgGood_mk hst hI ⟨g, rfl, h6⟩ (Sees.refl W)⟩⟩
  refine ⟨fun vs W hI hV => .inl ⟨by clear hI hV hst; (try simp only [Act.put, hval, hval2, List.setIfInBounds_toArray, List.set_cons_zero, List.set_cons_succ]); go_simp, .inl ⟨.pointer (some ⟨W.heap.size, 0, none⟩), W.alloc (.cells #[.slice none 0 0, .bool false] 37), by clear hI hV hst; (try simp only [Act.put, hval, hval2, List.setIfInBounds_toArray, List.set_cons_zero, List.set_cons_succ]); go_simp, rgGood_mk hst hI ⟨_, rfl, heap_alloc_new _ _, hI.size⟩ ((Sees.refl W).alloc _)⟩⟩, ?_⟩
  intro vs w3 hI hV
  obtain ⟨g6, e6, h6⟩ := hV 6 _ rfl
  obtain ⟨g7, e7, h7⟩ := hV 7 _ rfl
  obtain ⟨g8, e8, h8, hg8⟩ := hV 8 _ rfl
  have R7 := Lib.hid (show cellEl.Rd (fun b => b = g7) w3 (.slice (some ⟨g7, 0, none⟩) 6 6) knA.cells from rd_block (E := cellEl) (F := fun b => b = g7) (xs := knA.cells) h7 ((relIn_one (E := cellEl) (x := k1 97) rfl).append ((relIn_one (E := cellEl) (x := k2) rfl).append ((relIn_one (E := cellEl) (x := k0) rfl).append ((relIn_one (E := cellEl) (x := k1 233) rfl).append ((relIn_one (E := cellEl) (x := kb) rfl).append (relIn_one (E := cellEl) (x := kb) rfl)))))) rfl rfl)
  have ST := Lib.hid (kn_store hI h7 h8 hg8)
  have f0 : w3.frozen? ⟨g8, 0, none⟩ = false := frozen_of_row _ _ _ _ _ h8
  have f1 : w3.frozen? ⟨g8, 1, none⟩ = false := frozen_of_row _ _ _ _ _ h8
  have c0 : w3.cell? ⟨g8, 0, none⟩ = some (.slice none 0 0) := by rw [cell_of_row _ _ _ _ _ _ h8]; rfl
  have c1 : w3.cell? ⟨g8, 1, none⟩ = some (.bool false) := by rw [cell_of_row _ _ _ _ _ _ h8]; rfl
  clear hI hV hst h6 h7 h8 hg8 Hw2
  (try simp only [Act.put, hval, hval2, List.setIfInBounds_toArray, List.set_cons_zero, List.set_cons_succ])
  go_simp
  clear e6 e7 e8
  refine wpFrom_to 10 hB (fun _ _ _ _ _ h => h) (by kernel_rfl) (by simp only [List.cons_append, List.nil_append, List.drop_succ_cons, List.drop_zero, List.take_succ_cons, List.take_zero, Nat.reduceSub]; rfl) ?_
  go_wp2
  refine wpFrom_end rfl ?_
  clear hB f0 f1 c0 c1
  obtain ⟨s4, l4, k4⟩ := ST.out
  have KB2 := Lib.hid (KB1.out.sees s4)
  have KL : Hid (KnL w g7 g8 knA.cells _) := ⟨l4, k4 _ R7.out, KB2.out.bl, KB2.out.s⟩
  clear s4 l4 k4 ST R7 KB1 KB2
  generalize (w3.setCell ⟨g8, 0, none⟩ (.slice (some ⟨g7, 0, none⟩) 6 6)).setCell ⟨g8, 1, none⟩ (.bool false) = w5 at *
  obtain ⟨b, hb⟩ : ∃ b, b = g8 := ⟨_, rfl⟩
  obtain ⟨g, hg⟩ : ∃ g, g = g7 := ⟨_, rfl⟩
  rw [← hb, ← hg] at KL ⊢
  clear hb hg
  go_upto_region 3 with fail
  refine wpFrom_go (by kernel_rfl) (by kernel_rfl) (fun hB w2 hw2 => ?_)
  have KL1 := Lib.hid (KL.out.sees hw2)
  have Hw2 := Lib.hid (Sees.refl w2)
  clear hw2 KL
  have hst : segStay (Sees w2) [.is (.agg #[.int .i32 98, .int .i32 0, .int .i32 0, .int .i32 0, .int .i64 1, .int .i64 0, .int .u8 0, .int .u8 0, .int .u8 0, .int .u8 0, .int .i64 0, .int .u8 0, .int .u8 0, .int .u8 0, .int .u8 0, .int .u8 0]), .is (.agg #[.int .i32 0, .int .i32 0, .int .i32 0, .int .i32 0, .int .i64 1, .int .i64 0, .int .u8 0, .int .u8 0, .int .u8 0, .int .u8 0, .int .i64 0, .int .u8 0, .int .u8 0, .int .u8 0, .int .u8 0, .int .u8 0]), .is (.agg #[.int .i32 0, .int .i32 0, .int .i32 0, .int .i32 0, .int .i64 1, .int .i64 0, .int .u8 0, .int .u8 0, .int .u8 0, .int .u8 0, .int .i64 0, .int .u8 0, .int .u8 0, .int .u8 0, .int .u8 0, .int .u8 0]), .is (.agg #[.int .i32 0, .int .i32 0, .int .i32 0, .int .i32 0, .int .i64 1, .int .i64 0, .int .u8 0, .int .u8 0, .int .u8 0, .int .u8 0, .int .i64 0, .int .u8 0, .int .u8 0, .int .u8 0, .int .u8 0, .int .u8 0]), .is (.agg #[.int .i32 0, .int .i32 0, .int .i32 0, .int .i32 0, .int .i64 1, .int .i64 0, .int .u8 0, .int .u8 0, .int .u8 0, .int .u8 0, .int .i64 0, .int .u8 0, .int .u8 0, .int .u8 0, .int .u8 0, .int .u8 0]), .is (.agg #[.int .i32 0, .int .i32 0, .int .i32 0, .int .i32 0, .int .i64 1, .int .i64 0, .int .u8 0, .int .u8 0, .int .u8 0, .int .u8 0, .int .i64 0, .int .u8 0, .int .u8 0, .int .u8 0, .int .u8 0, .int .u8 0]), .so (fun v W => ∃ g, v = .slice (some ⟨g, 0, none⟩) 6 6 ∧ W.heap[g]? = some (.cells #[.int .i32 98, .int .i32 0, .int .i32 0, .int .i32 0, .int .i64 1, .int .i64 0, .int .u8 0, .int .u8 0, .int .u8 0, .int .u8 0, .int .i64 0, .int .u8 0, .int .u8 0, .int .u8 0, .int .u8 0, .int .u8 0, .int .i32 0, .int .i32 0, .int .i32 0, .int .i32 0, .int .i64 1, .int .i64 0, .int .u8 0, .int .u8 0, .int .u8 0, .int .u8 0, .int .i64 0, .int .u8 0, .int .u8 0, .int .u8 0, .int .u8 0, .int .u8 0, .int .i32 0, .int .i32 0, .int .i32 0, .int .i32 0, .int .i64 1, .int .i64 0, .int .u8 0, .int .u8 0, .int .u8 0, .int .u8 0, .int .i64 0, .int .u8 0, .int .u8 0, .int .u8 0, .int .u8 0, .int .u8 0, .int .i32 0, .int .i32 0, .int .i32 0, .int .i32 0, .int .i64 1, .int .i64 0, .int .u8 0, .int .u8 0, .int .u8 0, .int .u8 0, .int .i64 0, .int .u8 0, .int .u8 0, .int .u8 0, .int .u8 0, .int .u8 0, .int .i32 0, .int .i32 0, .int .i32 0, .int .i32 0, .int .i64 1, .int .i64 0, .int .u8 0, .int .u8 0, .int .u8 0, .int .u8 0, .int .i64 0, .int .u8 0, .int .u8 0, .int .u8 0, .int .u8 0, .int .u8 0, .int .i32 0, .int .i32 0, .int .i32 0, .int .i32 0, .int .i64 1, .int .i64 0, .int .u8 0, .int .u8 0, .int .u8 0, .int .u8 0, .int .i64 0, .int .u8 0, .int .u8 0, .int .u8 0, .int .u8 0, .int .u8 0] 46 (0, 0))), .so (fun v W => ∃ g, v = .agg #[.slice (some ⟨g, 0, none⟩) 6 6, .bool false] ∧ W.heap[g]? = some (.cells #[.int .i32 98, .int .i32 0, .int .i32 0, .int .i32 0, .int .i64 1, .int .i64 0, .int .u8 0, .int .u8 0, .int .u8 0, .int .u8 0, .int .i64 0, .int .u8 0, .int .u8 0, .int .u8 0, .int .u8 0, .int .u8 0, .int .i32 0, .int .i32 0, .int .i32 0, .int .i32 0, .int .i64 1, .int .i64 0, .int .u8 0, .int .u8 0, .int .u8 0, .int .u8 0, .int .i64 0, .int .u8 0, .int .u8 0, .int .u8 0, .int .u8 0, .int .u8 0, .int .i32 0, .int .i32 0, .int .i32 0, .int .i32 0, .int .i64 1, .int .i64 0, .int .u8 0, .int .u8 0, .int .u8 0, .int .u8 0, .int .i64 0, .int .u8 0, .int .u8 0, .int .u8 0, .int .u8 0, .int .u8 0, .int .i32 0, .int .i32 0, .int .i32 0, .int .i32 0, .int .i64 1, .int .i64 0, .int .u8 0, .int .u8 0, .int .u8 0, .int .u8 0, .int .i64 0, .int .u8 0, .int .u8 0, .int .u8 0, .int .u8 0, .int .u8 0, .int .i32 0, .int .i32 0, .int .i32 0, .int .i32 0, .int .i64 1, .int .i64 0, .int .u8 0, .int .u8 0, .int .u8 0, .int .u8 0, .int .i64 0, .int .u8 0, .int .u8 0, .int .u8 0, .int .u8 0, .int .u8 0, .int .i32 0, .int .i32 0, .int .i32 0, .int .i32 0, .int .i64 1, .int .i64 0, .int .u8 0, .int .u8 0, .int .u8 0, .int .u8 0, .int .i64 0, .int .u8 0, .int .u8 0, .int .u8 0, .int .u8 0, .int .u8 0] 46 (0, 0))), .so (fun v W => ∃ g, v = .pointer (some ⟨g, 0, none⟩) ∧ W.heap[g]? = some (.cells #[.slice none 0 0, .bool false] 37 (0, 0)) ∧ w2.heap.size ≤ g)] := ⟨(fun u W W' _ ⟨g, h1, h2⟩ hs => ⟨g, h1, by rw [hs.block _ (Array.getElem?_eq_some_iff.1 h2).1]; exact h2⟩), (fun u W W' _ ⟨g, h1, h2⟩ hs => ⟨g, h1, by rw [hs.block _ (Array.getElem?_eq_some_iff.1 h2).1]; exact h2⟩), (fun u W W' _ ⟨g, h1, h2, h3⟩ hs => ⟨g, h1, by rw [hs.block _ (Array.getElem?_eq_some_iff.1 h2).1]; exact h2, h3⟩), trivial⟩
  refine wpFrom_any 9 _ hB (by kernel_rfl) rfl hst (by simp only [List.cons_append, List.nil_append, List.drop_succ_cons, List.drop_zero, List.take_succ_cons, List.take_zero, Nat.reduceSub]; rfl) ?_
  refine ⟨fun vs W hI hV => .inl ⟨by clear hI hV hst; (try simp only [Act.put, hval, hval2, List.setIfInBounds_toArray, List.set_cons_zero, List.set_cons_succ]); go_simp, .inr (.inr ⟨102, #[.int .i32 98], by clear hI hV hst; (try simp only [Act.put, hval, hval2, List.setIfInBounds_toArray, List.set_cons_zero, List.set_cons_succ]); go_simp, one_any 98 W⟩)⟩, ?_⟩
  refine ⟨fun vs W hI hV => .inl ⟨by clear hI hV hst; (try simp only [Act.put, hval, hval2, List.setIfInBounds_toArray, List.set_cons_zero, List.set_cons_succ]); go_simp, .inl (exec_load rfl (by clear hI hV hst; (try simp only [Act.put, hval, hval2, List.setIfInBounds_toArray, List.set_cons_zero, List.set_cons_succ]); go_simp) (run_loadCell (c := kb) (KL1.out.bl.sees (Hw2.out.trans hI))))⟩, ?_⟩
  refine ⟨fun vs W hI hV => .inl ⟨by clear hI hV hst; (try simp only [Act.put, hval, hval2, List.setIfInBounds_toArray, List.set_cons_zero, List.set_cons_succ]); go_simp, .inl (exec_load rfl (by clear hI hV hst; (try simp only [Act.put, hval, hval2, List.setIfInBounds_toArray, List.set_cons_zero, List.set_cons_succ]); go_simp) (run_loadCell (c := kb) (KL1.out.bl.sees (Hw2.out.trans hI))))⟩, ?_⟩
  refine ⟨fun vs W hI hV => .inl ⟨by clear hI hV hst; (try simp only [Act.put, hval, hval2, List.setIfInBounds_toArray, List.set_cons_zero, List.set_cons_succ]); go_simp, .inl (exec_load rfl (by clear hI hV hst; (try simp only [Act.put, hval, hval2, List.setIfInBounds_toArray, List.set_cons_zero, List.set_cons_succ]); go_simp) (run_loadCell (c := kb) (KL1.out.bl.sees (Hw2.out.trans hI))))⟩, ?_⟩
  refine ⟨fun vs W hI hV => .inl ⟨by clear hI hV hst; (try simp only [Act.put, hval, hval2, List.setIfInBounds_toArray, List.set_cons_zero, List.set_cons_succ]); go_simp, .inl (exec_load rfl (by clear hI hV hst; (try simp only [Act.put, hval, hval2, List.setIfInBounds_toArray, List.set_cons_zero, List.set_cons_succ]); go_simp) (run_loadCell (c := kb) (KL1.out.bl.sees (Hw2.out.trans hI))))⟩, ?_⟩
  refine ⟨fun vs W hI hV => .inl ⟨by clear hI hV hst; (try simp only [Act.put, hval, hval2, List.setIfInBounds_toArray, List.set_cons_zero, List.set_cons_succ]); go_simp, .inl (exec_load rfl (by clear hI hV hst; (try simp only [Act.put, hval, hval2, List.setIfInBounds_toArray, List.set_cons_zero, List.set_cons_succ]); go_simp) (run_loadCell (c := kb) (KL1.out.bl.sees (Hw2.out.trans hI))))⟩, ?_⟩
  refine ⟨fun vs W hI hV => .inl ⟨by clear hI hV hst; (try simp only [Act.put, hval, hval2, List.setIfInBounds_toArray, List.set_cons_zero, List.set_cons_succ]); go_simp, .inl ⟨.slice (some ⟨W.heap.size, 0, none⟩) 6 6, W.alloc (.cells #[.int .i32 98, .int .i32 0, .int .i32 0, .int .i32 0, .int .i64 1, .int .i64 0, .int .u8 0, .int .u8 0, .int .u8 0, .int .u8 0, .int .i64 0, .int .u8 0, .int .u8 0, .int .u8 0, .int .u8 0, .int .u8 0, .int .i32 0, .int .i32 0, .int .i32 0, .int .i32 0, .int .i64 1, .int .i64 0, .int .u8 0, .int .u8 0, .int .u8 0, .int .u8 0, .int .i64 0, .int .u8 0, .int .u8 0, .int .u8 0, .int .u8 0, .int .u8 0, .int .i32 0, .int .i32 0, .int .i32 0, .int .i32 0, .int .i64 1, .int .i64 0, .int .u8 0, .int .u8 0, .int .u8 0, .int .u8 0, .int .i64 0, .int .u8 0, .int .u8 0, .int .u8 0, .int .u8 0, .int .u8 0, .int .i32 0, .int .i32 0, .int .i32 0, .int .i32 0, .int .i64 1, .int .i64 0, .int .u8 0, .int .u8 0, .int .u8 0, .int .u8 0, .int .i64 0, .int .u8 0, .int .u8 0, .int .u8 0, .int .u8 0, .int .u8 0, .int .i32 0, .int .i32 0, .int .i32 0, .int .i32 0, .int .i64 1, .int .i64 0, .int .u8 0, .int .u8 0, .int .u8 0, .int .u8 0, .int .i64 0, .int .u8 0, .int .u8 0, .int .u8 0, .int .u8 0, .int .u8 0, .int .i32 0, .int .i32 0, .int .i32 0, .int .i32 0, .int .i64 1, .int .i64 0, .int .u8 0, .int .u8 0, .int .u8 0, .int .u8 0, .int .i64 0, .int .u8 0, .int .u8 0, .int .u8 0, .int .u8 0, .int .u8 0] 46), by clear hI hV hst; (try simp only [Act.put, hval, hval2, List.setIfInBounds_toArray, List.set_cons_zero, List.set_cons_succ]); go_simp, rgGood_mk hst hI ⟨_, rfl, heap_alloc_new _ _⟩ ((Sees.refl W).alloc _)⟩⟩, ?_⟩
  refine ⟨fun vs W hI hV => ?_, ?_⟩
  · obtain ⟨g, e6, h6⟩ := hV 6 _ (by kernel_rfl) rfl
    exact .inl ⟨by clear hI hV hst; (try simp only [Act.put, hval, hval2, List.setIfInBounds_toArray, List.set_cons_zero, List.set_cons_succ]); go_simp, .inl ⟨.agg #[.slice (some ⟨g, 0, none⟩) 6 6, .bool false], W, by clear hI hV hst h6; (try simp only [Act.put, hval, hval2, List.setIfInBounds_toArray, List.set_cons_zero, List.set_cons_succ]); go_simp, rgGood_mk hst hI ⟨g, rfl, h6⟩ (Sees.refl W)⟩⟩
  refine ⟨fun vs W hI hV => .inl ⟨by clear hI hV hst; (try simp only [Act.put, hval, hval2, List.setIfInBounds_toArray, List.set_cons_zero, List.set_cons_succ]); go_simp, .inl ⟨.pointer (some ⟨W.heap.size, 0, none⟩), W.alloc (.cells #[.slice none 0 0, .bool false] 37), by clear hI hV hst; (try simp only [Act.put, hval, hval2, List.setIfInBounds_toArray, List.set_cons_zero, List.set_cons_succ]); go_simp, rgGood_mk hst hI ⟨_, rfl, heap_alloc_new _ _, hI.size⟩ ((Sees.refl W).alloc _)⟩⟩, ?_⟩
  intro vs w3 hI hV
  obtain ⟨g6, e6, h6⟩ := hV 6 _ rfl
  obtain ⟨g7, e7, h7⟩ := hV 7 _ rfl
  obtain ⟨g8, e8, h8, hg8⟩ := hV 8 _ rfl
  have R7 := Lib.hid (show cellEl.Rd (fun b => b = g7) w3 (.slice (some ⟨g7, 0, none⟩) 6 6) knB.cells from rd_block (E := cellEl) (F := fun b => b = g7) (xs := knB.cells) h7 ((relIn_one (E := cellEl) (x := k1 98) rfl).append ((relIn_one (E := cellEl) (x := kb) rfl).append ((relIn_one (E := cellEl) (x := kb) rfl).append ((relIn_one (E := cellEl) (x := kb) rfl).append ((relIn_one (E := cellEl) (x := kb) rfl).append (relIn_one (E := cellEl) (x := kb) rfl)))))) rfl rfl)
  have ST := Lib.hid (kn_store hI h7 h8 hg8)
  have f0 : w3.frozen? ⟨g8, 0, none⟩ = false := frozen_of_row _ _ _ _ _ h8
  have f1 : w3.frozen? ⟨g8, 1, none⟩ = false := frozen_of_row _ _ _ _ _ h8
  have c0 : w3.cell? ⟨g8, 0, none⟩ = some (.slice none 0 0) := by rw [cell_of_row _ _ _ _ _ _ h8]; rfl
  have c1 : w3.cell? ⟨g8, 1, none⟩ = some (.bool false) := by rw [cell_of_row _ _ _ _ _ _ h8]; rfl
  clear hI hV hst h6 h7 h8 hg8 Hw2
  (try simp only [Act.put, hval, hval2, List.setIfInBounds_toArray, List.set_cons_zero, List.set_cons_succ])
  go_simp
  clear e6 e7 e8
  refine wpFrom_to 10 hB (fun _ _ _ _ _ h => h) (by kernel_rfl) (by simp only [List.cons_append, List.nil_append, List.drop_succ_cons, List.drop_zero, List.take_succ_cons, List.take_zero, Nat.reduceSub]; rfl) ?_
  go_wp2
  refine wpFrom_end rfl ?_
  clear hB f0 f1 c0 c1
  obtain ⟨s4, l4, k4⟩ := ST.out
  have KL2 := Lib.hid (KL1.out.sees s4)
  have KM : Hid (KnM w g b g7 g8 _) := ⟨KL2.out, l4, k4 _ R7.out⟩
  clear s4 l4 k4 ST R7 KL1 KL2
  generalize (w3.setCell ⟨g8, 0, none⟩ (.slice (some ⟨g7, 0, none⟩) 6 6)).setCell ⟨g8, 1, none⟩ (.bool false) = w6 at *
  obtain ⟨l0, l1⟩ := KM.out.a.l.c
  obtain ⟨m0, m1⟩ := KM.out.l.c
  go_upto_region 5 with fail
  refine wp_world fun W1 hW1 => ?_
  have KZ : Hid (KnZ w g b w6.heap.size W1) := by
    have hs : Sees w6 W1 := by subst hW1; exact (Sees.refl w6).alloc _
    refine ⟨?_, KM.out.a.l.sees hs, KM.out.a.r.sees hs, KM.out.a.s.trans hs⟩
    have r1 := KM.out.a.r.sees hs
    have r2 := KM.out.r.sees hs
    subst hW1
    exact rd_block (E := lnEl) (xs := [knA, knB]) (heap_alloc_new w6 _) ((relIn_one (E := lnEl) (x := knA) (ln_rel r1 false)).append (relIn_one (E := lnEl) (x := knB) (ln_rel r2 false))) trivial rfl
  clear hW1 l0 l1 m0 m1 KM
  obtain ⟨G, hG⟩ : ∃ G, G = w6.heap.size := ⟨_, rfl⟩
  rw [← hG] at KZ ⊢
  clear hG
  go_wp2_with fail
  refine calls_world fun W2 hW2 => ?_
  have KZ2 : Hid (KnZ w g b G W2) := by subst hW2; exact KZ.out.sees ((Sees.refl _).alloc _)
  have hu : sEl.Rd (fun _ => True) W2 (.slice (some ⟨W1.heap.size, 0, none⟩) 2 2) [⟨#[97, 230, 188, 162, 195, 169]⟩, ⟨#[98]⟩] := by
    subst hW2
    exact rd_block (E := sEl) (xs := [⟨#[97, 230, 188, 162, 195, 169]⟩, ⟨#[98]⟩]) (heap_alloc_new W1 _) ((relIn_one (E := sEl) (x := ⟨#[97, 230, 188, 162, 195, 169]⟩) rfl).append (relIn_one (E := sEl) (x := ⟨#[98]⟩) rfl)) trivial rfl
  have HU := Lib.hid hu
  clear hu hW2 KZ
  refine (kn_rowsT HT.out KZ2.out HU.out).mono ?_
  rintro e W3 ⟨rfl, s3⟩
  have KZ3 := Lib.hid (KZ2.out.sees s3)
  clear s3 HU KZ2
  go_wp2_with fail
  refine (kn_blockT HT.out KZ3.out 0 0 1 2 (by decide) (by decide) (by decide) (by decide) _ kn_b1).mono ?_
  rintro e W4 ⟨rfl, s4⟩
  have KZ4 := Lib.hid (KZ3.out.sees s4)
  clear s4 KZ3
  go_wp2_with fail
  refine (kn_blockT HT.out KZ4.out 0 2 0 4 (by decide) (by decide) (by decide) (by decide) _ kn_b2).mono ?_
  rintro e W5 ⟨rfl, s5⟩
  have KZ5 := Lib.hid (KZ4.out.sees s5)
  clear s5 KZ4
  go_wp2_with fail
  refine wp_world fun W6 hW6 => ?_
  have KZ6 : Hid (KnZ w g b G W6) := by subst hW6; exact KZ5.out.sees ((Sees.refl _).alloc _)
  have q6 : W6.heap[W5.heap.size]? = some (.cells #[.int .i64 0, .int .i64 1, .int .i64 4, .int .i64 4, .int .i64 6, .int .i64 6, .int .i64 6] 3 (0, 0)) := by subst hW6; exact heap_alloc_new W5 _
  have Q6 := Lib.hid q6
  clear q6 hW6 KZ5
  go_loopw [43] (fun i W => ∃ k : Nat, k ≤ 7 ∧ i = .int .i64 k ∧ KnZ w g b G W ∧ Sees W6 W) (fun i _ => 7 - (intOf i).toNat)
  case atStart => exact ⟨0, by omega, rfl, KZ6.out, Sees.refl _⟩
  case round =>
    obtain ⟨k, hk, rfl, hZ, hS⟩ := hrel
    have HZ := Lib.hid hZ
    have HS := Lib.hid hS
    clear hZ hS
    by_cases hlt : k < 7
    · obtain ⟨N, hN, hof⟩ := kn_offs k hlt
      have HOF := Lib.hid hof
      have y0 : wr.cell? ⟨W5.heap.size, k, none⟩ = some (.int .i64 N) := HS.out.cell (by rw [cell_of_row _ _ _ _ _ _ Q6.out]; simpa using hN)
      obtain ⟨l0, l1⟩ := HZ.out.l.c
      clear hN hof
      go_wp2_with fail
      refine (kn_offT HT.out HZ.out k N 0 HOF.out).mono ?_
      rintro e W7 ⟨rfl, s7⟩
      have HZ7 := Lib.hid (HZ.out.sees s7)
      have HS7 := Lib.hid (HS.out.trans s7)
      clear s7 HZ HS y0 l0 l1
      go_wp2
      exact ⟨⟨k + 1, by omega, by go_num, HZ7.out, HS7.out⟩, by simp [intOf]; omega⟩
    · have hlt2 : ¬ ((k : Int) < 7) := by omega
      clear Q6 HS KZ6
      obtain ⟨l0, l1⟩ := HZ.out.l.c
      go_wp2_with fail
      refine (kn_colT HT.out HZ.out 0 0 0 (by decide) (by decide) (by kernel_rfl)).mono ?_
      rintro e V0 ⟨rfl, s⟩
      have HZn := Lib.hid (HZ.out.sees s)
      clear s HZ l0 l1
      have HZ := Lib.hid HZn.out
      clear HZn
      obtain ⟨l0, l1⟩ := HZ.out.l.c
      go_wp2_with fail
      refine (kn_colT HT.out HZ.out 2 1 0 (by decide) (by decide) (by kernel_rfl)).mono ?_
      rintro e V1 ⟨rfl, s⟩
      have HZn := Lib.hid (HZ.out.sees s)
      clear s HZ l0 l1
      have HZ := Lib.hid HZn.out
      clear HZn
      obtain ⟨l0, l1⟩ := HZ.out.l.c
      go_wp2_with fail
      refine (kn_colT HT.out HZ.out 4 3 0 (by decide) (by decide) (by kernel_rfl)).mono ?_
      rintro e V2 ⟨rfl, s⟩
      have HZn := Lib.hid (HZ.out.sees s)
      clear s HZ l0 l1
      have HZ := Lib.hid HZn.out
      clear HZn
      obtain ⟨l0, l1⟩ := HZ.out.l.c
      go_wp2_with fail
      refine (kn_colT HT.out HZ.out 6 4 0 (by decide) (by decide) (by kernel_rfl)).mono ?_
      rintro e V3 ⟨rfl, s⟩
      have HZn := Lib.hid (HZ.out.sees s)
      clear s HZ l0 l1
      have HZ := Lib.hid HZn.out
      clear HZn
      obtain ⟨l0, l1⟩ := HZ.out.l.c
      go_wp2_with fail
      refine (kn_wT HT.out HZ.out.s).mono ?_
      rintro e V4 ⟨rfl, s⟩
      have HZn := Lib.hid (HZ.out.sees s)
      clear s HZ l0 l1
      have HZ := Lib.hid HZn.out
      clear HZn
      obtain ⟨l0, l1⟩ := HZ.out.l.c
      go_wp2_with fail
      refine (kn_fitT HT.out HZ.out.s 4 (by decide) (by decide) _ kn_f4).mono ?_
      rintro e V5 ⟨rfl, s⟩
      have HZn := Lib.hid (HZ.out.sees s)
      clear s HZ l0 l1
      have HZ := Lib.hid HZn.out
      clear HZn
      obtain ⟨l0, l1⟩ := HZ.out.l.c
      go_wp2_with fail
      refine (kn_fitT HT.out HZ.out.s 2 (by decide) (by decide) _ kn_f2).mono ?_
      rintro e V6 ⟨rfl, s⟩
      have HZn := Lib.hid (HZ.out.sees s)
      clear s HZ l0 l1
      have HZ := Lib.hid HZn.out
      clear HZn
      obtain ⟨l0, l1⟩ := HZ.out.l.c
      go_wp2_with fail
      refine (kn_offT HT.out HZ.out 7 0 3 (by kernel_rfl)).mono ?_
      rintro e V7 ⟨rfl, s⟩
      have HZn := Lib.hid (HZ.out.sees s)
      clear s HZ l0 l1
      have HZ := Lib.hid HZn.out
      clear HZn
      obtain ⟨l0, l1⟩ := HZ.out.l.c
      go_wp2_with fail
      refine (kn_colT HT.out HZ.out 7 0 3 (by decide) (by decide) (by kernel_rfl)).mono ?_
      rintro e V8 ⟨rfl, s⟩
      have HZn := Lib.hid (HZ.out.sees s)
      clear s HZ l0 l1
      have HZ := Lib.hid HZn.out
      clear HZn
      obtain ⟨l0, l1⟩ := HZ.out.l.c
      go_wp2_with fail
      refine (kn_blockE HT.out HZ.out).mono ?_
      rintro e V9 ⟨rfl, s⟩
      have HZn := Lib.hid (HZ.out.sees s)
      clear s HZ l0 l1
      have HZ := Lib.hid HZn.out
      clear HZn
      go_wp2
      go_ret
      exact ⟨rfl, HZ.out.s⟩
end Go.Proofs.YtfdolhppbimbmaaDoor
