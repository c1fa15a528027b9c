/- Rows that are wrapped elsewhere have as many matches (42); rows of one letter. No condition. -/
import Derived.Test.YtohiigmlkhpneaaDoorSrQ
namespace Go.Proofs.YtohiigmlkhpneaaDoor
set_option linter.unusedVariables false
set_option linter.unusedSimpArgs false
open Go

def txts (cs : List Cell) : List UInt8 := cs.flatMap Cell.txt
theorem txts_append (xs ys : List Cell) : txts (xs ++ ys) = txts xs ++ txts ys := by simp [txts]
theorem cellsB_txts (n : Int) : ∀ (k : Nat) (cs : List Cell), (cellsB n k cs).map Bp.b = txts cs
  | _, [] => rfl
  | k, c :: cs => by
    rw [cellsB, List.map_append, cellsB_txts n (k + 1) cs, cellB, List.map_map]
    show c.txt.map (fun b => b) ++ _ = _
    rw [List.map_id']
    rfl
/-- The cells of all logical lines. -/
def segsC (acc : List Cell) : List Ln → List (List Cell)
  | [] => []
  | x :: xs => if x.soft && !xs.isEmpty then segsC (acc ++ x.cells) xs else (acc ++ x.part true) :: segsC [] xs
theorem segs_txts : ∀ {ls : List Ln} {n : Int} {acc : List Bp} {accC : List Cell}, acc.map Bp.b = txts accC → (segs n acc ls).map (fun s => s.map Bp.b) = (segsC accC ls).map txts
  | [], _, _, _, _ => rfl
  | x :: xs, n, acc, accC, h => by
    unfold segs segsC
    split
    · exact segs_txts (by rw [List.map_append, h, rowB, cellsB_txts, txts_append]; rfl)
    · rw [List.map_cons, List.map_cons, segs_txts (accC := []) rfl, List.map_append, h, rowB, cellsB_txts, txts_append]
theorem allM_byC (ls : List Ln) (first : Int) (p : List UInt8) : (allM ls first p false).length = (((segsC [] ls).map txts).map fun t => (hits p 0 0 t).length).sum := by
  rw [allM_len, map_low_false, ← segs_txts (n := first) (acc := []) rfl, show lowB false = (fun s => s.map Bp.b) from funext lowB_false]

/-- A row of cells in rows of 'c' cells each. -/
def wrapRows (c : Nat) : Nat → List Cell → List Ln
  | 0, _ => []
  | f + 1, cs => if cs.length ≤ c then [⟨cs ++ List.replicate (c - cs.length) blankC, false⟩] else ⟨cs.take c, true⟩ :: wrapRows c f (cs.drop c)
def endsFull (cs : List Cell) : Prop := cs = [] ∨ cs.getLast? ≠ some blankC
theorem usedTo_blanks (cs : List Cell) : ∀ k, usedTo (cs ++ List.replicate k blankC) (cs.length + k) = usedTo (cs ++ List.replicate k blankC) cs.length
  | 0 => rfl
  | k + 1 => by
    have key : ∀ j, j ≤ k + 1 → usedTo (cs ++ List.replicate (k + 1) blankC) (cs.length + j) = usedTo (cs ++ List.replicate (k + 1) blankC) cs.length := by
      intro j
      induction j with
      | zero => intro _; rfl
      | succ j ih =>
        intro hj
        rw [← Nat.add_assoc, usedTo_blank, ih (by omega)]
        rw [List.getElem?_append_right (by omega), List.getElem?_replicate, if_pos (by omega)]
    exact key (k + 1) (Nat.le_refl _)
theorem usedN_pad {cs : List Cell} (h : endsFull cs) (k : Nat) : usedN (cs ++ List.replicate k blankC) = cs.length := by
  unfold usedN
  rw [List.length_append, List.length_replicate, usedTo_blanks]
  rcases h with rfl | h
  · rfl
  · cases hn : cs.length with
    | zero => rfl
    | succ n =>
      refine usedTo_not ?_
      rw [List.getElem?_append_left (by omega)]
      rw [List.getLast?_eq_getElem?, hn, Nat.add_sub_cancel] at h
      exact h
theorem wrapRows_ne (c f : Nat) (cs : List Cell) : wrapRows c (f + 1) cs ≠ [] := by
  unfold wrapRows
  split <;> simp
theorem segsC_wrap {c : Nat} (hc : 1 ≤ c) : ∀ {f : Nat} {cs acc : List Cell} {rest : List Ln}, cs.length < f → endsFull cs → segsC acc (wrapRows c f cs ++ rest) = (acc ++ cs) :: segsC [] rest
  | 0, cs, _, _, h, _ => by omega
  | f + 1, cs, acc, rest, hf, he => by
    unfold wrapRows
    split
    · rename_i hl
      rw [List.singleton_append, segsC, if_neg (by simp)]
      unfold Ln.part
      rw [if_pos rfl]
      show (acc ++ (cs ++ List.replicate (c - cs.length) blankC).take (usedN (cs ++ List.replicate (c - cs.length) blankC))) :: _ = _
      rw [usedN_pad he, List.take_left]
    · rename_i hl
      have hd : (cs.drop c).length < f := by rw [List.length_drop]; omega
      obtain ⟨f', rfl⟩ : ∃ f', f = f' + 1 := ⟨f - 1, by omega⟩
      have hne := wrapRows_ne c f' (cs.drop c)
      rw [List.cons_append, segsC, if_pos (by
        simp only [Bool.true_and, Bool.not_eq_true', List.isEmpty_eq_false_iff]
        intro e
        exact hne (List.append_eq_nil_iff.1 e).1), segsC_wrap hc hd (by
        rcases he with rfl | he
        · simp at hl
        · refine .inr ?_
          rw [List.getLast?_drop, if_neg (by omega)]
          exact he)]
      show (acc ++ cs.take c ++ cs.drop c) :: _ = _
      rw [List.append_assoc, List.take_append_drop]
theorem segsC_wraps {c : Nat} (hc : 1 ≤ c) : ∀ {L : List (List Cell)}, (∀ cs ∈ L, endsFull cs) → segsC [] (L.flatMap fun cs => wrapRows c (cs.length + 1) cs) = L
  | [], _ => rfl
  | cs :: L, h => by
    rw [List.flatMap_cons, segsC_wrap hc (by omega) (h cs List.mem_cons_self), segsC_wraps hc (fun x hx => h x (List.mem_cons_of_mem _ hx)), List.nil_append]
/-- Wrapped elsewhere, there are as many matches. -/
theorem wrap_count {c : Nat} (hc : 1 ≤ c) (ls : List Ln) (first : Int) (p : List UInt8) (h : ∀ cs ∈ segsC [] ls, endsFull cs) :
    (allM ((segsC [] ls).flatMap fun cs => wrapRows c (cs.length + 1) cs) 0 p false).length = (allM ls first p false).length := by
  rw [allM_byC, allM_byC, segsC_wraps hc h]
theorem wrapRows_mem {c : Nat} : ∀ {f : Nat} {cs : List Cell} {x : Ln}, x ∈ wrapRows c f cs → x.cells.length = c ∧ ∀ d ∈ x.cells, d ∈ cs ∨ d = blankC
  | 0, _, _, h => by simp [wrapRows] at h
  | f + 1, cs, x, h => by
    unfold wrapRows at h
    split at h
    · rw [List.mem_singleton] at h
      subst h
      refine ⟨by simp; omega, fun d hd => ?_⟩
      rcases List.mem_append.1 hd with hd | hd
      · exact .inl hd
      · exact .inr (List.mem_replicate.1 hd).2
    · rename_i hl
      rcases List.mem_cons.1 h with rfl | h
      · exact ⟨by rw [List.length_take]; omega, fun d hd => .inl (List.mem_of_mem_take hd)⟩
      · obtain ⟨h1, h2⟩ := wrapRows_mem h
        exact ⟨h1, fun d hd => (h2 d hd).imp (fun h => List.mem_of_mem_drop h) id⟩
theorem wrapRows_len {c : Nat} (hc : 1 ≤ c) : ∀ {f : Nat} {cs : List Cell}, (wrapRows c f cs).length ≤ cs.length + 1
  | 0, _ => by simp [wrapRows]
  | f + 1, cs => by
    unfold wrapRows
    split
    · simp
    · have := wrapRows_len hc (f := f) (cs := cs.drop c)
      rw [List.length_drop] at this
      rw [List.length_cons]
      omega
theorem segsC_mem : ∀ {ls : List Ln} {acc cs : List Cell} {d : Cell}, cs ∈ segsC acc ls → d ∈ cs → d ∈ acc ∨ ∃ x ∈ ls, d ∈ x.cells
  | [], _, _, _, h, _ => by simp [segsC] at h
  | x :: xs, acc, cs, d, h, hd => by
    have hpart : ∀ last, d ∈ x.part last → ∃ z ∈ x :: xs, d ∈ z.cells := fun last hh => by
      refine ⟨x, List.mem_cons_self, ?_⟩
      unfold Ln.part at hh
      split at hh
      · exact List.mem_of_mem_take hh
      · exact hh
    have hl : (∃ z ∈ xs, d ∈ z.cells) → ∃ z ∈ x :: xs, d ∈ z.cells := fun ⟨z, hz, h⟩ => ⟨z, List.mem_cons_of_mem _ hz, h⟩
    unfold segsC at h
    split at h
    · rcases segsC_mem h hd with h1 | h1
      · rcases List.mem_append.1 h1 with h2 | h2
        · exact .inl h2
        · exact .inr ⟨x, List.mem_cons_self, h2⟩
      · exact .inr (hl h1)
    · rcases List.mem_cons.1 h with rfl | h
      · rcases List.mem_append.1 hd with h2 | h2
        · exact .inl h2
        · exact .inr (hpart _ h2)
      · rcases segsC_mem h hd with h1 | h1
        · cases h1
        · exact .inr (hl h1)
theorem segsC_total {m : Nat} : ∀ {ls : List Ln} {acc : List Cell}, (∀ x ∈ ls, x.cells.length ≤ m) → ((segsC acc ls).map fun cs => cs.length + 1).sum ≤ acc.length + ls.length * (m + 1)
  | [], _, _ => by simp [segsC]
  | x :: xs, acc, h => by
    have h1 := h x List.mem_cons_self
    have h2 := x.part_len true
    have hx : ∀ y ∈ xs, y.cells.length ≤ m := fun y hy => h y (List.mem_cons_of_mem _ hy)
    unfold segsC
    rw [List.length_cons, Nat.add_mul, Nat.one_mul]
    split
    · have ih := segsC_total (ls := xs) (acc := acc ++ x.cells) hx
      rw [List.length_append] at ih
      omega
    · have ih := segsC_total (ls := xs) (acc := []) hx
      rw [List.map_cons, List.sum_cons, List.length_append]
      rw [List.length_nil] at ih
      omega
theorem wraps_len {c m : Nat} (hc : 1 ≤ c) {ls : List Ln} (h : ∀ x ∈ ls, x.cells.length ≤ m) : ((segsC [] ls).flatMap fun cs => wrapRows c (cs.length + 1) cs).length ≤ ls.length * (m + 1) := by
  rw [List.length_flatMap]
  have h1 := sum_le (l := segsC [] ls) (f := fun cs => (wrapRows c (cs.length + 1) cs).length) (g := fun cs => cs.length + 1) (fun cs _ => wrapRows_len hc)
  have h2 := segsC_total (acc := []) h
  rw [List.length_nil, Nat.zero_add] at h2
  exact Nat.le_trans h1 h2

/-- Rows of one letter. -/
theorem isPrefix_rep {b : UInt8} {m n : Nat} : (List.replicate m b).isPrefixOf (List.replicate n b) = decide (m ≤ n) := by
  rw [Bool.eq_iff_iff, List.isPrefixOf_iff_prefix, decide_eq_true_eq]
  constructor
  · intro h
    have := h.length_le
    simpa using this
  · intro h
    exact ⟨List.replicate (n - m) b, by rw [List.replicate_append_replicate]; congr 1; omega⟩
theorem hits_rep {b : UInt8} {m : Nat} (hm : 1 ≤ m) : ∀ (n i : Nat), (hits (List.replicate m b) i 0 (List.replicate n b)).length = n / m := by
  intro n
  induction n using Nat.strongRecOn with
  | ind n ih =>
    intro i
    rcases Nat.lt_or_ge n m with h | h
    · rw [hits_short (by simpa using h), Nat.div_eq_of_lt h]
      rfl
    · rw [hits_yes (by intro e; have := congrArg List.length e; simp at this; omega) (by rw [isPrefix_rep]; exact decide_eq_true h), List.length_cons, List.length_replicate, List.drop_replicate, ih (n - m) (by omega), Nat.div_eq n m, if_pos ⟨by omega, h⟩]
theorem hits_each {b : UInt8} : ∀ {t : List UInt8} {i : Nat}, (∀ x ∈ t, x = b) → hits [b] i 0 t = List.range' i t.length
  | [], _, _ => rfl
  | x :: t, i, h => by
    have hx := h x List.mem_cons_self
    subst hx
    rw [hits, if_pos (by simp)]
    show i :: hits [x] (i + 1) 0 t = _
    rw [hits_each (fun y hy => h y (List.mem_cons_of_mem _ hy)), List.length_cons, List.range'_succ]
def Bp.mt (x : Bp) : Mt := ⟨x.line, x.col, x.line, x.col⟩
theorem matchS_each {b : UInt8} {fold : Bool} {s : List Bp} (h : ∀ x ∈ s, low fold x.b = b) : matchS [b] fold s = s.map Bp.mt := by
  unfold matchS
  rw [hits_each (fun x hx => by obtain ⟨y, hy, rfl⟩ := List.mem_map.1 hx; exact h y hy), lowB_len]
  apply List.ext_getElem?
  intro i
  rw [List.getElem?_map, List.getElem?_map]
  rcases Nat.lt_or_ge i s.length with hi | hi
  · rw [List.getElem?_eq_getElem hi, List.getElem?_eq_getElem (by simpa using hi)]
    simp only [Option.map_some, List.getElem_range', Nat.zero_add, Nat.one_mul, Option.some.injEq]
    simp [mtOf, Bp.mt, List.getD_eq_getElem?_getD, List.getElem?_eq_getElem hi]
  · rw [List.getElem?_eq_none (by simpa using hi), List.getElem?_eq_none hi]
    rfl
/-- All bytes of rows, one behind the other. -/
def rowsF (n : Int) : List Ln → List Bp
  | [] => []
  | x :: xs => rowB n true x ++ rowsF (n + 1) xs
theorem segs_flat : ∀ {ls : List Ln} {n : Int} {acc : List Bp}, (∀ x ∈ ls, x.part true = x.cells) → (segs n acc ls).flatten = (if ls = [] then [] else acc) ++ rowsF n ls
  | [], _, _, _ => by simp [segs, rowsF]
  | x :: xs, n, acc, h => by
    have hx := h x List.mem_cons_self
    have hr : rowB n false x = rowB n true x := by
      unfold rowB
      rw [hx]
      rfl
    have hxs : ∀ y ∈ xs, y.part true = y.cells := fun y hy => h y (List.mem_cons_of_mem _ hy)
    unfold segs
    split
    · rename_i hc
      have hne : xs ≠ [] := by intro e; subst e; simp at hc
      rw [segs_flat hxs, if_neg hne, rowsF, hr, if_neg (by simp), List.append_assoc]
    · have e : (if xs = [] then ([] : List Bp) else []) = [] := by split <;> rfl
      rw [List.flatten_cons, segs_flat hxs, e, rowsF, List.nil_append, if_neg (List.cons_ne_nil _ _), List.append_assoc]
end Go.Proofs.YtohiigmlkhpneaaDoor
