/- Texts of cells, rows and logical lines, and what matches in them (42), in plain Lean. Laws about matches (42): their order, that case folds, that rows may be wrapped elsewhere; the next one and the one before. Rows that are wrapped elsewhere have as many matches (42); rows of one letter. No condition. -/
import Derived.Test.YthcndmchlpohpaaGreatDoorLine
import Derived.Laws.Cover4
import Derived.Lib.Index
namespace Go.Proofs.YthcndmchlpohpaaGreatDoor
set_option linter.unusedVariables false
set_option linter.unusedSimpArgs false
open Go

/-- A rune's bytes. -/
def encL (r : Int) : List UInt8 := (Utf8.encode r).data.toList
/-- A mark's bytes. -/
def mkTxt (m : Int) : List UInt8 := if m = 0 then [] else encL m
/-- A cell's text. -/
def Cell.txt (c : Cell) : List UInt8 :=
  if c.width = 0 then [] else if c.rune = 0 then [32] else encL c.rune ++ mkTxt c.m0 ++ mkTxt c.m1 ++ mkTxt c.m2
theorem encode_len (r : Int) : 1 ≤ (encL r).length ∧ (encL r).length ≤ 4 := by
  have h := encode_size_le r
  have e : (encL r).length = (Utf8.encode r).size := by unfold encL; rw [Array.length_toList]; rfl
  refine ⟨?_, by omega⟩
  rw [e]
  unfold Utf8.encode
  dsimp only
  generalize (if Utf8.valid r = true then r.toNat else Utf8.runeError) = c
  split
  · exact Nat.succ_pos _
  split
  · exact Nat.succ_pos _
  split
  · exact Nat.succ_pos _
  · exact Nat.succ_pos _
theorem mkTxt_len (m : Int) : (mkTxt m).length ≤ 4 := by
  unfold mkTxt
  split
  · simp
  · exact (encode_len m).2
theorem Cell.txt_len (c : Cell) : c.txt.length ≤ 16 := by
  have h0 := encode_len c.rune
  have h1 := mkTxt_len c.m0
  have h2 := mkTxt_len c.m1
  have h3 := mkTxt_len c.m2
  unfold Cell.txt
  split
  · simp
  · split
    · simp
    · simp only [List.length_append]; omega
theorem Cell.txt_one {c : Cell} (h : c.width ≠ 0) : 1 ≤ c.txt.length := by
  have h0 := encode_len c.rune
  unfold Cell.txt
  rw [if_neg h]
  split
  · simp
  · simp only [List.length_append]; omega

/-- The blank cell. -/
def blankC : Cell := ⟨0, 0, 0, 0, 1, 0, 0, 0, 0, 0, 0, 0, 0, 0, 0, 0⟩
/-- How many of the first n cells there are up to the last one that is not blank. -/
def usedTo (cs : List Cell) : Nat → Nat
  | 0 => 0
  | n + 1 => if cs[n]? = some blankC then usedTo cs n else n + 1
def usedN (cs : List Cell) : Nat := usedTo cs cs.length
theorem usedTo_le (cs : List Cell) : ∀ n, usedTo cs n ≤ n
  | 0 => Nat.le_refl _
  | n + 1 => by
    unfold usedTo
    split
    · have := usedTo_le cs n; omega
    · exact Nat.le_refl _
theorem usedN_le (cs : List Cell) : usedN cs ≤ cs.length := usedTo_le cs _
theorem usedTo_blank {cs : List Cell} {n : Nat} (h : cs[n]? = some blankC) : usedTo cs (n + 1) = usedTo cs n := by rw [usedTo, if_pos h]
theorem usedTo_not {cs : List Cell} {n : Nat} (h : cs[n]? ≠ some blankC) : usedTo cs (n + 1) = n + 1 := by rw [usedTo, if_neg h]

/-- A byte, and the place of its cell. -/
structure Bp where
  b : UInt8
  line : Int
  col : Int
instance : Inhabited Bp := ⟨⟨0, 0, 0⟩⟩
def cellB (n : Int) (k : Nat) (c : Cell) : List Bp := c.txt.map fun b => ⟨b, n, k⟩
def cellsB (n : Int) : Nat → List Cell → List Bp
  | _, [] => []
  | k, c :: cs => cellB n k c ++ cellsB n (k + 1) cs
theorem cellsB_append (n : Int) : ∀ (k : Nat) (xs ys : List Cell), cellsB n k (xs ++ ys) = cellsB n k xs ++ cellsB n (k + xs.length) ys
  | k, [], ys => by simp [cellsB]
  | k, x :: xs, ys => by
    rw [List.cons_append, cellsB, cellsB, cellsB_append n (k + 1) xs ys, List.append_assoc]
    congr 3
    rw [List.length_cons]; omega
theorem cellsB_step {n : Int} {cs : List Cell} {k : Nat} {c : Cell} (h : cs[k]? = some c) : cellsB n 0 (cs.take (k + 1)) = cellsB n 0 (cs.take k) ++ cellB n k c := by
  have hk := (List.getElem?_eq_some_iff.1 h).1
  rw [List.take_add_one, h, cellsB_append, List.length_take, Nat.min_eq_left (by omega)]
  simp [cellsB]
theorem cellsB_len (n : Int) : ∀ (k : Nat) (cs : List Cell), (cellsB n k cs).length ≤ cs.length * 16
  | _, [] => by simp [cellsB]
  | k, c :: cs => by
    have h1 := cellsB_len n (k + 1) cs
    have h2 := c.txt_len
    rw [cellsB, List.length_append, List.length_cons, cellB, List.length_map]
    omega
/-- The cells of a row that count. -/
def Ln.part (x : Ln) (last : Bool) : List Cell := if last then x.cells.take (usedN x.cells) else x.cells
theorem Ln.part_len (x : Ln) (last : Bool) : (x.part last).length ≤ x.cells.length := by
  unfold Ln.part
  split
  · rw [List.length_take]; omega
  · exact Nat.le_refl _
def rowB (n : Int) (last : Bool) (x : Ln) : List Bp := cellsB n 0 (x.part last)
theorem rowB_len (n : Int) (last : Bool) (x : Ln) : (rowB n last x).length ≤ x.cells.length * 16 := by
  have h1 := cellsB_len n 0 (x.part last)
  have h2 := x.part_len last
  unfold rowB
  omega
/-- The text of a logical line. -/
def gath (n : Int) : List Ln → List Bp
  | [] => []
  | x :: xs => rowB n xs.isEmpty x ++ gath (n + 1) xs
def gathP (n : Int) : Nat → List Ln → List Bp
  | 0, _ => []
  | _ + 1, [] => []
  | i + 1, x :: xs => rowB n xs.isEmpty x ++ gathP (n + 1) i xs
theorem gathP_all (n : Int) : ∀ (ls : List Ln), gathP n ls.length ls = gath n ls
  | [] => rfl
  | x :: xs => by rw [List.length_cons, gathP, gath, gathP_all (n + 1) xs]
theorem gathP_step : ∀ {n : Int} {ls : List Ln} {i : Nat} {x : Ln}, ls[i]? = some x → gathP n (i + 1) ls = gathP n i ls ++ rowB (n + i) (decide (i + 1 = ls.length)) x
  | n, [], i, x, h => by cases h
  | n, y :: ys, 0, x, h => by
    have h : y = x := by simpa using h
    subst h
    cases ys <;> simp [gathP]
  | n, y :: ys, i + 1, x, h => by
    have ih := gathP_step (n := n + 1) (ls := ys) (i := i) (x := x) (by simpa using h)
    rw [gathP, ih, gathP, List.append_assoc]
    congr 3
    · push_cast; omega
    · rw [List.length_cons]; exact decide_eq_decide.2 (by omega)
theorem gathP_len {n : Int} {m : Nat} : ∀ {i : Nat} {ls : List Ln}, (∀ x ∈ ls, x.cells.length ≤ m) → (gathP n i ls).length ≤ i * (m * 16)
  | 0, _, _ => by simp [gathP]
  | i + 1, [], _ => by simp [gathP]
  | i + 1, x :: xs, h => by
    have h1 := gathP_len (n := n + 1) (i := i) (ls := xs) (fun y hy => h y (List.mem_cons_of_mem _ hy))
    have h2 := rowB_len n xs.isEmpty x
    have h3 := h x List.mem_cons_self
    have h4 : x.cells.length * 16 ≤ m * 16 := Nat.mul_le_mul_right _ h3
    rw [gathP, List.length_append, Nat.add_mul]
    omega

/-- How many rows the first logical line has. -/
def runL : List Ln → Nat
  | [] => 0
  | x :: xs => if x.soft && !xs.isEmpty then runL xs + 1 else 1
/-- The texts of all logical lines; 'acc' is that of the first one's rows before these. -/
def segs (n : Int) (acc : List Bp) : List Ln → List (List Bp)
  | [] => []
  | x :: xs => if x.soft && !xs.isEmpty then segs (n + 1) (acc ++ rowB n false x) xs else (acc ++ rowB n true x) :: segs (n + 1) [] xs
theorem runL_pos {ls : List Ln} (h : ls ≠ []) : 1 ≤ runL ls := by
  cases ls with
  | nil => exact absurd rfl h
  | cons x xs => unfold runL; split <;> omega
theorem runL_le : ∀ ls : List Ln, runL ls ≤ ls.length
  | [] => Nat.le_refl _
  | x :: xs => by
    have := runL_le xs
    unfold runL
    rw [List.length_cons]
    split <;> omega
theorem segs_run : ∀ (n : Int) (acc : List Bp) (ls : List Ln), ls ≠ [] → segs n acc ls = (acc ++ gath n (ls.take (runL ls))) :: segs (n + runL ls) [] (ls.drop (runL ls))
  | n, acc, [], h => absurd rfl h
  | n, acc, x :: xs, _ => by
    by_cases hc : (x.soft && !xs.isEmpty) = true
    · have hne : xs ≠ [] := by
        intro e; subst e; simp at hc
      have hp := runL_pos hne
      rw [segs, runL, if_pos hc, if_pos hc, segs_run (n + 1) _ xs hne, List.take_succ_cons, List.drop_succ_cons, gath]
      have he : (xs.take (runL xs)).isEmpty = false := by
        rw [List.isEmpty_eq_false_iff]
        intro e
        have := congrArg List.length e
        rw [List.length_take, List.length_nil] at this
        have := runL_le xs
        omega
      rw [he, List.append_assoc]
      congr 2
      push_cast
      omega
    · rw [segs, runL, if_neg hc, if_neg hc]
      simp [gath]
/-- Where the first logical line ends. -/
theorem runL_eq : ∀ {m : Nat} {ls : List Ln}, (∀ j, j < m → ∃ x, ls[j]? = some x ∧ x.soft = true) → m < ls.length → (m + 1 = ls.length ∨ ∃ x, ls[m]? = some x ∧ x.soft = false) → runL ls = m + 1
  | m, [], _, h, _ => by simp at h
  | 0, x :: xs, _, _, h => by
    unfold runL
    rw [if_neg]
    rcases h with h | ⟨y, hy, hs⟩
    · have : xs = [] := List.eq_nil_of_length_eq_zero (by simpa using h.symm)
      simp [this]
    · have : x = y := by simpa using hy
      subst this
      simp [hs]
  | m + 1, x :: xs, h1, h2, h3 => by
    obtain ⟨y, hy, hs⟩ := h1 0 (by omega)
    have : x = y := by simpa using hy
    subst this
    have hl : m < xs.length := by simpa using h2
    have hne : xs.isEmpty = false := by
      cases xs with
      | nil => simp at hl
      | cons => rfl
    unfold runL
    rw [if_pos (by simp [hs, hne]), runL_eq (m := m) (fun j hj => by simpa using h1 (j + 1) (by omega)) hl (by simpa using h3)]

/-- A byte with a small letter in place of a capital one, if case does not matter. -/
def low (fold : Bool) (b : UInt8) : UInt8 := if fold && decide (65 ≤ b) && decide (b ≤ 90) then b + 32 else b
/-- Where a pattern matches, the first s bytes left out. -/
def hits (p : List UInt8) : Nat → Nat → List UInt8 → List Nat
  | _, _, [] => []
  | i, s + 1, _ :: t => hits p (i + 1) s t
  | i, 0, b :: t => if p.isPrefixOf (b :: t) then i :: hits p (i + 1) (p.length - 1) t else hits p (i + 1) 0 t
theorem hits_skip (p : List UInt8) : ∀ (s i : Nat) (t : List UInt8), hits p i s t = hits p (i + s) 0 (t.drop s)
  | 0, i, t => by simp
  | s + 1, i, [] => by simp [hits]
  | s + 1, i, b :: t => by rw [hits, hits_skip p s (i + 1) t, List.drop_succ_cons]; congr 1; omega
theorem hits_yes {p : List UInt8} {t : List UInt8} {i : Nat} (hp : p ≠ []) (h : p.isPrefixOf t = true) : hits p i 0 t = i :: hits p (i + p.length) 0 (t.drop p.length) := by
  have hpl := List.length_pos_iff.2 hp
  cases t with
  | nil =>
    cases p with
    | nil => exact absurd rfl hp
    | cons => cases h
  | cons b t =>
    rw [hits, if_pos h, hits_skip, show i + 1 + (p.length - 1) = i + p.length by omega]
    obtain ⟨n, hn⟩ : ∃ n, p.length = n + 1 := ⟨p.length - 1, by omega⟩
    rw [hn, Nat.add_sub_cancel, List.drop_succ_cons]
theorem hits_no {p : List UInt8} {b : UInt8} {t : List UInt8} {i : Nat} (h : p.isPrefixOf (b :: t) = false) : hits p i 0 (b :: t) = hits p (i + 1) 0 t := by
  rw [hits, if_neg (by rw [h]; exact Bool.false_ne_true)]
theorem hits_short {p : List UInt8} : ∀ {t : List UInt8} {i : Nat}, t.length < p.length → hits p i 0 t = []
  | [], _, _ => rfl
  | b :: t, i, h => by
    rw [hits_no, hits_short (by simp at h; omega)]
    cases hb : p.isPrefixOf (b :: t) with
    | false => rfl
    | true =>
      have := (List.isPrefixOf_iff_prefix.1 hb).length_le
      simp at this h
      omega
/-- By the first instance's place. -/
theorem hits_none {p : List UInt8} : ∀ {t : List UInt8} {i : Nat}, p ≠ [] → Lib.index t p = -1 → hits p i 0 t = []
  | [], _, _, _ => rfl
  | b :: t, i, hp, h => by
    unfold Lib.index at h
    split at h
    · exact absurd h (by decide)
    · rename_i hb
      rw [hits_no ((Bool.not_eq_true _).mp hb)]
      split at h
      · rename_i h2
        exact hits_none hp (by simpa using h2)
      · rename_i h2
        have := Lib.index_ge t p
        have h2 : Lib.index t p ≠ -1 := by simpa using h2
        omega
theorem hits_at {p : List UInt8} : ∀ {t : List UInt8} {i : Nat} {n : Nat}, p ≠ [] → Lib.index t p = n → n + p.length ≤ t.length ∧ hits p i 0 t = (i + n) :: hits p (i + n + p.length) 0 (t.drop (n + p.length))
  | [], i, n, hp, h => by
    unfold Lib.index at h
    split at h
    · rename_i he
      exact absurd (List.isEmpty_iff.1 he) hp
    · omega
  | b :: t, i, n, hp, h => by
    unfold Lib.index at h
    split at h
    · rename_i hb
      have : n = 0 := by omega
      subst this
      have hl := (List.isPrefixOf_iff_prefix.1 hb).length_le
      refine ⟨by omega, ?_⟩
      rw [hits_yes hp hb, Nat.zero_add]
      rfl
    · rename_i hb
      split at h
      · omega
      · rename_i h2
        have h2 : Lib.index t p ≠ -1 := by simpa using h2
        have h3 := Lib.index_ge t p
        obtain ⟨m, rfl⟩ : ∃ m, n = m + 1 := ⟨n - 1, by omega⟩
        obtain ⟨k1, k2⟩ := hits_at (t := t) (i := i + 1) (n := m) hp (by omega)
        refine ⟨by rw [List.length_cons]; omega, ?_⟩
        rw [hits_no ((Bool.not_eq_true _).mp hb), k2, show m + 1 + p.length = (m + p.length) + 1 by omega, List.drop_succ_cons]
        congr 1
        · omega
        · congr 1; omega
/-- All places are within the text. -/
theorem hits_in {p : List UInt8} (hp : p ≠ []) : ∀ {t : List UInt8} {i s n : Nat}, n ∈ hits p i s t → i ≤ n ∧ n + p.length ≤ i + t.length
  | [], _, _, _, h => by simp [hits] at h
  | b :: t, i, s + 1, n, h => by
    have := hits_in hp (t := t) h
    rw [List.length_cons]; omega
  | b :: t, i, 0, n, h => by
    rw [hits] at h
    split at h
    · rename_i hb
      have hl := (List.isPrefixOf_iff_prefix.1 hb).length_le
      rcases List.mem_cons.1 h with rfl | h
      · exact ⟨Nat.le_refl _, by omega⟩
      · have := hits_in hp (t := t) h
        rw [List.length_cons]; omega
    · have := hits_in hp (t := t) h
      rw [List.length_cons]; omega
theorem hits_len {p : List UInt8} : ∀ {t : List UInt8} {i s : Nat}, (hits p i s t).length ≤ t.length
  | [], _, _ => by simp [hits]
  | b :: t, i, s + 1 => by have := hits_len (p := p) (t := t) (i := i + 1) (s := s); rw [hits, List.length_cons]; omega
  | b :: t, i, 0 => by
    rw [hits]
    split
    · have := hits_len (p := p) (t := t) (i := i + 1) (s := p.length - 1); rw [List.length_cons, List.length_cons]; omega
    · have := hits_len (p := p) (t := t) (i := i + 1) (s := 0); rw [List.length_cons]; omega

/-- A match: the places of its first and its last cell. -/
structure Mt where
  (l0 c0 l1 c1 : Int)
  deriving DecidableEq
def mtOf (seg : List Bp) (m n : Nat) : Mt := ⟨(seg.getD n default).line, (seg.getD n default).col, (seg.getD (n + m - 1) default).line, (seg.getD (n + m - 1) default).col⟩
def lowB (fold : Bool) (seg : List Bp) : List UInt8 := seg.map fun x => low fold x.b
def matchS (p : List UInt8) (fold : Bool) (seg : List Bp) : List Mt := (hits p 0 0 (lowB fold seg)).map (mtOf seg p.length)
/-- All matches. -/
def allM (ls : List Ln) (first : Int) (p : List UInt8) (fold : Bool) : List Mt := (segs first [] ls).flatMap (matchS (p.map (low fold)) fold)
end Go.Proofs.YthcndmchlpohpaaGreatDoor

namespace Go.Proofs.YthcndmchlpohpaaGreatDoor
set_option linter.unusedVariables false
set_option linter.unusedSimpArgs false
open Go

/-- The texts' cells stand one behind the other. -/
def bpLe (a b : Bp) : Prop := a.line < b.line ∨ (a.line = b.line ∧ a.col ≤ b.col)
theorem cellsB_mem {n : Int} : ∀ {k : Nat} {cs : List Cell} {x : Bp}, x ∈ cellsB n k cs → x.line = n ∧ (k : Int) ≤ x.col ∧ x.col < k + cs.length
  | _, [], _, h => by simp [cellsB] at h
  | k, c :: cs, x, h => by
    rw [cellsB, List.mem_append] at h
    rcases h with h | h
    · obtain ⟨b, _, rfl⟩ := List.mem_map.1 h
      refine ⟨rfl, Int.le_refl _, ?_⟩
      show (k : Int) < _
      rw [List.length_cons]; push_cast; omega
    · obtain ⟨h1, h2, h3⟩ := cellsB_mem h
      refine ⟨h1, by push_cast at h2; omega, ?_⟩
      rw [List.length_cons]; push_cast at h3 ⊢; omega
theorem cellsB_sorted {n : Int} : ∀ {k : Nat} {cs : List Cell}, (cellsB n k cs).Pairwise bpLe
  | _, [] => by simp [cellsB]
  | k, c :: cs => by
    rw [cellsB, List.pairwise_append]
    refine ⟨?_, cellsB_sorted, ?_⟩
    · rw [cellB, List.pairwise_map]
      exact List.pairwise_of_forall (fun _ _ => .inr ⟨rfl, Int.le_refl _⟩)
    · intro a ha b hb
      obtain ⟨x, _, rfl⟩ := List.mem_map.1 ha
      obtain ⟨h1, h2, _⟩ := cellsB_mem hb
      exact .inr ⟨h1.symm, by push_cast at h2; show (k : Int) ≤ _; omega⟩
theorem rowB_mem {n : Int} {last : Bool} {x : Ln} {y : Bp} (h : y ∈ rowB n last x) : y.line = n ∧ 0 ≤ y.col ∧ y.col < x.cells.length := by
  obtain ⟨h1, h2, h3⟩ := cellsB_mem h
  have := x.part_len last
  exact ⟨h1, by omega, by omega⟩
theorem segs_mem : ∀ {ls : List Ln} {n : Int} {acc : List Bp} {s : List Bp} {y : Bp}, s ∈ segs n acc ls → y ∈ s → y ∈ acc ∨ (n ≤ y.line ∧ y.line < n + ls.length ∧ 0 ≤ y.col ∧ ∃ x ∈ ls, y.col < x.cells.length)
  | [], _, _, _, _, h, _ => by simp [segs] at h
  | x :: xs, n, acc, s, y, h, hy => by
    have hrow : ∀ last, y ∈ rowB n last x → n ≤ y.line ∧ y.line < n + (x :: xs).length ∧ 0 ≤ y.col ∧ ∃ z ∈ x :: xs, y.col < z.cells.length := fun last hh => by
      obtain ⟨h1, h2, h3⟩ := rowB_mem hh
      refine ⟨by omega, by rw [List.length_cons]; push_cast; omega, h2, x, List.mem_cons_self, h3⟩
    have hlift : (n + 1 ≤ y.line ∧ y.line < n + 1 + xs.length ∧ 0 ≤ y.col ∧ ∃ z ∈ xs, y.col < z.cells.length) → (n ≤ y.line ∧ y.line < n + (x :: xs).length ∧ 0 ≤ y.col ∧ ∃ z ∈ x :: xs, y.col < z.cells.length) := by
      rintro ⟨h1, h2, h3, z, hz, h4⟩
      refine ⟨by omega, by rw [List.length_cons]; push_cast; omega, h3, z, List.mem_cons_of_mem _ hz, h4⟩
    unfold segs at h
    split at h
    · rcases segs_mem h hy with h1 | h1
      · rcases List.mem_append.1 h1 with h2 | h2
        · exact .inl h2
        · exact .inr (hrow _ h2)
      · exact .inr (hlift h1)
    · rcases List.mem_cons.1 h with rfl | h
      · rcases List.mem_append.1 hy with h2 | h2
        · exact .inl h2
        · exact .inr (hrow _ h2)
      · rcases segs_mem h hy with h1 | h1
        · cases h1
        · exact .inr (hlift h1)
theorem segs_sorted : ∀ {ls : List Ln} {n : Int} {acc : List Bp}, acc.Pairwise bpLe → (∀ y ∈ acc, y.line < n) → (segs n acc ls).flatten.Pairwise bpLe
  | [], _, _, _, _ => by simp [segs]
  | x :: xs, n, acc, h1, h2 => by
    have hrow : ∀ last, (acc ++ rowB n last x).Pairwise bpLe := fun last => by
      rw [List.pairwise_append]
      exact ⟨h1, cellsB_sorted, fun a ha b hb => .inl (by have := h2 a ha; have := (rowB_mem hb).1; omega)⟩
    have hlt : ∀ last, ∀ y ∈ acc ++ rowB n last x, y.line < n + 1 := fun last y hy => by
      rcases List.mem_append.1 hy with h | h
      · have := h2 y h; omega
      · have := (rowB_mem h).1; omega
    unfold segs
    split
    · exact segs_sorted (hrow _) (hlt _)
    · rw [List.flatten_cons, List.pairwise_append]
      refine ⟨hrow _, segs_sorted List.Pairwise.nil (fun y hy => by cases hy), fun a ha b hb => ?_⟩
      obtain ⟨s, hs, hb⟩ := List.mem_flatten.1 hb
      have h3 := hlt _ a ha
      rcases segs_mem hs hb with h4 | h4
      · cases h4
      · exact .inl (by omega)
theorem hits_sorted {p : List UInt8} (hp : p ≠ []) : ∀ {t : List UInt8} {i s : Nat}, (hits p i s t).Pairwise (· < ·)
  | [], _, _ => by simp [hits]
  | b :: t, i, s + 1 => by rw [hits]; exact hits_sorted hp
  | b :: t, i, 0 => by
    rw [hits]
    split
    · rw [List.pairwise_cons]
      exact ⟨fun n hn => by have := (hits_in hp hn).1; omega, hits_sorted hp⟩
    · exact hits_sorted hp
/-- The order of matches. -/
def mtLe (a b : Mt) : Prop := (a.l0 < b.l0 ∨ (a.l0 = b.l0 ∧ a.c0 ≤ b.c0)) ∧ (a.l1 < b.l1 ∨ (a.l1 = b.l1 ∧ a.c1 ≤ b.c1))
theorem getD_le {s : List Bp} (h : s.Pairwise bpLe) {i j : Nat} (hij : i < j) (hj : j < s.length) : bpLe (s.getD i default) (s.getD j default) := by
  rw [List.getD_eq_getElem?_getD, List.getD_eq_getElem?_getD, List.getElem?_eq_getElem (by omega), List.getElem?_eq_getElem hj]
  exact List.pairwise_iff_getElem.1 h i j (by omega) hj hij
theorem getD_mem {s : List Bp} {i : Nat} (h : i < s.length) : s.getD i default ∈ s := by
  rw [List.getD_eq_getElem?_getD, List.getElem?_eq_getElem h]
  exact List.getElem_mem h
theorem lowB_len (fold : Bool) (s : List Bp) : (lowB fold s).length = s.length := by unfold lowB; rw [List.length_map]
/-- A match's cells are of the text. -/
theorem matchS_mem {p : List UInt8} (hp : p ≠ []) {fold : Bool} {s : List Bp} {m : Mt} (h : m ∈ matchS p fold s) : ∃ x ∈ s, ∃ y ∈ s, m = ⟨x.line, x.col, y.line, y.col⟩ := by
  obtain ⟨n, hn, rfl⟩ := List.mem_map.1 h
  have h1 := (hits_in hp hn).2
  rw [lowB_len] at h1
  have hpl := List.length_pos_iff.2 hp
  exact ⟨_, getD_mem (i := n) (by omega), _, getD_mem (i := n + p.length - 1) (by omega), rfl⟩
theorem matchS_sorted {p : List UInt8} (hp : p ≠ []) {fold : Bool} {s : List Bp} (h : s.Pairwise bpLe) : (matchS p fold s).Pairwise mtLe := by
  unfold matchS
  rw [List.pairwise_map]
  have hs := hits_sorted hp (t := lowB fold s) (i := 0) (s := 0)
  refine List.Pairwise.imp_of_mem ?_ hs
  intro a b ha hb hab
  have h2 := (hits_in hp hb).2
  rw [lowB_len] at h2
  have hpl := List.length_pos_iff.2 hp
  exact ⟨getD_le h hab (by omega), getD_le h (show a + p.length - 1 < b + p.length - 1 by omega) (by omega)⟩
theorem allM_sorted (ls : List Ln) (first : Int) {p : List UInt8} (hp : p ≠ []) (fold : Bool) : (allM ls first p fold).Pairwise mtLe := by
  have hp' : p.map (low fold) ≠ [] := by simpa using hp
  have hs := segs_sorted (ls := ls) (n := first) (acc := []) List.Pairwise.nil (fun y hy => by cases hy)
  rw [List.pairwise_flatten] at hs
  unfold allM
  rw [List.pairwise_flatMap]
  refine ⟨fun s hm => matchS_sorted hp' (hs.1 s hm), hs.2.imp ?_⟩
  intro a b hab x hx y hy
  obtain ⟨x0, hx0, x1, hx1, rfl⟩ := matchS_mem hp' hx
  obtain ⟨y0, hy0, y1, hy1, rfl⟩ := matchS_mem hp' hy
  exact ⟨hab x0 hx0 y0 hy0, hab x1 hx1 y1 hy1⟩
/-- A match's cells are in the rows. -/
theorem allM_in {ls : List Ln} {first : Int} {p : List UInt8} (hp : p ≠ []) {fold : Bool} {k : Nat} (hk : ∀ x ∈ ls, x.cells.length = k) {m : Mt} (h : m ∈ allM ls first p fold) :
    first ≤ m.l0 ∧ m.l0 < first + ls.length ∧ 0 ≤ m.c0 ∧ m.c0 < k ∧ first ≤ m.l1 ∧ m.l1 < first + ls.length ∧ 0 ≤ m.c1 ∧ m.c1 < k := by
  have hp' : p.map (low fold) ≠ [] := by simpa using hp
  obtain ⟨s, hs, hm⟩ := List.mem_flatMap.1 h
  obtain ⟨x, hx, y, hy, rfl⟩ := matchS_mem hp' hm
  rcases segs_mem hs hx with h1 | ⟨a1, a2, a3, z, hz, a4⟩
  · cases h1
  rcases segs_mem hs hy with h1 | ⟨b1, b2, b3, z', hz', b4⟩
  · cases h1
  rw [hk z hz] at a4
  rw [hk z' hz'] at b4
  exact ⟨a1, a2, a3, a4, b1, b2, b3, b4⟩

/-- How many matches there are goes by the texts' bytes alone. -/
theorem allM_len (ls : List Ln) (first : Int) (p : List UInt8) (fold : Bool) : (allM ls first p fold).length = (((segs first [] ls).map (lowB fold)).map fun t => (hits (p.map (low fold)) 0 0 t).length).sum := by
  unfold allM
  rw [List.length_flatMap, List.map_map]
  congr 1
  refine List.map_congr_left fun s _ => ?_
  simp [matchS]
theorem segs_total {m : Nat} : ∀ {ls : List Ln} {n : Int} {acc : List Bp}, (∀ x ∈ ls, x.cells.length ≤ m) → ((segs n acc ls).map List.length).sum ≤ acc.length + ls.length * (m * 16)
  | [], _, _, _ => by simp [segs]
  | x :: xs, n, acc, h => by
    have h0 : ∀ last, (rowB n last x).length ≤ m * 16 := fun last => Nat.le_trans (rowB_len n last x) (Nat.mul_le_mul_right _ (h x List.mem_cons_self))
    have hx : ∀ y ∈ xs, y.cells.length ≤ m := fun y hy => h y (List.mem_cons_of_mem _ hy)
    unfold segs
    rw [List.length_cons, Nat.add_mul, Nat.one_mul]
    split
    · have ih := segs_total (ls := xs) (n := n + 1) (acc := acc ++ rowB n false x) hx
      have := h0 false
      rw [List.length_append] at ih
      omega
    · have ih := segs_total (ls := xs) (n := n + 1) (acc := []) hx
      have := h0 true
      rw [List.map_cons, List.sum_cons, List.length_append]
      rw [List.length_nil] at ih
      omega
theorem sum_le {α : Type} {f g : α → Nat} : ∀ {l : List α}, (∀ x ∈ l, f x ≤ g x) → (l.map f).sum ≤ (l.map g).sum
  | [], _ => by simp
  | x :: l, h => by
    have h1 := h x List.mem_cons_self
    have h2 := sum_le (l := l) (f := f) (g := g) (fun y hy => h y (List.mem_cons_of_mem _ hy))
    simp only [List.map_cons, List.sum_cons]
    omega
theorem allM_few {ls : List Ln} {m : Nat} (h : ∀ x ∈ ls, x.cells.length ≤ m) (first : Int) (p : List UInt8) (fold : Bool) : (allM ls first p fold).length ≤ ls.length * (m * 16) := by
  have h1 := segs_total (n := first) (acc := []) h
  rw [allM_len, List.map_map]
  have h2 := sum_le (l := segs first [] ls) (f := (fun t => (hits (p.map (low fold)) 0 0 t).length) ∘ lowB fold) (g := List.length) (fun s _ => by
    have := hits_len (p := p.map (low fold)) (t := lowB fold s) (i := 0) (s := 0)
    rw [lowB_len] at this
    exact this)
  rw [List.length_nil, Nat.zero_add] at h1
  exact Nat.le_trans h2 h1

/-- Whether there is a match at all. -/
theorem hits_ne {p : List UInt8} : ∀ {t : List UInt8} {i : Nat}, p ≠ [] → (hits p i 0 t ≠ [] ↔ ∃ j, j < t.length ∧ p.isPrefixOf (t.drop j) = true)
  | [], i, hp => by simp [hits]
  | b :: t, i, hp => by
    cases hb : p.isPrefixOf (b :: t) with
    | true =>
      rw [hits_yes hp hb]
      simp only [ne_eq, reduceCtorEq, not_false_eq_true, true_iff]
      exact ⟨0, by simp, by simpa using hb⟩
    | false =>
      rw [hits_no hb, hits_ne hp]
      constructor
      · rintro ⟨j, hj, h⟩
        exact ⟨j + 1, by rw [List.length_cons]; omega, by simpa using h⟩
      · rintro ⟨j, hj, h⟩
        cases j with
        | zero => rw [List.drop_zero, hb] at h; cases h
        | succ j => exact ⟨j, by rw [List.length_cons] at hj; omega, by simpa using h⟩
theorem low_false (b : UInt8) : low false b = b := by simp [low]
theorem lowB_false (s : List Bp) : lowB false s = s.map Bp.b := by unfold lowB; exact List.map_congr_left fun x _ => low_false x.b
theorem map_low_false (p : List UInt8) : p.map (low false) = p := by
  conv => rhs; rw [← List.map_id p]
  exact List.map_congr_left fun x _ => low_false x
theorem allM_fold {ls : List Ln} {first : Int} {p : List UInt8} (hp : p ≠ []) (h : allM ls first p false ≠ []) : allM ls first p true ≠ [] := by
  obtain ⟨m, hm⟩ := List.exists_mem_of_ne_nil _ h
  obtain ⟨s, hs, hm⟩ := List.mem_flatMap.1 hm
  have hp' : p.map (low true) ≠ [] := by simpa using hp
  rw [map_low_false] at hm
  have h1 : hits p 0 0 (lowB false s) ≠ [] := by
    intro e
    unfold matchS at hm
    rw [e] at hm
    cases hm
  obtain ⟨j, hj, hpre⟩ := (hits_ne hp).1 h1
  have h2 : hits (p.map (low true)) 0 0 (lowB true s) ≠ [] := by
    refine (hits_ne hp').2 ⟨j, by rw [lowB_len] at hj ⊢; exact hj, ?_⟩
    rw [List.isPrefixOf_iff_prefix] at hpre ⊢
    obtain ⟨r, hr⟩ := hpre
    refine ⟨r.map (low true), ?_⟩
    have e : lowB true s = (lowB false s).map (low true) := by
      rw [lowB_false, List.map_map]
      rfl
    rw [e, ← List.map_drop, ← hr, List.map_append]
  obtain ⟨n, hn⟩ := List.exists_mem_of_ne_nil _ h2
  intro e
  have : mtOf s (p.map (low true)).length n ∈ allM ls first p true := List.mem_flatMap.2 ⟨s, hs, List.mem_map.2 ⟨n, hn, rfl⟩⟩
  rw [e] at this
  cases this

/-- A match behind a place, or before it. -/
def Mt.beh (m : Mt) (l c : Int) : Bool := decide (l < m.l0) || (l == m.l0 && decide (c < m.c0))
def Mt.ahe (m : Mt) (l c : Int) : Bool := decide (m.l0 < l) || (m.l0 == l && decide (m.c0 < c))
def nextD (d : Mt) (l c : Int) : List Mt → Mt
  | [] => d
  | m :: ms => if m.beh l c then m else nextD d l c ms
def prevD (l c : Int) : Mt → List Mt → Mt
  | d, [] => d
  | d, m :: ms => prevD l c (if m.ahe l c then m else d) ms
theorem prevD_append (l c : Int) : ∀ (d : Mt) (xs ys : List Mt), prevD l c d (xs ++ ys) = prevD l c (prevD l c d xs) ys
  | d, [], ys => rfl
  | d, x :: xs, ys => by rw [List.cons_append, prevD, prevD, prevD_append]
theorem nextD_none {d : Mt} {l c : Int} : ∀ {ms : List Mt}, (∀ m ∈ ms, m.beh l c = false) → nextD d l c ms = d
  | [], _ => rfl
  | m :: ms, h => by rw [nextD, if_neg (by rw [h m List.mem_cons_self]; exact Bool.false_ne_true), nextD_none (fun x hx => h x (List.mem_cons_of_mem _ hx))]
theorem nextD_at {d : Mt} {l c : Int} : ∀ {ms : List Mt} {k : Nat} {x : Mt}, ms[k]? = some x → x.beh l c = true → (∀ j y, j < k → ms[j]? = some y → y.beh l c = false) → nextD d l c ms = x
  | [], _, _, h, _, _ => by cases h
  | m :: ms, 0, x, h, hx, _ => by
    have : m = x := by simpa using h
    subst this
    rw [nextD, if_pos hx]
  | m :: ms, k + 1, x, h, hx, hn => by
    rw [nextD, if_neg (by rw [hn 0 m (by omega) rfl]; exact Bool.false_ne_true)]
    exact nextD_at (k := k) (by simpa using h) hx (fun j y hj hy => hn (j + 1) y (by omega) (by simpa using hy))
/-- From one match on, the next one. -/
theorem next_leads {ms : List Mt} (hs : ms.Pairwise mtLe) {i : Nat} {x y : Mt} (hx : ms[i]? = some x) (hy : ms[(i + 1) % ms.length]? = some y)
    (hc : ms.length < 2 ∨ y.beh x.l0 x.c0 = true ∨ ((i + 1) % ms.length = 0 ∧ ∃ z, ms[0]? = some z ∧ x.beh z.l0 z.c0 = true)) (d : Mt) (hd : ms.head? = some d) : nextD d x.l0 x.c0 ms = y := by
  have hi := (List.getElem?_eq_some_iff.1 hx).1
  have hle : ∀ j z, j ≤ i → ms[j]? = some z → z.beh x.l0 x.c0 = false := by
    intro j z hj hz
    have : ¬ (x.l0 < z.l0 ∨ (x.l0 = z.l0 ∧ x.c0 < z.c0)) := by
      rcases Nat.lt_or_eq_of_le hj with h | rfl
      · have hjl := (List.getElem?_eq_some_iff.1 hz).1
        have h1 := List.pairwise_iff_getElem.1 hs j i hjl hi h
        rw [(List.getElem?_eq_some_iff.1 hz).2, (List.getElem?_eq_some_iff.1 hx).2] at h1
        have := h1.1
        omega
      · have : z = x := by rw [hx] at hz; exact (Option.some.inj hz).symm
        subst this; omega
    unfold Mt.beh
    rw [Bool.or_eq_false_iff, Bool.and_eq_false_iff]
    refine ⟨decide_eq_false (by omega), ?_⟩
    by_cases h : x.l0 = z.l0
    · exact .inr (decide_eq_false (by omega))
    · exact .inl (by simpa using h)
  rcases Nat.lt_or_ge (i + 1) ms.length with hlt | hge
  · rw [Nat.mod_eq_of_lt hlt] at hy hc
    have hb : y.beh x.l0 x.c0 = true := by
      rcases hc with h | h | ⟨h, _⟩
      · omega
      · exact h
      · omega
    exact nextD_at hy hb (fun j z hj hz => hle j z (by omega) hz)
  · have he : i + 1 = ms.length := by omega
    rw [he, Nat.mod_self] at hy
    have : y = d := by
      cases ms with
      | nil => simp at hi
      | cons a rr =>
        have h1 : a = y := by simpa using hy
        have h2 : a = d := by simpa using hd
        rw [← h1, h2]
    subst this
    refine nextD_none (fun m hm => ?_)
    obtain ⟨j, hj⟩ := List.mem_iff_getElem?.1 hm
    exact hle j m (by have := (List.getElem?_eq_some_iff.1 hj).1; omega) hj
end Go.Proofs.YthcndmchlpohpaaGreatDoor

namespace Go.Proofs.YthcndmchlpohpaaGreatDoor
set_option linter.unusedVariables false
set_option linter.unusedSimpArgs false
open Go

def txts (cs : List Cell) : List UInt8 := cs.flatMap Cell.txt
theorem txts_append (xs ys : List Cell) : txts (xs ++ ys) = txts xs ++ txts ys := by simp [txts]
theorem cellsB_txts (n : Int) : ∀ (k : Nat) (cs : List Cell), (cellsB n k cs).map Bp.b = txts cs
  | _, [] => rfl
  | k, c :: cs => by
    rw [cellsB, List.map_append, cellsB_txts n (k + 1) cs, cellB, List.map_map]
    show c.txt.map (fun b => b) ++ _ = _
    rw [List.map_id']
    rfl
/-- The cells of all logical lines. -/
def segsC (acc : List Cell) : List Ln → List (List Cell)
  | [] => []
  | x :: xs => if x.soft && !xs.isEmpty then segsC (acc ++ x.cells) xs else (acc ++ x.part true) :: segsC [] xs
theorem segs_txts : ∀ {ls : List Ln} {n : Int} {acc : List Bp} {accC : List Cell}, acc.map Bp.b = txts accC → (segs n acc ls).map (fun s => s.map Bp.b) = (segsC accC ls).map txts
  | [], _, _, _, _ => rfl
  | x :: xs, n, acc, accC, h => by
    unfold segs segsC
    split
    · exact segs_txts (by rw [List.map_append, h, rowB, cellsB_txts, txts_append]; rfl)
    · rw [List.map_cons, List.map_cons, segs_txts (accC := []) rfl, List.map_append, h, rowB, cellsB_txts, txts_append]
theorem allM_byC (ls : List Ln) (first : Int) (p : List UInt8) : (allM ls first p false).length = (((segsC [] ls).map txts).map fun t => (hits p 0 0 t).length).sum := by
  rw [allM_len, map_low_false, ← segs_txts (n := first) (acc := []) rfl, show lowB false = (fun s => s.map Bp.b) from funext lowB_false]

/-- A row of cells in rows of 'c' cells each. -/
def wrapRows (c : Nat) : Nat → List Cell → List Ln
  | 0, _ => []
  | f + 1, cs => if cs.length ≤ c then [⟨cs ++ List.replicate (c - cs.length) blankC, false⟩] else ⟨cs.take c, true⟩ :: wrapRows c f (cs.drop c)
def endsFull (cs : List Cell) : Prop := cs = [] ∨ cs.getLast? ≠ some blankC
theorem usedTo_blanks (cs : List Cell) : ∀ k, usedTo (cs ++ List.replicate k blankC) (cs.length + k) = usedTo (cs ++ List.replicate k blankC) cs.length
  | 0 => rfl
  | k + 1 => by
    have key : ∀ j, j ≤ k + 1 → usedTo (cs ++ List.replicate (k + 1) blankC) (cs.length + j) = usedTo (cs ++ List.replicate (k + 1) blankC) cs.length := by
      intro j
      induction j with
      | zero => intro _; rfl
      | succ j ih =>
        intro hj
        rw [← Nat.add_assoc, usedTo_blank, ih (by omega)]
        rw [List.getElem?_append_right (by omega), List.getElem?_replicate, if_pos (by omega)]
    exact key (k + 1) (Nat.le_refl _)
theorem usedN_pad {cs : List Cell} (h : endsFull cs) (k : Nat) : usedN (cs ++ List.replicate k blankC) = cs.length := by
  unfold usedN
  rw [List.length_append, List.length_replicate, usedTo_blanks]
  rcases h with rfl | h
  · rfl
  · cases hn : cs.length with
    | zero => rfl
    | succ n =>
      refine usedTo_not ?_
      rw [List.getElem?_append_left (by omega)]
      rw [List.getLast?_eq_getElem?, hn, Nat.add_sub_cancel] at h
      exact h
theorem wrapRows_ne (c f : Nat) (cs : List Cell) : wrapRows c (f + 1) cs ≠ [] := by
  unfold wrapRows
  split <;> simp
theorem segsC_wrap {c : Nat} (hc : 1 ≤ c) : ∀ {f : Nat} {cs acc : List Cell} {rest : List Ln}, cs.length < f → endsFull cs → segsC acc (wrapRows c f cs ++ rest) = (acc ++ cs) :: segsC [] rest
  | 0, cs, _, _, h, _ => by omega
  | f + 1, cs, acc, rest, hf, he => by
    unfold wrapRows
    split
    · rename_i hl
      rw [List.singleton_append, segsC, if_neg (by simp)]
      unfold Ln.part
      rw [if_pos rfl]
      show (acc ++ (cs ++ List.replicate (c - cs.length) blankC).take (usedN (cs ++ List.replicate (c - cs.length) blankC))) :: _ = _
      rw [usedN_pad he, List.take_left]
    · rename_i hl
      have hd : (cs.drop c).length < f := by rw [List.length_drop]; omega
      obtain ⟨f', rfl⟩ : ∃ f', f = f' + 1 := ⟨f - 1, by omega⟩
      have hne := wrapRows_ne c f' (cs.drop c)
      rw [List.cons_append, segsC, if_pos (by
        simp only [Bool.true_and, Bool.not_eq_true', List.isEmpty_eq_false_iff]
        intro e
        exact hne (List.append_eq_nil_iff.1 e).1), segsC_wrap hc hd (by
        rcases he with rfl | he
        · simp at hl
        · refine .inr ?_
          rw [List.getLast?_drop, if_neg (by omega)]
          exact he)]
      show (acc ++ cs.take c ++ cs.drop c) :: _ = _
      rw [List.append_assoc, List.take_append_drop]
theorem segsC_wraps {c : Nat} (hc : 1 ≤ c) : ∀ {L : List (List Cell)}, (∀ cs ∈ L, endsFull cs) → segsC [] (L.flatMap fun cs => wrapRows c (cs.length + 1) cs) = L
  | [], _ => rfl
  | cs :: L, h => by
    rw [List.flatMap_cons, segsC_wrap hc (by omega) (h cs List.mem_cons_self), segsC_wraps hc (fun x hx => h x (List.mem_cons_of_mem _ hx)), List.nil_append]
/-- Wrapped elsewhere, there are as many matches. -/
theorem wrap_count {c : Nat} (hc : 1 ≤ c) (ls : List Ln) (first : Int) (p : List UInt8) (h : ∀ cs ∈ segsC [] ls, endsFull cs) :
    (allM ((segsC [] ls).flatMap fun cs => wrapRows c (cs.length + 1) cs) 0 p false).length = (allM ls first p false).length := by
  rw [allM_byC, allM_byC, segsC_wraps hc h]
theorem wrapRows_mem {c : Nat} : ∀ {f : Nat} {cs : List Cell} {x : Ln}, x ∈ wrapRows c f cs → x.cells.length = c ∧ ∀ d ∈ x.cells, d ∈ cs ∨ d = blankC
  | 0, _, _, h => by simp [wrapRows] at h
  | f + 1, cs, x, h => by
    unfold wrapRows at h
    split at h
    · rw [List.mem_singleton] at h
      subst h
      refine ⟨by simp; omega, fun d hd => ?_⟩
      rcases List.mem_append.1 hd with hd | hd
      · exact .inl hd
      · exact .inr (List.mem_replicate.1 hd).2
    · rename_i hl
      rcases List.mem_cons.1 h with rfl | h
      · exact ⟨by rw [List.length_take]; omega, fun d hd => .inl (List.mem_of_mem_take hd)⟩
      · obtain ⟨h1, h2⟩ := wrapRows_mem h
        exact ⟨h1, fun d hd => (h2 d hd).imp (fun h => List.mem_of_mem_drop h) id⟩
theorem wrapRows_len {c : Nat} (hc : 1 ≤ c) : ∀ {f : Nat} {cs : List Cell}, (wrapRows c f cs).length ≤ cs.length + 1
  | 0, _ => by simp [wrapRows]
  | f + 1, cs => by
    unfold wrapRows
    split
    · simp
    · have := wrapRows_len hc (f := f) (cs := cs.drop c)
      rw [List.length_drop] at this
      rw [List.length_cons]
      omega
theorem segsC_mem : ∀ {ls : List Ln} {acc cs : List Cell} {d : Cell}, cs ∈ segsC acc ls → d ∈ cs → d ∈ acc ∨ ∃ x ∈ ls, d ∈ x.cells
  | [], _, _, _, h, _ => by simp [segsC] at h
  | x :: xs, acc, cs, d, h, hd => by
    have hpart : ∀ last, d ∈ x.part last → ∃ z ∈ x :: xs, d ∈ z.cells := fun last hh => by
      refine ⟨x, List.mem_cons_self, ?_⟩
      unfold Ln.part at hh
      split at hh
      · exact List.mem_of_mem_take hh
      · exact hh
    have hl : (∃ z ∈ xs, d ∈ z.cells) → ∃ z ∈ x :: xs, d ∈ z.cells := fun ⟨z, hz, h⟩ => ⟨z, List.mem_cons_of_mem _ hz, h⟩
    unfold segsC at h
    split at h
    · rcases segsC_mem h hd with h1 | h1
      · rcases List.mem_append.1 h1 with h2 | h2
        · exact .inl h2
        · exact .inr ⟨x, List.mem_cons_self, h2⟩
      · exact .inr (hl h1)
    · rcases List.mem_cons.1 h with rfl | h
      · rcases List.mem_append.1 hd with h2 | h2
        · exact .inl h2
        · exact .inr (hpart _ h2)
      · rcases segsC_mem h hd with h1 | h1
        · cases h1
        · exact .inr (hl h1)
theorem segsC_total {m : Nat} : ∀ {ls : List Ln} {acc : List Cell}, (∀ x ∈ ls, x.cells.length ≤ m) → ((segsC acc ls).map fun cs => cs.length + 1).sum ≤ acc.length + ls.length * (m + 1)
  | [], _, _ => by simp [segsC]
  | x :: xs, acc, h => by
    have h1 := h x List.mem_cons_self
    have h2 := x.part_len true
    have hx : ∀ y ∈ xs, y.cells.length ≤ m := fun y hy => h y (List.mem_cons_of_mem _ hy)
    unfold segsC
    rw [List.length_cons, Nat.add_mul, Nat.one_mul]
    split
    · have ih := segsC_total (ls := xs) (acc := acc ++ x.cells) hx
      rw [List.length_append] at ih
      omega
    · have ih := segsC_total (ls := xs) (acc := []) hx
      rw [List.map_cons, List.sum_cons, List.length_append]
      rw [List.length_nil] at ih
      omega
theorem wraps_len {c m : Nat} (hc : 1 ≤ c) {ls : List Ln} (h : ∀ x ∈ ls, x.cells.length ≤ m) : ((segsC [] ls).flatMap fun cs => wrapRows c (cs.length + 1) cs).length ≤ ls.length * (m + 1) := by
  rw [List.length_flatMap]
  have h1 := sum_le (l := segsC [] ls) (f := fun cs => (wrapRows c (cs.length + 1) cs).length) (g := fun cs => cs.length + 1) (fun cs _ => wrapRows_len hc)
  have h2 := segsC_total (acc := []) h
  rw [List.length_nil, Nat.zero_add] at h2
  exact Nat.le_trans h1 h2

/-- Rows of one letter. -/
theorem isPrefix_rep {b : UInt8} {m n : Nat} : (List.replicate m b).isPrefixOf (List.replicate n b) = decide (m ≤ n) := by
  rw [Bool.eq_iff_iff, List.isPrefixOf_iff_prefix, decide_eq_true_eq]
  constructor
  · intro h
    have := h.length_le
    simpa using this
  · intro h
    exact ⟨List.replicate (n - m) b, by rw [List.replicate_append_replicate]; congr 1; omega⟩
theorem hits_rep {b : UInt8} {m : Nat} (hm : 1 ≤ m) : ∀ (n i : Nat), (hits (List.replicate m b) i 0 (List.replicate n b)).length = n / m := by
  intro n
  induction n using Nat.strongRecOn with
  | ind n ih =>
    intro i
    rcases Nat.lt_or_ge n m with h | h
    · rw [hits_short (by simpa using h), Nat.div_eq_of_lt h]
      rfl
    · rw [hits_yes (by intro e; have := congrArg List.length e; simp at this; omega) (by rw [isPrefix_rep]; exact decide_eq_true h), List.length_cons, List.length_replicate, List.drop_replicate, ih (n - m) (by omega), Nat.div_eq n m, if_pos ⟨by omega, h⟩]
theorem hits_each {b : UInt8} : ∀ {t : List UInt8} {i : Nat}, (∀ x ∈ t, x = b) → hits [b] i 0 t = List.range' i t.length
  | [], _, _ => rfl
  | x :: t, i, h => by
    have hx := h x List.mem_cons_self
    subst hx
    rw [hits, if_pos (by simp)]
    show i :: hits [x] (i + 1) 0 t = _
    rw [hits_each (fun y hy => h y (List.mem_cons_of_mem _ hy)), List.length_cons, List.range'_succ]
def Bp.mt (x : Bp) : Mt := ⟨x.line, x.col, x.line, x.col⟩
theorem matchS_each {b : UInt8} {fold : Bool} {s : List Bp} (h : ∀ x ∈ s, low fold x.b = b) : matchS [b] fold s = s.map Bp.mt := by
  unfold matchS
  rw [hits_each (fun x hx => by obtain ⟨y, hy, rfl⟩ := List.mem_map.1 hx; exact h y hy), lowB_len]
  apply List.ext_getElem?
  intro i
  rw [List.getElem?_map, List.getElem?_map]
  rcases Nat.lt_or_ge i s.length with hi | hi
  · rw [List.getElem?_eq_getElem hi, List.getElem?_eq_getElem (by simpa using hi)]
    simp only [Option.map_some, List.getElem_range', Nat.zero_add, Nat.one_mul, Option.some.injEq]
    simp [mtOf, Bp.mt, List.getD_eq_getElem?_getD, List.getElem?_eq_getElem hi]
  · rw [List.getElem?_eq_none (by simpa using hi), List.getElem?_eq_none hi]
    rfl
/-- All bytes of rows, one behind the other. -/
def rowsF (n : Int) : List Ln → List Bp
  | [] => []
  | x :: xs => rowB n true x ++ rowsF (n + 1) xs
theorem segs_flat : ∀ {ls : List Ln} {n : Int} {acc : List Bp}, (∀ x ∈ ls, x.part true = x.cells) → (segs n acc ls).flatten = (if ls = [] then [] else acc) ++ rowsF n ls
  | [], _, _, _ => by simp [segs, rowsF]
  | x :: xs, n, acc, h => by
    have hx := h x List.mem_cons_self
    have hr : rowB n false x = rowB n true x := by
      unfold rowB
      rw [hx]
      rfl
    have hxs : ∀ y ∈ xs, y.part true = y.cells := fun y hy => h y (List.mem_cons_of_mem _ hy)
    unfold segs
    split
    · rename_i hc
      have hne : xs ≠ [] := by intro e; subst e; simp at hc
      rw [segs_flat hxs, if_neg hne, rowsF, hr, if_neg (by simp), List.append_assoc]
    · have e : (if xs = [] then ([] : List Bp) else []) = [] := by split <;> rfl
      rw [List.flatten_cons, segs_flat hxs, e, rowsF, List.nil_append, if_neg (List.cons_ne_nil _ _), List.append_assoc]
end Go.Proofs.YthcndmchlpohpaaGreatDoor
