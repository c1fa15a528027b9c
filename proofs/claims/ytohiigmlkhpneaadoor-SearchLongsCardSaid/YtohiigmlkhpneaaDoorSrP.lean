/- Texts of cells, rows and logical lines, and what matches in them (42), in plain Lean. No condition. -/
import Derived.Test.YtohiigmlkhpneaaDoorLine
import Derived.Laws.Cover4
import Derived.Lib.Index
namespace Go.Proofs.YtohiigmlkhpneaaDoor
set_option linter.unusedVariables false
set_option linter.unusedSimpArgs false
open Go

/-- A rune's bytes. -/
def encL (r : Int) : List UInt8 := (Utf8.encode r).data.toList
/-- A mark's bytes. -/
def mkTxt (m : Int) : List UInt8 := if m = 0 then [] else encL m
/-- A cell's text. -/
def Cell.txt (c : Cell) : List UInt8 :=
  if c.width = 0 then [] else if c.rune = 0 then [32] else encL c.rune ++ mkTxt c.m0 ++ mkTxt c.m1 ++ mkTxt c.m2
theorem encode_len (r : Int) : 1 ≤ (encL r).length ∧ (encL r).length ≤ 4 := by
  have h := encode_size_le r
  have e : (encL r).length = (Utf8.encode r).size := by unfold encL; rw [Array.length_toList]; rfl
  refine ⟨?_, by omega⟩
  rw [e]
  unfold Utf8.encode
  dsimp only
  generalize (if Utf8.valid r = true then r.toNat else Utf8.runeError) = c
  split
  · exact Nat.succ_pos _
  split
  · exact Nat.succ_pos _
  split
  · exact Nat.succ_pos _
  · exact Nat.succ_pos _
theorem mkTxt_len (m : Int) : (mkTxt m).length ≤ 4 := by
  unfold mkTxt
  split
  · simp
  · exact (encode_len m).2
theorem Cell.txt_len (c : Cell) : c.txt.length ≤ 16 := by
  have h0 := encode_len c.rune
  have h1 := mkTxt_len c.m0
  have h2 := mkTxt_len c.m1
  have h3 := mkTxt_len c.m2
  unfold Cell.txt
  split
  · simp
  · split
    · simp
    · simp only [List.length_append]; omega
theorem Cell.txt_one {c : Cell} (h : c.width ≠ 0) : 1 ≤ c.txt.length := by
  have h0 := encode_len c.rune
  unfold Cell.txt
  rw [if_neg h]
  split
  · simp
  · simp only [List.length_append]; omega

/-- The blank cell. -/
def blankC : Cell := ⟨0, 0, 0, 0, 1, 0, 0, 0, 0, 0, 0, 0, 0, 0, 0, 0⟩
/-- How many of the first n cells there are up to the last one that is not blank. -/
def usedTo (cs : List Cell) : Nat → Nat
  | 0 => 0
  | n + 1 => if cs[n]? = some blankC then usedTo cs n else n + 1
def usedN (cs : List Cell) : Nat := usedTo cs cs.length
theorem usedTo_le (cs : List Cell) : ∀ n, usedTo cs n ≤ n
  | 0 => Nat.le_refl _
  | n + 1 => by
    unfold usedTo
    split
    · have := usedTo_le cs n; omega
    · exact Nat.le_refl _
theorem usedN_le (cs : List Cell) : usedN cs ≤ cs.length := usedTo_le cs _
theorem usedTo_blank {cs : List Cell} {n : Nat} (h : cs[n]? = some blankC) : usedTo cs (n + 1) = usedTo cs n := by rw [usedTo, if_pos h]
theorem usedTo_not {cs : List Cell} {n : Nat} (h : cs[n]? ≠ some blankC) : usedTo cs (n + 1) = n + 1 := by rw [usedTo, if_neg h]

/-- A byte, and the place of its cell. -/
structure Bp where
  b : UInt8
  line : Int
  col : Int
instance : Inhabited Bp := ⟨⟨0, 0, 0⟩⟩
def cellB (n : Int) (k : Nat) (c : Cell) : List Bp := c.txt.map fun b => ⟨b, n, k⟩
def cellsB (n : Int) : Nat → List Cell → List Bp
  | _, [] => []
  | k, c :: cs => cellB n k c ++ cellsB n (k + 1) cs
theorem cellsB_append (n : Int) : ∀ (k : Nat) (xs ys : List Cell), cellsB n k (xs ++ ys) = cellsB n k xs ++ cellsB n (k + xs.length) ys
  | k, [], ys => by simp [cellsB]
  | k, x :: xs, ys => by
    rw [List.cons_append, cellsB, cellsB, cellsB_append n (k + 1) xs ys, List.append_assoc]
    congr 3
    rw [List.length_cons]; omega
theorem cellsB_step {n : Int} {cs : List Cell} {k : Nat} {c : Cell} (h : cs[k]? = some c) : cellsB n 0 (cs.take (k + 1)) = cellsB n 0 (cs.take k) ++ cellB n k c := by
  have hk := (List.getElem?_eq_some_iff.1 h).1
  rw [List.take_add_one, h, cellsB_append, List.length_take, Nat.min_eq_left (by omega)]
  simp [cellsB]
theorem cellsB_len (n : Int) : ∀ (k : Nat) (cs : List Cell), (cellsB n k cs).length ≤ cs.length * 16
  | _, [] => by simp [cellsB]
  | k, c :: cs => by
    have h1 := cellsB_len n (k + 1) cs
    have h2 := c.txt_len
    rw [cellsB, List.length_append, List.length_cons, cellB, List.length_map]
    omega
/-- The cells of a row that count. -/
def Ln.part (x : Ln) (last : Bool) : List Cell := if last then x.cells.take (usedN x.cells) else x.cells
theorem Ln.part_len (x : Ln) (last : Bool) : (x.part last).length ≤ x.cells.length := by
  unfold Ln.part
  split
  · rw [List.length_take]; omega
  · exact Nat.le_refl _
def rowB (n : Int) (last : Bool) (x : Ln) : List Bp := cellsB n 0 (x.part last)
theorem rowB_len (n : Int) (last : Bool) (x : Ln) : (rowB n last x).length ≤ x.cells.length * 16 := by
  have h1 := cellsB_len n 0 (x.part last)
  have h2 := x.part_len last
  unfold rowB
  omega
/-- The text of a logical line. -/
def gath (n : Int) : List Ln → List Bp
  | [] => []
  | x :: xs => rowB n xs.isEmpty x ++ gath (n + 1) xs
def gathP (n : Int) : Nat → List Ln → List Bp
  | 0, _ => []
  | _ + 1, [] => []
  | i + 1, x :: xs => rowB n xs.isEmpty x ++ gathP (n + 1) i xs
theorem gathP_all (n : Int) : ∀ (ls : List Ln), gathP n ls.length ls = gath n ls
  | [] => rfl
  | x :: xs => by rw [List.length_cons, gathP, gath, gathP_all (n + 1) xs]
theorem gathP_step : ∀ {n : Int} {ls : List Ln} {i : Nat} {x : Ln}, ls[i]? = some x → gathP n (i + 1) ls = gathP n i ls ++ rowB (n + i) (decide (i + 1 = ls.length)) x
  | n, [], i, x, h => by cases h
  | n, y :: ys, 0, x, h => by
    have h : y = x := by simpa using h
    subst h
    cases ys <;> simp [gathP]
  | n, y :: ys, i + 1, x, h => by
    have ih := gathP_step (n := n + 1) (ls := ys) (i := i) (x := x) (by simpa using h)
    rw [gathP, ih, gathP, List.append_assoc]
    congr 3
    · push_cast; omega
    · rw [List.length_cons]; exact decide_eq_decide.2 (by omega)
theorem gathP_len {n : Int} {m : Nat} : ∀ {i : Nat} {ls : List Ln}, (∀ x ∈ ls, x.cells.length ≤ m) → (gathP n i ls).length ≤ i * (m * 16)
  | 0, _, _ => by simp [gathP]
  | i + 1, [], _ => by simp [gathP]
  | i + 1, x :: xs, h => by
    have h1 := gathP_len (n := n + 1) (i := i) (ls := xs) (fun y hy => h y (List.mem_cons_of_mem _ hy))
    have h2 := rowB_len n xs.isEmpty x
    have h3 := h x List.mem_cons_self
    have h4 : x.cells.length * 16 ≤ m * 16 := Nat.mul_le_mul_right _ h3
    rw [gathP, List.length_append, Nat.add_mul]
    omega

/-- How many rows the first logical line has. -/
def runL : List Ln → Nat
  | [] => 0
  | x :: xs => if x.soft && !xs.isEmpty then runL xs + 1 else 1
/-- The texts of all logical lines; 'acc' is that of the first one's rows before these. -/
def segs (n : Int) (acc : List Bp) : List Ln → List (List Bp)
  | [] => []
  | x :: xs => if x.soft && !xs.isEmpty then segs (n + 1) (acc ++ rowB n false x) xs else (acc ++ rowB n true x) :: segs (n + 1) [] xs
theorem runL_pos {ls : List Ln} (h : ls ≠ []) : 1 ≤ runL ls := by
  cases ls with
  | nil => exact absurd rfl h
  | cons x xs => unfold runL; split <;> omega
theorem runL_le : ∀ ls : List Ln, runL ls ≤ ls.length
  | [] => Nat.le_refl _
  | x :: xs => by
    have := runL_le xs
    unfold runL
    rw [List.length_cons]
    split <;> omega
theorem segs_run : ∀ (n : Int) (acc : List Bp) (ls : List Ln), ls ≠ [] → segs n acc ls = (acc ++ gath n (ls.take (runL ls))) :: segs (n + runL ls) [] (ls.drop (runL ls))
  | n, acc, [], h => absurd rfl h
  | n, acc, x :: xs, _ => by
    by_cases hc : (x.soft && !xs.isEmpty) = true
    · have hne : xs ≠ [] := by
        intro e; subst e; simp at hc
      have hp := runL_pos hne
      rw [segs, runL, if_pos hc, if_pos hc, segs_run (n + 1) _ xs hne, List.take_succ_cons, List.drop_succ_cons, gath]
      have he : (xs.take (runL xs)).isEmpty = false := by
        rw [List.isEmpty_eq_false_iff]
        intro e
        have := congrArg List.length e
        rw [List.length_take, List.length_nil] at this
        have := runL_le xs
        omega
      rw [he, List.append_assoc]
      congr 2
      push_cast
      omega
    · rw [segs, runL, if_neg hc, if_neg hc]
      simp [gath]
/-- Where the first logical line ends. -/
theorem runL_eq : ∀ {m : Nat} {ls : List Ln}, (∀ j, j < m → ∃ x, ls[j]? = some x ∧ x.soft = true) → m < ls.length → (m + 1 = ls.length ∨ ∃ x, ls[m]? = some x ∧ x.soft = false) → runL ls = m + 1
  | m, [], _, h, _ => by simp at h
  | 0, x :: xs, _, _, h => by
    unfold runL
    rw [if_neg]
    rcases h with h | ⟨y, hy, hs⟩
    · have : xs = [] := List.eq_nil_of_length_eq_zero (by simpa using h.symm)
      simp [this]
    · have : x = y := by simpa using hy
      subst this
      simp [hs]
  | m + 1, x :: xs, h1, h2, h3 => by
    obtain ⟨y, hy, hs⟩ := h1 0 (by omega)
    have : x = y := by simpa using hy
    subst this
    have hl : m < xs.length := by simpa using h2
    have hne : xs.isEmpty = false := by
      cases xs with
      | nil => simp at hl
      | cons => rfl
    unfold runL
    rw [if_pos (by simp [hs, hne]), runL_eq (m := m) (fun j hj => by simpa using h1 (j + 1) (by omega)) hl (by simpa using h3)]

/-- A byte with a small letter in place of a capital one, if case does not matter. -/
def low (fold : Bool) (b : UInt8) : UInt8 := if fold && decide (65 ≤ b) && decide (b ≤ 90) then b + 32 else b
/-- Where a pattern matches, the first s bytes left out. -/
def hits (p : List UInt8) : Nat → Nat → List UInt8 → List Nat
  | _, _, [] => []
  | i, s + 1, _ :: t => hits p (i + 1) s t
  | i, 0, b :: t => if p.isPrefixOf (b :: t) then i :: hits p (i + 1) (p.length - 1) t else hits p (i + 1) 0 t
theorem hits_skip (p : List UInt8) : ∀ (s i : Nat) (t : List UInt8), hits p i s t = hits p (i + s) 0 (t.drop s)
  | 0, i, t => by simp
  | s + 1, i, [] => by simp [hits]
  | s + 1, i, b :: t => by rw [hits, hits_skip p s (i + 1) t, List.drop_succ_cons]; congr 1; omega
theorem hits_yes {p : List UInt8} {t : List UInt8} {i : Nat} (hp : p ≠ []) (h : p.isPrefixOf t = true) : hits p i 0 t = i :: hits p (i + p.length) 0 (t.drop p.length) := by
  have hpl := List.length_pos_iff.2 hp
  cases t with
  | nil =>
    cases p with
    | nil => exact absurd rfl hp
    | cons => cases h
  | cons b t =>
    rw [hits, if_pos h, hits_skip, show i + 1 + (p.length - 1) = i + p.length by omega]
    obtain ⟨n, hn⟩ : ∃ n, p.length = n + 1 := ⟨p.length - 1, by omega⟩
    rw [hn, Nat.add_sub_cancel, List.drop_succ_cons]
theorem hits_no {p : List UInt8} {b : UInt8} {t : List UInt8} {i : Nat} (h : p.isPrefixOf (b :: t) = false) : hits p i 0 (b :: t) = hits p (i + 1) 0 t := by
  rw [hits, if_neg (by rw [h]; exact Bool.false_ne_true)]
theorem hits_short {p : List UInt8} : ∀ {t : List UInt8} {i : Nat}, t.length < p.length → hits p i 0 t = []
  | [], _, _ => rfl
  | b :: t, i, h => by
    rw [hits_no, hits_short (by simp at h; omega)]
    cases hb : p.isPrefixOf (b :: t) with
    | false => rfl
    | true =>
      have := (List.isPrefixOf_iff_prefix.1 hb).length_le
      simp at this h
      omega
/-- By the first instance's place. -/
theorem hits_none {p : List UInt8} : ∀ {t : List UInt8} {i : Nat}, p ≠ [] → Lib.index t p = -1 → hits p i 0 t = []
  | [], _, _, _ => rfl
  | b :: t, i, hp, h => by
    unfold Lib.index at h
    split at h
    · exact absurd h (by decide)
    · rename_i hb
      rw [hits_no ((Bool.not_eq_true _).mp hb)]
      split at h
      · rename_i h2
        exact hits_none hp (by simpa using h2)
      · rename_i h2
        have := Lib.index_ge t p
        have h2 : Lib.index t p ≠ -1 := by simpa using h2
        omega
theorem hits_at {p : List UInt8} : ∀ {t : List UInt8} {i : Nat} {n : Nat}, p ≠ [] → Lib.index t p = n → n + p.length ≤ t.length ∧ hits p i 0 t = (i + n) :: hits p (i + n + p.length) 0 (t.drop (n + p.length))
  | [], i, n, hp, h => by
    unfold Lib.index at h
    split at h
    · rename_i he
      exact absurd (List.isEmpty_iff.1 he) hp
    · omega
  | b :: t, i, n, hp, h => by
    unfold Lib.index at h
    split at h
    · rename_i hb
      have : n = 0 := by omega
      subst this
      have hl := (List.isPrefixOf_iff_prefix.1 hb).length_le
      refine ⟨by omega, ?_⟩
      rw [hits_yes hp hb, Nat.zero_add]
      rfl
    · rename_i hb
      split at h
      · omega
      · rename_i h2
        have h2 : Lib.index t p ≠ -1 := by simpa using h2
        have h3 := Lib.index_ge t p
        obtain ⟨m, rfl⟩ : ∃ m, n = m + 1 := ⟨n - 1, by omega⟩
        obtain ⟨k1, k2⟩ := hits_at (t := t) (i := i + 1) (n := m) hp (by omega)
        refine ⟨by rw [List.length_cons]; omega, ?_⟩
        rw [hits_no ((Bool.not_eq_true _).mp hb), k2, show m + 1 + p.length = (m + p.length) + 1 by omega, List.drop_succ_cons]
        congr 1
        · omega
        · congr 1; omega
/-- All places are within the text. -/
theorem hits_in {p : List UInt8} (hp : p ≠ []) : ∀ {t : List UInt8} {i s n : Nat}, n ∈ hits p i s t → i ≤ n ∧ n + p.length ≤ i + t.length
  | [], _, _, _, h => by simp [hits] at h
  | b :: t, i, s + 1, n, h => by
    have := hits_in hp (t := t) h
    rw [List.length_cons]; omega
  | b :: t, i, 0, n, h => by
    rw [hits] at h
    split at h
    · rename_i hb
      have hl := (List.isPrefixOf_iff_prefix.1 hb).length_le
      rcases List.mem_cons.1 h with rfl | h
      · exact ⟨Nat.le_refl _, by omega⟩
      · have := hits_in hp (t := t) h
        rw [List.length_cons]; omega
    · have := hits_in hp (t := t) h
      rw [List.length_cons]; omega
theorem hits_len {p : List UInt8} : ∀ {t : List UInt8} {i s : Nat}, (hits p i s t).length ≤ t.length
  | [], _, _ => by simp [hits]
  | b :: t, i, s + 1 => by have := hits_len (p := p) (t := t) (i := i + 1) (s := s); rw [hits, List.length_cons]; omega
  | b :: t, i, 0 => by
    rw [hits]
    split
    · have := hits_len (p := p) (t := t) (i := i + 1) (s := p.length - 1); rw [List.length_cons, List.length_cons]; omega
    · have := hits_len (p := p) (t := t) (i := i + 1) (s := 0); rw [List.length_cons]; omega

/-- A match: the places of its first and its last cell. -/
structure Mt where
  (l0 c0 l1 c1 : Int)
  deriving DecidableEq
def mtOf (seg : List Bp) (m n : Nat) : Mt := ⟨(seg.getD n default).line, (seg.getD n default).col, (seg.getD (n + m - 1) default).line, (seg.getD (n + m - 1) default).col⟩
def lowB (fold : Bool) (seg : List Bp) : List UInt8 := seg.map fun x => low fold x.b
def matchS (p : List UInt8) (fold : Bool) (seg : List Bp) : List Mt := (hits p 0 0 (lowB fold seg)).map (mtOf seg p.length)
/-- All matches. -/
def allM (ls : List Ln) (first : Int) (p : List UInt8) (fold : Bool) : List Mt := (segs first [] ls).flatMap (matchS (p.map (low fold)) fold)
end Go.Proofs.YtohiigmlkhpneaaDoor
