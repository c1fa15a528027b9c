/- choose: words by indices (41): in plain Lean, and that the program's ends of words are these. The memory holds the lines. No other condition. choose: the spans of a choice (41), in plain Lean. choose: what the theorem of stage 41 says of spans, in plain Lean. place.Compare and place.Order (9), for choose. No condition. -/
import Derived.Test.YtooiiefipdjbjaaDoorChJ
import Derived.Test.YtooiiefipdjbjaaDoorSeq
import Derived.IntWalk
namespace Go.Proofs.YtooiiefipdjbjaaDoor
set_option linter.unusedVariables false
set_option linter.unusedSimpArgs false
open Go.RowKit
attribute [local go_sem] Oper.semAt_some

/-- The place of an index. -/
def plI (ls : List Ln) (first : Int) (i : Nat) : Int × Int := (first + ((i / cols ls : Nat) : Int), ((i % cols ls : Nat) : Int))
def wdT (t : List UInt8) : Bool := match t with
  | [] => false
  | b :: _ => wdI (b.toNat : Int)
/-- The cell that is shown at a column: for a spacer the one before it. -/
def shC (cs : List Cell) (j : Nat) : Option Cell := match cs[j]? with
  | none => none
  | some d => if d.width = 0 then cs[j - 1]? else some d
def wdL (cs : List Cell) (j : Nat) : Bool := match shC cs j with
  | some e => wdT e.txt
  | none => false
/-- Is the cell with an index of a word? -/
def wd (ls : List Ln) (i : Nat) : Bool := match ls[i / cols ls]? with
  | some x => wdL x.cells (i % cols ls)
  | none => false
/-- Are the cell with an index and the next one together? -/
def tg (ls : List Ln) (a : Nat) : Bool := decide (a + 1 < ls.length * cols ls) && (decide ((a + 1) % cols ls ≠ 0) || softAt ls (a / cols ls))
def dnF (g : Nat → Bool) : Nat → Nat
  | 0 => 0
  | a + 1 => if g a then dnF g a else a + 1
def upF (g : Nat → Bool) : Nat → Nat → Nat
  | 0, i => i
  | f + 1, i => if g i then upF g f (i + 1) else i
/-- The indices of the first and the last cell of a cell's word. -/
def wA (ls : List Ln) (i : Nat) : Nat := if wd ls i then dnF (fun a => tg ls a && wd ls a) i else i
def wB (ls : List Ln) (i : Nat) : Nat := if wd ls i then upF (fun a => tg ls a && wd ls (a + 1)) (ls.length * cols ls - i) i else i
theorem dnF_le (g : Nat → Bool) : ∀ i, dnF g i ≤ i
  | 0 => Nat.le_refl _
  | a + 1 => by
    rw [dnF]
    split
    · have := dnF_le g a; omega
    · exact Nat.le_refl _
theorem dnF_in (g : Nat → Bool) : ∀ i a, dnF g i ≤ a → a < i → g a = true
  | 0, a, _, h => by omega
  | i + 1, a, h1, h2 => by
    rw [dnF] at h1
    split at h1
    · rename_i hg
      rcases Nat.lt_or_eq_of_le (Nat.le_of_lt_succ h2) with h | rfl
      · exact dnF_in g i a h1 h
      · exact hg
    · omega
theorem dnF_stop (g : Nat → Bool) : ∀ i, dnF g i = 0 ∨ g (dnF g i - 1) = false
  | 0 => .inl rfl
  | i + 1 => by
    rw [dnF]
    split
    · exact dnF_stop g i
    · rename_i hg
      exact .inr (by simpa using hg)
theorem upF_ge (g : Nat → Bool) : ∀ f i, i ≤ upF g f i
  | 0, i => Nat.le_refl _
  | f + 1, i => by
    rw [upF]
    split
    · have := upF_ge g f (i + 1); omega
    · exact Nat.le_refl _
theorem upF_in (g : Nat → Bool) : ∀ f i a, i ≤ a → a < upF g f i → g a = true
  | 0, i, a, h1, h2 => by rw [upF] at h2; omega
  | f + 1, i, a, h1, h2 => by
    rw [upF] at h2
    split at h2
    · rename_i hg
      rcases Nat.lt_or_eq_of_le h1 with h | rfl
      · exact upF_in g f (i + 1) a h h2
      · exact hg
    · omega
theorem upF_stop (g : Nat → Bool) (N : Nat) (hg : ∀ a, N ≤ a + 1 → g a = false) : ∀ f i, N ≤ i + f → g (upF g f i) = false
  | 0, i, h => by rw [upF]; exact hg i (by omega)
  | f + 1, i, h => by
    rw [upF]
    split
    · exact upF_stop g N hg f (i + 1) (by omega)
    · rename_i h2
      simpa using h2
theorem upF_lt (g : Nat → Bool) (N : Nat) (hg : ∀ a, N ≤ a + 1 → g a = false) : ∀ f i, i < N → upF g f i < N
  | 0, i, h => h
  | f + 1, i, h => by
    rw [upF]
    split
    · rename_i h2
      exact upF_lt g N hg f (i + 1) (by
        rcases Nat.lt_or_ge (i + 1) N with h3 | h3
        · exact h3
        · rw [hg i h3] at h2; cases h2)
    · exact h
theorem tg_last {ls : List Ln} {a : Nat} (h : ls.length * cols ls ≤ a + 1) : tg ls a = false := by unfold tg; rw [decide_eq_false (by omega)]; rfl
theorem wA_le (ls : List Ln) (i : Nat) : wA ls i ≤ i := by
  unfold wA
  split
  · exact dnF_le _ _
  · exact Nat.le_refl _
theorem wB_ge (ls : List Ln) (i : Nat) : i ≤ wB ls i := by
  unfold wB
  split
  · exact upF_ge _ _ _
  · exact Nat.le_refl _
theorem wB_lt {ls : List Ln} {i : Nat} (h : i < ls.length * cols ls) : wB ls i < ls.length * cols ls := by
  unfold wB
  split
  · exact upF_lt _ _ (fun a ha => by simp only [tg_last ha, Bool.false_and]) _ _ h
  · exact h
theorem dm {r M c : Nat} (h : c < M) : (r * M + c) / M = r ∧ (r * M + c) % M = c := by
  constructor
  · rw [Nat.add_comm, Nat.add_mul_div_right _ _ (by omega), Nat.div_eq_of_lt h]; omega
  · rw [Nat.add_comm, Nat.add_mul_mod_self_right, Nat.mod_eq_of_lt h]
theorem dm_of (i : Nat) {M : Nat} (hM : 0 < M) : ∃ r c, c < M ∧ i = r * M + c ∧ i / M = r ∧ i % M = c := by
  have h := Nat.mod_lt i hM
  have h2 := Nat.div_add_mod' i M
  exact ⟨i / M, i % M, h, h2.symm, rfl, rfl⟩
theorem dm_row {i M n : Nat} (hM : 0 < M) (h : i < n * M) : i / M < n := by
  rw [Nat.div_lt_iff_lt_mul hM]; exact h
/-- The index of a place. -/
def ixI (ls : List Ln) (first l c : Int) : Nat := ((l - first) * (cols ls : Int) + c).toNat
theorem ixI_pl (ls : List Ln) (first : Int) (i : Nat) : ixI ls first (plI ls first i).1 (plI ls first i).2 = i := by
  unfold ixI plI
  have h := Nat.div_add_mod' i (cols ls)
  have h2 : first + ((i / cols ls : Nat) : Int) - first = ((i / cols ls : Nat) : Int) := by omega
  simp only []
  rw [h2]
  have h3 : ((i / cols ls : Nat) : Int) * (cols ls : Int) + ((i % cols ls : Nat) : Int) = ((i / cols ls * cols ls + i % cols ls : Nat) : Int) := by push_cast; rfl
  rw [h3, h]
  omega
theorem pv_zero (ls : List Ln) (first : Int) : pvP ls first (plI ls first 0).1 (plI ls first 0).2 (0 / cols ls) = (first - 1, (cols ls : Int) - 1, false) := by
  unfold pvP plI
  rw [if_neg (by simp)]
  have h : inP ls first (first - 1) ((cols ls : Int) - 1) = false := by unfold inP; rw [decide_eq_false (by omega)]; rfl
  simp [h]
theorem pv_step {ls : List Ln} (first : Int) {i : Nat} (h0 : i + 1 < ls.length * cols ls) : pvP ls first (plI ls first (i + 1)).1 (plI ls first (i + 1)).2 ((i + 1) / cols ls) = ((plI ls first i).1, (plI ls first i).2, tg ls i) := by
  have hM : 0 < cols ls := by
    rcases Nat.eq_zero_or_pos (cols ls) with h | h
    · rw [h] at h0; omega
    · exact h
  obtain ⟨r, c, hc, hi, h1, h2⟩ := dm_of (i + 1) hM
  have hr := dm_row hM h0
  rw [h1] at hr
  unfold pvP plI tg
  rw [decide_eq_true h0, Bool.true_and, h1, h2]
  simp only []
  rcases Nat.eq_zero_or_pos c with rfl | hc0
  · rw [if_neg (by omega), decide_eq_false (by omega), Bool.false_or]
    cases r with
    | zero => omega
    | succ r =>
      have e : i = r * cols ls + (cols ls - 1) := by rw [Nat.add_mul] at hi; omega
      obtain ⟨g1, g2⟩ := dm (r := r) (show cols ls - 1 < cols ls by omega)
      rw [e, g1, g2]
      have hin : inP ls first (first + ((r + 1 : Nat) : Int) - 1) ((cols ls : Int) - 1) = true := by
        unfold inP
        rw [decide_eq_true (by omega), decide_eq_true (by omega), decide_eq_true (by omega), decide_eq_true (by omega)]
        rfl
      rw [hin, Bool.true_and]
      refine Prod.ext ?_ (Prod.ext ?_ ?_)
      · show first + ((r + 1 : Nat) : Int) - 1 = first + (r : Int); omega
      · show (cols ls : Int) - 1 = ((cols ls - 1 : Nat) : Int); omega
      · rfl
  · have e : i = r * cols ls + (c - 1) := by omega
    obtain ⟨g1, g2⟩ := dm (r := r) (show c - 1 < cols ls by omega)
    rw [if_pos (by omega), decide_eq_true (by omega), Bool.true_or, e, g1, g2]
    refine Prod.ext rfl (Prod.ext ?_ rfl)
    show (c : Int) - 1 = ((c - 1 : Nat) : Int); omega
theorem nx_step {ls : List Ln} (first : Int) {i : Nat} (h0 : i + 1 < ls.length * cols ls) : nxP ls first (plI ls first i).1 (plI ls first i).2 (i / cols ls) = ((plI ls first (i + 1)).1, (plI ls first (i + 1)).2, tg ls i) := by
  have hM : 0 < cols ls := by
    rcases Nat.eq_zero_or_pos (cols ls) with h | h
    · rw [h] at h0; omega
    · exact h
  obtain ⟨r, c, hc, hi, h1, h2⟩ := dm_of i hM
  have hr := dm_row hM h0
  unfold nxP plI tg
  rw [decide_eq_true h0, Bool.true_and, h1, h2]
  simp only []
  rcases Nat.lt_or_ge (c + 1) (cols ls) with hcm | hcm
  · obtain ⟨g1, g2⟩ := dm (r := r) hcm
    rw [← Nat.add_assoc, ← hi] at g1 g2
    rw [if_pos (by omega), g1, g2, decide_eq_true (by omega), Bool.true_or]
    refine Prod.ext rfl (Prod.ext ?_ rfl)
    show (c : Int) + 1 = ((c + 1 : Nat) : Int); omega
  · have e : i + 1 = (r + 1) * cols ls + 0 := by rw [Nat.add_mul]; omega
    obtain ⟨g1, g2⟩ := dm (r := r + 1) hM
    rw [← e] at g1 g2
    rw [g1] at hr
    rw [if_neg (by omega), g1, g2, decide_eq_false (by omega), Bool.false_or]
    have hin : inP ls first (first + (r : Int) + 1) 0 = true := by
      unfold inP
      rw [decide_eq_true (by omega), decide_eq_true (by omega), decide_eq_true (by omega), decide_eq_true (by omega)]
      rfl
    rw [hin, Bool.and_true]
    refine Prod.ext ?_ (Prod.ext rfl rfl)
    show first + (r : Int) + 1 = first + ((r + 1 : Nat) : Int); omega
theorem nx_end {ls : List Ln} (first : Int) {i : Nat} (h0 : i + 1 = ls.length * cols ls) : ∃ q : Int × Int, nxP ls first (plI ls first i).1 (plI ls first i).2 (i / cols ls) = (q.1, q.2, false) := by
  have hM : 0 < cols ls := by
    rcases Nat.eq_zero_or_pos (cols ls) with h | h
    · rw [h] at h0; omega
    · exact h
  have hn : 0 < ls.length := by
    rcases Nat.eq_zero_or_pos ls.length with h | h
    · rw [h, Nat.zero_mul] at h0; omega
    · exact h
  have e : i = (ls.length - 1) * cols ls + (cols ls - 1) := by
    have : (ls.length - 1) * cols ls + cols ls = ls.length * cols ls := by
      rw [← Nat.succ_mul, Nat.succ_eq_add_one, Nat.sub_add_cancel hn]
    omega
  obtain ⟨g1, g2⟩ := dm (r := ls.length - 1) (show cols ls - 1 < cols ls by omega)
  rw [← e] at g1 g2
  unfold nxP plI
  rw [g1, g2]
  simp only []
  rw [if_neg (by omega)]
  have hin : inP ls first (first + ((ls.length - 1 : Nat) : Int) + 1) 0 = false := by
    unfold inP
    rw [decide_eq_false (show ¬ (first + ((ls.length - 1 : Nat) : Int) + 1 < first + ls.length) by omega)]
    simp
  rw [hin, Bool.and_false]
  exact ⟨(_, _), rfl⟩
theorem row_not {cs : List Cell} (h : rowOk cs = true) {j : Nat} {d : Cell} (hd : cs[j]? = some d) : cellBad (behindAt cs j) (penAt cs j) (j + 1 == cs.length) d = false := by
  unfold rowOk at h
  have h2 := List.all_eq_true.1 h j (List.mem_range.2 (List.getElem?_eq_some_iff.1 hd).1)
  unfold rowBad at h2
  rw [hd] at h2
  simpa using h2
/-- A spacer stands behind a wide cell. -/
theorem row_sp {cs : List Cell} (h : rowOk cs = true) {j : Nat} {d : Cell} (hd : cs[j]? = some d) (hw : d.width = 0) : 1 ≤ j ∧ ∃ e, cs[j - 1]? = some e ∧ e.width = 2 := by
  have h2 := row_not h hd
  unfold cellBad at h2
  rw [hw] at h2
  cases j with
  | zero => simp [behindAt] at h2
  | succ m =>
    refine ⟨by omega, ?_⟩
    obtain ⟨e, he⟩ : ∃ e, cs[m]? = some e := ⟨_, List.getElem?_eq_getElem (by have := (List.getElem?_eq_some_iff.1 hd).1; omega)⟩
    refine ⟨e, he, ?_⟩
    rw [show behindAt cs (m + 1) = (e.width == 2) by unfold behindAt; simp only [he]] at h2
    simp at h2
    exact h2.1.2
/-- A wide cell is not the last one. -/
theorem row_wide {cs : List Cell} (h : rowOk cs = true) {j : Nat} {d : Cell} (hd : cs[j]? = some d) (hw : d.width = 2) : j + 1 < cs.length := by
  have h2 := row_not h hd
  unfold cellBad at h2
  rw [hw] at h2
  have hl := (List.getElem?_eq_some_iff.1 hd).1
  simp at h2
  omega
theorem lnOk_rowOk {cs : List Cell} (h : lnOk cs = true) : rowOk cs = true := by
  unfold lnOk at h
  rw [Bool.and_eq_true] at h
  exact h.2
theorem txt_some {e : Cell} (h : e.width ≠ 0) : ∃ b t, e.txt = b :: t := by
  unfold Cell.txt
  rw [if_neg h]
  split
  · exact ⟨_, _, rfl⟩
  · have hl := (encode_len e.rune).1
    cases hE : encL e.rune with
    | nil => rw [hE] at hl; exact absurd hl (by decide)
    | cons b t => exact ⟨b, t ++ mkTxt e.m0 ++ mkTxt e.m1 ++ mkTxt e.m2, by simp⟩
structure ShF (F : Nat → Prop) (w : World) (v : Value) (ls : List Ln) (first : Int) : Prop where
  rd : lnEl.Rd F w v ls
  lt : ∀ b, F b → b < w.heap.size
  ok : rowsOk ls first = true
  len : ls.length ≤ 1000
theorem ShF.sees {F : Nat → Prop} {w W : World} {v : Value} {ls : List Ln} {first : Int} (h : ShF F w v ls first) (hs : Sees w W) : ShF F W v ls first := ⟨h.rd.sees hs, fun b hb => Nat.lt_of_lt_of_le (h.lt b hb) hs.size, h.ok, h.len⟩
theorem ShF.row {F : Nat → Prop} {w : World} {v : Value} {ls : List Ln} {first : Int} (h : ShF F w v ls first) {i : Nat} (hi : i < ls.length * cols ls) : 0 < cols ls ∧ cols ls ≤ 1000 ∧ i / cols ls < ls.length ∧ i % cols ls < cols ls ∧ ∃ x, ls[i / cols ls]? = some x ∧ x.cells.length = cols ls ∧ lnOk x.cells = true := by
  have hM : 0 < cols ls := by
    rcases Nat.eq_zero_or_pos (cols ls) with h | h
    · rw [h] at hi; omega
    · exact h
  have hr := dm_row hM hi
  have hx := List.getElem?_eq_getElem hr
  have hm := (rowsOk_ok h.ok).1 _ (List.mem_iff_getElem?.2 ⟨_, hx⟩)
  have hl : (ls[i / cols ls]).cells.length ≤ 1000 := by
    have := hm.2.1
    unfold lnOk at this
    rw [Bool.and_eq_true, decide_eq_true_eq] at this
    exact this.1
  exact ⟨hM, by rw [← hm.1]; exact hl, hr, Nat.mod_lt _ hM, _, hx, hm.1, hm.2.1⟩
theorem wordy_at {F : Nat → Prop} {w : World} {v : Value} {ls : List Ln} {first : Int} (h : ShF F w v ls first) {i : Nat} (hi : i < ls.length * cols ls) :
    Calls Tryd.prog 86 #[.agg #[v, .int .i64 first], plV (plI ls first i)] w fun e w' => e = .returned (.bool (wd ls i)) ∧ Sees w w' := by
  obtain ⟨hM, hM2, hr, hc, x, hx, hxl, hxo⟩ := h.row hi
  obtain ⟨_, hf0, hf1⟩ := rowsOk_ok h.ok
  obtain ⟨d, hd⟩ : ∃ d, x.cells[i % cols ls]? = some d := ⟨_, List.getElem?_eq_getElem (by rw [hxl]; exact hc)⟩
  obtain ⟨e', he, hsh, hew⟩ : ∃ e', (if d.width = 0 then 1 ≤ i % cols ls ∧ x.cells[i % cols ls - 1]? = some e' else e' = d) ∧ shC x.cells (i % cols ls) = some e' ∧ e'.width ≠ 0 := by
    unfold shC
    rw [hd]
    by_cases hw : d.width = 0
    · obtain ⟨h1, e, he, he2⟩ := row_sp (lnOk_rowOk hxo) hd hw
      refine ⟨e, ?_, ?_, by omega⟩
      · rw [if_pos hw]; exact ⟨h1, he⟩
      · simp only []; rw [if_pos hw]; exact he
    · refine ⟨d, ?_, ?_, hw⟩
      · rw [if_neg hw]
      · simp only []; rw [if_neg hw]
  obtain ⟨b, t, htx⟩ := txt_some hew
  have hwd : wd ls i = wdI (b.toNat : Int) := by
    unfold wd wdL
    rw [hx]
    simp only []
    rw [hsh]
    simp only []
    rw [htx]
    rfl
  have hsz : 0 < (⟨e'.txt.toArray⟩ : ByteArray).size := by
    rw [htx]
    show 0 < (b :: t).toArray.size
    simp
  refine sh_wordy F v ls w h.rd h.lt (by have := h.len; omega) first hf0 hf1 (i / cols ls) x hx _ rfl (i % cols ls) d hd (by omega) e' he ⟨e'.txt.toArray⟩ rfl hsz _ ?_
  rw [hwd]
  congr 2
  simp only [htx]
  rfl
theorem prev_at {F : Nat → Prop} {w : World} {v : Value} {ls : List Ln} {first : Int} (h : ShF F w v ls first) {i : Nat} (hi : i + 1 < ls.length * cols ls) :
    Calls Tryd.prog 68 #[.agg #[v, .int .i64 first], plV (plI ls first (i + 1))] w fun e w' => e = .returned (.tuple #[plV (plI ls first i), .bool (tg ls i)]) ∧ Sees w w' := by
  obtain ⟨hM, hM2, hr, hc, _⟩ := h.row hi
  obtain ⟨hall, hf0, hf1⟩ := rowsOk_ok h.ok
  exact sh_prev F v ls w h.rd (fun x hx => (hall x hx).1) (by have := h.len; omega) first hf0 hf1 _ hr _ rfl _ (by show (0 : Int) ≤ ((_ : Nat) : Int); omega) (by show (((i + 1) % cols ls : Nat) : Int) < 1000000; omega) hM (by omega) _ _ _ (pv_step first hi)
theorem prev_zero {F : Nat → Prop} {w : World} {v : Value} {ls : List Ln} {first : Int} (h : ShF F w v ls first) (hi : 0 < ls.length * cols ls) :
    Calls Tryd.prog 68 #[.agg #[v, .int .i64 first], plV (plI ls first 0)] w fun e w' => e = .returned (.tuple #[plV (first - 1, (cols ls : Int) - 1), .bool false]) ∧ Sees w w' := by
  obtain ⟨hM, hM2, hr, hc, _⟩ := h.row hi
  obtain ⟨hall, hf0, hf1⟩ := rowsOk_ok h.ok
  exact sh_prev F v ls w h.rd (fun x hx => (hall x hx).1) (by have := h.len; omega) first hf0 hf1 _ hr _ rfl _ (by show (0 : Int) ≤ ((_ : Nat) : Int); omega) (by show ((0 % cols ls : Nat) : Int) < 1000000; omega) hM (by omega) _ _ _ (pv_zero ls first)
theorem next_at {F : Nat → Prop} {w : World} {v : Value} {ls : List Ln} {first : Int} (h : ShF F w v ls first) {i : Nat} (hi : i + 1 < ls.length * cols ls) :
    Calls Tryd.prog 70 #[.agg #[v, .int .i64 first], plV (plI ls first i)] w fun e w' => e = .returned (.tuple #[plV (plI ls first (i + 1)), .bool (tg ls i)]) ∧ Sees w w' := by
  obtain ⟨hM, hM2, hr, hc, _⟩ := h.row (show i < ls.length * cols ls by omega)
  obtain ⟨hall, hf0, hf1⟩ := rowsOk_ok h.ok
  exact sh_next F v ls w h.rd (fun x hx => (hall x hx).1) (by have := h.len; omega) first hf0 hf1 _ hr _ rfl _ (by show (0 : Int) ≤ ((_ : Nat) : Int); omega) (by show ((i % cols ls : Nat) : Int) < 1000000; omega) _ _ _ (nx_step first hi)
theorem next_end {F : Nat → Prop} {v : Value} {ls : List Ln} {first : Int} {i : Nat} (hi : i + 1 = ls.length * cols ls) :
    ∃ q : Int × Int, ∀ w, ShF F w v ls first → Calls Tryd.prog 70 #[.agg #[v, .int .i64 first], plV (plI ls first i)] w fun e w' => e = .returned (.tuple #[plV q, .bool false]) ∧ Sees w w' := by
  obtain ⟨q, hq⟩ := nx_end first hi
  refine ⟨q, fun w h => ?_⟩
  obtain ⟨hM, hM2, hr, hc, _⟩ := h.row (show i < ls.length * cols ls by omega)
  obtain ⟨hall, hf0, hf1⟩ := rowsOk_ok h.ok
  exact sh_next F v ls w h.rd (fun x hx => (hall x hx).1) (by have := h.len; omega) first hf0 hf1 _ hr _ rfl _ (by show (0 : Int) ≤ ((_ : Nat) : Int); omega) (by show ((i % cols ls : Nat) : Int) < 1000000; omega) _ _ _ hq
set_option maxHeartbeats 1000000 in
theorem end_mp {F : Nat → Prop} {w : World} {a : Option Addr} {n cp : Nat} {ls : List Ln} {first : Int} (h : ShF F w (.slice a n cp) ls first)  {i : Nat} (hi : i < ls.length * cols ls) :
    Calls Tryd.prog 66 #[.agg #[.slice a n cp, .int .i64 first], plV (plI ls first i), .func (.func 68) #[.agg #[.slice a n cp, .int .i64 first]] #[]] w fun e w' => e = .returned (plV (plI ls first (wA ls i))) ∧ Sees w w' := by
  have hle := dnF_le (fun a => tg ls a && wd ls a) i
  have hin := dnF_in (fun a => tg ls a && wd ls a) i
  have hst := dnF_stop (fun a => tg ls a && wd ls a) i
  have hwa : wd ls i = true → wA ls i = dnF (fun a => tg ls a && wd ls a) i := fun hh => by unfold wA; rw [if_pos hh]
  have hwn : wd ls i = false → wA ls i = i := fun hh => by unfold wA; rw [if_neg (by rw [hh]; exact Bool.false_ne_true)]
  generalize dnF (fun a => tg ls a && wd ls a) i = d at *
  refine (sh_end_mp w a n cp first (fun k => plI ls first (i - k)) (i - d) (wd ls i) (ixI ls first) ?_ ?_ ?_ ?_ ?_).mono ?_
  · intro _ k hk
    simp only [ixI_pl]
    omega
  · intro W hs
    exact wordy_at (h.sees hs) hi
  · intro _ k hk W hs
    have hg := hin (i - (k + 1)) (by omega) (by omega)
    simp only [Bool.and_eq_true] at hg
    have K : ∀ V, Sees w V → Calls Tryd.prog 68 #[.agg #[.slice a n cp, .int .i64 first], plV (plI ls first (i - k))] V fun e w' => e = .returned (.tuple #[plV (plI ls first (i - (k + 1))), .bool true]) ∧ Sees V w' := fun V hv => by
      have K := prev_at (h.sees hv) (i := i - (k + 1)) (by omega)
      rw [show i - (k + 1) + 1 = i - k by omega, hg.1] at K
      exact K
    exact K W hs
  · intro _ k hk W hs
    have hg := hin (i - (k + 1)) (by omega) (by omega)
    simp only [Bool.and_eq_true] at hg
    have K := wordy_at (h.sees hs) (i := i - (k + 1)) (by omega)
    rw [hg.2] at K
    exact K
  · intro _
    rcases Nat.eq_zero_or_pos d with h0 | h0
    · refine ⟨(first - 1, (cols ls : Int) - 1), false, fun W hs => ?_, fun hh => by cases hh⟩
      have K : ∀ V, Sees w V → Calls Tryd.prog 68 #[.agg #[.slice a n cp, .int .i64 first], plV (plI ls first (i - (i - d)))] V fun e w' => e = .returned (.tuple #[plV (first - 1, (cols ls : Int) - 1), .bool false]) ∧ Sees V w' := fun V hv => by
        have K := prev_zero (h.sees hv) (by omega)
        rw [show i - (i - d) = 0 by omega]
        exact K
      exact K W hs
    · refine ⟨plI ls first (d - 1), tg ls (d - 1), fun W hs => ?_, fun hb W hs => ?_⟩
      · have K : ∀ V, Sees w V → Calls Tryd.prog 68 #[.agg #[.slice a n cp, .int .i64 first], plV (plI ls first (i - (i - d)))] V fun e w' => e = .returned (.tuple #[plV (plI ls first (d - 1)), .bool (tg ls (d - 1))]) ∧ Sees V w' := fun V hv => by
          have K := prev_at (h.sees hv) (i := d - 1) (by omega)
          rw [show d - 1 + 1 = i - (i - d) by omega] at K
          exact K
        exact K W hs
      · have K := wordy_at (h.sees hs) (i := d - 1) (by omega)
        rcases hst with h1 | h1
        · omega
        · rw [hb, Bool.true_and] at h1
          rw [h1] at K
          exact K
  · rintro e w' ⟨rfl, hs⟩
    refine ⟨?_, hs⟩
    rcases Bool.eq_false_or_eq_true (wd ls i) with hh | hh
    · rw [if_pos hh, hwa hh]
      simp only [show i - (i - d) = d by omega]
    · rw [if_neg (by rw [hh]; exact Bool.false_ne_true), hwn hh]
      rfl
set_option maxHeartbeats 1000000 in
theorem end_s1 {F : Nat → Prop} {w : World} {a : Option Addr} {n cp : Nat} {ls : List Ln} {first : Int} (h : ShF F w (.slice a n cp) ls first) (gs : Nat) (g0 : w.cell? ⟨gs, 0, none⟩ = some (.slice a n cp)) (g1 : w.cell? ⟨gs, 1, none⟩ = some (.int .i64 first)) {i : Nat} (hi : i < ls.length * cols ls) :
    Calls Tryd.prog 66 #[.agg #[.slice a n cp, .int .i64 first], plV (plI ls first i), .func (.func 67) #[] #[.pointer (some ⟨gs, 0, none⟩)]] w fun e w' => e = .returned (plV (plI ls first (wA ls i))) ∧ Sees w w' := by
  have hle := dnF_le (fun a => tg ls a && wd ls a) i
  have hin := dnF_in (fun a => tg ls a && wd ls a) i
  have hst := dnF_stop (fun a => tg ls a && wd ls a) i
  have hwa : wd ls i = true → wA ls i = dnF (fun a => tg ls a && wd ls a) i := fun hh => by unfold wA; rw [if_pos hh]
  have hwn : wd ls i = false → wA ls i = i := fun hh => by unfold wA; rw [if_neg (by rw [hh]; exact Bool.false_ne_true)]
  generalize dnF (fun a => tg ls a && wd ls a) i = d at *
  refine (sh_end_s1 w a n cp first gs (fun k => plI ls first (i - k)) (i - d) (wd ls i) (ixI ls first) ?_ ?_ ?_ ?_ ?_).mono ?_
  · intro _ k hk
    simp only [ixI_pl]
    omega
  · intro W hs
    exact wordy_at (h.sees hs) hi
  · intro _ k hk W hs
    have hg := hin (i - (k + 1)) (by omega) (by omega)
    simp only [Bool.and_eq_true] at hg
    have K : ∀ V, Sees w V → Calls Tryd.prog 68 #[.agg #[.slice a n cp, .int .i64 first], plV (plI ls first (i - k))] V fun e w' => e = .returned (.tuple #[plV (plI ls first (i - (k + 1))), .bool true]) ∧ Sees V w' := fun V hv => by
      have K := prev_at (h.sees hv) (i := i - (k + 1)) (by omega)
      rw [show i - (k + 1) + 1 = i - k by omega, hg.1] at K
      exact K
    exact (sh_s1 W _ first gs _ _ _ _ _ a n cp rfl (hs.cell g0) (hs.cell g1) fun V hv => K V (hs.trans hv))
  · intro _ k hk W hs
    have hg := hin (i - (k + 1)) (by omega) (by omega)
    simp only [Bool.and_eq_true] at hg
    have K := wordy_at (h.sees hs) (i := i - (k + 1)) (by omega)
    rw [hg.2] at K
    exact K
  · intro _
    rcases Nat.eq_zero_or_pos d with h0 | h0
    · refine ⟨(first - 1, (cols ls : Int) - 1), false, fun W hs => ?_, fun hh => by cases hh⟩
      have K : ∀ V, Sees w V → Calls Tryd.prog 68 #[.agg #[.slice a n cp, .int .i64 first], plV (plI ls first (i - (i - d)))] V fun e w' => e = .returned (.tuple #[plV (first - 1, (cols ls : Int) - 1), .bool false]) ∧ Sees V w' := fun V hv => by
        have K := prev_zero (h.sees hv) (by omega)
        rw [show i - (i - d) = 0 by omega]
        exact K
      exact (sh_s1 W _ first gs _ _ _ _ _ a n cp rfl (hs.cell g0) (hs.cell g1) fun V hv => K V (hs.trans hv))
    · refine ⟨plI ls first (d - 1), tg ls (d - 1), fun W hs => ?_, fun hb W hs => ?_⟩
      · have K : ∀ V, Sees w V → Calls Tryd.prog 68 #[.agg #[.slice a n cp, .int .i64 first], plV (plI ls first (i - (i - d)))] V fun e w' => e = .returned (.tuple #[plV (plI ls first (d - 1)), .bool (tg ls (d - 1))]) ∧ Sees V w' := fun V hv => by
          have K := prev_at (h.sees hv) (i := d - 1) (by omega)
          rw [show d - 1 + 1 = i - (i - d) by omega] at K
          exact K
        exact (sh_s1 W _ first gs _ _ _ _ _ a n cp rfl (hs.cell g0) (hs.cell g1) fun V hv => K V (hs.trans hv))
      · have K := wordy_at (h.sees hs) (i := d - 1) (by omega)
        rcases hst with h1 | h1
        · omega
        · rw [hb, Bool.true_and] at h1
          rw [h1] at K
          exact K
  · rintro e w' ⟨rfl, hs⟩
    refine ⟨?_, hs⟩
    rcases Bool.eq_false_or_eq_true (wd ls i) with hh | hh
    · rw [if_pos hh, hwa hh]
      simp only [show i - (i - d) = d by omega]
    · rw [if_neg (by rw [hh]; exact Bool.false_ne_true), hwn hh]
      rfl
set_option maxHeartbeats 1000000 in
theorem end_mn {F : Nat → Prop} {w : World} {a : Option Addr} {n cp : Nat} {ls : List Ln} {first : Int} (h : ShF F w (.slice a n cp) ls first)  {i : Nat} (hi : i < ls.length * cols ls) :
    Calls Tryd.prog 66 #[.agg #[.slice a n cp, .int .i64 first], plV (plI ls first i), .func (.func 70) #[.agg #[.slice a n cp, .int .i64 first]] #[]] w fun e w' => e = .returned (plV (plI ls first (wB ls i))) ∧ Sees w w' := by
  have hle := upF_ge (fun a => tg ls a && wd ls (a + 1)) (ls.length * cols ls - i) i
  have hlt := upF_lt (fun a => tg ls a && wd ls (a + 1)) (ls.length * cols ls) (fun a ha => by simp only [tg_last ha, Bool.false_and]) (ls.length * cols ls - i) i hi
  have hin := upF_in (fun a => tg ls a && wd ls (a + 1)) (ls.length * cols ls - i) i
  have hst := upF_stop (fun a => tg ls a && wd ls (a + 1)) (ls.length * cols ls) (fun a ha => by simp only [tg_last ha, Bool.false_and]) (ls.length * cols ls - i) i (by omega)
  have hwa : wd ls i = true → wB ls i = upF (fun a => tg ls a && wd ls (a + 1)) (ls.length * cols ls - i) i := fun hh => by unfold wB; rw [if_pos hh]
  have hwn : wd ls i = false → wB ls i = i := fun hh => by unfold wB; rw [if_neg (by rw [hh]; exact Bool.false_ne_true)]
  generalize upF (fun a => tg ls a && wd ls (a + 1)) (ls.length * cols ls - i) i = d at *
  refine (sh_end_mn w a n cp first (fun k => plI ls first (i + k)) (d - i) (wd ls i) (fun l c => ls.length * cols ls - ixI ls first l c) ?_ ?_ ?_ ?_ ?_).mono ?_
  · intro _ k hk
    simp only [ixI_pl]
    omega
  · intro W hs
    exact wordy_at (h.sees hs) hi
  · intro _ k hk W hs
    have hg := hin (i + k) (by omega) (by omega)
    simp only [Bool.and_eq_true] at hg
    have K : ∀ V, Sees w V → Calls Tryd.prog 70 #[.agg #[.slice a n cp, .int .i64 first], plV (plI ls first (i + k))] V fun e w' => e = .returned (.tuple #[plV (plI ls first (i + (k + 1))), .bool true]) ∧ Sees V w' := fun V hv => by
      have K := next_at (h.sees hv) (i := i + k) (by omega)
      rw [hg.1] at K
      exact K
    exact K W hs
  · intro _ k hk W hs
    have hg := hin (i + k) (by omega) (by omega)
    simp only [Bool.and_eq_true] at hg
    have K := wordy_at (h.sees hs) (i := i + k + 1) (by omega)
    rw [hg.2] at K
    exact K
  · intro _
    rcases Nat.lt_or_eq_of_le (Nat.succ_le_of_lt hlt) with h0 | h0
    · refine ⟨plI ls first (d + 1), tg ls d, fun W hs => ?_, fun hb W hs => ?_⟩
      · have K : ∀ V, Sees w V → Calls Tryd.prog 70 #[.agg #[.slice a n cp, .int .i64 first], plV (plI ls first (i + (d - i)))] V fun e w' => e = .returned (.tuple #[plV (plI ls first (d + 1)), .bool (tg ls d)]) ∧ Sees V w' := fun V hv => by
          rw [show i + (d - i) = d by omega]
          exact next_at (h.sees hv) (i := d) h0
        exact K W hs
      · have K := wordy_at (h.sees hs) (i := d + 1) h0
        rw [hb, Bool.true_and] at hst
        rw [hst] at K
        exact K
    · obtain ⟨q, hq⟩ := next_end (F := F) (v := .slice a n cp) (first := first) h0
      refine ⟨q, false, fun W hs => ?_, fun hh => by cases hh⟩
      have K : ∀ V, Sees w V → Calls Tryd.prog 70 #[.agg #[.slice a n cp, .int .i64 first], plV (plI ls first (i + (d - i)))] V fun e w' => e = .returned (.tuple #[plV q, .bool false]) ∧ Sees V w' := fun V hv => by
        rw [show i + (d - i) = d by omega]
        exact hq V (h.sees hv)
      exact K W hs
  · rintro e w' ⟨rfl, hs⟩
    refine ⟨?_, hs⟩
    rcases Bool.eq_false_or_eq_true (wd ls i) with hh | hh
    · rw [if_pos hh, hwa hh]
      simp only [show i + (d - i) = d by omega]
    · rw [if_neg (by rw [hh]; exact Bool.false_ne_true), hwn hh]
      rfl
set_option maxHeartbeats 1000000 in
theorem end_s2 {F : Nat → Prop} {w : World} {a : Option Addr} {n cp : Nat} {ls : List Ln} {first : Int} (h : ShF F w (.slice a n cp) ls first) (gs : Nat) (g0 : w.cell? ⟨gs, 0, none⟩ = some (.slice a n cp)) (g1 : w.cell? ⟨gs, 1, none⟩ = some (.int .i64 first)) {i : Nat} (hi : i < ls.length * cols ls) :
    Calls Tryd.prog 66 #[.agg #[.slice a n cp, .int .i64 first], plV (plI ls first i), .func (.func 69) #[] #[.pointer (some ⟨gs, 0, none⟩)]] w fun e w' => e = .returned (plV (plI ls first (wB ls i))) ∧ Sees w w' := by
  have hle := upF_ge (fun a => tg ls a && wd ls (a + 1)) (ls.length * cols ls - i) i
  have hlt := upF_lt (fun a => tg ls a && wd ls (a + 1)) (ls.length * cols ls) (fun a ha => by simp only [tg_last ha, Bool.false_and]) (ls.length * cols ls - i) i hi
  have hin := upF_in (fun a => tg ls a && wd ls (a + 1)) (ls.length * cols ls - i) i
  have hst := upF_stop (fun a => tg ls a && wd ls (a + 1)) (ls.length * cols ls) (fun a ha => by simp only [tg_last ha, Bool.false_and]) (ls.length * cols ls - i) i (by omega)
  have hwa : wd ls i = true → wB ls i = upF (fun a => tg ls a && wd ls (a + 1)) (ls.length * cols ls - i) i := fun hh => by unfold wB; rw [if_pos hh]
  have hwn : wd ls i = false → wB ls i = i := fun hh => by unfold wB; rw [if_neg (by rw [hh]; exact Bool.false_ne_true)]
  generalize upF (fun a => tg ls a && wd ls (a + 1)) (ls.length * cols ls - i) i = d at *
  refine (sh_end_s2 w a n cp first gs (fun k => plI ls first (i + k)) (d - i) (wd ls i) (fun l c => ls.length * cols ls - ixI ls first l c) ?_ ?_ ?_ ?_ ?_).mono ?_
  · intro _ k hk
    simp only [ixI_pl]
    omega
  · intro W hs
    exact wordy_at (h.sees hs) hi
  · intro _ k hk W hs
    have hg := hin (i + k) (by omega) (by omega)
    simp only [Bool.and_eq_true] at hg
    have K : ∀ V, Sees w V → Calls Tryd.prog 70 #[.agg #[.slice a n cp, .int .i64 first], plV (plI ls first (i + k))] V fun e w' => e = .returned (.tuple #[plV (plI ls first (i + (k + 1))), .bool true]) ∧ Sees V w' := fun V hv => by
      have K := next_at (h.sees hv) (i := i + k) (by omega)
      rw [hg.1] at K
      exact K
    exact (sh_s2 W _ first gs _ _ _ _ _ a n cp rfl (hs.cell g0) (hs.cell g1) fun V hv => K V (hs.trans hv))
  · intro _ k hk W hs
    have hg := hin (i + k) (by omega) (by omega)
    simp only [Bool.and_eq_true] at hg
    have K := wordy_at (h.sees hs) (i := i + k + 1) (by omega)
    rw [hg.2] at K
    exact K
  · intro _
    rcases Nat.lt_or_eq_of_le (Nat.succ_le_of_lt hlt) with h0 | h0
    · refine ⟨plI ls first (d + 1), tg ls d, fun W hs => ?_, fun hb W hs => ?_⟩
      · have K : ∀ V, Sees w V → Calls Tryd.prog 70 #[.agg #[.slice a n cp, .int .i64 first], plV (plI ls first (i + (d - i)))] V fun e w' => e = .returned (.tuple #[plV (plI ls first (d + 1)), .bool (tg ls d)]) ∧ Sees V w' := fun V hv => by
          rw [show i + (d - i) = d by omega]
          exact next_at (h.sees hv) (i := d) h0
        exact (sh_s2 W _ first gs _ _ _ _ _ a n cp rfl (hs.cell g0) (hs.cell g1) fun V hv => K V (hs.trans hv))
      · have K := wordy_at (h.sees hs) (i := d + 1) h0
        rw [hb, Bool.true_and] at hst
        rw [hst] at K
        exact K
    · obtain ⟨q, hq⟩ := next_end (F := F) (v := .slice a n cp) (first := first) h0
      refine ⟨q, false, fun W hs => ?_, fun hh => by cases hh⟩
      have K : ∀ V, Sees w V → Calls Tryd.prog 70 #[.agg #[.slice a n cp, .int .i64 first], plV (plI ls first (i + (d - i)))] V fun e w' => e = .returned (.tuple #[plV q, .bool false]) ∧ Sees V w' := fun V hv => by
        rw [show i + (d - i) = d by omega]
        exact hq V (h.sees hv)
      exact (sh_s2 W _ first gs _ _ _ _ _ a n cp rfl (hs.cell g0) (hs.cell g1) fun V hv => K V (hs.trans hv))
  · rintro e w' ⟨rfl, hs⟩
    refine ⟨?_, hs⟩
    rcases Bool.eq_false_or_eq_true (wd ls i) with hh | hh
    · rw [if_pos hh, hwa hh]
      simp only [show i + (d - i) = d by omega]
    · rw [if_neg (by rw [hh]; exact Bool.false_ne_true), hwn hh]
      rfl
end Go.Proofs.YtooiiefipdjbjaaDoor

namespace Go.Proofs.YtooiiefipdjbjaaDoor
set_option linter.unusedVariables false
set_option linter.unusedSimpArgs false
open Go.RowKit

/-- A span: a row and its columns. -/
structure Sn where
  row : Int
  f : Int
  t : Int
  deriving DecidableEq
def Sn.val (m : Sn) : Value := .agg #[.int .i64 m.row, .int .i64 m.f, .int .i64 m.t]
def snEl : El Sn := wordsEl 42 3 (fun m => [.int .i64 m.row, .int .i64 m.f, .int .i64 m.t]) (by decide) (fun _ => rfl) (by intro x v hv; simp at hv; rcases hv with rfl | rfl | rfl <;> rfl)
theorem typedSn : El.Typed Tryd.prog snEl 35 := El.typed_of (z := .agg #[.int .i64 0, .int .i64 0, .int .i64 0]) (bytes := 24) Tryd.underlying35 (by kernel_rfl) rfl (by decide)
def SnAt (W : World) (b : Nat) (m : Sn) : Prop := W.heap[b]? = some (.cells #[.int .i64 m.row, .int .i64 m.f, .int .i64 m.t] 42 (0, 0))
namespace SnAt
variable {W W' : World} {b : Nat} {m : Sn}
theorem lt (h : SnAt W b m) : b < W.heap.size := (Array.getElem?_eq_some_iff.1 h).1
theorem keeps {F : Nat → Prop} (h : SnAt W b m) (hk : Keeps F W W') (hF : ¬ F b) : SnAt W' b m := by
  unfold SnAt; rw [hk.block _ h.lt hF]; exact h
theorem sees (h : SnAt W b m) (hs : Sees W W') : SnAt W' b m := h.keeps (Keeps.of_sees (F := fun _ => False) hs) (fun h => h)
theorem c (h : SnAt W b m) : W.cell? ⟨b, 0, none⟩ = some (.int .i64 m.row) ∧ W.cell? ⟨b, 1, none⟩ = some (.int .i64 m.f) ∧ W.cell? ⟨b, 2, none⟩ = some (.int .i64 m.t) := by
  refine ⟨?_, ?_, ?_⟩ <;> rw [cell_of_row _ _ _ _ _ _ h] <;> rfl
theorem fr (h : SnAt W b m) : ∀ i, W.frozen? ⟨b, i, none⟩ = false := fun i => frozen_of_row W b i _ _ h
end SnAt
theorem sn_isAgg : ∀ W, (isAgg 42).run Tryd.prog W = .ok true W := fun _ => by kernel_rfl
theorem sn_sizeOf : ∀ W, (sizeOf 42).run Tryd.prog W = .ok 3 W := fun _ => by kernel_rfl
theorem run_loadSn {W : World} {b : Nat} {m : Sn} (h : SnAt W b m) : (Instr.loadAt 42 (.pointer (some ⟨b, 0, none⟩))).run Tryd.prog W = .ok m.val W :=
  run_load_agg 42 b 0 [.int .i64 m.row, .int .i64 m.f, .int .i64 m.t] sn_isAgg sn_sizeOf fun j x hx => by
    rw [Nat.zero_add, Go.cell_of_row W b _ _ _ _ h]
    simpa using hx
theorem sn_cell {F : Nat → Prop} {w : World} {a : Option Addr} {n c : Nat} {xs : List Sn} (h : snEl.Rd F w (.slice a n c) xs) {k : Nat} (hk : k < n) : ∃ b o x, a = some ⟨b, o, none⟩ ∧ xs[k]? = some x ∧ w.cell? ⟨b, o + k * 3, none⟩ = some (.int .i64 x.row) ∧ w.cell? ⟨b, o + k * 3 + 1, none⟩ = some (.int .i64 x.f) ∧ w.cell? ⟨b, o + k * 3 + 2, none⟩ = some (.int .i64 x.t) := by
  obtain ⟨b, o, x, vs, ha, _, hx, hv, hc⟩ := h.at_ hk
  have e : vs = [.int .i64 x.row, .int .i64 x.f, .int .i64 x.t] := hv
  subst e
  have h0 := hc 0 _ rfl
  have h1 := hc 1 _ rfl
  have h2 := hc 2 _ rfl
  exact ⟨b, o, x, ha, hx, h0, h1, h2⟩

def widAt (cs : List Cell) (j : Nat) : Int := match cs[j]? with
  | some d => d.width
  | none => 1
/-- The width of the cell in a row and a column. -/
def widI (ls : List Ln) (i j : Nat) : Int := match ls[i]? with
  | some x => widAt x.cells j
  | none => 1
/-- The columns of a choice from the index a up to the index b in a row. -/
def rawF (ls : List Ln) (kd : Int) (a i c0 c1 : Nat) : Nat := if kd = 4 then min c0 c1 else if i = a / cols ls then a % cols ls else 0
def rawT (ls : List Ln) (kd : Int) (b i c0 c1 : Nat) : Nat := if kd = 4 then max c0 c1 + 1 else if i = b / cols ls then b % cols ls + 1 else cols ls
def fixF (ls : List Ln) (i f : Nat) : Nat := if widI ls i f = 0 then f - 1 else f
def fixU (ls : List Ln) (i t : Nat) : Nat := if widI ls i (t - 1) = 2 then t + 1 else t
def spF (ls : List Ln) (kd : Int) (a i c0 c1 : Nat) : Nat := fixF ls i (rawF ls kd a i c0 c1)
def spT (ls : List Ln) (kd : Int) (b i c0 c1 : Nat) : Nat := fixU ls i (rawT ls kd b i c0 c1)
/-- The indices of the first and the last cell of a choice that was made from one index to another one behind it. -/
def chA (ls : List Ln) (kd : Int) (i0 : Nat) : Nat := if kd = 2 then wA ls i0 else if kd = 3 then topI ls (i0 / cols ls) * cols ls else i0
def chB (ls : List Ln) (kd : Int) (i1 : Nat) : Nat := if kd = 2 then wB ls i1 else if kd = 3 then botI ls (i1 / cols ls) * cols ls + (cols ls - 1) else i1
def spTo (ls : List Ln) (first kd : Int) (a b c0 c1 : Nat) (j : Nat) : List Sn := (List.range j).map fun q => ⟨first + ((a / cols ls + q : Nat) : Int), (spF ls kd a (a / cols ls + q) c0 c1 : Nat), (spT ls kd b (a / cols ls + q) c0 c1 : Nat)⟩
/-- The spans of a choice between two indices. -/
def spansL (ls : List Ln) (first kd : Int) (x y : Nat) : List Sn := spTo ls first kd (chA ls kd (min x y)) (chB ls kd (max x y)) (x % cols ls) (y % cols ls) (chB ls kd (max x y) / cols ls + 1 - chA ls kd (min x y) / cols ls)
theorem spTo_step (ls : List Ln) (first kd : Int) (a b c0 c1 j : Nat) : spTo ls first kd a b c0 c1 (j + 1) = spTo ls first kd a b c0 c1 j ++ [⟨first + ((a / cols ls + j : Nat) : Int), (spF ls kd a (a / cols ls + j) c0 c1 : Nat), (spT ls kd b (a / cols ls + j) c0 c1 : Nat)⟩] := by
  unfold spTo
  rw [List.range_succ, List.map_append]
  rfl
theorem spTo_len (ls : List Ln) (first kd : Int) (a b c0 c1 j : Nat) : (spTo ls first kd a b c0 c1 j).length = j := by unfold spTo; simp
theorem spTo_at {ls : List Ln} {first kd : Int} {a b c0 c1 j q : Nat} (h : q < j) : (spTo ls first kd a b c0 c1 j)[q]? = some ⟨first + ((a / cols ls + q : Nat) : Int), (spF ls kd a (a / cols ls + q) c0 c1 : Nat), (spT ls kd b (a / cols ls + q) c0 c1 : Nat)⟩ := by
  unfold spTo
  rw [List.getElem?_map, List.getElem?_range h]
  rfl
theorem softI {ls : List Ln} {i : Nat} : softAt ls i = true → i < ls.length := fun h => by
  unfold softAt at h
  split at h
  · rename_i x hx
    exact (List.getElem?_eq_some_iff.1 hx).1
  · cases h
theorem topI_lt {ls : List Ln} {i : Nat} (h : i < ls.length) : topI ls i < ls.length := Nat.lt_of_le_of_lt (topI_le ls i) h
theorem chA_le {ls : List Ln} {kd : Int} {i : Nat} : chA ls kd i ≤ i := by
  unfold chA
  split
  · exact wA_le ls i
  · split
    · have h1 := topI_le ls (i / cols ls)
      have h2 := Nat.mul_le_mul_right (cols ls) h1
      have h3 := Nat.div_mul_le_self i (cols ls)
      omega
    · exact Nat.le_refl _
theorem chB_ge {ls : List Ln} {kd : Int} {i : Nat} (hM : 0 < cols ls) : i ≤ chB ls kd i := by
  unfold chB
  split
  · exact wB_ge ls i
  · split
    · have h1 := botI_ge ls (i / cols ls)
      have h2 := Nat.mul_le_mul_right (cols ls) h1
      have h3 := Nat.div_add_mod' i (cols ls)
      have h4 := Nat.mod_lt i hM
      omega
    · exact Nat.le_refl _
theorem chB_lt {ls : List Ln} {kd : Int} {i : Nat} (h : i < ls.length * cols ls) : chB ls kd i < ls.length * cols ls := by
  have hM : 0 < cols ls := by
    rcases Nat.eq_zero_or_pos (cols ls) with h2 | h2
    · rw [h2] at h; omega
    · exact h2
  unfold chB
  split
  · exact wB_lt h
  · split
    · have h1 := botI_lt (dm_row hM h)
      have h2 := Nat.mul_le_mul_right (cols ls) (Nat.succ_le_of_lt h1)
      rw [Nat.succ_mul] at h2
      omega
    · exact h
/-- The rows of a choice. -/
theorem ch_rows {ls : List Ln} {kd : Int} {x y : Nat} (hx : x < ls.length * cols ls) (hy : y < ls.length * cols ls) : 0 < cols ls ∧ chA ls kd (min x y) ≤ min x y ∧ max x y ≤ chB ls kd (max x y) ∧ chB ls kd (max x y) < ls.length * cols ls ∧ chA ls kd (min x y) / cols ls ≤ chB ls kd (max x y) / cols ls ∧ chB ls kd (max x y) / cols ls < ls.length := by
  have hM : 0 < cols ls := by
    rcases Nat.eq_zero_or_pos (cols ls) with h2 | h2
    · rw [h2] at hx; omega
    · exact h2
  have h1 := chA_le (ls := ls) (kd := kd) (i := min x y)
  have h2 := chB_ge (ls := ls) (kd := kd) (i := max x y) hM
  have h3 := chB_lt (ls := ls) (kd := kd) (i := max x y) (by omega)
  exact ⟨hM, h1, h2, h3, Nat.div_le_div_right (by omega), dm_row hM h3⟩
/-- What the columns of a row are, before and after the wide cells are taken whole. -/
theorem raw_lt {ls : List Ln} {kd : Int} {a b i c0 c1 : Nat} (hM : 0 < cols ls) (h0 : c0 < cols ls) (h1 : c1 < cols ls) : rawF ls kd a i c0 c1 < cols ls ∧ 1 ≤ rawT ls kd b i c0 c1 ∧ rawT ls kd b i c0 c1 ≤ cols ls := by
  have ha := Nat.mod_lt a hM
  have hb := Nat.mod_lt b hM
  unfold rawF rawT
  refine ⟨?_, ?_, ?_⟩
  · split
    · omega
    · split <;> omega
  · split
    · omega
    · split <;> omega
  · split
    · omega
    · split <;> omega
theorem wid_ok {ls : List Ln} (h : ∀ x ∈ ls, x.cells.length = cols ls ∧ lnOk x.cells = true ∧ 0 < x.cells.length) {i j : Nat} (hi : i < ls.length) (hj : j < cols ls) : (widI ls i j = 0 → 1 ≤ j ∧ widI ls i (j - 1) = 2) ∧ (widI ls i j = 2 → j + 1 < cols ls ∧ widI ls i (j + 1) = 0) := by
  have hx := List.getElem?_eq_getElem hi
  generalize ls[i] = x at hx
  obtain ⟨h1, h2, _⟩ := h x (List.mem_iff_getElem?.2 ⟨_, hx⟩)
  obtain ⟨d, hd⟩ : ∃ d, x.cells[j]? = some d := ⟨_, List.getElem?_eq_getElem (by omega)⟩
  have e : ∀ k, widI ls i k = widAt x.cells k := fun k => by unfold widI; rw [hx]
  rw [e, e, e]
  have e2 : widAt x.cells j = d.width := by unfold widAt; rw [hd]
  rw [e2]
  constructor
  · intro hw
    obtain ⟨h3, p, hp, hp2⟩ := row_sp (lnOk_rowOk h2) hd hw
    exact ⟨h3, by unfold widAt; rw [hp]; exact hp2⟩
  · intro hw
    have h3 := row_wide (lnOk_rowOk h2) hd hw
    refine ⟨by omega, ?_⟩
    obtain ⟨p, hp⟩ : ∃ p, x.cells[j + 1]? = some p := ⟨_, List.getElem?_eq_getElem h3⟩
    have h4 := row_not (lnOk_rowOk h2) hp
    unfold widAt
    rw [hp]
    rw [show behindAt x.cells (j + 1) = (d.width == 2) by unfold behindAt; simp only [hd], hw] at h4
    unfold cellBad at h4
    simp at h4
    exact h4.1.1.2
theorem fix_lt {ls : List Ln} (h : ∀ x ∈ ls, x.cells.length = cols ls ∧ lnOk x.cells = true ∧ 0 < x.cells.length) {i : Nat} (hi : i < ls.length) {f t : Nat} (hf : f < cols ls) (ht : 1 ≤ t) (htM : t ≤ cols ls) : fixF ls i f ≤ f ∧ t ≤ fixU ls i t ∧ fixU ls i t ≤ cols ls := by
  unfold fixF fixU
  refine ⟨?_, ?_, ?_⟩
  · split <;> omega
  · split <;> omega
  · split
    · rename_i hw
      have := ((wid_ok h hi (show t - 1 < cols ls by omega)).2 hw).1
      omega
    · exact htM
end Go.Proofs.YtooiiefipdjbjaaDoor

namespace Go.Proofs.YtooiiefipdjbjaaDoor
set_option linter.unusedVariables false
set_option linter.unusedSimpArgs false
open Go.RowKit

theorem topI_stop (ls : List Ln) : ∀ i, topI ls i = 0 ∨ softAt ls (topI ls i - 1) = false
  | 0 => .inl rfl
  | i + 1 => by
    rw [topI]
    split
    · exact topI_stop ls i
    · rename_i h
      exact .inr (by simpa using h)
theorem topI_top (ls : List Ln) (i : Nat) : topI ls (topI ls i) = topI ls i := by
  rcases topI_stop ls i with h | h
  · rw [h]; rfl
  · generalize topI ls i = t at *
    cases t with
    | zero => rfl
    | succ t =>
      rw [Nat.add_sub_cancel] at h
      rw [topI, if_neg (by rw [h]; exact Bool.false_ne_true)]
theorem botF_stop (ls : List Ln) : ∀ f i, ls.length ≤ i + f → (¬ (botF ls f i + 1 < ls.length) ∨ softAt ls (botF ls f i) = false)
  | 0, i, h => .inl (by rw [botF]; omega)
  | f + 1, i, h => by
    rw [botF]
    split
    · exact botF_stop ls f (i + 1) (by omega)
    · rename_i h2
      rw [Bool.and_eq_true, decide_eq_true_eq] at h2
      by_cases h3 : i + 1 < ls.length
      · exact .inr (by simpa using fun h4 => h2 ⟨h3, h4⟩)
      · exact .inl h3
theorem botI_stop (ls : List Ln) (i : Nat) : ¬ (botI ls i + 1 < ls.length) ∨ softAt ls (botI ls i) = false := botF_stop ls _ i (by omega)
theorem botI_bot (ls : List Ln) (i : Nat) : botI ls (botI ls i) = botI ls i := botI_end (botI_stop ls i)
/-- A word stays in its logical line. -/
theorem wA_top {ls : List Ln} (hM : 0 < cols ls) (i : Nat) : topI ls (i / cols ls) * cols ls ≤ wA ls i := by
  have ht := topI_le ls (i / cols ls)
  have hst := topI_stop ls (i / cols ls)
  generalize topI ls (i / cols ls) = t at *
  have h1 : t * cols ls ≤ i := Nat.le_trans (Nat.mul_le_mul_right _ ht) (Nat.div_mul_le_self i _)
  rcases Nat.lt_or_ge (wA ls i) (t * cols ls) with h | h
  · exfalso
    have hw : wd ls i = true := by
      rcases Bool.eq_false_or_eq_true (wd ls i) with hh | hh
      · exact hh
      · unfold wA at h; rw [if_neg (by rw [hh]; exact Bool.false_ne_true)] at h; omega
    unfold wA at h
    rw [if_pos hw] at h
    cases t with
    | zero => omega
    | succ t =>
      have e : (t + 1) * cols ls - 1 = t * cols ls + (cols ls - 1) := by rw [Nat.succ_mul]; omega
      have hg := dnF_in (fun a => tg ls a && wd ls a) i ((t + 1) * cols ls - 1) (by omega) (by omega)
      simp only [Bool.and_eq_true] at hg
      have htg := hg.1
      unfold tg at htg
      obtain ⟨g1, g2⟩ := dm (r := t) (show cols ls - 1 < cols ls by omega)
      obtain ⟨g3, g4⟩ := dm (r := t + 1) hM
      rw [e, show t * cols ls + (cols ls - 1) + 1 = (t + 1) * cols ls + 0 by rw [Nat.succ_mul]; omega, g4, g1] at htg
      rcases hst with h2 | h2
      · omega
      · rw [Nat.add_sub_cancel] at h2
        rw [h2] at htg
        simp at htg
  · exact h
theorem wB_bot {ls : List Ln} {i : Nat} (hi : i < ls.length * cols ls) : wB ls i ≤ botI ls (i / cols ls) * cols ls + (cols ls - 1) := by
  have hM : 0 < cols ls := by
    rcases Nat.eq_zero_or_pos (cols ls) with h2 | h2
    · rw [h2] at hi; omega
    · exact h2
  have ht := botI_ge ls (i / cols ls)
  have hst := botI_stop ls (i / cols ls)
  generalize botI ls (i / cols ls) = t at *
  have h0 := Nat.mod_lt i hM
  have h1 := Nat.div_add_mod' i (cols ls)
  have h2 := Nat.mul_le_mul_right (cols ls) ht
  rcases Nat.lt_or_ge (t * cols ls + (cols ls - 1)) (wB ls i) with h | h
  · exfalso
    have hw : wd ls i = true := by
      rcases Bool.eq_false_or_eq_true (wd ls i) with hh | hh
      · exact hh
      · unfold wB at h; rw [if_neg (by rw [hh]; exact Bool.false_ne_true)] at h; omega
    unfold wB at h
    rw [if_pos hw] at h
    have hg := upF_in (fun a => tg ls a && wd ls (a + 1)) (ls.length * cols ls - i) i (t * cols ls + (cols ls - 1)) (by omega) h
    simp only [Bool.and_eq_true] at hg
    have htg := hg.1
    unfold tg at htg
    obtain ⟨g1, g2⟩ := dm (r := t) (show cols ls - 1 < cols ls by omega)
    obtain ⟨g3, g4⟩ := dm (r := t + 1) hM
    rw [show t * cols ls + (cols ls - 1) + 1 = (t + 1) * cols ls + 0 by rw [Nat.succ_mul]; omega, g4, g1] at htg
    rcases hst with h3 | h3
    · simp only [Bool.and_eq_true, decide_eq_true_eq] at htg
      have h4 := htg.1
      have h5 := Nat.lt_of_mul_lt_mul_right (show (t + 1) * cols ls < ls.length * cols ls by omega)
      omega
    · rw [h3] at htg
      simp at htg
  · exact h
theorem spansL_swap (ls : List Ln) (first kd : Int) (x y : Nat) : spansL ls first kd y x = spansL ls first kd x y := by
  unfold spansL spTo spF spT rawF rawT
  simp only [Nat.min_comm y x, Nat.max_comm y x, Nat.min_comm (y % cols ls) (x % cols ls), Nat.max_comm (y % cols ls) (x % cols ls)]
/-- Is a place in one of the spans? -/
def snHas (S : List Sn) (l c : Int) : Bool := S.any fun s => s.row == l && (decide (s.f ≤ c) && decide (c < s.t))
theorem snHas_of {S : List Sn} {l c : Int} {q : Nat} {s : Sn} (h : S[q]? = some s) (h1 : s.row = l) (h2 : s.f ≤ c) (h3 : c < s.t) : snHas S l c = true := by
  unfold snHas
  rw [List.any_eq_true]
  exact ⟨s, List.mem_iff_getElem?.2 ⟨_, h⟩, by simp [h1, h2, h3]⟩
theorem spansL_len (ls : List Ln) (first kd : Int) (x y : Nat) : (spansL ls first kd x y).length = chB ls kd (max x y) / cols ls + 1 - chA ls kd (min x y) / cols ls := by unfold spansL; rw [spTo_len]
theorem spansL_at {ls : List Ln} {first kd : Int} {x y r : Nat} (h1 : chA ls kd (min x y) / cols ls ≤ r) (h2 : r ≤ chB ls kd (max x y) / cols ls) :
    (spansL ls first kd x y)[r - chA ls kd (min x y) / cols ls]? = some ⟨first + (r : Int), (spF ls kd (chA ls kd (min x y)) r (x % cols ls) (y % cols ls) : Nat), (spT ls kd (chB ls kd (max x y)) r (x % cols ls) (y % cols ls) : Nat)⟩ := by
  unfold spansL
  rw [spTo_at (by omega), show chA ls kd (min x y) / cols ls + (r - chA ls kd (min x y) / cols ls) = r by omega]
theorem spansL_mem {ls : List Ln} {first kd : Int} {x y q : Nat} {s : Sn} (h : (spansL ls first kd x y)[q]? = some s) : ∃ r, chA ls kd (min x y) / cols ls ≤ r ∧ r ≤ chB ls kd (max x y) / cols ls ∧ s = ⟨first + (r : Int), (spF ls kd (chA ls kd (min x y)) r (x % cols ls) (y % cols ls) : Nat), (spT ls kd (chB ls kd (max x y)) r (x % cols ls) (y % cols ls) : Nat)⟩ := by
  have hl := (List.getElem?_eq_some_iff.1 h).1
  rw [spansL_len] at hl
  refine ⟨chA ls kd (min x y) / cols ls + q, by omega, by omega, ?_⟩
  have h2 := spansL_at (ls := ls) (first := first) (kd := kd) (x := x) (y := y) (r := chA ls kd (min x y) / cols ls + q) (by omega) (by omega)
  rw [Nat.add_sub_cancel_left, h] at h2
  exact Option.some.inj h2
theorem fixF_mono (ls : List Ln) (i : Nat) {f g : Nat} (h : f ≤ g) : fixF ls i f ≤ fixF ls i g := by
  rcases Nat.lt_or_eq_of_le h with h | rfl
  · unfold fixF; split <;> split <;> omega
  · exact Nat.le_refl _
theorem fixU_mono (ls : List Ln) (i : Nat) {f g : Nat} (h : f ≤ g) : fixU ls i f ≤ fixU ls i g := by
  rcases Nat.lt_or_eq_of_le h with h | rfl
  · unfold fixU; split <;> split <;> omega
  · exact Nat.le_refl _
theorem fixF_le (ls : List Ln) (i f : Nat) : fixF ls i f ≤ f := by unfold fixF; split <;> omega
theorem fixU_ge (ls : List Ln) (i f : Nat) : f ≤ fixU ls i f := by unfold fixU; split <;> omega
theorem dm_le {a b M : Nat} (h : a ≤ b) (he : a / M = b / M) : a % M ≤ b % M := by
  have h1 := Nat.div_add_mod' a M
  have h2 := Nat.div_add_mod' b M
  rw [he] at h1
  omega
/-- A cell between the first and the last one is in the spans. -/
theorem has_between {ls : List Ln} {first kd : Int} {x y z : Nat} (hM : 0 < cols ls) (hk : kd ≠ 4) (h1 : chA ls kd (min x y) ≤ z) (h2 : z ≤ chB ls kd (max x y)) : snHas (spansL ls first kd x y) (plI ls first z).1 (plI ls first z).2 = true := by
  have d1 := Nat.div_le_div_right (c := cols ls) h1
  have d2 := Nat.div_le_div_right (c := cols ls) h2
  have hz := Nat.mod_lt z hM
  refine snHas_of (spansL_at d1 d2) rfl ?_ ?_
  · show ((spF ls kd _ (z / cols ls) _ _ : Nat) : Int) ≤ ((z % cols ls : Nat) : Int)
    have e : rawF ls kd (chA ls kd (min x y)) (z / cols ls) (x % cols ls) (y % cols ls) ≤ z % cols ls := by
      unfold rawF
      rw [if_neg hk]
      split
      · rename_i h; exact dm_le h1 h.symm
      · omega
    have := fixF_le ls (z / cols ls) (rawF ls kd (chA ls kd (min x y)) (z / cols ls) (x % cols ls) (y % cols ls))
    unfold spF
    omega
  · show ((z % cols ls : Nat) : Int) < ((spT ls kd _ (z / cols ls) _ _ : Nat) : Int)
    have e : z % cols ls < rawT ls kd (chB ls kd (max x y)) (z / cols ls) (x % cols ls) (y % cols ls) := by
      unfold rawT
      rw [if_neg hk]
      split
      · rename_i h; have := dm_le h2 h; omega
      · omega
    have := fixU_ge ls (z / cols ls) (rawT ls kd (chB ls kd (max x y)) (z / cols ls) (x % cols ls) (y % cols ls))
    unfold spT
    omega
/-- Both places of a choice are in its spans. -/
theorem has_both {ls : List Ln} {first kd : Int} {x y z : Nat} (hx : x < ls.length * cols ls) (hy : y < ls.length * cols ls) (hz : z = x ∨ z = y) : snHas (spansL ls first kd x y) (plI ls first z).1 (plI ls first z).2 = true := by
  obtain ⟨hM, h1, h2, h3, h4, h5⟩ := ch_rows (kd := kd) hx hy
  have g1 : chA ls kd (min x y) ≤ z := by omega
  have g2 : z ≤ chB ls kd (max x y) := by omega
  by_cases hk : kd = 4
  · have d1 := Nat.div_le_div_right (c := cols ls) g1
    have d2 := Nat.div_le_div_right (c := cols ls) g2
    refine snHas_of (spansL_at d1 d2) rfl ?_ ?_
    · show ((spF ls kd _ (z / cols ls) _ _ : Nat) : Int) ≤ ((z % cols ls : Nat) : Int)
      have := fixF_le ls (z / cols ls) (rawF ls kd (chA ls kd (min x y)) (z / cols ls) (x % cols ls) (y % cols ls))
      have e : rawF ls kd (chA ls kd (min x y)) (z / cols ls) (x % cols ls) (y % cols ls) = min (x % cols ls) (y % cols ls) := by unfold rawF; rw [if_pos hk]
      unfold spF
      rcases hz with rfl | rfl <;> omega
    · show ((z % cols ls : Nat) : Int) < ((spT ls kd _ (z / cols ls) _ _ : Nat) : Int)
      have := fixU_ge ls (z / cols ls) (rawT ls kd (chB ls kd (max x y)) (z / cols ls) (x % cols ls) (y % cols ls))
      have e : rawT ls kd (chB ls kd (max x y)) (z / cols ls) (x % cols ls) (y % cols ls) = max (x % cols ls) (y % cols ls) + 1 := by unfold rawT; rw [if_pos hk]
      unfold spT
      rcases hz with rfl | rfl <;> omega
  · exact has_between hM hk g1 g2
/-- What is chosen by cells is chosen by words, and what by words by lines. -/
theorem ch_wide {ls : List Ln} {x y : Nat} (hx : x < ls.length * cols ls) (hy : y < ls.length * cols ls) (kd ke : Int) (h : (kd = 1 ∧ ke = 2) ∨ (kd = 2 ∧ ke = 3) ∨ (kd = 3 ∧ ke = 3)) : chA ls ke (min x y) ≤ chA ls kd (min x y) ∧ chB ls kd (max x y) ≤ chB ls ke (max x y) := by
  obtain ⟨hM, h1, h2, h3, h4, h5⟩ := ch_rows (kd := ke) hx hy
  rcases h with ⟨rfl, rfl⟩ | ⟨rfl, rfl⟩ | ⟨rfl, rfl⟩
  · exact ⟨h1, h2⟩
  · exact ⟨wA_top hM _, wB_bot (by omega)⟩
  · exact ⟨Nat.le_refl _, Nat.le_refl _⟩
theorem raw_some {ls : List Ln} {kd : Int} {a b r c0 c1 : Nat} (hM : 0 < cols ls) (hk : kd ≠ 4) (hab : a ≤ b) : rawF ls kd a r c0 c1 < rawT ls kd b r c0 c1 := by
  have ha := Nat.mod_lt a hM
  unfold rawF rawT
  rw [if_neg hk, if_neg hk]
  split
  · split
    · rename_i h1 h2
      have := dm_le hab (h1.symm.trans h2)
      omega
    · omega
  · split <;> omega
theorem has_wide {ls : List Ln} {first kd ke : Int} {x y q : Nat} {s : Sn} (hx : x < ls.length * cols ls) (hy : y < ls.length * cols ls) (hw : (kd = 1 ∧ ke = 2) ∨ (kd = 2 ∧ ke = 3) ∨ (kd = 3 ∧ ke = 3)) (h : (spansL ls first kd x y)[q]? = some s) : snHas (spansL ls first ke x y) s.row s.f = true ∧ snHas (spansL ls first ke x y) s.row (s.t - 1) = true := by
  obtain ⟨hA, hB⟩ := ch_wide hx hy kd ke hw
  obtain ⟨hM, h1, h2, h3, h4, h5⟩ := ch_rows (kd := kd) hx hy
  obtain ⟨r, hr1, hr2, rfl⟩ := spansL_mem h
  have d1 := Nat.div_le_div_right (c := cols ls) hA
  have d2 := Nat.div_le_div_right (c := cols ls) hB
  have hk : kd ≠ 4 := by omega
  have hk2 : ke ≠ 4 := by omega
  have e1 : spF ls ke (chA ls ke (min x y)) r (x % cols ls) (y % cols ls) ≤ spF ls kd (chA ls kd (min x y)) r (x % cols ls) (y % cols ls) := by
    refine fixF_mono ls r ?_
    unfold rawF
    rw [if_neg hk, if_neg hk2]
    split
    · rename_i hr
      have e : chA ls kd (min x y) / cols ls = r := by omega
      rw [if_pos e.symm]
      exact dm_le hA (by omega)
    · omega
  have e2 : spT ls kd (chB ls kd (max x y)) r (x % cols ls) (y % cols ls) ≤ spT ls ke (chB ls ke (max x y)) r (x % cols ls) (y % cols ls) := by
    refine fixU_mono ls r ?_
    unfold rawT
    rw [if_neg hk, if_neg hk2]
    have hb := Nat.mod_lt (chB ls kd (max x y)) hM
    split
    · split
      · rename_i g1 g2
        have := dm_le hB (g1.symm.trans g2)
        omega
      · omega
    · split
      · rename_i g1 g2
        omega
      · omega
  have e3 : spF ls kd (chA ls kd (min x y)) r (x % cols ls) (y % cols ls) < spT ls kd (chB ls kd (max x y)) r (x % cols ls) (y % cols ls) := by
    have g1 := raw_some (kd := kd) (r := r) (c0 := x % cols ls) (c1 := y % cols ls) hM hk (show chA ls kd (min x y) ≤ chB ls kd (max x y) by omega)
    have g2 := fixF_le ls r (rawF ls kd (chA ls kd (min x y)) r (x % cols ls) (y % cols ls))
    have g3 := fixU_ge ls r (rawT ls kd (chB ls kd (max x y)) r (x % cols ls) (y % cols ls))
    unfold spF spT
    omega
  exact ⟨snHas_of (spansL_at (by omega) (by omega)) rfl (by simp only []; omega) (by simp only []; omega), snHas_of (spansL_at (by omega) (by omega)) rfl (by simp only []; omega) (by simp only []; omega)⟩
/-- One whole logical line, by lines, by cells and by words. -/
theorem whole_line {ls : List Ln} (first : Int) {i : Nat} (hi : i < ls.length * cols ls) (kd : Int) (hk : kd = 1 ∨ kd = 2) : spansL ls first kd (topI ls (i / cols ls) * cols ls) (botI ls (i / cols ls) * cols ls + (cols ls - 1)) = spansL ls first 3 (topI ls (i / cols ls) * cols ls) (botI ls (i / cols ls) * cols ls) := by
  have hM : 0 < cols ls := by
    rcases Nat.eq_zero_or_pos (cols ls) with h2 | h2
    · rw [h2] at hi; omega
    · exact h2
  have hr := dm_row hM hi
  have h1 := topI_le ls (i / cols ls)
  have h2 := botI_ge ls (i / cols ls)
  have h3 := botI_lt hr
  have h4 := topI_top ls (i / cols ls)
  have h5 := botI_bot ls (i / cols ls)
  generalize topI ls (i / cols ls) = t at *
  generalize botI ls (i / cols ls) = b at *
  have h6 : t * cols ls ≤ b * cols ls := Nat.mul_le_mul_right _ (by omega)
  have h7 := Nat.mul_le_mul_right (cols ls) (Nat.succ_le_of_lt h3)
  rw [Nat.succ_mul] at h7
  obtain ⟨g1, g2⟩ := dm (r := t) hM
  obtain ⟨g3, g4⟩ := dm (r := b) hM
  obtain ⟨g5, g6⟩ := dm (r := b) (show cols ls - 1 < cols ls by omega)
  rw [Nat.add_zero] at g1 g2 g3 g4
  have ha3 : chA ls 3 (t * cols ls) = t * cols ls := by unfold chA; rw [if_neg (by decide), if_pos rfl, g1, h4]
  have hb3 : chB ls 3 (b * cols ls) = b * cols ls + (cols ls - 1) := by unfold chB; rw [if_neg (by decide), if_pos rfl, g3, h5]
  have ha : chA ls kd (t * cols ls) = t * cols ls := by
    rcases hk with rfl | rfl
    · rfl
    · have q1 := wA_top hM (t * cols ls)
      have q2 := wA_le ls (t * cols ls)
      rw [g1, h4] at q1
      show wA ls _ = _
      omega
  have hb : chB ls kd (b * cols ls + (cols ls - 1)) = b * cols ls + (cols ls - 1) := by
    rcases hk with rfl | rfl
    · rfl
    · have q1 := wB_bot (show b * cols ls + (cols ls - 1) < ls.length * cols ls by omega)
      have q2 := wB_ge ls (b * cols ls + (cols ls - 1))
      rw [g5, h5] at q1
      show wB ls _ = _
      omega
  have hk4 : kd ≠ 4 := by omega
  unfold spansL
  rw [show min (t * cols ls) (b * cols ls + (cols ls - 1)) = t * cols ls by omega, show max (t * cols ls) (b * cols ls + (cols ls - 1)) = b * cols ls + (cols ls - 1) by omega, show min (t * cols ls) (b * cols ls) = t * cols ls by omega, show max (t * cols ls) (b * cols ls) = b * cols ls by omega, ha, hb, ha3, hb3]
  unfold spTo spF spT rawF rawT
  simp only [if_neg hk4, if_neg (show (3 : Int) ≠ 4 by decide)]
/-- Rows before, of which the last one is not soft. -/
structure PreF (pre ls : List Ln) : Prop where
  len : ∀ x ∈ pre, x.cells.length = cols ls
  last : pre = [] ∨ softAt pre (pre.length - 1) = false
section
variable {pre ls : List Ln} (h : PreF pre ls)
include h
theorem PreF.cols : cols (pre ++ ls) = cols ls := by
  cases pre with
  | nil => rfl
  | cons x r => exact h.len x (by simp)
theorem PreF.soft (i : Nat) : softAt (pre ++ ls) (pre.length + i) = softAt ls i := by
  have _h := h
  unfold softAt
  rw [List.getElem?_append_right (Nat.le_add_right _ _), Nat.add_sub_cancel_left]
theorem PreF.stop : pre.length = 0 ∨ softAt (pre ++ ls) (pre.length - 1) = false := by
  rcases h.last with rfl | h2
  · exact .inl rfl
  · by_cases hp : pre.length = 0
    · exact .inl hp
    · refine .inr ?_
      unfold softAt at *
      rw [List.getElem?_append_left (by omega)]
      exact h2
theorem PreF.top : ∀ i, topI (pre ++ ls) (pre.length + i) = pre.length + topI ls i
  | 0 => by
    have hs := h.stop
    rw [Nat.add_zero]
    show topI (pre ++ ls) pre.length = pre.length
    generalize pre.length = p at *
    cases p with
    | zero => rfl
    | succ p =>
      rcases hs with hs | hs
      · omega
      · rw [Nat.add_sub_cancel] at hs
        rw [topI, if_neg (by rw [hs]; exact Bool.false_ne_true)]
  | i + 1 => by
    rw [← Nat.add_assoc, topI, topI, h.soft, PreF.top i]
    split <;> rfl
theorem PreF.botF : ∀ f i, botF (pre ++ ls) f (pre.length + i) = pre.length + botF ls f i
  | 0, i => rfl
  | f + 1, i => by
    have e : decide (pre.length + i + 1 < (pre ++ ls).length) = decide (i + 1 < ls.length) := by rw [List.length_append, decide_eq_decide]; omega
    rw [Go.Proofs.YtooiiefipdjbjaaDoor.botF, Go.Proofs.YtooiiefipdjbjaaDoor.botF, e, h.soft, Nat.add_assoc, PreF.botF f (i + 1)]
    split <;> rfl
theorem PreF.bot (i : Nat) : botI (pre ++ ls) (pre.length + i) = pre.length + botI ls i := by
  unfold botI
  rw [List.length_append, show pre.length + ls.length - (pre.length + i) = ls.length - i by omega]
  exact PreF.botF h _ _
theorem PreF.dm (hM : 0 < Go.Proofs.YtooiiefipdjbjaaDoor.cols ls) (i : Nat) : (pre.length * Go.Proofs.YtooiiefipdjbjaaDoor.cols ls + i) / Go.Proofs.YtooiiefipdjbjaaDoor.cols ls = pre.length + i / Go.Proofs.YtooiiefipdjbjaaDoor.cols ls ∧ (pre.length * Go.Proofs.YtooiiefipdjbjaaDoor.cols ls + i) % Go.Proofs.YtooiiefipdjbjaaDoor.cols ls = i % Go.Proofs.YtooiiefipdjbjaaDoor.cols ls := by
  have _h := h
  constructor
  · rw [Nat.add_comm, Nat.add_mul_div_right _ _ hM, Nat.add_comm]
  · rw [Nat.add_comm, Nat.add_mul_mod_self_right]
theorem PreF.wd (hM : 0 < Go.Proofs.YtooiiefipdjbjaaDoor.cols ls) (i : Nat) : wd (pre ++ ls) (pre.length * Go.Proofs.YtooiiefipdjbjaaDoor.cols ls + i) = wd ls i := by
  obtain ⟨g1, g2⟩ := h.dm hM i
  unfold Go.Proofs.YtooiiefipdjbjaaDoor.wd
  rw [h.cols, g1, g2, List.getElem?_append_right (Nat.le_add_right _ _), Nat.add_sub_cancel_left]
theorem PreF.tg (hM : 0 < Go.Proofs.YtooiiefipdjbjaaDoor.cols ls) (i : Nat) : tg (pre ++ ls) (pre.length * Go.Proofs.YtooiiefipdjbjaaDoor.cols ls + i) = tg ls i := by
  obtain ⟨g1, g2⟩ := h.dm hM i
  obtain ⟨g3, g4⟩ := h.dm hM (i + 1)
  unfold Go.Proofs.YtooiiefipdjbjaaDoor.tg
  rw [h.cols, g1, h.soft, Nat.add_assoc, g4, List.length_append, Nat.add_mul]
  congr 1
  rw [decide_eq_decide]
  omega
omit h in
theorem dnF_shift (g g' : Nat → Bool) (N : Nat) (hg : ∀ a, g' (N + a) = g a) (hs : N = 0 ∨ g' (N - 1) = false) : ∀ i, dnF g' (N + i) = N + dnF g i
  | 0 => by
    rw [Nat.add_zero]
    show dnF g' N = N
    cases N with
    | zero => rfl
    | succ N =>
      rcases hs with hs | hs
      · omega
      · rw [Nat.add_sub_cancel] at hs
        rw [dnF, if_neg (by rw [hs]; exact Bool.false_ne_true)]
  | i + 1 => by
    rw [← Nat.add_assoc, dnF, dnF, hg, dnF_shift g g' N hg hs i]
    split <;> rfl
omit h in
theorem upF_shift (g g' : Nat → Bool) (N : Nat) (hg : ∀ a, g' (N + a) = g a) : ∀ f i, upF g' f (N + i) = N + upF g f i
  | 0, i => rfl
  | f + 1, i => by
    rw [upF, upF, hg, Nat.add_assoc, upF_shift g g' N hg f (i + 1)]
    split <;> rfl
theorem PreF.wA (hM : 0 < Go.Proofs.YtooiiefipdjbjaaDoor.cols ls) (i : Nat) : wA (pre ++ ls) (pre.length * Go.Proofs.YtooiiefipdjbjaaDoor.cols ls + i) = pre.length * Go.Proofs.YtooiiefipdjbjaaDoor.cols ls + wA ls i := by
  unfold Go.Proofs.YtooiiefipdjbjaaDoor.wA
  rw [h.wd hM]
  split
  · refine dnF_shift _ _ _ (fun a => by simp only [h.tg hM, h.wd hM]) ?_ i
    rcases h.stop with hs | hs
    · exact .inl (by rw [hs, Nat.zero_mul])
    · by_cases hp : pre.length = 0
      · exact .inl (by rw [hp, Nat.zero_mul])
      · refine .inr ?_
        have e : pre.length * Go.Proofs.YtooiiefipdjbjaaDoor.cols ls - 1 = (pre.length - 1) * Go.Proofs.YtooiiefipdjbjaaDoor.cols ls + (Go.Proofs.YtooiiefipdjbjaaDoor.cols ls - 1) := by
          have : (pre.length - 1) * Go.Proofs.YtooiiefipdjbjaaDoor.cols ls + Go.Proofs.YtooiiefipdjbjaaDoor.cols ls = pre.length * Go.Proofs.YtooiiefipdjbjaaDoor.cols ls := by rw [← Nat.succ_mul, Nat.succ_eq_add_one, Nat.sub_add_cancel (by omega)]
          omega
        have e2 : (pre.length - 1) * Go.Proofs.YtooiiefipdjbjaaDoor.cols ls + (Go.Proofs.YtooiiefipdjbjaaDoor.cols ls - 1) + 1 = pre.length * Go.Proofs.YtooiiefipdjbjaaDoor.cols ls + 0 := by
          have : (pre.length - 1) * Go.Proofs.YtooiiefipdjbjaaDoor.cols ls + Go.Proofs.YtooiiefipdjbjaaDoor.cols ls = pre.length * Go.Proofs.YtooiiefipdjbjaaDoor.cols ls := by rw [← Nat.succ_mul, Nat.succ_eq_add_one, Nat.sub_add_cancel (by omega)]
          omega
        obtain ⟨g1, g2⟩ := Go.Proofs.YtooiiefipdjbjaaDoor.dm (r := pre.length - 1) (show Go.Proofs.YtooiiefipdjbjaaDoor.cols ls - 1 < Go.Proofs.YtooiiefipdjbjaaDoor.cols ls by omega)
        obtain ⟨g3, g4⟩ := Go.Proofs.YtooiiefipdjbjaaDoor.dm (r := pre.length) hM
        have ht : Go.Proofs.YtooiiefipdjbjaaDoor.tg (pre ++ ls) (pre.length * Go.Proofs.YtooiiefipdjbjaaDoor.cols ls - 1) = false := by
          unfold Go.Proofs.YtooiiefipdjbjaaDoor.tg
          rw [h.cols, e, e2, g4, g1, hs]
          simp
        simp only [ht, Bool.false_and]
  · rfl
theorem PreF.wB (hM : 0 < Go.Proofs.YtooiiefipdjbjaaDoor.cols ls) (i : Nat) : wB (pre ++ ls) (pre.length * Go.Proofs.YtooiiefipdjbjaaDoor.cols ls + i) = pre.length * Go.Proofs.YtooiiefipdjbjaaDoor.cols ls + wB ls i := by
  unfold Go.Proofs.YtooiiefipdjbjaaDoor.wB
  rw [h.wd hM]
  split
  · rw [List.length_append, h.cols, Nat.add_mul, show pre.length * Go.Proofs.YtooiiefipdjbjaaDoor.cols ls + ls.length * Go.Proofs.YtooiiefipdjbjaaDoor.cols ls - (pre.length * Go.Proofs.YtooiiefipdjbjaaDoor.cols ls + i) = ls.length * Go.Proofs.YtooiiefipdjbjaaDoor.cols ls - i by omega]
    exact upF_shift _ _ _ (fun a => by simp only [h.tg hM, Nat.add_assoc, h.wd hM]) _ _
  · rfl
theorem PreF.chA (hM : 0 < Go.Proofs.YtooiiefipdjbjaaDoor.cols ls) (kd : Int) (i : Nat) : chA (pre ++ ls) kd (pre.length * Go.Proofs.YtooiiefipdjbjaaDoor.cols ls + i) = pre.length * Go.Proofs.YtooiiefipdjbjaaDoor.cols ls + chA ls kd i := by
  obtain ⟨g1, g2⟩ := h.dm hM i
  unfold Go.Proofs.YtooiiefipdjbjaaDoor.chA
  split
  · exact h.wA hM i
  · split
    · rw [h.cols, g1, h.top, Nat.add_mul]
    · rfl
theorem PreF.chB (hM : 0 < Go.Proofs.YtooiiefipdjbjaaDoor.cols ls) (kd : Int) (i : Nat) : chB (pre ++ ls) kd (pre.length * Go.Proofs.YtooiiefipdjbjaaDoor.cols ls + i) = pre.length * Go.Proofs.YtooiiefipdjbjaaDoor.cols ls + chB ls kd i := by
  obtain ⟨g1, g2⟩ := h.dm hM i
  unfold Go.Proofs.YtooiiefipdjbjaaDoor.chB
  split
  · exact h.wB hM i
  · split
    · rw [h.cols, g1, h.bot, Nat.add_mul, Nat.add_assoc]
    · rfl
theorem PreF.wid (i j : Nat) : widI (pre ++ ls) (pre.length + i) j = widI ls i j := by
  have _h := h
  unfold widI
  rw [List.getElem?_append_right (Nat.le_add_right _ _), Nat.add_sub_cancel_left]
/-- Rows before change nothing. -/
theorem PreF.spans (hM : 0 < Go.Proofs.YtooiiefipdjbjaaDoor.cols ls) (first kd : Int) (x y : Nat) : spansL (pre ++ ls) (first - (pre.length : Int)) kd (pre.length * Go.Proofs.YtooiiefipdjbjaaDoor.cols ls + x) (pre.length * Go.Proofs.YtooiiefipdjbjaaDoor.cols ls + y) = spansL ls first kd x y := by
  have hx := h.dm hM
  unfold spansL
  rw [show min (pre.length * Go.Proofs.YtooiiefipdjbjaaDoor.cols ls + x) (pre.length * Go.Proofs.YtooiiefipdjbjaaDoor.cols ls + y) = pre.length * Go.Proofs.YtooiiefipdjbjaaDoor.cols ls + min x y by omega, show max (pre.length * Go.Proofs.YtooiiefipdjbjaaDoor.cols ls + x) (pre.length * Go.Proofs.YtooiiefipdjbjaaDoor.cols ls + y) = pre.length * Go.Proofs.YtooiiefipdjbjaaDoor.cols ls + max x y by omega, h.chA hM, h.chB hM, h.cols]
  rw [(hx _).1, (hx _).1, (hx x).2, (hx y).2]
  generalize Go.Proofs.YtooiiefipdjbjaaDoor.chA ls kd (min x y) = a
  generalize Go.Proofs.YtooiiefipdjbjaaDoor.chB ls kd (max x y) = b
  rw [show pre.length + b / Go.Proofs.YtooiiefipdjbjaaDoor.cols ls + 1 - (pre.length + a / Go.Proofs.YtooiiefipdjbjaaDoor.cols ls) = b / Go.Proofs.YtooiiefipdjbjaaDoor.cols ls + 1 - a / Go.Proofs.YtooiiefipdjbjaaDoor.cols ls by omega]
  unfold spTo
  refine List.map_congr_left fun q _ => ?_
  rw [h.cols, (hx a).1, Nat.add_assoc]
  have e1 : ∀ r c0 c1, spF (pre ++ ls) kd (pre.length * Go.Proofs.YtooiiefipdjbjaaDoor.cols ls + a) (pre.length + r) c0 c1 = spF ls kd a r c0 c1 := fun r c0 c1 => by
    unfold spF fixF rawF
    rw [h.cols, (hx a).1, (hx a).2]
    have : (pre.length + r = pre.length + a / Go.Proofs.YtooiiefipdjbjaaDoor.cols ls) = (r = a / Go.Proofs.YtooiiefipdjbjaaDoor.cols ls) := by rw [eq_iff_iff]; omega
    simp only [this, h.wid]
  have e2 : ∀ r c0 c1, spT (pre ++ ls) kd (pre.length * Go.Proofs.YtooiiefipdjbjaaDoor.cols ls + b) (pre.length + r) c0 c1 = spT ls kd b r c0 c1 := fun r c0 c1 => by
    unfold spT fixU rawT
    rw [h.cols, (hx b).1, (hx b).2]
    have : (pre.length + r = pre.length + b / Go.Proofs.YtooiiefipdjbjaaDoor.cols ls) = (r = b / Go.Proofs.YtooiiefipdjbjaaDoor.cols ls) := by rw [eq_iff_iff]; omega
    simp only [this, h.wid]
  rw [e1, e2]
  congr 1
  push_cast
  omega
end
end Go.Proofs.YtooiiefipdjbjaaDoor

namespace Go.Proofs.YtooiiefipdjbjaaDoor
set_option linter.unusedVariables false
set_option linter.unusedSimpArgs false
open Go.RowKit
attribute [local go_sem] Oper.semAt_some

abbrev pl (l c : Int) : Value := .agg #[.int .i64 l, .int .i64 c]
namespace PlAt
variable {W W' : World} {b : Nat} {l c : Int}
theorem new (W : World) (l c : Int) : PlAt (W.alloc (.cells #[.int .i64 l, .int .i64 c] 25)) W.heap.size l c := heap_alloc_new W _
theorem cs (h : PlAt W b l c) : W.cell? ⟨b, 0, none⟩ = some (.int .i64 l) ∧ W.cell? ⟨b, 1, none⟩ = some (.int .i64 c) := by
  rw [cell_of_row _ _ _ _ _ _ h, cell_of_row _ _ _ _ _ _ h]; exact ⟨rfl, rfl⟩
theorem fr (h : PlAt W b l c) : W.frozen? ⟨b, 0, none⟩ = false ∧ W.frozen? ⟨b, 1, none⟩ = false := ⟨frozen_of_row W b 0 _ _ h, frozen_of_row W b 1 _ _ h⟩
end PlAt
/-- As the library compares numbers. -/
def cmpI (a b : Int) : Int := if a < b then -1 else if b < a then 1 else 0
def cmpP (l c m d : Int) : Int := if cmpI l m ≠ 0 then cmpI l m else cmpI c d
theorem cmpI_eq (a b : Int) : cmpI a b = -1 ∨ cmpI a b = 0 ∨ cmpI a b = 1 := by unfold cmpI; split <;> (try split) <;> simp
theorem isNaN_any (x : Int) (w : World) : Calls Tryd.prog 119 #[.int .i64 x] w fun e w' => e = .returned (.bool false) ∧ Sees w w' := by
  have hw := Sees.refl w
  have h : (x == x) = true := by simp
  go_enter Tryd.func119, Tryd.ntmps119
  go_wp2
  go_ret
  exact ⟨rfl, hw⟩
theorem or2 (a b : Int) (blk : Nat) (w : World) (c0 : w.cell? ⟨blk, 0, none⟩ = some (.int .i64 a)) (c1 : w.cell? ⟨blk, 1, none⟩ = some (.int .i64 b)) :
    Calls Tryd.prog 104 #[.slice (some ⟨blk, 0, none⟩) 2 2] w fun e w' => e = .returned (.int .i64 (if a ≠ 0 then a else b)) ∧ Sees w w' := by
  have hw := Sees.refl w
  by_cases ha : a = 0
  · subst ha
    by_cases hb : b = 0
    · subst hb
      go_enter Tryd.func104, Tryd.ntmps104
      go_wp2
      refine wp_loop_rounds 3 ?_
      repeat any_goals (rw [rounds_succ]; go_wp2)
      go_ret
      exact ⟨by simp, hw⟩
    · have h2 : (b == 0) = false := by simp [hb]
      go_enter Tryd.func104, Tryd.ntmps104
      go_wp2
      refine wp_loop_rounds 3 ?_
      repeat any_goals (rw [rounds_succ]; go_wp2)
      go_ret
      exact ⟨by simp, hw⟩
  · have h2 : (a == 0) = false := by simp [ha]
    go_enter Tryd.func104, Tryd.ntmps104
    go_wp2
    refine wp_loop_rounds 3 ?_
    repeat any_goals (rw [rounds_succ]; go_wp2)
    go_ret
    exact ⟨by simp [ha], hw⟩
theorem cmp_any (a b : Int) (w : World) : Calls Tryd.prog 105 #[.int .i64 a, .int .i64 b] w fun e w' => e = .returned (.int .i64 (cmpI a b)) ∧ Sees w w' := by
  have hw := Sees.refl w
  unfold cmpI
  have e2 : decide (a > b) = decide (b < a) := rfl
  rcases Bool.eq_false_or_eq_true (decide (a < b)) with h1 | h1 <;> rcases Bool.eq_false_or_eq_true (decide (b < a)) with h2 | h2 <;> rw [h2] at e2
  all_goals
    have q1 : (if a < b then (-1 : Int) else if b < a then 1 else 0) = (if decide (a < b) = true then (-1 : Int) else if decide (b < a) = true then 1 else 0) := by simp
    rw [q1, h1, h2]
    clear q1
    go_enter Tryd.func105, Tryd.ntmps105
    go_wp2_with fail
    refine (isNaN_any a _).mono ?_
    rintro e w1 ⟨rfl, s1⟩
    go_wp2_with fail
    refine (isNaN_any b _).mono ?_
    rintro e w2 ⟨rfl, s2⟩
    have hS := s1.trans s2
    clear s1 s2
    go_wp2
    go_ret
    exact ⟨by simp, hS⟩
set_option maxHeartbeats 1000000 in
theorem compare_any (l c m d : Int) (w : World) : Calls Tryd.prog 85 #[pl l c, pl m d] w fun e w' => e = .returned (.int .i64 (cmpP l c m d)) ∧ Sees w w' := by
  have hw := Sees.refl w
  go_enter Tryd.func85, Tryd.ntmps85
  go_wp2_with fail
  refine wp_world (fun w1 hw1 => ?_)
  have hS : Sees w w1 := by subst hw1; exact (hw.alloc _).alloc _
  have a0 : w1.cell? ⟨w.heap.size, 0, none⟩ = some (.int .i64 l) := by subst hw1; simp
  have a1 : w1.cell? ⟨w.heap.size, 1, none⟩ = some (.int .i64 c) := by subst hw1; simp
  have b0 : w1.cell? ⟨w.heap.size + 1, 0, none⟩ = some (.int .i64 m) := by subst hw1; simp
  have b1 : w1.cell? ⟨w.heap.size + 1, 1, none⟩ = some (.int .i64 d) := by subst hw1; simp
  clear hw1
  have HC : Hid (∀ W, Sees w1 W → W.cell? ⟨w.heap.size, 0, none⟩ = some (.int .i64 l) ∧ W.cell? ⟨w.heap.size, 1, none⟩ = some (.int .i64 c) ∧ W.cell? ⟨w.heap.size + 1, 0, none⟩ = some (.int .i64 m) ∧ W.cell? ⟨w.heap.size + 1, 1, none⟩ = some (.int .i64 d)) :=
    Lib.hid fun W h => ⟨h.cell a0, h.cell a1, h.cell b0, h.cell b1⟩
  clear a0 a1 b0 b1
  refine wpFrom_go (by kernel_rfl) (by kernel_rfl) (fun hB w2 hw2 => ?_)
  have hst : segStay (Sees w2) [.is (.pointer (some ⟨w.heap.size, 0, none⟩)), .is (.int .i64 l), .is (.pointer (some ⟨w.heap.size + 1, 0, none⟩)), .is (.int .i64 m), .is (.int .i64 (cmpI l m)),
      .is (.pointer (some ⟨w.heap.size, 1, none⟩)), .is (.int .i64 c), .is (.pointer (some ⟨w.heap.size + 1, 1, none⟩)), .is (.int .i64 d), .is (.int .i64 (cmpI c d))] := trivial
  have hval : ∀ x v, (Spec.is x).val v = x := fun _ _ => rfl
  refine wpFrom_any 10 _ hB (by kernel_rfl) rfl hst (by simp only [List.cons_append, List.nil_append, List.drop_succ_cons, List.drop_zero, List.take_succ_cons, List.take_zero, Nat.reduceSub]; rfl) ?_
  refine ⟨fun vs W hI hV => .inl ⟨by go_simp, .inl (by go_simp)⟩, ?_⟩
  refine ⟨fun vs W hI hV => .inl ⟨by go_simp, .inl (by have q := HC.out _ (hw2.trans hI); obtain ⟨q0, q1, q2, q3⟩ := q; clear hI hV; go_simp)⟩, ?_⟩
  refine ⟨fun vs W hI hV => .inl ⟨by go_simp, .inl (by go_simp)⟩, ?_⟩
  refine ⟨fun vs W hI hV => .inl ⟨by go_simp, .inl (by have q := HC.out _ (hw2.trans hI); obtain ⟨q0, q1, q2, q3⟩ := q; clear hI hV; go_simp)⟩, ?_⟩
  refine ⟨fun vs W hI hV => .inl ⟨by clear hV; go_simp, .inr (.inr ⟨105, #[.int .i64 l, .int .i64 m], by clear hI hV; go_simp, cmp_any l m W⟩)⟩, ?_⟩
  refine ⟨fun vs W hI hV => .inl ⟨by go_simp, .inl (by go_simp)⟩, ?_⟩
  refine ⟨fun vs W hI hV => .inl ⟨by go_simp, .inl (by have q := HC.out _ (hw2.trans hI); obtain ⟨q0, q1, q2, q3⟩ := q; clear hI hV; go_simp)⟩, ?_⟩
  refine ⟨fun vs W hI hV => .inl ⟨by go_simp, .inl (by go_simp)⟩, ?_⟩
  refine ⟨fun vs W hI hV => .inl ⟨by go_simp, .inl (by have q := HC.out _ (hw2.trans hI); obtain ⟨q0, q1, q2, q3⟩ := q; clear hI hV; go_simp)⟩, ?_⟩
  refine ⟨fun vs W hI hV => .inl ⟨by clear hV; go_simp, .inr (.inr ⟨105, #[.int .i64 c, .int .i64 d], by clear hI hV; go_simp, cmp_any c d W⟩)⟩, ?_⟩
  intro vs w3 hI hV
  have hS3 := hS.trans (hw2.trans hI)
  clear hI hV hst
  go_simp
  refine wpFrom_to 13 hB (fun _ _ _ _ _ h => h) (by kernel_rfl) (by simp only [List.cons_append, List.nil_append, List.drop_succ_cons, List.drop_zero, List.take_succ_cons, List.take_zero, Nat.reduceSub]; rfl) ?_
  go_wp2_with fail
  refine (or2 (cmpI l m) (cmpI c d) w3.heap.size _ (by simp) (by simp)).mono ?_
  rintro e w4 ⟨rfl, s4⟩
  rw [show (if cmpI l m ≠ 0 then cmpI l m else cmpI c d) = cmpP l c m d from rfl]
  have hS4 := hS3.trans (((Sees.refl w3).alloc _).trans s4)
  go_wp2
  refine wpFrom_end rfl ?_; go_wp2
  go_ret
  exact ⟨rfl, hS4⟩
set_option maxHeartbeats 2000000 in
theorem order_any (l c m d : Int) (w : World) :
    Calls Tryd.prog 65 #[pl l c, pl m d] w fun e w' => e = .returned (.tuple (if cmpP l c m d > 0 then #[pl m d, pl l c] else #[pl l c, pl m d])) ∧ Sees w w' := by
  have hw := Sees.refl w
  obtain ⟨k, hk⟩ : ∃ k, k = cmpP l c m d := ⟨_, rfl⟩
  rw [← hk]
  obtain ⟨r, hr⟩ : ∃ r, r = (if k > 0 then #[pl m d, pl l c] else #[pl l c, pl m d]) := ⟨_, rfl⟩
  rw [← hr]
  go_enter Tryd.func65, Tryd.ntmps65
  go_wp2_with fail
  refine calls_world (fun w0 hw0 => ?_)
  have hS0 : Sees w w0 := by rw [hw0]; exact (((hw.alloc _).alloc _).alloc _).alloc _
  have A0 : PlAt w0 w.heap.size l c := by rw [hw0]; exact ((((PlAt.new w l c).sees ((Sees.refl _).alloc _)).sees ((Sees.refl _).alloc _)).sees ((Sees.refl _).alloc _))
  have hz1 : (w.alloc (.cells #[.int .i64 l, .int .i64 c] 25)).heap.size = w.heap.size + 1 := by simp
  have hz2 : ((w.alloc (.cells #[.int .i64 l, .int .i64 c] 25)).alloc (.cells #[.int .i64 m, .int .i64 d] 25)).heap.size = w.heap.size + 1 + 1 := by simp
  have hz3 : (((w.alloc (.cells #[.int .i64 l, .int .i64 c] 25)).alloc (.cells #[.int .i64 m, .int .i64 d] 25)).alloc (.cells #[.int .i64 0, .int .i64 0] 25)).heap.size = w.heap.size + 1 + 1 + 1 := by simp
  have B0 : PlAt w0 (w.heap.size + 1) m d := by rw [hw0, ← hz1]; exact (((PlAt.new _ m d).sees ((Sees.refl _).alloc _)).sees ((Sees.refl _).alloc _))
  have C0 : PlAt w0 (w.heap.size + 1 + 1) 0 0 := by rw [hw0, ← hz2]; exact ((PlAt.new _ 0 0).sees ((Sees.refl _).alloc _))
  have D0 : PlAt w0 (w.heap.size + 1 + 1 + 1) 0 0 := by rw [hw0, ← hz3]; exact PlAt.new _ 0 0
  clear hw0 hz1 hz2 hz3
  refine (compare_any l c m d _).mono ?_
  rintro e w1 ⟨rfl, s1⟩
  rw [← hk]
  have hS := hS0.trans s1
  have A := A0.sees s1
  have B := B0.sees s1
  have C := C0.sees s1
  have D := D0.sees s1
  clear s1 A0 B0 C0 D0 hS0
  have HA := Lib.hid A
  have HB := Lib.hid B
  obtain ⟨a0, a1⟩ := A.cs
  obtain ⟨b0, b1⟩ := B.cs
  obtain ⟨c0, c1⟩ := C.cs
  obtain ⟨d0, d1⟩ := D.cs
  obtain ⟨f0, f1⟩ := C.fr
  obtain ⟨f2, f3⟩ := D.fr
  have hl := D.lt
  clear A B C D
  by_cases h : k > 0
  · rw [if_pos h] at hr
    subst hr
    have t : decide (k > 0) = true := decide_eq_true h
    have t' : decide (0 < k) = true := decide_eq_true h
    go_wp2_with fail
    go_region
    all_goals
      go_wp2
      refine bodyPost_ret_by (v := .tuple #[pl m d, pl l c]) (by simp [results, Tryd.results65, go_sem, a0, a1, b0, b1, c0, c1, d0, d1]) rfl ⟨rfl, ?_⟩
      repeat (first | exact hS | refine Sees.setCell ?_ (by first | exact Nat.le_refl _ | exact Nat.le_succ _ | (simp; done) | (simp; omega)) _ | refine Sees.alloc ?_ _ | refine Sees.drew ?_)
  · rw [if_neg h] at hr
    subst hr
    have t : decide (k > 0) = false := decide_eq_false h
    have t' : decide (0 < k) = false := decide_eq_false h
    go_wp2_with fail
    go_region
    all_goals
      go_wp2
      refine bodyPost_ret_by (v := .tuple #[pl l c, pl m d]) (by simp [results, Tryd.results65, go_sem, a0, a1, b0, b1, c0, c1, d0, d1]) rfl ⟨rfl, ?_⟩
      repeat (first | exact hS | refine Sees.setCell ?_ (by first | exact Nat.le_refl _ | exact Nat.le_succ _ | (simp; done) | (simp; omega)) _ | refine Sees.alloc ?_ _ | refine Sees.drew ?_)
end Go.Proofs.YtooiiefipdjbjaaDoor
