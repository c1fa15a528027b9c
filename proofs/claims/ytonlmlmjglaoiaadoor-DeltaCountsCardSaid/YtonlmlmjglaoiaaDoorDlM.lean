/- The delta of two screens, and screens that are patched: plain laws. No condition. -/
import Derived.Test.YtonlmlmjglaoiaaDoorLine
namespace Go.Proofs.YtonlmlmjglaoiaaDoor
set_option linter.unusedVariables false
set_option linter.unusedSimpArgs false

/-- Are two columns parts of one? 'T': a column and the one before it belong together. -/
def conn (T : Nat → Bool) (j k : Nat) : Prop := ∀ m, min j k < m → m ≤ max j k → T m = true
/-- Is there a difference in what belongs to a column, among the first i ones? -/
def ChgTo (T D : Nat → Bool) (i k : Nat) : Prop := ∃ j, j < i ∧ D j = true ∧ conn T j k

theorem conn_refl (T : Nat → Bool) (k : Nat) : conn T k k := fun m h1 h2 => by omega
theorem conn_symm {T : Nat → Bool} {j k : Nat} (h : conn T j k) : conn T k j := fun m h1 h2 => h m (by omega) (by omega)
theorem conn_trans {T : Nat → Bool} {i j k : Nat} (h : conn T i j) (g : conn T j k) : conn T i k := fun m h1 h2 => by
  rcases Nat.lt_or_ge (min i j) m with h3 | h3
  · rcases Nat.lt_or_ge (max i j) m with h4 | h4
    · exact g m (by omega) (by omega)
    · exact h m h3 h4
  · rcases Nat.lt_or_ge (max j k) m with h4 | h4
    · omega
    · exact g m (by omega) (by omega)
theorem conn_next {T : Nat → Bool} {k : Nat} (h : T (k + 1) = true) : conn T k (k + 1) := fun m h1 h2 => by
  have : m = k + 1 := by omega
  subst this; exact h

/-! ### The program's way -/
def ChInv (T D : Nat → Bool) (n i : Nat) (out : List Bool) : Prop := out.length = n ∧ ∀ m, m < n → (out[m]? = some true ↔ ChgTo T D i m)
theorem ch_start (T D : Nat → Bool) (n : Nat) : ChInv T D n 0 (List.replicate n false) :=
  ⟨by simp, fun m hm => by simp [hm, ChgTo]⟩
theorem ch_none {T D : Nat → Bool} {n i : Nat} {out : List Bool} (h : ChInv T D n i out) (hD : D i = false) : ChInv T D n (i + 1) out := by
  refine ⟨h.1, fun m hm => (h.2 m hm).trans ⟨fun ⟨j, h1, h2, h3⟩ => ⟨j, by omega, h2, h3⟩, fun ⟨j, h1, h2, h3⟩ => ⟨j, ?_, h2, h3⟩⟩⟩
  rcases Nat.lt_or_ge j i with h4 | h4
  · exact h4
  · have : j = i := by omega
    subst this; rw [hD] at h2; cases h2
theorem ch_done {T D : Nat → Bool} {n i : Nat} {out : List Bool} (hi : i < n) (h : ChInv T D n i out) (ho : out[i]? = some true) : ChInv T D n (i + 1) out := by
  obtain ⟨j0, g1, g2, g3⟩ := (h.2 i hi).1 ho
  refine ⟨h.1, fun m hm => (h.2 m hm).trans ⟨fun ⟨j, h1, h2, h3⟩ => ⟨j, by omega, h2, h3⟩, fun ⟨j, h1, h2, h3⟩ => ?_⟩⟩
  rcases Nat.lt_or_ge j i with h4 | h4
  · exact ⟨j, h4, h2, h3⟩
  · have : j = i := by omega
    subst this; exact ⟨j0, g1, g2, conn_trans g3 h3⟩
/-- A part of a list set to true. -/
def mark (out : List Bool) (f t : Nat) : List Bool := (List.range out.length).map fun m => if f ≤ m ∧ m < t then true else (out[m]?).getD false
theorem mark_length (out : List Bool) (f t : Nat) : (mark out f t).length = out.length := by simp [mark]
theorem mark_get {out : List Bool} {f t m : Nat} (hm : m < out.length) : (mark out f t)[m]? = if f ≤ m ∧ m < t then some true else out[m]? := by
  simp only [mark, List.getElem?_map, List.getElem?_range hm, Option.map_some]
  split
  · rfl
  · rw [List.getElem?_eq_getElem hm]; rfl
theorem mark_none (out : List Bool) (f : Nat) : mark out f f = out := by
  apply List.ext_getElem?
  intro m
  by_cases hm : m < out.length
  · rw [mark_get hm, if_neg (by omega)]
  · rw [List.getElem?_eq_none (by rw [mark_length]; omega), List.getElem?_eq_none (by omega)]
theorem mark_succ {out : List Bool} {f t : Nat} (h : f ≤ t) : (mark out f t).set t true = mark out f (t + 1) := by
  apply List.ext_getElem?
  intro m
  by_cases hm : m < out.length
  · rw [mark_get hm]
    by_cases hmt : t = m
    · subst hmt; rw [List.getElem?_set_self (by rw [mark_length]; exact hm), if_pos ⟨h, by omega⟩]
    · rw [List.getElem?_set_ne hmt, mark_get hm]
      by_cases h1 : f ≤ m ∧ m < t
      · rw [if_pos h1, if_pos (by omega)]
      · rw [if_neg h1, if_neg (by omega)]
  · rw [List.getElem?_eq_none (by simp [mark_length]; omega), List.getElem?_eq_none (by rw [mark_length]; omega)]
theorem ch_mark {T D : Nat → Bool} {n i f t : Nat} {out : List Bool} (h : ChInv T D n i out) (hi : i < n) (hD : D i = true) (hfi : f ≤ i) (hit : i < t) (htn : t ≤ n) (hf : ∀ m, f < m → m ≤ i → T m = true) (hf0 : T f = false)
    (ht : ∀ m, i < m → m < t → T m = true) (ht0 : t < n → T t = false) : ChInv T D n (i + 1) (mark out f t) := by
  have hc : ∀ m, m < n → (conn T i m ↔ f ≤ m ∧ m < t) := by
    intro m hm
    constructor
    · intro hc
      constructor
      · rcases Nat.lt_or_ge m f with h1 | h1
        · have := hc f (by omega) (by omega)
          rw [hf0] at this; cases this
        · exact h1
      · rcases Nat.lt_or_ge m t with h1 | h1
        · exact h1
        · have := hc t (by omega) (by omega)
          rw [ht0 (by omega)] at this; cases this
    · rintro ⟨h1, h2⟩ k h3 h4
      rcases Nat.lt_or_ge i k with h5 | h5
      · exact ht k h5 (by omega)
      · exact hf k (by omega) h5
  refine ⟨by rw [mark_length]; exact h.1, fun m hm => ?_⟩
  rw [mark_get (by rw [h.1]; exact hm)]
  by_cases hm2 : f ≤ m ∧ m < t
  · rw [if_pos hm2]
    exact ⟨fun _ => ⟨i, by omega, hD, (hc m hm).2 hm2⟩, fun _ => rfl⟩
  · rw [if_neg hm2, h.2 m hm]
    constructor
    · rintro ⟨j, h1, h2, h3⟩; exact ⟨j, by omega, h2, h3⟩
    · rintro ⟨j, h1, h2, h3⟩
      rcases Nat.lt_or_ge j i with h4 | h4
      · exact ⟨j, h4, h2, h3⟩
      · have : j = i := by omega
        subst this; exact absurd ((hc m hm).1 h3) hm2

/-- Which columns are patched. -/
def chgB (T D : Nat → Bool) (n m : Nat) : Bool := (List.range n).any fun j => D j && (List.range (max j m + 1)).all fun i => decide (i ≤ min j m) || T i
theorem chgB_iff {T D : Nat → Bool} {n m : Nat} : chgB T D n m = true ↔ ChgTo T D n m := by
  unfold chgB ChgTo conn
  simp only [List.any_eq_true, List.mem_range, Bool.and_eq_true, List.all_eq_true, Bool.or_eq_true, decide_eq_true_eq]
  constructor
  · rintro ⟨j, h1, h2, h3⟩
    exact ⟨j, h1, h2, fun i h4 h5 => by rcases h3 i (by omega) with h6 | h6; omega; exact h6⟩
  · rintro ⟨j, h1, h2, h3⟩
    refine ⟨j, h1, h2, fun i h4 => ?_⟩
    rcases Nat.lt_or_ge (min j m) i with h5 | h5
    · exact .inr (h3 i h5 (by omega))
    · exact .inl h5
def chg (T D : Nat → Bool) (n : Nat) : List Bool := (List.range n).map fun m => chgB T D n m
theorem chg_length (T D : Nat → Bool) (n : Nat) : (chg T D n).length = n := by simp [chg]
theorem chg_get {T D : Nat → Bool} {n m : Nat} (hm : m < n) : (chg T D n)[m]? = some true ↔ ChgTo T D n m := by
  simp [chg, List.getElem?_range hm, chgB_iff]
theorem eq_chg {T D : Nat → Bool} {n : Nat} {out : List Bool} (hl : out.length = n) (h : ∀ m, m < n → (out[m]? = some true ↔ ChgTo T D n m)) : out = chg T D n := by
  apply List.ext_getElem (by rw [hl, chg_length])
  intro m h1 h2
  have hm : m < n := by omega
  have g1 := h m hm
  have g2 := chg_get (T := T) (D := D) hm
  rw [List.getElem?_eq_getElem h1] at g1
  rw [List.getElem?_eq_getElem h2] at g2
  have : out[m] = true ↔ (chg T D n)[m] = true := by simpa using g1.trans g2.symm
  exact Bool.eq_iff_iff.2 this
theorem ch_end {T D : Nat → Bool} {n : Nat} {out : List Bool} (h : ChInv T D n n out) : out = chg T D n := eq_chg h.1 h.2

/-! ### The statement's way: wider and wider -/
structure BtInv (T D : Nat → Bool) (n : Nat) (is : List Bool) : Prop where
  len : is.length = n
  lo : ∀ m, m < n → D m = true → is[m]? = some true
  hi : ∀ m, m < n → is[m]? = some true → ChgTo T D n m
theorem bt_start {T D : Nat → Bool} {n : Nat} {is : List Bool} (hl : is.length = n) (h : ∀ m, m < n → is[m]? = some (D m)) : BtInv T D n is :=
  ⟨hl, fun m hm hD => by rw [h m hm, hD], fun m hm he => ⟨m, hm, by rw [h m hm] at he; simpa using he, conn_refl _ _⟩⟩
theorem bt_set {T D : Nat → Bool} {n k : Nat} {is : List Bool} (h : BtInv T D n is) (hk : k + 1 < n) (hT : T (k + 1) = true) (hne : is[k + 1]? ≠ is[k]?) : BtInv T D n ((is.set (k + 1) true).set k true) := by
  have hl := h.len
  have hk1 : ChgTo T D n k ∧ ChgTo T D n (k + 1) := by
    have e1 : is[k]? = some is[k] := List.getElem?_eq_getElem (by omega)
    have e2 : is[k + 1]? = some is[k + 1] := List.getElem?_eq_getElem (by omega)
    rw [e1, e2] at hne
    cases hb : is[k] with
    | true =>
      obtain ⟨j, h1, h2, h3⟩ := h.hi k (by omega) (by rw [e1, hb])
      exact ⟨⟨j, h1, h2, h3⟩, ⟨j, h1, h2, conn_trans h3 (conn_next hT)⟩⟩
    | false =>
      rw [hb] at hne
      have hb2 : is[k + 1] = true := by
        cases hc : is[k + 1] with
        | true => rfl
        | false => rw [hc] at hne; exact absurd rfl hne
      obtain ⟨j, h1, h2, h3⟩ := h.hi (k + 1) (by omega) (by rw [e2, hb2])
      exact ⟨⟨j, h1, h2, conn_trans h3 (conn_symm (conn_next hT))⟩, ⟨j, h1, h2, h3⟩⟩
  have hg : ∀ m, m < n → ((is.set (k + 1) true).set k true)[m]? = if m = k ∨ m = k + 1 then some true else is[m]? := by
    intro m hm
    by_cases h1 : k = m
    · subst h1; rw [List.getElem?_set_self (by simp; omega), if_pos (.inl rfl)]
    · rw [List.getElem?_set_ne h1]
      by_cases h2 : k + 1 = m
      · subst h2; rw [List.getElem?_set_self (by omega), if_pos (.inr rfl)]
      · rw [List.getElem?_set_ne h2, if_neg (by omega)]
  refine ⟨by simp [hl], fun m hm hD => ?_, fun m hm he => ?_⟩
  · rw [hg m hm]; split
    · rfl
    · exact h.lo m hm hD
  · rw [hg m hm] at he
    split at he
    · rename_i h1
      rcases h1 with rfl | rfl
      · exact hk1.1
      · exact hk1.2
    · exact h.hi m hm he
/-- How many columns are not patched. -/
def gaps (is : List Bool) : Nat := (is.filter (!·)).length
theorem gaps_le (is : List Bool) : gaps is ≤ is.length := List.length_filter_le _ _
theorem gaps_set : ∀ (is : List Bool) (k : Nat), k < is.length → gaps (is.set k true) + (if is[k]? = some false then 1 else 0) = gaps is
  | [], _, h => by simp at h
  | b :: r, 0, _ => by cases b <;> simp [gaps]
  | b :: r, k + 1, h => by
    have := gaps_set r k (by simpa using h)
    cases b <;> simp [gaps] at this ⊢ <;> omega
theorem gaps_two {n k : Nat} {is : List Bool} (hl : is.length = n) (hk : k + 1 < n) (hne : is[k + 1]? ≠ is[k]?) : gaps ((is.set (k + 1) true).set k true) < gaps is := by
  have h1 := gaps_set is (k + 1) (by omega)
  have h2 := gaps_set (is.set (k + 1) true) k (by simp; omega)
  rw [List.getElem?_set_ne (by omega)] at h2
  have e1 : is[k]? = some is[k] := List.getElem?_eq_getElem (by omega)
  have e2 : is[k + 1]? = some is[k + 1] := List.getElem?_eq_getElem (by omega)
  rw [e1, e2] at hne
  rw [e1] at h2
  rw [e2] at h1
  cases hb : is[k] <;> cases hc : is[k + 1] <;> simp [hb, hc] at h1 h2 hne <;> omega
theorem bt_end {T D : Nat → Bool} {n : Nat} {is : List Bool} (h : BtInv T D n is) (hc : ∀ k, k + 1 < n → T (k + 1) = true → is[k + 1]? = is[k]?) : is = chg T D n := by
  have hcl : ∀ d j, j + d < n → conn T j (j + d) → is[j + d]? = is[j]? := by
    intro d
    induction d with
    | zero => intro j _ _; rfl
    | succ d ih =>
      intro j hj hcn
      rw [← ih j (by omega) (fun m h1 h2 => hcn m (by omega) (by omega))]
      exact hc (j + d) (by omega) (hcn _ (by omega) (by omega))
  refine eq_chg h.len fun m hm => ⟨h.hi m hm, fun ⟨j, h1, h2, h3⟩ => ?_⟩
  rw [← h.lo j h1 h2]
  rcases Nat.le_total j m with h4 | h4
  · obtain ⟨d, rfl⟩ := Nat.exists_eq_add_of_le h4
    exact hcl d j hm h3
  · obtain ⟨d, rfl⟩ := Nat.exists_eq_add_of_le h4
    exact (hcl d m h1 (conn_symm h3)).symm

/-! ### Patches -/
section
structure Pt where
  row : Int
  col : Int
  cells : List Cell
  soft : Bool
  deriving DecidableEq
def extLast : List (Pt) → Cell → List (Pt)
  | [], _ => []
  | [p], c => [{ p with cells := p.cells ++ [c] }]
  | p :: q :: r, c => p :: extLast (q :: r) c
theorem extLast_snoc (p : Pt) (c : Cell) : ∀ l : List (Pt), extLast (l ++ [p]) c = l ++ [{ p with cells := p.cells ++ [c] }]
  | [] => rfl
  | [q] => rfl
  | q :: r :: l => by
    have := extLast_snoc p c (r :: l)
    simp only [List.cons_append] at this ⊢
    rw [extLast, this]
def parts (row : Int) (is : List Bool) (b : List Cell) (soft : Bool) : Nat → List (Pt)
  | 0 => []
  | k + 1 => match is[k]?, b[k]? with
    | some true, some c => if k ≠ 0 ∧ is[k - 1]? = some true then extLast (parts row is b soft k) c else parts row is b soft k ++ [⟨row, k, [c], soft⟩]
    | _, _ => parts row is b soft k
variable {row : Int} {is : List Bool} {b : List Cell} {soft : Bool}
theorem parts_no {k : Nat} (h : is[k]? ≠ some true) : parts row is b soft (k + 1) = parts row is b soft k := by
  rw [parts]
  split
  · rename_i h1 _; exact absurd h1 h
  · rfl
theorem parts_run {f : Nat} (hf : f = 0 ∨ is[f - 1]? ≠ some true) : ∀ (k : Nat), f < k → k ≤ b.length → (∀ m, f ≤ m → m < k → is[m]? = some true) →
    parts row is b soft k = parts row is b soft f ++ [⟨row, f, (b.drop f).take (k - f), soft⟩]
  | 0, h, _, _ => by omega
  | k + 1, h, hk, hr => by
    have hb : b[k]? = some b[k] := List.getElem?_eq_getElem (by omega)
    rw [parts, hr k (by omega) (by omega), hb]
    simp only
    by_cases hfk : f = k
    · subst hfk
      rw [if_neg (by rcases hf with h1 | h1; simp [h1]; intro h2; exact h1 h2.2)]
      congr 1
      rw [show f + 1 - f = 1 by omega, List.take_one]
      simp [hb]
    · rw [if_pos ⟨by omega, hr (k - 1) (by omega) (by omega)⟩, parts_run hf k (by omega) (by omega) (fun m h1 h2 => hr m h1 (by omega)), extLast_snoc]
      congr 3
      rw [show k + 1 - f = (k - f) + 1 by omega, List.take_add_one]
      congr 1
      rw [List.getElem?_drop, show f + (k - f) = k by omega, hb]; rfl
theorem run_start {k : Nat} (hk : 0 < k) (h : is[k - 1]? = some true) : ∃ f, f < k ∧ (f = 0 ∨ is[f - 1]? ≠ some true) ∧ ∀ m, f ≤ m → m < k → is[m]? = some true := by
  induction k with
  | zero => omega
  | succ k ih =>
    rw [Nat.add_sub_cancel] at h
    by_cases h1 : 0 < k ∧ is[k - 1]? = some true
    · obtain ⟨f, g1, g2, g3⟩ := ih h1.1 h1.2
      refine ⟨f, by omega, g2, fun m h2 h3 => ?_⟩
      rcases Nat.lt_or_ge m k with h4 | h4
      · exact g3 m h2 h4
      · have : m = k := by omega
        subst this; exact h
    · refine ⟨k, by omega, ?_, fun m h2 h3 => ?_⟩
      · rcases Nat.eq_zero_or_pos k with h2 | h2
        · exact .inl h2
        · exact .inr fun h3 => h1 ⟨h2, h3⟩
      · have : m = k := by omega
        subst this; exact h
theorem parts_row : ∀ (k : Nat) (p : Pt), p ∈ parts row is b soft k → p.row = row ∧ p.soft = soft
  | 0, p, h => by cases h
  | k + 1, p, h => by
    rw [parts] at h
    split at h
    · split at h
      · rcases List.eq_nil_or_concat (parts row is b soft k) with e | ⟨l, q, e⟩
        · rw [e] at h; cases h
        · rw [List.concat_eq_append] at e
          rw [e, extLast_snoc] at h
          have hq := parts_row k q (by rw [e]; simp)
          rcases List.mem_append.1 h with h | h
          · exact parts_row k p (by rw [e]; simp [h])
          · simp at h; subst h; exact hq
      · rcases List.mem_append.1 h with h | h
        · exact parts_row k p h
        · simp at h; subst h; exact ⟨rfl, rfl⟩
    · exact parts_row k p h
/-- What is patched is in a patch. -/
theorem parts_cover : ∀ (k m : Nat), m < k → k ≤ b.length → is[m]? = some true → ∃ p ∈ parts row is b soft k, p.col ≤ m ∧ (m : Int) < p.col + p.cells.length := by
  intro k
  induction k using Nat.strongRecOn with
  | _ k ih =>
    intro m hm hk h
    by_cases h1 : is[k - 1]? = some true
    · obtain ⟨f, g1, g2, g3⟩ := run_start (by omega) h1
      rw [parts_run g2 k g1 hk g3]
      by_cases hfm : f ≤ m
      · refine ⟨_, List.mem_append_right _ (List.mem_cons_self ..), ?_, ?_⟩
        · simp; omega
        · simp; omega
      · obtain ⟨p, h2, h3⟩ := ih f g1 m (by omega) (by omega) h
        exact ⟨p, List.mem_append_left _ h2, h3⟩
    · have e : k = (k - 1) + 1 := by omega
      rw [e, parts_no h1]
      have hmk : m ≠ k - 1 := fun e => h1 (e ▸ h)
      exact ih (k - 1) (by omega) m (by omega) (by omega) h

/-! ### Applying patches -/
variable (z : Cell → Bool) (ok : List Cell → Bool)
def isz (r : List Cell) (k : Nat) : Bool := match r[k]? with | some x => z x | none => false
def torn (r : List Cell) (c : Nat) (n : Nat) : Bool := decide (0 < n) && (isz z r c || isz z r (c + n))
def putAt (r : List Cell) (c : Nat) (p : List Cell) : List Cell := r.take c ++ p ++ r.drop (c + p.length)
def ap1 (x : List (Ln)) (p : Pt) : Int × List (Ln) :=
  if p.row < 0 ∨ (x.length : Int) ≤ p.row then (3, [])
  else match x[p.row.toNat]? with
    | none => (3, [])
    | some l => if p.col < 0 ∨ (l.cells.length : Int) < p.col ∨ (l.cells.length : Int) < p.col + p.cells.length then (3, [])
      else if ok p.cells = false ∨ torn z l.cells p.col.toNat p.cells.length = true then (12, [])
      else (0, x.set p.row.toNat ⟨putAt l.cells p.col.toNat p.cells, p.soft⟩)
def apP (x : List (Ln)) : List (Pt) → Int × List (Ln)
  | [] => (0, x)
  | p :: r => if (ap1 z ok x p).1 = 0 then apP (ap1 z ok x p).2 r else ((ap1 z ok x p).1, [])
theorem apP_append {x y : List (Ln)} : ∀ {l : List (Pt)} {r : List (Pt)}, apP z ok x l = (0, y) → apP z ok x (l ++ r) = apP z ok y r := by
  intro l
  induction l generalizing x with
  | nil => intro r h; simp only [apP, Prod.mk.injEq, true_and] at h; subst h; rfl
  | cons p l ih =>
    intro r h
    rw [List.cons_append, apP]
    rw [apP] at h
    split at h
    · rename_i h0; rw [if_pos h0]; exact ih h
    · rename_i h0; simp only [Prod.mk.injEq] at h; exact absurd h.1 h0

theorem mix_get {β : Type} {a b : List β} (hl : a.length = b.length) {k m : Nat} (hk : k ≤ a.length) : (b.take k ++ a.drop k)[m]? = if m < k then b[m]? else a[m]? := by
  by_cases h : m < k
  · rw [if_pos h, List.getElem?_append_left (by simp; omega), List.getElem?_take, if_pos h]
  · rw [if_neg h, List.getElem?_append_right (by simp; omega), List.getElem?_drop]
    congr 1; simp; omega
theorem mix_put {a b : List Cell} (hl : a.length = b.length) {f k : Nat} (hf : f ≤ k) (hk : k ≤ a.length) : putAt (b.take f ++ a.drop f) f ((b.drop f).take (k - f)) = b.take k ++ a.drop k := by
  unfold putAt
  have e1 : (b.take f ++ a.drop f).take f = b.take f := by
    rw [List.take_append_of_le_length (by simp; omega), List.take_take, Nat.min_self]
  have e2 : ((b.drop f).take (k - f)).length = k - f := by simp; omega
  have e3 : (b.take f ++ a.drop f).drop (f + (k - f)) = a.drop k := by
    rw [show f + (k - f) = k by omega, List.drop_append, List.drop_take]
    have : (b.take f).length = f := by simp; omega
    rw [this, List.drop_drop, show f + (k - f) = k by omega, show f - k = 0 by omega]
    simp
  rw [e1, e2, e3]
  congr 1
  have := List.take_add (i := f) (j := k - f) (l := b)
  rw [show f + (k - f) = k by omega] at this
  exact this.symm
theorem mix_same {a b : List Cell} (hl : a.length = b.length) {k : Nat} (hk : k < a.length) (h : a[k]? = b[k]?) : b.take (k + 1) ++ a.drop (k + 1) = b.take k ++ a.drop k := by
  apply List.ext_getElem?
  intro m
  rw [mix_get hl (by omega), mix_get hl (by omega)]
  by_cases h1 : m < k
  · rw [if_pos h1, if_pos (by omega)]
  · rw [if_neg h1]
    by_cases h2 : m < k + 1
    · have : m = k := by omega
      subst this; rw [if_pos h2, h]
    · rw [if_neg h2]
def Tz (a b : List Cell) (k : Nat) : Bool := isz z a k || isz z b k
def Df (a b : List Cell) (k : Nat) : Bool := decide (a[k]? ≠ b[k]?)
def chgR (a b : List Cell) : List Bool := chg (Tz z a b) (Df a b) a.length
def rowP (i : Nat) (a b : Ln) : List (Pt) :=
  if parts i (chgR z a.cells b.cells) b.cells b.soft a.cells.length = [] ∧ a.soft ≠ b.soft then [⟨i, 0, [], b.soft⟩] else parts i (chgR z a.cells b.cells) b.cells b.soft a.cells.length
def ofUp (a b : List (Ln)) : Nat → List (Pt)
  | 0 => []
  | i + 1 => match a[i]?, b[i]? with
    | some x, some y => ofUp a b i ++ rowP z i x y
    | _, _ => ofUp a b i
def ofP (a b : List (Ln)) : List (Pt) := ofUp z a b a.length

/-- What a row is like, and its parts that begin where both rows have a cell that is no spacer. -/
structure GoodRow (a b : List Cell) : Prop where
  len : a.length = b.length
  t0 : Tz z a b 0 = false
  sub : ∀ f k, f < k → k ≤ b.length → isz z b f = false → (k < b.length → isz z b k = false) → ok ((b.drop f).take (k - f)) = true
variable {z ok}
theorem chgR_in {a b : List Cell} {k : Nat} (hk : k < a.length) (h : a[k]? ≠ b[k]?) : (chgR z a b)[k]? = some true :=
  (chg_get hk).2 ⟨k, hk, by simpa [Df] using h, conn_refl _ _⟩
theorem chgR_out {a b : List Cell} {k : Nat} (hk : k < a.length) (h : (chgR z a b)[k]? ≠ some true) : a[k]? = b[k]? := by
  by_cases h1 : a[k]? = b[k]?
  · exact h1
  · exact absurd (chgR_in hk h1) h
theorem chgR_edge {a b : List Cell} {k : Nat} (hk : k + 1 < a.length) (h : (chgR z a b)[k]? = some true ↔ ¬ (chgR z a b)[k + 1]? = some true) : Tz z a b (k + 1) = false := by
  cases hT : Tz z a b (k + 1) with
  | false => rfl
  | true =>
    exfalso
    have e : (chgR z a b)[k]? = some true ↔ (chgR z a b)[k + 1]? = some true := by
      unfold chgR
      rw [chg_get (by omega), chg_get hk]
      exact ⟨fun ⟨j, h1, h2, h3⟩ => ⟨j, h1, h2, conn_trans h3 (conn_next hT)⟩, fun ⟨j, h1, h2, h3⟩ => ⟨j, h1, h2, conn_trans h3 (conn_symm (conn_next hT))⟩⟩
    by_cases g : (chgR z a b)[k + 1]? = some true
    · exact (h.1 (e.2 g)) g
    · exact g (e.1 (h.2 g))
theorem row_apply {x : List (Ln)} {i : Nat} {a b : Ln} (hx : x[i]? = some a) (hg : GoodRow z ok a.cells b.cells) : ∀ k, k ≤ a.cells.length →
    (k = a.cells.length ∨ k = 0 ∨ (chgR z a.cells b.cells)[k]? ≠ some true ∨ (chgR z a.cells b.cells)[k - 1]? ≠ some true) →
    apP z ok x (parts i (chgR z a.cells b.cells) b.cells b.soft k) = (0, x.set i ⟨b.cells.take k ++ a.cells.drop k, if parts i (chgR z a.cells b.cells) b.cells b.soft k = [] then a.soft else b.soft⟩) := by
  have hil : i < x.length := (List.getElem?_eq_some_iff.1 hx).1
  have hxi : x[i] = a := (List.getElem?_eq_some_iff.1 hx).2
  have hl := hg.len
  generalize hR : chgR z a.cells b.cells = R
  intro k
  induction k using Nat.strongRecOn with
  | _ k ih =>
    intro hk hc
    rcases Nat.eq_zero_or_pos k with rfl | hk0
    · simp only [parts, List.take_zero, List.drop_zero, List.nil_append, if_true, apP]
      congr 1
      have : (⟨a.cells, a.soft⟩ : Ln) = x[i] := by rw [hxi]
      rw [this, List.set_getElem_self]
    · by_cases h1 : R[k - 1]? = some true
      · obtain ⟨f, g1, g2, g3⟩ := run_start hk0 h1
        have hp := parts_run (row := i) (b := b.cells) (soft := b.soft) g2 k g1 (by omega) g3
        rw [hp]
        have hi := ih f g1 (by omega) (by rcases g2 with g2 | g2; exact .inr (.inl g2); exact .inr (.inr (.inr g2)))
        rw [apP_append z ok hi]
        have hfT : Tz z a.cells b.cells f = false := by
          rcases Nat.eq_zero_or_pos f with rfl | hf0
          · exact hg.t0
          · obtain ⟨f', rfl⟩ : ∃ f', f = f' + 1 := ⟨f - 1, by omega⟩
            have g2 : R[f']? ≠ some true := by rcases g2 with g2 | g2; omega; exact g2
            refine chgR_edge (by omega) ?_
            rw [hR]
            exact ⟨fun h => absurd h g2, fun h => absurd (g3 (f' + 1) (by omega) g1) h⟩
        have hkT : k < a.cells.length → Tz z a.cells b.cells k = false := by
          intro hlt
          obtain ⟨k', rfl⟩ : ∃ k', k = k' + 1 := ⟨k - 1, by omega⟩
          rw [Nat.add_sub_cancel] at h1 hc
          refine chgR_edge (by omega) ?_
          rw [hR]
          exact ⟨fun _ => by rcases hc with hc | hc | hc | hc; omega; omega; exact hc; exact absurd h1 hc, fun _ => h1⟩
        unfold Tz at hfT hkT
        rw [Bool.or_eq_false_iff] at hfT
        have hlen : ((b.cells.drop f).take (k - f)).length = k - f := by simp; omega
        have hok := hg.sub f k g1 (by omega) hfT.2 (fun h => by have := hkT (by omega); rw [Bool.or_eq_false_iff] at this; exact this.2)
        have hmid : (b.cells.take f ++ a.cells.drop f).length = a.cells.length := by simp; omega
        have hz1 : isz z (b.cells.take f ++ a.cells.drop f) f = false := by
          unfold isz; rw [mix_get hl (by omega), if_neg (by omega)]; exact hfT.1
        have hz2 : isz z (b.cells.take f ++ a.cells.drop f) k = false := by
          unfold isz; rw [mix_get hl (by omega), if_neg (by omega)]
          by_cases hlt : k < a.cells.length
          · have := hkT hlt
            rw [Bool.or_eq_false_iff] at this; exact this.1
          · rw [List.getElem?_eq_none (by omega)]
        have hap : ∀ s, ap1 z ok (x.set i ⟨b.cells.take f ++ a.cells.drop f, s⟩) ⟨i, f, (b.cells.drop f).take (k - f), b.soft⟩ = (0, x.set i ⟨b.cells.take k ++ a.cells.drop k, b.soft⟩) := by
          intro s
          unfold ap1
          simp only [List.length_set, Int.toNat_natCast]
          rw [if_neg (by omega), List.getElem?_set_self hil]
          simp only [hlen, hmid]
          rw [if_neg (by omega), if_neg, List.set_set, mix_put hl (by omega) (by omega)]
          rintro (h | h)
          · rw [hok] at h; cases h
          · unfold torn at h
            rw [show f + (k - f) = k by omega, hz1, hz2] at h
            simp at h
        rw [apP, hap]
        simp [apP]
      · have e : k = (k - 1) + 1 := by omega
        have hi := ih (k - 1) (by omega) (by omega) (by
          rcases Nat.eq_zero_or_pos (k - 1) with h | h
          · exact .inr (.inl h)
          · exact .inr (.inr (.inl h1)))
        have hpn := parts_no (row := i) (b := b.cells) (soft := b.soft) h1
        rw [← e] at hpn
        rw [hpn, hi]
        have hm := mix_same hl (k := k - 1) (by omega) (chgR_out (z := z) (by omega) (by rw [hR]; exact h1))
        rw [← e] at hm
        rw [hm]
theorem rowP_apply {x : List (Ln)} {i : Nat} {a b : Ln} (hx : x[i]? = some a) (hg : GoodRow z ok a.cells b.cells) (hok : ok [] = true) : apP z ok x (rowP z i a b) = (0, x.set i b) := by
  have hil : i < x.length := (List.getElem?_eq_some_iff.1 hx).1
  have h := row_apply hx hg a.cells.length (Nat.le_refl _) (.inl rfl)
  have hl := hg.len
  rw [List.take_of_length_le (by omega), List.drop_length, List.append_nil] at h
  unfold rowP
  by_cases hp : parts i (chgR z a.cells b.cells) b.cells b.soft a.cells.length = []
  · rw [hp, if_pos rfl] at h
    simp only [apP, Prod.mk.injEq, true_and] at h
    have hcells : a.cells = b.cells := by
      have h2 : (x.set i ⟨b.cells, a.soft⟩)[i]? = some a := by rw [← h]; exact hx
      rw [List.getElem?_set_self hil] at h2
      have h3 := Option.some.inj h2
      rw [← h3]
    by_cases hs : a.soft = b.soft
    · rw [if_neg (by simp [hs]), hp]
      simp only [apP]
      congr 1
      rw [h]
      cases b
      simp only at hcells hs
      simp [hs]
    · rw [if_pos ⟨hp, hs⟩]
      rw [apP]
      have : ap1 z ok x ⟨i, 0, [], b.soft⟩ = (0, x.set i b) := by
        unfold ap1
        simp only [Int.toNat_natCast, hx]
        rw [if_neg (by omega), if_neg (by simp), if_neg (by simp [hok, torn])]
        simp [putAt, hcells]
      rw [this]; simp [apP]
  · rw [if_neg (fun h2 => hp h2.1), h, if_neg hp]
/-- Applying the delta to the first screen makes the second one. -/
theorem of_apply {a b : List (Ln)} (hl : a.length = b.length) (hok : ok [] = true) (hg : ∀ (i : Nat) x y, a[i]? = some x → b[i]? = some y → GoodRow z ok x.cells y.cells) : apP z ok a (ofP z a b) = (0, b) := by
  have key : ∀ i, i ≤ a.length → apP z ok a (ofUp z a b i) = (0, b.take i ++ a.drop i) := by
    intro i
    induction i with
    | zero => intro _; simp [ofUp, apP]
    | succ i ih =>
      intro hi
      have ha : a[i]? = some a[i] := List.getElem?_eq_getElem (by omega)
      have hb : b[i]? = some b[i] := List.getElem?_eq_getElem (by omega)
      rw [ofUp, ha, hb]
      simp only
      rw [apP_append z ok (ih (by omega))]
      have hx : (b.take i ++ a.drop i)[i]? = some a[i] := by rw [mix_get hl (by omega), if_neg (by omega), ha]
      rw [rowP_apply hx (hg i _ _ ha hb) hok]
      congr 1
      apply List.ext_getElem?
      intro m
      by_cases hm : i = m
      · subst hm
        rw [List.getElem?_set_self (by simp; omega), mix_get hl (by omega), if_pos (by omega), hb]
      · rw [List.getElem?_set_ne hm, mix_get hl (by omega), mix_get hl (by omega)]
        by_cases h1 : m < i
        · rw [if_pos h1, if_pos (by omega)]
        · rw [if_neg h1, if_neg (by omega)]
  have h := key a.length (Nat.le_refl _)
  rw [List.take_of_length_le (by omega), List.drop_length, List.append_nil] at h
  exact h
theorem parts_same {i : Nat} {a : List Cell} {s : Bool} : ∀ k, parts i (chgR z a a) a s k = []
  | 0 => rfl
  | k + 1 => by
    rw [parts_no, parts_same k]
    intro h
    by_cases hk : k < a.length
    · obtain ⟨j, _, h2, _⟩ := (chg_get hk).1 h
      simp [Df] at h2
    · rw [List.getElem?_eq_none (by unfold chgR; rw [chg_length]; omega)] at h; cases h
theorem ofUp_same {a : List (Ln)} : ∀ i, ofUp z a a i = []
  | 0 => rfl
  | i + 1 => by
    rw [ofUp, ofUp_same i]
    cases a[i]? with
    | none => rfl
    | some x => simp [rowP, parts_same]
theorem of_nil {a b : List (Ln)} (hl : a.length = b.length) (hok : ok [] = true) (hg : ∀ (i : Nat) x y, a[i]? = some x → b[i]? = some y → GoodRow z ok x.cells y.cells) : ofP z a b = [] ↔ a = b := by
  constructor
  · intro h
    have := of_apply hl hok hg
    rw [h] at this
    simpa [apP] using this
  · rintro rfl; exact ofUp_same _
theorem rowP_row {i : Nat} {a b : Ln} : ∀ p ∈ rowP z i a b, p.row = i := by
  intro p hp
  unfold rowP at hp
  split at hp
  · simp at hp; subst hp; rfl
  · exact (parts_row _ p hp).1
theorem ofUp_mem {a b : List (Ln)} {i : Nat} {x y : Ln} (hx : a[i]? = some x) (hy : b[i]? = some y) {p : Pt} (hp : p ∈ rowP z i x y) : ∀ n, i < n → p ∈ ofUp z a b n
  | 0, h => by omega
  | n + 1, h => by
    rw [ofUp]
    by_cases hi : i = n
    · subst hi; rw [hx, hy]; exact List.mem_append_right _ hp
    · have := ofUp_mem hx hy hp n (by omega)
      split
      · exact List.mem_append_left _ this
      · exact this
/-- Where no patch has a cell, both screens have the same one. -/
theorem of_cover {a b : List (Ln)} {i k : Nat} {x y : Ln} (hx : a[i]? = some x) (hy : b[i]? = some y) (hl : x.cells.length = y.cells.length) (hk : k < x.cells.length) (hne : x.cells[k]? ≠ y.cells[k]?) :
    ∃ p ∈ ofP z a b, p.row = i ∧ p.col ≤ k ∧ (k : Int) < p.col + p.cells.length := by
  obtain ⟨p, h1, h2, h3⟩ := parts_cover (row := i) (soft := y.soft) (b := y.cells) x.cells.length k hk (by omega) (chgR_in (z := z) hk hne)
  have hr : p ∈ rowP z i x y := by
    unfold rowP
    rw [if_neg]
    · exact h1
    · rintro ⟨e, _⟩; rw [e] at h1; cases h1
  exact ⟨p, ofUp_mem hx hy hr _ ((List.getElem?_eq_some_iff.1 hx).1), rowP_row p hr, h2, h3⟩
end
end Go.Proofs.YtonlmlmjglaoiaaDoor
