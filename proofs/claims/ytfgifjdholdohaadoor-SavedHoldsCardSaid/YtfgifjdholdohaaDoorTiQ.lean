/- What a text says (26), in plain Lean: cut in two, cut at all, numerals, links. No condition. -/
import Derived.Lib.SplitLaws
import Derived.Lib.CutLaws
import Derived.Lib.AtoiAllCases
import Derived.Lib.SlTrimSet
import Derived.Lib.Strings
namespace Go.Proofs.YtfgifjdholdohaaDoor
set_option linter.unusedVariables false
set_option linter.unusedSimpArgs false
open Go Go.Lib

/-- What is before the first byte of a kind, and what is behind it. -/
def bef (b : UInt8) : List UInt8 → Option (List UInt8 × List UInt8)
  | [] => none
  | x :: l => if x = b then some ([], l) else (bef b l).map fun p => (x :: p.1, p.2)
/-- All parts. -/
def pieces (b : UInt8) : List UInt8 → List (List UInt8)
  | [] => [[]]
  | x :: l => if x = b then [] :: pieces b l else match pieces b l with
    | [] => [[x]]
    | p :: ps => (x :: p) :: ps
theorem pieces_ne (b : UInt8) (l : List UInt8) : pieces b l ≠ [] := by
  cases l with
  | nil => simp [pieces]
  | cons x l =>
    simp only [pieces]
    split
    · simp
    · split <;> simp
theorem bef_some {b : UInt8} : ∀ {l : List UInt8} {p q : List UInt8}, bef b l = some (p, q) → l = p ++ b :: q ∧ b ∉ p
  | [], p, q, h => by simp [bef] at h
  | x :: l, p, q, h => by
    simp only [bef] at h
    split at h
    · rename_i e
      simp only [Option.some.injEq, Prod.mk.injEq] at h
      obtain ⟨rfl, rfl⟩ := h
      exact ⟨by rw [e]; rfl, by simp⟩
    · rename_i e
      cases hb : bef b l with
      | none => rw [hb] at h; simp at h
      | some r =>
        rw [hb] at h
        simp only [Option.map_some, Option.some.injEq, Prod.mk.injEq] at h
        obtain ⟨rfl, rfl⟩ := h
        obtain ⟨e1, e2⟩ := bef_some (p := r.1) (q := r.2) hb
        refine ⟨by rw [e1]; rfl, fun hm => ?_⟩
        rcases List.mem_cons.1 hm with rfl | hm
        · exact e rfl
        · exact e2 hm
theorem bef_none {b : UInt8} : ∀ {l : List UInt8}, bef b l = none → b ∉ l
  | [], _ => by simp
  | x :: l, h => by
    simp only [bef] at h
    split at h
    · simp at h
    · rename_i e
      have hn : bef b l = none := by
        cases hb : bef b l with
        | none => rfl
        | some r => rw [hb] at h; simp at h
      intro hm
      rcases List.mem_cons.1 hm with rfl | hm
      · exact e rfl
      · exact bef_none hn hm
theorem bef_app (b : UInt8) : ∀ (p q : List UInt8), b ∉ p → bef b (p ++ b :: q) = some (p, q)
  | [], q, _ => by simp [bef]
  | x :: p, q, h => by
    rw [List.mem_cons, not_or] at h
    rw [List.cons_append]
    simp only [bef]
    rw [if_neg (fun e => h.1 e.symm), bef_app b p q h.2]
    rfl
theorem bef_no (b : UInt8) : ∀ (l : List UInt8), b ∉ l → bef b l = none
  | [], _ => rfl
  | x :: p, h => by
    rw [List.mem_cons, not_or] at h
    simp only [bef]
    rw [if_neg (fun e => h.1 e.symm), bef_no b p h.2]
    rfl
theorem pieces_app (b : UInt8) : ∀ (p q : List UInt8), b ∉ p → pieces b (p ++ b :: q) = p :: pieces b q
  | [], q, _ => by simp [pieces]
  | x :: p, q, h => by
    rw [List.mem_cons, not_or] at h
    rw [List.cons_append]
    simp only [pieces]
    rw [if_neg (fun e => h.1 e.symm), pieces_app b p q h.2]
theorem pieces_no (b : UInt8) : ∀ (l : List UInt8), b ∉ l → pieces b l = [l]
  | [], _ => rfl
  | x :: p, h => by
    rw [List.mem_cons, not_or] at h
    simp only [pieces]
    rw [if_neg (fun e => h.1 e.symm), pieces_no b p h.2]
/-- A place of the first byte of a kind. -/
theorem bef_at {b : UInt8} {l : List UInt8} {i : Nat} (hi : i < l.length) (h : l[i]? = some b) (hb : ∀ j < i, l[j]? ≠ some b) : bef b l = some (l.take i, l.drop (i + 1)) := by
  have hg : l[i] = b := by rw [List.getElem?_eq_getElem hi] at h; exact Option.some.inj h
  have e : l = l.take i ++ b :: l.drop (i + 1) := by
    rw [← hg, List.getElem_cons_drop, List.take_append_drop]
  conv => lhs; rw [e]
  refine bef_app b _ _ fun hm => ?_
  obtain ⟨j, hj, hj2⟩ := List.getElem_of_mem hm
  rw [List.length_take] at hj
  rw [List.getElem_take] at hj2
  exact hb j (by omega) (by rw [List.getElem?_eq_getElem (by omega), hj2])
theorem bef_off {b : UInt8} {l : List UInt8} (hb : ∀ j < l.length, l[j]? ≠ some b) : bef b l = none := by
  refine bef_no b l fun hm => ?_
  obtain ⟨j, hj, hj2⟩ := List.getElem_of_mem hm
  exact hb j hj (by rw [List.getElem?_eq_getElem hj, hj2])

theorem index_one (b : UInt8) : ∀ l : List UInt8, (b ∉ l → Lib.index l [b] = -1) ∧ (∀ p q, l = p ++ b :: q → b ∉ p → Lib.index l [b] = p.length)
  | [] => ⟨fun _ => rfl, fun p q e _ => by simp at e⟩
  | x :: l => by
    obtain ⟨h1, h2⟩ := index_one b l
    have hp : List.isPrefixOf [b] (x :: l) = (b == x) := by simp [List.isPrefixOf]
    refine ⟨fun hm => ?_, fun p q e hm => ?_⟩
    · rw [List.mem_cons, not_or] at hm
      simp only [Lib.index, hp, h1 hm.2]
      rw [if_neg (by simpa using hm.1)]
      rfl
    · cases p with
      | nil =>
        simp only [List.nil_append, List.cons.injEq] at e
        simp only [Lib.index, hp]
        rw [if_pos (by simp [e.1])]
        rfl
      | cons y p =>
        rw [List.cons_append, List.cons.injEq] at e
        obtain ⟨rfl, e⟩ := e
        rw [List.mem_cons, not_or] at hm
        simp only [Lib.index, hp, h2 p q e hm.2]
        rw [if_neg (by simpa using hm.1), if_neg (by rw [beq_iff_eq]; omega), List.length_cons]
        omega
/-- strings.Cut at one byte. -/
theorem cut_bef (b : UInt8) (l : List UInt8) : Lib.cut l [b] = match bef b l with | some p => (p.1, p.2, true) | none => (l, [], false) := by
  unfold Lib.cut
  cases h : bef b l with
  | none =>
    rw [(index_one b l).1 (bef_none h), if_neg (by decide)]
  | some p =>
    obtain ⟨e, hn⟩ := bef_some (p := p.1) (q := p.2) h
    rw [(index_one b l).2 p.1 p.2 e hn, if_pos (by omega)]
    simp only [Int.toNat_natCast, List.length_singleton, Prod.mk.injEq, and_true]
    constructor
    · conv => lhs; rw [e]
      simp
    · conv => lhs; rw [e]
      rw [List.drop_append, List.drop_eq_nil_of_le (by omega)]
      simp
theorem splitK_pieces (b : UInt8) : ∀ (n : Nat) (l : List UInt8), l.length ≤ n → Lib.splitK [b] 0 (Lib.count l [b]) l = pieces b l := by
  intro n
  induction n with
  | zero =>
    intro l hl
    have : l = [] := List.eq_nil_of_length_eq_zero (by omega)
    subst this
    rfl
  | succ n ih =>
    intro l hl
    cases h : bef b l with
    | none =>
      have hn := bef_none h
      rw [pieces_no b l hn, Lib.count_one, List.count_eq_zero_of_not_mem hn]
      rfl
    | some p =>
      obtain ⟨e, hn⟩ := bef_some (p := p.1) (q := p.2) h
      have hl2 : p.2.length ≤ n := by rw [e, List.length_append, List.length_cons] at hl; omega
      have hc : Lib.count l [b] = Lib.count p.2 [b] + 1 := by
        rw [Lib.count_one, Lib.count_one, e, List.count_append, List.count_eq_zero_of_not_mem hn, List.count_cons_self]
        simp
      have hi := (index_one b l).2 p.1 p.2 e hn
      rw [hc]
      simp only [Lib.splitK, hi]
      rw [if_neg (by rw [beq_iff_eq]; omega)]
      simp only [Int.toNat_natCast, List.length_singleton, Nat.add_zero]
      have e1 : l.take p.1.length = p.1 := by conv => lhs; rw [e]
                                              simp
      have e2 : l.drop (p.1.length + 1) = p.2 := by
        conv => lhs; rw [e]
        rw [List.drop_append, List.drop_eq_nil_of_le (by omega)]
        simp
      rw [e1, e2, ih _ hl2]
      conv => rhs; rw [e]
      rw [pieces_app b p.1 p.2 hn]
theorem split_pieces (b : UInt8) (l : List UInt8) : Lib.split l [b] = pieces b l := splitK_pieces b _ l (Nat.le_refl _)

/-- Is a byte a digit? -/
def isDig (c : UInt8) : Bool := decide (48 ≤ c.toNat) && decide (c.toNat ≤ 57)
def numb (l : List UInt8) : Nat := l.foldl (fun n c => 10 * n + (c.toNat - 48)) 0
def numb3 (l : List UInt8) : Nat := l.foldl (fun n c => min 1000 (10 * n + (c.toNat - 48))) 0
theorem numb3_from : ∀ (l : List UInt8) (a b : Nat), b = min 1000 a → l.foldl (fun n c => min 1000 (10 * n + (c.toNat - 48))) b = min 1000 (l.foldl (fun n c => 10 * n + (c.toNat - 48)) a)
  | [], a, b, h => h
  | c :: l, a, b, h => by
    simp only [List.foldl_cons]
    exact numb3_from l _ _ (by subst h; omega)
theorem numb3_eq (l : List UInt8) : numb3 l = min 1000 (numb l) := numb3_from l 0 0 (by decide)
theorem parse10_ok : ∀ (l : List UInt8) (a u : Nat), (∀ c ∈ l, isDig c = true) → Lib.parseUint10 a l = .ok u → u = l.foldl (fun n c => 10 * n + (c.toNat - 48)) a
  | [], a, u, _, h => by simp only [Lib.parseUint10] at h; injection h with h; exact h.symm
  | c :: l, a, u, hd, h => by
    simp only [Lib.parseUint10] at h
    split at h
    · split at h
      · simp at h
      · split at h
        · simp at h
        · have := parse10_ok l _ u (fun x hx => hd x (List.mem_cons_of_mem _ hx)) h
          rw [this, List.foldl_cons]
          congr 1
          omega
    · simp at h
theorem foldl_le : ∀ (l : List UInt8) (a : Nat), a ≤ l.foldl (fun n c => 10 * n + (c.toNat - 48)) a
  | [], a => Nat.le_refl a
  | c :: l, a => by
    rw [List.foldl_cons]
    exact Nat.le_trans (by omega) (foldl_le l _)
theorem parse10_bad : ∀ (l : List UInt8) (a : Nat), (∀ c ∈ l, isDig c = true) → (∀ u, Lib.parseUint10 a l ≠ .ok u) → 18446744073709551616 ≤ l.foldl (fun n c => 10 * n + (c.toNat - 48)) a
  | [], a, _, h => absurd rfl (h a)
  | c :: l, a, hd, h => by
    have hc := hd c (List.mem_cons_self ..)
    unfold isDig at hc
    rw [Bool.and_eq_true, decide_eq_true_eq, decide_eq_true_eq] at hc
    rw [List.foldl_cons]
    simp only [Lib.parseUint10] at h
    rw [if_pos hc] at h
    by_cases h1 : 1844674407370955162 ≤ a
    · exact Nat.le_trans (by omega) (foldl_le l _)
    · rw [if_neg h1] at h
      by_cases h2 : 18446744073709551616 ≤ a * 10 + (c.toNat - 48)
      · exact Nat.le_trans (by omega) (foldl_le l _)
      · rw [if_neg h2] at h
        have := parse10_bad l _ (fun x hx => hd x (List.mem_cons_of_mem _ hx)) h
        rw [Nat.mul_comm] at this
        exact this
/-- A numeral of digits: its number, or it is too great. -/
theorem atoi_digits {l : List UInt8} (hne : l ≠ []) (hd : ∀ c ∈ l, isDig c = true) : (∀ v, Lib.atoiAll l = .ok v → v = (numb l : Int)) ∧ ((∀ v, Lib.atoiAll l ≠ .ok v) → 1000 < numb l) := by
  cases l with
  | nil => exact absurd rfl hne
  | cons c r =>
    have hc := hd c (List.mem_cons_self ..)
    unfold isDig at hc
    rw [Bool.and_eq_true, decide_eq_true_eq, decide_eq_true_eq] at hc
    have e : Lib.atoiAll (c :: r) = Lib.signless (Lib.parseUint10 0 (c :: r)) := by
      rw [Lib.atoiAll_plain c r (by omega) (by omega)]
      rfl
    rw [e]
    cases hp : Lib.parseUint10 0 (c :: r)
    case ok u =>
      have hu : u = numb (c :: r) := parse10_ok _ _ _ hd hp
      simp only [Lib.signless]
      split
      · exact ⟨fun v h => by simp at h, fun _ => by omega⟩
      · exact ⟨fun v h => by injection h with h; rw [← h, hu], fun h => absurd rfl (h _)⟩
    all_goals
      have hb := parse10_bad _ 0 hd (fun u hu => by rw [hp] at hu; simp at hu)
      exact ⟨fun v h => by simp [Lib.signless] at h, fun _ => Nat.lt_of_lt_of_le (by decide) hb⟩
theorem digs_mem (c : UInt8) : ([48, 49, 50, 51, 52, 53, 54, 55, 56, 57] : List UInt8).contains c = isDig c := by
  have h : ∀ n < 256, ([48, 49, 50, 51, 52, 53, 54, 55, 56, 57] : List UInt8).contains (UInt8.ofNat n) = isDig (UInt8.ofNat n) := by decide +kernel
  have := h c.toNat c.toNat_lt
  simpa using this
theorem dropWhile_nil {p : UInt8 → Bool} : ∀ l : List UInt8, (l.dropWhile p = [] ↔ ∀ c ∈ l, p c = true)
  | [] => by simp
  | c :: l => by
    rw [List.dropWhile_cons]
    split
    · rename_i h
      rw [dropWhile_nil l]
      simp [h]
    · rename_i h
      simp [h]
theorem trim_digits (l : List UInt8) : Lib.trimS l [48, 49, 50, 51, 52, 53, 54, 55, 56, 57] = [] ↔ ∀ c ∈ l, isDig c = true := by
  unfold Lib.trimS Lib.trimLeftS Lib.trimRightS
  rw [dropWhile_nil]
  constructor
  · intro h
    by_cases he : ∀ c ∈ l, isDig c = true
    · exact he
    · exfalso
      have hr : l.reverse.dropWhile (([48, 49, 50, 51, 52, 53, 54, 55, 56, 57] : List UInt8).contains ·) ≠ [] := fun e => he fun c hc => by
        have := (dropWhile_nil _).1 e c (by simpa using hc)
        rw [← digs_mem]; exact this
      obtain ⟨x, r, hx⟩ := List.exists_cons_of_ne_nil hr
      have h1 := h x (by rw [hx]; simp)
      have h2 : ¬ (([48, 49, 50, 51, 52, 53, 54, 55, 56, 57] : List UInt8).contains x) = true := by
        have := List.head_dropWhile_not (([48, 49, 50, 51, 52, 53, 54, 55, 56, 57] : List UInt8).contains ·) hr
        simp only [hx, List.head_cons] at this
        rw [this]
        simp
      exact h2 h1
  · intro h c hc
    have := List.mem_reverse.1 hc
    have := (List.dropWhile_sublist _).subset this
    rw [digs_mem]
    exact h c (List.mem_reverse.1 this)
end Go.Proofs.YtfgifjdholdohaaDoor
