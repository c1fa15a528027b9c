/- Tab stops (20), in plain Lean: which columns have one, the next ones, the list. No condition. -/
import Derived.Lib.SlKeysI
import Derived.Lib.SlMapFilter
import Derived.Maps.Views
import Derived.Maps.OwnSet
namespace Go.Proofs.Ytdblmoaimghplaa
set_option linter.unusedVariables false
set_option linter.unusedSimpArgs false
open Go Go.Maps

/-- Whether a column has a stop. -/
def getB (L : List Bool) (k : Int) : Bool := decide (0 ≤ k) && L.getD k.toNat false
def dfl (i : Nat) : Bool := decide (0 < i) && decide (i % 8 = 0)
/-- The default stops. -/
def defL (c : Nat) : List Bool := (List.range c).map dfl
/-- Another number of columns. -/
def resL (L : List Bool) (c : Nat) : List Bool := (List.range c).map fun i => if i < L.length then L.getD i false else dfl i
/-- The columns with a stop. -/
def stopsL (L : List Bool) : List Int := ((List.range L.length).filter fun i => L.getD i false).map fun (i : Nat) => (i : Int)
def upL (L : List Bool) : Nat → Nat → Nat → Nat
  | 0, _, col => col
  | f + 1, n, col => if n = 0 then col else upL L f (if L.getD (col + 1) false then n - 1 else n) (col + 1)
/-- The column that is n stops further. -/
def up (L : List Bool) (n col : Nat) : Nat := upL L (L.length - 1 - col) n col
/-- The column that is n stops back. -/
def dn (L : List Bool) (n : Nat) : Nat → Nat
  | 0 => 0
  | c + 1 => if n = 0 then c + 1 else dn L (if L.getD c false then n - 1 else n) c

theorem getB_nat (L : List Bool) (i : Nat) : getB L (i : Int) = L.getD i false := by simp [getB]
theorem getB_neg (L : List Bool) {k : Int} (h : k < 0) : getB L k = false := by
  unfold getB
  rw [decide_eq_false (by omega)]
  rfl
theorem getB_range {L : List Bool} {k : Int} (h : getB L k = true) : 0 ≤ k ∧ k < L.length := by
  unfold getB at h
  rw [Bool.and_eq_true, decide_eq_true_eq] at h
  refine ⟨h.1, ?_⟩
  by_cases hl : k.toNat < L.length
  · omega
  · rw [List.getD_eq_getElem?_getD, List.getElem?_eq_none (by omega)] at h
    simp at h
theorem getB_out {L : List Bool} {k : Int} (h : ¬ (0 ≤ k ∧ k < L.length)) : getB L k = false := by
  cases hb : getB L k with
  | false => rfl
  | true => exact absurd (getB_range hb) h
theorem defL_length (c : Nat) : (defL c).length = c := by simp [defL]
theorem resL_length (L : List Bool) (c : Nat) : (resL L c).length = c := by simp [resL]
theorem getD_map_range {f : Nat → Bool} {c i : Nat} (h : i < c) : ((List.range c).map f).getD i false = f i := by
  rw [List.getD_eq_getElem?_getD, List.getElem?_map, List.getElem?_range h]
  rfl
theorem defL_at {c i : Nat} (h : i < c) : (defL c).getD i false = dfl i := getD_map_range h
theorem resL_at {L : List Bool} {c i : Nat} (h : i < c) : (resL L c).getD i false = if i < L.length then L.getD i false else dfl i := getD_map_range h
theorem getB_set {L : List Bool} {i : Nat} (hi : i < L.length) (v : Bool) (k : Int) : getB (L.set i v) k = if k = (i : Int) then v else getB L k := by
  by_cases hk : 0 ≤ k
  · obtain ⟨j, rfl⟩ : ∃ j : Nat, k = (j : Int) := ⟨k.toNat, by omega⟩
    rw [getB_nat, getB_nat, List.getD_eq_getElem?_getD, List.getD_eq_getElem?_getD]
    by_cases he : j = i
    · subst he
      rw [List.getElem?_set_self hi, if_pos rfl]
      rfl
    · rw [List.getElem?_set_ne (Ne.symm he), if_neg (by omega)]
  · rw [getB_neg _ (by omega), getB_neg _ (by omega), if_neg (by omega)]
theorem getB_defL (c : Nat) (k : Int) : getB (defL c) k = (decide (0 < k) && decide (k < c) && decide (k % 8 = 0)) := by
  by_cases hk : 0 ≤ k ∧ k < c
  · obtain ⟨j, rfl⟩ : ∃ j : Nat, k = (j : Int) := ⟨k.toNat, by omega⟩
    rw [getB_nat, defL_at (by omega), decide_eq_true hk.2, Bool.and_true]
    unfold dfl
    congr 1
    · exact decide_eq_decide.2 (by omega)
    · exact decide_eq_decide.2 (by omega)
  · rw [getB_out (by rw [defL_length]; exact hk)]
    by_cases h0 : 0 < k
    · rw [decide_eq_false (show ¬ k < c by omega)]
      simp
    · rw [decide_eq_false h0]
      simp
/-- What Resize makes: what was there and is below, and default ones from there on. -/
theorem getB_resL (L : List Bool) (c : Nat) (k : Int) : getB (resL L c) k = ((getB L k && decide (k < c)) || (decide (0 < k) && decide (k < c) && decide (k % 8 = 0) && decide ((L.length : Int) ≤ k))) := by
  by_cases hk : 0 ≤ k ∧ k < c
  · obtain ⟨j, rfl⟩ : ∃ j : Nat, k = (j : Int) := ⟨k.toNat, by omega⟩
    rw [getB_nat, resL_at (by omega), decide_eq_true hk.2, Bool.and_true, Bool.and_true]
    by_cases hj : j < L.length
    · rw [if_pos hj, getB_nat, decide_eq_false (show ¬ (L.length : Int) ≤ (j : Int) by omega)]
      simp
    · rw [if_neg hj, getB_out (by omega), decide_eq_true (show (L.length : Int) ≤ (j : Int) by omega), Bool.false_or, Bool.and_true]
      unfold dfl
      congr 1
      · exact decide_eq_decide.2 (by omega)
      · exact decide_eq_decide.2 (by omega)
  · rw [getB_out (by rw [resL_length]; exact hk)]
    by_cases h0 : k < c
    · have h1 : ¬ 0 < k := by omega
      rw [getB_neg L (by omega), decide_eq_false h1]
      simp
    · rw [decide_eq_false h0]
      simp
theorem mem_stopsL (L : List Bool) (k : Int) : k ∈ stopsL L ↔ getB L k = true := by
  unfold stopsL
  rw [List.mem_map]
  constructor
  · rintro ⟨i, hi, rfl⟩
    rw [getB_nat]
    exact (List.mem_filter.1 hi).2
  · intro h
    have hr := getB_range h
    refine ⟨k.toNat, List.mem_filter.2 ⟨List.mem_range.2 (by omega), ?_⟩, by omega⟩
    rw [← getB_nat]
    have : ((k.toNat : Nat) : Int) = k := by omega
    rw [this, h]
theorem stopsL_rising (L : List Bool) : (stopsL L).Pairwise (fun a b => a < b) := by
  unfold stopsL
  refine List.pairwise_map.2 (((List.pairwise_lt_range).filter _).imp fun h => ?_)
  omega
theorem stopsL_nodup (L : List Bool) : (stopsL L).Nodup := (stopsL_rising L).imp fun h => by omega
theorem stopsL_len (L : List Bool) : (stopsL L).length ≤ L.length := by
  unfold stopsL
  rw [List.length_map]
  refine Nat.le_trans (List.length_filter_le _ _) (by simp)
theorem sort_stopsL (L : List Bool) {ss : List Int} (h : ss.Perm (stopsL L)) : ss.mergeSort (fun x y => decide (x ≤ y)) = stopsL L := by
  have e : ss.mergeSort leI = (stopsL L).mergeSort leI := mergeSort_of_perm_i h
  have tr : ∀ a b c : Int, leI a b = true → leI b c = true → leI a c = true := fun a b c h1 h2 => by simp only [leI, decide_eq_true_eq] at *; exact Int.le_trans h1 h2
  have to : ∀ a b : Int, (leI a b || leI b a) = true := fun a b => by simp only [leI, Bool.or_eq_true, decide_eq_true_eq]; exact Int.le_total a b
  have e2 : (stopsL L).mergeSort leI = stopsL L := by
    refine List.Perm.eq_of_pairwise (le := fun a b => leI a b = true) (fun a b _ _ h1 h2 => ?_) (List.pairwise_mergeSort tr to _) ((stopsL_rising L).imp fun h => ?_) (List.mergeSort_perm _ leI)
    · simp only [leI, decide_eq_true_eq] at h1 h2
      exact Int.le_antisymm h1 h2
    · simp only [leI, decide_eq_true_eq]
      omega
  exact e.trans e2
/-! steps -/
theorem up_zero (L : List Bool) (col : Nat) : up L 0 col = col := by
  unfold up
  cases L.length - 1 - col <;> simp [upL]
theorem up_end (L : List Bool) (n : Nat) {col : Nat} (h : L.length ≤ col + 1) : up L n col = col := by
  unfold up
  rw [show L.length - 1 - col = 0 by omega]
  rfl
theorem up_step (L : List Bool) {n col : Nat} (h : col + 1 < L.length) (hn : n ≠ 0) : up L n col = up L (if L.getD (col + 1) false then n - 1 else n) (col + 1) := by
  unfold up
  rw [show L.length - 1 - col = (L.length - 1 - (col + 1)) + 1 by omega, upL, if_neg hn]
theorem dn_zero (L : List Bool) (col : Nat) : dn L 0 col = col := by
  cases col <;> simp [dn]
theorem dn_step (L : List Bool) {n col : Nat} (hn : n ≠ 0) : dn L n (col + 1) = dn L (if L.getD col false then n - 1 else n) col := by
  rw [dn, if_neg hn]
theorem up_bounds (L : List Bool) : ∀ (f n col : Nat), L.length - 1 - col = f → col < L.length → col ≤ up L n col ∧ up L n col < L.length
  | 0, n, col, hf, hc => by
    rw [up_end L n (by omega)]
    omega
  | f + 1, n, col, hf, hc => by
    by_cases hn : n = 0
    · subst hn
      rw [up_zero]
      omega
    · rw [up_step L (by omega) hn]
      have := up_bounds L f (if L.getD (col + 1) false then n - 1 else n) (col + 1) (by omega) (by omega)
      omega
theorem dn_le (L : List Bool) : ∀ (n col : Nat), dn L n col ≤ col
  | n, 0 => by simp [dn]
  | n, c + 1 => by
    by_cases hn : n = 0
    · subst hn
      rw [dn_zero]
      omega
    · rw [dn_step L hn]
      have := dn_le L (if L.getD c false then n - 1 else n) c
      omega
/-- Going m stops and then n is going both together. -/
theorem up_add (L : List Bool) : ∀ (f m n col : Nat), L.length - 1 - col = f → col < L.length → up L n (up L m col) = up L (m + n) col
  | 0, m, n, col, hf, hc => by
    rw [up_end L m (by omega), up_end L n (by omega), up_end L (m + n) (by omega)]
  | f + 1, m, n, col, hf, hc => by
    by_cases hm : m = 0
    · subst hm
      rw [up_zero, Nat.zero_add]
    · rw [up_step L (by omega) hm, up_step L (n := m + n) (by omega) (by omega), up_add L f _ n (col + 1) (by omega) (by omega)]
      congr 1
      split <;> omega
theorem dn_add (L : List Bool) : ∀ (m n col : Nat), dn L n (dn L m col) = dn L (m + n) col
  | m, n, 0 => by simp [dn]
  | m, n, c + 1 => by
    by_cases hm : m = 0
    · subst hm
      rw [dn_zero, Nat.zero_add]
    · rw [dn_step L hm, dn_step L (n := m + n) (by omega), dn_add L _ n c]
      congr 1
      split <;> omega
/-- From the next column on there is no stop before where the first step leads. -/
theorem up_one (L : List Bool) : ∀ (f col : Nat), L.length - 1 - col = f → ∀ j, col < j → j < up L 1 col → L.getD j false = false
  | 0, col, hf, j, h1, h2 => by
    rw [up_end L 1 (by omega)] at h2
    omega
  | f + 1, col, hf, j, h1, h2 => by
    rw [up_step L (by omega) (by decide)] at h2
    cases hb : L.getD (col + 1) false with
    | true =>
      rw [hb, if_pos rfl, up_zero] at h2
      omega
    | false =>
      rw [hb, if_neg (by decide)] at h2
      by_cases he : j = col + 1
      · rw [he, hb]
      · exact up_one L f (col + 1) (by omega) j (by omega) h2
/-- One step back leads behind no stop. -/
theorem dn_one (L : List Bool) : ∀ (col j : Nat), j < col → L.getD j false = true → j ≤ dn L 1 col
  | 0, j, h1, _ => by omega
  | c + 1, j, h1, h2 => by
    rw [dn_step L (by decide)]
    cases hb : L.getD c false with
    | true =>
      rw [if_pos rfl, dn_zero]
      omega
    | false =>
      rw [if_neg (by decide)]
      by_cases he : j = c
      · rw [he, hb] at h2
        cases h2
      · exact dn_one L c j (by omega) h2
/-- More columns and back. -/
theorem resL_back (L : List Bool) {c : Nat} (h : L.length ≤ c) : resL (resL L c) L.length = L := by
  apply List.ext_getElem?
  intro i
  by_cases hi : i < L.length
  · have e : (resL (resL L c) L.length).getD i false = L.getD i false := by
      rw [resL_at hi, resL_length, if_pos (by omega), resL_at (by omega), if_pos hi]
    rw [List.getD_eq_getElem?_getD, List.getD_eq_getElem?_getD] at e
    have h1 : i < (resL (resL L c) L.length).length := by rw [resL_length]; exact hi
    rw [List.getElem?_eq_getElem h1, List.getElem?_eq_getElem hi] at e ⊢
    simpa using e
  · rw [List.getElem?_eq_none (by rw [resL_length]; omega), List.getElem?_eq_none (by omega)]

/-! maps -/
/-- The map has just the keys for which g is true, all with the value true. -/
def MapIs (D : DataW Value) (g : Int → Bool) : Prop := (∀ k : Int, D.atKey (.int .i64 k) (.held (.bool false)) = .held (.bool (g k))) ∧ ∀ k : Int, has D (.int .i64 k) = g k
theorem MapIs.empty : MapIs (.map []) (fun _ => false) := ⟨fun _ => rfl, fun _ => rfl⟩
theorem MapIs.congr {D : DataW Value} {g h : Int → Bool} (hm : MapIs D g) (e : ∀ k, g k = h k) : MapIs D h := ⟨fun k => by rw [hm.1, e], fun k => by rw [hm.2, e]⟩
theorem MapIs.put {D : DataW Value} {g : Int → Bool} (hm : MapIs D g) (hD : IsMap D) (k : Int) : MapIs (D.put (.int .i64 k) (.held (.bool true))) (fun j => if j = k then true else g j) := by
  constructor
  · intro j
    dsimp only
    by_cases h : j = k
    · subst h
      rw [atKey_put_same hD (show Go.WideAt.IsKeyLit (.int .i64 j) from trivial), if_pos rfl]
    · rw [atKey_put_other (by simp only [ne_eq, Lit.int.injEq, true_and]; exact h), hm.1, if_neg h]
  · intro j
    dsimp only
    by_cases h : j = k
    · subst h
      rw [has_put_same hD (show Go.WideAt.IsKeyLit (.int .i64 j) from trivial), if_pos rfl]
    · rw [has_put_other (by simp only [ne_eq, Lit.int.injEq, true_and]; exact h), hm.2, if_neg h]
theorem MapIs.del {D : DataW Value} {g : Int → Bool} (hm : MapIs D g) (k : Int) : MapIs (D.del (.int .i64 k)) (fun j => if j = k then false else g j) := by
  constructor
  · intro j
    dsimp only
    by_cases h : j = k
    · subst h
      rw [atKey_del_same, if_pos rfl]
    · rw [atKey_del_other (by simp only [ne_eq, Lit.int.injEq, true_and]; exact h), hm.1, if_neg h]
  · intro j
    dsimp only
    by_cases h : j = k
    · subst h
      rw [has_del_same, if_pos rfl]
    · rw [has_del_other (by simp only [ne_eq, Lit.int.injEq, true_and]; exact h), hm.2, if_neg h]
/-- The keys from c on. -/
def fromD (c : Int) (k : Lit) (_ : DataW Value) : Bool := decide (c ≤ intOf k)
theorem fromD_int (c j : Int) (d : DataW Value) : fromD c (.int .i64 j) d = decide (c ≤ j) := rfl
theorem same_int {p : Lit} {k : Int} (h : p.sameKey (.int .i64 k) = true) : p = .int .i64 k := by
  cases p <;> simp [Lit.sameKey] at h
  rw [h.1, h.2]
theorem MapIs.cut {D : DataW Value} {g : Int → Bool} (hm : MapIs D g) (hD : IsMap D) (c : Int) : MapIs (Lib.deleteFuncD (fromD c) D) (fun j => g j && decide (j < c)) := by
  obtain ⟨es, rfl⟩ := hD
  obtain ⟨h1, h2⟩ := hm
  have e : Lib.deleteFuncD (fromD c) (.map es) = .map (es.filter fun p => !fromD c p.1 p.2) := rfl
  rw [e]
  constructor
  · intro j
    dsimp only
    by_cases hj : j < c
    · rw [decide_eq_true hj, Bool.and_true, ← h1 j]
      simp only [DataW.atKey]
      rw [find_filter_keep (fun p hp => by rw [same_int hp, fromD_int, decide_eq_false (by omega)]; rfl)]
    · rw [decide_eq_false hj, Bool.and_false]
      simp only [DataW.atKey]
      rw [List.find?_eq_none.2 (fun p hp hs => by
        have := (List.mem_filter.1 hp).2
        rw [same_int hs, fromD_int, decide_eq_true (by omega)] at this
        cases this)]
  · intro j
    dsimp only
    by_cases hj : j < c
    · rw [decide_eq_true hj, Bool.and_true, ← h2 j, has_eq, has_eq, any_filter_keep (fun p hp => by rw [same_int hp, fromD_int, decide_eq_false (by omega)]; rfl)]
    · rw [decide_eq_false hj, Bool.and_false, has_eq, List.any_eq_false]
      intro p hp hs
      have := (List.mem_filter.1 hp).2
      rw [same_int hs, fromD_int, decide_eq_true (by omega)] at this
      cases this
end Go.Proofs.Ytdblmoaimghplaa
