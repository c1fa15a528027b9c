/- Laws about matches (42): their order, that case folds, that rows may be wrapped elsewhere; the next one and the one before. No condition. -/
import Derived.Test.YtohiigmlkhpneaaDoorSrP
namespace Go.Proofs.YtohiigmlkhpneaaDoor
set_option linter.unusedVariables false
set_option linter.unusedSimpArgs false
open Go

/-- The texts' cells stand one behind the other. -/
def bpLe (a b : Bp) : Prop := a.line < b.line ∨ (a.line = b.line ∧ a.col ≤ b.col)
theorem cellsB_mem {n : Int} : ∀ {k : Nat} {cs : List Cell} {x : Bp}, x ∈ cellsB n k cs → x.line = n ∧ (k : Int) ≤ x.col ∧ x.col < k + cs.length
  | _, [], _, h => by simp [cellsB] at h
  | k, c :: cs, x, h => by
    rw [cellsB, List.mem_append] at h
    rcases h with h | h
    · obtain ⟨b, _, rfl⟩ := List.mem_map.1 h
      refine ⟨rfl, Int.le_refl _, ?_⟩
      show (k : Int) < _
      rw [List.length_cons]; push_cast; omega
    · obtain ⟨h1, h2, h3⟩ := cellsB_mem h
      refine ⟨h1, by push_cast at h2; omega, ?_⟩
      rw [List.length_cons]; push_cast at h3 ⊢; omega
theorem cellsB_sorted {n : Int} : ∀ {k : Nat} {cs : List Cell}, (cellsB n k cs).Pairwise bpLe
  | _, [] => by simp [cellsB]
  | k, c :: cs => by
    rw [cellsB, List.pairwise_append]
    refine ⟨?_, cellsB_sorted, ?_⟩
    · rw [cellB, List.pairwise_map]
      exact List.pairwise_of_forall (fun _ _ => .inr ⟨rfl, Int.le_refl _⟩)
    · intro a ha b hb
      obtain ⟨x, _, rfl⟩ := List.mem_map.1 ha
      obtain ⟨h1, h2, _⟩ := cellsB_mem hb
      exact .inr ⟨h1.symm, by push_cast at h2; show (k : Int) ≤ _; omega⟩
theorem rowB_mem {n : Int} {last : Bool} {x : Ln} {y : Bp} (h : y ∈ rowB n last x) : y.line = n ∧ 0 ≤ y.col ∧ y.col < x.cells.length := by
  obtain ⟨h1, h2, h3⟩ := cellsB_mem h
  have := x.part_len last
  exact ⟨h1, by omega, by omega⟩
theorem segs_mem : ∀ {ls : List Ln} {n : Int} {acc : List Bp} {s : List Bp} {y : Bp}, s ∈ segs n acc ls → y ∈ s → y ∈ acc ∨ (n ≤ y.line ∧ y.line < n + ls.length ∧ 0 ≤ y.col ∧ ∃ x ∈ ls, y.col < x.cells.length)
  | [], _, _, _, _, h, _ => by simp [segs] at h
  | x :: xs, n, acc, s, y, h, hy => by
    have hrow : ∀ last, y ∈ rowB n last x → n ≤ y.line ∧ y.line < n + (x :: xs).length ∧ 0 ≤ y.col ∧ ∃ z ∈ x :: xs, y.col < z.cells.length := fun last hh => by
      obtain ⟨h1, h2, h3⟩ := rowB_mem hh
      refine ⟨by omega, by rw [List.length_cons]; push_cast; omega, h2, x, List.mem_cons_self, h3⟩
    have hlift : (n + 1 ≤ y.line ∧ y.line < n + 1 + xs.length ∧ 0 ≤ y.col ∧ ∃ z ∈ xs, y.col < z.cells.length) → (n ≤ y.line ∧ y.line < n + (x :: xs).length ∧ 0 ≤ y.col ∧ ∃ z ∈ x :: xs, y.col < z.cells.length) := by
      rintro ⟨h1, h2, h3, z, hz, h4⟩
      refine ⟨by omega, by rw [List.length_cons]; push_cast; omega, h3, z, List.mem_cons_of_mem _ hz, h4⟩
    unfold segs at h
    split at h
    · rcases segs_mem h hy with h1 | h1
      · rcases List.mem_append.1 h1 with h2 | h2
        · exact .inl h2
        · exact .inr (hrow _ h2)
      · exact .inr (hlift h1)
    · rcases List.mem_cons.1 h with rfl | h
      · rcases List.mem_append.1 hy with h2 | h2
        · exact .inl h2
        · exact .inr (hrow _ h2)
      · rcases segs_mem h hy with h1 | h1
        · cases h1
        · exact .inr (hlift h1)
theorem segs_sorted : ∀ {ls : List Ln} {n : Int} {acc : List Bp}, acc.Pairwise bpLe → (∀ y ∈ acc, y.line < n) → (segs n acc ls).flatten.Pairwise bpLe
  | [], _, _, _, _ => by simp [segs]
  | x :: xs, n, acc, h1, h2 => by
    have hrow : ∀ last, (acc ++ rowB n last x).Pairwise bpLe := fun last => by
      rw [List.pairwise_append]
      exact ⟨h1, cellsB_sorted, fun a ha b hb => .inl (by have := h2 a ha; have := (rowB_mem hb).1; omega)⟩
    have hlt : ∀ last, ∀ y ∈ acc ++ rowB n last x, y.line < n + 1 := fun last y hy => by
      rcases List.mem_append.1 hy with h | h
      · have := h2 y h; omega
      · have := (rowB_mem h).1; omega
    unfold segs
    split
    · exact segs_sorted (hrow _) (hlt _)
    · rw [List.flatten_cons, List.pairwise_append]
      refine ⟨hrow _, segs_sorted List.Pairwise.nil (fun y hy => by cases hy), fun a ha b hb => ?_⟩
      obtain ⟨s, hs, hb⟩ := List.mem_flatten.1 hb
      have h3 := hlt _ a ha
      rcases segs_mem hs hb with h4 | h4
      · cases h4
      · exact .inl (by omega)
theorem hits_sorted {p : List UInt8} (hp : p ≠ []) : ∀ {t : List UInt8} {i s : Nat}, (hits p i s t).Pairwise (· < ·)
  | [], _, _ => by simp [hits]
  | b :: t, i, s + 1 => by rw [hits]; exact hits_sorted hp
  | b :: t, i, 0 => by
    rw [hits]
    split
    · rw [List.pairwise_cons]
      exact ⟨fun n hn => by have := (hits_in hp hn).1; omega, hits_sorted hp⟩
    · exact hits_sorted hp
/-- The order of matches. -/
def mtLe (a b : Mt) : Prop := (a.l0 < b.l0 ∨ (a.l0 = b.l0 ∧ a.c0 ≤ b.c0)) ∧ (a.l1 < b.l1 ∨ (a.l1 = b.l1 ∧ a.c1 ≤ b.c1))
theorem getD_le {s : List Bp} (h : s.Pairwise bpLe) {i j : Nat} (hij : i < j) (hj : j < s.length) : bpLe (s.getD i default) (s.getD j default) := by
  rw [List.getD_eq_getElem?_getD, List.getD_eq_getElem?_getD, List.getElem?_eq_getElem (by omega), List.getElem?_eq_getElem hj]
  exact List.pairwise_iff_getElem.1 h i j (by omega) hj hij
theorem getD_mem {s : List Bp} {i : Nat} (h : i < s.length) : s.getD i default ∈ s := by
  rw [List.getD_eq_getElem?_getD, List.getElem?_eq_getElem h]
  exact List.getElem_mem h
theorem lowB_len (fold : Bool) (s : List Bp) : (lowB fold s).length = s.length := by unfold lowB; rw [List.length_map]
/-- A match's cells are of the text. -/
theorem matchS_mem {p : List UInt8} (hp : p ≠ []) {fold : Bool} {s : List Bp} {m : Mt} (h : m ∈ matchS p fold s) : ∃ x ∈ s, ∃ y ∈ s, m = ⟨x.line, x.col, y.line, y.col⟩ := by
  obtain ⟨n, hn, rfl⟩ := List.mem_map.1 h
  have h1 := (hits_in hp hn).2
  rw [lowB_len] at h1
  have hpl := List.length_pos_iff.2 hp
  exact ⟨_, getD_mem (i := n) (by omega), _, getD_mem (i := n + p.length - 1) (by omega), rfl⟩
theorem matchS_sorted {p : List UInt8} (hp : p ≠ []) {fold : Bool} {s : List Bp} (h : s.Pairwise bpLe) : (matchS p fold s).Pairwise mtLe := by
  unfold matchS
  rw [List.pairwise_map]
  have hs := hits_sorted hp (t := lowB fold s) (i := 0) (s := 0)
  refine List.Pairwise.imp_of_mem ?_ hs
  intro a b ha hb hab
  have h2 := (hits_in hp hb).2
  rw [lowB_len] at h2
  have hpl := List.length_pos_iff.2 hp
  exact ⟨getD_le h hab (by omega), getD_le h (show a + p.length - 1 < b + p.length - 1 by omega) (by omega)⟩
theorem allM_sorted (ls : List Ln) (first : Int) {p : List UInt8} (hp : p ≠ []) (fold : Bool) : (allM ls first p fold).Pairwise mtLe := by
  have hp' : p.map (low fold) ≠ [] := by simpa using hp
  have hs := segs_sorted (ls := ls) (n := first) (acc := []) List.Pairwise.nil (fun y hy => by cases hy)
  rw [List.pairwise_flatten] at hs
  unfold allM
  rw [List.pairwise_flatMap]
  refine ⟨fun s hm => matchS_sorted hp' (hs.1 s hm), hs.2.imp ?_⟩
  intro a b hab x hx y hy
  obtain ⟨x0, hx0, x1, hx1, rfl⟩ := matchS_mem hp' hx
  obtain ⟨y0, hy0, y1, hy1, rfl⟩ := matchS_mem hp' hy
  exact ⟨hab x0 hx0 y0 hy0, hab x1 hx1 y1 hy1⟩
/-- A match's cells are in the rows. -/
theorem allM_in {ls : List Ln} {first : Int} {p : List UInt8} (hp : p ≠ []) {fold : Bool} {k : Nat} (hk : ∀ x ∈ ls, x.cells.length = k) {m : Mt} (h : m ∈ allM ls first p fold) :
    first ≤ m.l0 ∧ m.l0 < first + ls.length ∧ 0 ≤ m.c0 ∧ m.c0 < k ∧ first ≤ m.l1 ∧ m.l1 < first + ls.length ∧ 0 ≤ m.c1 ∧ m.c1 < k := by
  have hp' : p.map (low fold) ≠ [] := by simpa using hp
  obtain ⟨s, hs, hm⟩ := List.mem_flatMap.1 h
  obtain ⟨x, hx, y, hy, rfl⟩ := matchS_mem hp' hm
  rcases segs_mem hs hx with h1 | ⟨a1, a2, a3, z, hz, a4⟩
  · cases h1
  rcases segs_mem hs hy with h1 | ⟨b1, b2, b3, z', hz', b4⟩
  · cases h1
  rw [hk z hz] at a4
  rw [hk z' hz'] at b4
  exact ⟨a1, a2, a3, a4, b1, b2, b3, b4⟩

/-- How many matches there are goes by the texts' bytes alone. -/
theorem allM_len (ls : List Ln) (first : Int) (p : List UInt8) (fold : Bool) : (allM ls first p fold).length = (((segs first [] ls).map (lowB fold)).map fun t => (hits (p.map (low fold)) 0 0 t).length).sum := by
  unfold allM
  rw [List.length_flatMap, List.map_map]
  congr 1
  refine List.map_congr_left fun s _ => ?_
  simp [matchS]
theorem segs_total {m : Nat} : ∀ {ls : List Ln} {n : Int} {acc : List Bp}, (∀ x ∈ ls, x.cells.length ≤ m) → ((segs n acc ls).map List.length).sum ≤ acc.length + ls.length * (m * 16)
  | [], _, _, _ => by simp [segs]
  | x :: xs, n, acc, h => by
    have h0 : ∀ last, (rowB n last x).length ≤ m * 16 := fun last => Nat.le_trans (rowB_len n last x) (Nat.mul_le_mul_right _ (h x List.mem_cons_self))
    have hx : ∀ y ∈ xs, y.cells.length ≤ m := fun y hy => h y (List.mem_cons_of_mem _ hy)
    unfold segs
    rw [List.length_cons, Nat.add_mul, Nat.one_mul]
    split
    · have ih := segs_total (ls := xs) (n := n + 1) (acc := acc ++ rowB n false x) hx
      have := h0 false
      rw [List.length_append] at ih
      omega
    · have ih := segs_total (ls := xs) (n := n + 1) (acc := []) hx
      have := h0 true
      rw [List.map_cons, List.sum_cons, List.length_append]
      rw [List.length_nil] at ih
      omega
theorem sum_le {α : Type} {f g : α → Nat} : ∀ {l : List α}, (∀ x ∈ l, f x ≤ g x) → (l.map f).sum ≤ (l.map g).sum
  | [], _ => by simp
  | x :: l, h => by
    have h1 := h x List.mem_cons_self
    have h2 := sum_le (l := l) (f := f) (g := g) (fun y hy => h y (List.mem_cons_of_mem _ hy))
    simp only [List.map_cons, List.sum_cons]
    omega
theorem allM_few {ls : List Ln} {m : Nat} (h : ∀ x ∈ ls, x.cells.length ≤ m) (first : Int) (p : List UInt8) (fold : Bool) : (allM ls first p fold).length ≤ ls.length * (m * 16) := by
  have h1 := segs_total (n := first) (acc := []) h
  rw [allM_len, List.map_map]
  have h2 := sum_le (l := segs first [] ls) (f := (fun t => (hits (p.map (low fold)) 0 0 t).length) ∘ lowB fold) (g := List.length) (fun s _ => by
    have := hits_len (p := p.map (low fold)) (t := lowB fold s) (i := 0) (s := 0)
    rw [lowB_len] at this
    exact this)
  rw [List.length_nil, Nat.zero_add] at h1
  exact Nat.le_trans h2 h1

/-- Whether there is a match at all. -/
theorem hits_ne {p : List UInt8} : ∀ {t : List UInt8} {i : Nat}, p ≠ [] → (hits p i 0 t ≠ [] ↔ ∃ j, j < t.length ∧ p.isPrefixOf (t.drop j) = true)
  | [], i, hp => by simp [hits]
  | b :: t, i, hp => by
    cases hb : p.isPrefixOf (b :: t) with
    | true =>
      rw [hits_yes hp hb]
      simp only [ne_eq, reduceCtorEq, not_false_eq_true, true_iff]
      exact ⟨0, by simp, by simpa using hb⟩
    | false =>
      rw [hits_no hb, hits_ne hp]
      constructor
      · rintro ⟨j, hj, h⟩
        exact ⟨j + 1, by rw [List.length_cons]; omega, by simpa using h⟩
      · rintro ⟨j, hj, h⟩
        cases j with
        | zero => rw [List.drop_zero, hb] at h; cases h
        | succ j => exact ⟨j, by rw [List.length_cons] at hj; omega, by simpa using h⟩
theorem low_false (b : UInt8) : low false b = b := by simp [low]
theorem lowB_false (s : List Bp) : lowB false s = s.map Bp.b := by unfold lowB; exact List.map_congr_left fun x _ => low_false x.b
theorem map_low_false (p : List UInt8) : p.map (low false) = p := by
  conv => rhs; rw [← List.map_id p]
  exact List.map_congr_left fun x _ => low_false x
theorem allM_fold {ls : List Ln} {first : Int} {p : List UInt8} (hp : p ≠ []) (h : allM ls first p false ≠ []) : allM ls first p true ≠ [] := by
  obtain ⟨m, hm⟩ := List.exists_mem_of_ne_nil _ h
  obtain ⟨s, hs, hm⟩ := List.mem_flatMap.1 hm
  have hp' : p.map (low true) ≠ [] := by simpa using hp
  rw [map_low_false] at hm
  have h1 : hits p 0 0 (lowB false s) ≠ [] := by
    intro e
    unfold matchS at hm
    rw [e] at hm
    cases hm
  obtain ⟨j, hj, hpre⟩ := (hits_ne hp).1 h1
  have h2 : hits (p.map (low true)) 0 0 (lowB true s) ≠ [] := by
    refine (hits_ne hp').2 ⟨j, by rw [lowB_len] at hj ⊢; exact hj, ?_⟩
    rw [List.isPrefixOf_iff_prefix] at hpre ⊢
    obtain ⟨r, hr⟩ := hpre
    refine ⟨r.map (low true), ?_⟩
    have e : lowB true s = (lowB false s).map (low true) := by
      rw [lowB_false, List.map_map]
      rfl
    rw [e, ← List.map_drop, ← hr, List.map_append]
  obtain ⟨n, hn⟩ := List.exists_mem_of_ne_nil _ h2
  intro e
  have : mtOf s (p.map (low true)).length n ∈ allM ls first p true := List.mem_flatMap.2 ⟨s, hs, List.mem_map.2 ⟨n, hn, rfl⟩⟩
  rw [e] at this
  cases this

/-- A match behind a place, or before it. -/
def Mt.beh (m : Mt) (l c : Int) : Bool := decide (l < m.l0) || (l == m.l0 && decide (c < m.c0))
def Mt.ahe (m : Mt) (l c : Int) : Bool := decide (m.l0 < l) || (m.l0 == l && decide (m.c0 < c))
def nextD (d : Mt) (l c : Int) : List Mt → Mt
  | [] => d
  | m :: ms => if m.beh l c then m else nextD d l c ms
def prevD (l c : Int) : Mt → List Mt → Mt
  | d, [] => d
  | d, m :: ms => prevD l c (if m.ahe l c then m else d) ms
theorem prevD_append (l c : Int) : ∀ (d : Mt) (xs ys : List Mt), prevD l c d (xs ++ ys) = prevD l c (prevD l c d xs) ys
  | d, [], ys => rfl
  | d, x :: xs, ys => by rw [List.cons_append, prevD, prevD, prevD_append]
theorem nextD_none {d : Mt} {l c : Int} : ∀ {ms : List Mt}, (∀ m ∈ ms, m.beh l c = false) → nextD d l c ms = d
  | [], _ => rfl
  | m :: ms, h => by rw [nextD, if_neg (by rw [h m List.mem_cons_self]; exact Bool.false_ne_true), nextD_none (fun x hx => h x (List.mem_cons_of_mem _ hx))]
theorem nextD_at {d : Mt} {l c : Int} : ∀ {ms : List Mt} {k : Nat} {x : Mt}, ms[k]? = some x → x.beh l c = true → (∀ j y, j < k → ms[j]? = some y → y.beh l c = false) → nextD d l c ms = x
  | [], _, _, h, _, _ => by cases h
  | m :: ms, 0, x, h, hx, _ => by
    have : m = x := by simpa using h
    subst this
    rw [nextD, if_pos hx]
  | m :: ms, k + 1, x, h, hx, hn => by
    rw [nextD, if_neg (by rw [hn 0 m (by omega) rfl]; exact Bool.false_ne_true)]
    exact nextD_at (k := k) (by simpa using h) hx (fun j y hj hy => hn (j + 1) y (by omega) (by simpa using hy))
/-- From one match on, the next one. -/
theorem next_leads {ms : List Mt} (hs : ms.Pairwise mtLe) {i : Nat} {x y : Mt} (hx : ms[i]? = some x) (hy : ms[(i + 1) % ms.length]? = some y)
    (hc : ms.length < 2 ∨ y.beh x.l0 x.c0 = true ∨ ((i + 1) % ms.length = 0 ∧ ∃ z, ms[0]? = some z ∧ x.beh z.l0 z.c0 = true)) (d : Mt) (hd : ms.head? = some d) : nextD d x.l0 x.c0 ms = y := by
  have hi := (List.getElem?_eq_some_iff.1 hx).1
  have hle : ∀ j z, j ≤ i → ms[j]? = some z → z.beh x.l0 x.c0 = false := by
    intro j z hj hz
    have : ¬ (x.l0 < z.l0 ∨ (x.l0 = z.l0 ∧ x.c0 < z.c0)) := by
      rcases Nat.lt_or_eq_of_le hj with h | rfl
      · have hjl := (List.getElem?_eq_some_iff.1 hz).1
        have h1 := List.pairwise_iff_getElem.1 hs j i hjl hi h
        rw [(List.getElem?_eq_some_iff.1 hz).2, (List.getElem?_eq_some_iff.1 hx).2] at h1
        have := h1.1
        omega
      · have : z = x := by rw [hx] at hz; exact (Option.some.inj hz).symm
        subst this; omega
    unfold Mt.beh
    rw [Bool.or_eq_false_iff, Bool.and_eq_false_iff]
    refine ⟨decide_eq_false (by omega), ?_⟩
    by_cases h : x.l0 = z.l0
    · exact .inr (decide_eq_false (by omega))
    · exact .inl (by simpa using h)
  rcases Nat.lt_or_ge (i + 1) ms.length with hlt | hge
  · rw [Nat.mod_eq_of_lt hlt] at hy hc
    have hb : y.beh x.l0 x.c0 = true := by
      rcases hc with h | h | ⟨h, _⟩
      · omega
      · exact h
      · omega
    exact nextD_at hy hb (fun j z hj hz => hle j z (by omega) hz)
  · have he : i + 1 = ms.length := by omega
    rw [he, Nat.mod_self] at hy
    have : y = d := by
      cases ms with
      | nil => simp at hi
      | cons a rr =>
        have h1 : a = y := by simpa using hy
        have h2 : a = d := by simpa using hd
        rw [← h1, h2]
    subst this
    refine nextD_none (fun m hm => ?_)
    obtain ⟨j, hj⟩ := List.mem_iff_getElem?.1 hm
    exact hle j m (by have := (List.getElem?_eq_some_iff.1 hj).1; omega) hj
end Go.Proofs.YtohiigmlkhpneaaDoor
