/- Data of any kind in memory: slices that are read, and slices of the call's own. No condition. -/
import Derived.Test.YthcndmchlpohpaaGreatDoorLines2
import Derived.Test.YthcndmchlpohpaaGreatDoorRg2
import Derived.Maps.AppendAt
namespace Go.Proofs.YthcndmchlpohpaaGreatDoor
set_option linter.unusedVariables false
set_option linter.unusedSimpArgs false
open Go.RowKit

theorem addr_add (b o i : Nat) : (⟨b, o, none⟩ : Addr).add i = ⟨b, o + i, none⟩ := by
  unfold Addr.add
  split
  · subst_vars; rfl
  · rfl

/-- How data of a kind lie in words of memory: 'rel', what is read; 'own', what is reached is in blocks of its own, of F. -/
structure El (α : Type) where
  ty : TypeId
  n : Nat
  n0 : 0 < n
  rel : (Nat → Prop) → World → List Value → α → Prop
  own : (Nat → Prop) → World → List Value → α → Prop
  len : ∀ {F w vs x}, rel F w vs x → vs.length = n
  one : ∀ {F w vs x}, rel F w vs x → ∀ v ∈ vs, v.oneCell' = true
  keeps : ∀ {F G : Nat → Prop} {w W vs x}, rel F w vs x → Keeps G w W → (∀ b, F b → ¬ G b) → rel F W vs x
  mono : ∀ {F G : Nat → Prop} {w vs x}, rel F w vs x → (∀ b, b < w.heap.size → F b → G b) → rel G w vs x
  own_rel : ∀ {F w vs x}, own F w vs x → rel F w vs x
  own_keeps : ∀ {F G : Nat → Prop} {w W vs x}, own F w vs x → Keeps G w W → (∀ b, F b → ¬ G b) → own F W vs x
  own_mono : ∀ {F G : Nat → Prop} {w vs x}, own F w vs x → (∀ b, b < w.heap.size → F b → G b) → own G w vs x

namespace El
variable {α : Type} (E : El α)

/-- A slice reads as data. -/
def Rd (F : Nat → Prop) (w : World) (v : Value) (xs : List α) : Prop :=
  ∃ ao cap, v = .slice ao xs.length cap ∧ xs.length ≤ cap ∧ (xs ≠ [] → ∃ b o, ao = some ⟨b, o, none⟩ ∧ F b ∧ ∀ (i : Nat) x, xs[i]? = some x → ∃ vs, E.rel F w vs x ∧ ∀ (j : Nat) u, vs[j]? = some u → w.cell? ⟨b, o + i * E.n + j, none⟩ = some u)
/-- Words that hold data, all in blocks of their own. -/
def ownIn : (Nat → Prop) → World → List Value → List α → Prop
  | _, _, vs, [] => vs = []
  | F, w, vs, x :: xs => ∃ F1 F2 : Nat → Prop, (∀ b, F1 b → F b) ∧ (∀ b, F2 b → F b) ∧ (∀ b, F1 b → ¬ F2 b) ∧ E.own F1 w (vs.take E.n) x ∧ ownIn F2 w (vs.drop E.n) xs
/-- Words that hold data. -/
def relIn (F : Nat → Prop) (w : World) (vs : List Value) (xs : List α) : Prop :=
  vs.length = xs.length * E.n ∧ ∀ (i : Nat) x, xs[i]? = some x → E.rel F w ((vs.drop (i * E.n)).take E.n) x
/-- A slice of the call's own; all that its data reach is its own, too. -/
def Own (F : Nat → Prop) (w : World) (v : Value) (xs : List α) : Prop :=
  ∃ vals, w.ownsRow 0 E.ty E.n v xs.length vals ∧ (∀ g, v.ownBlock = some g → F g) ∧ E.ownIn (fun b => F b ∧ v.ownBlock ≠ some b) w vals xs
/-- A slice of the call's own; what its data reach may be shared. -/
def Row (base : Nat) (G : Nat → Prop) (w : World) (v : Value) (xs : List α) : Prop :=
  ∃ vals, w.ownsRow base E.ty E.n v xs.length vals ∧ E.relIn G w vals xs

variable {E} {F G : Nat → Prop} {w W : World} {v : Value} {vs : List Value} {xs : List α}

theorem relIn_nil : E.relIn F w [] [] := ⟨by simp, fun i x h => by cases h⟩
theorem relIn.keeps (h : E.relIn F w vs xs) (hk : Keeps G w W) (hd : ∀ b, F b → ¬ G b) : E.relIn F W vs xs := ⟨h.1, fun i x hx => E.keeps (h.2 i x hx) hk hd⟩
theorem relIn.mono (h : E.relIn F w vs xs) (hFG : ∀ b, b < w.heap.size → F b → G b) : E.relIn G w vs xs := ⟨h.1, fun i x hx => E.mono (h.2 i x hx) hFG⟩
theorem relIn.append {us : List Value} {ys : List α} (h : E.relIn F w vs xs) (k : E.relIn F w us ys) : E.relIn F w (vs ++ us) (xs ++ ys) := by
  refine ⟨by rw [List.length_append, List.length_append, h.1, k.1, Nat.add_mul], fun i x hx => ?_⟩
  by_cases hi : i < xs.length
  · rw [List.getElem?_append_left hi] at hx
    have hle : i * E.n + E.n ≤ xs.length * E.n := by rw [← Nat.succ_mul]; exact Nat.mul_le_mul_right _ hi
    have := h.2 i x hx
    rw [List.drop_append_of_le_length (by rw [h.1]; omega), List.take_append_of_le_length (by rw [List.length_drop, h.1]; omega)]
    exact this
  · rw [List.getElem?_append_right (by omega)] at hx
    have := k.2 _ x hx
    have hge : xs.length * E.n ≤ i * E.n := Nat.mul_le_mul_right _ (by omega)
    rw [List.drop_append, List.drop_eq_nil_of_le (by rw [h.1]; exact hge), List.nil_append, h.1, ← Nat.sub_mul]
    exact this
theorem relIn.one (h : E.relIn F w vs xs) : ∀ u ∈ vs, u.oneCell' = true := by
  intro u hu
  obtain ⟨j, hj⟩ := List.mem_iff_getElem?.1 hu
  have hjl := (List.getElem?_eq_some_iff.1 hj).1
  have hn := E.n0
  rw [h.1] at hjl
  have hi : j / E.n < xs.length := Nat.div_lt_of_lt_mul (by rw [Nat.mul_comm]; exact hjl)
  refine E.one (h.2 _ _ (List.getElem?_eq_getElem hi)) u (List.mem_iff_getElem?.2 ⟨j % E.n, ?_⟩)
  have hm := Nat.mod_lt j hn
  have hd := Nat.div_add_mod j E.n
  rw [Nat.mul_comm] at hd
  rw [List.getElem?_take, if_pos hm, List.getElem?_drop, hd]
  exact hj
theorem relIn_of_len (h : ∀ (i : Nat) x, xs[i]? = some x → ∃ vs, E.rel F w vs x) : ∃ vs, E.relIn F w vs xs := by
  induction xs with
  | nil => exact ⟨[], relIn_nil⟩
  | cons x xs ih =>
    obtain ⟨v1, h1⟩ := h 0 x rfl
    obtain ⟨v2, h2⟩ := ih (fun i y hy => h (i + 1) y (by simpa using hy))
    have hx : E.relIn F w v1 [x] := ⟨by simp [E.len h1], fun i y hy => by
      rcases i with _ | i
      · cases hy; rw [Nat.zero_mul, List.drop_zero, List.take_of_length_le (by rw [E.len h1]; exact Nat.le_refl _)]; exact h1
      · cases hy⟩
    exact ⟨v1 ++ v2, hx.append h2⟩

theorem ownIn_length : ∀ {xs : List α} {F : Nat → Prop} {vs : List Value}, E.ownIn F w vs xs → vs.length = xs.length * E.n
  | [], _, vs, h => by rw [show vs = [] from h]; simp
  | x :: xs, F, vs, ⟨F1, F2, _, _, _, h4, h5⟩ => by
    have h1 := E.len (E.own_rel h4)
    have h2 := ownIn_length h5
    rw [List.length_take] at h1
    rw [List.length_drop] at h2
    have hn := E.n0
    rw [List.length_cons, Nat.add_mul, Nat.one_mul]; omega
theorem ownIn_keeps : ∀ {xs : List α} {F : Nat → Prop} {vs : List Value}, E.ownIn F w vs xs → Keeps G w W → (∀ b, F b → ¬ G b) → E.ownIn F W vs xs
  | [], _, vs, h, _, _ => h
  | x :: xs, F, vs, ⟨F1, F2, h1, h2, h3, h4, h5⟩, hk, hd => ⟨F1, F2, h1, h2, h3, E.own_keeps h4 hk (fun b hb => hd b (h1 b hb)), ownIn_keeps h5 hk (fun b hb => hd b (h2 b hb))⟩
theorem ownIn_mono : ∀ {xs : List α} {F G : Nat → Prop} {vs : List Value}, E.ownIn F w vs xs → (∀ b, b < w.heap.size → F b → G b) → E.ownIn G w vs xs
  | [], _, _, vs, h, _ => h
  | x :: xs, F, G, vs, ⟨F1, F2, h1, h2, h3, h4, h5⟩, hd =>
    ⟨fun b => F1 b ∧ b < w.heap.size, fun b => F2 b ∧ b < w.heap.size, fun b hb => hd b hb.2 (h1 b hb.1), fun b hb => hd b hb.2 (h2 b hb.1), fun b hb hc => h3 b hb.1 hc.1,
      E.own_mono h4 (fun b hb h => ⟨h, hb⟩), ownIn_mono h5 (fun b hb h => ⟨h, hb⟩)⟩
theorem ownIn_append : ∀ {xs ys : List α} {F1 F2 F : Nat → Prop} {vs us : List Value}, E.ownIn F1 w vs xs → E.ownIn F2 w us ys → (∀ b, F1 b → F b) → (∀ b, F2 b → F b) → (∀ b, F1 b → ¬ F2 b) → E.ownIn F w (vs ++ us) (xs ++ ys)
  | [], ys, F1, F2, F, vs, us, h, k, _, g2, _ => by
    rw [show vs = [] from h]; exact ownIn_mono k (fun b _ h => g2 b h)
  | x :: xs, ys, F1, F2, F, vs, us, ⟨A, B, h1, h2, h3, h4, h5⟩, k, g1, g2, g3 => by
    have hl := E.len (E.own_rel h4)
    rw [List.length_take] at hl
    have hn := E.n0
    refine ⟨A, fun b => B b ∨ F2 b, fun b hb => g1 b (h1 b hb), fun b hb => ?_, fun b hb hc => ?_, ?_, ?_⟩
    · rcases hb with hb | hb
      · exact g1 b (h2 b hb)
      · exact g2 b hb
    · rcases hc with hc | hc
      · exact h3 b hb hc
      · exact g3 b (h1 b hb) hc
    · rw [List.take_append_of_le_length (by omega)]; exact h4
    · rw [List.drop_append_of_le_length (by omega)]
      exact ownIn_append h5 k (fun b h => .inl h) (fun b h => .inr h) (fun b hb hc => g3 b (h2 b hb) hc)
theorem ownIn_split : ∀ {xs ys : List α} {F : Nat → Prop} {vs : List Value}, E.ownIn F w vs (xs ++ ys) → ∃ F1 F2 : Nat → Prop, (∀ b, F1 b → F b) ∧ (∀ b, F2 b → F b) ∧ (∀ b, F1 b → ¬ F2 b) ∧ E.ownIn F1 w (vs.take (xs.length * E.n)) xs ∧ E.ownIn F2 w (vs.drop (xs.length * E.n)) ys
  | [], ys, F, vs, h => ⟨fun _ => False, F, fun _ h => h.elim, fun _ h => h, fun _ h => h.elim, by simp [ownIn], by simpa using h⟩
  | x :: xs, ys, F, vs, ⟨A, B, h1, h2, h3, h4, h5⟩ => by
    obtain ⟨C, D, k1, k2, k3, k4, k5⟩ := ownIn_split h5
    refine ⟨fun b => A b ∨ C b, D, fun b hb => ?_, fun b hb => h2 b (k2 b hb), fun b hb hc => ?_, ⟨A, C, fun b h => .inl h, fun b h => .inr h, fun b hb hc => h3 b hb (k1 b hc), ?_, ?_⟩, ?_⟩
    · rcases hb with hb | hb
      · exact h1 b hb
      · exact h2 b (k1 b hb)
    · rcases hb with hb | hb
      · exact h3 b hb (k2 b hc)
      · exact k3 b hb hc
    · rw [List.take_take, Nat.min_eq_left (by rw [List.length_cons, Nat.add_mul]; omega)]; exact h4
    · rw [List.length_cons, Nat.add_mul, Nat.one_mul, List.drop_take, Nat.add_sub_cancel]
      exact k4
    · rw [List.length_cons, Nat.add_mul, Nat.one_mul, show xs.length * E.n + E.n = E.n + xs.length * E.n by omega, ← List.drop_drop]
      exact k5
theorem ownIn.rel : ∀ {xs : List α} {F : Nat → Prop} {vs : List Value}, E.ownIn F w vs xs → E.relIn F w vs xs := by
  intro xs
  induction xs with
  | nil => intro F vs h; rw [show vs = [] from h]; exact relIn_nil
  | cons x xs ih =>
    rintro F vs ⟨F1, F2, h1, h2, h3, h4, h5⟩
    have hx : E.relIn F w (vs.take E.n) [x] := ⟨by rw [E.len (E.own_rel h4)]; simp, fun i y hy => by
      rcases i with _ | i
      · cases hy; rw [Nat.zero_mul, List.drop_zero, List.take_take, Nat.min_self]; exact E.mono (E.own_rel h4) (fun b _ h => h1 b h)
      · cases hy⟩
    have := hx.append ((ih h5).mono (fun b _ h => h2 b h))
    rwa [List.take_append_drop] at this

namespace Rd
theorem keeps (h : E.Rd F w v xs) (hk : Keeps G w W) (hd : ∀ b, F b → ¬ G b) : E.Rd F W v xs := by
  obtain ⟨ao, cap, h1, hc, h2⟩ := h
  refine ⟨ao, cap, h1, hc, fun hne => ?_⟩
  obtain ⟨b, o, h3, hb, h4⟩ := h2 hne
  refine ⟨b, o, h3, hb, fun i x hx => ?_⟩
  obtain ⟨vs, h5, h6⟩ := h4 i x hx
  exact ⟨vs, E.keeps h5 hk hd, fun j u hu => hk.cell (hd b hb) (h6 j u hu)⟩
theorem sees (h : E.Rd F w v xs) (hs : Sees w W) : E.Rd F W v xs := h.keeps (Keeps.of_sees (F := fun _ => False) hs) (fun _ _ h => h)
theorem mono (h : E.Rd F w v xs) (hFG : ∀ b, b < w.heap.size → F b → G b) : E.Rd G w v xs := by
  obtain ⟨ao, cap, h1, hc, h2⟩ := h
  refine ⟨ao, cap, h1, hc, fun hne => ?_⟩
  obtain ⟨b, o, h3, hb, h4⟩ := h2 hne
  obtain ⟨x0, r, rfl⟩ := List.exists_cons_of_ne_nil hne
  obtain ⟨vs0, k1, k2⟩ := h4 0 x0 rfl
  have hlen := E.len k1
  have hn := E.n0
  have hlt : b < w.heap.size := block_lt_of_cell (k2 0 _ (List.getElem?_eq_getElem (by omega)))
  refine ⟨b, o, h3, hFG b hlt hb, fun i x hx => ?_⟩
  obtain ⟨vs, h5, h6⟩ := h4 i x hx
  exact ⟨vs, E.mono h5 hFG, h6⟩
theorem any (h : E.Rd F w v xs) : E.Rd (fun b => b < w.heap.size) w v xs := h.mono (fun b hb _ => hb)
theorem all (h : E.Rd F w v xs) : E.Rd (fun _ => True) w v xs := h.mono (fun b hb _ => trivial)
theorem nil (F : Nat → Prop) (w : World) : E.Rd F w (.slice none 0 0) [] := ⟨none, 0, rfl, Nat.le_refl _, fun h => absurd rfl h⟩
theorem empty (F : Nat → Prop) (w : World) (ao : Option Addr) (c : Nat) : E.Rd F w (.slice ao 0 c) [] := ⟨ao, c, rfl, Nat.zero_le _, fun h => absurd rfl h⟩
theorem slice (h : E.Rd F w v xs) : ∃ a c, v = .slice a xs.length c := by obtain ⟨a, c, h, _⟩ := h; exact ⟨a, c, h⟩
theorem slice' (h : E.Rd F w v xs) : ∃ a c, v = .slice a xs.length c ∧ xs.length ≤ c := by obtain ⟨a, c, h, k, _⟩ := h; exact ⟨a, c, h, k⟩
theorem len {a : Option Addr} {n c : Nat} (h : E.Rd F w (.slice a n c) xs) : n = xs.length := by obtain ⟨_, _, e, _⟩ := h; cases e; rfl
/-- The datum at a place. -/
theorem at_ {ao : Option Addr} {n c k : Nat} (h : E.Rd F w (.slice ao n c) xs) (hk : k < n) : ∃ b o x vs, ao = some ⟨b, o, none⟩ ∧ F b ∧ xs[k]? = some x ∧ E.rel F w vs x ∧ ∀ (j : Nat) u, vs[j]? = some u → w.cell? ⟨b, o + k * E.n + j, none⟩ = some u := by
  obtain ⟨ao', cap, e, _, h2⟩ := h
  cases e
  obtain ⟨b, o, h3, hb, h4⟩ := h2 (by intro e; subst e; simp at hk)
  have hx := List.getElem?_eq_getElem hk
  obtain ⟨vs, h5, h6⟩ := h4 k _ hx
  exact ⟨b, o, _, vs, h3, hb, hx, h5, h6⟩
theorem take {ao : Option Addr} {n c : Nat} (h : E.Rd F w (.slice ao n c) xs) (k : Nat) (hk : k ≤ xs.length) (c' : Nat) (hc : k ≤ c') : E.Rd F w (.slice ao k c') (xs.take k) := by
  obtain ⟨ao', cap, e, _, h2⟩ := h
  cases e
  refine ⟨ao, c', by rw [List.length_take, Nat.min_eq_left hk], by rw [List.length_take, Nat.min_eq_left hk]; exact hc, fun hne => ?_⟩
  obtain ⟨b, o, h3, hb, h4⟩ := h2 (by intro e; subst e; exact hne (by simp))
  refine ⟨b, o, h3, hb, fun i x hx => ?_⟩
  rw [List.getElem?_take] at hx
  split at hx
  · exact h4 i x hx
  · cases hx
theorem drop {b o n c : Nat} (h : E.Rd F w (.slice (some ⟨b, o, none⟩) n c) xs) (k : Nat) (hk : k ≤ xs.length) (c' : Nat) (hc : n - k ≤ c') : E.Rd F w (.slice (some ⟨b, o + k * E.n, none⟩) (n - k) c') (xs.drop k) := by
  obtain ⟨ao', cap, e, _, h2⟩ := h
  cases e
  refine ⟨_, c', by rw [List.length_drop], by rw [List.length_drop]; exact hc, fun hne => ?_⟩
  obtain ⟨b', o', h3, hb, h4⟩ := h2 (by intro e; subst e; exact hne (by simp))
  cases h3
  refine ⟨b, _, rfl, hb, fun i x hx => ?_⟩
  rw [List.getElem?_drop] at hx
  obtain ⟨vs, h5, h6⟩ := h4 _ x hx
  exact ⟨vs, h5, fun j u hu => by have := h6 j u hu; rw [Nat.add_mul] at this; rw [show o + k * E.n + i * E.n + j = o + (k * E.n + i * E.n) + j by omega]; exact this⟩
/-- A slice's words. -/
theorem vals {a : Addr} {n c : Nat} (h : E.Rd F w (.slice (some a) n c) xs) : ∃ vs, E.relIn F w vs xs ∧ ∀ j u, vs[j]? = some u → w.cell? (a.add j) = some u := by
  obtain ⟨ao', cap, e, _, h2⟩ := h
  cases e
  by_cases hne : xs = []
  · subst hne; exact ⟨[], relIn_nil, fun j u h => by cases h⟩
  obtain ⟨b, o, h3, hb, h4⟩ := h2 hne
  cases h3
  have key : ∀ (ys : List α) (o : Nat), (∀ (i : Nat) x, ys[i]? = some x → ∃ vs, E.rel F w vs x ∧ ∀ (j : Nat) u, vs[j]? = some u → w.cell? ⟨b, o + i * E.n + j, none⟩ = some u) →
      ∃ vs, E.relIn F w vs ys ∧ ∀ (j : Nat) u, vs[j]? = some u → w.cell? ⟨b, o + j, none⟩ = some u := by
    intro ys
    induction ys with
    | nil => intro o _; exact ⟨[], relIn_nil, fun j u h => by cases h⟩
    | cons y ys ih =>
      intro o hh
      obtain ⟨v1, r1, c1⟩ := hh 0 y rfl
      obtain ⟨v2, r2, c2⟩ := ih (o + E.n) (fun i x hx => by
        obtain ⟨vs, g1, g2⟩ := hh (i + 1) x (by simpa using hx)
        exact ⟨vs, g1, fun j u hu => by have := g2 j u hu; rw [Nat.add_mul, Nat.one_mul] at this; rw [show o + E.n + i * E.n + j = o + (i * E.n + E.n) + j by omega]; exact this⟩)
      have hl := E.len r1
      have hx : E.relIn F w v1 [y] := ⟨by simp [hl], fun i z hz => by
        rcases i with _ | i
        · cases hz; rw [Nat.zero_mul, List.drop_zero, List.take_of_length_le (by omega)]; exact r1
        · cases hz⟩
      refine ⟨v1 ++ v2, hx.append r2, fun j u hu => ?_⟩
      by_cases hj : j < v1.length
      · rw [List.getElem?_append_left hj] at hu
        have := c1 j u hu
        rwa [Nat.zero_mul, Nat.add_zero] at this
      · rw [List.getElem?_append_right (by omega)] at hu
        have := c2 _ u hu
        rwa [show o + E.n + (j - v1.length) = o + j by omega] at this
  obtain ⟨vs, r, c⟩ := key xs o h4
  exact ⟨vs, r, fun j u hu => by rw [addr_add]; exact c j u hu⟩
end Rd

theorem rowKeeps {base : Nat} {e : TypeId} {size n : Nat} {vals : List Value} (h : w.ownsRow base e size v n vals) (hk : Keeps G w W) (hd : ∀ b, v.ownBlock = some b → ¬ G b) : W.ownsRow base e size v n vals := by
  obtain ⟨h1, h2⟩ := h
  refine ⟨h1, ?_⟩
  rcases h2 with h2 | ⟨g, cap, cur, hv, hb', hg, hr⟩
  · exact .inl h2
  · exact .inr ⟨g, cap, cur, hv, hb', by rw [hk.block g (Array.getElem?_eq_some_iff.1 hg).1 (hd g (by rw [hv]; rfl))]; exact hg, hr⟩
theorem rowLt {base : Nat} {e : TypeId} {size n : Nat} {vals : List Value} (h : w.ownsRow base e size v n vals) {g : Nat} (hg : v.ownBlock = some g) : base ≤ g ∧ g < w.heap.size := by
  rcases h.2 with ⟨rfl, _⟩ | ⟨g', cap, cur, rfl, hb, hg', _⟩
  · cases hg
  · cases hg; exact ⟨hb, (Array.getElem?_eq_some_iff.1 hg').1⟩
theorem rowMono {base base' : Nat} {e : TypeId} {size n : Nat} {vals : List Value} (h : w.ownsRow base e size v n vals) (hb : ∀ g, v.ownBlock = some g → base' ≤ g) : w.ownsRow base' e size v n vals := by
  obtain ⟨h1, h2⟩ := h
  refine ⟨h1, ?_⟩
  rcases h2 with h2 | ⟨g, cap, cur, hv, hb', hr⟩
  · exact .inl h2
  · exact .inr ⟨g, cap, cur, hv, hb g (by rw [hv]; rfl), hr⟩
theorem rowSlice {base : Nat} {e : TypeId} {size n : Nat} {vals : List Value} (h : w.ownsRow base e size v n vals) : ∃ a c, v = .slice a n c ∧ n ≤ c := by
  rcases h.2 with ⟨rfl, hz⟩ | ⟨g', cap, cur, rfl, hb', _, hr, _⟩
  · exact ⟨none, 0, by rw [hz], by omega⟩
  · exact ⟨_, _, rfl, hr⟩
theorem rowRd {base : Nat} {vals : List Value} (h : w.ownsRow base E.ty E.n v xs.length vals) (hF : ∀ g, v.ownBlock = some g → F g) (hx : E.relIn F w vals xs) : E.Rd F w v xs := by
  obtain ⟨_, h2⟩ := h
  rcases h2 with ⟨rfl, h2⟩ | ⟨g, cap, cur, rfl, hb, hg, hn, _, hsz, htk⟩
  · have : xs = [] := List.eq_nil_of_length_eq_zero h2
    subst this
    exact Rd.nil _ _
  · refine ⟨some ⟨g, 0, none⟩, cap, rfl, hn, fun _ => ⟨g, 0, rfl, hF g rfl, fun i x hi => ?_⟩⟩
    refine ⟨_, hx.2 i x hi, fun j u hu => ?_⟩
    rw [cell_of_row _ _ _ _ _ _ hg, Nat.zero_add]
    have hj := (List.getElem?_eq_some_iff.1 hu).1
    rw [E.len (hx.2 i x hi)] at hj
    have hil := (List.getElem?_eq_some_iff.1 hi).1
    have hle : i * E.n + E.n ≤ xs.length * E.n := by rw [← Nat.succ_mul]; exact Nat.mul_le_mul_right _ hil
    rw [List.getElem?_take, if_pos hj, List.getElem?_drop, ← htk, List.getElem?_take, if_pos (by omega)] at hu
    rw [← hu]; simp
namespace Own
theorem row (h : E.Own F w v xs) : ∃ vals, w.ownsRow 0 E.ty E.n v xs.length vals := by obtain ⟨vals, h, _⟩ := h; exact ⟨vals, h⟩
theorem slice (h : E.Own F w v xs) : ∃ a c, v = .slice a xs.length c ∧ xs.length ≤ c := by obtain ⟨vals, h, _⟩ := h; exact rowSlice h
theorem keeps (h : E.Own F w v xs) (hk : Keeps G w W) (hd : ∀ b, F b → ¬ G b) : E.Own F W v xs := by
  obtain ⟨vals, h1, h2, h3⟩ := h
  exact ⟨vals, rowKeeps h1 hk (fun b hb => hd b (h2 b hb)), h2, ownIn_keeps h3 hk (fun b hb => hd b hb.1)⟩
theorem sees (h : E.Own F w v xs) (hs : Sees w W) : E.Own F W v xs := h.keeps (Keeps.of_sees (F := fun _ => False) hs) (fun _ _ h => h)
theorem mono (h : E.Own F w v xs) (hFG : ∀ b, b < w.heap.size → F b → G b) : E.Own G w v xs := by
  obtain ⟨vals, h1, h2, h3⟩ := h
  exact ⟨vals, h1, fun g hg => hFG g (rowLt h1 hg).2 (h2 g hg), ownIn_mono h3 (fun b hb h => ⟨hFG b hb h.1, h.2⟩)⟩
theorem cut (h : E.Own F w v xs) : E.Own (fun b => F b ∧ b < w.heap.size) w v xs := h.mono (fun b hb h => ⟨h, hb⟩)
theorem nil (F : Nat → Prop) (w : World) : E.Own F w (.slice none 0 0) [] := ⟨[], ⟨by simp, .inl ⟨rfl, rfl⟩⟩, (by intro g hg; cases hg), rfl⟩
theorem rd (h : E.Own F w v xs) : E.Rd F w v xs := by
  obtain ⟨vals, h1, h2, h3⟩ := h
  exact rowRd h1 h2 (h3.rel.mono (fun b _ h => h.1))
theorem base (h : E.Own F w v xs) {g : Nat} (hg : v.ownBlock = some g) : F g ∧ g < w.heap.size := by
  obtain ⟨vals, h1, h2, _⟩ := h
  exact ⟨h2 g hg, (rowLt h1 hg).2⟩
end Own
namespace Row
variable {base base' : Nat}
theorem slice (h : E.Row base G w v xs) : ∃ a c, v = .slice a xs.length c ∧ xs.length ≤ c := by obtain ⟨vals, h, _⟩ := h; exact rowSlice h
theorem keeps (h : E.Row base G w v xs) (hk : Keeps F w W) (hb : ∀ b, v.ownBlock = some b → ¬ F b) (hd : ∀ b, G b → ¬ F b) : E.Row base G W v xs := by
  obtain ⟨vals, h1, h2⟩ := h
  exact ⟨vals, rowKeeps h1 hk hb, h2.keeps hk hd⟩
theorem sees (h : E.Row base G w v xs) (hs : Sees w W) : E.Row base G W v xs := h.keeps (Keeps.of_sees (F := fun _ => False) hs) (fun _ _ h => h) (fun _ _ h => h)
theorem mono (h : E.Row base G w v xs) (hFG : ∀ b, b < w.heap.size → G b → F b) (hb : base' ≤ base) : E.Row base' F w v xs := by
  obtain ⟨vals, h1, h2⟩ := h
  exact ⟨vals, rowMono h1 (fun g hg => Nat.le_trans hb (rowLt h1 hg).1), h2.mono hFG⟩
theorem nil (base : Nat) (G : Nat → Prop) (w : World) : E.Row base G w (.slice none 0 0) [] := ⟨[], ⟨by simp, .inl ⟨rfl, rfl⟩⟩, relIn_nil⟩
theorem rd (h : E.Row base G w v xs) (hF : ∀ b, b < w.heap.size → G b ∨ base ≤ b → F b) : E.Rd F w v xs := by
  obtain ⟨vals, h1, h2⟩ := h
  exact rowRd h1 (fun g hg => hF g (rowLt h1 hg).2 (.inr (rowLt h1 hg).1)) (h2.mono (fun b hb h => hF b hb (.inl h)))
theorem base_le (h : E.Row base G w v xs) {g : Nat} (hg : v.ownBlock = some g) : base ≤ g ∧ g < w.heap.size := by
  obtain ⟨vals, h1, _⟩ := h
  exact rowLt h1 hg
end Row

/-- What the program's text says of a slice type and its elements. -/
structure Typed (P : Program) (E : El α) (st : TypeId) : Prop where
  sl : P.underlying st = some (.slice E.ty)
  info : ∃ i z, P.info? E.ty = some i ∧ i.zero = some z ∧ i.size = E.n ∧ z.cells.size = E.n ∧ i.bytes ≤ 1024
theorem typed_of {P : Program} {E : El α} {st : TypeId} {z : Value} {bytes : Nat} (h1 : P.underlying st = some (.slice E.ty)) (h2 : (P.info? E.ty).map (fun i => (i.zero, i.size, i.bytes)) = some (some z, E.n, bytes)) (h3 : z.cells.size = E.n) (h4 : bytes ≤ 1024) : Typed P E st := by
  obtain ⟨i0, hi, hz0, hz1, hz2⟩ := info_parts h2
  exact ⟨h1, i0, z, hi, hz0, hz1, h3, by omega⟩

section
variable {P : Program} {st : TypeId} {base : Nat}
theorem bytes_le {n m b : Nat} (hb : b ≤ 1024) (h : n + m ≤ 100000000) : (n + m) * b ≤ 140737488355328 := by
  have : (n + m) * b ≤ 100000000 * 1024 := Nat.mul_le_mul h hb
  omega
/-- What is read is appended to a row of the call's own. -/
theorem run_append_row (T : Typed P E st) (ty : TypeId) (h : E.Row base G W v xs) (u : Value) (ys : List α) (hu : E.Rd G W u ys) (hG : ∀ b, G b → v.ownBlock ≠ some b) (hn : xs.length + ys.length ≤ 100000000) (hb : base ≤ W.heap.size) :
    ∃ v' W', (Builtin.append_ #[st, st] ty #[v, u]).run P W = .ok v' W' ∧ E.Row base G W' v' (xs ++ ys) ∧ Keeps (fun b => v.ownBlock = some b) W W' ∧ (v'.ownBlock = v.ownBlock ∨ v'.ownBlock = some W.heap.size) := by
  obtain ⟨i, z, hi, hz, hsz, hzs, hby⟩ := T.info
  obtain ⟨ao, c, rfl, hcap, hh⟩ := id hu
  obtain ⟨vals, h1, h2⟩ := h
  rcases ao with _ | ad
  · have hc : ys = [] := by
      by_cases h : ys = []
      · exact h
      · obtain ⟨b, o, e, _⟩ := hh h; cases e
    subst hc
    exact ⟨v, W, run_append_empty base st ty E.ty i E.n c T.sl hi v _ vals h1, ⟨vals, by simpa using h1, by simpa using h2⟩, Keeps.refl _ _, .inl rfl⟩
  · obtain ⟨news, r1, r2⟩ := hu.vals
    obtain ⟨v', W', k1, k2, k3, k4, k5⟩ := run_append_own_at (P := P) (w := W) base st ty E.ty i z E.n i.bytes T.sl hi hz hsz rfl hzs E.n0 v xs.length vals h1 ad ys.length c news r1.1 r2 r1.one (by unfold maxLen; omega) (bytes_le hby hn) hb
    have hk : Keeps (fun b => v.ownBlock = some b) W W' := ⟨k3.os, k3.tape, k3.output, k3.size, fun b hb hne => k3.block b hb (fun e => hne e.symm)⟩
    refine ⟨v', W', k1, ⟨vals ++ news, by rw [List.length_append]; exact k2, (h2.append r1).keeps hk hG⟩, hk, k5⟩
/-- What is read is appended to nil: a row of the call's own. -/
theorem run_append_nil (T : Typed P E st) (ty : TypeId) (u : Value) (ys : List α) (hu : E.Rd G W u ys) (hn : ys.length ≤ 100000000) :
    ∃ v' W', (Builtin.append_ #[st, st] ty #[.slice none 0 0, u]).run P W = .ok v' W' ∧ E.Row W.heap.size G W' v' ys ∧ Sees W W' := by
  obtain ⟨v', W', h1, h2, h3, _⟩ := run_append_row (base := W.heap.size) T ty (Row.nil W.heap.size G W) u ys hu (fun b _ e => by cases e) (by simpa using hn) (Nat.le_refl _)
  exact ⟨v', W', h1, by simpa using h2, h3.sees_end (fun b hb e => by cases e)⟩
theorem run_append_own_at' (T : Typed P E st) (W : World) (v : Value) (n : Nat) (vals : List Value) (h1 : W.ownsRow 0 E.ty E.n v n vals) (ty : TypeId) (a : Addr) (m c : Nat) (news : List Value) (hl : news.length = m * E.n) (hnews : ∀ j u, news[j]? = some u → W.cell? (a.add j) = some u)
    (ho : ∀ u ∈ news, u.oneCell' = true) (hn : n + m ≤ 100000000) :
    ∃ v' W', (Builtin.append_ #[st, st] ty #[v, .slice (some a) m c]).run P W = .ok v' W' ∧ W'.ownsRow 0 E.ty E.n v' (n + m) (vals ++ news) ∧ W.grownBy W' v.ownBlock ∧
      (v' = .slice none 0 0 ↔ v = .slice none 0 0 ∧ m = 0) ∧ (v'.ownBlock = v.ownBlock ∨ v'.ownBlock = some W.heap.size) := by
  obtain ⟨i, z, hi, hz, hsz, hzs, hby⟩ := T.info
  exact run_append_own_at (P := P) (w := W) 0 st ty E.ty i z E.n i.bytes T.sl hi hz hsz rfl hzs E.n0 v n vals h1 a m c news hl hnews ho (by unfold maxLen; omega) (bytes_le hby hn) (Nat.zero_le _)
/-- Data of their own are appended to data of their own. -/
theorem run_append_own (T : Typed P E st) (ty : TypeId) (h : E.Own F W v xs) (a : Addr) (m c : Nat) (news : List Value) (ys : List α) (Fn : Nat → Prop) (ho : E.ownIn Fn W news ys) (hm : m = ys.length) (hnews : ∀ j u, news[j]? = some u → W.cell? (a.add j) = some u)
    (hF : ∀ b, F b → b < W.heap.size) (hFn : ∀ b, Fn b → b < W.heap.size ∧ ¬ F b) (hn : xs.length + ys.length ≤ 100000000) :
    ∃ v' W', (Builtin.append_ #[st, st] ty #[v, .slice (some a) m c]).run P W = .ok v' W' ∧ E.Own (fun b => F b ∨ Fn b ∨ W.heap.size ≤ b) W' v' (xs ++ ys) ∧ Keeps (fun b => v.ownBlock = some b) W W' := by
  subst hm
  obtain ⟨vals, h1, h2, h3⟩ := h
  obtain ⟨v', W', k1, k2, k3, k4, k5⟩ := El.run_append_own_at' (P := P) T W v xs.length vals h1 ty a ys.length c news (ownIn_length ho) hnews ho.rel.one hn
  have hk : Keeps (fun b => v.ownBlock = some b) W W' := ⟨k3.os, k3.tape, k3.output, k3.size, fun b hb hne => k3.block b hb (fun e => hne e.symm)⟩
  refine ⟨v', W', k1, ⟨vals ++ news, by rw [List.length_append]; exact k2, fun g hg => ?_, ?_⟩, hk⟩
  · rcases k5 with k5 | k5
    · exact .inl (h2 g (by rw [← k5]; exact hg))
    · rw [k5] at hg; cases hg; exact .inr (.inr (Nat.le_refl _))
  · have hne : ∀ b, (F b ∨ Fn b) → v.ownBlock ≠ some b → v'.ownBlock ≠ some b := by
      intro b hb hv e
      rcases k5 with k5 | k5
      · exact hv (k5 ▸ e)
      · rw [k5] at e; cases e
        rcases hb with hb | hb
        · have := hF _ hb; omega
        · have := (hFn _ hb).1; omega
    refine ownIn_append (F1 := fun b => F b ∧ v.ownBlock ≠ some b) (F2 := Fn) (ownIn_keeps h3 hk (fun b hb => hb.2)) (ownIn_keeps ho hk (fun b hb e => (hFn b hb).2 (h2 b e))) (fun b hb => ⟨.inl hb.1, hne b (.inl hb.1) hb.2⟩) (fun b hb => ⟨.inr (.inl hb), hne b (.inr hb) (fun e => (hFn b hb).2 (h2 b e))⟩) (fun b hb hc => (hFn b hc).2 hb.1)
end
end El
end Go.Proofs.YthcndmchlpohpaaGreatDoor
