/- Strings of one's own, parts of cells, and the library's Join (41). The tables hold what the program's text lays. choose: the text of a choice (41), in plain Lean. No condition. -/
import Derived.Test.YtooiiefipdjbjaaDoorTtA
import Derived.Test.YtooiiefipdjbjaaDoorShelf
import Derived.Test.YtooiiefipdjbjaaDoorElF
import Derived.Lib.Join
import Derived.Test.YtooiiefipdjbjaaDoorChO
import Derived.Test.YtooiiefipdjbjaaDoorChJ
namespace Go.Proofs.YtooiiefipdjbjaaDoor
set_option linter.unusedVariables false
set_option linter.unusedSimpArgs false
open Go.RowKit Go.Shelf
attribute [local go_sem] Oper.semAt_some

def sEl : El ByteArray := strEl 9
theorem typedS : El.Typed Tryd.prog sEl 96 := El.typed_of (z := .string ⟨#[]⟩) (bytes := 16) Tryd.underlying96 (by kernel_rfl) rfl (by decide)
set_option maxHeartbeats 1000000 in
theorem mid_cells {G : Nat → Prop} {w : World} {a : Option Addr} {n c : Nat} {ls : List Cell} (hv : cellEl.Rd G w (.slice a n c) ls) (k m : Nat) (hk : k ≤ m) (hm : m ≤ n) :
    ∃ a2 c2, (∀ W, (Instr.sliceAt 38 (.slice a n c) (some (.int .i64 (k : Int))) (some (.int .i64 (m : Int))) none).run Tryd.prog W = .ok (.slice a2 (m - k) c2) W) ∧ (∀ (F : Nat → Prop) (W : World), cellEl.Rd F W (.slice a n c) ls → cellEl.Rd F W (.slice a2 (m - k) c2) ((ls.drop k).take (m - k))) := by
  have hnl := hv.len
  have hvx : n ≤ c := by obtain ⟨_, _, e, h, _⟩ := hv; cases e; omega
  have hmc : ¬ c < m := by omega
  have hmk : ¬ m < k := by omega
  by_cases hls : ls = []
  · subst hls
    obtain rfl : n = 0 := hnl
    obtain rfl : m = 0 := by omega
    obtain rfl : k = 0 := by omega
    cases a with
    | none => exact ⟨none, c, fun W => by go_simp, fun F W _ => El.Rd.empty _ _ _ _⟩
    | some x =>
      by_cases hc0 : c = 0
      · subst hc0
        exact ⟨some x, 0, fun W => by go_simp, fun F W _ => El.Rd.empty _ _ _ _⟩
      · exact ⟨some (x.add 0), c, fun W => by go_simp, fun F W _ => El.Rd.empty _ _ _ _⟩
  · obtain ⟨b, o, rfl⟩ : ∃ b o, a = some ⟨b, o, none⟩ := by
      obtain ⟨ao, cap, e, _, hh⟩ := hv
      cases e
      obtain ⟨b, o, e, _⟩ := hh hls
      exact ⟨b, o, e⟩
    by_cases h : c = k
    · subst h
      obtain rfl : m = c := by omega
      obtain rfl : n = m := by omega
      exact ⟨some ⟨b, o, none⟩, 0, fun W => by go_simp, fun F W hr => by rw [Nat.sub_self, List.take_zero]; exact El.Rd.empty _ _ _ _⟩
    · exact ⟨some ⟨b, o + k * 16, none⟩, c - k, fun W => by go_simp, fun F W hr => by
        have hl := hr.len
        exact (hr.drop k (by omega) (c - k) (by omega)).take (m - k) (by rw [List.length_drop]; omega) (c - k) (by omega)⟩
theorem exec_mid {P : Program} {ρ : Operand → Value} {o : Oper} {t : TypeId} {x lo hi : Operand} {a b d v : Value} {W W' : World} (ho : o.op = .slice t x (some lo) (some hi) none) (hx : ρ x = a) (hlo : ρ lo = b) (hhi : ρ hi = d)
    (h : (Instr.sliceAt t a (some b) (some d) none).run P W = .ok v W') : (execOp ρ o).run P W = .ok (.value v) W' := by
  unfold execOp
  rw [ho]
  simp only [hx, hlo, hhi, Option.map_some, Option.map_none, Sem.run_bind, h, Result.andThen_ok]
  rfl
theorem trimB_len (l : List UInt8) (c : UInt8) : (Lib.trimRightB l c).length ≤ l.length := by
  unfold Lib.trimRightB
  rw [List.length_reverse]
  have := (List.dropWhile_suffix (p := (· == c)) (l := l.reverse)).sublist.length_le
  rw [List.length_reverse] at this
  exact this
theorem join_len : ∀ (xs : List (List UInt8)) (m : Nat), (∀ x ∈ xs, x.length ≤ m) → (Lib.join xs [10]).length ≤ xs.length * (m + 1)
  | [], m, _ => by simp [Lib.join]
  | [x], m, h => by have := h x (by simp); simp [Lib.join]; omega
  | x :: y :: r, m, h => by
    have h1 := h x (by simp)
    have h2 := join_len (y :: r) m (fun z hz => h z (by simp only [List.mem_cons] at hz ⊢; exact .inr hz))
    have e : Lib.join (x :: y :: r) [10] = x ++ [10] ++ Lib.join (y :: r) [10] := by simp [Lib.join, List.intercalate]
    rw [e, List.length_append, List.length_append, List.length_cons (a := x), Nat.succ_mul]
    simp only [List.length_singleton]
    omega
theorem join_any (v : Value) (F : Nat → Prop) (xs : List ByteArray) (w : World) (h : sEl.Rd F w v xs) (hF : ∀ b, F b → b < w.heap.size) (hn : xs.length ≤ 1000000) (hlen : (Lib.join (xs.map (·.data.toList)) [10]).length ≤ 140737488355328) :
    Calls Tryd.prog 49 #[v, .string ⟨#[10]⟩] w fun e w' => e = .returned (.string (strL (Lib.join (xs.map (·.data.toList)) [10]))) ∧ Sees w w' := by
  obtain ⟨ao, cap, rfl, hcap, hh⟩ := h
  by_cases hx : xs = []
  · subst hx
    refine (Any.strings_Join_none Tryd.lays156 Tryd.Builder_Extra_156 ao cap ⟨#[10]⟩ w).mono ?_
    rintro e w' ⟨rfl, rfl⟩
    exact ⟨rfl, Sees.refl _⟩
  · obtain ⟨b, o, rfl, hb, hc⟩ := hh hx
    refine (Any.strings_Join Tryd.lays156 Tryd.Builder_Extra_156 b o cap xs ⟨#[10]⟩ w ?_ (hF b hb) (by omega) hcap hlen).mono ?_
    · intro j x hj
      obtain ⟨vs, h1, h2⟩ := hc j x hj
      have e : vs = [.string x] := h1
      have := h2 0 (.string x) (by rw [e]; rfl)
      simpa [show sEl.n = 1 from rfl] using this
    · rintro e w' ⟨rfl, h⟩
      exact ⟨rfl, h⟩
theorem trimR_any (T : ByteArray) (hT : T.size ≤ 9000000000) (W : World) : Calls Tryd.prog 48 #[.string T, .string ⟨#[32]⟩] W fun e w' => e = .returned (.string (strL (Lib.trimRightB T.data.toList 32))) ∧ w' = W := by
  have q := Any.strings_TrimRight_one Tryd.lays162 T 32 (by decide) W (by omega)
  exact q
namespace El
variable {α : Type} {E : El α} {F G : Nat → Prop} {w W : World} {v : Value} {xs : List α}
/-- One of the datum's own words is turned. -/
theorem Own.word (h : E.Own F w v xs) {i : Nat} {x : α} (hx : xs[i]? = some x) : ∃ (b cap : Nat) (Fx : Nat → Prop) (vs : List Value), v = .slice (some ⟨b, 0, none⟩) xs.length cap ∧ F b ∧ E.own Fx w vs x ∧ (∀ c, Fx c → F c ∧ c ≠ b) ∧
    (∀ (j : Nat) u, vs[j]? = some u → w.cell? ⟨b, i * E.n + j, none⟩ = some u) ∧ (∀ j, w.frozen? ⟨b, j, none⟩ = false) ∧
    ∀ (k : Nat) (u : Value) (x' : α), k < vs.length → E.own Fx (w.setCell ⟨b, i * E.n + k, none⟩ u) (vs.set k u) x' → E.Own F (w.setCell ⟨b, i * E.n + k, none⟩ u) v (xs.set i x') := by
  obtain ⟨b, cap, cur, Fx, Fr, vs, hv, hc, hFb, hFx, hFr, hg, hown, hvl, hvc, hback⟩ := h.focus hx
  refine ⟨b, cap, Fx, vs, hv, hFb, hown, hFx, fun j u hu => by rw [cell_of_row _ _ _ _ _ _ hg]; exact hvc j u hu, fun j => frozen_of_row _ _ _ _ _ hg, fun k u x' hk ho => ?_⟩
  refine (hback (fun c => c = b) _ _ Fx _ x' (heap_setCell_same w b (i * E.n + k) cur _ u hg) (turned_within hvc hk rfl) (Keeps.setCell (F := fun c => c = b) (Keeps.refl _ w) (p := ⟨b, i * E.n + k, none⟩) (fun _ => rfl) _) (fun c hc => (hFr c hc).2.1) ho (fun c hc => ⟨(hFx c hc).2, fun h => (hFr c h).2.2 hc⟩)).mono ?_
  rintro c _ (h | h | h)
  · subst h; exact hFb
  · exact (hFr c h).1
  · exact (hFx c h).1
end El
/-- A string of one's own is stored. -/
theorem own_str {F : Nat → Prop} {W : World} {a : Option Addr} {n c : Nat} {xs : List ByteArray} (h : sEl.Own F W (.slice a n c) xs) {k : Nat} (hk : k < n) (y : ByteArray) : ∃ g x, a = some ⟨g, 0, none⟩ ∧ F g ∧ n = xs.length ∧ n ≤ c ∧ xs[k]? = some x ∧ W.cell? ⟨g, k, none⟩ = some (.string x) ∧ W.frozen? ⟨g, k, none⟩ = false ∧ sEl.Own F (W.setCell ⟨g, k, none⟩ (.string y)) (.slice a n c) (xs.set k y) := by
  obtain ⟨_, _, e, e2⟩ := h.slice
  cases e
  obtain ⟨x, hx⟩ : ∃ x, xs[k]? = some x := ⟨_, List.getElem?_eq_getElem hk⟩
  obtain ⟨b, cap, Fx, vs, hv, hFb, hown, hFx, hat, hfr, hback⟩ := h.word hx
  have e : vs = [.string x] := hown
  subst e
  cases hv
  have h0 := hat 0 _ rfl
  have hb := hback 0 (.string y) y (by simp) rfl
  rw [show k * sEl.n + 0 = k from by show k * 1 + 0 = k; omega] at h0 hb
  exact ⟨b, x, rfl, hFb, rfl, e2, hx, h0, hfr k, hb⟩
end Go.Proofs.YtooiiefipdjbjaaDoor

namespace Go.Proofs.YtooiiefipdjbjaaDoor
set_option linter.unusedVariables false
set_option linter.unusedSimpArgs false
open Go.RowKit

/-- The text of some columns of a row. -/
def pcL (x : Ln) (f t : Nat) : List UInt8 := txts ((x.cells.drop (min f (usedN x.cells))).take (min t (usedN x.cells) - min f (usedN x.cells)))
/-- The pieces that are closed, and the one that is open, after so many rows and one. -/
def pcF (p : Nat → List UInt8) (o : Nat → Bool) : Nat → List (List UInt8) × List UInt8
  | 0 => ([], p 0)
  | k + 1 => if o k then ((pcF p o k).1, (pcF p o k).2 ++ p (k + 1)) else ((pcF p o k).1 ++ [(pcF p o k).2], p (k + 1))
def trB (l : List UInt8) : List UInt8 := Lib.trimRightB l 32
def txtOf (p : Nat → List UInt8) (o : Nat → Bool) (m : Nat) : List UInt8 := Lib.join (((pcF p o m).1 ++ [(pcF p o m).2]).map trB) [10]
/-- Pieces, each with the end of a row behind it. -/
def nlL (P : List (List UInt8)) : List UInt8 := P.flatMap fun x => trB x ++ [10]
theorem join_snoc41 : ∀ (xs : List (List UInt8)) (y : List UInt8), xs ≠ [] → Lib.join (xs ++ [y]) [10] = Lib.join xs [10] ++ ([10] ++ y)
  | [], _, h => absurd rfl h
  | [x], y, _ => by simp [Lib.join, List.intercalate]
  | x :: z :: r, y, _ => by
    have h := join_snoc41 (z :: r) y (by simp)
    have e : ∀ (a b : List UInt8) (q : List (List UInt8)), Lib.join (a :: b :: q) [10] = a ++ [10] ++ Lib.join (b :: q) [10] := fun a b q => by simp [Lib.join, List.intercalate]
    rw [List.cons_append, List.cons_append, e, e, ← List.cons_append, h]
    simp [List.append_assoc]
theorem nl_snoc (P : List (List UInt8)) (x : List UInt8) : nlL (P ++ [x]) = nlL P ++ (trB x ++ [10]) := by
  unfold nlL
  rw [List.flatMap_append]
  simp
theorem join_nl : ∀ (P : List (List UInt8)) (y : List UInt8), Lib.join ((P ++ [y]).map trB) [10] = nlL P ++ trB y
  | [], y => by simp [Lib.join, List.intercalate, nlL]
  | x :: P, y => by
    have h := join_nl P y
    have e : ∀ (a b : List UInt8) (q : List (List UInt8)), Lib.join (a :: b :: q) [10] = a ++ [10] ++ Lib.join (b :: q) [10] := fun a b q => by simp [Lib.join, List.intercalate]
    rw [List.cons_append, List.map_cons]
    cases hP : (P ++ [y]).map trB with
    | nil => simp at hP
    | cons b q =>
      rw [e, ← hP, h]
      simp [nlL, List.append_assoc]
theorem txtOf_nl (p : Nat → List UInt8) (o : Nat → Bool) (m : Nat) : txtOf p o m = nlL (pcF p o m).1 ++ trB (pcF p o m).2 := join_nl _ _
/-- What the statement has at its row: what is closed, and the open piece. -/
def sdP (p : Nat → List UInt8) (o : Nat → Bool) : Nat → List UInt8 × List UInt8
  | 0 => ([], [])
  | k + 1 => if o k then (nlL (pcF p o k).1, (pcF p o k).2) else (nlL ((pcF p o k).1 ++ [(pcF p o k).2]), [])
theorem sdP_step (p : Nat → List UInt8) (o : Nat → Bool) (k : Nat) : nlL (pcF p o k).1 = (sdP p o k).1 ∧ (pcF p o k).2 = (sdP p o k).2 ++ p k := by
  cases k with
  | zero => exact ⟨rfl, rfl⟩
  | succ k =>
    rw [show sdP p o (k + 1) = if o k then (nlL (pcF p o k).1, (pcF p o k).2) else (nlL ((pcF p o k).1 ++ [(pcF p o k).2]), []) from rfl, show pcF p o (k + 1) = if o k then ((pcF p o k).1, (pcF p o k).2 ++ p (k + 1)) else ((pcF p o k).1 ++ [(pcF p o k).2], p (k + 1)) from rfl]
    cases o k <;> simp
theorem sdP_next (p : Nat → List UInt8) (o : Nat → Bool) (k : Nat) : sdP p o (k + 1) = if o k then ((sdP p o k).1, (sdP p o k).2 ++ p k) else ((sdP p o k).1 ++ (trB ((sdP p o k).2 ++ p k) ++ [10]), []) := by
  obtain ⟨h1, h2⟩ := sdP_step p o k
  rw [sdP, nl_snoc, h1, h2]
theorem txtOf_sd (p : Nat → List UInt8) (o : Nat → Bool) (m : Nat) : txtOf p o m = (sdP p o m).1 ++ trB ((sdP p o m).2 ++ p m) := by
  obtain ⟨h1, h2⟩ := sdP_step p o m
  rw [txtOf_nl, h1, h2]
/-- What the program has at its row: all pieces. -/
def pcA (p : Nat → List UInt8) (o : Nat → Bool) : Nat → List (List UInt8)
  | 0 => []
  | k + 1 => (pcF p o k).1 ++ [(pcF p o k).2]
theorem pcA_open (p : Nat → List UInt8) (o : Nat → Bool) (k : Nat) (h : o k = true) : pcA p o (k + 2) = (pcF p o k).1 ++ [(pcF p o k).2 ++ p (k + 1)] := by
  show (pcF p o (k + 1)).1 ++ [(pcF p o (k + 1)).2] = _
  rw [pcF, if_pos h]
theorem pcA_shut (p : Nat → List UInt8) (o : Nat → Bool) (k : Nat) (h : k = 0 ∨ o (k - 1) = false) : pcA p o (k + 1) = pcA p o k ++ [p k] := by
  cases k with
  | zero => rfl
  | succ k =>
    rcases h with h | h
    · omega
    · show (pcF p o (k + 1)).1 ++ [(pcF p o (k + 1)).2] = (pcF p o k).1 ++ [(pcF p o k).2] ++ [p (k + 1)]
      rw [pcF, if_neg (by simpa using h)]
theorem pcF_len (p : Nat → List UInt8) (o : Nat → Bool) : ∀ k, (pcF p o k).1.length ≤ k
  | 0 => Nat.le_refl _
  | k + 1 => by
    have h := pcF_len p o k
    rw [pcF]
    split
    · show (pcF p o k).1.length ≤ _; omega
    · rw [List.length_append, List.length_singleton]; omega
/-- How long the pieces are. -/
theorem pcF_size (p : Nat → List UInt8) (o : Nat → Bool) (B : Nat) (hp : ∀ j, (p j).length ≤ B) : ∀ k, (∀ x ∈ (pcF p o k).1, x.length ≤ (k + 1) * B) ∧ (pcF p o k).2.length ≤ (k + 1) * B
  | 0 => ⟨fun x h => (by cases h), by rw [Nat.zero_add, Nat.one_mul]; exact hp 0⟩
  | k + 1 => by
    obtain ⟨h1, h2⟩ := pcF_size p o B hp k
    have h3 := hp (k + 1)
    have h4 : (k + 1 + 1) * B = (k + 1) * B + B := Nat.succ_mul _ _
    rw [pcF]
    split
    · refine ⟨fun x hx => by have := h1 x hx; omega, ?_⟩
      show ((pcF p o k).2 ++ p (k + 1)).length ≤ _
      rw [List.length_append]; omega
    · refine ⟨fun x hx => ?_, ?_⟩
      · rcases List.mem_append.1 hx with h | h
        · have := h1 x h; omega
        · rw [List.mem_singleton] at h; subst h; omega
      · show (p (k + 1)).length ≤ _; omega
theorem pcL_len (x : Ln) (f t : Nat) (hx : x.cells.length ≤ 1000) : (pcL x f t).length ≤ 16000 := by
  unfold pcL
  have h := txts_len ((x.cells.drop (min f (usedN x.cells))).take (min t (usedN x.cells) - min f (usedN x.cells)))
  rw [List.length_take, List.length_drop] at h
  omega
theorem trN_spec (s : ByteArray) : ∀ n, n ≤ s.size → (∀ (j : Nat) b, trN s n ≤ j → j < n → s.data.toList[j]? = some b → b = 32) ∧ (∀ b, 0 < trN s n → s.data.toList[trN s n - 1]? = some b → b ≠ 32)
  | 0, _ => ⟨fun j b _ h => by omega, fun b h => by unfold trN at h; omega⟩
  | n + 1, hn => by
    obtain ⟨h1, h2⟩ := trN_spec s n (by omega)
    unfold trN
    split
    · rename_i h
      refine ⟨fun j b hj hlt hb => ?_, h2⟩
      rcases Nat.lt_or_eq_of_le (Nat.le_of_lt_succ hlt) with h3 | rfl
      · exact h1 j b hj h3 hb
      · rw [h] at hb; exact (Option.some.inj hb).symm
    · rename_i h
      refine ⟨fun j b hj hlt hb => by omega, fun b _ hb e => ?_⟩
      rw [Nat.add_sub_cancel] at hb
      exact h (by rw [hb, e])
theorem trN_ext (s : ByteArray) : s.extract 0 (trN s s.size) = strL (trB s.data.toList) := by
  obtain ⟨h1, h2⟩ := trN_spec s s.size (Nat.le_refl _)
  have hl := Lib.size_eq s
  unfold trB
  rw [Lib.trimRightB_take s.data.toList 32 (trN s s.size) (by rw [← hl]; exact trN_le s _) (fun j b hj hb => h1 j b hj (by rw [hl]; exact (List.getElem?_eq_some_iff.1 hb).1) hb) (fun b h hb => h2 b (by omega) hb)]
  refine bytes_ext ?_
  rw [strL_list]
  simp [ByteArray.data_extract]
end Go.Proofs.YtooiiefipdjbjaaDoor
