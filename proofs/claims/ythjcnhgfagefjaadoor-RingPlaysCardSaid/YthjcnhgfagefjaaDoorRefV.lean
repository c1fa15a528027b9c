/- Regions that draw their order: what only reads is taken first, whatever order is drawn; the rest as it comes up. One datum of a row of the call's own, whose data may be shared, is turned. The reference's page: a struct by value. The reference's page: Set. The reference's page: Drop and Pop. The reference's page: Pop. No condition. -/
import Derived.Test.YthjcnhgfagefjaaDoorSeqS
import Derived.OrdersHeld
import Derived.Test.YthjcnhgfagefjaaDoorLines2
import Derived.Test.YthjcnhgfagefjaaDoorElO
import Derived.Test.YthjcnhgfagefjaaDoorLnA
import Derived.Test.YthjcnhgfagefjaaDoorPgS
import Derived.IntWalk
namespace Go.Proofs.YthjcnhgfagefjaaDoor
set_option linter.unusedVariables false
set_option linter.unusedSimpArgs false
open Go.RowKit

section
variable {P : Program} {l : List Oper} {Q : Exit → Act → World → Prop} {a : Act} {w w0 : World} {f i : Nat} {D : List Nat} {F : Nat → Prop}
/-- What is left of a region when the operations of D are done; all that stood in w0 is as it was, but for the blocks of F. -/
def wpH (P : Program) (l : List Oper) (Q : Exit → Act → World → Prop) (F : Nat → Prop) (w0 : World) (f : Nat) (D : List Nat) (a : Act) (w : World) : Prop := wpAnyH P .any l.toArray Q (Keeps F w0) f (dn l.length D) a w
theorem wpH_go {id : Nat} (F : Nat → Prop) (f : Nat) (hm : P.follows .mixedOrders = true) (hB : rgB l = true) (hf : l.length = f) (h : Hid (rgB l = true) → ∀ W, Sees w W → wpH P l Q F W f [] a W) : (Code.region id l.toArray true).wp P Q a w := by
  refine wp_region_any hm (wpAny_of_held (S := Keeps F w.drew) _ _ _ _ ?_)
  have := h (Lib.hid hB) w.drew (Sees.refl w).drew
  unfold wpH at this
  have e : dn l.length [] = Array.replicate l.toArray.size false := by
    apply Array.ext
    · simp [dn]
    · intro j h1 h2; simp [dn]
  rw [e, ← hf] at this
  simpa using this
theorem wpH_take {v : Value} {oi : Oper} (hB : Hid (rgB l = true)) (hi : l[i]? = some oi) (hb : takeB l D i = true) (hQ : ∀ c a t v w, Q (.panic c) (Act.put a (some t) v) w → Q (.panic c) a w)
    (hg : oi.guard = none) (hS : Keeps F w0 w) (hv : ∀ W, Keeps F w0 W → (execOp a.eval oi).run P W = .ok (.value v) W) (h : wpH P l Q F w0 f (i :: D) (a.put oi.dst v) w) : wpH P l Q F w0 (f + 1) D a w := by
  obtain ⟨hsel, _, _⟩ := rgB_spec hB.out
  unfold takeB at hb
  rw [hi] at hb
  simp only [Bool.and_eq_true, Bool.not_eq_true'] at hb
  obtain ⟨⟨h0, h1⟩, h2⟩ := hb
  rw [List.all_eq_true] at h2
  refine wpAnyH_first (i := i) (oi := oi) (v := v) (by simpa using hi) (Region.noSelect_spec hsel) (fun c a w hh => by cases hd : oi.dst with | none => rw [hd] at hh; exact hh | some t => rw [hd] at hh; exact hQ c a t _ w hh) _ _ _ _ ?_ (ready_dn hi h0 h1) (.inl ⟨wanted_none hg a, hv⟩) hS (by rw [dn_set]; exact h)
  intro j oj hj hji hun hno
  have hj : l[j]? = some oj := by simpa using hj
  have hjl := (List.getElem?_eq_some_iff.1 hj).1
  rw [dn_getD hjl] at hun
  have := h2 j (List.mem_range.2 hjl)
  rw [hj, hun] at this
  simp only [Bool.or_eq_true, beq_iff_eq, Bool.false_eq_true, or_false] at this
  rcases this with h | h | h
  · exact absurd h hji
  · obtain ⟨e, he, hb⟩ := Array.any_eq_true'.1 h
    simp only [Bool.and_eq_true, beq_iff_eq] at hb
    exact absurd hb.2 (hno e he hb.1)
  · exact h
theorem wpH_one (hr : Region.ready .any l.toArray (dn l.length D) = [i]) (h : wpOp P l.toArray Q i (fun a' w' => Keeps F w0 w' ∧ wpH P l Q F w0 f (i :: D) a' w') a w) : wpH P l Q F w0 (f + 1) D a w := by
  refine ⟨(fun h => by rw [h] at hr; cases hr), fun x hx => ?_⟩
  rw [hr] at hx
  obtain rfl : x = i := by simpa using hx
  rw [dn_set]
  exact h
theorem wpH_two {j : Nat} (hr : Region.ready .any l.toArray (dn l.length D) = [i, j]) (h1 : wpOp P l.toArray Q i (fun a' w' => Keeps F w0 w' ∧ wpH P l Q F w0 f (i :: D) a' w') a w) (h2 : wpOp P l.toArray Q j (fun a' w' => Keeps F w0 w' ∧ wpH P l Q F w0 f (j :: D) a' w') a w) : wpH P l Q F w0 (f + 1) D a w := by
  refine ⟨(fun h => by rw [h] at hr; cases hr), fun x hx => ?_⟩
  rw [hr] at hx
  rw [dn_set]
  rcases List.mem_cons.1 hx with rfl | hx
  · exact h1
  · obtain rfl : x = j := by simpa using hx
    exact h2
theorem wpH_end (hb : (List.range l.length).all (fun j => D.contains j) = true) (h : Q .normal a w) : wpH P l Q F w0 0 D a w := by
  have := wpS_end (P := P) (l := l) (Q := Q) (a := a) (w := w) hb h
  exact this
theorem wpOp_enter {K : Act → World → Prop} {o : Oper} {fn : FuncId} {args : Array Value} (ho : l[i]? = some o) (hg : o.guard = none) (hr : (execOp a.eval o).run P w = .ok (.enter fn args) w) (h : Calls P fn args w (fun e w' => ∃ v, e = .returned v ∧ K (a.put o.dst v) w')) : wpOp P l.toArray Q i K a w := by
  unfold wpOp
  rw [show l.toArray[i]? = some o by simpa using ho]
  simp only []
  rw [if_pos (wanted_none hg a)]
  refine .inl ?_
  unfold Oper.wp
  rw [hr]
  simp only [Oper.upon]
  exact Calls.mono h (fun e w'' ⟨v, he, hk⟩ => by subst he; exact hk)
end
end Go.Proofs.YthjcnhgfagefjaaDoor

namespace Go.Proofs.YthjcnhgfagefjaaDoor
set_option linter.unusedVariables false
set_option linter.unusedSimpArgs false
open Go.RowKit

namespace El
variable {α : Type} {E : El α} {F G : Nat → Prop} {w W W' : World} {v : Value} {xs : List α} {base : Nat}
theorem Row.put (h : E.Row base G W v xs) {i : Nat} (hi : i < xs.length) {x' : α} : ∃ (g cap : Nat) (cur : Array Value), v = .slice (some ⟨g, 0, none⟩) xs.length cap ∧ xs.length ≤ cap ∧ base ≤ g ∧ W.heap[g]? = some (.cells cur E.ty (0, 0)) ∧ i * E.n + E.n ≤ cur.size ∧
    ∀ (W' : World) (cur' : Array Value) (vs' : List Value), W'.heap[g]? = some (.cells cur' E.ty (0, 0)) → cur'.size = cur.size → (∀ j, cur'[j]? = if i * E.n ≤ j ∧ j < i * E.n + E.n then vs'[j - i * E.n]? else cur[j]?) → Keeps (fun b => b = g) W W' → ¬ G g → E.rel G W' vs' x' → E.Row base G W' v (xs.set i x') := by
  obtain ⟨vals, ⟨hl, hrow⟩, hrel⟩ := h
  rcases hrow with ⟨_, h0⟩ | ⟨g, cap, cur, rfl, hb, hg, hc1, hc2, hsz, htk⟩
  · omega
  have hn := E.n0
  have hle : i * E.n + E.n ≤ xs.length * E.n := by rw [← Nat.succ_mul]; exact Nat.mul_le_mul_right _ hi
  have hle2 : xs.length * E.n ≤ cap * E.n := Nat.mul_le_mul_right _ hc1
  refine ⟨g, cap, cur, rfl, hc1, hb, hg, by omega, fun W' cur' vs' hg' hs' ht' hk hG hx' => ?_⟩
  have hvl := E.len hx'
  have hvals : ∀ j, vals[j]? = if j < xs.length * E.n then cur[j]? else none := fun j => by
    rw [← htk, List.getElem?_take]
    split
    · simp
    · rfl
  obtain ⟨vals', hv'⟩ : ∃ vals', vals' = vals.take (i * E.n) ++ (vs' ++ vals.drop (i * E.n + E.n)) := ⟨_, rfl⟩
  have hvl' : vals'.length = xs.length * E.n := by rw [hv', List.length_append, List.length_append, List.length_take, List.length_drop, hvl, hl, Nat.min_eq_left (by omega)]; omega
  have hget : ∀ j, j < xs.length * E.n → vals'[j]? = if i * E.n ≤ j ∧ j < i * E.n + E.n then vs'[j - i * E.n]? else vals[j]? := fun j hj => by
    rw [hv']
    have e0 : (vals.take (i * E.n)).length = i * E.n := by simp; omega
    by_cases h1 : j < i * E.n
    · rw [if_neg (by omega), List.getElem?_append_left (by omega), List.getElem?_take, if_pos h1]
    · rw [List.getElem?_append_right (by omega), e0]
      by_cases h2 : j < i * E.n + E.n
      · rw [if_pos (by omega), List.getElem?_append_left (by omega)]
      · rw [if_neg (by omega), List.getElem?_append_right (by omega), List.getElem?_drop]
        congr 1; omega
  refine ⟨vals', ⟨by rw [List.length_set]; exact hvl', .inr ⟨g, cap, cur', by rw [List.length_set], hb, hg', by rw [List.length_set]; exact hc1, hc2, by rw [hs']; exact hsz, ?_⟩⟩, by rw [List.length_set]; exact hvl', fun j x hx => ?_⟩
  · rw [List.length_set]
    apply List.ext_getElem?
    intro j
    rw [List.getElem?_take]
    by_cases hj : j < xs.length * E.n
    · rw [if_pos hj, Array.getElem?_toList, ht', hget j hj]
      by_cases h1 : i * E.n ≤ j ∧ j < i * E.n + E.n
      · rw [if_pos h1, if_pos h1]
      · rw [if_neg h1, if_neg h1, hvals, if_pos hj]
    · rw [if_neg hj, List.getElem?_eq_none (by omega)]
  · have hjl : j < xs.length := by have := (List.getElem?_eq_some_iff.1 hx).1; rwa [List.length_set] at this
    have hjle : j * E.n + E.n ≤ xs.length * E.n := by rw [← Nat.succ_mul]; exact Nat.mul_le_mul_right _ hjl
    by_cases hij : i = j
    · subst hij
      rw [List.getElem?_set_self hi] at hx
      cases hx
      have : (vals'.drop (i * E.n)).take E.n = vs' := by
        apply List.ext_getElem?
        intro k
        rw [List.getElem?_take]
        by_cases hk2 : k < E.n
        · rw [if_pos hk2, List.getElem?_drop, hget _ (by omega), if_pos (by omega), Nat.add_sub_cancel_left]
        · rw [if_neg hk2, List.getElem?_eq_none (by omega)]
      rw [this]; exact hx'
    · rw [List.getElem?_set_ne hij] at hx
      have : (vals'.drop (j * E.n)).take E.n = (vals.drop (j * E.n)).take E.n := by
        apply List.ext_getElem?
        intro k
        rw [List.getElem?_take, List.getElem?_take]
        by_cases hk2 : k < E.n
        · rw [if_pos hk2, if_pos hk2, List.getElem?_drop, List.getElem?_drop, hget _ (by omega), if_neg]
          rintro ⟨a1, a2⟩
          rcases Nat.lt_or_ge j i with h | h
          · have : j * E.n + E.n ≤ i * E.n := by rw [← Nat.succ_mul]; exact Nat.mul_le_mul_right _ h
            omega
          · have : i * E.n + E.n ≤ j * E.n := by rw [← Nat.succ_mul]; exact Nat.mul_le_mul_right _ (by omega)
            omega
        · rw [if_neg hk2, if_neg hk2]
      rw [this]
      exact E.keeps (hrel.2 j x hx) hk (fun b hb e => hG (by have e : b = g := e; rwa [← e]))
end El
/-- A line is stored into a row of lines. -/
theorem lnrow_set {base : Nat} {G : Nat → Prop} {W : World} {a : Option Addr} {n c : Nat} {ls : List Ln} (h : lnEl.Row base G W (.slice a n c) ls) {i : Nat} (hi : i < ls.length) (v : Value) (soft : Bool) (cs : List Cell) (hv : cellEl.Rd G W v cs) :
    ∃ g, a = some ⟨g, 0, none⟩ ∧ n = ls.length ∧ n ≤ c ∧ base ≤ g ∧ (∃ x y, W.cell? ⟨g, i * 2, none⟩ = some x ∧ W.cell? ⟨g, i * 2 + 1, none⟩ = some y) ∧ (∀ j, W.frozen? ⟨g, j, none⟩ = false) ∧
      (¬ G g → lnEl.Row base G ((W.setCell ⟨g, i * 2, none⟩ v).setCell ⟨g, i * 2 + 1, none⟩ (.bool soft)) (.slice a n c) (ls.set i ⟨cs, soft⟩)) := by
  obtain ⟨g, cap, cur, hs, hc, hb, hg, hsz, hput⟩ := El.Row.put (x' := (⟨cs, soft⟩ : Ln)) h hi
  cases hs
  have e : lnEl.n = 2 := rfl
  rw [e] at hsz
  refine ⟨g, rfl, rfl, hc, hb, ⟨cur[i * 2]'(by omega), cur[i * 2 + 1]'(by omega), by rw [cell_of_row _ _ _ _ _ _ hg]; exact Array.getElem?_eq_getElem _, by rw [cell_of_row _ _ _ _ _ _ hg]; exact Array.getElem?_eq_getElem _⟩, fun j => frozen_of_row _ _ _ _ _ hg, fun hG => ?_⟩
  have hk : Keeps (fun b => b = g) W ((W.setCell ⟨g, i * 2, none⟩ v).setCell ⟨g, i * 2 + 1, none⟩ (.bool soft)) := Keeps.setCell (F := fun b => b = g) (Keeps.setCell (F := fun b => b = g) (Keeps.refl _ W) (p := ⟨g, i * 2, none⟩) (fun _ => rfl) _) (p := ⟨g, i * 2 + 1, none⟩) (fun _ => rfl) _
  refine hput _ _ [v, .bool soft] (heap_setCell_same _ _ _ _ _ _ (heap_setCell_same _ _ _ _ _ _ hg)) (by simp) (fun j => ?_) hk hG ⟨v, rfl, hv.keeps hk (fun b hb e => hG (by have e : b = g := e; rwa [← e]))⟩
  rw [e]
  by_cases h1 : i * 2 ≤ j ∧ j < i * 2 + 2
  · rw [if_pos h1]
    by_cases h2 : j = i * 2
    · subst h2
      rw [Array.getElem?_setIfInBounds_ne (by omega), Array.getElem?_setIfInBounds_self_of_lt (by omega), Nat.sub_self]; rfl
    · obtain rfl : j = i * 2 + 1 := by omega
      rw [Array.getElem?_setIfInBounds_self_of_lt (by simp; omega), Nat.add_sub_cancel_left]; rfl
  · rw [if_neg h1, Array.getElem?_setIfInBounds_ne (by omega), Array.getElem?_setIfInBounds_ne (by omega)]
end Go.Proofs.YthjcnhgfagefjaaDoor

namespace Go.Proofs.YthjcnhgfagefjaaDoor
set_option linter.unusedVariables false
set_option linter.unusedSimpArgs false
open Go.RowKit

namespace RsAt
variable {W W' : World} {b : Nat} {p g : Int} {v : Value}
end RsAt
theorem LnAt.fr {W : World} {b : Nat} {v : Value} {soft : Bool} (h : LnAt W b v soft) : ∀ i, W.frozen? ⟨b, i, none⟩ = false := fun i => frozen_of_row W b i _ _ h

/-- A line in a row of one. -/
theorem ln_row_one {W : World} {b : Nat} {v : Value} {soft : Bool} {cs : List Cell} {G : Nat → Prop} {base : Nat} (hrow : W.heap[b]? = some (.cells #[v, .bool soft] 36 (0, 0))) (ho : OwnCells W base v cs) (hb : G b) (hG : ∀ g, v.ownBlock = some g → G g) : lnEl.Rd G W (.slice (some ⟨b, 0, none⟩) 1 1) [⟨cs, soft⟩] := by
  refine ⟨some ⟨b, 0, none⟩, 1, rfl, Nat.le_refl _, fun _ => ⟨b, 0, rfl, hb, fun i x hx => ?_⟩⟩
  rcases i with _ | i
  · cases hx
    refine ⟨_, ⟨v, rfl, (ho.el.mono (fun c _ h => hG c h.1)).rd⟩, fun j u hu => ?_⟩
    rw [cell_of_row _ _ _ _ _ _ hrow, Nat.zero_mul, Nat.zero_add]; simpa using hu
  · cases hx
end Go.Proofs.YthjcnhgfagefjaaDoor

namespace Go.Proofs.YthjcnhgfagefjaaDoor
set_option linter.unusedVariables false
set_option linter.unusedSimpArgs false
open Go.RowKit

end Go.Proofs.YthjcnhgfagefjaaDoor

namespace Go.Proofs.YthjcnhgfagefjaaDoor
set_option linter.unusedVariables false
set_option linter.unusedSimpArgs false
open Go.RowKit

/-- A part of lines. -/
theorem lns_from (a : Option Addr) (n c k : Nat) (hk : k ≤ n) (hc : n ≤ c) (hs : ∀ x, a = some x → x.spot = none) (ha : a = none → n = 0) : ∃ a', (∀ W, (Instr.sliceAt 30 (.slice a n c) (some (.int .i64 (k : Int))) none none).run Tryd.prog W = .ok (.slice a' (n - k) (c - k)) W) ∧
    ∀ (F : Nat → Prop) (W : World) (xs : List Ln), lnEl.Rd F W (.slice a n c) xs → lnEl.Rd F W (.slice a' (n - k) (c - k)) (xs.drop k) := by
  cases a with
  | none =>
    obtain rfl := ha rfl
    obtain rfl : k = 0 := by omega
    exact ⟨none, fun W => by go_simp, fun F W xs h => h⟩
  | some x =>
    obtain ⟨b, o, sp⟩ := x
    have := hs _ rfl
    simp only at this
    subst this
    by_cases h : c = k
    · subst h
      obtain rfl : n = c := by omega
      exact ⟨some ⟨b, o, none⟩, fun W => by go_simp, fun F W xs hr => by
        have hl := hr.len
        rw [List.drop_of_length_le (by omega), Nat.sub_self]
        exact El.Rd.empty _ _ _ _⟩
    · exact ⟨some ⟨b, o + k * 2, none⟩, fun W => by go_simp, fun F W xs hr => by
        have hl := hr.len
        exact hr.drop k (by omega) (c - k) (by omega)⟩
theorem lns_to (a : Option Addr) (n c k : Nat) (hk : k ≤ n) (hc : n ≤ c) (hs : ∀ x, a = some x → x.spot = none) : (∀ W, (Instr.sliceAt 30 (.slice a n c) none (some (.int .i64 (k : Int))) none).run Tryd.prog W = .ok (.slice a k c) W) ∧
    ∀ (F : Nat → Prop) (W : World) (xs : List Ln), lnEl.Rd F W (.slice a n c) xs → lnEl.Rd F W (.slice a k c) (xs.take k) := by
  have hck : ¬ c < k := by omega
  have hrd : ∀ (F : Nat → Prop) (W : World) (xs : List Ln), lnEl.Rd F W (.slice a n c) xs → lnEl.Rd F W (.slice a k c) (xs.take k) := fun F W xs hr => by
    have hl := hr.len
    exact hr.take k (by omega) c (by omega)
  cases a with
  | none => exact ⟨fun W => by go_simp, hrd⟩
  | some x =>
    obtain ⟨b, o, sp⟩ := x
    have := hs _ rfl
    simp only at this
    subst this
    exact ⟨fun W => by go_simp, hrd⟩
theorem rd_spot {F : Nat → Prop} {W : World} {a : Option Addr} {n c : Nat} {ls : List Ln} (h : lnEl.Rd F W (.slice a n c) ls) (h0 : ls ≠ []) : (∀ x, a = some x → x.spot = none) ∧ a ≠ none := by
  obtain ⟨ao, cap, e, _, hh⟩ := h
  cases e
  obtain ⟨b, o, e, _⟩ := hh h0
  subst e
  exact ⟨fun x hx => by cases hx; rfl, by simp⟩
theorem exec_fromL {P : Program} {ρ : Operand → Value} {o : Oper} {t : TypeId} {x lo : Operand} {a b v : Value} {W W' : World} (ho : o.op = .slice t x (some lo) none none) (hx : ρ x = a) (hlo : ρ lo = b)
    (h : (Instr.sliceAt t a (some b) none none).run P W = .ok v W') : (execOp ρ o).run P W = .ok (.value v) W' := by
  unfold execOp
  rw [ho]
  simp only [hx, hlo, Option.map_some, Option.map_none, Sem.run_bind, h, Result.andThen_ok]
  rfl
theorem exec_toL {P : Program} {ρ : Operand → Value} {o : Oper} {t : TypeId} {x hi : Operand} {a b v : Value} {W W' : World} (ho : o.op = .slice t x none (some hi) none) (hx : ρ x = a) (hhi : ρ hi = b)
    (h : (Instr.sliceAt t a none (some b) none).run P W = .ok v W') : (execOp ρ o).run P W = .ok (.value v) W' := by
  unfold execOp
  rw [ho]
  simp only [hx, hhi, Option.map_some, Option.map_none, Sem.run_bind, h, Result.andThen_ok]
  rfl
theorem exec_build3 {P : Program} {ρ : Operand → Value} {o : Oper} {t : TypeId} {x y z : Operand} {a b c v : Value} {W W' : World} (ho : o.op = .build t #[(0, x), (1, y), (2, z)]) (hx : ρ x = a) (hy : ρ y = b) (hz : ρ z = c) (h : (Instr.build t #[(0, a), (1, b), (2, c)]).run P W = .ok v W') : (execOp ρ o).run P W = .ok (.value v) W' := by
  unfold execOp
  rw [ho]
  simp only [List.map_toArray, List.map_cons, List.map_nil, hx, hy, hz, Sem.run_bind, h, Result.andThen_ok]
  rfl

end Go.Proofs.YthjcnhgfagefjaaDoor

namespace Go.Proofs.YthjcnhgfagefjaaDoor
set_option linter.unusedVariables false
set_option linter.unusedSimpArgs false
open Go.RowKit

end Go.Proofs.YthjcnhgfagefjaaDoor
