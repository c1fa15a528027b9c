/- Regions that draw their order: what only reads is taken first, whatever order is drawn; the rest as it comes up. One datum of a row of the call's own, whose data may be shared, is turned. The reference's page: a struct by value. The reference's page: Set. The reference's page: Drop and Pop. The reference's page: Pop. No condition. -/
import Derived.Test.YtfeoejpbmpdkaaaDoorSeqS
import Derived.OrdersHeld
import Derived.Test.YtfeoejpbmpdkaaaDoorLines
import Derived.Test.YtfeoejpbmpdkaaaDoorElO
import Derived.Test.YtfeoejpbmpdkaaaDoorLnA
import Derived.Test.YtfeoejpbmpdkaaaDoorPgS
import Derived.IntWalk
namespace Go.Proofs.YtfeoejpbmpdkaaaDoor
set_option linter.unusedVariables false
set_option linter.unusedSimpArgs false
open Go.RowKit

section
variable {P : Program} {l : List Oper} {Q : Exit → Act → World → Prop} {a : Act} {w w0 : World} {f i : Nat} {D : List Nat} {F : Nat → Prop}
/-- What is left of a region when the operations of D are done; all that stood in w0 is as it was, but for the blocks of F. -/
def wpH (P : Program) (l : List Oper) (Q : Exit → Act → World → Prop) (F : Nat → Prop) (w0 : World) (f : Nat) (D : List Nat) (a : Act) (w : World) : Prop := wpAnyH P .any l.toArray Q (Keeps F w0) f (dn l.length D) a w
theorem wpH_go {id : Nat} (F : Nat → Prop) (f : Nat) (hm : P.follows .mixedOrders = true) (hB : rgB l = true) (hf : l.length = f) (h : Hid (rgB l = true) → ∀ W, Sees w W → wpH P l Q F W f [] a W) : (Code.region id l.toArray true).wp P Q a w := by
  refine wp_region_any hm (wpAny_of_held (S := Keeps F w.drew) _ _ _ _ ?_)
  have := h (Lib.hid hB) w.drew (Sees.refl w).drew
  unfold wpH at this
  have e : dn l.length [] = Array.replicate l.toArray.size false := by
    apply Array.ext
    · simp [dn]
    · intro j h1 h2; simp [dn]
  rw [e, ← hf] at this
  simpa using this
theorem wpH_take {v : Value} {oi : Oper} (hB : Hid (rgB l = true)) (hi : l[i]? = some oi) (hb : takeB l D i = true) (hQ : ∀ c a t v w, Q (.panic c) (Act.put a (some t) v) w → Q (.panic c) a w)
    (hg : oi.guard = none) (hS : Keeps F w0 w) (hv : ∀ W, Keeps F w0 W → (execOp a.eval oi).run P W = .ok (.value v) W) (h : wpH P l Q F w0 f (i :: D) (a.put oi.dst v) w) : wpH P l Q F w0 (f + 1) D a w := by
  obtain ⟨hsel, _, _⟩ := rgB_spec hB.out
  unfold takeB at hb
  rw [hi] at hb
  simp only [Bool.and_eq_true, Bool.not_eq_true'] at hb
  obtain ⟨⟨h0, h1⟩, h2⟩ := hb
  rw [List.all_eq_true] at h2
  refine wpAnyH_first (i := i) (oi := oi) (v := v) (by simpa using hi) (Region.noSelect_spec hsel) (fun c a w hh => by cases hd : oi.dst with | none => rw [hd] at hh; exact hh | some t => rw [hd] at hh; exact hQ c a t _ w hh) _ _ _ _ ?_ (ready_dn hi h0 h1) (.inl ⟨wanted_none hg a, hv⟩) hS (by rw [dn_set]; exact h)
  intro j oj hj hji hun hno
  have hj : l[j]? = some oj := by simpa using hj
  have hjl := (List.getElem?_eq_some_iff.1 hj).1
  rw [dn_getD hjl] at hun
  have := h2 j (List.mem_range.2 hjl)
  rw [hj, hun] at this
  simp only [Bool.or_eq_true, beq_iff_eq, Bool.false_eq_true, or_false] at this
  rcases this with h | h | h
  · exact absurd h hji
  · obtain ⟨e, he, hb⟩ := Array.any_eq_true'.1 h
    simp only [Bool.and_eq_true, beq_iff_eq] at hb
    exact absurd hb.2 (hno e he hb.1)
  · exact h
theorem wpH_one (hr : Region.ready .any l.toArray (dn l.length D) = [i]) (h : wpOp P l.toArray Q i (fun a' w' => Keeps F w0 w' ∧ wpH P l Q F w0 f (i :: D) a' w') a w) : wpH P l Q F w0 (f + 1) D a w := by
  refine ⟨(fun h => by rw [h] at hr; cases hr), fun x hx => ?_⟩
  rw [hr] at hx
  obtain rfl : x = i := by simpa using hx
  rw [dn_set]
  exact h
theorem wpH_two {j : Nat} (hr : Region.ready .any l.toArray (dn l.length D) = [i, j]) (h1 : wpOp P l.toArray Q i (fun a' w' => Keeps F w0 w' ∧ wpH P l Q F w0 f (i :: D) a' w') a w) (h2 : wpOp P l.toArray Q j (fun a' w' => Keeps F w0 w' ∧ wpH P l Q F w0 f (j :: D) a' w') a w) : wpH P l Q F w0 (f + 1) D a w := by
  refine ⟨(fun h => by rw [h] at hr; cases hr), fun x hx => ?_⟩
  rw [hr] at hx
  rw [dn_set]
  rcases List.mem_cons.1 hx with rfl | hx
  · exact h1
  · obtain rfl : x = j := by simpa using hx
    exact h2
theorem wpH_end (hb : (List.range l.length).all (fun j => D.contains j) = true) (h : Q .normal a w) : wpH P l Q F w0 0 D a w := by
  have := wpS_end (P := P) (l := l) (Q := Q) (a := a) (w := w) hb h
  exact this
theorem wpOp_enter {K : Act → World → Prop} {o : Oper} {fn : FuncId} {args : Array Value} (ho : l[i]? = some o) (hg : o.guard = none) (hr : (execOp a.eval o).run P w = .ok (.enter fn args) w) (h : Calls P fn args w (fun e w' => ∃ v, e = .returned v ∧ K (a.put o.dst v) w')) : wpOp P l.toArray Q i K a w := by
  unfold wpOp
  rw [show l.toArray[i]? = some o by simpa using ho]
  simp only []
  rw [if_pos (wanted_none hg a)]
  refine .inl ?_
  unfold Oper.wp
  rw [hr]
  simp only [Oper.upon]
  exact Calls.mono h (fun e w'' ⟨v, he, hk⟩ => by subst he; exact hk)
end
end Go.Proofs.YtfeoejpbmpdkaaaDoor

namespace Go.Proofs.YtfeoejpbmpdkaaaDoor
set_option linter.unusedVariables false
set_option linter.unusedSimpArgs false
open Go.RowKit

namespace El
variable {α : Type} {E : El α} {F G : Nat → Prop} {w W W' : World} {v : Value} {xs : List α} {base : Nat}
theorem Row.put (h : E.Row base G W v xs) {i : Nat} (hi : i < xs.length) {x' : α} : ∃ (g cap : Nat) (cur : Array Value), v = .slice (some ⟨g, 0, none⟩) xs.length cap ∧ xs.length ≤ cap ∧ base ≤ g ∧ W.heap[g]? = some (.cells cur E.ty (0, 0)) ∧ i * E.n + E.n ≤ cur.size ∧
    ∀ (W' : World) (cur' : Array Value) (vs' : List Value), W'.heap[g]? = some (.cells cur' E.ty (0, 0)) → cur'.size = cur.size → (∀ j, cur'[j]? = if i * E.n ≤ j ∧ j < i * E.n + E.n then vs'[j - i * E.n]? else cur[j]?) → Keeps (fun b => b = g) W W' → ¬ G g → E.rel G W' vs' x' → E.Row base G W' v (xs.set i x') := by
  obtain ⟨vals, ⟨hl, hrow⟩, hrel⟩ := h
  rcases hrow with ⟨_, h0⟩ | ⟨g, cap, cur, rfl, hb, hg, hc1, hc2, hsz, htk⟩
  · omega
  have hn := E.n0
  have hle : i * E.n + E.n ≤ xs.length * E.n := by rw [← Nat.succ_mul]; exact Nat.mul_le_mul_right _ hi
  have hle2 : xs.length * E.n ≤ cap * E.n := Nat.mul_le_mul_right _ hc1
  refine ⟨g, cap, cur, rfl, hc1, hb, hg, by omega, fun W' cur' vs' hg' hs' ht' hk hG hx' => ?_⟩
  have hvl := E.len hx'
  have hvals : ∀ j, vals[j]? = if j < xs.length * E.n then cur[j]? else none := fun j => by
    rw [← htk, List.getElem?_take]
    split
    · simp
    · rfl
  obtain ⟨vals', hv'⟩ : ∃ vals', vals' = vals.take (i * E.n) ++ (vs' ++ vals.drop (i * E.n + E.n)) := ⟨_, rfl⟩
  have hvl' : vals'.length = xs.length * E.n := by rw [hv', List.length_append, List.length_append, List.length_take, List.length_drop, hvl, hl, Nat.min_eq_left (by omega)]; omega
  have hget : ∀ j, j < xs.length * E.n → vals'[j]? = if i * E.n ≤ j ∧ j < i * E.n + E.n then vs'[j - i * E.n]? else vals[j]? := fun j hj => by
    rw [hv']
    have e0 : (vals.take (i * E.n)).length = i * E.n := by simp; omega
    by_cases h1 : j < i * E.n
    · rw [if_neg (by omega), List.getElem?_append_left (by omega), List.getElem?_take, if_pos h1]
    · rw [List.getElem?_append_right (by omega), e0]
      by_cases h2 : j < i * E.n + E.n
      · rw [if_pos (by omega), List.getElem?_append_left (by omega)]
      · rw [if_neg (by omega), List.getElem?_append_right (by omega), List.getElem?_drop]
        congr 1; omega
  refine ⟨vals', ⟨by rw [List.length_set]; exact hvl', .inr ⟨g, cap, cur', by rw [List.length_set], hb, hg', by rw [List.length_set]; exact hc1, hc2, by rw [hs']; exact hsz, ?_⟩⟩, by rw [List.length_set]; exact hvl', fun j x hx => ?_⟩
  · rw [List.length_set]
    apply List.ext_getElem?
    intro j
    rw [List.getElem?_take]
    by_cases hj : j < xs.length * E.n
    · rw [if_pos hj, Array.getElem?_toList, ht', hget j hj]
      by_cases h1 : i * E.n ≤ j ∧ j < i * E.n + E.n
      · rw [if_pos h1, if_pos h1]
      · rw [if_neg h1, if_neg h1, hvals, if_pos hj]
    · rw [if_neg hj, List.getElem?_eq_none (by omega)]
  · have hjl : j < xs.length := by have := (List.getElem?_eq_some_iff.1 hx).1; rwa [List.length_set] at this
    have hjle : j * E.n + E.n ≤ xs.length * E.n := by rw [← Nat.succ_mul]; exact Nat.mul_le_mul_right _ hjl
    by_cases hij : i = j
    · subst hij
      rw [List.getElem?_set_self hi] at hx
      cases hx
      have : (vals'.drop (i * E.n)).take E.n = vs' := by
        apply List.ext_getElem?
        intro k
        rw [List.getElem?_take]
        by_cases hk2 : k < E.n
        · rw [if_pos hk2, List.getElem?_drop, hget _ (by omega), if_pos (by omega), Nat.add_sub_cancel_left]
        · rw [if_neg hk2, List.getElem?_eq_none (by omega)]
      rw [this]; exact hx'
    · rw [List.getElem?_set_ne hij] at hx
      have : (vals'.drop (j * E.n)).take E.n = (vals.drop (j * E.n)).take E.n := by
        apply List.ext_getElem?
        intro k
        rw [List.getElem?_take, List.getElem?_take]
        by_cases hk2 : k < E.n
        · rw [if_pos hk2, if_pos hk2, List.getElem?_drop, List.getElem?_drop, hget _ (by omega), if_neg]
          rintro ⟨a1, a2⟩
          rcases Nat.lt_or_ge j i with h | h
          · have : j * E.n + E.n ≤ i * E.n := by rw [← Nat.succ_mul]; exact Nat.mul_le_mul_right _ h
            omega
          · have : i * E.n + E.n ≤ j * E.n := by rw [← Nat.succ_mul]; exact Nat.mul_le_mul_right _ (by omega)
            omega
        · rw [if_neg hk2, if_neg hk2]
      rw [this]
      exact E.keeps (hrel.2 j x hx) hk (fun b hb e => hG (by have e : b = g := e; rwa [← e]))
end El
/-- A line is stored into a row of lines. -/
theorem lnrow_set {base : Nat} {G : Nat → Prop} {W : World} {a : Option Addr} {n c : Nat} {ls : List Ln} (h : lnEl.Row base G W (.slice a n c) ls) {i : Nat} (hi : i < ls.length) (v : Value) (soft : Bool) (cs : List Cell) (hv : cellEl.Rd G W v cs) :
    ∃ g, a = some ⟨g, 0, none⟩ ∧ n = ls.length ∧ n ≤ c ∧ base ≤ g ∧ (∃ x y, W.cell? ⟨g, i * 2, none⟩ = some x ∧ W.cell? ⟨g, i * 2 + 1, none⟩ = some y) ∧ (∀ j, W.frozen? ⟨g, j, none⟩ = false) ∧
      (¬ G g → lnEl.Row base G ((W.setCell ⟨g, i * 2, none⟩ v).setCell ⟨g, i * 2 + 1, none⟩ (.bool soft)) (.slice a n c) (ls.set i ⟨cs, soft⟩)) := by
  obtain ⟨g, cap, cur, hs, hc, hb, hg, hsz, hput⟩ := El.Row.put (x' := (⟨cs, soft⟩ : Ln)) h hi
  cases hs
  have e : lnEl.n = 2 := rfl
  rw [e] at hsz
  refine ⟨g, rfl, rfl, hc, hb, ⟨cur[i * 2]'(by omega), cur[i * 2 + 1]'(by omega), by rw [cell_of_row _ _ _ _ _ _ hg]; exact Array.getElem?_eq_getElem _, by rw [cell_of_row _ _ _ _ _ _ hg]; exact Array.getElem?_eq_getElem _⟩, fun j => frozen_of_row _ _ _ _ _ hg, fun hG => ?_⟩
  have hk : Keeps (fun b => b = g) W ((W.setCell ⟨g, i * 2, none⟩ v).setCell ⟨g, i * 2 + 1, none⟩ (.bool soft)) := Keeps.setCell (F := fun b => b = g) (Keeps.setCell (F := fun b => b = g) (Keeps.refl _ W) (p := ⟨g, i * 2, none⟩) (fun _ => rfl) _) (p := ⟨g, i * 2 + 1, none⟩) (fun _ => rfl) _
  refine hput _ _ [v, .bool soft] (heap_setCell_same _ _ _ _ _ _ (heap_setCell_same _ _ _ _ _ _ hg)) (by simp) (fun j => ?_) hk hG ⟨v, rfl, hv.keeps hk (fun b hb e => hG (by have e : b = g := e; rwa [← e]))⟩
  rw [e]
  by_cases h1 : i * 2 ≤ j ∧ j < i * 2 + 2
  · rw [if_pos h1]
    by_cases h2 : j = i * 2
    · subst h2
      rw [Array.getElem?_setIfInBounds_ne (by omega), Array.getElem?_setIfInBounds_self_of_lt (by omega), Nat.sub_self]; rfl
    · obtain rfl : j = i * 2 + 1 := by omega
      rw [Array.getElem?_setIfInBounds_self_of_lt (by simp; omega), Nat.add_sub_cancel_left]; rfl
  · rw [if_neg h1, Array.getElem?_setIfInBounds_ne (by omega), Array.getElem?_setIfInBounds_ne (by omega)]
end Go.Proofs.YtfeoejpbmpdkaaaDoor

namespace Go.Proofs.YtfeoejpbmpdkaaaDoor
set_option linter.unusedVariables false
set_option linter.unusedSimpArgs false
open Go.RowKit

/-- A variable that holds the reference's page. -/
def RsAt (W : World) (b : Nat) (p g : Int) (v : Value) : Prop := W.heap[b]? = some (.cells #[.int .i64 p, .int .i64 g, v] 50 (0, 0))
namespace RsAt
variable {W W' : World} {b : Nat} {p g : Int} {v : Value}
theorem sees (h : RsAt W b p g v) (hs : Sees W W') : RsAt W' b p g v := by
  unfold RsAt; rw [hs.block _ (Array.getElem?_eq_some_iff.1 h).1]; exact h
theorem keeps {F : Nat → Prop} (h : RsAt W b p g v) (hk : Keeps F W W') (hF : ¬ F b) : RsAt W' b p g v := by
  unfold RsAt; rw [hk.block _ (Array.getElem?_eq_some_iff.1 h).1 hF]; exact h
theorem new {n : Nat} (hn : n = W.heap.size) : RsAt (W.alloc (.cells #[.int .i64 p, .int .i64 g, v] 50)) n p g v := by subst hn; exact heap_alloc_new W _
theorem alloc (h : RsAt W b p g v) (o : Obj) : RsAt (W.alloc o) b p g v := h.sees ((Sees.refl W).alloc o)
theorem lt (h : RsAt W b p g v) : b < W.heap.size := (Array.getElem?_eq_some_iff.1 h).1
theorem c (h : RsAt W b p g v) : W.cell? ⟨b, 0, none⟩ = some (.int .i64 p) ∧ W.cell? ⟨b, 1, none⟩ = some (.int .i64 g) ∧ W.cell? ⟨b, 2, none⟩ = some v := by
  rw [cell_of_row _ _ _ _ _ _ h, cell_of_row _ _ _ _ _ _ h, cell_of_row _ _ _ _ _ _ h]; exact ⟨rfl, rfl, rfl⟩
theorem fr (h : RsAt W b p g v) : ∀ i, W.frozen? ⟨b, i, none⟩ = false := fun i => frozen_of_row W b i _ _ h
end RsAt
theorem LnAt.fr {W : World} {b : Nat} {v : Value} {soft : Bool} (h : LnAt W b v soft) : ∀ i, W.frozen? ⟨b, i, none⟩ = false := fun i => frozen_of_row W b i _ _ h

theorem refRoom_any (p g : Int) (a : Option Addr) (n c : Nat) (w : World) (h0 : 0 ≤ p) (h1 : p ≤ 1024) (h2 : 0 ≤ g) (h3 : g ≤ 1024) (h4 : n ≤ 1024) :
    Calls Tryd.prog 68 #[.agg #[.int .i64 p, .int .i64 g, .slice a n c]] w fun e w' => e = .returned (.int .i64 (p - g - n)) ∧ Sees w w' := by
  have hw := Sees.refl w
  have k1 : p - g ≤ 1024 := by omega
  have k2 : -1024 ≤ p - g := by omega
  go_enter Tryd.func68, Tryd.ntmps68
  go_wp2
  go_ret
  exact ⟨by go_num, hw.alloc _⟩
theorem with_any (p g : Int) (a a2 : Option Addr) (n c n2 c2 : Nat) (w : World) :
    Calls Tryd.prog 84 #[.agg #[.int .i64 p, .int .i64 g, .slice a n c], .slice a2 n2 c2] w fun e w' => e = .returned (.agg #[.int .i64 p, .int .i64 g, .slice a2 n2 c2]) ∧ Sees w w' := by
  have hw := Sees.refl w
  go_enter Tryd.func84, Tryd.ntmps84
  go_wp2
  refine bodyPost_ret_by (v := .agg #[.int .i64 p, .int .i64 g, .slice a2 n2 c2]) (by simp [results, Tryd.results84, go_sem]) rfl ⟨rfl, (hw.alloc _).alloc _⟩

set_option maxRecDepth 100000 in
set_option maxHeartbeats 1000000 in
theorem refPush_bad (p g : Int) (a : Option Addr) (n c : Nat) (u : Value) (cs : List Cell) (soft : Bool) (w : World) (hu : RdCells w u cs) (hn : cs.length ≤ 1000000) (hok : lnOk cs = false) :
    Calls Tryd.prog 63 #[.agg #[.int .i64 p, .int .i64 g, .slice a n c], .agg #[u, .bool soft]] w fun e w' => e = .returned (.tuple #[.agg #[.int .i64 p, .int .i64 g, .slice a n c], .int .i64 2]) ∧ Sees w w' := by
  have Hu := Lib.hid hu
  obtain ⟨uo, uc, rfl, _⟩ := hu
  have Hn := Lib.hid hn
  clear hn
  obtain ⟨un, hun⟩ : ∃ un, un = cs.length := ⟨_, rfl⟩
  rw [← hun] at Hu ⊢
  clear hun
  go_enter Tryd.func63, Tryd.ntmps63
  go_wp2_with fail
  refine calls_world (fun w1 hw1 => ?_)
  have A0 : RsAt w1 w.heap.size p g (.slice a n c) := by subst hw1; exact ((RsAt.new rfl).alloc _).alloc _
  have A2 : RsAt w1 (w.heap.size + 1 + 1) 0 0 (.slice none 0 0) := by subst hw1; exact RsAt.new (by simp)
  have hs1 : Sees w w1 := by subst hw1; exact (((Sees.refl w).alloc _).alloc _).alloc _
  clear hw1
  have S1 := Lib.hid hs1
  refine (refLine_any _ cs soft _ (Hu.out.sees hs1) Hn.out).mono ?_
  rintro e w2 ⟨rfl, hs⟩
  have S2 := Lib.hid (hs1.trans hs)
  obtain ⟨x0, x1, x2⟩ := (A0.sees hs).c
  obtain ⟨y0, y1, y2⟩ := (A2.sees hs).c
  have fy := (A2.sees hs).fr
  have hlt := Lib.hid hs1.size
  clear A0 A2 hs hs1
  go_wp2
  refine bodyPost_ret_by (v := .tuple #[.agg #[.int .i64 p, .int .i64 g, .slice a n c], .int .i64 2]) (by simp [results, Tryd.results63, go_sem, y0, y1, y2]) rfl ⟨rfl, ?_⟩
  exact ((S2.out.setCell (p := ⟨w.heap.size + 1 + 1, 0, none⟩) (by simp; omega) _).setCell (p := ⟨w.heap.size + 1 + 1, 1, none⟩) (by simp; omega) _).setCell (p := ⟨w.heap.size + 1 + 1, 2, none⟩) (by simp; omega) _
set_option maxRecDepth 100000 in
set_option maxHeartbeats 1000000 in
theorem refPush_full (p g : Int) (a : Option Addr) (n c : Nat) (u : Value) (cs : List Cell) (soft : Bool) (w : World) (h0 : 0 ≤ p) (h1 : p ≤ 1024) (h2 : 0 ≤ g) (h4 : p = g + n) (hu : RdCells w u cs) (hok : lnOk cs = true) :
    Calls Tryd.prog 63 #[.agg #[.int .i64 p, .int .i64 g, .slice a n c], .agg #[u, .bool soft]] w fun e w' => e = .returned (.tuple #[.agg #[.int .i64 p, .int .i64 g, .slice a n c], .int .i64 7]) ∧ Sees w w' := by
  have Hu := Lib.hid hu
  obtain ⟨uo, uc, rfl, _⟩ := hu
  have Hn : Hid (cs.length ≤ 1000000) := Lib.hid (by have := lnOk_len hok; omega)
  have H4 := Lib.hid h4
  clear h4
  obtain ⟨un, hun⟩ : ∃ un, un = cs.length := ⟨_, rfl⟩
  rw [← hun] at Hu ⊢
  clear hun
  go_enter Tryd.func63, Tryd.ntmps63
  go_wp2_with fail
  refine calls_world (fun w1 hw1 => ?_)
  have A0 : RsAt w1 w.heap.size p g (.slice a n c) := by subst hw1; exact ((RsAt.new rfl).alloc _).alloc _
  have A2 : RsAt w1 (w.heap.size + 1 + 1) 0 0 (.slice none 0 0) := by subst hw1; exact RsAt.new (by simp)
  have hs1 : Sees w w1 := by subst hw1; exact (((Sees.refl w).alloc _).alloc _).alloc _
  clear hw1
  refine (refLine_any _ cs soft _ (Hu.out.sees hs1) Hn.out).mono ?_
  rintro e w2 ⟨rfl, hs⟩
  have B0 := A0.sees hs
  have B2 := A2.sees hs
  have S2 := Lib.hid (hs1.trans hs)
  obtain ⟨x0, x1, x2⟩ := B0.c
  clear A0 A2 hs hs1
  go_wp2_with fail
  refine (refRoom_any p g a n c _ h0 h1 h2 (by have := H4.out; omega) (by have := H4.out; omega)).mono ?_
  rintro e w3 ⟨rfl, hs⟩
  have hz : (p - g - (n : Int) == 0) = true := beq_iff_eq.2 (by have := H4.out; omega)
  have S3 := Lib.hid (S2.out.trans hs)
  clear x0 x1 x2
  obtain ⟨x0, x1, x2⟩ := (B0.sees hs).c
  obtain ⟨y0, y1, y2⟩ := (B2.sees hs).c
  have fy := (B2.sees hs).fr
  clear B0 B2 hs
  go_wp2
  refine bodyPost_ret_by (v := .tuple #[.agg #[.int .i64 p, .int .i64 g, .slice a n c], .int .i64 7]) (by simp [results, Tryd.results63, go_sem, y0, y1, y2]) rfl ⟨rfl, ?_⟩
  exact ((S3.out.setCell (p := ⟨w.heap.size + 1 + 1, 0, none⟩) (by simp; omega) _).setCell (p := ⟨w.heap.size + 1 + 1, 1, none⟩) (by simp; omega) _).setCell (p := ⟨w.heap.size + 1 + 1, 2, none⟩) (by simp; omega) _

/-- A line in a row of one. -/
theorem ln_row_one {W : World} {b : Nat} {v : Value} {soft : Bool} {cs : List Cell} {G : Nat → Prop} {base : Nat} (hrow : W.heap[b]? = some (.cells #[v, .bool soft] 31 (0, 0))) (ho : OwnCells W base v cs) (hb : G b) (hG : ∀ g, v.ownBlock = some g → G g) : lnEl.Rd G W (.slice (some ⟨b, 0, none⟩) 1 1) [⟨cs, soft⟩] := by
  refine ⟨some ⟨b, 0, none⟩, 1, rfl, Nat.le_refl _, fun _ => ⟨b, 0, rfl, hb, fun i x hx => ?_⟩⟩
  rcases i with _ | i
  · cases hx
    refine ⟨_, ⟨v, rfl, (ho.el.mono (fun c _ h => hG c h.1)).rd⟩, fun j u hu => ?_⟩
    rw [cell_of_row _ _ _ _ _ _ hrow, Nat.zero_mul, Nat.zero_add]; simpa using hu
  · cases hx
set_option maxRecDepth 100000 in
set_option maxHeartbeats 4000000 in
theorem refPush_ok (G : Nat → Prop) (p g : Int) (v : Value) (ls : List Ln) (u : Value) (cs : List Cell) (soft : Bool) (w : World) (h0 : 0 ≤ p) (h1 : p ≤ 1024) (h2 : 0 ≤ g) (h4 : g + ls.length < p) (hv : lnEl.Rd G w v ls) (hu : RdCells w u cs) (hok : lnOk cs = true) :
    Calls Tryd.prog 63 #[.agg #[.int .i64 p, .int .i64 g, v], .agg #[u, .bool soft]] w fun e w' => ∃ v', e = .returned (.tuple #[.agg #[.int .i64 p, .int .i64 g, v'], .int .i64 0]) ∧ lnEl.Rd (fun b => (G b ∧ b < w.heap.size) ∨ w.heap.size ≤ b) w' v' (ls ++ [⟨cs, soft⟩]) ∧ Sees w w' := by
  have Hu := Lib.hid hu
  obtain ⟨uo, uc, rfl, _⟩ := hu
  have Hv := Lib.hid (hv.mono (G := fun b => G b ∧ b < w.heap.size) (fun b hb h => ⟨h, hb⟩))
  obtain ⟨a, c, rfl, hvx⟩ := hv.slice'
  clear hvx hv
  have Hn : Hid (cs.length ≤ 1000000) := Lib.hid (by have := lnOk_len hok; omega)
  obtain ⟨n, hnl⟩ : ∃ n, n = ls.length := ⟨_, rfl⟩
  rw [← hnl] at Hv h4 ⊢
  have Hnl := Lib.hid hnl
  clear hnl
  obtain ⟨un, hun⟩ : ∃ un, un = cs.length := ⟨_, rfl⟩
  rw [← hun] at Hu ⊢
  have Hun := Lib.hid hun
  clear hun
  go_enter Tryd.func63, Tryd.ntmps63
  go_wp2_with fail
  refine calls_world (fun w1 hw1 => ?_)
  have A0 : RsAt w1 w.heap.size p g (.slice a n c) := by subst hw1; exact ((RsAt.new rfl).alloc _).alloc _
  have A1 : LnAt w1 (w.heap.size + 1) (.slice uo un uc) soft := by subst hw1; exact (LnAt.new (by simp)).alloc _
  have A2 : RsAt w1 (w.heap.size + 1 + 1) 0 0 (.slice none 0 0) := by subst hw1; exact RsAt.new (by simp)
  have hs1 : Sees w w1 := by subst hw1; exact (((Sees.refl w).alloc _).alloc _).alloc _
  clear hw1
  refine (refLine_any _ cs soft _ (Hu.out.sees hs1) Hn.out).mono ?_
  rintro e w2 ⟨rfl, hs⟩
  have B0 := A0.sees hs
  have B1 := A1.sees hs
  have B2 := A2.sees hs
  have S2 := Lib.hid (hs1.trans hs)
  obtain ⟨x0, x1, x2⟩ := B0.c
  clear A0 A1 A2 hs hs1
  have HB1 := Lib.hid B1
  have HB0 := Lib.hid B0
  have HB2 := Lib.hid B2
  clear B0 B1 B2
  go_wp2_with fail
  refine (refRoom_any p g a n c _ h0 h1 h2 (by omega) (by omega)).mono ?_
  rintro e w3 ⟨rfl, hs⟩
  have hz : (p - g - (n : Int) == 0) = false := beq_eq_false_iff_ne.2 (by omega)
  have S3 := Lib.hid (S2.out.trans hs)
  have C0 := Lib.hid (HB0.out.sees hs)
  have C1 := Lib.hid (HB1.out.sees hs)
  have C2 := Lib.hid (HB2.out.sees hs)
  clear HB0 HB1 HB2 hs x0 x1 x2
  go_wp2_with fail
  refine wpH_go (fun b => b = w.heap.size + 1 + 1) 11 (by kernel_rfl) (by kernel_rfl) (by rfl) (fun hB w4 hs4 => ?_)
  have S4 := Lib.hid (S3.out.trans hs4)
  have D0 := Lib.hid (C0.out.sees hs4)
  have D1 := Lib.hid (C1.out.sees hs4)
  have D2 := Lib.hid (C2.out.sees hs4)
  have HV4 := Lib.hid (Hv.out.sees S4.out)
  clear C0 C1 C2 hs4
  have hS0 : Keeps (fun b => b = w.heap.size + 1 + 1) w4 w4 := Keeps.refl _ w4
  refine wpH_take (i := 0) (v := .agg #[.int .i64 p, .int .i64 g, .slice a n c]) hB (by rfl) (by kernel_rfl) (fun _ _ _ _ _ h => h) (by rfl) hS0 (fun W hI => by have q := (D0.out.keeps hI (by omega)).c; obtain ⟨q0, q1, q2⟩ := q; go_simp) ?_; (try simp only [Act.put, List.setIfInBounds_toArray, List.set_cons_zero, List.set_cons_succ])
  refine wpH_take (i := 1) (v := .pointer (some ⟨w.heap.size, 2, none⟩)) hB (by rfl) (by kernel_rfl) (fun _ _ _ _ _ h => h) (by rfl) hS0 (fun W hI => by clear hI; go_simp) ?_; (try simp only [Act.put, List.setIfInBounds_toArray, List.set_cons_zero, List.set_cons_succ])
  refine wpH_take (i := 2) (v := .slice a n c) hB (by rfl) (by kernel_rfl) (fun _ _ _ _ _ h => h) (by rfl) hS0 (fun W hI => by have q := (D0.out.keeps hI (by omega)).c; obtain ⟨q0, q1, q2⟩ := q; go_simp) ?_; (try simp only [Act.put, List.setIfInBounds_toArray, List.set_cons_zero, List.set_cons_succ])
  refine wpH_take (i := 4) (v := .agg #[.slice uo un uc, .bool soft]) hB (by rfl) (by kernel_rfl) (fun _ _ _ _ _ h => h) (by rfl) hS0 (fun W hI => by have q := (D1.out.keeps hI (by omega)).c; obtain ⟨q0, q1⟩ := q; go_simp) ?_; (try simp only [Act.put, List.setIfInBounds_toArray, List.set_cons_zero, List.set_cons_succ])
  have KA := Lib.hid (fun W (hI : Sees w4 W) => El.run_append_nil typedLn 39 (.slice a n c) ls (HV4.out.sees hI) (by rw [← Hnl.out]; omega))
  have KC := Lib.hid (fun W (hI : Sees w4 W) => refCopy_any (.slice uo un uc) cs soft W (Hu.out.sees (S4.out.trans hI)) Hn.out)
  obtain ⟨v1, W1, hr1, hrow1, hs1⟩ := KA.out w4 (Sees.refl w4)
  refine wpH_one (i := 3) (by kernel_rfl) (wpOp_val (by rfl) (wanted_none (by rfl) _) (exec_append (v := .slice none 0 0) (u := .slice a n c) rfl (by go_simp) (by go_simp) hr1) ⟨Keeps.of_sees hs1, ?_⟩)
  clear hr1
  (try simp only [Act.put, List.setIfInBounds_toArray, List.set_cons_zero, List.set_cons_succ])
  refine wpH_one (i := 5) (by kernel_rfl) (wpOp_enter (fn := 62) (args := #[.agg #[.slice uo un uc, .bool soft]]) (by rfl) (by rfl) (by go_simp) ((KC.out W1 hs1).mono ?_))
  rintro e W2 ⟨v6, rfl, ho6, hs2⟩
  refine ⟨_, rfl, Keeps.of_sees (hs1.trans hs2), ?_⟩
  obtain ⟨va, vc, rfl⟩ := ho6.slice
  (try simp only [Act.put, List.setIfInBounds_toArray, List.set_cons_zero, List.set_cons_succ])
  have hz1 := hs1.size
  have hz2 := hs2.size
  have hS3 : Sees W2 (W2.alloc (.cells #[.slice va cs.length vc, .bool soft] 31)) := (Sees.refl W2).alloc _
  refine wpH_one (i := 6) (by kernel_rfl) (wpOp_val (v := .slice (some ⟨W2.heap.size, 0, none⟩) 1 1) (w' := W2.alloc (.cells #[.slice va cs.length vc, .bool soft] 31)) (by rfl) (wanted_none (by rfl) _) (by go_simp) ⟨Keeps.of_sees ((hs1.trans hs2).trans hS3), ?_⟩)
  (try simp only [Act.put, List.setIfInBounds_toArray, List.set_cons_zero, List.set_cons_succ])
  have hlt1 : ∀ g, v1.ownBlock = some g → w4.heap.size ≤ g ∧ g < W1.heap.size := fun g hg => hrow1.base_le hg
  have hlt6 : ∀ g, Value.ownBlock (.slice va cs.length vc) = some g → W1.heap.size ≤ g ∧ g < W2.heap.size := fun g hg => by have := El.rowLt ho6 hg; exact ⟨by omega, this.2⟩
  have HRow := Lib.hid (hrow1.sees (hs2.trans hS3))
  have Ho6 := Lib.hid (OwnCells.sees (ho6.mono (base' := w4.heap.size) (by omega)) hS3)
  have Hdis : Hid (v1.ownBlock ≠ some W2.heap.size ∧ (∀ g, Value.ownBlock (.slice va cs.length vc) = some g → v1.ownBlock ≠ some g)) := ⟨fun e => by have := (hlt1 _ e).2; omega, fun g hg e => by have := (hlt1 _ e).2; have := (hlt6 _ hg).1; omega⟩
  have Hb6 := Lib.hid (heap_alloc_new W2 (.cells #[.slice va cs.length vc, .bool soft] 31))
  have Hb6z : Hid (w4.heap.size ≤ W2.heap.size) := by unfold Hid; omega
  have HS5 := Lib.hid ((hs1.trans hs2).trans hS3)
  clear hrow1 ho6 hlt1 hlt6 hs1 hs2 hS3 hz1 hz2
  generalize W2.alloc (.cells #[.slice va cs.length vc, .bool soft] 31) = W3 at *
  obtain ⟨b6, hb6⟩ : ∃ b6, b6 = W2.heap.size := ⟨_, rfl⟩
  rw [← hb6] at Hdis Hb6 Hb6z ⊢
  clear hb6
  have hw4z := S4.out.size
  have hrow5 : lnEl.Row w4.heap.size (fun b => ((G b ∧ b < w.heap.size) ∨ w4.heap.size ≤ b) ∧ v1.ownBlock ≠ some b) W3 v1 ls := HRow.out.mono (fun b _ h => ⟨.inl h, fun e => by have := (HRow.out.base_le e).1; have := h.2; omega⟩) (Nat.le_refl _)
  have hu6 : lnEl.Rd (fun b => ((G b ∧ b < w.heap.size) ∨ w4.heap.size ≤ b) ∧ v1.ownBlock ≠ some b) W3 (.slice (some ⟨b6, 0, none⟩) 1 1) [⟨cs, soft⟩] := ln_row_one Hb6.out Ho6.out ⟨.inr Hb6z.out, Hdis.out.1⟩ (fun g hg => ⟨.inr (El.rowLt Ho6.out hg).1, Hdis.out.2 g hg⟩)
  obtain ⟨v7, W7, hr7, hrow7, hk7, hob7⟩ := El.run_append_row typedLn 39 hrow5 (.slice (some ⟨b6, 0, none⟩) 1 1) [⟨cs, soft⟩] hu6 (fun b h => h.2) (by rw [← Hnl.out, List.length_cons, List.length_nil]; omega) HS5.out.size
  have hs7 : Sees w4 W7 := El.keep_new HS5.out hk7 (fun g hg => (HRow.out.base_le hg).1)
  have R7 := Lib.hid (hrow7.rd (F := fun b => (G b ∧ b < w.heap.size) ∨ w4.heap.size ≤ b) (fun b hb h => by
    rcases h with h | h
    · exact h.1
    · exact .inr h))
  have HD2 := Lib.hid D2.out.lt
  obtain ⟨a7, c7, hv7, hx7⟩ := hrow7.slice
  rw [show (ls ++ [(⟨cs, soft⟩ : Ln)]).length = n + 1 by rw [List.length_append, ← Hnl.out]; rfl] at hv7
  subst hv7
  have Hr7 := Lib.hid hr7
  have HS7 := Lib.hid hs7
  clear hrow5 hu6 hrow7 hk7 hob7 hx7 hr7 hs7 HRow Ho6 Hb6 Hb6z Hdis HS5 hw4z
  refine wpH_one (i := 7) (by kernel_rfl) (wpOp_val (v := .slice a7 (n + 1) c7) (w' := W7) (by rfl) (wanted_none (by rfl) _) (exec_append (v := v1) (u := .slice (some ⟨b6, 0, none⟩) 1 1) rfl (by go_simp) (by go_simp) Hr7.out) ⟨Keeps.of_sees HS7.out, ?_⟩)
  (try simp only [Act.put, List.setIfInBounds_toArray, List.set_cons_zero, List.set_cons_succ])
  refine wpH_one (i := 8) (by kernel_rfl) (wpOp_enter (fn := 84) (args := #[.agg #[.int .i64 p, .int .i64 g, .slice a n c], .slice a7 (n + 1) c7]) (by rfl) (by rfl) (by go_simp) ((with_any p g a a7 n c (n + 1) c7 W7).mono ?_))
  rintro e W8 ⟨rfl, hs8⟩
  have HS8 := Lib.hid (HS7.out.trans hs8)
  have R8 := Lib.hid (R7.out.sees hs8)
  refine ⟨_, rfl, Keeps.of_sees HS8.out, ?_⟩
  (try simp only [Act.put, List.setIfInBounds_toArray, List.set_cons_zero, List.set_cons_succ])
  have D8 := D2.out.sees HS8.out
  obtain ⟨y0, y1, y2⟩ := D8.c
  have fy := D8.fr
  have Hlt := Lib.hid D8.lt
  clear hs8 D8 R7 Hr7
  obtain ⟨w9, hw9⟩ : ∃ w9, w9 = W8.setRow (w.heap.size + 1 + 1) #[.int .i64 p, .int .i64 g, .slice a7 (n + 1) c7] := ⟨_, rfl⟩
  have hst9 : (Instr.storeAt 50 (.pointer (some ⟨w.heap.size + 1 + 1, 0, none⟩)) (.agg #[.int .i64 p, .int .i64 g, .slice a7 (n + 1) c7])).run Tryd.prog W8 = .ok () w9 := by
    rw [hw9]
    exact run_storeAt_row (P := Tryd.prog) (W := W8) 50 (w.heap.size + 1 + 1) _ 50 [.int .i64 p, .int .i64 g, .slice a7 (n + 1) c7] (fun _ => by kernel_rfl) (D2.out.sees HS8.out) rfl (by intro v hv; simp only [List.mem_cons, List.not_mem_nil, or_false] at hv; rcases hv with rfl | rfl | rfl <;> rfl)
  have hk9 : Keeps (fun b => b = w.heap.size + 1 + 1) W8 w9 := by rw [hw9]; exact ⟨rfl, rfl, rfl, by simp [World.setRow], fun b hb hne => setRow_other W8 _ b _ hne⟩
  have D9 : RsAt w9 (w.heap.size + 1 + 1) p g (.slice a7 (n + 1) c7) := by rw [hw9]; exact setRow_heap _ _ _ _ _ (0, 0) (D2.out.sees HS8.out)
  have Hst9 := Lib.hid hst9
  have Hk9 := Lib.hid hk9
  have HD9 := Lib.hid D9
  have HK9 := Lib.hid ((Keeps.of_sees (F := fun b => b = w.heap.size + 1 + 1) HS8.out).trans hk9)
  clear hw9 hst9 hk9 D9 y0 y1 y2 fy
  refine wpH_one (i := 9) (by kernel_rfl) (wpOp_skip (w' := w9) (by rfl) (wanted_none (by rfl) _) (exec_store (a := .pointer (some ⟨w.heap.size + 1 + 1, 0, none⟩)) (v := .agg #[.int .i64 p, .int .i64 g, .slice a7 (n + 1) c7]) rfl (by go_simp) (by go_simp) Hst9.out) ⟨HK9.out, ?_⟩)
  (try simp only [Act.put, List.setIfInBounds_toArray, List.set_cons_zero, List.set_cons_succ])
  refine wpH_one (i := 10) (by kernel_rfl) (wpOp_val (v := .int .i64 0) (w' := w9) (by rfl) (wanted_none (by rfl) _) (by go_simp) ⟨HK9.out, ?_⟩)
  (try simp only [Act.put, List.setIfInBounds_toArray, List.set_cons_zero, List.set_cons_succ])
  refine wpH_end (by kernel_rfl) ?_
  go_wp2
  obtain ⟨y0, y1, y2⟩ := HD9.out.c
  have hS9 : Sees w w9 := ((Keeps.of_sees (F := fun _ => False) (S4.out.trans HS8.out)).trans' Hk9.out (fun b hb e => by have e : b = w.heap.size + 1 + 1 := e; omega)).sees_end (fun _ _ h => h)
  refine bodyPost_ret_by (v := .tuple #[.agg #[.int .i64 p, .int .i64 g, .slice a7 (n + 1) c7], .int .i64 0]) (by simp [results, Tryd.results63, go_sem, y0, y1, y2]) rfl ⟨_, rfl, ?_, hS9⟩
  exact (R8.out.keeps Hk9.out (fun b hb e => by
    have e : b = w.heap.size + 1 + 1 := e
    have := HD2.out
    rcases hb with h | h
    · have := h.2; omega
    · omega)).mono (fun b _ h => by
    have := HD2.out
    rcases h with h | h
    · exact .inl h
    · exact .inr (by omega))
end Go.Proofs.YtfeoejpbmpdkaaaDoor

namespace Go.Proofs.YtfeoejpbmpdkaaaDoor
set_option linter.unusedVariables false
set_option linter.unusedSimpArgs false
open Go.RowKit

set_option maxRecDepth 100000 in
set_option maxHeartbeats 1000000 in
theorem refSet_bad (p g : Int) (a : Option Addr) (n c : Nat) (i : Int) (u : Value) (cs : List Cell) (soft : Bool) (w : World) (hu : RdCells w u cs) (hn : cs.length ≤ 1000000) (hok : lnOk cs = false) :
    Calls Tryd.prog 65 #[.agg #[.int .i64 p, .int .i64 g, .slice a n c], .int .i64 i, .agg #[u, .bool soft]] w fun e w' => e = .returned (.tuple #[.agg #[.int .i64 p, .int .i64 g, .slice a n c], .int .i64 2]) ∧ Sees w w' := by
  have Hu := Lib.hid hu
  obtain ⟨uo, uc, rfl, _⟩ := hu
  have Hn := Lib.hid hn
  clear hn
  obtain ⟨un, hun⟩ : ∃ un, un = cs.length := ⟨_, rfl⟩
  rw [← hun] at Hu ⊢
  clear hun
  go_enter Tryd.func65, Tryd.ntmps65
  go_wp2_with fail
  refine calls_world (fun w1 hw1 => ?_)
  have A0 : RsAt w1 w.heap.size p g (.slice a n c) := by subst hw1; exact ((RsAt.new rfl).alloc _).alloc _
  have A1 : LnAt w1 (w.heap.size + 1) (.slice uo un uc) soft := by subst hw1; exact (LnAt.new (by simp)).alloc _
  have A2 : RsAt w1 (w.heap.size + 1 + 1) 0 0 (.slice none 0 0) := by subst hw1; exact RsAt.new (by simp)
  have hs1 : Sees w w1 := by subst hw1; exact (((Sees.refl w).alloc _).alloc _).alloc _
  clear hw1
  refine (refLine_any _ cs soft _ (Hu.out.sees hs1) Hn.out).mono ?_
  rintro e w2 ⟨rfl, hs⟩
  have S2 := Lib.hid (hs1.trans hs)
  obtain ⟨x0, x1, x2⟩ := (A0.sees hs).c
  obtain ⟨y0, y1, y2⟩ := (A2.sees hs).c
  have fy := (A2.sees hs).fr
  have hlt := Lib.hid hs1.size
  clear A0 A1 A2 hs hs1
  go_wp2
  refine bodyPost_ret_by (v := .tuple #[.agg #[.int .i64 p, .int .i64 g, .slice a n c], .int .i64 2]) (by simp [results, Tryd.results65, go_sem, y0, y1, y2]) rfl ⟨rfl, ?_⟩
  exact ((S2.out.setCell (p := ⟨w.heap.size + 1 + 1, 0, none⟩) (by simp; omega) _).setCell (p := ⟨w.heap.size + 1 + 1, 1, none⟩) (by simp; omega) _).setCell (p := ⟨w.heap.size + 1 + 1, 2, none⟩) (by simp; omega) _
set_option maxRecDepth 100000 in
set_option maxHeartbeats 1000000 in
theorem refSet_range (p g : Int) (a : Option Addr) (n c : Nat) (i : Int) (u : Value) (cs : List Cell) (soft : Bool) (w : World) (hi : i < 0 ∨ (n : Int) ≤ i) (hu : RdCells w u cs) (hok : lnOk cs = true) :
    Calls Tryd.prog 65 #[.agg #[.int .i64 p, .int .i64 g, .slice a n c], .int .i64 i, .agg #[u, .bool soft]] w fun e w' => e = .returned (.tuple #[.agg #[.int .i64 p, .int .i64 g, .slice a n c], .int .i64 3]) ∧ Sees w w' := by
  have Hu := Lib.hid hu
  obtain ⟨uo, uc, rfl, _⟩ := hu
  have Hn : Hid (cs.length ≤ 1000000) := Lib.hid (by have := lnOk_len hok; omega)
  obtain ⟨un, hun⟩ : ∃ un, un = cs.length := ⟨_, rfl⟩
  rw [← hun] at Hu ⊢
  clear hun
  by_cases h0 : i < 0
  · clear hi
    go_enter Tryd.func65, Tryd.ntmps65
    go_wp2_with fail
    refine calls_world (fun w1 hw1 => ?_)
    have A0 : RsAt w1 w.heap.size p g (.slice a n c) := by subst hw1; exact ((RsAt.new rfl).alloc _).alloc _
    have A1 : LnAt w1 (w.heap.size + 1) (.slice uo un uc) soft := by subst hw1; exact (LnAt.new (by simp)).alloc _
    have A2 : RsAt w1 (w.heap.size + 1 + 1) 0 0 (.slice none 0 0) := by subst hw1; exact RsAt.new (by simp)
    have hs1 : Sees w w1 := by subst hw1; exact (((Sees.refl w).alloc _).alloc _).alloc _
    clear hw1
    refine (refLine_any _ cs soft _ (Hu.out.sees hs1) Hn.out).mono ?_
    rintro e w2 ⟨rfl, hs⟩
    have S2 := Lib.hid (hs1.trans hs)
    obtain ⟨x0, x1, x2⟩ := (A0.sees hs).c
    obtain ⟨y0, y1, y2⟩ := (A2.sees hs).c
    have fy := (A2.sees hs).fr
    clear A0 A1 A2 hs hs1
    go_wp2
    refine bodyPost_ret_by (v := .tuple #[.agg #[.int .i64 p, .int .i64 g, .slice a n c], .int .i64 3]) (by simp [results, Tryd.results65, go_sem, y0, y1, y2]) rfl ⟨rfl, ?_⟩
    exact ((S2.out.setCell (p := ⟨w.heap.size + 1 + 1, 0, none⟩) (by simp; omega) _).setCell (p := ⟨w.heap.size + 1 + 1, 1, none⟩) (by simp; omega) _).setCell (p := ⟨w.heap.size + 1 + 1, 2, none⟩) (by simp; omega) _
  · have h1 : (n : Int) ≤ i := by omega
    have d1 : decide (i < 0) = false := decide_eq_false h0
    have d2 : decide (i ≥ (n : Int)) = true := decide_eq_true h1
    clear hi
    go_enter Tryd.func65, Tryd.ntmps65
    go_wp2_with fail
    refine calls_world (fun w1 hw1 => ?_)
    have A0 : RsAt w1 w.heap.size p g (.slice a n c) := by subst hw1; exact ((RsAt.new rfl).alloc _).alloc _
    have A1 : LnAt w1 (w.heap.size + 1) (.slice uo un uc) soft := by subst hw1; exact (LnAt.new (by simp)).alloc _
    have A2 : RsAt w1 (w.heap.size + 1 + 1) 0 0 (.slice none 0 0) := by subst hw1; exact RsAt.new (by simp)
    have hs1 : Sees w w1 := by subst hw1; exact (((Sees.refl w).alloc _).alloc _).alloc _
    clear hw1
    refine (refLine_any _ cs soft _ (Hu.out.sees hs1) Hn.out).mono ?_
    rintro e w2 ⟨rfl, hs⟩
    have S2 := Lib.hid (hs1.trans hs)
    obtain ⟨x0, x1, x2⟩ := (A0.sees hs).c
    obtain ⟨y0, y1, y2⟩ := (A2.sees hs).c
    have fy := (A2.sees hs).fr
    clear A0 A1 A2 hs hs1
    go_wp2
    refine bodyPost_ret_by (v := .tuple #[.agg #[.int .i64 p, .int .i64 g, .slice a n c], .int .i64 3]) (by simp [results, Tryd.results65, go_sem, y0, y1, y2]) rfl ⟨rfl, ?_⟩
    exact ((S2.out.setCell (p := ⟨w.heap.size + 1 + 1, 0, none⟩) (by simp; omega) _).setCell (p := ⟨w.heap.size + 1 + 1, 1, none⟩) (by simp; omega) _).setCell (p := ⟨w.heap.size + 1 + 1, 2, none⟩) (by simp; omega) _
set_option maxRecDepth 100000 in
set_option maxHeartbeats 4000000 in
theorem refSet_ok (G : Nat → Prop) (p g : Int) (v : Value) (ls : List Ln) (i : Nat) (u : Value) (cs : List Cell) (soft : Bool) (w : World) (hi : i < ls.length) (hln : ls.length ≤ 1024) (hv : lnEl.Rd G w v ls) (hu : RdCells w u cs) (hok : lnOk cs = true) :
    Calls Tryd.prog 65 #[.agg #[.int .i64 p, .int .i64 g, v], .int .i64 (i : Int), .agg #[u, .bool soft]] w fun e w' => ∃ v', e = .returned (.tuple #[.agg #[.int .i64 p, .int .i64 g, v'], .int .i64 0]) ∧ lnEl.Rd (fun b => (G b ∧ b < w.heap.size) ∨ w.heap.size ≤ b) w' v' (ls.set i ⟨cs, soft⟩) ∧ Sees w w' := by
  have Hu := Lib.hid hu
  obtain ⟨uo, uc, rfl, _⟩ := hu
  have Hv := Lib.hid (hv.mono (G := fun b => G b ∧ b < w.heap.size) (fun b hb h => ⟨h, hb⟩))
  obtain ⟨a, c, rfl, hvx⟩ := hv.slice'
  clear hvx hv
  have Hn : Hid (cs.length ≤ 1000000) := Lib.hid (by have := lnOk_len hok; omega)
  have Hi := Lib.hid hi
  obtain ⟨n, hnl⟩ : ∃ n, n = ls.length := ⟨_, rfl⟩
  rw [← hnl] at Hv hi hln ⊢
  have Hnl := Lib.hid hnl
  clear hnl
  obtain ⟨un, hun⟩ : ∃ un, un = cs.length := ⟨_, rfl⟩
  rw [← hun] at Hu ⊢
  have Hun := Lib.hid hun
  clear hun
  have h0 : ¬ ((i : Int) < 0) := by omega
  have h1 : ¬ ((n : Int) ≤ i) := by omega
  have d1 : decide ((i : Int) < 0) = false := decide_eq_false h0
  have d2 : decide ((i : Int) ≥ (n : Int)) = false := decide_eq_false h1
  go_enter Tryd.func65, Tryd.ntmps65
  go_wp2_with fail
  refine calls_world (fun w1 hw1 => ?_)
  have A0 : RsAt w1 w.heap.size p g (.slice a n c) := by subst hw1; exact ((RsAt.new rfl).alloc _).alloc _
  have A1 : LnAt w1 (w.heap.size + 1) (.slice uo un uc) soft := by subst hw1; exact (LnAt.new (by simp)).alloc _
  have A2 : RsAt w1 (w.heap.size + 1 + 1) 0 0 (.slice none 0 0) := by subst hw1; exact RsAt.new (by simp)
  have hs1 : Sees w w1 := by subst hw1; exact (((Sees.refl w).alloc _).alloc _).alloc _
  clear hw1
  refine (refLine_any _ cs soft _ (Hu.out.sees hs1) Hn.out).mono ?_
  rintro e w2 ⟨rfl, hs⟩
  have S2 := Lib.hid (hs1.trans hs)
  obtain ⟨x0, x1, x2⟩ := (A0.sees hs).c
  have B0 := Lib.hid (A0.sees hs)
  have B1 := Lib.hid (A1.sees hs)
  have B2 := Lib.hid (A2.sees hs)
  have HV2 := Lib.hid (Hv.out.sees S2.out)
  have HcL : Hid (([] : List Ln).length + ls.length ≤ 100000000) := by unfold Hid; rw [← Hnl.out, List.length_nil]; omega
  clear A0 A1 A2 hs hs1
  go_wp2_with (at_builtin; refine El.wpList_append_row (base := w2.heap.size) typedLn rfl (.const (.slice none 0 0)) (.tmp 26) rfl (by go_simp) (El.Row.nil w2.heap.size (fun b => G b ∧ b < w.heap.size) w2) (.slice a n c) (by go_simp) ls HV2.out (fun b _ e => by cases e) HcL.out (Nat.le_refl _) ?_; intro v3 w3 hr3 hk3 hob3; have hs3 : Sees w2 w3 := hk3.sees_end (fun b hb e => by cases e); obtain ⟨a3, c3, hv3, hx3⟩ := hr3.slice; rw [List.nil_append] at hr3 hv3; rw [← Hnl.out] at hv3; subst hv3; have HR3 := Lib.hid hr3; have HS3 := Lib.hid hs3; clear x0 x1 x2; obtain ⟨x0, x1⟩ := (B1.out.sees hs3).c; clear hr3 hk3 hob3 hx3 hs3)
  refine (refCopy_any _ cs soft w3 (Hu.out.sees (S2.out.trans HS3.out)) Hn.out).mono ?_
  rintro e w4 ⟨v6, rfl, ho6, hs4⟩
  obtain ⟨va, vc, rfl⟩ := ho6.slice
  have hz4 := hs4.size
  have hrow4 := HR3.out.sees hs4
  have hsz2 := HS3.out.size
  have hww : w.heap.size ≤ w2.heap.size := S2.out.size
  have hlt6 : ∀ g, Value.ownBlock (.slice va cs.length vc) = some g → w3.heap.size ≤ g ∧ g < w4.heap.size := fun g hg => by have := El.rowLt ho6 hg; exact ⟨by omega, this.2⟩
  obtain ⟨g3, ha3, hn3, hc3, hb3, ⟨z0, z1, hz0, hz1⟩, hf3, hput⟩ := lnrow_set (G := fun b => (G b ∧ b < w.heap.size) ∨ w3.heap.size ≤ b) (hrow4.mono (F := fun b => (G b ∧ b < w.heap.size) ∨ w3.heap.size ≤ b) (fun b _ h => .inl h) (Nat.le_refl _)) Hi.out (.slice va cs.length vc) soft cs ((ho6.el.mono (fun b _ h => .inr (hlt6 b h.1).1)).rd)
  subst ha3
  have hg3 : w2.heap.size ≤ g3 ∧ g3 < w3.heap.size := HR3.out.base_le rfl
  have HP := Lib.hid (hput (fun h => by
    have h : (G g3 ∧ g3 < w.heap.size) ∨ w3.heap.size ≤ g3 := h
    rcases h with h | h
    · have := h.2; omega
    · omega))
  have hlt2 := B2.out.lt
  have Hlt2 := Lib.hid hlt2
  have hlow := Lib.hid (show w.heap.size ≤ g3 by omega)
  have hw4s := Lib.hid (show w2.heap.size ≤ w4.heap.size by omega)
  have HS4 := Lib.hid (S2.out.trans (HS3.out.trans hs4))
  have C0 := Lib.hid (B0.out.sees (HS3.out.trans hs4))
  have C2 := Lib.hid (B2.out.sees (HS3.out.trans hs4))
  have Hg3 := Lib.hid hg3
  have hne1 : ¬ (g3 = w.heap.size) := by omega
  clear hput ho6 hlt6 hrow4 hs4 hlt2 hn3 hc3 hb3 hg3 x0 x1 hz4 hsz2 hww
  have c0 := C0.out.c
  obtain ⟨x0, x1, x2⟩ := c0
  go_wp2_with fail
  obtain ⟨W5, hW5⟩ : ∃ W5, W5 = (w4.setCell ⟨g3, i * 2, none⟩ (.slice va cs.length vc)).setCell ⟨g3, i * 2 + 1, none⟩ (.bool soft) := ⟨_, rfl⟩
  have HS5 := Lib.hid (show Sees w W5 by rw [hW5]; exact (HS4.out.setCell (p := ⟨g3, i * 2, none⟩) hlow.out _).setCell (p := ⟨g3, i * 2 + 1, none⟩) hlow.out _)
  have HK5 := Lib.hid (show Keeps (fun b => b = g3) w4 W5 by rw [hW5]; exact Keeps.setCell (F := fun b => b = g3) (Keeps.setCell (F := fun b => b = g3) (Keeps.refl _ w4) (p := ⟨g3, i * 2, none⟩) (fun _ => rfl) _) (p := ⟨g3, i * 2 + 1, none⟩) (fun _ => rfl) _)
  rw [← hW5] at HP ⊢
  have C5 := Lib.hid (C2.out.keeps HK5.out (by have := Hg3.out; have := Hlt2.out; omega))
  clear hW5 x0 x1 x2 hz0 hz1 hf3
  refine (with_any p g a (some ⟨g3, 0, none⟩) n c n c3 W5).mono ?_
  rintro e W8 ⟨rfl, hs8⟩
  have S8 := Lib.hid (HS5.out.trans hs8)
  have D8 := C5.out.sees hs8
  obtain ⟨y0, y1, y2⟩ := D8.c
  have fy := D8.fr
  have R8 := Lib.hid ((HP.out.rd (F := fun b => (G b ∧ b < w.heap.size) ∨ w2.heap.size ≤ b) (fun b hb h => by
    have := HS3.out.size
    rcases h with h | h
    · rcases h with h | h
      · exact .inl h
      · exact .inr (by omega)
    · exact .inr h)).sees hs8)
  clear D8 hs8
  go_wp2
  refine bodyPost_ret_by (v := .tuple #[.agg #[.int .i64 p, .int .i64 g, .slice (some ⟨g3, 0, none⟩) n c3], .int .i64 0]) (by simp [results, Tryd.results65, go_sem, y0, y1, y2]) rfl ⟨_, rfl, ?_, ?_⟩
  · refine (R8.out.keeps (Keeps.setCell (F := fun b => b = w.heap.size + 1 + 1) (Keeps.setCell (F := fun b => b = w.heap.size + 1 + 1) (Keeps.setCell (F := fun b => b = w.heap.size + 1 + 1) (Keeps.refl _ W8) (p := ⟨w.heap.size + 1 + 1, 0, none⟩) (fun _ => rfl) _) (p := ⟨w.heap.size + 1 + 1, 1, none⟩) (fun _ => rfl) _) (p := ⟨w.heap.size + 1 + 1, 2, none⟩) (fun _ => rfl) _) (fun b hb e => ?_)).mono (fun b _ h => ?_)
    · have e : b = w.heap.size + 1 + 1 := e
      have := Hlt2.out
      rcases hb with h | h
      · have := h.2; omega
      · omega
    · have := Hlt2.out
      rcases h with h | h
      · exact .inl h
      · exact .inr (by omega)
  · exact ((S8.out.setCell (p := ⟨w.heap.size + 1 + 1, 0, none⟩) (by simp; omega) _).setCell (p := ⟨w.heap.size + 1 + 1, 1, none⟩) (by simp; omega) _).setCell (p := ⟨w.heap.size + 1 + 1, 2, none⟩) (by simp; omega) _
end Go.Proofs.YtfeoejpbmpdkaaaDoor

namespace Go.Proofs.YtfeoejpbmpdkaaaDoor
set_option linter.unusedVariables false
set_option linter.unusedSimpArgs false
open Go.RowKit

/-- A part of lines. -/
theorem lns_from (a : Option Addr) (n c k : Nat) (hk : k ≤ n) (hc : n ≤ c) (hs : ∀ x, a = some x → x.spot = none) (ha : a = none → n = 0) : ∃ a', (∀ W, (Instr.sliceAt 39 (.slice a n c) (some (.int .i64 (k : Int))) none none).run Tryd.prog W = .ok (.slice a' (n - k) (c - k)) W) ∧
    ∀ (F : Nat → Prop) (W : World) (xs : List Ln), lnEl.Rd F W (.slice a n c) xs → lnEl.Rd F W (.slice a' (n - k) (c - k)) (xs.drop k) := by
  cases a with
  | none =>
    obtain rfl := ha rfl
    obtain rfl : k = 0 := by omega
    exact ⟨none, fun W => by go_simp, fun F W xs h => h⟩
  | some x =>
    obtain ⟨b, o, sp⟩ := x
    have := hs _ rfl
    simp only at this
    subst this
    by_cases h : c = k
    · subst h
      obtain rfl : n = c := by omega
      exact ⟨some ⟨b, o, none⟩, fun W => by go_simp, fun F W xs hr => by
        have hl := hr.len
        rw [List.drop_of_length_le (by omega), Nat.sub_self]
        exact El.Rd.empty _ _ _ _⟩
    · exact ⟨some ⟨b, o + k * 2, none⟩, fun W => by go_simp, fun F W xs hr => by
        have hl := hr.len
        exact hr.drop k (by omega) (c - k) (by omega)⟩
theorem lns_to (a : Option Addr) (n c k : Nat) (hk : k ≤ n) (hc : n ≤ c) (hs : ∀ x, a = some x → x.spot = none) : (∀ W, (Instr.sliceAt 39 (.slice a n c) none (some (.int .i64 (k : Int))) none).run Tryd.prog W = .ok (.slice a k c) W) ∧
    ∀ (F : Nat → Prop) (W : World) (xs : List Ln), lnEl.Rd F W (.slice a n c) xs → lnEl.Rd F W (.slice a k c) (xs.take k) := by
  have hck : ¬ c < k := by omega
  have hrd : ∀ (F : Nat → Prop) (W : World) (xs : List Ln), lnEl.Rd F W (.slice a n c) xs → lnEl.Rd F W (.slice a k c) (xs.take k) := fun F W xs hr => by
    have hl := hr.len
    exact hr.take k (by omega) c (by omega)
  cases a with
  | none => exact ⟨fun W => by go_simp, hrd⟩
  | some x =>
    obtain ⟨b, o, sp⟩ := x
    have := hs _ rfl
    simp only at this
    subst this
    exact ⟨fun W => by go_simp, hrd⟩
theorem rd_spot {F : Nat → Prop} {W : World} {a : Option Addr} {n c : Nat} {ls : List Ln} (h : lnEl.Rd F W (.slice a n c) ls) (h0 : ls ≠ []) : (∀ x, a = some x → x.spot = none) ∧ a ≠ none := by
  obtain ⟨ao, cap, e, _, hh⟩ := h
  cases e
  obtain ⟨b, o, e, _⟩ := hh h0
  subst e
  exact ⟨fun x hx => by cases hx; rfl, by simp⟩
theorem exec_fromL {P : Program} {ρ : Operand → Value} {o : Oper} {t : TypeId} {x lo : Operand} {a b v : Value} {W W' : World} (ho : o.op = .slice t x (some lo) none none) (hx : ρ x = a) (hlo : ρ lo = b)
    (h : (Instr.sliceAt t a (some b) none none).run P W = .ok v W') : (execOp ρ o).run P W = .ok (.value v) W' := by
  unfold execOp
  rw [ho]
  simp only [hx, hlo, Option.map_some, Option.map_none, Sem.run_bind, h, Result.andThen_ok]
  rfl
theorem exec_toL {P : Program} {ρ : Operand → Value} {o : Oper} {t : TypeId} {x hi : Operand} {a b v : Value} {W W' : World} (ho : o.op = .slice t x none (some hi) none) (hx : ρ x = a) (hhi : ρ hi = b)
    (h : (Instr.sliceAt t a none (some b) none).run P W = .ok v W') : (execOp ρ o).run P W = .ok (.value v) W' := by
  unfold execOp
  rw [ho]
  simp only [hx, hhi, Option.map_some, Option.map_none, Sem.run_bind, h, Result.andThen_ok]
  rfl
theorem exec_build3 {P : Program} {ρ : Operand → Value} {o : Oper} {t : TypeId} {x y z : Operand} {a b c v : Value} {W W' : World} (ho : o.op = .build t #[(0, x), (1, y), (2, z)]) (hx : ρ x = a) (hy : ρ y = b) (hz : ρ z = c) (h : (Instr.build t #[(0, a), (1, b), (2, c)]).run P W = .ok v W') : (execOp ρ o).run P W = .ok (.value v) W' := by
  unfold execOp
  rw [ho]
  simp only [List.map_toArray, List.map_cons, List.map_nil, hx, hy, hz, Sem.run_bind, h, Result.andThen_ok]
  rfl

set_option maxRecDepth 100000 in
set_option maxHeartbeats 1000000 in
theorem refDrop_range (p g : Int) (a : Option Addr) (n c : Nat) (i : Int) (w : World) (hi : i < 0 ∨ (n : Int) < i) :
    Calls Tryd.prog 66 #[.agg #[.int .i64 p, .int .i64 g, .slice a n c], .int .i64 i] w fun e w' => e = .returned (.tuple #[.agg #[.int .i64 p, .int .i64 g, .slice a n c], .int .i64 3]) ∧ Sees w w' := by
  have hw := Sees.refl w
  by_cases h0 : i < 0
  · have d1 : decide (i < 0) = true := decide_eq_true h0
    clear hi
    go_enter Tryd.func66, Tryd.ntmps66
    go_wp2
    exact bodyPost_ret_by (v := .tuple #[.agg #[.int .i64 p, .int .i64 g, .slice a n c], .int .i64 3]) (by simp [results, Tryd.results66, go_sem]) rfl ⟨rfl, by repeat (first | exact hw | refine Sees.setCell ?_ (by first | exact Nat.le_refl _ | exact Nat.le_succ _ | (simp; done) | (simp; omega)) _ | refine Sees.alloc ?_ _ | refine Sees.drew ?_)⟩
  · have h1 : (n : Int) < i := by omega
    have d1 : decide (i < 0) = false := decide_eq_false h0
    have d2 : decide (i > (n : Int)) = true := decide_eq_true h1
    clear hi
    go_enter Tryd.func66, Tryd.ntmps66
    go_wp2
    exact bodyPost_ret_by (v := .tuple #[.agg #[.int .i64 p, .int .i64 g, .slice a n c], .int .i64 3]) (by simp [results, Tryd.results66, go_sem]) rfl ⟨rfl, by repeat (first | exact hw | refine Sees.setCell ?_ (by first | exact Nat.le_refl _ | exact Nat.le_succ _ | (simp; done) | (simp; omega)) _ | refine Sees.alloc ?_ _ | refine Sees.drew ?_)⟩
set_option maxRecDepth 100000 in
set_option maxHeartbeats 4000000 in
theorem refDrop_ok (G : Nat → Prop) (p g : Int) (v : Value) (ls : List Ln) (k : Nat) (w : World) (hk : k ≤ ls.length) (hln : ls.length ≤ 1024) (h0 : 0 ≤ g) (h1 : g ≤ 1024) (hv : lnEl.Rd G w v ls) :
    Calls Tryd.prog 66 #[.agg #[.int .i64 p, .int .i64 g, v], .int .i64 (k : Int)] w fun e w' => ∃ v', e = .returned (.tuple #[.agg #[.int .i64 p, .int .i64 (g + k), v'], .int .i64 0]) ∧ lnEl.Rd (fun b => (G b ∧ b < w.heap.size) ∨ w.heap.size ≤ b) w' v' (ls.drop k) ∧ Sees w w' := by
  have Hv := Lib.hid (hv.mono (G := fun b => G b ∧ b < w.heap.size) (fun b hb h => ⟨h, hb⟩))
  obtain ⟨a, c, rfl, hvx⟩ := hv.slice'
  obtain ⟨n, hnl⟩ : ∃ n, n = ls.length := ⟨_, rfl⟩
  have HSL : Hid (∃ a', (∀ W, (Instr.sliceAt 39 (.slice a n c) (some (.int .i64 (k : Int))) none none).run Tryd.prog W = .ok a' W) ∧ (∀ (F : Nat → Prop) (W : World), lnEl.Rd F W (.slice a n c) ls → lnEl.Rd F W a' (ls.drop k)) ∧ ∃ a2 c2, a' = .slice a2 (n - k) c2) := by
    rw [← hnl] at hvx hk
    by_cases hls : ls = []
    · subst hls
      obtain rfl : n = 0 := hnl
      obtain rfl : k = 0 := by omega
      cases a with
      | none => exact Lib.hid ⟨.slice none 0 c, fun W => by go_simp, fun F W _ => El.Rd.empty _ _ _ _, _, _, rfl⟩
      | some x =>
        by_cases hc0 : c = 0
        · subst hc0
          exact Lib.hid ⟨.slice (some x) 0 0, fun W => by go_simp, fun F W _ => El.Rd.empty _ _ _ _, _, _, rfl⟩
        · exact Lib.hid ⟨.slice (some (x.add 0)) 0 c, fun W => by go_simp, fun F W _ => El.Rd.empty _ _ _ _, _, _, rfl⟩
    · obtain ⟨hsp, hne⟩ := rd_spot hv hls
      obtain ⟨a', h1, h2⟩ := lns_from a n c k hk hvx hsp (fun h => absurd h hne)
      exact Lib.hid ⟨_, h1, fun F W h => h2 F W ls h, _, _, rfl⟩
  rw [← hnl] at Hv hk hln ⊢
  have Hnl := Lib.hid hnl
  clear hnl hvx hv
  have hkn : ¬ ((n : Int) < k) := by omega
  have hk0 : ¬ ((k : Int) < 0) := by omega
  have d1 : decide ((k : Int) < 0) = false := decide_eq_false hk0
  have d2 : decide ((k : Int) > (n : Int)) = false := decide_eq_false hkn
  have hgk : IntKind.i64.wrap (g + (k : Int)) = g + (k : Int) := IntWalk.i64_in _ (by omega)
  go_enter Tryd.func66, Tryd.ntmps66
  go_wp2_with fail
  refine wp_world (fun w1 hw1 => ?_)
  have A0 : RsAt w1 w.heap.size p g (.slice a n c) := by subst hw1; exact (RsAt.new rfl).alloc _
  have A2 : RsAt w1 (w.heap.size + 1) 0 0 (.slice none 0 0) := by subst hw1; exact RsAt.new (by simp)
  have hs1 : Sees w w1 := by subst hw1; exact ((Sees.refl w).alloc _).alloc _
  have hdx : w.heap.size ≠ w.heap.size + 1 := by omega
  clear hw1
  obtain ⟨v9, h9, h9r, a9, c9, e9⟩ := HSL.out
  subst e9
  have H9 := Lib.hid h9
  have H9r := Lib.hid h9r
  have hlen : (ls.drop k).length = n - k := by rw [List.length_drop, ← Hnl.out]
  have Hlen := Lib.hid hlen
  clear h9 h9r HSL hlen
  refine wpH_go (fun b => b = w.heap.size + 1) 14 (by kernel_rfl) (by kernel_rfl) (by rfl) (fun hB w4 hs4 => ?_)
  have S4 := Lib.hid (hs1.trans hs4)
  have D0 := Lib.hid (A0.sees hs4)
  have D2 := Lib.hid (A2.sees hs4)
  have HV4 := Lib.hid (H9r.out _ _ (Hv.out.sees S4.out))
  clear A0 A2 hs4 hs1
  have hS0 : Keeps (fun b => b = w.heap.size + 1) w4 w4 := Keeps.refl _ w4
  refine wpH_take (i := 0) (v := .pointer (some ⟨w.heap.size, 0, none⟩)) hB (by rfl) (by kernel_rfl) (fun _ _ _ _ _ h => h) (by rfl) hS0 (fun W hI => by clear hI; go_simp) ?_; (try simp only [Act.put, List.setIfInBounds_toArray, List.set_cons_zero, List.set_cons_succ])
  refine wpH_take (i := 1) (v := .int .i64 p) hB (by rfl) (by kernel_rfl) (fun _ _ _ _ _ h => h) (by rfl) hS0 (fun W hI => by have q := (D0.out.keeps hI hdx).c; obtain ⟨q0, q1, q2⟩ := q; go_simp) ?_; (try simp only [Act.put, List.setIfInBounds_toArray, List.set_cons_zero, List.set_cons_succ])
  refine wpH_take (i := 2) (v := .pointer (some ⟨w.heap.size, 1, none⟩)) hB (by rfl) (by kernel_rfl) (fun _ _ _ _ _ h => h) (by rfl) hS0 (fun W hI => by clear hI; go_simp) ?_; (try simp only [Act.put, List.setIfInBounds_toArray, List.set_cons_zero, List.set_cons_succ])
  refine wpH_take (i := 3) (v := .int .i64 g) hB (by rfl) (by kernel_rfl) (fun _ _ _ _ _ h => h) (by rfl) hS0 (fun W hI => by have q := (D0.out.keeps hI hdx).c; obtain ⟨q0, q1, q2⟩ := q; go_simp) ?_; (try simp only [Act.put, List.setIfInBounds_toArray, List.set_cons_zero, List.set_cons_succ])
  refine wpH_take (i := 4) (v := .int .i64 (k : Int)) hB (by rfl) (by kernel_rfl) (fun _ _ _ _ _ h => h) (by rfl) hS0 (fun W hI => by clear hI; go_simp) ?_; (try simp only [Act.put, List.setIfInBounds_toArray, List.set_cons_zero, List.set_cons_succ])
  refine wpH_take (i := 5) (v := .int .i64 (g + (k : Int))) hB (by rfl) (by kernel_rfl) (fun _ _ _ _ _ h => h) (by rfl) hS0 (fun W hI => by clear hI; go_simp) ?_; (try simp only [Act.put, List.setIfInBounds_toArray, List.set_cons_zero, List.set_cons_succ])
  refine wpH_take (i := 6) (v := .pointer (some ⟨w.heap.size, 2, none⟩)) hB (by rfl) (by kernel_rfl) (fun _ _ _ _ _ h => h) (by rfl) hS0 (fun W hI => by clear hI; go_simp) ?_; (try simp only [Act.put, List.setIfInBounds_toArray, List.set_cons_zero, List.set_cons_succ])
  refine wpH_take (i := 7) (v := .slice a n c) hB (by rfl) (by kernel_rfl) (fun _ _ _ _ _ h => h) (by rfl) hS0 (fun W hI => by have q := (D0.out.keeps hI hdx).c; obtain ⟨q0, q1, q2⟩ := q; go_simp) ?_; (try simp only [Act.put, List.setIfInBounds_toArray, List.set_cons_zero, List.set_cons_succ])
  refine wpH_take (i := 8) (v := .int .i64 (k : Int)) hB (by rfl) (by kernel_rfl) (fun _ _ _ _ _ h => h) (by rfl) hS0 (fun W hI => by clear hI; go_simp) ?_; (try simp only [Act.put, List.setIfInBounds_toArray, List.set_cons_zero, List.set_cons_succ])
  refine wpH_take (i := 9) (v := .slice a9 (n - k) c9) hB (by rfl) (by kernel_rfl) (fun _ _ _ _ _ h => h) (by rfl) hS0 (fun W hI => exec_fromL rfl (by go_simp) (by go_simp) (H9.out W)) ?_; (try simp only [Act.put, List.setIfInBounds_toArray, List.set_cons_zero, List.set_cons_succ])
  have KA := Lib.hid (fun W (hI : Sees w4 W) => El.run_append_nil typedLn 39 (.slice a9 (n - k) c9) (ls.drop k) (HV4.out.sees hI) (by rw [Hlen.out]; omega))
  obtain ⟨v1, W8, hr1, hrow1, hs8⟩ := KA.out w4 (Sees.refl w4)
  refine wpH_one (i := 10) (by kernel_rfl) (wpOp_val (by rfl) (wanted_none (by rfl) _) (exec_append (v := .slice none 0 0) (u := .slice a9 (n - k) c9) rfl (by go_simp) (by go_simp) hr1) ⟨Keeps.of_sees hs8, ?_⟩)
  obtain ⟨a7, c7, hv7, hx7⟩ := hrow1.slice
  rw [Hlen.out] at hv7
  subst hv7
  have R8 := Lib.hid (hrow1.rd (F := fun b => (G b ∧ b < w.heap.size) ∨ w4.heap.size ≤ b) (fun b hb h => by
    rcases h with h | h
    · exact .inl h
    · exact .inr (by omega)))
  have HS8 := Lib.hid hs8
  have HD2 := Lib.hid D2.out.lt
  clear hr1 hrow1 hs8 hx7 KA
  (try simp only [Act.put, List.setIfInBounds_toArray, List.set_cons_zero, List.set_cons_succ])
  have D8 := D2.out.sees HS8.out
  obtain ⟨y0, y1, y2⟩ := D8.c
  have fy := D8.fr
  clear D8
  refine wpH_one (i := 11) (by kernel_rfl) (wpOp_val (v := .agg #[.int .i64 p, .int .i64 (g + (k : Int)), .slice a7 (n - k) c7]) (w' := W8) (by rfl) (wanted_none (by rfl) _) (exec_build3 (a := .int .i64 p) (b := .int .i64 (g + (k : Int))) (c := .slice a7 (n - k) c7) rfl (by go_simp) (by go_simp) (by go_simp) (by go_simp)) ⟨Keeps.of_sees HS8.out, ?_⟩)
  (try simp only [Act.put, List.setIfInBounds_toArray, List.set_cons_zero, List.set_cons_succ])
  obtain ⟨w9, hw9⟩ : ∃ w9, w9 = W8.setRow (w.heap.size + 1) #[.int .i64 p, .int .i64 (g + (k : Int)), .slice a7 (n - k) c7] := ⟨_, rfl⟩
  have hst9 : (Instr.storeAt 50 (.pointer (some ⟨w.heap.size + 1, 0, none⟩)) (.agg #[.int .i64 p, .int .i64 (g + (k : Int)), .slice a7 (n - k) c7])).run Tryd.prog W8 = .ok () w9 := by
    rw [hw9]
    exact run_storeAt_row (P := Tryd.prog) (W := W8) 50 (w.heap.size + 1) _ 50 [.int .i64 p, .int .i64 (g + (k : Int)), .slice a7 (n - k) c7] (fun _ => by kernel_rfl) (D2.out.sees HS8.out) rfl (by intro v hv; simp only [List.mem_cons, List.not_mem_nil, or_false] at hv; rcases hv with rfl | rfl | rfl <;> rfl)
  have hk9 : Keeps (fun b => b = w.heap.size + 1) W8 w9 := by rw [hw9]; exact ⟨rfl, rfl, rfl, by simp [World.setRow], fun b hb hne => setRow_other W8 _ b _ hne⟩
  have D9 : RsAt w9 (w.heap.size + 1) p (g + (k : Int)) (.slice a7 (n - k) c7) := by rw [hw9]; exact setRow_heap _ _ _ _ _ (0, 0) (D2.out.sees HS8.out)
  have Hst9 := Lib.hid hst9
  have Hk9 := Lib.hid hk9
  have HD9 := Lib.hid D9
  have HK9 := Lib.hid ((Keeps.of_sees (F := fun b => b = w.heap.size + 1) HS8.out).trans hk9)
  clear hw9 hst9 hk9 D9 y0 y1 y2 fy
  refine wpH_one (i := 12) (by kernel_rfl) (wpOp_skip (w' := w9) (by rfl) (wanted_none (by rfl) _) (exec_store (a := .pointer (some ⟨w.heap.size + 1, 0, none⟩)) (v := .agg #[.int .i64 p, .int .i64 (g + (k : Int)), .slice a7 (n - k) c7]) rfl (by go_simp) (by go_simp) Hst9.out) ⟨HK9.out, ?_⟩)
  (try simp only [Act.put, List.setIfInBounds_toArray, List.set_cons_zero, List.set_cons_succ])
  refine wpH_one (i := 13) (by kernel_rfl) (wpOp_val (v := .int .i64 0) (w' := w9) (by rfl) (wanted_none (by rfl) _) (by go_simp) ⟨HK9.out, ?_⟩)
  (try simp only [Act.put, List.setIfInBounds_toArray, List.set_cons_zero, List.set_cons_succ])
  refine wpH_end (by kernel_rfl) ?_
  go_wp2
  obtain ⟨y0, y1, y2⟩ := HD9.out.c
  have hS9 : Sees w w9 := ((Keeps.of_sees (F := fun _ => False) (S4.out.trans HS8.out)).trans' Hk9.out (fun b hb e => by have e : b = w.heap.size + 1 := e; omega)).sees_end (fun _ _ h => h)
  refine bodyPost_ret_by (v := .tuple #[.agg #[.int .i64 p, .int .i64 (g + (k : Int)), .slice a7 (n - k) c7], .int .i64 0]) (by simp [results, Tryd.results66, go_sem, y0, y1, y2]) rfl ⟨_, rfl, ?_, hS9⟩
  exact (R8.out.keeps Hk9.out (fun b hb e => by
    have e : b = w.heap.size + 1 := e
    have := HD2.out
    rcases hb with h | h
    · have := h.2; omega
    · omega)).mono (fun b _ h => by
    have := HD2.out
    rcases h with h | h
    · exact .inl h
    · exact .inr (by omega))
end Go.Proofs.YtfeoejpbmpdkaaaDoor

namespace Go.Proofs.YtfeoejpbmpdkaaaDoor
set_option linter.unusedVariables false
set_option linter.unusedSimpArgs false
open Go.RowKit

set_option maxRecDepth 100000 in
set_option maxHeartbeats 1000000 in
theorem refPop_none (p g : Int) (a : Option Addr) (c : Nat) (w : World) :
    Calls Tryd.prog 67 #[.agg #[.int .i64 p, .int .i64 g, .slice a 0 c]] w fun e w' => e = .returned (.tuple #[.agg #[.int .i64 p, .int .i64 g, .slice a 0 c], .agg #[.slice none 0 0, .bool false], .int .i64 9]) ∧ Sees w w' := by
  have hw := Sees.refl w
  go_enter Tryd.func67, Tryd.ntmps67
  go_wp2
  exact bodyPost_ret_by (v := .tuple #[.agg #[.int .i64 p, .int .i64 g, .slice a 0 c], .agg #[.slice none 0 0, .bool false], .int .i64 9]) (by simp [results, Tryd.results67, go_sem]) rfl ⟨rfl, by repeat (first | exact hw | refine Sees.setCell ?_ (by first | exact Nat.le_refl _ | exact Nat.le_succ _ | (simp; done) | (simp; omega)) _ | refine Sees.alloc ?_ _ | refine Sees.drew ?_)⟩
set_option maxRecDepth 100000 in
set_option maxHeartbeats 4000000 in
theorem refPop_ok (G : Nat → Prop) (p g : Int) (v : Value) (ls : List Ln) (w : World) (h0 : ls ≠ []) (hln : ls.length ≤ 1024) (hv : lnEl.Rd G w v ls) :
    Calls Tryd.prog 67 #[.agg #[.int .i64 p, .int .i64 g, v]] w fun e w' => ∃ v' u l, e = .returned (.tuple #[.agg #[.int .i64 p, .int .i64 g, v'], .agg #[u, .bool l.soft], .int .i64 0]) ∧ ls[ls.length - 1]? = some l ∧ lnEl.Rd (fun b => (G b ∧ b < w.heap.size) ∨ w.heap.size ≤ b) w' v' ls.dropLast ∧ cellEl.Rd (fun b => G b ∧ b < w.heap.size) w' u l.cells ∧ Sees w w' := by
  have Hv := Lib.hid (hv.mono (G := fun b => G b ∧ b < w.heap.size) (fun b hb h => ⟨h, hb⟩))
  obtain ⟨a, c, rfl, hvx⟩ := hv.slice'
  obtain ⟨hsp, _⟩ := rd_spot hv h0
  have hpos : 0 < ls.length := List.length_pos_iff.2 h0
  obtain ⟨n, hnl⟩ : ∃ n, n = ls.length := ⟨_, rfl⟩
  have HX := Lib.hid (lns_to a n c (n - 1) (by omega) (by omega) hsp)
  obtain ⟨bL, oL, l, la, lc, e, hbG, hll, hlx, -, -, -⟩ := (Hv.out).line (k := n - 1) (by omega)
  subst e
  have HL := Lib.hid (fun W (h : lnEl.Rd (fun b => G b ∧ b < w.heap.size) W (.slice (some ⟨bL, oL, none⟩) n c) ls) => h.line (k := n - 1) (by omega))
  rw [← hnl] at Hv hln hpos ⊢
  have Hnl := Lib.hid hnl
  clear hnl hvx hv hsp
  have hn0 : ((n : Int) == 0) = false := beq_eq_false_iff_ne.2 (by omega)
  have hn1 : IntKind.i64.wrap ((n : Int) - 1) = ((n - 1 : Nat) : Int) := by rw [IntWalk.i64_in _ (by omega)]; omega
  have hlt : ((n - 1 : Nat) : Int) < (n : Int) := by omega
  have hge : (0 : Int) ≤ ((n - 1 : Nat) : Int) := by omega
  go_enter Tryd.func67, Tryd.ntmps67
  go_wp2_with fail
  refine wp_world (fun w1 hw1 => ?_)
  have A0 : RsAt w1 w.heap.size p g (.slice (some ⟨bL, oL, none⟩) n c) := by subst hw1; exact ((RsAt.new rfl).alloc _).alloc _
  have A2 : RsAt w1 (w.heap.size + 1) 0 0 (.slice none 0 0) := by subst hw1; exact (RsAt.new (by simp)).alloc _
  have A3 : LnAt w1 (w.heap.size + 1 + 1) (.slice none 0 0) false := by subst hw1; exact LnAt.new (by simp)
  have hs1 : Sees w w1 := by subst hw1; exact (((Sees.refl w).alloc _).alloc _).alloc _
  obtain ⟨F, hF⟩ : ∃ F : Nat → Prop, F = fun b => b = w.heap.size + 1 ∨ b = w.heap.size + 1 + 1 := ⟨_, rfl⟩
  have hdx : ¬ F w.heap.size := by rw [hF]; omega
  have hFG : ∀ b, (G b ∧ b < w.heap.size) → ¬ F b := by rw [hF]; intro b h e; have := h.2; omega
  clear hw1
  refine wpH_go F 17 (by kernel_rfl) (by kernel_rfl) (by rfl) (fun hB w4 hs4 => ?_)
  have S4 := Lib.hid (hs1.trans hs4)
  have D0 := Lib.hid (A0.sees hs4)
  have D2 := Lib.hid (A2.sees hs4)
  have D3 := Lib.hid (A3.sees hs4)
  have HV4 := Lib.hid (Hv.out.sees S4.out)
  clear A0 A2 A3 hs4 hs1
  obtain ⟨bL', oL', l', la', lc', e, hbG', hll', hlx', hz0, hz1, hz2⟩ := HL.out w4 HV4.out
  cases e
  have e := hll'
  rw [hll] at e
  cases e
  have HZ0 := Lib.hid hz0
  have HZ1 := Lib.hid hz1
  have HZ2 := Lib.hid hz2
  have HG := Lib.hid hbG
  have Hll := Lib.hid hll
  clear hz0 hz1 hz2 hbG hbG' hll hll' hlx hlx'
  have hS0 : Keeps F w4 w4 := Keeps.refl _ w4
  have HQ := Lib.hid (fun W (hI : Keeps F w4 W) => (show W.cell? ⟨bL, oL + (n - 1) * 2, none⟩ = some (.slice la' l.cells.length lc') ∧ W.cell? ⟨bL, oL + (n - 1) * 2 + 1, none⟩ = some (.bool l.soft) from ⟨hI.cell (hFG _ HG.out) HZ0.out, hI.cell (hFG _ HG.out) HZ1.out⟩))
  refine wpH_take (i := 0) (v := .agg #[.int .i64 p, .int .i64 g, .slice (some ⟨bL, oL, none⟩) n c]) hB (by rfl) (by kernel_rfl) (fun _ _ _ _ _ h => h) (by rfl) hS0 (fun W hI => by have q := (D0.out.keeps hI hdx).c; obtain ⟨q0, q1, q2⟩ := q; go_simp) ?_; (try simp only [Act.put, List.setIfInBounds_toArray, List.set_cons_zero, List.set_cons_succ])
  refine wpH_take (i := 1) (v := .pointer (some ⟨w.heap.size, 2, none⟩)) hB (by rfl) (by kernel_rfl) (fun _ _ _ _ _ h => h) (by rfl) hS0 (fun W hI => by clear hI; go_simp) ?_; (try simp only [Act.put, List.setIfInBounds_toArray, List.set_cons_zero, List.set_cons_succ])
  refine wpH_take (i := 2) (v := .slice (some ⟨bL, oL, none⟩) n c) hB (by rfl) (by kernel_rfl) (fun _ _ _ _ _ h => h) (by rfl) hS0 (fun W hI => by have q := (D0.out.keeps hI hdx).c; obtain ⟨q0, q1, q2⟩ := q; go_simp) ?_; (try simp only [Act.put, List.setIfInBounds_toArray, List.set_cons_zero, List.set_cons_succ])
  refine wpH_take (i := 3) (v := .int .i64 (n : Int)) hB (by rfl) (by kernel_rfl) (fun _ _ _ _ _ h => h) (by rfl) hS0 (fun W hI => by clear hI; go_simp) ?_; (try simp only [Act.put, List.setIfInBounds_toArray, List.set_cons_zero, List.set_cons_succ])
  refine wpH_take (i := 4) (v := .int .i64 ((n - 1 : Nat) : Int)) hB (by rfl) (by kernel_rfl) (fun _ _ _ _ _ h => h) (by rfl) hS0 (fun W hI => by clear hI; go_simp) ?_; (try simp only [Act.put, List.setIfInBounds_toArray, List.set_cons_zero, List.set_cons_succ])
  refine wpH_take (i := 5) (v := .slice (some ⟨bL, oL, none⟩) (n - 1) c) hB (by rfl) (by kernel_rfl) (fun _ _ _ _ _ h => h) (by rfl) hS0 (fun W hI => exec_toL rfl (by go_simp) (by go_simp) (HX.out.1 W)) ?_; (try simp only [Act.put, List.setIfInBounds_toArray, List.set_cons_zero, List.set_cons_succ])
  refine wpH_take (i := 8) (v := .pointer (some ⟨w.heap.size, 2, none⟩)) hB (by rfl) (by kernel_rfl) (fun _ _ _ _ _ h => h) (by rfl) hS0 (fun W hI => by clear hI; go_simp) ?_; (try simp only [Act.put, List.setIfInBounds_toArray, List.set_cons_zero, List.set_cons_succ])
  refine wpH_take (i := 9) (v := .slice (some ⟨bL, oL, none⟩) n c) hB (by rfl) (by kernel_rfl) (fun _ _ _ _ _ h => h) (by rfl) hS0 (fun W hI => by have q := (D0.out.keeps hI hdx).c; obtain ⟨q0, q1, q2⟩ := q; go_simp) ?_; (try simp only [Act.put, List.setIfInBounds_toArray, List.set_cons_zero, List.set_cons_succ])
  refine wpH_take (i := 10) (v := .int .i64 (n : Int)) hB (by rfl) (by kernel_rfl) (fun _ _ _ _ _ h => h) (by rfl) hS0 (fun W hI => by clear hI; go_simp) ?_; (try simp only [Act.put, List.setIfInBounds_toArray, List.set_cons_zero, List.set_cons_succ])
  refine wpH_take (i := 11) (v := .int .i64 ((n - 1 : Nat) : Int)) hB (by rfl) (by kernel_rfl) (fun _ _ _ _ _ h => h) (by rfl) hS0 (fun W hI => by clear hI; go_simp) ?_; (try simp only [Act.put, List.setIfInBounds_toArray, List.set_cons_zero, List.set_cons_succ])
  refine wpH_take (i := 12) (v := .pointer (some ⟨bL, oL + (n - 1) * 2, none⟩)) hB (by rfl) (by kernel_rfl) (fun _ _ _ _ _ h => h) (by rfl) hS0 (fun W hI => by clear hI; go_simp) ?_; (try simp only [Act.put, List.setIfInBounds_toArray, List.set_cons_zero, List.set_cons_succ])
  refine wpH_take (i := 13) (v := .agg #[.slice la' l.cells.length lc', .bool l.soft]) hB (by rfl) (by kernel_rfl) (fun _ _ _ _ _ h => h) (by rfl) hS0 (fun W hI => by have q := HQ.out W hI; obtain ⟨q0, q1⟩ := q; go_simp) ?_; (try simp only [Act.put, List.setIfInBounds_toArray, List.set_cons_zero, List.set_cons_succ])
  have hzz := S4.out.size
  obtain ⟨v1, W7, hr1, hrow1, hs7⟩ := El.run_append_nil (W := w4) typedLn 39 (.slice (some ⟨bL, oL, none⟩) (n - 1) c) (ls.take (n - 1)) (HX.out.2 _ _ _ HV4.out) (by rw [List.length_take]; omega)
  refine wpH_one (i := 6) (by kernel_rfl) (wpOp_val (by rfl) (wanted_none (by rfl) _) (exec_append (v := .slice none 0 0) (u := .slice (some ⟨bL, oL, none⟩) (n - 1) c) rfl (by go_simp) (by go_simp) hr1) ⟨Keeps.of_sees hs7, ?_⟩)
  obtain ⟨a7, c7, hv7, hx7⟩ := hrow1.slice
  rw [show (ls.take (n - 1)).length = n - 1 by rw [List.length_take, ← Hnl.out]; omega] at hv7
  subst hv7
  have R7 := Lib.hid (hrow1.rd (F := fun b => (G b ∧ b < w.heap.size) ∨ w4.heap.size ≤ b) (fun b hb h => by
    rcases h with h | h
    · exact .inl h
    · exact .inr (by omega)))
  clear hr1 hrow1 hx7
  (try simp only [Act.put, List.setIfInBounds_toArray, List.set_cons_zero, List.set_cons_succ])
  refine wpH_one (i := 7) (by kernel_rfl) (wpOp_enter (fn := 84) (args := #[.agg #[.int .i64 p, .int .i64 g, .slice (some ⟨bL, oL, none⟩) n c], .slice a7 (n - 1) c7]) (by rfl) (by rfl) (by go_simp) ((with_any p g (some ⟨bL, oL, none⟩) a7 n c (n - 1) c7 W7).mono ?_))
  rintro e W8 ⟨rfl, hs8⟩
  have HS8 := Lib.hid (hs7.trans hs8)
  have R8 := Lib.hid (R7.out.sees hs8)
  refine ⟨_, rfl, Keeps.of_sees HS8.out, ?_⟩
  (try simp only [Act.put, List.setIfInBounds_toArray, List.set_cons_zero, List.set_cons_succ])
  have E2 := Lib.hid (D2.out.sees HS8.out)
  have E3 := Lib.hid (D3.out.sees HS8.out)
  have Hlt3 := Lib.hid D3.out.lt
  clear hs7 hs8 R7 hzz
  obtain ⟨w9, hw9⟩ : ∃ w9, w9 = W8.setRow (w.heap.size + 1) #[.int .i64 p, .int .i64 g, .slice a7 (n - 1) c7] := ⟨_, rfl⟩
  have Hst9 := Lib.hid (show (Instr.storeAt 50 (.pointer (some ⟨w.heap.size + 1, 0, none⟩)) (.agg #[.int .i64 p, .int .i64 g, .slice a7 (n - 1) c7])).run Tryd.prog W8 = .ok () w9 by
    rw [hw9]
    exact run_storeAt_row (P := Tryd.prog) (W := W8) 50 (w.heap.size + 1) _ 50 [.int .i64 p, .int .i64 g, .slice a7 (n - 1) c7] (fun _ => by kernel_rfl) E2.out rfl (by intro v hv; simp only [List.mem_cons, List.not_mem_nil, or_false] at hv; rcases hv with rfl | rfl | rfl <;> rfl))
  have Hk9 := Lib.hid (show Keeps F W8 w9 by rw [hw9]; exact ⟨rfl, rfl, rfl, by simp [World.setRow], fun b hb hne => setRow_other W8 _ b _ (fun e => hne (by rw [hF]; exact .inl e))⟩)
  have D9 := Lib.hid (show RsAt w9 (w.heap.size + 1) p g (.slice a7 (n - 1) c7) by rw [hw9]; exact setRow_heap _ _ _ _ _ (0, 0) E2.out)
  have G9 := Lib.hid (show LnAt w9 (w.heap.size + 1 + 1) (.slice none 0 0) false by rw [hw9]; unfold LnAt; rw [setRow_other W8 _ _ _ (by omega)]; exact E3.out)
  clear hw9
  refine wpH_one (i := 14) (by kernel_rfl) (wpOp_skip (w' := w9) (by rfl) (wanted_none (by rfl) _) (exec_store (a := .pointer (some ⟨w.heap.size + 1, 0, none⟩)) (v := .agg #[.int .i64 p, .int .i64 g, .slice a7 (n - 1) c7]) rfl (by go_simp) (by go_simp) Hst9.out) ⟨(Keeps.of_sees HS8.out).trans Hk9.out, ?_⟩)
  (try simp only [Act.put, List.setIfInBounds_toArray, List.set_cons_zero, List.set_cons_succ])
  obtain ⟨wA, hwA⟩ : ∃ wA, wA = w9.setRow (w.heap.size + 1 + 1) #[.slice la' l.cells.length lc', .bool l.soft] := ⟨_, rfl⟩
  have HstA := Lib.hid (show (Instr.storeAt 31 (.pointer (some ⟨w.heap.size + 1 + 1, 0, none⟩)) (.agg #[.slice la' l.cells.length lc', .bool l.soft])).run Tryd.prog w9 = .ok () wA by
    rw [hwA]
    exact run_storeAt_row (P := Tryd.prog) (W := w9) 31 (w.heap.size + 1 + 1) _ 31 [.slice la' l.cells.length lc', .bool l.soft] (fun _ => by kernel_rfl) G9.out rfl (by intro v hv; simp only [List.mem_cons, List.not_mem_nil, or_false] at hv; rcases hv with rfl | rfl <;> rfl))
  have HkA := Lib.hid (show Keeps F w9 wA by rw [hwA]; exact ⟨rfl, rfl, rfl, by simp [World.setRow], fun b hb hne => setRow_other w9 _ b _ (fun e => hne (by rw [hF]; exact .inr e))⟩)
  have DA := Lib.hid (show RsAt wA (w.heap.size + 1) p g (.slice a7 (n - 1) c7) by rw [hwA]; unfold RsAt; rw [setRow_other w9 _ _ _ (by omega)]; exact D9.out)
  have GA := Lib.hid (show LnAt wA (w.heap.size + 1 + 1) (.slice la' l.cells.length lc') l.soft by rw [hwA]; exact setRow_heap _ _ _ _ _ (0, 0) G9.out)
  clear hwA
  have HKA := Lib.hid (((Keeps.of_sees (F := F) HS8.out).trans Hk9.out).trans HkA.out)
  refine wpH_one (i := 15) (by kernel_rfl) (wpOp_skip (w' := wA) (by rfl) (wanted_none (by rfl) _) (exec_store (a := .pointer (some ⟨w.heap.size + 1 + 1, 0, none⟩)) (v := .agg #[.slice la' l.cells.length lc', .bool l.soft]) rfl (by go_simp) (by go_simp) HstA.out) ⟨HKA.out, ?_⟩)
  (try simp only [Act.put, List.setIfInBounds_toArray, List.set_cons_zero, List.set_cons_succ])
  refine wpH_one (i := 16) (by kernel_rfl) (wpOp_val (v := .int .i64 0) (w' := wA) (by rfl) (wanted_none (by rfl) _) (by go_simp) ⟨HKA.out, ?_⟩)
  (try simp only [Act.put, List.setIfInBounds_toArray, List.set_cons_zero, List.set_cons_succ])
  refine wpH_end (by kernel_rfl) ?_
  obtain ⟨y0, y1, y2⟩ := DA.out.c
  obtain ⟨x0, x1⟩ := GA.out.c
  go_wp2
  have hSA : Sees w wA := ((Keeps.of_sees (F := fun _ => False) S4.out).trans' HKA.out (fun b hb e => by rw [hF] at e; have e : b = w.heap.size + 1 ∨ b = w.heap.size + 1 + 1 := e; omega)).sees_end (fun _ _ h => h)
  refine bodyPost_ret_by (v := .tuple #[.agg #[.int .i64 p, .int .i64 g, .slice a7 (n - 1) c7], .agg #[.slice la' l.cells.length lc', .bool l.soft], .int .i64 0]) (by simp [results, Tryd.results67, go_sem, y0, y1, y2, x0, x1]) rfl ⟨_, _, l, rfl, Hll.out, ?_, ?_, hSA⟩
  · rw [List.dropLast_eq_take, ← Hnl.out]
    refine (R8.out.keeps (Hk9.out.trans HkA.out) (fun b hb e => ?_)).mono (fun b _ h => ?_)
    · have := Hlt3.out
      rw [hF] at e
      have e : b = w.heap.size + 1 ∨ b = w.heap.size + 1 + 1 := e
      rcases hb with h | h
      · have := h.2; omega
      · omega
    · have := Hlt3.out
      rcases h with h | h
      · exact .inl h
      · exact .inr (by omega)
  · exact HZ2.out.keeps HKA.out hFG
end Go.Proofs.YtfeoejpbmpdkaaaDoor
