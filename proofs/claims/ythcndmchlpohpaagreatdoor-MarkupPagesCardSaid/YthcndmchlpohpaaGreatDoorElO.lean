/- Slices of the call's own: made, appended to, stored into. Slices of structures that are made, as own data. No condition. -/
import Derived.Test.YthcndmchlpohpaaGreatDoorElT
import Derived.Test.YthcndmchlpohpaaGreatDoorSeq
import Derived.Laws.OwnMore
namespace Go.Proofs.YthcndmchlpohpaaGreatDoor
set_option linter.unusedVariables false
set_option linter.unusedSimpArgs false
open Go.RowKit

namespace El
variable {α : Type} {E : El α} {F G : Nat → Prop} {w W : World} {v : Value} {vs : List Value} {xs : List α}
section
variable {P : Program} {st : TypeId} {ops : Array Oper} {rest : List Oper} {o : Oper} {a : Act} {Q : Exit → Act → World → Prop}
theorem wpList_append_own (T : Typed P E st) (hgd : o.guard = none) (s x : Operand) (ho : o.op = .call { callee := .builtin .append, args := #[s, x], argTypes := #[st, st] }) (hs : a.eval s = v) (h : E.Own F W v xs)
    (ad : Addr) (m c : Nat) (hx : a.eval x = .slice (some ad) m c) (news : List Value) (ys : List α) (Fn : Nat → Prop) (hown : E.ownIn Fn W news ys) (hm : m = ys.length) (hnews : ∀ j u, news[j]? = some u → W.cell? (ad.add j) = some u)
    (hF : ∀ b, F b → b < W.heap.size) (hFn : ∀ b, Fn b → b < W.heap.size ∧ ¬ F b) (hn : xs.length + ys.length ≤ 100000000)
    (hQ : ∀ v' W', E.Own (fun b => F b ∨ Fn b ∨ W.heap.size ≤ b) W' v' (xs ++ ys) → Keeps (fun b => v.ownBlock = some b) W W' → wpList P ops Q rest (a.put o.dst v') W') : wpList P ops Q (o :: rest) a W := by
  obtain ⟨v', W', h1, h2, h3⟩ := run_append_own T o.type h ad m c news ys Fn hown hm hnews hF hFn hn
  exact wpList_val hgd (exec_append ho hs hx h1) fun K hK => hK _ _ (hQ v' W' h2 h3)
theorem wpList_append_row {base : Nat} (T : Typed P E st) (hgd : o.guard = none) (s x : Operand) (ho : o.op = .call { callee := .builtin .append, args := #[s, x], argTypes := #[st, st] }) (hs : a.eval s = v) (h : E.Row base G W v xs)
    (u : Value) (hx : a.eval x = u) (ys : List α) (hu : E.Rd G W u ys) (hG : ∀ b, G b → v.ownBlock ≠ some b) (hn : xs.length + ys.length ≤ 100000000) (hb : base ≤ W.heap.size)
    (hQ : ∀ v' W', E.Row base G W' v' (xs ++ ys) → Keeps (fun b => v.ownBlock = some b) W W' → (v'.ownBlock = v.ownBlock ∨ v'.ownBlock = some W.heap.size) → wpList P ops Q rest (a.put o.dst v') W') : wpList P ops Q (o :: rest) a W := by
  obtain ⟨v', W', h1, h2, h3, h4⟩ := run_append_row T o.type h u ys hu hG hn hb
  exact wpList_val hgd (exec_append ho hs hx h1) fun K hK => hK _ _ (hQ v' W' h2 h3 h4)
end
/-- A new block that holds one datum of its own. -/
theorem ownIn_one {x : α} (h : E.own F w vs x) : E.ownIn F w vs [x] := by
  have hl := E.len (E.own_rel h)
  refine ⟨F, fun _ => False, fun _ h => h, fun _ h => h.elim, fun _ _ h => h, ?_, ?_⟩
  · rw [List.take_of_length_le (by omega)]; exact h
  · show vs.drop E.n = []
    rw [List.drop_eq_nil_of_le (by omega)]
theorem row_cells {g : Nat} {cs : Array Value} {t : TypeId} (hg : w.heap[g]? = some (.cells cs t (0, 0))) (j : Nat) (u : Value) (hu : cs.toList[j]? = some u) : w.cell? ((⟨g, 0, none⟩ : Addr).add j) = some u := by
  rw [addr_add, Nat.zero_add, cell_of_row _ _ _ _ _ _ hg]; simpa using hu
/-- All that was there stays, if a row of the call's own is appended to. -/
theorem keep_new (hs : Sees w W) {W' : World} (h : Keeps (fun b => v.ownBlock = some b) W W') (hv : ∀ g, v.ownBlock = some g → w.heap.size ≤ g) : Sees w W' :=
  ((Keeps.of_sees (F := fun _ => False) hs).trans' h (fun b hb e => absurd (hv b e) (by omega))).sees_end (fun _ _ h => h)
end El

/-- A row of truths. -/
def BRow (W : World) (g : Nat) (out : List Bool) : Prop := W.heap[g]? = some (.cells (out.map Value.bool).toArray 4 (0, 0))
namespace BRow
variable {W W' : World} {g : Nat} {out : List Bool}
theorem sees (h : BRow W g out) (hs : Sees W W') : BRow W' g out := by unfold BRow; rw [hs.block _ (Array.getElem?_eq_some_iff.1 h).1]; exact h
theorem lt (h : BRow W g out) : g < W.heap.size := (Array.getElem?_eq_some_iff.1 h).1
theorem c (h : BRow W g out) {k : Nat} {b : Bool} (hb : out[k]? = some b) : W.cell? ⟨g, k, none⟩ = some (.bool b) := by
  rw [cell_of_row _ _ _ _ _ _ h]; simp [hb]
theorem fr (h : BRow W g out) (k : Nat) : W.frozen? ⟨g, k, none⟩ = false := frozen_of_row W g k _ _ h
theorem set (h : BRow W g out) (k : Nat) (b : Bool) : BRow (W.setCell ⟨g, k, none⟩ (.bool b)) g (out.set k b) := by
  unfold BRow
  rw [heap_setCell_same _ _ _ _ _ _ h]
  simp [List.map_set]
theorem new (n : Nat) {N : Nat} (hN : N = W.heap.size) : BRow (W.alloc (.cells (Array.replicate n (Value.bool false)) 4)) N (List.replicate n false) := by subst hN; unfold BRow; rw [heap_alloc_new W _]; simp
end BRow
end Go.Proofs.YthcndmchlpohpaaGreatDoor

namespace Go.Proofs.YthcndmchlpohpaaGreatDoor
set_option linter.unusedVariables false
set_option linter.unusedSimpArgs false
open Go.RowKit

theorem made_flat (z : List Value) (hz : 0 < z.length) (n : Nat) : (madeCells z.toArray (n * z.length)).toList = (List.replicate n z).flatten := by
  have hrep : ∀ (n i : Nat), i < n * z.length → (List.replicate n z).flatten[i]? = z[i % z.length]? := by
    intro n
    induction n with
    | zero => intro i hi; omega
    | succ n ih =>
      intro i hi
      rw [List.replicate_succ, List.flatten_cons]
      by_cases h1 : i < z.length
      · rw [List.getElem?_append_left h1, Nat.mod_eq_of_lt h1]
      · rw [List.getElem?_append_right (by omega), ih (i - z.length) (by rw [Nat.succ_mul] at hi; omega), ← Nat.mod_eq_sub_mod (by omega)]
  apply List.ext_getElem?
  intro i
  by_cases hi : i < n * z.length
  · rw [hrep n i hi]
    have hm := Nat.mod_lt i hz
    simp [madeCells, hi, hm, List.getElem?_eq_getElem hm]
  · rw [List.getElem?_eq_none (by simp [madeCells]; omega), List.getElem?_eq_none (by simp; omega)]
namespace El
variable {α : Type} {E : El α} {P : Program} {st : TypeId}
theorem ownIn_rep {x : α} {z : List Value} (hz : z.length = E.n) (h : ∀ F w, E.own F w z x) : ∀ (n : Nat) (F : Nat → Prop) (w : World), E.ownIn F w (List.replicate n z).flatten (List.replicate n x)
  | 0, F, w => rfl
  | n + 1, F, w => by
    rw [List.replicate_succ, List.flatten_cons, List.replicate_succ]
    exact ⟨fun _ => False, F, fun _ h => h.elim, fun _ h => h, fun _ h => h.elim, by rw [List.take_append_of_le_length (by omega), List.take_of_length_le (by omega)]; exact h _ _,
      by rw [List.drop_append_of_le_length (by omega), List.drop_eq_nil_of_le (by omega), List.nil_append]; exact ownIn_rep hz h n F w⟩
theorem run_make_own (z : List Value) (x : α) (hu : P.underlying st = some (.slice E.ty)) (hinfo : (P.info? E.ty).map (fun i => (i.zero, i.size)) = some (some (.agg z.toArray), E.n)) (hb : ∀ i, P.info? E.ty = some i → i.bytes ≤ 1024) (hz : z.length = E.n) (hzc : (Value.agg z.toArray).cells = z.toArray) (h : ∀ F w, E.own F w z x) (n : Nat) (hn : n ≤ 1000000) (W : World) :
    (Instr.makeSlice st (.int .i64 (n : Int)) (.int .i64 (n : Int))).run P W = .ok (.slice (some ⟨W.heap.size, 0, none⟩) n n) (W.alloc (.cells (List.replicate n z).flatten.toArray E.ty)) ∧
      E.Own (fun b => b = W.heap.size) (W.alloc (.cells (List.replicate n z).flatten.toArray E.ty)) (.slice (some ⟨W.heap.size, 0, none⟩) n n) (List.replicate n x) := by
  cases hi : P.info? E.ty with
  | none => rw [hi] at hinfo; cases hinfo
  | some i =>
    rw [hi] at hinfo
    simp only [Option.map_some, Option.some.injEq, Prod.mk.injEq] at hinfo
    have hn0 := E.n0
    have hby := hb i hi
    have hbb : (i.bytes : Int) * (n : Int) ≤ 281474976710656 := by
      have h1 : i.bytes * n ≤ 1024 * 1000000 := Nat.mul_le_mul hby hn
      have h2 : ((i.bytes * n : Nat) : Int) ≤ 281474976710656 := by omega
      rwa [Int.natCast_mul] at h2
    have hr := run_make (P := P) W st E.ty i (.agg z.toArray) hu hi hinfo.1 .i64 .i64 n n (by omega) (Int.le_refl _) hbb (by omega)
    have hc : madeCells z.toArray (n * E.n) = (List.replicate n z).flatten.toArray := Array.toList_inj.1 (by rw [← hz, made_flat z (by omega) n])
    rw [hzc, Int.toNat_natCast, hinfo.2, hc] at hr
    have hl : (List.replicate n z).flatten.length = n * E.n := by simp [hz]
    refine ⟨hr, (List.replicate n z).flatten, ⟨by rw [List.length_replicate]; exact hl, .inr ⟨W.heap.size, n, _, by rw [List.length_replicate], Nat.zero_le _, heap_alloc_new W _, by rw [List.length_replicate]; exact Nat.le_refl _, by unfold maxLen; omega, by rw [List.size_toArray]; exact hl, ?_⟩⟩, fun g hg => by cases hg; rfl, ownIn_rep hz h n _ _⟩
    rw [List.length_replicate, ← hl]; exact List.take_of_length_le (Nat.le_refl _)
end El
end Go.Proofs.YthcndmchlpohpaaGreatDoor
