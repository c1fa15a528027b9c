/- search.All (42). The tables hold what the program's text lays. search.before and found (42): where a place is. The tables hold what the program's text lays. No condition. -/
import Derived.Test.YtooiiefipdjbjaaDoorSrI
namespace Go.Proofs.YtooiiefipdjbjaaDoor
set_option linter.unusedVariables false
set_option linter.unusedSimpArgs false
open Go.RowKit Go.Shelf
attribute [local go_sem] Oper.semAt_some

theorem El.wpListIn_append_own {α : Type} {E : El α} {st : TypeId} {Fe : Fence} {n : Nat} {F : Nat → Prop} {W : World} {v : Value} {xs : List α} {ops : Array Oper} {rest : List Oper} {o : Oper} {a : Act} {Q : Exit → Act → World → Prop} (T : El.Typed Tryd.prog E st) (hgd : o.guard = none) (s x : Operand) (ho : o.op = .call { callee := .builtin .append, args := #[s, x], argTypes := #[st, st] }) (hs : a.eval s = v) (h : E.Own F W v xs)
    (ad : Addr) (m c : Nat) (hx : a.eval x = .slice (some ad) m c) (news : List Value) (ys : List α) (Fn : Nat → Prop) (hown : E.ownIn Fn W news ys) (hm : m = ys.length) (hnews : ∀ j u, news[j]? = some u → W.cell? (ad.add j) = some u)
    (hF : ∀ b, F b → b < W.heap.size) (hFn : ∀ b, Fn b → b < W.heap.size ∧ ¬ F b) (hn : xs.length + ys.length ≤ 100000000)
    (hQ : ∀ v' W', E.Own (fun b => F b ∨ Fn b ∨ W.heap.size ≤ b) W' v' (xs ++ ys) → Keeps (fun b => v.ownBlock = some b) W W' → wpListIn Fe n Tryd.prog ops Q rest (a.put o.dst v') W') : wpListIn Fe n Tryd.prog ops Q (o :: rest) a W := by
  obtain ⟨v', W', h1, h2, h3⟩ := El.run_append_own T o.type h ad m c news ys Fn hown hm hnews hF hFn hn
  refine wpListIn_plain hgd fun K hK' => ?_
  unfold Oper.wpIn
  refine ⟨?_, ?_⟩
  · simp [Oper.about, ho, resolve, Target.leads, Sem.run_pure]
  · rw [Oper.semAt_plain Fe _ _ (by rw [ho]; intro c hc'; cases hc')]
    simp [execOp, ho, resolve, invoke, builtin, hs, hx, h1, Result.andThen]
    exact hK' _ _ (hQ v' W' h2 h3)
theorem Keeps.putObj_one (W : World) (D : Nat) (o : Obj) : Keeps (fun b => b = D) W (W.putObj D o) :=
  ⟨rfl, rfl, rfl, by rw [World.putObj_size]; exact Nat.le_refl _, fun b _ hb => World.putObj_heap_other hb⟩
namespace MtAt
variable {W W' : World} {b : Nat} {m : Mt}
end MtAt
namespace AllI
variable {w W W' : World} {b0 B D : Nat} {v sv : Value} {xs : List Mt} {first : Int} {p : ByteArray} {fold : Bool}
end AllI
section
variable {w : World} {a : Option Addr} {n cp : Nat} {ls : List Ln} {first : Int} {p : ByteArray}
end
end Go.Proofs.YtooiiefipdjbjaaDoor

namespace Go.Proofs.YtooiiefipdjbjaaDoor
set_option linter.unusedVariables false
set_option linter.unusedSimpArgs false
open Go.RowKit Go.Shelf
attribute [local go_sem] Oper.semAt_some

/-- Is a place before another one? -/
def befB (l c l' c' : Int) : Bool := decide (l < l') || (l == l' && decide (c < c'))
theorem befB_beh (m : Mt) (l c : Int) : befB l c m.l0 m.c0 = m.beh l c := rfl
theorem befB_ahe (m : Mt) (l c : Int) : befB m.l0 m.c0 l c = m.ahe l c := rfl
/-- What found answers. -/
def foB (ls : List Ln) (first l c : Int) : Bool := decide (l < first) || decide (l ≥ first + ls.length) || decide (c < 0) || decide (c ≥ (cols ls : Int))
def foR (ls : List Ln) (first : Int) (p : ByteArray) (l c : Int) : Int := if ckR ls first p = 0 then (if foB ls first l c then 3 else 0) else 2
theorem ckR_two (ls : List Ln) (first : Int) (p : ByteArray) : ckR ls first p = 0 ∨ ckR ls first p = 2 := by unfold ckR; split <;> simp
end Go.Proofs.YtooiiefipdjbjaaDoor
